/- My texts F13, F14, F15, F16, F17, F18, F19, F20, D3, D4, K29, W12, D5, B41, F21, F22, F23, F24, F25, F26, B42, B43, F27, B44, F31, F32, F33, R5, F34, F35, T2, B45, F37, F38, F39, joined: a claim takes at most 60 files. -/
import Derived.Test.YtopdmadgkjdgcaaGreatJ3

/- Walks of rifle: the best next check, with its memo. -/
namespace Go.Proofs.YtopdmadgkjdgcaaGreat
set_option maxRecDepth 4000
open Go Go.Eng
def stPs : List PK := [.fl [some .i64, some .i64], .ar 8 4, .ar 8 4]
abbrev ksK : Value → Prop := keyF (mixK stPs)
theorem st_key : KeyT Tryz.prog 182 ksK eqV := keyT_mix (by kernel_rfl)
theorem knV_key {k : Kn} (hk : k.Bd) : ksK (knV k) := by
  obtain ⟨klo, khi, p, f⟩ := k
  obtain ⟨p0, p1, p2, p3, p4, p5, p6, p7, rfl⟩ := lit8 hk.p8
  obtain ⟨f0, f1, f2, f3, f4, f5, f6, f7, rfl⟩ := lit8 hk.f8
  exact ⟨_, rfl, rfl⟩
theorem knV_inj {k j : Kn} (hk : k.Bd) (hj : j.Bd) (h : eqV (knV k) (knV j) = true) : k = j := by
  have h1 := st_key.eq _ _ (knV_key hk) (knV_key hj) h
  obtain ⟨klo, khi, p, f⟩ := k
  obtain ⟨p0, p1, p2, p3, p4, p5, p6, p7, rfl⟩ := lit8 hk.p8
  obtain ⟨f0, f1, f2, f3, f4, f5, f6, f7, rfl⟩ := lit8 hk.f8
  obtain ⟨jlo, jhi, p', f'⟩ := j
  obtain ⟨q0, q1, q2, q3, q4, q5, q6, q7, rfl⟩ := lit8 hj.p8
  obtain ⟨g0, g1, g2, g3, g4, g5, g6, g7, rfl⟩ := lit8 hj.f8
  injection h1 with h1
  have h2 := congrArg Array.toList h1
  simp only [knC, bools, List.map_cons, List.map_nil, List.cons_append, List.nil_append, List.cons.injEq, Value.int.injEq, Value.bool.injEq, true_and, and_true] at h2
  simp only [Kn.mk.injEq, List.cons.injEq, and_true]
  obtain ⟨rfl, rfl, rfl, rfl, rfl, rfl, rfl, rfl, rfl, rfl, rfl, rfl, rfl, rfl, rfl, rfl, rfl, rfl⟩ := h2
  simp
theorem st_map : Tryz.prog.underlying 243 = some (.map 182 204) := by kernel_rfl
abbrev pkV (z : Int × Int) : Value := .agg #[.int .i64 z.1, .int .i64 z.2]
theorem zero_pk : ZeroOf Tryz.prog 204 (pkV (0, 0)) := ⟨by kernel_rfl⟩
theorem pk_flat : flatB Tryz.prog 204 [some .i64, some .i64] = true := by kernel_rfl
/-- Each state that is noted has its best next check. -/
def GoodB (s : Sc) (f : Value → Option Value) : Prop := ∀ k : Kn, k.Fit → ∀ v, f (knV k) = some v → v = pkV (bstK s k)
theorem goodB_nil (s : Sc) : GoodB s (fun _ => none) := fun _ _ _ h => by cases h
theorem goodB_upd {s : Sc} {f : Value → Option Value} (h : GoodB s f) {k : Kn} (hk : k.Fit) : GoodB s (fun x => if eqV x (knV k) then some (pkV (bstK s k)) else f x) := fun j hj v hv => by
  dsimp only at hv
  split at hv
  · rename_i he
    obtain rfl := knV_inj hj.bd hk.bd he
    cases hv
    rfl
  · exact h j hj v hv
abbrev bstF (b1 b2 b3 : Nat) : Value := .func (.func 169) #[] #[.pointer (some ⟨b1, 0, none⟩), .pointer (some ⟨b2, 0, none⟩), .pointer (some ⟨b3, 0, none⟩)]
abbrev mpB (bm : Nat) (f : Value → Option Value) : Ck := mpP ksK eqV bm f
/-- The planner's variables. -/
structure PnE (w : World) (bm b1 b2 b3 bd : Nat) (s : Sc) (tv rv : Value) (k0 : Kn) : Prop where
  h1 : ∃ t, Blk w b1 [.map (some bm)] t
  h2 : ∃ t, Blk w b2 [.pointer (some ⟨bd, 0, none⟩)] t
  h3 : ∃ t, Blk w b3 [bstF b1 b2 b3] t
  hd : Blk w bd (dskC s tv rv k0) 184
theorem PnE.mapC {w w' : World} {b : Nat} {K : Value → Prop} {q : Value → Value → Bool} {f : Value → Option Value} {bm b1 b2 b3 bd : Nat} {s : Sc} {tv rv : Value} {k0 : Kn} (h : PnE w bm b1 b2 b3 bd s tv rv k0) (hm : MapAt w b K q f) (c : ChgP (· = b) w w') : PnE w' bm b1 b2 b3 bd s tv rv k0 :=
  ⟨h.h1.imp fun _ h => Blk.mapC h hm c, h.h2.imp fun _ h => Blk.mapC h hm c, h.h3.imp fun _ h => Blk.mapC h hm c, Blk.mapC h.hd hm c⟩
theorem Rd.mapC {w w' : World} {b : Nat} {K : Value → Prop} {q : Value → Value → Bool} {f : Value → Option Value} {lo hi : Nat} {v : Value} {size n : Nat} {cs : List Value} (h : Rd w lo hi v size n cs) (hm : MapAt w b K q f) (c : ChgP (· = b) w w') : Rd w' lo hi v size n cs := by
  obtain ⟨es, clock, hb1, _⟩ := hm
  obtain ⟨h1, h2⟩ := h
  refine ⟨h1, ?_⟩
  rcases h2 with h2 | ⟨x, off, cap, hv, hb, hc⟩
  · exact .inl h2
  · refine .inr ⟨x, off, cap, hv, fun hp => ⟨(hb hp).1, (hb hp).2.1, Nat.lt_of_lt_of_le (hb hp).2.2 c.size⟩, fun j hj => ?_⟩
    have hb' := hb (by omega)
    have hc' := hc j hj
    have hne : ¬ x = b := by
      rintro rfl
      rw [List.getElem?_eq_getElem hj] at hc'
      simp [World.cell?, hb1] at hc'
    rw [← hc']
    exact World.cell?_of_block (w := w) (c.block x hb'.2.2 hne)
theorem ScR.mapC {w w' : World} {b : Nat} {K : Value → Prop} {q : Value → Value → Bool} {f : Value → Option Value} {lo hi : Nat} {tv rv : Value} {s : Sc} (h : ScR w lo hi tv rv s) (hm : MapAt w b K q f) (c : ChgP (· = b) w w') : ScR w' lo hi tv rv s :=
  ⟨⟨Rd.mapC h.t.rd hm c, h.t.sz⟩, ⟨Rd.mapC h.r.rd hm c, h.r.sz⟩⟩
theorem afterV_open {s : Sc} {k : Kn} {i : Nat} (hk : k.Fit) (ho : openK s k i = true) : afterV s k i true = (passK s k i, true) ∧ afterV s k i false = (failK s k i, true) := by
  have hf := (open_iff.1 ho).1
  constructor
  · unfold afterV
    rw [if_neg (by rw [hf]; simp), if_pos rfl, decide_eq_true (passK_fit hk ho).le]
    rfl
  · unfold afterV
    rw [if_neg (by rw [hf]; simp), if_neg (by simp), decide_eq_true (failK_fit hk ho).le]
    rfl
theorem dep_8 {s : Sc} (h8 : s.rifles.length ≤ 8) {k : Kn} (hk : k.Fit) : 0 ≤ depV s k ∧ depV s k ≤ 8 := by
  have h1 := dep_open h8 _ k rfl hk
  have h2 := openL_len s k
  have h3 := dep_nn s k
  omega
def tF13_d35aed8 : OT := .alt (chainT [10, 11, 12, 13, 14] (.nil)) (chainT [13, 10, 11, 12, 14] (.nil))
def tF13_0b6f6fa : OT := .alt (chainT [9] (tF13_d35aed8)) (chainT [13, 9, 10, 11, 12, 14] (.nil))
def tF13_59abf1e : OT := .alt (chainT [5, 6, 7, 8, 0] (tF13_0b6f6fa)) (chainT [13, 5, 6, 7, 8, 0, 9, 10, 11, 12, 14] (.nil))
def tF13_298e05f : OT := .alt (chainT [1, 2, 3, 4] (tF13_59abf1e)) (chainT [13, 1, 2, 3, 4, 5, 6, 7, 8, 0, 9, 10, 11, 12, 14] (.nil))
set_option maxHeartbeats 8000000 in
theorem best_ca (lo hi bm b1 b2 b3 bd : Nat) (s : Sc) (tv rv : Value) (k0 : Kn) (hs0 : s.Ok) : ∀ (n : Nat) (k : Kn) (w : World) (f : Value → Option Value), cntK s k = n → k.Fit → ScR w lo hi tv rv s → PnE w bm b1 b2 b3 bd s tv rv k0 → MapAt w bm ksK eqV f → GoodB s f →
    Ca Tryz.prog 169 [knV k, .pointer (some ⟨b1, 0, none⟩), .pointer (some ⟨b2, 0, none⟩), .pointer (some ⟨b3, 0, none⟩)] w fun v w' => ∃ g, (v = pkV (bstK s k) ∧ GoodB s g) ∧ Sat w (· = bm) [mpB bm g] w' := by
  have h8 := hs0.rn8
  intro n
  induction n using Nat.strongRecOn with
  | ind n ih =>
  intro k w f hcn hk h hE hm hg
  have hkb := hk.bd
  obtain ⟨t1, hb1⟩ := hE.h1
  obtain ⟨t2, hb2⟩ := hE.h2
  obtain ⟨t3, hb3⟩ := hE.h3
  have hb1 := fun w' (c : ChgP (· = bm) w w') => Blk.mapC hb1 hm c
  have hb2 := fun w' (c : ChgP (· = bm) w w') => Blk.mapC hb2 hm c
  have hb3 := fun w' (c : ChgP (· = bm) w w') => Blk.mapC hb3 hm c
  refine q_ofM (H := [mpB bm f]) (map_sat hm) Tryz.func169 rfl (by simp [Tryz.ntmps169]) ?_
  (refine q_seq (q_region ?_))
  refine ql_box rfl rfl (fun b4 => ?_)
  rw [agg_cells]
  skip
  refine ql_alloc zero204 rfl (fun b5 => ?_)
  (refine q_nil (q_seq (q_seq (q_region ?_))); refine ql_loadG tabOk rfl rfl rfl (by assumption) (by rfl) ?_)
  refine ql_loadA (cs := knC k) tabOk rfl rfl rfl (knC_len hkb) (fun w hs q hq => by rw [(hs.blk (b := b4) (by repeat constructor)).cell, Nat.zero_add]) ?_
  refine ql_look2 st_key st_map zero_pk rfl rfl rfl (by repeat constructor) (knV_key hkb) ?_
  cases hf : f (knV k) with
  | some v =>
    obtain rfl := hg k hk v hf
    (refine ql_pure tabOk rfl rfl (ql_ext tabOk rfl rfl rfl (ql_ext tabOk rfl rfl rfl ?_)))
    refine ql_alloc zero204 rfl (fun b6 => ?_)
    (refine ql_setA tabOk rfl rfl rfl rfl rfl (by repeat constructor) rfl ?_; refine ql_pure tabOk rfl rfl (q_nil (q_seq (q_region (ql_pure tabOk rfl rfl (q_nil (q_cond_true rfl (q_seq (q_region ?_)))))))); refine ql_loadABa tabOk rfl rfl rfl ?_; refine ql_setA tabOk rfl rfl rfl rfl rfl (by repeat constructor) rfl ?_; refine q_nil (q_ret ?_))
    refine q_finM tabOk rfl (by repeat constructor) fun w hs => ?_
    exact ⟨f, ⟨rfl, hg⟩, hs.sp (by repeat constructor)⟩
  | none =>
    (refine ql_pure tabOk rfl rfl (ql_ext tabOk rfl rfl rfl (ql_ext tabOk rfl rfl rfl ?_)))
    refine ql_alloc zero204 rfl (fun b6 => ?_)
    (refine ql_setA tabOk rfl rfl rfl rfl rfl (by repeat constructor) rfl ?_; refine ql_pure tabOk rfl rfl (q_nil (q_seq (q_region (ql_pure tabOk rfl rfl (q_nil (q_cond_false rfl (q_skip (q_seq (q_region ?_))))))))))
    refine ql_alloc zero204 rfl (fun b8 => ?_)
    (refine q_nil (q_seq (q_seq (q_region ?_))); refine ql_loadG tabOk rfl rfl rfl (by assumption) (by rfl) ?_)
    refine ql_loadA (cs := knC k) tabOk rfl rfl rfl (knC_len hkb) (fun w hs q hq => by rw [(hs.blk (b := b4) (by repeat constructor)).cell, Nat.zero_add]) ?_
    refine ql_call (β := Nat × Nat) (ψ := fun y v => v = openF y.1 y.2) (L' := fun y => [.pt y.1 [.pointer (some ⟨bd, 0, none⟩)] 177, .pt y.2 (knC k) 182]) tabOk [] _ M0 rfl rfl rfl rfl (Sp.refl _) (fun _ h => h.elim) (fun w' hs => open_ca w' bd k) ?_
    rintro ⟨o1, o2⟩ _ rfl
    dsimp only [List.cons_append, List.nil_append]
    (refine q_nil (q_block ?_))
    refine q_range natE ((Value → Option Value) × (Int × Int)) (openL s k) (fun pre z => z.2 = pre.foldl (pickS (depV s) s k) (0, 0) ∧ GoodB s z.1) (fun _ _ => False) (fun z => [mpB bm z.1, .pt b8 [.int .i64 z.2.1, .int .i64 z.2.2] 204]) [.pt o1 [.pointer (some ⟨bd, 0, none⟩)] 177, .pt o2 (knC k) 182, .pt b4 (knC k) 182, .pt b5 [.int .i64 0, .int .i64 0] 204] (f, (0, 0))
      rfl (by kernel_rfl) rfl (fun _ _ => rfl) ⟨rfl, hg⟩ (by repeat constructor) ?_ ?_ ?_ (fun _ _ _ h => h.elim)
    · intro w1 D hs hD
      have hup : ∀ w', ChgP D w1 w' → ChgP (· = bm) w w' := fun w' hc => hs.chg.upP hc fun k hk => (hD k hk).2
      have hE1 := hE.mapC hm hs.chg
      have hnd : ¬ D bd := fun e => by
        rcases (hD bd e).2 with e2 | e2
        · obtain ⟨es, cl, h1, _⟩ := hm
          have h2 := hE.hd
          rw [e2] at h2
          unfold Blk at h2
          rw [h2] at h1
          cases h1
        · have := hE.hd.lt
          omega
      exact open_it w1 D lo hi o1 o2 bd s tv rv k0 k (fun w' hc => h.mapC hm (hup w' hc)) hs0 hkb (hs.blk (b := o1) (by repeat constructor)) (hs.blk (b := o2) (by repeat constructor)) hE1.hd ⟨fun e => (hD _ e).1 ⟨.pt o1 _ _, (by repeat constructor), rfl⟩, fun e => (hD _ e).1 ⟨.pt o2 _ _, (by repeat constructor), rfl⟩, hnd⟩
    · intro pre x post z w1 lb rdy bsy K F' hx hI hsat hR hbegin hend hret hexit
      obtain ⟨z1, out⟩ := z
      obtain ⟨hout, hgz⟩ := hI
      dsimp only at hout hgz
      have hxm : x ∈ openL s k := by rw [hx]; simp
      obtain ⟨hx1, hxo⟩ := openL_mem.1 hxm
      have hfr := (open_iff.1 hxo).1
      have c1 := cnt_pass hk h8 hx1 hfr
      have c2 := cnt_fail hk h8 hx1 hfr
      have fp := passK_fit hk hxo
      have ff := failK_fit hk hxo
      have dp := dep_8 h8 fp
      have df := dep_8 h8 ff
      have hW : ∀ w', ChgP (DL (rdy :: [mpB bm z1, .pt b8 [.int .i64 out.1, .int .i64 out.2] 204])) w1 w' → ChgP (· = bm) w w' := fun w' hc => (hR w' hc).chg
      have hb1' := fun w' hc => hb1 w' (hW w' hc)
      have hb2' := fun w' hc => hb2 w' (hW w' hc)
      have hb3' := fun w' hc => hb3 w' (hW w' hc)
      have hb4' := fun w' hc => (hR w' hc).blk (b := b4) (by repeat constructor)
      dsimp only [natE, List.zip_cons_cons, List.zip_nil_left, List.zip_nil_right, List.foldl_cons, List.foldl_nil]
      (refine q_region (ql_pure tabOk rfl rfl (q_nil ?_)))
      refine hbegin _ _ ?_
      (refine q_block (q_seq (q_region ?_)); refine ql_loadG tabOk rfl rfl rfl (by assumption) (by rfl) ?_)
      refine ql_loadA (cs := knC k) tabOk rfl rfl rfl (knC_len hkb) (fun w hs q hq => by rw [(hb4' _ hs.chg).cell, Nat.zero_add]) ?_
      (refine ql_pure tabOk rfl rfl ?_)
      refine ql_callv (val := .tuple #[knV (passK s k x), .bool true]) tabOk rfl rfl rfl rfl (fun w hs => ?_) ?_; exact by have := after_ca w lo hi bd s tv rv k0 k (h.mapC hm (hW _ hs.chg)) ((hE.mapC hm (hW _ hs.chg)).hd) hs0 hkb x hx1 true; rw [(afterV_open hk hxo).1] at this; exact this
      (refine ql_pure tabOk rfl rfl (ql_ext tabOk rfl rfl rfl (ql_ext tabOk rfl rfl rfl ?_)))
      refine ql_alloc zero182 rfl (fun b10 => ?_)
      skip
      refine ql_setA (us := knC (passK s k x)) tabOk rfl rfl rfl (knC_len fp.bd) (knC_one _) (by repeat constructor) rfl ?_
      (refine ql_pure tabOk rfl rfl (q_nil (q_seq (q_region ?_))); refine ql_loadG tabOk rfl rfl rfl (by assumption) (by rfl) ?_)
      refine ql_loadA (cs := knC k) tabOk rfl rfl rfl (knC_len hkb) (fun w hs q hq => by rw [(hb4' _ hs.chg).cell, Nat.zero_add]) ?_
      (refine ql_pure tabOk rfl rfl ?_)
      refine ql_callv (val := .tuple #[knV (failK s k x), .bool true]) tabOk rfl rfl rfl rfl (fun w hs => ?_) ?_; exact by have := after_ca w lo hi bd s tv rv k0 k (h.mapC hm (hW _ hs.chg)) ((hE.mapC hm (hW _ hs.chg)).hd) hs0 hkb x hx1 false; rw [(afterV_open hk hxo).2] at this; exact this
      (refine ql_pure tabOk rfl rfl (ql_ext tabOk rfl rfl rfl (ql_ext tabOk rfl rfl rfl ?_)))
      refine ql_alloc zero182 rfl (fun b12 => ?_)
      skip
      refine ql_setA (us := knC (failK s k x)) tabOk rfl rfl rfl (knC_len ff.bd) (knC_one _) (by repeat constructor) rfl ?_
      (refine ql_pure tabOk rfl rfl (q_nil (q_seq ?_)))
      have dpd : ∀ j, (bstK s j).2 = depV s j := fun _ => rfl
      refine q_cut (σ := { y : (Value → Option Value) × Nat // GoodB s y.1 }) (fun y => [(8, .pointer (some ⟨b8, 0, none⟩)), (14, .pointer (some ⟨y.1.2, 0, none⟩))]) (fun y => [bsy, .pt y.1.2 [.int .i64 x, .int .i64 (1 + max (depV s (passK s k x)) (depV s (failK s k x)))] 204, mpB bm y.1.1, .pt b8 [.int .i64 out.1, .int .i64 out.2] 204]) ?_ ?_
      rotate_left
      · intro K2 hK2
        refine q_drawT (tF13_298e05f) _ [mpB bm z1] (Sp.cons (by repeat constructor) (Sp.refl _)) (by kernel_rfl) (by kernel_rfl) ?_
        refine qt_alt ?_ ?_
        · skip
          refine qt_seg (by repeat (first | exact PickL.nil | (apply PickL.cons; rfl))) fun K1 hK1 => ?_
          (refine qf_loadG tabOk rfl rfl rfl (by assumption) (by rfl) ?_)
          refine qf_loadA (cs := knC (passK s k x)) tabOk rfl rfl rfl (knC_len fp.bd) (fun w hs q hq => by rw [(hs.blk (b := b10) (by repeat constructor)).cell, Nat.zero_add]) ?_
          skip
          refine qf_callF (β := Value → Option Value) (ψ := fun g v => v = pkV (bstK s (passK s k x)) ∧ GoodB s g) (L' := fun g => [mpB bm g]) [mpB bm z1] _ (· = bm) rfl rfl rfl (Sp.cons (by repeat constructor) (Sp.refl _)) (fun x hx => ⟨_, .head _, hx⟩) (fun w' hs => CaF.of tabOk rfl (ih _ (by omega) (passK s k x) w' z1 rfl fp (h.mapC hm (hW _ hs.chg)) (hE.mapC hm (hW _ hs.chg)) (hs.mem (c := mpB bm z1) (by repeat constructor)) hgz)) ?_
          clear hgz
          rintro z1 v ⟨rfl, hgz⟩
          skip
          refine qf_fld tabOk 1 3 (by kernel_rfl) rfl rfl rfl rfl ?_
          (refine qf_nil ?_)
          refine hK1 _ _ ?_
          refine qt_alt ?_ ?_
          · skip
            refine qt_seg (by repeat (first | exact PickL.nil | (apply PickL.cons; rfl))) fun K1 hK1 => ?_
            (refine qf_loadG tabOk rfl rfl rfl (by assumption) (by rfl) ?_)
            refine qf_loadA (cs := knC (failK s k x)) tabOk rfl rfl rfl (knC_len ff.bd) (fun w hs q hq => by rw [(hs.blk (b := b12) (by repeat constructor)).cell, Nat.zero_add]) ?_
            skip
            refine qf_callF (β := Value → Option Value) (ψ := fun g v => v = pkV (bstK s (failK s k x)) ∧ GoodB s g) (L' := fun g => [mpB bm g]) [mpB bm z1] _ (· = bm) rfl rfl rfl (Sp.cons (by repeat constructor) (Sp.refl _)) (fun x hx => ⟨_, .head _, hx⟩) (fun w' hs => CaF.of tabOk rfl (ih _ (by omega) (failK s k x) w' z1 rfl ff (h.mapC hm (hW _ hs.chg)) (hE.mapC hm (hW _ hs.chg)) (hs.mem (c := mpB bm z1) (by repeat constructor)) hgz)) ?_
            clear hgz
            rintro z1 v ⟨rfl, hgz⟩
            skip
            refine qf_fld tabOk 1 3 (by kernel_rfl) rfl rfl rfl rfl ?_
            (refine qf_pure tabOk rfl rfl rfl (qf_nil ?_))
            refine hK1 _ _ ?_
            refine qt_alt ?_ ?_
            · skip
              refine qt_seg (by repeat (first | exact PickL.nil | (apply PickL.cons; rfl))) fun K1 hK1 => ?_
              skip
              refine qf_mkS 3 [.int .i64 (depV s (failK s k x))] rfl (by kernel_rfl) rfl (fun bn => ?_)
              (refine qf_nil ?_)
              refine hK1 _ _ ?_
              refine qt_alt ?_ ?_
              · skip
                refine qt_seg (by repeat (first | exact PickL.nil | (apply PickL.cons; rfl))) fun K1 hK1 => ?_
                skip
                refine qf_callv tabOk rfl rfl rfl rfl (fun w' hs => great_ca w' _ _ (depV s (passK s k x)) _ [depV s (failK s k x)] (Blk.rdI (c := 1) (hs.blk (b := bn) (cs := ints [depV s (failK s k x)]) (by repeat constructor))) (by simp)) ?_
                rw [show mxF (depV s (passK s k x)) [depV s (failK s k x)] = max (depV s (passK s k x)) (depV s (failK s k x)) from rfl]
                (refine qf_ar tabOk rfl rfl rfl rfl (by omega) (by omega) ?_)
                refine qf_mk #[.int .i64 x, .int .i64 (1 + max (depV s (passK s k x)) (depV s (failK s k x)))] rfl (by kernel_rfl) rfl ?_
                skip
                refine qf_alloc zero204 rfl (fun b14 => ?_)
                (refine qf_setA tabOk rfl rfl rfl rfl rfl (by repeat constructor) rfl ?_; refine qf_nil ?_)
                skip
                skip
                exact hK1 _ _ (qt_nil (hK2 ⟨(z1, b14), hgz⟩ _ _ ⟨rfl, rfl, trivial⟩ (by repeat constructor)))
              · skip
                refine qt_seg (by repeat (first | exact PickL.nil | (apply PickL.cons; rfl))) fun K1 hK1 => ?_
                skip
                refine qf_alloc zero204 rfl (fun b14 => ?_)
                skip
                refine qf_callv tabOk rfl rfl rfl rfl (fun w' hs => great_ca w' _ _ (depV s (passK s k x)) _ [depV s (failK s k x)] (Blk.rdI (c := 1) (hs.blk (b := bn) (cs := ints [depV s (failK s k x)]) (by repeat constructor))) (by simp)) ?_
                rw [show mxF (depV s (passK s k x)) [depV s (failK s k x)] = max (depV s (passK s k x)) (depV s (failK s k x)) from rfl]
                (refine qf_ar tabOk rfl rfl rfl rfl (by omega) (by omega) ?_)
                refine qf_mk #[.int .i64 x, .int .i64 (1 + max (depV s (passK s k x)) (depV s (failK s k x)))] rfl (by kernel_rfl) rfl ?_
                (refine qf_setA tabOk rfl rfl rfl rfl rfl (by repeat constructor) rfl ?_; refine qf_nil ?_)
                skip
                skip
                exact hK1 _ _ (qt_nil (hK2 ⟨(z1, b14), hgz⟩ _ _ ⟨rfl, rfl, trivial⟩ (by repeat constructor)))
            · skip
              refine qt_seg (by repeat (first | exact PickL.nil | (apply PickL.cons; rfl))) fun K1 hK1 => ?_
              skip
              refine qf_alloc zero204 rfl (fun b14 => ?_)
              skip
              refine qf_mkS 3 [.int .i64 (depV s (failK s k x))] rfl (by kernel_rfl) rfl (fun bn => ?_)
              skip
              refine qf_callv tabOk rfl rfl rfl rfl (fun w' hs => great_ca w' _ _ (depV s (passK s k x)) _ [depV s (failK s k x)] (Blk.rdI (c := 1) (hs.blk (b := bn) (cs := ints [depV s (failK s k x)]) (by repeat constructor))) (by simp)) ?_
              rw [show mxF (depV s (passK s k x)) [depV s (failK s k x)] = max (depV s (passK s k x)) (depV s (failK s k x)) from rfl]
              (refine qf_ar tabOk rfl rfl rfl rfl (by omega) (by omega) ?_)
              refine qf_mk #[.int .i64 x, .int .i64 (1 + max (depV s (passK s k x)) (depV s (failK s k x)))] rfl (by kernel_rfl) rfl ?_
              (refine qf_setA tabOk rfl rfl rfl rfl rfl (by repeat constructor) rfl ?_; refine qf_nil ?_)
              skip
              skip
              exact hK1 _ _ (qt_nil (hK2 ⟨(z1, b14), hgz⟩ _ _ ⟨rfl, rfl, trivial⟩ (by repeat constructor)))
          · skip
            refine qt_seg (by repeat (first | exact PickL.nil | (apply PickL.cons; rfl))) fun K1 hK1 => ?_
            skip
            refine qf_alloc zero204 rfl (fun b14 => ?_)
            (refine qf_loadG tabOk rfl rfl rfl (by assumption) (by rfl) ?_)
            refine qf_loadA (cs := knC (failK s k x)) tabOk rfl rfl rfl (knC_len ff.bd) (fun w hs q hq => by rw [(hs.blk (b := b12) (by repeat constructor)).cell, Nat.zero_add]) ?_
            skip
            refine qf_callF (β := Value → Option Value) (ψ := fun g v => v = pkV (bstK s (failK s k x)) ∧ GoodB s g) (L' := fun g => [mpB bm g]) [mpB bm z1] _ (· = bm) rfl rfl rfl (Sp.cons (by repeat constructor) (Sp.refl _)) (fun x hx => ⟨_, .head _, hx⟩) (fun w' hs => CaF.of tabOk rfl (ih _ (by omega) (failK s k x) w' z1 rfl ff (h.mapC hm (hW _ hs.chg)) (hE.mapC hm (hW _ hs.chg)) (hs.mem (c := mpB bm z1) (by repeat constructor)) hgz)) ?_
            clear hgz
            rintro z1 v ⟨rfl, hgz⟩
            skip
            refine qf_fld tabOk 1 3 (by kernel_rfl) rfl rfl rfl rfl ?_
            (refine qf_pure tabOk rfl rfl rfl ?_)
            refine qf_mkS 3 [.int .i64 (depV s (failK s k x))] rfl (by kernel_rfl) rfl (fun bn => ?_)
            skip
            refine qf_callv tabOk rfl rfl rfl rfl (fun w' hs => great_ca w' _ _ (depV s (passK s k x)) _ [depV s (failK s k x)] (Blk.rdI (c := 1) (hs.blk (b := bn) (cs := ints [depV s (failK s k x)]) (by repeat constructor))) (by simp)) ?_
            rw [show mxF (depV s (passK s k x)) [depV s (failK s k x)] = max (depV s (passK s k x)) (depV s (failK s k x)) from rfl]
            (refine qf_ar tabOk rfl rfl rfl rfl (by omega) (by omega) ?_)
            refine qf_mk #[.int .i64 x, .int .i64 (1 + max (depV s (passK s k x)) (depV s (failK s k x)))] rfl (by kernel_rfl) rfl ?_
            (refine qf_setA tabOk rfl rfl rfl rfl rfl (by repeat constructor) rfl ?_; refine qf_nil ?_)
            skip
            skip
            exact hK1 _ _ (qt_nil (hK2 ⟨(z1, b14), hgz⟩ _ _ ⟨rfl, rfl, trivial⟩ (by repeat constructor)))
        · skip
          refine qt_seg (by repeat (first | exact PickL.nil | (apply PickL.cons; rfl))) fun K1 hK1 => ?_
          skip
          refine qf_alloc zero204 rfl (fun b14 => ?_)
          (refine qf_loadG tabOk rfl rfl rfl (by assumption) (by rfl) ?_)
          refine qf_loadA (cs := knC (passK s k x)) tabOk rfl rfl rfl (knC_len fp.bd) (fun w hs q hq => by rw [(hs.blk (b := b10) (by repeat constructor)).cell, Nat.zero_add]) ?_
          skip
          refine qf_callF (β := Value → Option Value) (ψ := fun g v => v = pkV (bstK s (passK s k x)) ∧ GoodB s g) (L' := fun g => [mpB bm g]) [mpB bm z1] _ (· = bm) rfl rfl rfl (Sp.cons (by repeat constructor) (Sp.refl _)) (fun x hx => ⟨_, .head _, hx⟩) (fun w' hs => CaF.of tabOk rfl (ih _ (by omega) (passK s k x) w' z1 rfl fp (h.mapC hm (hW _ hs.chg)) (hE.mapC hm (hW _ hs.chg)) (hs.mem (c := mpB bm z1) (by repeat constructor)) hgz)) ?_
          clear hgz
          rintro z1 v ⟨rfl, hgz⟩
          skip
          refine qf_fld tabOk 1 3 (by kernel_rfl) rfl rfl rfl rfl ?_
          (refine qf_loadG tabOk rfl rfl rfl (by assumption) (by rfl) ?_)
          refine qf_loadA (cs := knC (failK s k x)) tabOk rfl rfl rfl (knC_len ff.bd) (fun w hs q hq => by rw [(hs.blk (b := b12) (by repeat constructor)).cell, Nat.zero_add]) ?_
          skip
          refine qf_callF (β := Value → Option Value) (ψ := fun g v => v = pkV (bstK s (failK s k x)) ∧ GoodB s g) (L' := fun g => [mpB bm g]) [mpB bm z1] _ (· = bm) rfl rfl rfl (Sp.cons (by repeat constructor) (Sp.refl _)) (fun x hx => ⟨_, .head _, hx⟩) (fun w' hs => CaF.of tabOk rfl (ih _ (by omega) (failK s k x) w' z1 rfl ff (h.mapC hm (hW _ hs.chg)) (hE.mapC hm (hW _ hs.chg)) (hs.mem (c := mpB bm z1) (by repeat constructor)) hgz)) ?_
          clear hgz
          rintro z1 v ⟨rfl, hgz⟩
          skip
          refine qf_fld tabOk 1 3 (by kernel_rfl) rfl rfl rfl rfl ?_
          (refine qf_pure tabOk rfl rfl rfl ?_)
          refine qf_mkS 3 [.int .i64 (depV s (failK s k x))] rfl (by kernel_rfl) rfl (fun bn => ?_)
          skip
          refine qf_callv tabOk rfl rfl rfl rfl (fun w' hs => great_ca w' _ _ (depV s (passK s k x)) _ [depV s (failK s k x)] (Blk.rdI (c := 1) (hs.blk (b := bn) (cs := ints [depV s (failK s k x)]) (by repeat constructor))) (by simp)) ?_
          rw [show mxF (depV s (passK s k x)) [depV s (failK s k x)] = max (depV s (passK s k x)) (depV s (failK s k x)) from rfl]
          (refine qf_ar tabOk rfl rfl rfl rfl (by omega) (by omega) ?_)
          refine qf_mk #[.int .i64 x, .int .i64 (1 + max (depV s (passK s k x)) (depV s (failK s k x)))] rfl (by kernel_rfl) rfl ?_
          (refine qf_setA tabOk rfl rfl rfl rfl rfl (by repeat constructor) rfl ?_; refine qf_nil ?_)
          skip
          skip
          exact hK1 _ _ (qt_nil (hK2 ⟨(z1, b14), hgz⟩ _ _ ⟨rfl, rfl, trivial⟩ (by repeat constructor)))
      rintro ⟨⟨z1, b14⟩, hgz⟩
      dsimp only at hgz ⊢
      (refine q_seq (q_region ?_); refine ql_loadABa tabOk rfl rfl rfl ?_)
      refine ql_mk #[.int .i64 0, .int .i64 0] rfl (by kernel_rfl) rfl ?_
      skip
      refine ql_eqF [some .i64, some .i64] pk_flat rfl rfl rfl rfl rfl ?_
      (refine ql_pure tabOk rfl rfl ?_)
      have e0 : eqL (List.take 2 (List.drop 0 [Value.int .i64 out.1, Value.int .i64 out.2])) [Value.int .i64 0, Value.int .i64 0] = decide (out = (0, 0)) := by
        obtain ⟨u1, u2⟩ := out
        simp [eqL, Prod.ext_iff]
      rw [e0]
      have hps : pickS (depV s) s k out x = if out = (0, 0) ∨ 1 + max (depV s (passK s k x)) (depV s (failK s k x)) < out.2 then ((x : Int), 1 + max (depV s (passK s k x)) (depV s (failK s k x))) else out := rfl
      have hfl : ∀ z : Int × Int, pickS (depV s) s k out x = z → (pre ++ [x]).foldl (pickS (depV s) s k) (0, 0) = z := fun z hz => by
        rw [List.foldl_append, ← hout]
        exact hz
      cases hz : decide (out = (0, 0)) with
      | true =>
        have hz := of_decide_eq_true hz
        rw [if_pos (.inl hz)] at hps
        ((iterate 5 refine ql_gno rfl rfl rfl ?_); refine ql_pure tabOk rfl rfl (q_nil (q_cond_true rfl (q_region ?_))); refine ql_loadABa tabOk rfl rfl rfl ?_; refine ql_setA tabOk rfl rfl rfl rfl rfl (by repeat constructor) rfl ?_; refine q_nil (q_blk ?_))
        exact hend _ _ (z1, ((x : Int), 1 + max (depV s (passK s k x)) (depV s (failK s k x)))) ⟨(hfl _ hps).symm, hgz⟩ (by repeat constructor)
      | false =>
        have hz := of_decide_eq_false hz
        by_cases hl : 1 + max (depV s (passK s k x)) (depV s (failK s k x)) < out.2
        · rw [if_pos (.inr hl)] at hps
          (refine ql_gyes rfl (ql_pure tabOk rfl rfl (ql_gyes rfl ?_)); refine ql_loadBa tabOk rfl rfl rfl ?_; refine ql_gyes rfl (ql_pure tabOk rfl rfl (ql_gyes rfl ?_)); refine ql_loadBa tabOk rfl rfl rfl ?_; refine ql_gyes rfl (ql_lssT tabOk rfl rfl rfl (by omega) (ql_pure tabOk rfl rfl (q_nil (q_cond_true rfl (q_region ?_))))); refine ql_loadABa tabOk rfl rfl rfl ?_; refine ql_setA tabOk rfl rfl rfl rfl rfl (by repeat constructor) rfl ?_; refine q_nil (q_blk ?_))
          exact hend _ _ (z1, ((x : Int), 1 + max (depV s (passK s k x)) (depV s (failK s k x)))) ⟨(hfl _ hps).symm, hgz⟩ (by repeat constructor)
        · rw [if_neg (by rintro (h | h); exact hz h; exact hl h)] at hps
          (refine ql_gyes rfl (ql_pure tabOk rfl rfl (ql_gyes rfl ?_)); refine ql_loadBa tabOk rfl rfl rfl ?_; refine ql_gyes rfl (ql_pure tabOk rfl rfl (ql_gyes rfl ?_)); refine ql_loadBa tabOk rfl rfl rfl ?_; refine ql_gyes rfl (ql_lssF tabOk rfl rfl rfl (by omega) (ql_pure tabOk rfl rfl (q_nil (q_cond_false rfl (q_skip (q_blk ?_)))))))
          exact hend _ _ (z1, out) ⟨(hfl _ hps).symm, hgz⟩ (by repeat constructor)
    · rintro D ⟨z1, out⟩ ⟨hout, hgz⟩
      dsimp only [List.cons_append, List.nil_append] at hout hgz ⊢
      rw [← bstK_eq h8 hk] at hout
      subst hout
      (refine q_blk (q_seq (q_region ?_)); refine ql_loadG tabOk rfl rfl rfl (by assumption) (by rfl) ?_)
      refine ql_loadA (cs := knC k) tabOk rfl rfl rfl (knC_len hkb) (fun w hs q hq => by rw [(hs.blk (b := b4) (by repeat constructor)).cell, Nat.zero_add]) ?_
      (refine ql_loadABa tabOk rfl rfl rfl ?_)
      refine ql_mapUpd st_key st_map rfl rfl rfl (knV_key hkb) (by repeat constructor) ?_
      (refine q_nil (q_seq (q_region ?_)); refine ql_loadABa tabOk rfl rfl rfl ?_; refine ql_setA tabOk rfl rfl rfl rfl rfl (by repeat constructor) rfl ?_; refine q_nil (q_ret ?_))
      refine q_finMD tabOk (by repeat constructor) rfl (by repeat constructor) fun w hs => ?_
      exact ⟨_, ⟨rfl, goodB_upd hgz hk⟩, hs.sp (by repeat constructor)⟩
end Go.Proofs.YtopdmadgkjdgcaaGreat

/- Walks of rifle: the planner, the fewest further checks. -/
namespace Go.Proofs.YtopdmadgkjdgcaaGreat
set_option maxRecDepth 4000
open Go Go.Eng
/-- What the planner lays. -/
abbrev plnL (bd : Nat) (y : Nat × Nat × Nat × Nat) : List Ck := [mpB y.1 (fun _ => none), .pt y.2.1 [.map (some y.1)] 243, .pt y.2.2.1 [.pointer (some ⟨bd, 0, none⟩)] 177, .pt y.2.2.2 [bstF y.2.1 y.2.2.1 y.2.2.2] 205]
theorem rplanner_ca (w : World) (bd : Nat) : Ca Tryz.prog 128 [.pointer (some ⟨bd, 0, none⟩)] w fun x w' => ∃ y : Nat × Nat × Nat × Nat, x = bstF y.2.1 y.2.2.1 y.2.2.2 ∧ Sat w M0 (plnL bd y) w' := by
  refine q_of (Sat.nil w M0) Tryz.func128 rfl (by simp [Tryz.ntmps128]) ?_
  (refine q_seq (q_region ?_))
  refine ql_box rfl rfl (fun b2 => ?_)
  (refine ql_pure tabOk rfl rfl (q_nil (q_seq (q_region ?_))))
  refine ql_makeMap ksK eqV rfl (fun bm => ?_)
  skip
  refine ql_alloc zero243 rfl (fun b1 => ?_)
  (refine ql_set tabOk rfl rfl rfl rfl (by repeat constructor) ?_; refine q_nil (q_seq (q_region ?_)))
  refine ql_alloc zero205 rfl (fun b3 => ?_)
  (refine q_nil (q_seq (q_region (ql_pure tabOk rfl rfl ?_))); refine ql_set tabOk rfl rfl rfl rfl (by repeat constructor) ?_; refine q_nil (q_seq (q_region ?_)); refine ql_loadBa tabOk rfl rfl rfl ?_; refine ql_pure tabOk rfl rfl (q_nil (q_ret ?_)))
  refine q_fin tabOk rfl (by repeat constructor) fun w hs => ?_
  exact ⟨(bm, b1, b2, b3), rfl, hs.sp (by repeat constructor)⟩
theorem dsk_take (s : Sc) (tv rv : Value) : List.take 18 (List.drop (0 + 4) (Value.int .i64 s.err :: .int .i64 s.least :: tv :: rv :: knC (firstK s))) = knC (firstK s) := rfl
theorem rfewest_no (w : World) (lo hi : Nat) (s : Sc) (tv rv : Value) (h : ScR w lo hi tv rv s) (hl1 : s.tests.length ≤ maxLen) (hl2 : s.rifles.length ≤ maxLen) (h0 : chkO s ≠ 0) : Ca Tryz.prog 52 [.agg (scC s tv rv).toArray] w fun x w' => x = .tuple #[.int .i64 0, .int .i64 (chkO s)] ∧ Chg [] w w' := by
  refine q_of (Sat.nil w M0) Tryz.func52 rfl (by simp [Tryz.ntmps52]) ?_
  (refine q_seq (q_region ?_))
  refine ql_box rfl rfl (fun b1 => ?_)
  rw [agg_cells]
  (refine ql_pure tabOk rfl rfl (ql_pure tabOk rfl rfl (q_nil (q_seq (q_region ?_)))); refine ql_loadABa tabOk rfl rfl rfl ?_)
  refine ql_callv (val := .tuple #[.pointer none, .int .i64 (chkO s)]) tabOk rfl rfl rfl rfl (fun w hs => ?_) ?_; exact rask_no w lo hi s tv rv (h.keep hs.chg0) hl1 hl2 h0
  (refine ql_pure tabOk rfl rfl (ql_ext tabOk rfl rfl rfl (ql_ext tabOk rfl rfl rfl (ql_pure tabOk rfl rfl (ql_pure tabOk rfl rfl (q_nil (q_seq (q_seq (q_region (ql_pure tabOk rfl rfl (ql_neqT tabOk rfl rfl rfl (by omega) (q_nil ?_))))))))))); refine q_cond_true rfl (q_seq (q_region ?_)); (iterate 3 refine ql_pure tabOk rfl rfl ?_); refine q_nil (q_ret ?_))
  refine q_fin tabOk rfl (by repeat constructor) fun w hs => ?_
  exact ⟨rfl, hs.chg0⟩
def tF14_393f534 : OT := chainT [0, 1, 2, 3, 4, 5, 6, 7, 8, 9] (.nil)
theorem rfewest_ok (w : World) (lo hi : Nat) (s : Sc) (tv rv : Value) (h : ScR w lo hi tv rv s) (hs0 : SOk s) : Ca Tryz.prog 52 [.agg (scC s tv rv).toArray] w fun x w' => x = .tuple #[.int .i64 (depV s (firstK s)), .int .i64 0] ∧ Chg [] w w' := by
  have hfit := firstK_fit hs0.le
  refine q_of (Sat.nil w M0) Tryz.func52 rfl (by simp [Tryz.ntmps52]) ?_
  (refine q_seq (q_region ?_))
  refine ql_box rfl rfl (fun b1 => ?_)
  rw [agg_cells]
  (refine ql_pure tabOk rfl rfl (ql_pure tabOk rfl rfl (q_nil (q_seq (q_region ?_)))); refine ql_loadABa tabOk rfl rfl rfl ?_)
  refine ql_call (β := Nat) tabOk [] _ M0 rfl rfl rfl rfl (Sp.refl _) (fun _ h => h.elim) (fun w' hs => rask_ok w' lo hi s tv _ (h.keep hs.chg0) hs0.ok hs0.le) ?_
  rintro bd _ rfl
  dsimp only [List.cons_append, List.nil_append]
  (refine ql_pure tabOk rfl rfl (ql_ext tabOk rfl rfl rfl (ql_ext tabOk rfl rfl rfl (ql_pure tabOk rfl rfl (ql_pure tabOk rfl rfl (q_nil (q_seq (q_seq (q_region (ql_pure tabOk rfl rfl (ql_neqF tabOk rfl rfl rfl (by omega) (q_nil ?_))))))))))); refine q_cond_false rfl (q_skip (q_seq ?_)))
  refine q_cut (σ := Unit) (fun _ => [(2, .int .i64 (depV s (firstK s))), (3, .int .i64 0)]) (fun _ => []) ?_ ?_
  rotate_left
  · intro K2 hK2
    refine q_drawT (tF14_393f534) _ [] (Sp.refl _) (by kernel_rfl) (by kernel_rfl) ?_
    refine qt_seg (by repeat (first | exact PickL.nil | (apply PickL.cons; rfl))) fun K1 hK1 => ?_
    (refine qf_pure tabOk rfl rfl rfl ?_)
    refine qf_call (β := Nat × Nat × Nat × Nat) (ψ := fun y v => v = bstF y.2.1 y.2.2.1 y.2.2.2) (L' := fun y => plnL bd y) tabOk [] _ M0 rfl rfl rfl rfl (Sp.refl _) (fun _ h => h.elim) (fun w' hs => rplanner_ca w' bd) ?_
    rintro ⟨bm, p1, p2, p3⟩ _ rfl
    dsimp only [plnL, List.cons_append, List.nil_append]
    ((iterate 3 refine qf_pure tabOk rfl rfl rfl ?_); refine qf_loadABa tabOk rfl rfl rfl ?_)
    rw [dsk_take s tv rv]
    refine qf_callF (β := Value → Option Value) (ψ := fun g v => v = pkV (bstK s (firstK s)) ∧ GoodB s g) (L' := fun g => [mpB bm g]) [mpB bm (fun _ => none)] _ (· = bm) rfl rfl rfl (Sp.cons (by repeat constructor) (Sp.refl _)) (fun x hx => ⟨_, .head _, hx⟩) (fun w' hs => CaF.of tabOk rfl (best_ca lo hi bm p1 p2 p3 bd s tv _ (firstK s) hs0.ok _ _ w' _ rfl hfit (h.keep hs.chg0) ⟨⟨_, hs.blk (b := p1) (by repeat constructor)⟩, ⟨_, hs.blk (b := p2) (by repeat constructor)⟩, ⟨_, hs.blk (b := p3) (by repeat constructor)⟩, hs.blk (b := bd) (by repeat constructor)⟩ (hs.mem (c := mpB bm (fun _ => none)) (by repeat constructor)) (goodB_nil s))) ?_
    rintro g v ⟨rfl, hg⟩
    skip
    refine qf_fld tabOk 1 3 (by kernel_rfl) rfl rfl rfl rfl ?_
    (refine qf_pure tabOk rfl rfl rfl (qf_pure tabOk rfl rfl rfl (qf_nil ?_)))
    exact hK1 _ _ (qt_nil (hK2 () _ _ ⟨rfl, rfl, trivial⟩ (by repeat constructor)))
  rintro _
  (refine q_ret ?_)
  refine q_fin tabOk rfl (by repeat constructor) fun w hs => ?_
  exact ⟨rfl, hs.chg0⟩
end Go.Proofs.YtopdmadgkjdgcaaGreat

/- Walks of rifle: the depth of a plan. -/
/- long -/
namespace Go.Proofs.YtopdmadgkjdgcaaGreat
set_option maxRecDepth 4000
open Go Go.Eng
/-- May a node follow the node i? -/
def nxB (i : Nat) (plan : List Nd) (k : Int) : Bool := decide (k = -1) || inB k ((i : Int) + 1) ((plan.length : Int) - 1)
theorem rnext_ca (w : World) (lo hi b1 b2 i : Nat) (plan : List Nd) (vp : Value) (k : Int) (t1 t2 : TypeId) (h1 : Blk w b1 [.int .i64 i] t1) (h2 : Blk w b2 [vp] t2) (hp : RdN w lo hi vp plan) (hl : plan.length ≤ 300) (hi3 : i ≤ 300) :
    Ca Tryz.prog 133 [.int .i64 k, .pointer (some ⟨b1, 0, none⟩), .pointer (some ⟨b2, 0, none⟩)] w fun x w' => x = .bool (nxB i plan k) ∧ Chg [] w w' := by
  obtain ⟨p, cap, rfl, hs0⟩ := hp.outI
  refine q_of (Sat.nil w M0) Tryz.func133 rfl (by simp [Tryz.ntmps133]) ?_
  by_cases hk : k = -1
  · (refine q_seq (q_region (ql_pure tabOk rfl rfl (q_nil (q_seq (q_region (ql_pure tabOk rfl rfl (ql_eqlT tabOk rfl rfl rfl (by omega) (ql_pure tabOk rfl rfl ?_)))))))); (iterate 7 refine ql_gno rfl rfl rfl ?_); refine ql_pure tabOk rfl rfl (ql_pure tabOk rfl rfl (q_nil (q_ret ?_))))
    refine q_fin tabOk rfl (by repeat (first | exact RVs.nil | apply RVs.tmp rfl | apply RVs.cellA rfl rfl (by repeat first | exact .head _ | refine .tail _ ?_) (by rfl) | apply RVs.cell1 rfl rfl (by repeat first | exact .head _ | refine .tail _ ?_))) fun w hs => ?_
    exact ⟨by simp [nxB, hk, retV], hs.chg0⟩
  · (refine q_seq (q_region (ql_pure tabOk rfl rfl (q_nil (q_seq (q_region (ql_pure tabOk rfl rfl (ql_eqlF tabOk rfl rfl rfl (by omega) (ql_pure tabOk rfl rfl (ql_gyes rfl (ql_pure tabOk rfl rfl (ql_gyes rfl ?_))))))))))); refine ql_loadP tabOk rfl rfl rfl (by assumption) (by rfl) ?_; refine ql_gyes rfl (ql_ar tabOk rfl rfl rfl rfl (by omega) (by omega) (ql_gyes rfl ?_)); refine ql_loadP tabOk rfl rfl rfl (by assumption) (by rfl) ?_; refine ql_gyes rfl (ql_pure tabOk rfl rfl (ql_gyes rfl (ql_ar tabOk rfl rfl rfl rfl (by omega) (by omega) (ql_gyes rfl ?_)))))
    refine ql_callv (val := .bool (inB k ((i : Int) + 1) ((plan.length : Int) - 1))) tabOk rfl rfl rfl rfl (fun w hs => ?_) ?_; exact rfin_ca _ _ _ w
    (refine ql_pure tabOk rfl rfl (ql_pure tabOk rfl rfl (q_nil (q_ret ?_))))
    refine q_fin tabOk rfl (by repeat (first | exact RVs.nil | apply RVs.tmp rfl | apply RVs.cellA rfl rfl (by repeat first | exact .head _ | refine .tail _ ?_) (by rfl) | apply RVs.cell1 rfl rfl (by repeat first | exact .head _ | refine .tail _ ?_))) fun w hs => ?_
    exact ⟨by simp [nxB, hk, retV], hs.chg0⟩
/-- Is a node of a plan in order? -/
def ndB (s : Sc) (plan : List Nd) (i : Nat) : Bool := inB (ndV plan i).r 0 ((s.rifles.length : Int) - 1) && (nxB i plan (ndV plan i).p && nxB i plan (ndV plan i).f)
theorem rp_iff {s : Sc} {plan : List Nd} : RpOk s plan ↔ ∀ i, i < plan.length → ndB s plan i = true := by
  unfold RpOk
  refine forall_congr' fun i => forall_congr' fun hi => ?_
  unfold ndB nxB
  simp only [Bool.and_eq_true, Bool.or_eq_true, decide_eq_true_iff, inB_iff]
  constructor
  · rintro ⟨h1, h2, h3⟩
    refine ⟨by omega, ?_, ?_⟩ <;> omega
  · rintro ⟨h1, h2, h3⟩
    refine ⟨by omega, ?_, ?_⟩ <;> omega
abbrev folV (b1 b2 b3 : Nat) : Value := .func (.func 134) #[] #[.pointer (some ⟨b1, 0, none⟩), .pointer (some ⟨b2, 0, none⟩), .pointer (some ⟨b3, 0, none⟩)]
/-- The variables of a walk along a plan. -/
structure FoE (w : World) (b1 b2 b3 bd : Nat) (s : Sc) (tv rv : Value) (k0 : Kn) (vp : Value) : Prop where
  h1 : ∃ t, Blk w b1 [.pointer (some ⟨bd, 0, none⟩)] t
  h2 : ∃ t, Blk w b2 [vp] t
  h3 : ∃ t, Blk w b3 [folV b1 b2 b3] t
  hd : Blk w bd (dskC s tv rv k0) 184
theorem FoE.keep {w w' : World} {b1 b2 b3 bd : Nat} {s : Sc} {tv rv : Value} {k0 : Kn} {vp : Value} (h : FoE w b1 b2 b3 bd s tv rv k0 vp) (c : Chg [] w w') : FoE w' b1 b2 b3 bd s tv rv k0 vp :=
  ⟨h.h1.imp fun _ h => h.keep c, h.h2.imp fun _ h => h.keep c, h.h3.imp fun _ h => h.keep c, h.hd.keep c⟩
theorem fol_neg (s : Sc) (plan : List Nd) (k : Kn) : ∀ g, folF s plan g (-1) k = if openL s k = [] then 0 else -1
  | 0 => rfl
  | g + 1 => by
    simp only [folF]
    rw [if_pos (by omega)]
set_option maxHeartbeats 4000000 in
theorem follow_end (lo hi b1 b2 b3 bd : Nat) (s : Sc) (tv rv : Value) (k0 : Kn) (vp : Value) (hs0 : s.Ok) (k : Kn) (w : World) (hk : k.Fit) (h : ScR w lo hi tv rv s) (hE : FoE w b1 b2 b3 bd s tv rv k0 vp) :
    Ca Tryz.prog 134 [.int .i64 (-1), knV k, .pointer (some ⟨b1, 0, none⟩), .pointer (some ⟨b2, 0, none⟩), .pointer (some ⟨b3, 0, none⟩)] w fun v w' => v = .int .i64 (if openL s k = [] then 0 else -1) ∧ Chg [] w w' := by
  have h8 := hs0.rn8
  have hkb := hk.bd
  obtain ⟨⟨t1, hb1⟩, ⟨t2, hb2⟩, ⟨t3, hb3⟩, hbd⟩ := id hE
  refine q_ofM (Sat.nil w M0) Tryz.func134 rfl (by simp [Tryz.ntmps134]) ?_
  (refine q_seq (q_region ?_))
  refine ql_box rfl rfl (fun b6 => ?_)
  rw [agg_cells]
  skip
  refine ql_alloc zero3 rfl (fun b7 => ?_)
  (refine q_nil (q_seq (q_seq (q_region (ql_pure tabOk rfl rfl (ql_eqlT tabOk rfl rfl rfl (by omega) (q_nil (q_cond_true rfl (q_seq (q_seq (q_region ?_)))))))))); refine ql_loadP tabOk rfl rfl rfl (by assumption) (by rfl) ?_)
  refine ql_loadA (cs := knC k) tabOk rfl rfl rfl (knC_len hkb) (fun w hs q hq => by rw [(hs.blk (b := b6) (by repeat first | exact .head _ | refine .tail _ ?_)).cell, Nat.zero_add]) ?_
  refine ql_call (β := Nat × Nat) (ψ := fun y v => v = openF y.1 y.2) (L' := fun y => [.pt y.1 [.pointer (some ⟨bd, 0, none⟩)] 177, .pt y.2 (knC k) 182]) tabOk [] _ M0 rfl rfl rfl rfl (Sp.refl _) (fun _ h => h.elim) (fun w' hs => open_ca w' bd k) ?_
  rintro ⟨o1, o2⟩ _ rfl
  dsimp only [List.cons_append, List.nil_append]
  (refine q_nil (q_block ?_))
  refine q_range natE Int (openL s k) (fun pre z => pre = [] ∧ z = 0) (fun c z => c = .ret ∧ z = -1 ∧ openL s k ≠ []) (fun z => [.pt b7 [.int .i64 z] 3]) [.pt o1 [.pointer (some ⟨bd, 0, none⟩)] 177, .pt o2 (knC k) 182] 0
    rfl (by kernel_rfl) rfl (fun _ _ => rfl) ⟨rfl, rfl⟩ (by repeat (first | exact Sp.nil | exact Sp.refl _ | refine Sp.cons (by repeat constructor) ?_)) ?_ ?_ ?_ ?_
  · intro w1 D hs hD
    have old : ∀ b cs t, Blk w b cs t → Blk w1 b cs t ∧ ¬ D b := fun b cs t hb => ⟨hb.keep hs.chg0, fun h => by
      have := (hD b h).2.resolve_left (fun h => h)
      have := hb.lt
      omega⟩
    exact open_it w1 D lo hi o1 o2 bd s tv rv k0 k (fun w' hc => h.keep (hs.chg0.old hc (fun k hk => (hD k hk).2.resolve_left (fun h => h)))) hs0 hkb (hs.blk (b := o1) (by repeat first | exact .head _ | refine .tail _ ?_)) (hs.blk (b := o2) (by repeat first | exact .head _ | refine .tail _ ?_)) (old _ _ _ hbd).1 ⟨fun e => (hD _ e).1 ⟨.pt o1 _ _, (by repeat first | exact .head _ | refine .tail _ ?_), rfl⟩, fun e => (hD _ e).1 ⟨.pt o2 _ _, (by repeat first | exact .head _ | refine .tail _ ?_), rfl⟩, (old _ _ _ hbd).2⟩
  · intro pre x post z w1 lb rdy bsy K F' hx hI hsat hR hbegin hend hret hexit
    obtain ⟨rfl, rfl⟩ := hI
    dsimp only [natE, List.zip_cons_cons, List.zip_nil_left, List.zip_nil_right, List.foldl_cons, List.foldl_nil]
    (refine q_skip ?_)
    refine hbegin _ _ ?_
    (refine q_block (q_seq (q_region ?_)); refine ql_set tabOk rfl rfl rfl rfl (by repeat constructor) ?_; refine q_nil (q_ret ?_))
    refine hret _ _ (-1) ⟨rfl, rfl, by rw [hx]; simp⟩ (by repeat (first | exact Sp.nil | exact Sp.refl _ | refine Sp.cons (by repeat constructor) ?_))
  · rintro D z ⟨h1, rfl⟩
    rw [if_pos h1]
    dsimp only [List.cons_append, List.nil_append]
    (refine q_blk (q_seq (q_region ?_)); refine ql_set tabOk rfl rfl rfl rfl (by repeat constructor) ?_; refine q_nil (q_ret ?_))
    refine q_finMD tabOk (by repeat constructor) rfl (by repeat (first | exact RVs.nil | apply RVs.tmp rfl | apply RVs.cellA rfl rfl (by repeat first | exact .head _ | refine .tail _ ?_) (by rfl) | apply RVs.cell1 rfl rfl (by repeat first | exact .head _ | refine .tail _ ?_))) fun w hs => ?_
    exact ⟨rfl, hs.chg0⟩
  · rintro D z c ⟨rfl, rfl, h1⟩
    rw [if_neg h1]
    dsimp only [List.cons_append, List.nil_append]
    (refine q_ret ?_)
    refine q_finMD tabOk (by repeat constructor) rfl (by repeat (first | exact RVs.nil | apply RVs.tmp rfl | apply RVs.cellA rfl rfl (by repeat first | exact .head _ | refine .tail _ ?_) (by rfl) | apply RVs.cell1 rfl rfl (by repeat first | exact .head _ | refine .tail _ ?_))) fun w hs => ?_
    exact ⟨rfl, hs.chg0⟩
theorem fol_bd (s : Sc) (plan : List Nd) : ∀ (g : Nat) (n : Int) (k : Kn), -1 ≤ folF s plan g n k ∧ folF s plan g n k ≤ g
  | 0, n, k => by
    simp only [folF]
    split <;> omega
  | g + 1, n, k => by
    simp only [folF]
    have h1 := fol_bd s plan g (ndV plan n).p (afterV s k (ndV plan n).r.toNat true).1
    have h2 := fol_bd s plan g (ndV plan n).f (afterV s k (ndV plan n).r.toNat false).1
    split
    · split <;> omega
    split
    · omega
    split
    · omega
    split <;> split <;> omega
/-- The round of a check that passes, and of one that fails. -/
def pbJ (j : Nat) : Bool := decide (j = 0)
def nxJ (x : Nd) (j : Nat) : Int := if j = 0 then x.p else x.f
def cJ (s : Sc) (k : Kn) (i j : Nat) : Kn × Bool := afterV s k i (pbJ j)
def fJ (s : Sc) (plan : List Nd) (g : Nat) (x : Nd) (k : Kn) (i j : Nat) : Int := folF s plan g (nxJ x j) (cJ s k i j).1
def outJ (s : Sc) (plan : List Nd) (g : Nat) (x : Nd) (k : Kn) (i : Nat) : Nat → Int
  | 0 => 0
  | j + 1 => if (cJ s k i j).2 = true then max (outJ s plan g x k i j) (1 + fJ s plan g x k i j) else outJ s plan g x k i j
theorem out_bd (s : Sc) (plan : List Nd) (g : Nat) (x : Nd) (k : Kn) (i : Nat) : ∀ j, 0 ≤ outJ s plan g x k i j ∧ outJ s plan g x k i j ≤ g + 1
  | 0 => by simp [outJ]; omega
  | j + 1 => by
    have h1 := out_bd s plan g x k i j
    have h2 := fol_bd s plan g (nxJ x j) (cJ s k i j).1
    simp only [outJ, fJ]
    split <;> omega
theorem fol_stop {s : Sc} {plan : List Nd} {g m i : Nat} {k : Kn} (hi : (ndV plan m).r = i) {j : Nat} (hj : j < 2) (h1 : (cJ s k i j).2 = true) (h2 : fJ s plan g (ndV plan m) k i j < 0) : folF s plan (g + 1) m k = -1 := by
  simp only [folF]
  rw [if_neg (by omega), hi, Int.toNat_natCast]
  obtain rfl | rfl : j = 0 ∨ j = 1 := by omega
  · rw [if_pos ⟨h1, h2⟩]
  · split
    · rfl
    · rw [if_pos ⟨h1, h2⟩]
theorem fol_out {s : Sc} {plan : List Nd} {g m i : Nat} {k : Kn} (hi : (ndV plan m).r = i) (h : ∀ j, j < 2 → ¬ ((cJ s k i j).2 = true ∧ fJ s plan g (ndV plan m) k i j < 0)) : folF s plan (g + 1) m k = outJ s plan g (ndV plan m) k i 2 := by
  have h0 : ¬ ((afterV s k i true).2 = true ∧ folF s plan g (ndV plan m).p (afterV s k i true).1 < 0) := h 0 (by omega)
  have h1 : ¬ ((afterV s k i false).2 = true ∧ folF s plan g (ndV plan m).f (afterV s k i false).1 < 0) := h 1 (by omega)
  simp only [folF]
  rw [if_neg (by omega), hi, Int.toNat_natCast, if_neg h0, if_neg h1]
  show _ = if (afterV s k i false).2 = true then max (if (afterV s k i true).2 = true then max 0 (1 + folF s plan g (ndV plan m).p (afterV s k i true).1) else 0) (1 + folF s plan g (ndV plan m).f (afterV s k i false).1) else (if (afterV s k i true).2 = true then max 0 (1 + folF s plan g (ndV plan m).p (afterV s k i true).1) else 0)
  by_cases e1 : (afterV s k i true).2 = true <;> by_cases e2 : (afterV s k i false).2 = true
  · rw [if_pos e1, if_pos e2, if_pos e1, if_pos e2]
    have : ¬ _ < _ := fun e => h0 ⟨e1, e⟩
    omega
  · rw [if_pos e1, if_neg e2, if_pos e1, if_neg e2]
    have : ¬ _ < _ := fun e => h0 ⟨e1, e⟩
    omega
  · rw [if_neg e1, if_pos e2, if_neg e1, if_pos e2]
  · rw [if_neg e1, if_neg e2, if_neg e1, if_neg e2]
    omega
theorem ndV_get {plan : List Nd} {m : Nat} (hm : m < plan.length) : ndV plan m = plan[m] := by
  unfold ndV
  rw [Int.toNat_natCast, List.getD_eq_getElem?_getD, List.getElem?_eq_getElem hm]
  rfl
theorem after_len {s : Sc} {k : Kn} {i : Nat} {b : Bool} (hk : k.Fit) : (afterV s k i b).1.p.length = 8 ∧ (afterV s k i b).1.f.length = 8 := by
  have h1 := hk.p8
  have h2 := hk.f8
  unfold afterV
  split
  · exact ⟨h1, h2⟩
  split
  · exact ⟨by unfold passK; simp only; rw [List.length_set]; exact h1, h2⟩
  · exact ⟨h1, by unfold failK; simp only; rw [List.length_set]; exact h2⟩
def tF15_e6b7b30 : OT := .alt (chainT [0, 1, 2, 3, 4, 5, 6, 7, 8, 9, 10, 11, 12, 13, 14] (.nil)) (chainT [12, 0, 1, 2, 3, 4, 5, 6, 7, 8, 9, 10, 11, 13, 14] (.nil))
set_option maxHeartbeats 4000000 in
theorem follow_ca (lo hi b1 b2 b3 bd : Nat) (s : Sc) (tv rv : Value) (k0 : Kn) (plan : List Nd) (vp : Value) (hs0 : s.Ok) (hp : RpOk s plan) (hpl : plan.length ≤ 300) : ∀ (g : Nat), g ≤ 1000 → ∀ (n : Int) (k : Kn) (w : World), (n = -1 ∨ 0 ≤ n ∧ n < plan.length ∧ plan.length ≤ g + n.toNat) → k.Fit → ScR w lo hi tv rv s → RdN w lo hi vp plan → FoE w b1 b2 b3 bd s tv rv k0 vp →
    Ca Tryz.prog 134 [.int .i64 n, knV k, .pointer (some ⟨b1, 0, none⟩), .pointer (some ⟨b2, 0, none⟩), .pointer (some ⟨b3, 0, none⟩)] w fun v w' => v = .int .i64 (folF s plan g n k) ∧ Chg [] w w' := by
  have h8 := hs0.rn8
  intro g
  induction g with
  | zero =>
    intro hg n k w hn hk h hr hE
    obtain rfl : n = -1 := by omega
    rw [fol_neg]
    exact follow_end lo hi b1 b2 b3 bd s tv rv k0 vp hs0 k w hk h hE
  | succ g ih =>
  intro hg n k w hn hk h hr hE
  by_cases hn1 : n = -1
  · subst hn1
    rw [fol_neg]
    exact follow_end lo hi b1 b2 b3 bd s tv rv k0 vp hs0 k w hk h hE
  have hkb := hk.bd
  obtain ⟨⟨t1, hb1⟩, ⟨t2, hb2⟩, ⟨t3, hb3⟩, hbd⟩ := id hE
  obtain ⟨n0, n1, n2⟩ := hn.resolve_left hn1
  obtain ⟨m, rfl⟩ := Int.eq_ofNat_of_zero_le n0
  have hm : m < plan.length := by omega
  obtain ⟨⟨r0, r1⟩, p0, f0⟩ := hp m hm
  obtain ⟨i, hri⟩ := Int.eq_ofNat_of_zero_le r0
  have hil : i < s.rifles.length := by omega
  have hnd := ndV_get hm
  obtain ⟨pa, pcap, rfl, hps⟩ := hr.outI
  obtain ⟨pb', po, rfl⟩ := hps (by omega)
  refine q_ofM (Sat.nil w M0) Tryz.func134 rfl (by simp [Tryz.ntmps134]) ?_
  (refine q_seq (q_region ?_))
  refine ql_box rfl rfl (fun b6 => ?_)
  rw [agg_cells]
  skip
  refine ql_alloc zero3 rfl (fun b7 => ?_)
  (refine q_nil (q_seq (q_seq (q_region (ql_pure tabOk rfl rfl (ql_eqlF tabOk rfl rfl rfl (by omega) (q_nil (q_cond_false rfl (q_skip (q_seq (q_region (ql_pure tabOk rfl rfl ?_))))))))))); refine q_nil (q_seq (q_seq (q_region ?_))))
  refine ql_mkS 4 [.bool true, .bool false] rfl (by kernel_rfl) rfl (fun bn => ?_)
  (refine ql_pure tabOk rfl rfl (ql_pure tabOk rfl rfl (q_nil (q_block ?_))))
  refine q_loop (σ := Nat) (fun j => j ≤ 2 ∧ ∀ i', i' < j → ¬ ((cJ s k i i').2 = true ∧ fJ s plan g (ndV plan m) k i i' < 0)) (fun j => 2 - j) (fun j => [(0, .int .i64 m), (2, .pointer (some ⟨b1, 0, none⟩)), (3, .pointer (some ⟨b2, 0, none⟩)), (4, .pointer (some ⟨b3, 0, none⟩)), (6, .pointer (some ⟨b6, 0, none⟩)), (7, .pointer (some ⟨b7, 0, none⟩)), (8, .int .i64 (outJ s plan g (ndV plan m) k i j)), (21, .slice (some ⟨bn, 0, none⟩) 2 2), (22, .int .i64 2), (23, .int .i64 j)]) (fun _ => [.pt b7 [.int .i64 0] 3, .pt b6 (knC k) 182, .pt bn [.bool true, .bool false] 4]) 0 ⟨by omega, fun _ h => by omega⟩ ⟨rfl, rfl, rfl, rfl, rfl, rfl, rfl, rfl, rfl, rfl, trivial⟩ (by repeat (first | exact Sp.nil | exact Sp.refl _ | refine Sp.cons (by repeat constructor) ?_)) ?_
  rintro j ⟨hj, hno⟩ K hK
  have hob := out_bd s plan g (ndV plan m) k i j
  (refine q_seq (q_region (ql_pure tabOk rfl rfl (q_nil (q_seq ?_)))))
  refine q_if rfl (fun hc => ?_) (fun hc => ?_)
  · have hj2 : j < 2 := by omega
    clear hc
    have hFb := fol_bd s plan g (nxJ (ndV plan m) j) (cJ s k i j).1
    obtain ⟨pb, nx, hpv, hpj, hnx, hpt, hpf, hnxr⟩ : ∃ (pb : Bool) (nx : Int), [Value.bool true, Value.bool false][j]? = some (.bool pb) ∧ pbJ j = pb ∧ nxJ (ndV plan m) j = nx ∧ (pb = true → nx = plan[m].p) ∧ (pb = false → nx = plan[m].f) ∧ (nx = -1 ∨ 0 ≤ nx ∧ nx < plan.length ∧ plan.length ≤ g + nx.toNat) := by
      obtain rfl | rfl : j = 0 ∨ j = 1 := by omega
      · exact ⟨true, _, rfl, rfl, rfl, fun _ => by simp [nxJ, hnd], fun h => by simp at h, by simp only [nxJ, if_pos]; omega⟩
      · exact ⟨false, _, rfl, rfl, rfl, fun h => by simp at h, fun _ => by simp [nxJ, hnd], by simp only [nxJ]; rw [if_neg (by omega)]; omega⟩
    (refine q_skip (q_seq (q_block (q_seq (q_region ?_)))))
    refine ql_index tabOk rfl rfl rfl rfl rfl (by omega) (by omega) ?_
    skip
    refine ql_load1 (v := .bool pb) tabOk rfl rfl rfl (fun w hs => by rw [(hs.blk (b := bn) (by repeat first | exact .head _ | refine .tail _ ?_)).cell]; simpa using hpv) ?_
    have hclen : (knC (cJ s k i j).1).length = 18 := by
      obtain ⟨h1, h2⟩ := after_len (s := s) (i := i) (b := pbJ j) hk
      simp [knC, bools, cJ, h1, h2]
    have hcv : cJ s k i j = afterV s k i pb := by rw [← hpj]; rfl
    (refine ql_pure tabOk rfl rfl (q_nil (q_seq (q_region ?_))); refine ql_loadP tabOk rfl rfl rfl (by assumption) (by rfl) ?_; refine ql_pure tabOk rfl rfl ?_)
    refine ql_index tabOk rfl rfl rfl rfl rfl (by omega) (by omega) ?_
    (refine ql_pure tabOk rfl rfl ?_)
    refine ql_load1 (v := .int .i64 plan[m].f) tabOk rfl rfl rfl (fun w hs => by simpa using RdN.at2 (RdE.keep hr hs.chg0) m hm) ?_
    cases pb with
    | true =>
      (refine ql_pure tabOk rfl rfl (q_nil (q_seq (q_seq (q_region (ql_pure tabOk rfl rfl (q_nil (q_cond_true rfl (q_region ?_)))))))); refine ql_loadP tabOk rfl rfl rfl (by assumption) (by rfl) ?_; refine ql_pure tabOk rfl rfl ?_)
      refine ql_index tabOk rfl rfl rfl rfl rfl (by omega) (by omega) ?_
      (refine ql_pure tabOk rfl rfl ?_)
      refine ql_load1 (v := .int .i64 plan[m].p) tabOk rfl rfl rfl (fun w hs => by simpa using RdN.at1 (RdE.keep hr hs.chg0) m hm) ?_
      rw [← hpt rfl]
      (refine ql_pure tabOk rfl rfl (q_nil (q_seq ?_)))
      refine q_cut (σ := Nat) (fun b12 => [(0, .int .i64 m), (2, .pointer (some ⟨b1, 0, none⟩)), (3, .pointer (some ⟨b2, 0, none⟩)), (4, .pointer (some ⟨b3, 0, none⟩)), (6, .pointer (some ⟨b6, 0, none⟩)), (7, .pointer (some ⟨b7, 0, none⟩)), (8, .int .i64 (outJ s plan g (ndV plan m) k i j)), (11, .int .i64 nx), (12, .pointer (some ⟨b12, 0, none⟩)), (13, .bool (cJ s k i j).2), (21, .slice (some ⟨bn, 0, none⟩) 2 2), (22, .int .i64 2), (23, .int .i64 j)]) (fun b12 => [.pt b7 [.int .i64 0] 3, .pt b6 (knC k) 182, .pt bn [.bool true, .bool false] 4, .pt b12 (knC (cJ s k i j).1) 182]) ?_ ?_
      rotate_left
      · intro K2 hK2
        refine q_drawT (tF15_e6b7b30) _ [] (Sp.refl _) (by kernel_rfl) (by kernel_rfl) ?_
        refine qt_alt ?_ ?_
        · skip
          refine qt_seg (by repeat (first | exact PickL.nil | (apply PickL.cons; rfl))) fun K1 hK1 => ?_
          (refine qf_loadP tabOk rfl rfl rfl (by assumption) (by rfl) ?_)
          refine qf_loadA (cs := knC k) tabOk rfl rfl rfl (knC_len hkb) (fun w hs q hq => by rw [(hs.blk (b := b6) (by repeat first | exact .head _ | refine .tail _ ?_)).cell, Nat.zero_add]) ?_
          (refine qf_loadP tabOk rfl rfl rfl (by assumption) (by rfl) ?_; refine qf_pure tabOk rfl rfl rfl ?_)
          refine qf_index tabOk rfl rfl rfl rfl rfl (by omega) (by omega) ?_
          (refine qf_pure tabOk rfl rfl rfl ?_)
          refine qf_load1 (v := .int .i64 i) tabOk rfl rfl rfl (fun w hs => by have := RdN.at0 (RdE.keep hr hs.chg0) m hm; rw [← hnd, hri] at this; simpa using this) ?_
          (refine qf_pure tabOk rfl rfl rfl ?_)
          refine qf_callv (val := .tuple #[knV (cJ s k i j).1, .bool (cJ s k i j).2]) tabOk rfl rfl rfl rfl (fun w' hs => by rw [hcv]; exact after_ca w' lo hi bd s tv rv k0 k (h.keep hs.chg0) (hbd.keep hs.chg0) hs0 hkb i hil _) ?_
          (refine qf_pure tabOk rfl rfl rfl (qf_ext tabOk rfl rfl rfl (qf_ext tabOk rfl rfl rfl ?_)))
          refine qf_alloc zero182 rfl (fun b12 => ?_)
          skip
          refine qf_setA (us := knC (cJ s k i j).1) tabOk rfl rfl rfl hclen (knC_one _) (by repeat constructor) rfl ?_
          (refine qf_pure tabOk rfl rfl rfl (qf_nil ?_))
          exact hK1 _ _ (qt_nil (hK2 b12 _ _ ⟨rfl, rfl, rfl, rfl, rfl, rfl, rfl, rfl, rfl, rfl, rfl, rfl, rfl, trivial⟩ (by repeat (first | exact Sp.nil | exact Sp.refl _ | refine Sp.cons (by repeat constructor) ?_))))
        · skip
          refine qt_seg (by repeat (first | exact PickL.nil | (apply PickL.cons; rfl))) fun K1 hK1 => ?_
          skip
          refine qf_alloc zero182 rfl (fun b12 => ?_)
          (refine qf_loadP tabOk rfl rfl rfl (by assumption) (by rfl) ?_)
          refine qf_loadA (cs := knC k) tabOk rfl rfl rfl (knC_len hkb) (fun w hs q hq => by rw [(hs.blk (b := b6) (by repeat first | exact .head _ | refine .tail _ ?_)).cell, Nat.zero_add]) ?_
          (refine qf_loadP tabOk rfl rfl rfl (by assumption) (by rfl) ?_; refine qf_pure tabOk rfl rfl rfl ?_)
          refine qf_index tabOk rfl rfl rfl rfl rfl (by omega) (by omega) ?_
          (refine qf_pure tabOk rfl rfl rfl ?_)
          refine qf_load1 (v := .int .i64 i) tabOk rfl rfl rfl (fun w hs => by have := RdN.at0 (RdE.keep hr hs.chg0) m hm; rw [← hnd, hri] at this; simpa using this) ?_
          (refine qf_pure tabOk rfl rfl rfl ?_)
          refine qf_callv (val := .tuple #[knV (cJ s k i j).1, .bool (cJ s k i j).2]) tabOk rfl rfl rfl rfl (fun w' hs => by rw [hcv]; exact after_ca w' lo hi bd s tv rv k0 k (h.keep hs.chg0) (hbd.keep hs.chg0) hs0 hkb i hil _) ?_
          (refine qf_pure tabOk rfl rfl rfl (qf_ext tabOk rfl rfl rfl (qf_ext tabOk rfl rfl rfl ?_)))
          refine qf_setA (us := knC (cJ s k i j).1) tabOk rfl rfl rfl hclen (knC_one _) (by repeat constructor) rfl ?_
          (refine qf_pure tabOk rfl rfl rfl (qf_nil ?_))
          exact hK1 _ _ (qt_nil (hK2 b12 _ _ ⟨rfl, rfl, rfl, rfl, rfl, rfl, rfl, rfl, rfl, rfl, rfl, rfl, rfl, trivial⟩ (by repeat (first | exact Sp.nil | exact Sp.refl _ | refine Sp.cons (by repeat constructor) ?_))))
      intro b12
      cases hc2 : (cJ s k i j).2 with
      | false =>
        (refine q_seq (q_seq (q_region (ql_pure tabOk rfl rfl (ql_pure tabOk rfl rfl (q_nil (q_cond_true rfl (q_exit _ rfl (q_region (ql_ar tabOk rfl rfl rfl rfl (by omega) (by omega) (ql_pure tabOk rfl rfl (q_nil ?_))))))))))))
        exact hK (j + 1) _ _ ⟨by omega, fun i' h' => by
          by_cases he : i' = j
          · rw [he, hc2]; simp
          · exact hno i' (by omega)⟩ (by omega) ⟨rfl, rfl, rfl, rfl, rfl, rfl, by simp only [outJ]; rw [hc2]; rfl, rfl, rfl, rfl, trivial⟩ (by repeat (first | exact Sp.nil | exact Sp.refl _ | refine Sp.cons (by repeat constructor) ?_))
      | true =>
        have hcf : (cJ s k i j).1.Fit := after_fit hk hc2
        (refine q_seq (q_seq (q_region (ql_pure tabOk rfl rfl (ql_pure tabOk rfl rfl (q_nil (q_cond_false rfl (q_skip (q_seq (q_region ?_))))))))); refine ql_loadP tabOk rfl rfl rfl (by assumption) (by rfl) ?_; refine ql_pure tabOk rfl rfl ?_)
        refine ql_loadA (cs := knC (cJ s k i j).1) tabOk rfl rfl rfl hclen (fun w hs q hq => by rw [(hs.blk (b := b12) (by repeat first | exact .head _ | refine .tail _ ?_)).cell, Nat.zero_add]) ?_
        refine ql_callFv (val := .int .i64 (fJ s plan g (ndV plan m) k i j)) rfl rfl rfl (fun w' hs => CaF.of tabOk rfl (by have := ih (by omega) nx (cJ s k i j).1 w' hnxr hcf (h.keep hs.chg0) (RdE.keep hr hs.chg0) (hE.keep hs.chg0); unfold fJ; rw [hnx]; exact this)) ?_
        have hfb : -1 ≤ fJ s plan g (ndV plan m) k i j ∧ fJ s plan g (ndV plan m) k i j ≤ g := by unfold fJ; exact hFb
        by_cases hneg : fJ s plan g (ndV plan m) k i j < 0
        · (refine ql_pure tabOk rfl rfl (q_nil (q_seq (q_seq (q_region (ql_pure tabOk rfl rfl (ql_lssT tabOk rfl rfl rfl (by omega) (q_nil (q_cond_true rfl (q_seq (q_region ?_)))))))))); refine ql_set tabOk rfl rfl rfl rfl (by repeat constructor) ?_; refine q_nil (q_ret ?_))
          refine q_finM tabOk rfl (by repeat (first | exact RVs.nil | apply RVs.tmp rfl | apply RVs.cellA rfl rfl (by repeat first | exact .head _ | refine .tail _ ?_) (by rfl) | apply RVs.cell1 rfl rfl (by repeat first | exact .head _ | refine .tail _ ?_))) fun w hs => ?_
          exact ⟨by rw [fol_stop hri hj2 hc2 hneg]; rfl, hs.chg0⟩
        · (refine ql_pure tabOk rfl rfl (q_nil (q_seq (q_seq (q_region (ql_pure tabOk rfl rfl (ql_lssF tabOk rfl rfl rfl (by omega) (q_nil (q_cond_false rfl (q_skip (q_region (ql_pure tabOk rfl rfl ?_))))))))))); refine ql_pure tabOk rfl rfl (ql_ar tabOk rfl rfl rfl rfl (by omega) (by omega) ?_))
          refine ql_mkS 3 [.int .i64 (1 + fJ s plan g (ndV plan m) k i j)] rfl (by kernel_rfl) rfl (fun bq => ?_)
          skip
          refine ql_callv (val := .int .i64 (max (outJ s plan g (ndV plan m) k i j) (1 + fJ s plan g (ndV plan m) k i j))) tabOk rfl rfl rfl rfl (fun w hs => ?_) ?_; exact by have := great_ca w _ _ (outJ s plan g (ndV plan m) k i j) _ [1 + fJ s plan g (ndV plan m) k i j] (Blk.rdI (c := 1) (hs.blk (b := bq) (cs := ints [1 + fJ s plan g (ndV plan m) k i j]) (by repeat first | exact .head _ | refine .tail _ ?_))) (by simp); exact this
          (refine ql_pure tabOk rfl rfl (q_nil (q_blk (q_region (ql_ar tabOk rfl rfl rfl rfl (by omega) (by omega) (ql_pure tabOk rfl rfl (q_nil ?_)))))))
          exact hK (j + 1) _ _ ⟨by omega, fun i' h' => by
            by_cases he : i' = j
            · rw [he]; exact fun e => hneg e.2
            · exact hno i' (by omega)⟩ (by omega) ⟨rfl, rfl, rfl, rfl, rfl, rfl, by simp only [outJ]; rw [hc2]; rfl, rfl, rfl, rfl, trivial⟩ (by repeat (first | exact Sp.nil | exact Sp.refl _ | refine Sp.cons (by repeat constructor) ?_))
    | false =>
      rw [← hpf rfl]
      (refine ql_pure tabOk rfl rfl (q_nil (q_seq (q_seq (q_region (ql_pure tabOk rfl rfl (q_nil (q_cond_false rfl (q_skip (q_seq ?_))))))))))
      refine q_cut (σ := Nat) (fun b12 => [(0, .int .i64 m), (2, .pointer (some ⟨b1, 0, none⟩)), (3, .pointer (some ⟨b2, 0, none⟩)), (4, .pointer (some ⟨b3, 0, none⟩)), (6, .pointer (some ⟨b6, 0, none⟩)), (7, .pointer (some ⟨b7, 0, none⟩)), (8, .int .i64 (outJ s plan g (ndV plan m) k i j)), (11, .int .i64 nx), (12, .pointer (some ⟨b12, 0, none⟩)), (13, .bool (cJ s k i j).2), (21, .slice (some ⟨bn, 0, none⟩) 2 2), (22, .int .i64 2), (23, .int .i64 j)]) (fun b12 => [.pt b7 [.int .i64 0] 3, .pt b6 (knC k) 182, .pt bn [.bool true, .bool false] 4, .pt b12 (knC (cJ s k i j).1) 182]) ?_ ?_
      rotate_left
      · intro K2 hK2
        refine q_drawT (tF15_e6b7b30) _ [] (Sp.refl _) (by kernel_rfl) (by kernel_rfl) ?_
        refine qt_alt ?_ ?_
        · skip
          refine qt_seg (by repeat (first | exact PickL.nil | (apply PickL.cons; rfl))) fun K1 hK1 => ?_
          (refine qf_loadP tabOk rfl rfl rfl (by assumption) (by rfl) ?_)
          refine qf_loadA (cs := knC k) tabOk rfl rfl rfl (knC_len hkb) (fun w hs q hq => by rw [(hs.blk (b := b6) (by repeat first | exact .head _ | refine .tail _ ?_)).cell, Nat.zero_add]) ?_
          (refine qf_loadP tabOk rfl rfl rfl (by assumption) (by rfl) ?_; refine qf_pure tabOk rfl rfl rfl ?_)
          refine qf_index tabOk rfl rfl rfl rfl rfl (by omega) (by omega) ?_
          (refine qf_pure tabOk rfl rfl rfl ?_)
          refine qf_load1 (v := .int .i64 i) tabOk rfl rfl rfl (fun w hs => by have := RdN.at0 (RdE.keep hr hs.chg0) m hm; rw [← hnd, hri] at this; simpa using this) ?_
          (refine qf_pure tabOk rfl rfl rfl ?_)
          refine qf_callv (val := .tuple #[knV (cJ s k i j).1, .bool (cJ s k i j).2]) tabOk rfl rfl rfl rfl (fun w' hs => by rw [hcv]; exact after_ca w' lo hi bd s tv rv k0 k (h.keep hs.chg0) (hbd.keep hs.chg0) hs0 hkb i hil _) ?_
          (refine qf_pure tabOk rfl rfl rfl (qf_ext tabOk rfl rfl rfl (qf_ext tabOk rfl rfl rfl ?_)))
          refine qf_alloc zero182 rfl (fun b12 => ?_)
          skip
          refine qf_setA (us := knC (cJ s k i j).1) tabOk rfl rfl rfl hclen (knC_one _) (by repeat constructor) rfl ?_
          (refine qf_pure tabOk rfl rfl rfl (qf_nil ?_))
          exact hK1 _ _ (qt_nil (hK2 b12 _ _ ⟨rfl, rfl, rfl, rfl, rfl, rfl, rfl, rfl, rfl, rfl, rfl, rfl, rfl, trivial⟩ (by repeat (first | exact Sp.nil | exact Sp.refl _ | refine Sp.cons (by repeat constructor) ?_))))
        · skip
          refine qt_seg (by repeat (first | exact PickL.nil | (apply PickL.cons; rfl))) fun K1 hK1 => ?_
          skip
          refine qf_alloc zero182 rfl (fun b12 => ?_)
          (refine qf_loadP tabOk rfl rfl rfl (by assumption) (by rfl) ?_)
          refine qf_loadA (cs := knC k) tabOk rfl rfl rfl (knC_len hkb) (fun w hs q hq => by rw [(hs.blk (b := b6) (by repeat first | exact .head _ | refine .tail _ ?_)).cell, Nat.zero_add]) ?_
          (refine qf_loadP tabOk rfl rfl rfl (by assumption) (by rfl) ?_; refine qf_pure tabOk rfl rfl rfl ?_)
          refine qf_index tabOk rfl rfl rfl rfl rfl (by omega) (by omega) ?_
          (refine qf_pure tabOk rfl rfl rfl ?_)
          refine qf_load1 (v := .int .i64 i) tabOk rfl rfl rfl (fun w hs => by have := RdN.at0 (RdE.keep hr hs.chg0) m hm; rw [← hnd, hri] at this; simpa using this) ?_
          (refine qf_pure tabOk rfl rfl rfl ?_)
          refine qf_callv (val := .tuple #[knV (cJ s k i j).1, .bool (cJ s k i j).2]) tabOk rfl rfl rfl rfl (fun w' hs => by rw [hcv]; exact after_ca w' lo hi bd s tv rv k0 k (h.keep hs.chg0) (hbd.keep hs.chg0) hs0 hkb i hil _) ?_
          (refine qf_pure tabOk rfl rfl rfl (qf_ext tabOk rfl rfl rfl (qf_ext tabOk rfl rfl rfl ?_)))
          refine qf_setA (us := knC (cJ s k i j).1) tabOk rfl rfl rfl hclen (knC_one _) (by repeat constructor) rfl ?_
          (refine qf_pure tabOk rfl rfl rfl (qf_nil ?_))
          exact hK1 _ _ (qt_nil (hK2 b12 _ _ ⟨rfl, rfl, rfl, rfl, rfl, rfl, rfl, rfl, rfl, rfl, rfl, rfl, rfl, trivial⟩ (by repeat (first | exact Sp.nil | exact Sp.refl _ | refine Sp.cons (by repeat constructor) ?_))))
      intro b12
      cases hc2 : (cJ s k i j).2 with
      | false =>
        (refine q_seq (q_seq (q_region (ql_pure tabOk rfl rfl (ql_pure tabOk rfl rfl (q_nil (q_cond_true rfl (q_exit _ rfl (q_region (ql_ar tabOk rfl rfl rfl rfl (by omega) (by omega) (ql_pure tabOk rfl rfl (q_nil ?_))))))))))))
        exact hK (j + 1) _ _ ⟨by omega, fun i' h' => by
          by_cases he : i' = j
          · rw [he, hc2]; simp
          · exact hno i' (by omega)⟩ (by omega) ⟨rfl, rfl, rfl, rfl, rfl, rfl, by simp only [outJ]; rw [hc2]; rfl, rfl, rfl, rfl, trivial⟩ (by repeat (first | exact Sp.nil | exact Sp.refl _ | refine Sp.cons (by repeat constructor) ?_))
      | true =>
        have hcf : (cJ s k i j).1.Fit := after_fit hk hc2
        (refine q_seq (q_seq (q_region (ql_pure tabOk rfl rfl (ql_pure tabOk rfl rfl (q_nil (q_cond_false rfl (q_skip (q_seq (q_region ?_))))))))); refine ql_loadP tabOk rfl rfl rfl (by assumption) (by rfl) ?_; refine ql_pure tabOk rfl rfl ?_)
        refine ql_loadA (cs := knC (cJ s k i j).1) tabOk rfl rfl rfl hclen (fun w hs q hq => by rw [(hs.blk (b := b12) (by repeat first | exact .head _ | refine .tail _ ?_)).cell, Nat.zero_add]) ?_
        refine ql_callFv (val := .int .i64 (fJ s plan g (ndV plan m) k i j)) rfl rfl rfl (fun w' hs => CaF.of tabOk rfl (by have := ih (by omega) nx (cJ s k i j).1 w' hnxr hcf (h.keep hs.chg0) (RdE.keep hr hs.chg0) (hE.keep hs.chg0); unfold fJ; rw [hnx]; exact this)) ?_
        have hfb : -1 ≤ fJ s plan g (ndV plan m) k i j ∧ fJ s plan g (ndV plan m) k i j ≤ g := by unfold fJ; exact hFb
        by_cases hneg : fJ s plan g (ndV plan m) k i j < 0
        · (refine ql_pure tabOk rfl rfl (q_nil (q_seq (q_seq (q_region (ql_pure tabOk rfl rfl (ql_lssT tabOk rfl rfl rfl (by omega) (q_nil (q_cond_true rfl (q_seq (q_region ?_)))))))))); refine ql_set tabOk rfl rfl rfl rfl (by repeat constructor) ?_; refine q_nil (q_ret ?_))
          refine q_finM tabOk rfl (by repeat (first | exact RVs.nil | apply RVs.tmp rfl | apply RVs.cellA rfl rfl (by repeat first | exact .head _ | refine .tail _ ?_) (by rfl) | apply RVs.cell1 rfl rfl (by repeat first | exact .head _ | refine .tail _ ?_))) fun w hs => ?_
          exact ⟨by rw [fol_stop hri hj2 hc2 hneg]; rfl, hs.chg0⟩
        · (refine ql_pure tabOk rfl rfl (q_nil (q_seq (q_seq (q_region (ql_pure tabOk rfl rfl (ql_lssF tabOk rfl rfl rfl (by omega) (q_nil (q_cond_false rfl (q_skip (q_region (ql_pure tabOk rfl rfl ?_))))))))))); refine ql_pure tabOk rfl rfl (ql_ar tabOk rfl rfl rfl rfl (by omega) (by omega) ?_))
          refine ql_mkS 3 [.int .i64 (1 + fJ s plan g (ndV plan m) k i j)] rfl (by kernel_rfl) rfl (fun bq => ?_)
          skip
          refine ql_callv (val := .int .i64 (max (outJ s plan g (ndV plan m) k i j) (1 + fJ s plan g (ndV plan m) k i j))) tabOk rfl rfl rfl rfl (fun w hs => ?_) ?_; exact by have := great_ca w _ _ (outJ s plan g (ndV plan m) k i j) _ [1 + fJ s plan g (ndV plan m) k i j] (Blk.rdI (c := 1) (hs.blk (b := bq) (cs := ints [1 + fJ s plan g (ndV plan m) k i j]) (by repeat first | exact .head _ | refine .tail _ ?_))) (by simp); exact this
          (refine ql_pure tabOk rfl rfl (q_nil (q_blk (q_region (ql_ar tabOk rfl rfl rfl rfl (by omega) (by omega) (ql_pure tabOk rfl rfl (q_nil ?_)))))))
          exact hK (j + 1) _ _ ⟨by omega, fun i' h' => by
            by_cases he : i' = j
            · rw [he]; exact fun e => hneg e.2
            · exact hno i' (by omega)⟩ (by omega) ⟨rfl, rfl, rfl, rfl, rfl, rfl, by simp only [outJ]; rw [hc2]; rfl, rfl, rfl, rfl, trivial⟩ (by repeat (first | exact Sp.nil | exact Sp.refl _ | refine Sp.cons (by repeat constructor) ?_))
  · obtain rfl : j = 2 := by omega
    rw [fol_out hri hno]
    (refine q_exit _ rfl (q_seq (q_region (ql_pure tabOk rfl rfl ?_))); refine ql_set tabOk rfl rfl rfl rfl (by repeat constructor) ?_; refine q_nil (q_ret ?_))
    refine q_finM tabOk rfl (by repeat (first | exact RVs.nil | apply RVs.tmp rfl | apply RVs.cellA rfl rfl (by repeat first | exact .head _ | refine .tail _ ?_) (by rfl) | apply RVs.cell1 rfl rfl (by repeat first | exact .head _ | refine .tail _ ?_))) fun w hs => ?_
    exact ⟨rfl, hs.chg0⟩
end Go.Proofs.YtopdmadgkjdgcaaGreat

/- Walks of rifle: Depth. -/
namespace Go.Proofs.YtopdmadgkjdgcaaGreat
set_option maxRecDepth 4000
open Go Go.Eng
theorem rdepth_no (w : World) (lo hi : Nat) (s : Sc) (tv rv vp : Value) (plan : List Nd) (h : ScR w lo hi tv rv s) (hl1 : s.tests.length ≤ maxLen) (hl2 : s.rifles.length ≤ maxLen) (hr : RdN w lo hi vp plan) (h0 : chkO s ≠ 0) : Ca Tryz.prog 59 [.agg (scC s tv rv).toArray, vp] w fun x w' => x = .tuple #[.int .i64 0, .int .i64 (chkO s)] ∧ Chg [] w w' := by
  obtain ⟨pa, pcap, rfl, hps⟩ := hr.outI
  refine q_of (Sat.nil w M0) Tryz.func59 rfl (by simp [Tryz.ntmps59]) ?_
  (refine q_seq (q_region ?_))
  refine ql_box rfl rfl (fun b2 => ?_)
  rw [agg_cells]
  refine ql_box rfl rfl (fun b3 => ?_)
  (refine ql_pure tabOk rfl rfl (ql_pure tabOk rfl rfl (q_nil (q_seq (q_region ?_)))); refine ql_loadABa tabOk rfl rfl rfl ?_)
  refine ql_callv (val := .tuple #[.pointer none, .int .i64 (chkO s)]) tabOk rfl rfl rfl rfl (fun w hs => ?_) ?_; exact rask_no w lo hi s tv rv (h.keep hs.chg0) hl1 hl2 h0
  (refine ql_pure tabOk rfl rfl (ql_ext tabOk rfl rfl rfl (ql_ext tabOk rfl rfl rfl ?_)))
  refine ql_alloc zero177 rfl (fun b6 => ?_)
  (refine ql_set tabOk rfl rfl rfl rfl (by repeat constructor) ?_; refine ql_pure tabOk rfl rfl (q_nil (q_seq (q_block (q_seq (q_region (ql_pure tabOk rfl rfl (ql_neqT tabOk rfl rfl rfl (by omega) (ql_pure tabOk rfl rfl (q_nil (q_cond_true rfl (q_seq ?_))))))))))); refine q_region ?_; (iterate 3 refine ql_pure tabOk rfl rfl ?_); refine q_nil (q_ret ?_))
  refine q_fin tabOk rfl (by repeat constructor) fun w hs => ?_
  exact ⟨rfl, hs.chg0⟩
theorem dsk_take2 (s : Sc) (tv rv : Value) : List.take 18 (List.drop (0 + 4) (dskC s tv rv (firstK s))) = knC (firstK s) := rfl
/-- Where a plan begins. -/
def startN (plan : List Nd) : Int := if plan.length = 0 then -1 else 0
def depP (s : Sc) (plan : List Nd) : Int := folF s plan plan.length (startN plan) (firstK s)
def rpB (s : Sc) (plan : List Nd) : Bool := (List.range plan.length).all (ndB s plan)
theorem rpB_iff {s : Sc} {plan : List Nd} : rpB s plan = true ↔ RpOk s plan := by
  rw [rp_iff]
  simp [rpB]
theorem rdepth_ok (w : World) (lo hi : Nat) (s : Sc) (tv rv vp : Value) (plan : List Nd) (h : ScR w lo hi tv rv s) (hs0 : SOk s) (hr : RdN w lo hi vp plan) (hpl : plan.length ≤ 300) : Ca Tryz.prog 59 [.agg (scC s tv rv).toArray, vp] w fun x w' => x = (if rpB s plan = true then (if depP s plan < 0 then .tuple #[.int .i64 0, .int .i64 8] else .tuple #[.int .i64 (depP s plan), .int .i64 0]) else .tuple #[.int .i64 0, .int .i64 1]) ∧ Chg [] w w' := by
  have hfit := firstK_fit hs0.le
  have hrn := hs0.ok.rn8
  obtain ⟨pa, pcap, rfl, hps⟩ := hr.outI
  obtain ⟨ra, rcap, rfl, _⟩ := h.r.outI
  refine q_of (Sat.nil w M0) Tryz.func59 rfl (by simp [Tryz.ntmps59]) ?_
  (refine q_seq (q_region ?_))
  refine ql_box rfl rfl (fun b2 => ?_)
  rw [agg_cells]
  refine ql_box rfl rfl (fun b3 => ?_)
  (refine ql_pure tabOk rfl rfl (ql_pure tabOk rfl rfl (q_nil (q_seq (q_region ?_)))); refine ql_loadABa tabOk rfl rfl rfl ?_)
  refine ql_call (β := Nat) tabOk [] _ M0 rfl rfl rfl rfl (Sp.refl _) (fun _ h => h.elim) (fun w' hs => rask_ok w' lo hi s tv _ (h.keep hs.chg0) hs0.ok hs0.le) ?_
  rintro bd _ rfl
  dsimp only [List.cons_append, List.nil_append]
  (refine ql_pure tabOk rfl rfl (ql_ext tabOk rfl rfl rfl (ql_ext tabOk rfl rfl rfl ?_)))
  refine ql_alloc zero177 rfl (fun b6 => ?_)
  (refine ql_set tabOk rfl rfl rfl rfl (by repeat constructor) ?_; refine ql_pure tabOk rfl rfl (q_nil (q_seq (q_block (q_seq (q_region (ql_pure tabOk rfl rfl (ql_neqF tabOk rfl rfl rfl (by omega) (ql_pure tabOk rfl rfl (q_nil (q_cond_false rfl (q_seq ?_))))))))))); refine q_region ?_; refine ql_loadBa tabOk rfl rfl rfl ?_; refine ql_pure tabOk rfl rfl (ql_gtrF tabOk rfl rfl rfl (by omega) (ql_pure tabOk rfl rfl (q_nil (q_cond_false rfl (q_skip (q_blk (q_seq (q_seq (q_region ?_))))))))); refine ql_loadBa tabOk rfl rfl rfl ?_; refine ql_pure tabOk rfl rfl (ql_pure tabOk rfl rfl (q_nil (q_block ?_))))
  refine q_loop (σ := Nat) (fun i => i ≤ plan.length ∧ ∀ i', i' < i → ndB s plan i' = true) (fun i => plan.length - i) (fun i => [(2, .pointer (some ⟨b2, 0, none⟩)), (3, .pointer (some ⟨b3, 0, none⟩)), (6, .pointer (some ⟨b6, 0, none⟩)), (27, .slice pa plan.length pcap), (28, .int .i64 plan.length), (29, .int .i64 i)]) (fun _ => [.pt b2 (scC s tv (.slice ra s.rifles.length rcap)) 46, .pt b3 [.slice pa plan.length pcap] 88, .pt b6 [.pointer (some ⟨bd, 0, none⟩)] 177, .pt bd (dskC s tv (.slice ra s.rifles.length rcap) (firstK s)) 184]) 0 ⟨by omega, fun _ h => by omega⟩ ⟨rfl, rfl, rfl, rfl, rfl, rfl, trivial⟩ (by repeat constructor) ?_
  rintro i ⟨hi1, hno⟩ K hK
  (refine q_seq (q_region (ql_pure tabOk rfl rfl (q_nil (q_seq ?_)))))
  refine q_if rfl (fun hc => ?_) (fun hc => ?_)
  · have hil : i < plan.length := by omega
    clear hc
    obtain ⟨pb', po, rfl⟩ := hps (by omega)
    have hnd := ndV_get hil
    (refine q_skip (q_seq (q_block (q_seq (q_region (ql_pure tabOk rfl rfl ?_))))))
    refine ql_index tabOk rfl rfl rfl rfl rfl (by omega) (by omega) ?_
    skip
    refine ql_loadA (cs := [.int .i64 plan[i].r, .int .i64 plan[i].p, .int .i64 plan[i].f]) tabOk rfl rfl rfl rfl (fun w hs q hq => by simpa using RdN.at (RdE.keep hr hs.chg0) i hil q hq) ?_
    skip
    refine ql_alloc zero3 rfl (fun b8 => ?_)
    skip
    refine ql_alloc zero91 rfl (fun b9 => ?_)
    (refine ql_set tabOk rfl rfl rfl rfl (by repeat constructor) ?_; refine ql_setA tabOk rfl rfl rfl rfl rfl (by repeat constructor) rfl ?_; refine q_nil (q_seq (q_region (ql_pure tabOk rfl rfl (ql_pure tabOk rfl rfl (q_nil (q_seq (q_region (ql_pure tabOk rfl rfl ?_)))))))); refine ql_loadBa tabOk rfl rfl rfl ?_; refine ql_pure tabOk rfl rfl ?_; refine ql_loadBa tabOk rfl rfl rfl ?_; refine ql_pure tabOk rfl rfl (ql_ar tabOk rfl rfl rfl rfl (by omega) (by omega) ?_))
    refine ql_callv (val := .bool (inB plan[i].r 0 ((s.rifles.length : Int) - 1))) tabOk rfl rfl rfl rfl (fun w hs => ?_) ?_; exact rfin_ca _ _ _ w
    have hndb : ndB s plan i = (inB plan[i].r 0 ((s.rifles.length : Int) - 1) && (nxB i plan plan[i].p && nxB i plan plan[i].f)) := by unfold ndB; rw [hnd]
    have hbad : ndB s plan i = false → rpB s plan = false := fun e => by
      cases h1 : rpB s plan with
      | false => rfl
      | true =>
        have := rp_iff.1 (rpB_iff.1 h1) i hil
        rw [e] at this
        cases this
    cases h1 : inB plan[i].r 0 ((s.rifles.length : Int) - 1) with
    | false =>
      rw [hbad (by rw [hndb, h1]; rfl)]
      (refine ql_pure tabOk rfl rfl (ql_pure tabOk rfl rfl ?_); (iterate 5 refine ql_gno rfl rfl rfl ?_); refine ql_pure tabOk rfl rfl (ql_pure tabOk rfl rfl ?_); (iterate 5 refine ql_gno rfl rfl rfl ?_); refine ql_pure tabOk rfl rfl (q_nil (q_cond_true rfl (q_seq (q_region (ql_pure tabOk rfl rfl (ql_pure tabOk rfl rfl (q_nil (q_ret ?_)))))))))
      refine q_fin tabOk rfl (by repeat constructor) fun w hs => ?_
      exact ⟨rfl, hs.chg0⟩
    | true =>
      (refine ql_pure tabOk rfl rfl (ql_pure tabOk rfl rfl (ql_gyes rfl (ql_pure tabOk rfl rfl (ql_gyes rfl (ql_pure tabOk rfl rfl (ql_gyes rfl ?_)))))); refine ql_loadBa tabOk rfl rfl rfl ?_; refine ql_gyes rfl ?_)
      refine ql_callFv (val := .bool (nxB i plan plan[i].p)) rfl rfl rfl (fun w' hs => CaF.of tabOk rfl (rnext_ca w' lo hi b8 b3 i plan _ plan[i].p _ _ (hs.blk (b := b8) (by repeat constructor)) (hs.blk (b := b3) (by repeat constructor)) (RdE.keep hr hs.chg0) hpl (by omega))) ?_
      cases h2 : nxB i plan plan[i].p with
      | false =>
        rw [hbad (by rw [hndb, h1, h2]; rfl)]
        (refine ql_gyes rfl ?_; (iterate 3 refine ql_pure tabOk rfl rfl ?_); (iterate 5 refine ql_gno rfl rfl rfl ?_); refine ql_pure tabOk rfl rfl (q_nil (q_cond_true rfl (q_seq (q_region (ql_pure tabOk rfl rfl (ql_pure tabOk rfl rfl (q_nil (q_ret ?_)))))))))
        refine q_fin tabOk rfl (by repeat constructor) fun w hs => ?_
        exact ⟨rfl, hs.chg0⟩
      | true =>
        (refine ql_gyes rfl ?_; (iterate 3 refine ql_pure tabOk rfl rfl ?_); refine ql_gyes rfl (ql_pure tabOk rfl rfl (ql_gyes rfl (ql_pure tabOk rfl rfl (ql_gyes rfl ?_)))); refine ql_loadBa tabOk rfl rfl rfl ?_; refine ql_gyes rfl ?_)
        refine ql_callFv (val := .bool (nxB i plan plan[i].f)) rfl rfl rfl (fun w' hs => CaF.of tabOk rfl (rnext_ca w' lo hi b8 b3 i plan _ plan[i].f _ _ (hs.blk (b := b8) (by repeat constructor)) (hs.blk (b := b3) (by repeat constructor)) (RdE.keep hr hs.chg0) hpl (by omega))) ?_
        cases h3 : nxB i plan plan[i].f with
        | false =>
          rw [hbad (by rw [hndb, h1, h2, h3]; rfl)]
          (refine ql_gyes rfl (ql_pure tabOk rfl rfl (ql_pure tabOk rfl rfl (q_nil (q_cond_true rfl (q_seq (q_region (ql_pure tabOk rfl rfl (ql_pure tabOk rfl rfl (q_nil (q_ret ?_)))))))))))
          refine q_fin tabOk rfl (by repeat constructor) fun w hs => ?_
          exact ⟨rfl, hs.chg0⟩
        | true =>
          (refine ql_gyes rfl (ql_pure tabOk rfl rfl (ql_pure tabOk rfl rfl (q_nil (q_cond_false rfl (q_skip (q_blk (q_region (ql_ar tabOk rfl rfl rfl rfl (by omega) (by omega) (ql_pure tabOk rfl rfl (q_nil ?_)))))))))))
          exact hK (i + 1) _ _ ⟨by omega, fun i' h' => by
            by_cases he : i' = i
            · rw [he, hndb, h1, h2, h3]; rfl
            · exact hno i' (by omega)⟩ (by omega) ⟨rfl, rfl, rfl, rfl, rfl, rfl, trivial⟩ (by repeat constructor)
  · obtain rfl : i = plan.length := by omega
    have hrp : RpOk s plan := rp_iff.2 hno
    rw [if_pos (rpB_iff.2 hrp)]
    (refine q_exit _ rfl (q_seq (q_region ?_)))
    refine ql_alloc zero215 rfl (fun b11 => ?_)
    have hdb := fol_bd s plan plan.length (startN plan) (firstK s)
    have hst : startN plan = -1 ∨ 0 ≤ startN plan ∧ startN plan < plan.length ∧ plan.length ≤ plan.length + (startN plan).toNat := by
      unfold startN
      split <;> omega
    by_cases hz : plan.length = 0
    · have hst2 : startN plan = -1 := by unfold startN; rw [if_pos hz]
      (refine q_nil (q_seq (q_region (ql_pure tabOk rfl rfl ?_))); refine ql_set tabOk rfl rfl rfl rfl (by repeat constructor) ?_; refine q_nil (q_seq (q_region (ql_pure tabOk rfl rfl (q_nil (q_seq (q_seq (q_region ?_))))))); refine ql_loadBa tabOk rfl rfl rfl ?_; refine ql_pure tabOk rfl rfl (ql_eqlT tabOk rfl rfl rfl (by omega) (q_nil (q_cond_true rfl (q_region (ql_pure tabOk rfl rfl (q_nil (q_seq (q_seq ?_)))))))))
      refine q_draw _ [] (Sp.refl _) (by kernel_rfl) (by kernel_rfl) ?_
      (refine qf_loadBa tabOk rfl rfl rfl ?_; refine qf_pure tabOk rfl rfl rfl ?_; refine qf_loadBa tabOk rfl rfl rfl ?_; refine qf_pure tabOk rfl rfl rfl (qf_pure tabOk rfl rfl rfl ?_); refine qf_loadABa tabOk rfl rfl rfl ?_)
      rw [dsk_take2 s tv _]
      refine qf_callFv (val := .int .i64 (depP s plan)) rfl rfl rfl (fun w' hs => CaF.of tabOk rfl (by have := follow_ca lo hi b6 b3 b11 bd s tv _ (firstK s) plan _ hs0.ok hrp hpl plan.length (by omega) (startN plan) (firstK s) w' hst hfit (h.keep hs.chg0) (RdE.keep hr hs.chg0) ⟨⟨_, hs.blk (b := b6) (by repeat constructor)⟩, ⟨_, hs.blk (b := b3) (by repeat constructor)⟩, ⟨_, hs.blk (b := b11) (by repeat constructor)⟩, hs.blk (b := bd) (by repeat constructor)⟩; rw [show folF s plan plan.length (startN plan) (firstK s) = depP s plan from rfl, hst2] at this; exact this)) ?_
      by_cases hneg : depP s plan < 0
      · rw [if_pos hneg]
        (refine qf_pure tabOk rfl rfl rfl (qf_nil (q_seq (q_region (ql_pure tabOk rfl rfl (ql_geqF tabOk rfl rfl rfl (by omega) (q_nil (q_cond_false rfl (q_skip (q_seq (q_region (ql_pure tabOk rfl rfl ?_))))))))))); refine ql_pure tabOk rfl rfl (q_nil (q_ret ?_)))
        refine q_fin tabOk rfl (by repeat constructor) fun w hs => ?_
        exact ⟨rfl, hs.chg0⟩
      · rw [if_neg hneg]
        (refine qf_pure tabOk rfl rfl rfl (qf_nil (q_seq (q_region (ql_pure tabOk rfl rfl (ql_geqT tabOk rfl rfl rfl (by omega) (q_nil (q_cond_true rfl (q_seq (q_region ?_))))))))); (iterate 3 refine ql_pure tabOk rfl rfl ?_); refine q_nil (q_ret ?_))
        refine q_fin tabOk rfl (by repeat constructor) fun w hs => ?_
        exact ⟨rfl, hs.chg0⟩
    · have hst2 : startN plan = 0 := by unfold startN; rw [if_neg hz]
      (refine q_nil (q_seq (q_region (ql_pure tabOk rfl rfl ?_))); refine ql_set tabOk rfl rfl rfl rfl (by repeat constructor) ?_; refine q_nil (q_seq (q_region (ql_pure tabOk rfl rfl (q_nil (q_seq (q_seq (q_region ?_))))))); refine ql_loadBa tabOk rfl rfl rfl ?_; refine ql_pure tabOk rfl rfl (ql_eqlF tabOk rfl rfl rfl (by omega) (q_nil (q_cond_false rfl (q_skip (q_seq (q_seq ?_)))))))
      refine q_draw _ [] (Sp.refl _) (by kernel_rfl) (by kernel_rfl) ?_
      (refine qf_loadBa tabOk rfl rfl rfl ?_; refine qf_pure tabOk rfl rfl rfl ?_; refine qf_loadBa tabOk rfl rfl rfl ?_; refine qf_pure tabOk rfl rfl rfl (qf_pure tabOk rfl rfl rfl ?_); refine qf_loadABa tabOk rfl rfl rfl ?_)
      rw [dsk_take2 s tv _]
      refine qf_callFv (val := .int .i64 (depP s plan)) rfl rfl rfl (fun w' hs => CaF.of tabOk rfl (by have := follow_ca lo hi b6 b3 b11 bd s tv _ (firstK s) plan _ hs0.ok hrp hpl plan.length (by omega) (startN plan) (firstK s) w' hst hfit (h.keep hs.chg0) (RdE.keep hr hs.chg0) ⟨⟨_, hs.blk (b := b6) (by repeat constructor)⟩, ⟨_, hs.blk (b := b3) (by repeat constructor)⟩, ⟨_, hs.blk (b := b11) (by repeat constructor)⟩, hs.blk (b := bd) (by repeat constructor)⟩; rw [show folF s plan plan.length (startN plan) (firstK s) = depP s plan from rfl, hst2] at this; exact this)) ?_
      by_cases hneg : depP s plan < 0
      · rw [if_pos hneg]
        (refine qf_pure tabOk rfl rfl rfl (qf_nil (q_seq (q_region (ql_pure tabOk rfl rfl (ql_geqF tabOk rfl rfl rfl (by omega) (q_nil (q_cond_false rfl (q_skip (q_seq (q_region (ql_pure tabOk rfl rfl ?_))))))))))); refine ql_pure tabOk rfl rfl (q_nil (q_ret ?_)))
        refine q_fin tabOk rfl (by repeat constructor) fun w hs => ?_
        exact ⟨rfl, hs.chg0⟩
      · rw [if_neg hneg]
        (refine qf_pure tabOk rfl rfl rfl (qf_nil (q_seq (q_region (ql_pure tabOk rfl rfl (ql_geqT tabOk rfl rfl rfl (by omega) (q_nil (q_cond_true rfl (q_seq (q_region ?_))))))))); (iterate 3 refine ql_pure tabOk rfl rfl ?_); refine q_nil (q_ret ?_))
        refine q_fin tabOk rfl (by repeat constructor) fun w hs => ?_
        exact ⟨rfl, hs.chg0⟩
end Go.Proofs.YtopdmadgkjdgcaaGreat

/- Walks of rifle: lists compared. The lines are those of ski/K25 for runs, turned. -/
namespace Go.Proofs.YtopdmadgkjdgcaaGreat
set_option maxRecDepth 4000
open Go Go.Eng

theorem node_flat : flatB Tryz.prog 91 [some .i64, some .i64, some .i64] = true := by kernel_rfl
set_option maxHeartbeats 1000000 in
theorem eqN_ca (w : World) (lo hi lo2 hi2 : Nat) (v u : Value) (l : List Nd) (h1 : RdN w lo hi v l) (h2 : RdN w lo2 hi2 u l) (hlen : l.length ≤ 1000000) :
    Ca Tryz.prog 60 [v, u] w fun r w' => r = .bool true ∧ Chg [] w w' := by
  obtain ⟨a, ca, rfl, hsa⟩ := RdN.outI h1
  obtain ⟨b, cb, rfl, hsb⟩ := RdN.outI h2
  refine q_of (Sat.nil w M0) Tryz.func60 rfl (by simp [Tryz.ntmps60]) ?_
  (refine q_seq (q_region (ql_pure tabOk rfl rfl (q_nil (q_seq (q_seq (q_region ?_)))))); (iterate 4 refine ql_pure tabOk rfl rfl ?_); refine ql_neqF tabOk rfl rfl rfl (by omega) (q_nil (q_cond_false rfl (q_skip (q_seq (q_seq (q_region ?_)))))); (iterate 3 refine ql_pure tabOk rfl rfl ?_); refine q_nil (q_block ?_))
  refine q_loop (σ := Nat) (fun s => s ≤ l.length) (fun s => l.length - s) (fun s => [(0, .slice a l.length ca), (1, .slice b l.length cb), (12, .int .i64 l.length), (13, .int .i64 s)]) (fun _ => []) 0 (by omega) ⟨rfl, rfl, rfl, rfl, trivial⟩ (by repeat constructor) ?_
  intro i hi K hK
  (refine q_seq (q_region (ql_pure tabOk rfl rfl (q_nil (q_seq ?_)))))
  refine q_if rfl (fun hc => ?_) (fun hc => ?_)
  · have hi2 : i < l.length := by omega
    clear hc
    obtain ⟨ba, oa, rfl⟩ := hsa (by omega)
    obtain ⟨bb, ob, rfl⟩ := hsb (by omega)
    (refine q_skip (q_seq (q_block (q_seq (q_region (ql_pure tabOk rfl rfl (ql_pure tabOk rfl rfl (q_nil (q_seq ?_)))))))))
    refine q_draw _ [] (Sp.refl _) (by kernel_rfl) (by kernel_rfl) ?_
    (refine qf_pure tabOk rfl rfl rfl (qf_pure tabOk rfl rfl rfl ?_))
    refine qf_index tabOk rfl rfl rfl rfl rfl (by omega) (by omega) ?_
    refine qf_loadA tabOk rfl rfl rfl rfl (fun w hs => RdN.at (RdE.keep h1 hs.chg0) i hi2) ?_
    (refine qf_pure tabOk rfl rfl rfl (qf_pure tabOk rfl rfl rfl ?_))
    refine qf_index tabOk rfl rfl rfl rfl rfl (by omega) (by omega) ?_
    refine qf_loadA tabOk rfl rfl rfl rfl (fun w hs => RdN.at (RdE.keep h2 hs.chg0) i hi2) ?_
    skip
    refine qf_neF [some .i64, some .i64, some .i64] node_flat rfl rfl rfl rfl rfl ?_
    rw [eqL_refl]
    (refine qf_nil (q_cond_false rfl (q_skip (q_blk (q_region (ql_ar tabOk rfl rfl rfl rfl (by omega) (by omega) (ql_pure tabOk rfl rfl (q_nil ?_))))))))
    exact hK (i + 1) _ _ (by omega) (by omega) ⟨rfl, rfl, rfl, rfl, trivial⟩ (by repeat constructor)
  · (refine q_exit _ rfl (q_seq (q_region (ql_pure tabOk rfl rfl (q_nil (q_ret ?_))))))
    refine q_fin tabOk rfl (by repeat constructor) fun w hs => ?_
    exact ⟨rfl, hs.chg0⟩

theorem test_flat : flatB Tryz.prog 78 [some .i64, some .i64] = true := by kernel_rfl
set_option maxHeartbeats 1000000 in
theorem eqTs_ca (w : World) (lo hi lo2 hi2 : Nat) (v u : Value) (l : List (Int × Int)) (h1 : RdS w lo hi v l) (h2 : RdS w lo2 hi2 u l) (hlen : l.length ≤ 1000000) :
    Ca Tryz.prog 126 [v, u] w fun r w' => r = .bool true ∧ Chg [] w w' := by
  obtain ⟨a, ca, rfl, hsa⟩ := RdS.outI h1
  obtain ⟨b, cb, rfl, hsb⟩ := RdS.outI h2
  refine q_of (Sat.nil w M0) Tryz.func126 rfl (by simp [Tryz.ntmps126]) ?_
  (refine q_seq (q_region (ql_pure tabOk rfl rfl (q_nil (q_seq (q_seq (q_region ?_)))))); (iterate 4 refine ql_pure tabOk rfl rfl ?_); refine ql_neqF tabOk rfl rfl rfl (by omega) (q_nil (q_cond_false rfl (q_skip (q_seq (q_seq (q_region ?_)))))); (iterate 3 refine ql_pure tabOk rfl rfl ?_); refine q_nil (q_block ?_))
  refine q_loop (σ := Nat) (fun s => s ≤ l.length) (fun s => l.length - s) (fun s => [(0, .slice a l.length ca), (1, .slice b l.length cb), (12, .int .i64 l.length), (13, .int .i64 s)]) (fun _ => []) 0 (by omega) ⟨rfl, rfl, rfl, rfl, trivial⟩ (by repeat constructor) ?_
  intro i hi K hK
  (refine q_seq (q_region (ql_pure tabOk rfl rfl (q_nil (q_seq ?_)))))
  refine q_if rfl (fun hc => ?_) (fun hc => ?_)
  · have hi2 : i < l.length := by omega
    clear hc
    obtain ⟨ba, oa, rfl⟩ := hsa (by omega)
    obtain ⟨bb, ob, rfl⟩ := hsb (by omega)
    (refine q_skip (q_seq (q_block (q_seq (q_region (ql_pure tabOk rfl rfl (ql_pure tabOk rfl rfl (q_nil (q_seq ?_)))))))))
    refine q_draw _ [] (Sp.refl _) (by kernel_rfl) (by kernel_rfl) ?_
    (refine qf_pure tabOk rfl rfl rfl (qf_pure tabOk rfl rfl rfl ?_))
    refine qf_index tabOk rfl rfl rfl rfl rfl (by omega) (by omega) ?_
    refine qf_loadA tabOk rfl rfl rfl rfl (fun w hs => RdS.at (RdE.keep h1 hs.chg0) i hi2) ?_
    (refine qf_pure tabOk rfl rfl rfl (qf_pure tabOk rfl rfl rfl ?_))
    refine qf_index tabOk rfl rfl rfl rfl rfl (by omega) (by omega) ?_
    refine qf_loadA tabOk rfl rfl rfl rfl (fun w hs => RdS.at (RdE.keep h2 hs.chg0) i hi2) ?_
    skip
    refine qf_neF [some .i64, some .i64] test_flat rfl rfl rfl rfl rfl ?_
    rw [eqL_refl]
    (refine qf_nil (q_cond_false rfl (q_skip (q_blk (q_region (ql_ar tabOk rfl rfl rfl rfl (by omega) (by omega) (ql_pure tabOk rfl rfl (q_nil ?_))))))))
    exact hK (i + 1) _ _ (by omega) (by omega) ⟨rfl, rfl, rfl, rfl, trivial⟩ (by repeat constructor)
  · (refine q_exit _ rfl (q_seq (q_region (ql_pure tabOk rfl rfl (q_nil (q_ret ?_))))))
    refine q_fin tabOk rfl (by repeat constructor) fun w hs => ?_
    exact ⟨rfl, hs.chg0⟩

end Go.Proofs.YtopdmadgkjdgcaaGreat

/- The examples of rifle's chapter, computed. -/
namespace Go.Proofs.YtopdmadgkjdgcaaGreat
set_option maxRecDepth 4000
open Go Go.Eng
def fourS : Sc := ⟨2, 3500, [(1000, 1005), (2000, 2009)], [3510, 3509, 3504, 3506]⟩
def oneS : Sc := ⟨2, 3500, [(1000, 1005)], [3510, 3509, 3504, 3506]⟩
def planN : List Nd := [⟨3, -1, -1⟩]
def fiveH : List Hd := [⟨0, 0, 10⟩, ⟨0, 5, 30⟩, ⟨0, 8, 20⟩, ⟨0, 20, 40⟩, ⟨0, 29, 60⟩]
def twoA : List (List Int) := [[500, 300, 200, 150], [400, 350, 320]]
theorem rw_four : SOk fourS := chkO_zero.1 (by decide +kernel)
theorem rw_one : SOk oneS := chkO_zero.1 (by decide +kernel)
theorem rw_wgt : wgtL fourS 4 = [(3501, 3505), (3500, 3504), (3495, 3499), (3497, 3501)] := by decide +kernel
theorem rw_pas : nI (pasL fourS 4) = [0, 1] := by decide +kernel
theorem rw_opn : nI (openL fourS (firstK fourS)) = [3] := by decide +kernel
theorem rw_rp : rpB fourS planN = true := by decide +kernel
theorem rw_dep : depP fourS planN = 1 := by decide +kernel
theorem rw_few : depV oneS (firstK oneS) = 2 := by decide +kernel
theorem rw_sp : SpOk fiveH 0 60 := chkSp_zero.1 (by decide +kernel)
theorem rw_mk : mkK fiveH 0 60 [0, 10, 30] 3 = true := by decide +kernel
theorem rw_aim : AimOk twoA := chkA_zero.1 (by decide +kernel)
theorem rw_many : manyN twoA = 6 := by decide +kernel
theorem rw_curve : curveL twoA 6 = [900, 700, 600, 550, 500, 470] := by decide +kernel
theorem rw_price : mostV twoA (wtsV twoA 3) = 50 := by decide +kernel
theorem rw_lk : Lk fiveH 60 0 [0, 1, 4] [0, 10, 30] 60 := .step (by decide) (by decide) (by decide) (by decide) (.step (by decide) (by decide) (by decide) (by decide) (.step (by decide) (by decide) (by decide) (by decide) (.done (by decide))))
theorem rw_chn {C : List Int} {e : Int} (h : ChnR fiveH 0 60 C e) : e = 0 ∧ C.length = 3 := by
  rcases h with ⟨h1, hs, ms, h2, h3, h4⟩ | ⟨h1, h2, h3⟩
  · refine ⟨h1, ?_⟩
    have := lk_mono h2 rw_lk (Int.le_refl _) (Int.le_refl _) fun _ h => h
    have := lk_mono rw_lk h2 (Int.le_refl _) (Int.le_refl _) fun _ h => h
    rw [h3.length_eq]
    simp [nI] at *
    omega
  · refine absurd (fun m a b => ?_) h3
    obtain ⟨x, hx, hc⟩ := Lk.gd rw_lk m a b
    obtain ⟨i, hi, rfl⟩ := List.mem_map.1 hx
    have := Lk.idx rw_lk i hi
    exact ⟨_, hdL_mem this, hc⟩
end Go.Proofs.YtopdmadgkjdgcaaGreat

/- Walks of rifle: the examples of the chapter. -/
namespace Go.Proofs.YtopdmadgkjdgcaaGreat
set_option maxRecDepth 4000
open Go Go.Eng
theorem Blk.rdH' {w : World} {b c n : Nat} {l : List Hd} {t : TypeId} (h : Blk w b (hdC l) t) (hn : n = l.length) : RdH w 0 w.heap.size (.slice (some ⟨b, 0, none⟩) n c) l := by
  subst hn
  exact RdH.of (Blk.rdN (sz := 3) h (hdC_length l))
theorem Blk.rdNd {w : World} {b c n : Nat} {l : List Nd} {t : TypeId} (h : Blk w b (nodC l) t) (hn : n = l.length) : RdN w 0 w.heap.size (.slice (some ⟨b, 0, none⟩) n c) l := by
  subst hn
  exact RdN.of (Blk.rdN (sz := 3) h (nodC_length l))
theorem rfour_ca (w : World) : Ca Tryz.prog 98 [] w fun x w' => ∃ y : Nat × Nat, x = .agg (scC fourS (.slice (some ⟨y.1, 0, none⟩) 2 2) (.slice (some ⟨y.2, 0, none⟩) 4 4)).toArray ∧ Sat w M0 [.pt y.1 (spC fourS.tests) 78, .pt y.2 (ints fourS.rifles) 3] w' := by
  refine q_of (Sat.nil w M0) Tryz.func98 rfl (by simp [Tryz.ntmps98]) ?_
  (refine q_seq (q_region ?_))
  refine ql_alloc zero46 rfl (fun b0 => ?_)
  (refine q_nil (q_seq (q_region ?_)))
  refine ql_mk #[.int .i64 1000, .int .i64 1005] rfl (by kernel_rfl) rfl ?_
  skip
  refine ql_mk #[.int .i64 2000, .int .i64 2009] rfl (by kernel_rfl) rfl ?_
  skip
  refine ql_mkS 78 (spC fourS.tests) rfl (by kernel_rfl) rfl (fun c1 => ?_)
  skip
  refine ql_mkS 3 (ints fourS.rifles) rfl (by kernel_rfl) rfl (fun c2 => ?_)
  skip
  refine ql_mk #[.int .i64 2, .int .i64 3500, .slice (some ⟨c1, 0, none⟩) 2 2, .slice (some ⟨c2, 0, none⟩) 4 4] rfl (by kernel_rfl) rfl ?_
  (refine ql_setA tabOk rfl rfl rfl rfl rfl (by repeat constructor) rfl ?_; refine q_nil (q_ret ?_))
  refine q_fin tabOk rfl (by repeat constructor) fun w hs => ?_
  exact ⟨(c1, c2), rfl, hs.sp (by repeat constructor)⟩
theorem rfive_ca (w : World) : Ca Tryz.prog 99 [] w fun x w' => ∃ b : Nat, x = .slice (some ⟨b, 0, none⟩) 5 5 ∧ Sat w M0 [.pt b (hdC fiveH) 28] w' := by
  refine q_of (Sat.nil w M0) Tryz.func99 rfl (by simp [Tryz.ntmps99]) ?_
  (refine q_seq (q_region (ql_pure tabOk rfl rfl (q_nil (q_seq (q_region ?_))))))
  refine ql_mk #[.int .i64 0, .int .i64 0, .int .i64 10] rfl (by kernel_rfl) rfl ?_
  skip
  refine ql_mk #[.int .i64 0, .int .i64 5, .int .i64 30] rfl (by kernel_rfl) rfl ?_
  skip
  refine ql_mk #[.int .i64 0, .int .i64 8, .int .i64 20] rfl (by kernel_rfl) rfl ?_
  skip
  refine ql_mk #[.int .i64 0, .int .i64 20, .int .i64 40] rfl (by kernel_rfl) rfl ?_
  skip
  refine ql_mk #[.int .i64 0, .int .i64 29, .int .i64 60] rfl (by kernel_rfl) rfl ?_
  skip
  refine ql_mkS 28 (hdC fiveH) rfl (by kernel_rfl) rfl (fun c1 => ?_)
  (refine ql_pure tabOk rfl rfl (q_nil (q_ret ?_)))
  refine q_fin tabOk rfl (by repeat constructor) fun w hs => ?_
  exact ⟨c1, rfl, hs.sp (by repeat constructor)⟩
theorem rtwo_ca (w : World) : Ca Tryz.prog 100 [] w fun x w' => ∃ y : Nat × Nat × Nat, x = .slice (some ⟨y.2.2, 0, none⟩) 2 2 ∧ Sat w M0 [.pt y.2.2 [.slice (some ⟨y.1, 0, none⟩) 4 4, .slice (some ⟨y.2.1, 0, none⟩) 3 3] 29, .pt y.2.1 (ints [400, 350, 320]) 3, .pt y.1 (ints [500, 300, 200, 150]) 3] w' := by
  refine q_of (Sat.nil w M0) Tryz.func100 rfl (by simp [Tryz.ntmps100]) ?_
  (refine q_seq (q_region (ql_pure tabOk rfl rfl (q_nil (q_seq (q_region ?_))))))
  refine ql_mkS 3 (ints [500, 300, 200, 150]) rfl (by kernel_rfl) rfl (fun c1 => ?_)
  refine ql_mkS 3 (ints [400, 350, 320]) rfl (by kernel_rfl) rfl (fun c2 => ?_)
  refine ql_mkS 29 [.slice (some ⟨c1, 0, none⟩) 4 4, .slice (some ⟨c2, 0, none⟩) 3 3] rfl (by kernel_rfl) rfl (fun c4 => ?_)
  (refine ql_pure tabOk rfl rfl (q_nil (q_ret ?_)))
  refine q_fin tabOk rfl (by repeat constructor) fun w hs => ?_
  exact ⟨(c1, c2, c4), rfl, hs.sp (by repeat constructor)⟩
theorem rspan_ca (lo hi : Int) (w : World) : Ca Tryz.prog 47 [.int .i64 lo, .int .i64 hi] w fun x w' => x = rtV (lo, hi) ∧ Chg [] w w' := by
  refine q_of (Sat.nil w M0) Tryz.func47 rfl (by simp [Tryz.ntmps47]) ?_
  (refine q_seq (q_region ?_))
  refine ql_alloc zero56 rfl (fun b4 => ?_)
  (refine q_nil (q_seq (q_region (ql_pure tabOk rfl rfl (ql_pure tabOk rfl rfl ?_)))))
  refine ql_mk #[.int .i64 lo, .int .i64 hi] rfl (by kernel_rfl) rfl ?_
  (refine ql_setA tabOk rfl rfl rfl rfl rfl (by repeat constructor) rfl ?_; refine q_nil (q_ret ?_))
  refine q_fin tabOk rfl (by repeat constructor) fun w hs => ?_
  exact ⟨rfl, hs.chg0⟩
theorem blk_II2 {w : World} {c1 c2 c4 : Nat} {t1 t2 t4 : TypeId} {l1 l2 : List Int} {n1 n2 : Nat} (e1 : n1 = l1.length) (e2 : n2 = l2.length) (h1 : Blk w c1 (ints l1) t1) (h2 : Blk w c2 (ints l2) t2)
    (h4 : Blk w c4 [.slice (some ⟨c1, 0, none⟩) n1 n1, .slice (some ⟨c2, 0, none⟩) n2 n2] t4) : RdII w 0 w.heap.size (.slice (some ⟨c4, 0, none⟩) 2 2) [l1, l2] := by
  subst e1 e2
  refine ⟨[.slice (some ⟨c1, 0, none⟩) l1.length l1.length, .slice (some ⟨c2, 0, none⟩) l2.length l2.length], RdE.one (by have := Blk.rdN (c := 2) (sz := 1) (q := 2) h4 rfl; exact this) (by simp [oneV]), rfl, fun i hi hi' => ?_⟩
  obtain rfl | rfl : i = 0 ∨ i = 1 := by simp at hi; omega
  · exact Blk.rdI h1
  · exact Blk.rdI h2
end Go.Proofs.YtopdmadgkjdgcaaGreat

/- Walks of rifle: the laws begin awake. -/
namespace Go.Proofs.YtopdmadgkjdgcaaGreat
set_option maxRecDepth 4000
open Go Go.Eng
theorem Blk.rdS1 {w : World} {b : Nat} {t : TypeId} (h : Blk w b (spC fourS.tests) t) : RdS w 0 w.heap.size (.slice (some ⟨b, 0, none⟩) 1 2) oneS.tests := by
  refine RdS.of ⟨rfl, .inr ⟨b, 0, 2, rfl, fun _ => ⟨Nat.zero_le _, h.lt, h.lt⟩, fun j hj => ?_⟩⟩
  rw [h.cell, Nat.zero_add]
  have hj2 : j < 2 := hj
  obtain rfl | rfl : j = 0 ∨ j = 1 := by omega
  · rfl
  · rfl
set_option maxHeartbeats 4000000 in
set_option maxRecDepth 4000 in
theorem rawake_ca (w : World) : Ca Tryz.prog 23 [] w fun v w' => v = .bool true ∧ Chg [] w w' := by
  refine q_of (Sat.nil w M0) Tryz.func23 rfl (by simp [Tryz.ntmps23]) ?_
  have hF : ∀ w' c1 c2, Blk w' c1 (spC fourS.tests) 78 → Blk w' c2 (ints fourS.rifles) 3 → ScR w' 0 w'.heap.size (.slice (some ⟨c1, 0, none⟩) 2 2) (.slice (some ⟨c2, 0, none⟩) 4 4) fourS := fun w' c1 c2 h1 h2 => ⟨Blk.rdS' h1 rfl, Blk.rdI (l := fourS.rifles) h2⟩
  (refine q_seq (q_region (ql_pure tabOk rfl rfl (q_nil (q_seq (q_region ?_))))))
  refine ql_call (β := Nat × Nat) tabOk [] _ M0 rfl rfl rfl rfl (Sp.refl _) (fun _ h => h.elim) (fun w' hs => rfour_ca w') ?_
  rintro ⟨c1, c2⟩ _ rfl
  dsimp only [List.cons_append, List.nil_append]
  refine ql_call (β := Value) tabOk [] _ M0 rfl rfl rfl rfl (Sp.refl _) (fun _ h => h.elim) (fun w' hs => weights_ok w' 0 w'.heap.size fourS _ _ (hF w' c1 c2 (hs.blk (by repeat constructor)) (hs.blk (by repeat constructor))) rw_four) ?_
  rintro va _ rfl
  rw [show fourS.rifles.length = 4 from rfl, rw_wgt]
  dsimp only [List.cons_append, List.nil_append]
  refine ql_fact (fun w hs => hs.ownSome (v := va) (by repeat constructor) (by decide)) ?_
  rintro ⟨a1, a2, rfl⟩
  (refine ql_pure tabOk rfl rfl (ql_ext tabOk rfl rfl rfl (ql_ext tabOk rfl rfl rfl (ql_pure tabOk rfl rfl (ql_pure tabOk rfl rfl (q_nil (q_seq (q_region ?_))))))))
  refine ql_call (β := Nat × Nat) tabOk [] _ M0 rfl rfl rfl rfl (Sp.refl _) (fun _ h => h.elim) (fun w' hs => rfour_ca w') ?_
  rintro ⟨d1, d2⟩ _ rfl
  dsimp only [List.cons_append, List.nil_append]
  refine ql_call (β := Value) tabOk [] _ M0 rfl rfl rfl rfl (Sp.refl _) (fun _ h => h.elim) (fun w' hs => passed_ok w' 0 w'.heap.size fourS _ _ (hF w' d1 d2 (hs.blk (by repeat constructor)) (hs.blk (by repeat constructor))) rw_four) ?_
  rintro vb _ rfl
  rw [show fourS.rifles.length = 4 from rfl, show (pasL fourS 4).length = 2 from by have := congrArg List.length rw_pas; simpa [nI] using this, rw_pas]
  dsimp only [List.cons_append, List.nil_append]
  refine ql_fact (fun w hs => hs.ownSome (v := vb) (by repeat constructor) (by decide)) ?_
  rintro ⟨b1, b2, rfl⟩
  (refine ql_pure tabOk rfl rfl (ql_ext tabOk rfl rfl rfl (ql_ext tabOk rfl rfl rfl (ql_pure tabOk rfl rfl (ql_pure tabOk rfl rfl (q_nil (q_seq (q_region ?_))))))))
  refine ql_call (β := Nat × Nat) tabOk [] _ M0 rfl rfl rfl rfl (Sp.refl _) (fun _ h => h.elim) (fun w' hs => rfour_ca w') ?_
  rintro ⟨e1, e2⟩ _ rfl
  dsimp only [List.cons_append, List.nil_append]
  refine ql_call (β := Value) tabOk [] _ M0 rfl rfl rfl rfl (Sp.refl _) (fun _ h => h.elim) (fun w' hs => ropen_ok w' 0 w'.heap.size fourS _ _ (hF w' e1 e2 (hs.blk (by repeat constructor)) (hs.blk (by repeat constructor))) rw_four) ?_
  rintro vc _ rfl
  rw [show (openL fourS (firstK fourS)).length = 1 from by have := congrArg List.length rw_opn; simpa [nI] using this, rw_opn]
  dsimp only [List.cons_append, List.nil_append]
  refine ql_fact (fun w hs => hs.ownSome (v := vc) (by repeat constructor) (by decide)) ?_
  rintro ⟨o1, o2, rfl⟩
  (refine ql_pure tabOk rfl rfl (ql_ext tabOk rfl rfl rfl (ql_ext tabOk rfl rfl rfl (ql_pure tabOk rfl rfl (ql_pure tabOk rfl rfl (q_nil (q_seq (q_region ?_))))))))
  refine ql_call (β := Nat × Nat) tabOk [] _ M0 rfl rfl rfl rfl (Sp.refl _) (fun _ h => h.elim) (fun w' hs => rfour_ca w') ?_
  rintro ⟨f1, f2⟩ _ rfl
  dsimp only [List.cons_append, List.nil_append]
  refine ql_mk #[.int .i64 3, .int .i64 (-1), .int .i64 (-1)] rfl (by kernel_rfl) rfl ?_
  refine ql_mkS 91 (nodC planN) rfl (by kernel_rfl) rfl (fun c4 => ?_)
  skip
  refine ql_callv (val := .tuple #[.int .i64 1, .int .i64 0]) tabOk rfl rfl rfl rfl (fun w hs => ?_) ?_; exact by have := rdepth_ok w 0 w.heap.size fourS _ _ _ planN (hF w f1 f2 (hs.blk (by repeat constructor)) (hs.blk (by repeat constructor))) rw_four (Blk.rdNd (c := 1) (n := 1) (hs.blk (b := c4) (by repeat constructor)) rfl) (by decide); rw [rw_rp, rw_dep] at this; exact this
  (refine ql_pure tabOk rfl rfl (ql_ext tabOk rfl rfl rfl (ql_ext tabOk rfl rfl rfl (ql_pure tabOk rfl rfl (ql_pure tabOk rfl rfl (q_nil (q_seq (q_seq (q_region (ql_pure tabOk rfl rfl (ql_neqF tabOk rfl rfl rfl (by omega) (ql_pure tabOk rfl rfl ?_))))))))))); refine ql_gyes rfl (ql_pure tabOk rfl rfl (ql_gyes rfl (ql_neqF tabOk rfl rfl rfl (by omega) (ql_pure tabOk rfl rfl (ql_pure tabOk rfl rfl (ql_gyes rfl (ql_pure tabOk rfl rfl (ql_gyes rfl (ql_neqF tabOk rfl rfl rfl (by omega) (ql_pure tabOk rfl rfl (ql_pure tabOk rfl rfl ?_))))))))))); refine ql_gyes rfl (ql_pure tabOk rfl rfl (ql_gyes rfl (ql_neqF tabOk rfl rfl rfl (by omega) (ql_pure tabOk rfl rfl (ql_pure tabOk rfl rfl (ql_gyes rfl (ql_pure tabOk rfl rfl (ql_gyes rfl ?_)))))))))
  refine ql_callv (val := rtV (3501, 3505)) tabOk rfl rfl rfl rfl (fun w hs => ?_) ?_; exact rspan_ca 3501 3505 w
  refine ql_gyes rfl ?_
  refine ql_callv (val := rtV (3500, 3504)) tabOk rfl rfl rfl rfl (fun w hs => ?_) ?_; exact rspan_ca 3500 3504 w
  refine ql_gyes rfl ?_
  refine ql_callv (val := rtV (3495, 3499)) tabOk rfl rfl rfl rfl (fun w hs => ?_) ?_; exact rspan_ca 3495 3499 w
  refine ql_gyes rfl ?_
  refine ql_callv (val := rtV (3497, 3501)) tabOk rfl rfl rfl rfl (fun w hs => ?_) ?_; exact rspan_ca 3497 3501 w
  refine ql_gyes rfl ?_
  refine ql_mkS 56 (spC [(3501, 3505), (3500, 3504), (3495, 3499), (3497, 3501)]) rfl (by kernel_rfl) rfl (fun c5 => ?_)
  refine ql_gyes rfl ?_
  refine ql_callv (val := .bool true) tabOk rfl rfl rfl rfl (fun w hs => ?_) ?_; exact eqS_ca w 0 w.heap.size 0 w.heap.size _ _ [(3501, 3505), (3500, 3504), (3495, 3499), (3497, 3501)] (own_rdS (t := 56) (hs.mem (c := .ow (.slice (some ⟨a1, 0, none⟩) 4 a2) 56 2 4 (spC [(3501, 3505), (3500, 3504), (3495, 3499), (3497, 3501)])) (by repeat constructor)) rfl) (Blk.rdS' (c := 4) (hs.blk (b := c5) (by repeat constructor)) rfl) (by decide)
  (refine ql_gyes rfl ?_; (iterate 3 refine ql_pure tabOk rfl rfl ?_); refine ql_gyes rfl (ql_pure tabOk rfl rfl (ql_gyes rfl ?_)))
  refine ql_mkS 3 (ints [0, 1]) rfl (by kernel_rfl) rfl (fun c6 => ?_)
  refine ql_gyes rfl ?_
  refine ql_callv (val := .bool true) tabOk rfl rfl rfl rfl (fun w hs => ?_) ?_; exact eqI_ca w 0 w.heap.size 0 w.heap.size _ _ [0, 1] (hs.rdI (v := .slice (some ⟨b1, 0, none⟩) 2 b2) (l := [0, 1]) (t := 3) (n := 2) (by repeat constructor) rfl) (Blk.rdI (c := 2) (l := [0, 1]) (hs.blk (b := c6) (by repeat constructor))) (by decide)
  (refine ql_gyes rfl ?_; (iterate 3 refine ql_pure tabOk rfl rfl ?_); refine ql_gyes rfl (ql_pure tabOk rfl rfl (ql_gyes rfl ?_)))
  refine ql_mkS 3 (ints [3]) rfl (by kernel_rfl) rfl (fun c7 => ?_)
  refine ql_gyes rfl ?_
  refine ql_callv (val := .bool true) tabOk rfl rfl rfl rfl (fun w hs => ?_) ?_; exact eqI_ca w 0 w.heap.size 0 w.heap.size _ _ [3] (hs.rdI (v := .slice (some ⟨o1, 0, none⟩) 1 o2) (l := [3]) (t := 3) (n := 1) (by repeat constructor) rfl) (Blk.rdI (c := 1) (l := [3]) (hs.blk (b := c7) (by repeat constructor))) (by decide)
  (refine ql_gyes rfl ?_; (iterate 3 refine ql_pure tabOk rfl rfl ?_); refine ql_gyes rfl (ql_pure tabOk rfl rfl (ql_gyes rfl (ql_neqF tabOk rfl rfl rfl (by omega) (ql_pure tabOk rfl rfl (q_nil (q_cond_false rfl (q_skip (q_seq (q_region ?_))))))))))
  refine ql_call (β := Nat × Nat) tabOk [] _ M0 rfl rfl rfl rfl (Sp.refl _) (fun _ h => h.elim) (fun w' hs => rfour_ca w') ?_
  rintro ⟨g1, g2⟩ _ rfl
  dsimp only [List.cons_append, List.nil_append]
  skip
  refine ql_alloc zero46 rfl (fun b9 => ?_)
  (refine ql_setA tabOk rfl rfl rfl rfl rfl (by repeat constructor) rfl ?_; refine q_nil (q_seq (q_region (ql_pure tabOk rfl rfl ?_))); refine ql_loadBa tabOk rfl rfl rfl ?_)
  refine ql_sliceTo (et := 78) (sz := 2) (by kernel_rfl) (by kernel_rfl) rfl rfl rfl (by omega) (by omega) ?_
  rw [show Value.slice (if (2 : Nat) = 0 then some (⟨g1, 0, none⟩ : Addr) else (some (⟨g1, 0, none⟩ : Addr)).map (·.add 0)) (1 : Int).toNat 2 = .slice (some ⟨g1, 0, none⟩) 1 2 from rfl]
  (refine ql_pure tabOk rfl rfl ?_; refine ql_st2 tabOk rfl rfl rfl rfl (by repeat constructor) ?_; refine q_nil (q_seq (q_region ?_)); refine ql_loadABa tabOk rfl rfl rfl ?_)
  refine ql_callv (val := .tuple #[.int .i64 2, .int .i64 0]) tabOk rfl rfl rfl rfl (fun w hs => ?_) ?_; exact by have := rfewest_ok w 0 w.heap.size oneS (.slice (some ⟨g1, 0, none⟩) 1 2) (.slice (some ⟨g2, 0, none⟩) 4 4) ⟨Blk.rdS1 (hs.blk (b := g1) (by repeat constructor)), Blk.rdI (l := oneS.rifles) (hs.blk (b := g2) (by repeat constructor))⟩ rw_one; rw [rw_few] at this; exact this
  (refine ql_pure tabOk rfl rfl (ql_ext tabOk rfl rfl rfl (ql_ext tabOk rfl rfl rfl (ql_pure tabOk rfl rfl (ql_pure tabOk rfl rfl (q_nil (q_seq (q_region ?_))))))))
  refine ql_call (β := Nat) tabOk [] _ M0 rfl rfl rfl rfl (Sp.refl _) (fun _ h => h.elim) (fun w' hs => rfive_ca w') ?_
  rintro h1 _ rfl
  dsimp only [List.cons_append, List.nil_append]
  refine ql_call (β := (Value × List Int) × Int) tabOk [] _ M0 rfl rfl rfl rfl (Sp.refl _) (fun _ h => h.elim) (fun w' hs => chn_ok w' 0 w'.heap.size fiveH _ 0 60 (Blk.rdH' (c := 5) (hs.blk (b := h1) (by repeat constructor)) rfl) (by decide) rw_sp) ?_
  rintro ⟨⟨vl, C⟩, e⟩ _ ⟨rfl, hC⟩
  obtain ⟨he, hCl⟩ := rw_chn hC
  dsimp only at he hCl ⊢
  subst he
  rw [hCl]
  dsimp only [List.cons_append, List.nil_append]
  refine ql_fact (fun w hs => hs.ownSome (v := vl) (by repeat constructor) (by decide)) ?_
  rintro ⟨l1, l2, rfl⟩
  (refine ql_pure tabOk rfl rfl (ql_ext tabOk rfl rfl rfl (ql_ext tabOk rfl rfl rfl (ql_pure tabOk rfl rfl (ql_pure tabOk rfl rfl (q_nil (q_seq (q_region ?_))))))))
  refine ql_call (β := Nat) tabOk [] _ M0 rfl rfl rfl rfl (Sp.refl _) (fun _ h => h.elim) (fun w' hs => rfive_ca w') ?_
  rintro h2 _ rfl
  dsimp only [List.cons_append, List.nil_append]
  refine ql_mkS 3 (ints [0, 10, 30]) rfl (by kernel_rfl) rfl (fun c8 => ?_)
  skip
  refine ql_callv (val := .tuple #[.bool true, .int .i64 0]) tabOk rfl rfl rfl rfl (fun w hs => ?_) ?_; exact by have := mks_ok w 0 w.heap.size 0 w.heap.size fiveH _ _ [0, 10, 30] 0 60 (Blk.rdH' (c := 5) (hs.blk (b := h2) (by repeat constructor)) rfl) (Blk.rdI (c := 3) (l := [0, 10, 30]) (hs.blk (b := c8) (by repeat constructor))) (by decide) rw_sp; rw [show ([0, 10, 30] : List Int).length = 3 from rfl, rw_mk] at this; exact this
  (refine ql_pure tabOk rfl rfl (ql_ext tabOk rfl rfl rfl (ql_ext tabOk rfl rfl rfl (ql_pure tabOk rfl rfl (ql_pure tabOk rfl rfl (q_nil (q_seq (q_region ?_))))))))
  have hT : ∀ w' x1 x2 x4, Blk w' x4 [.slice (some ⟨x1, 0, none⟩) 4 4, .slice (some ⟨x2, 0, none⟩) 3 3] 29 → Blk w' x2 (ints [400, 350, 320]) 3 → Blk w' x1 (ints [500, 300, 200, 150]) 3 → RdII w' 0 w'.heap.size (.slice (some ⟨x4, 0, none⟩) 2 2) twoA := fun w' x1 x2 x4 h4 h2 h1 => blk_II2 (l1 := [500, 300, 200, 150]) (l2 := [400, 350, 320]) rfl rfl h1 h2 h4
  refine ql_call (β := Nat × Nat × Nat) tabOk [] _ M0 rfl rfl rfl rfl (Sp.refl _) (fun _ h => h.elim) (fun w' hs => rtwo_ca w') ?_
  rintro ⟨x1, x2, x4⟩ _ rfl
  dsimp only [List.cons_append, List.nil_append]
  refine ql_call (β := Value) tabOk [] _ M0 rfl rfl rfl rfl (Sp.refl _) (fun _ h => h.elim) (fun w' hs => acurve_ok w' 0 w'.heap.size _ twoA (hT w' x1 x2 x4 (hs.blk (by repeat constructor)) (hs.blk (by repeat constructor)) (hs.blk (by repeat constructor))) rw_aim) ?_
  rintro vk _ rfl
  rw [rw_many, rw_curve]
  dsimp only [List.cons_append, List.nil_append]
  refine ql_fact (fun w hs => hs.ownSome (v := vk) (by repeat constructor) (by decide)) ?_
  rintro ⟨k1, k2, rfl⟩
  (refine ql_pure tabOk rfl rfl (ql_ext tabOk rfl rfl rfl (ql_ext tabOk rfl rfl rfl (ql_pure tabOk rfl rfl (ql_pure tabOk rfl rfl (q_nil (q_seq (q_region ?_))))))))
  refine ql_call (β := Nat × Nat × Nat) tabOk [] _ M0 rfl rfl rfl rfl (Sp.refl _) (fun _ h => h.elim) (fun w' hs => rtwo_ca w') ?_
  rintro ⟨y1, y2, y4⟩ _ rfl
  dsimp only [List.cons_append, List.nil_append]
  refine ql_callv (val := .tuple #[.int .i64 50, .int .i64 0]) tabOk rfl rfl rfl rfl (fun w hs => ?_) ?_; exact by have := aprice_ok w 0 w.heap.size _ twoA 3 (hT w y1 y2 y4 (hs.blk (by repeat constructor)) (hs.blk (by repeat constructor)) (hs.blk (by repeat constructor))) rw_aim (by decide); rw [rw_price] at this; exact this
  (refine ql_pure tabOk rfl rfl (ql_ext tabOk rfl rfl rfl (ql_ext tabOk rfl rfl rfl (ql_pure tabOk rfl rfl (ql_pure tabOk rfl rfl (q_nil (q_seq (q_region (ql_pure tabOk rfl rfl (ql_eqlT tabOk rfl rfl rfl (by omega) (ql_pure tabOk rfl rfl (ql_gyes rfl ?_))))))))))); refine ql_pure tabOk rfl rfl (ql_gyes rfl (ql_eqlT tabOk rfl rfl rfl (by omega) (ql_pure tabOk rfl rfl (ql_pure tabOk rfl rfl (ql_gyes rfl (ql_pure tabOk rfl rfl (ql_gyes rfl (ql_eqlT tabOk rfl rfl rfl (by omega) (ql_pure tabOk rfl rfl (ql_pure tabOk rfl rfl (ql_gyes rfl ?_))))))))))); refine ql_pure tabOk rfl rfl (ql_gyes rfl (ql_eqlT tabOk rfl rfl rfl (by omega) (ql_pure tabOk rfl rfl (ql_pure tabOk rfl rfl (ql_gyes rfl (ql_pure tabOk rfl rfl (ql_gyes rfl (ql_eqlT tabOk rfl rfl rfl (by omega) (ql_pure tabOk rfl rfl (ql_pure tabOk rfl rfl (ql_gyes rfl ?_))))))))))); refine ql_pure tabOk rfl rfl (ql_gyes rfl (ql_eqlT tabOk rfl rfl rfl (by omega) (ql_pure tabOk rfl rfl (ql_pure tabOk rfl rfl (ql_gyes rfl (ql_pure tabOk rfl rfl (ql_gyes rfl (ql_pure tabOk rfl rfl (ql_gyes rfl (ql_eqlT tabOk rfl rfl rfl (by omega) (ql_pure tabOk rfl rfl ?_))))))))))); refine ql_pure tabOk rfl rfl (ql_gyes rfl ?_); (iterate 3 refine ql_pure tabOk rfl rfl ?_); refine ql_gyes rfl (ql_pure tabOk rfl rfl (ql_gyes rfl ?_)))
  refine ql_mkS 3 (ints [900, 700, 600, 550, 500, 470]) rfl (by kernel_rfl) rfl (fun c9 => ?_)
  refine ql_gyes rfl ?_
  refine ql_callv (val := .bool true) tabOk rfl rfl rfl rfl (fun w hs => ?_) ?_; exact eqI_ca w 0 w.heap.size 0 w.heap.size _ _ [900, 700, 600, 550, 500, 470] (hs.rdI (v := .slice (some ⟨k1, 0, none⟩) 6 k2) (l := [900, 700, 600, 550, 500, 470]) (t := 3) (n := 6) (by repeat constructor) rfl) (Blk.rdI (c := 6) (l := [900, 700, 600, 550, 500, 470]) (hs.blk (b := c9) (by repeat constructor))) (by decide)
  (refine ql_pure tabOk rfl rfl (ql_pure tabOk rfl rfl (ql_gyes rfl (ql_pure tabOk rfl rfl (ql_gyes rfl (ql_eqlT tabOk rfl rfl rfl (by omega) (ql_pure tabOk rfl rfl (ql_pure tabOk rfl rfl (q_nil (q_ret ?_))))))))))
  refine q_fin tabOk rfl (by repeat constructor) fun w hs => ?_
  exact ⟨rfl, hs.chg0⟩
end Go.Proofs.YtopdmadgkjdgcaaGreat

/- Walks: labs are copied, and get a run more. -/
namespace Go.Proofs.YtopdmadgkjdgcaaGreat
set_option maxRecDepth 4000
open Go Go.Eng

def tD3_563eb24 : OT := chainT [0, 1, 2, 3, 4, 5, 6, 7, 8] (.nil)
end Go.Proofs.YtopdmadgkjdgcaaGreat

/- Lists of labs, and what is told of them. -/
namespace Go.Proofs.YtopdmadgkjdgcaaGreat
set_option maxRecDepth 4000
open Go Go.Eng

abbrev LbM := Lb × Option Addr × Nat
def labCs (M : List LbM) : List Value := M.flatMap fun m => [.int .i64 m.1.skis, .int .i64 m.1.err, .slice m.2.1 m.1.runs.length m.2.2]
def labOs (t : Nat) (M : List LbM) : List Ck := M.map fun m => .ow (.slice m.2.1 m.1.runs.length m.2.2) t 3 m.1.runs.length (rnC m.1.runs)
/-- Places that were told. -/
def plOs (t : Nat) (M : List LbM) (ps : List Value) : List Ck := (M.zip ps).map fun x => .ow x.2 t 2 x.1.1.n (spC (plC x.1.1 x.1.1.ord x.1.1.n))
/-- An array that is filled. -/
def filA (f : Nat → Int) (n j : Nat) : List Int := (List.range n).map fun i => if i < j then f i else 0
def lbM (M : List LbM) (i : Nat) : Lb := (M.getD i (⟨0, 0, []⟩, none, 0)).1
def oM (M : List LbM) (i : Nat) : Int := cnt (lbM M i).ord (lbM M i).n (2 ^ (lbM M i).n - 1)
def rM (M : List LbM) (k i : Nat) : Int := (planO (lbM M i).n k (lbM M i).ord : Nat)
/-- What all labs of a list have. -/
structure AllOk (sk : Nat) (m : LbM) : Prop where
  ok : m.1.Ok
  noC : NoC m.1.ord m.1.n
  skis : m.1.skis = (sk : Int)
theorem AllOk.n {sk : Nat} {m : LbM} (h : AllOk sk m) : m.1.n = sk := by unfold Lb.n; rw [h.skis]; omega
end Go.Proofs.YtopdmadgkjdgcaaGreat

/- Walks: all pairs of skis of which one is faster; whether a pair is among them. -/
namespace Go.Proofs.YtopdmadgkjdgcaaGreat
set_option maxRecDepth 4000
open Go Go.Eng

/-- The pairs with a faster ski of a list of skis. -/
def prA (o n : Nat) (L : List Nat) : List (Int × Int) := L.flatMap fun a => ((List.range n).filter fun b => fa o a b).map fun (b : Nat) => ((a : Int), (b : Int))
/-- All pairs of skis of which one is faster. -/
def fasL (o n : Nat) : List (Int × Int) := prA o n (List.range n)
/-- Those of the skis ahead of the k-th one, and the first ones of its own. -/
def fasI (o n a b : Nat) : List (Int × Int) := prA o n (List.range a) ++ ((List.range b).filter fun b => fa o a b).map fun (b : Nat) => ((a : Int), (b : Int))
/-- Where a pair is, or -1. -/
def idxP (L : List (Int × Int)) (p : Int × Int) : Int := if p ∈ L then (L.idxOf p : Int) else -1
end Go.Proofs.YtopdmadgkjdgcaaGreat

/- The plain law of SkiEnded. -/
namespace Go.Proofs.YtopdmadgkjdgcaaGreat
set_option maxRecDepth 4000

/-- Further runs that show a ski to be faster than all that are not faster than it. -/
def earL (l : Lb) (x : Nat) : Nat → Lb
  | 0 => l
  | k + 1 => if k = x ∨ fa l.ord k x = true then earL l x k else (earL l x k).add ⟨x, k, (earL l x k).err + 1⟩
def latL (l : Lb) (x : Nat) : Nat → Lb
  | 0 => l
  | k + 1 => if k = x ∨ fa l.ord x k = true then latL l x k else (latL l x k).add ⟨k, x, (latL l x k).err + 1⟩
theorem run_more {e : Int} {a b : Nat} (he : 0 ≤ e) : runV e ⟨a, b, e + 1⟩ = some (a, b) := by
  unfold runV
  rw [if_pos (show e < e + 1 by omega), Int.toNat_natCast, Int.toNat_natCast]
structure More (l m : Lb) (k : Nat) (R : Nat × Nat → Prop) : Prop where
  sk : m.skis = l.skis
  err : m.err = l.err
  ok : m.Ok
  len : m.runs.length ≤ l.runs.length + k
  has : ∀ p, p ∈ m.pairs ↔ p ∈ l.pairs ∨ R p
theorem More.n {l m : Lb} {k : Nat} {R : Nat × Nat → Prop} (h : More l m k R) : m.n = l.n := by unfold Lb.n; rw [h.sk]
theorem More.le {l m : Lb} {k : Nat} {R : Nat × Nat → Prop} (h : More l m k R) (hl : l.Ok) : LeO l.ord m.ord := order_le hl.in8 h.ok.in8 fun p hp => (h.has p).2 (.inl hp)
theorem More.add {l m : Lb} {k a b : Nat} {R R' : Nat × Nat → Prop} (h : More l m k R) (ha : a < l.n) (hb : b < l.n) (hne : a ≠ b) (hlen : l.runs.length + k < 40) (hR : ∀ p, R' p ↔ R p ∨ p = (a, b)) : More l (m.add ⟨a, b, m.err + 1⟩) (k + 1) R' := by
  have hs0 := h.ok.s0
  have hs1 := h.ok.s1
  have he0 := h.ok.e0
  have he1 := h.ok.e1
  have hsk := h.sk
  have hl := h.len
  have ha2 : (a : Int) < m.skis := by unfold Lb.n at ha; omega
  have hb2 : (b : Int) < m.skis := by unfold Lb.n at hb; omega
  refine ⟨h.sk, h.err, h.ok.add (by omega) (run_ok (by omega) (by omega) (by omega) (by omega)), ?_, fun p => ?_⟩
  · show (m.runs ++ [_]).length ≤ _
    rw [List.length_append, List.length_singleton]
    omega
  · rw [add_pairs, run_more he0, hR, List.mem_append, h.has]
    simp only [Option.toList, List.mem_singleton]
    exact or_assoc
theorem More.up {l m : Lb} {k : Nat} {R R' : Nat × Nat → Prop} (h : More l m k R) (hR : ∀ p, R' p ↔ R p) : More l m (k + 1) R' :=
  ⟨h.sk, h.err, h.ok, by have := h.len; omega, fun p => by rw [h.has, hR]⟩
theorem More.start {l : Lb} {R : Nat × Nat → Prop} (h : l.Ok) (hR : ∀ p, ¬ R p) : More l l 0 R := ⟨rfl, rfl, h, by omega, fun p => by simp [hR p]⟩
end Go.Proofs.YtopdmadgkjdgcaaGreat

/- Labs that grow, and what is read of them. -/
namespace Go.Proofs.YtopdmadgkjdgcaaGreat
set_option maxRecDepth 4000
open Go Go.Eng

/-- The slice of a lab's runs. -/
abbrev slV (m : LbM) : Value := .slice m.2.1 m.1.runs.length m.2.2
end Go.Proofs.YtopdmadgkjdgcaaGreat

/- The engine, part B41: an empty list that is no nil, of structs. -/
namespace Go.Eng
set_option maxRecDepth 4000
open Go Go.RowKit
section
variable {P : Program} {T : Tab} {ro : Cx} {n : Nat} {F : Fin} {w0 : World} {M : Nat → Prop} {k : List It} {ops : Array Oper} {rest : List Oper} {e : Env} {H Hq : List Ck}
end
end Go.Eng

/- Walks of rifle: guards that are made; lists of holds copied. -/
namespace Go.Proofs.YtopdmadgkjdgcaaGreat
set_option maxRecDepth 4000
open Go Go.Eng
/-- What a made guard is. -/
structure GrdL (most : Nat) (l : List Hd) : Prop where
  n1 : 1 ≤ l.length
  n2 : l.length ≤ most
  all : ∀ h ∈ l, (0 ≤ h.who ∧ h.who ≤ 99) ∧ (0 ≤ h.f ∧ h.f ≤ h.t) ∧ h.t ≤ 1000
theorem GrdL.ok {most : Nat} {l : List Hd} (h : GrdL most l) (hm : most ≤ 30) : GOk l := ⟨h.n1, by have := h.n2; omega, fun x hx => by have := h.all x hx; omega⟩
end Go.Proofs.YtopdmadgkjdgcaaGreat

/- Walks of rifle: scales that are made. -/
namespace Go.Proofs.YtopdmadgkjdgcaaGreat
set_option maxRecDepth 4000
open Go Go.Eng
/-- What a made scale is: the offset that it really has, and each rifle's weight and reading. -/
structure MadS (most : Nat) (s : Sc) (o : Int) (X : List (Int × Int)) : Prop where
  err : 0 ≤ s.err ∧ s.err ≤ 7
  least : s.least = 3500
  off : -15 ≤ o ∧ o ≤ 15
  tn : s.tests.length ≤ 3
  tst : ∀ t ∈ s.tests, (1000 ≤ t.1 ∧ t.1 ≤ 4900) ∧ -s.err ≤ t.2 - t.1 - o ∧ t.2 - t.1 - o ≤ s.err
  n1 : 1 ≤ X.length
  n2 : X.length ≤ most
  rif : s.rifles = X.map (·.2)
  rifle : ∀ p ∈ X, (3475 ≤ p.1 ∧ p.1 ≤ 3525) ∧ -s.err ≤ p.2 - p.1 - o ∧ p.2 - p.1 - o ≤ s.err
theorem slT : SlT Tryz.prog 44 78 2 16 (.agg #[.int .i64 0, .int .i64 0]) := ⟨by kernel_rfl, by kernel_rfl, by kernel_rfl, by decide⟩
theorem spC_snoc2 (l : List (Int × Int)) (r : Int × Int) : spC (l ++ [r]) = spC l ++ [.int .i64 r.1, .int .i64 r.2] := by simp [spC]
end Go.Proofs.YtopdmadgkjdgcaaGreat

/- Walks of rifle: tests that contradict each other. -/
namespace Go.Proofs.YtopdmadgkjdgcaaGreat
set_option maxRecDepth 4000
open Go Go.Eng
def tstN (s : Sc) (i : Nat) : Int × Int := s.tests.getD i (0, 0)
/-- Do two tests allow no offset in common? -/
def clB (s : Sc) (i k : Nat) : Bool := decide ((comV (alwV s (tstN s i)) (alwV s (tstN s k))).2 < (comV (alwV s (tstN s i)) (alwV s (tstN s k))).1)
def ClR (s : Sc) (i k : Nat) (e : Int) : Prop := (e = 6 ∧ i = 0 ∧ k = 0 ∧ ∀ a b, a ≤ b → b < s.tests.length → clB s a b = false) ∨ (e = 0 ∧ i ≤ k ∧ k < s.tests.length ∧ clB s i k = true ∧ ∀ a b, a ≤ b → b < s.tests.length → (a < i ∨ a = i ∧ b < k) → clB s a b = false)
def tF23_bb62d8e : OT := .alt (chainT [10, 11, 12] (.nil)) (chainT [11, 10, 12] (.nil))
def tF23_827570c : OT := .alt (chainT [3, 4, 5, 6, 7, 8, 9] (tF23_bb62d8e)) (chainT [11, 3, 4, 5, 6, 7, 8, 9, 10, 12] (.nil))
def tF23_6a6effc : OT := .alt (chainT [0, 1, 2] (tF23_827570c)) (chainT [11, 0, 1, 2, 3, 4, 5, 6, 7, 8, 9, 10, 12] (.nil))
end Go.Proofs.YtopdmadgkjdgcaaGreat

/- Walks of rifle: whether a number is in a list; spans; what a made scale shows. -/
namespace Go.Proofs.YtopdmadgkjdgcaaGreat
set_option maxRecDepth 4000
open Go Go.Eng
end Go.Proofs.YtopdmadgkjdgcaaGreat

/- Walks of rifle: scales copied. -/
namespace Go.Proofs.YtopdmadgkjdgcaaGreat
set_option maxRecDepth 4000
open Go Go.Eng
theorem spC_one (l : List (Int × Int)) : ∀ c ∈ spC l, oneV c = true := fun c hc => by obtain ⟨y, _, hy⟩ := List.mem_flatMap.1 hc; simp at hy; rcases hy with rfl | rfl <;> rfl
theorem cloneTs_ca (w : World) (lo hi : Nat) (v : Value) (l : List (Int × Int)) (h : RdS w lo hi v l) (hlen : l.length ≤ 1000) : Ca Tryz.prog 108 [v] w fun x w' => ∃ u : Value, x = u ∧ Sat w M0 [.ow u 78 2 l.length (spC l)] w' := by
  obtain ⟨a, c, rfl, ha⟩ := RdS.outI h
  refine q_of (Sat.nil w M0) Tryz.func108 rfl (by simp [Tryz.ntmps108]) ?_
  refine q_conv (H' := [.ow (.slice none 0 0) 78 2 0 (spC [])]) (fun w' hs => Sat.ownil hs 78 2) ?_
  (refine q_seq (q_region (ql_pure tabOk rfl rfl (q_nil (q_seq (q_region (ql_pure tabOk rfl rfl ?_)))))))
  refine ql_append (q := l.length) (news := spC l) slT rfl rfl rfl (fun v' => by repeat constructor) (fun w' hs => ⟨_, _, RdS.row (RdE.keep h hs.chg0)⟩) (spC_one l) (by omega) (by omega) (fun u' => ?_)
  (refine ql_pure tabOk rfl rfl (q_nil (q_ret ?_)))
  refine q_fin tabOk rfl (by repeat constructor) fun w hs => ?_
  exact ⟨u', rfl, hs.sp (by simp only [spC, List.flatMap_nil, List.nil_append, Nat.zero_add]; repeat constructor)⟩
def tF25_6b4554a : OT := chainT [0, 1, 2, 3, 4, 5, 6, 7, 8, 9, 10, 11] (.nil)
theorem clone7_ca (w : World) (lo hi : Nat) (s : Sc) (tv rv : Value) (h : ScR w lo hi tv rv s) (hl1 : s.tests.length ≤ 1000) (hl2 : s.rifles.length ≤ 1000) : Ca Tryz.prog 30 [.agg (scC s tv rv).toArray] w fun x w' => ∃ y : Value × Value, x = .agg (scC s y.1 y.2).toArray ∧ Sat w M0 [.ow y.1 78 2 s.tests.length (spC s.tests), .ow y.2 3 1 s.rifles.length (ints s.rifles)] w' := by
  obtain ⟨ta, tc, rfl, _⟩ := RdS.outI h.t
  obtain ⟨ra, rc, rfl, _⟩ := RdI.outI h.r
  refine q_of (Sat.nil w M0) Tryz.func30 rfl (by simp [Tryz.ntmps30]) ?_
  (refine q_seq (q_region ?_))
  refine ql_box rfl rfl (fun b1 => ?_)
  rw [agg_cells]
  skip
  refine ql_alloc zero46 rfl (fun b2 => ?_)
  (refine q_nil (q_seq ?_))
  refine q_cut (σ := Value × Value) (fun y => [(2, .pointer (some ⟨b2, 0, none⟩))])
      (fun y => [.pt b2 (scC s y.1 y.2) 46, .ow y.1 78 2 s.tests.length (spC s.tests), .ow y.2 3 1 s.rifles.length (ints s.rifles)]) ?_ ?_
  rotate_left
  · intro K2 hK2
    refine q_drawT (tF25_6b4554a) _ [.pt b2 [.int .i64 0, .int .i64 0, .slice none 0 0, .slice none 0 0] 46] (Sp.cons (by repeat constructor) (Sp.refl _)) (by kernel_rfl) (by kernel_rfl) ?_
    refine qt_seg (by repeat (first | exact PickL.nil | (apply PickL.cons; rfl))) fun K1 hK1 => ?_
    (refine qf_pure tabOk rfl rfl rfl ?_; refine qf_loadBa tabOk rfl rfl rfl ?_; refine qf_pure tabOk rfl rfl rfl ?_; refine qf_loadBa tabOk rfl rfl rfl ?_; refine qf_pure tabOk rfl rfl rfl ?_; refine qf_loadBa tabOk rfl rfl rfl ?_)
    refine qf_call (β := Value) (ψ := fun u x => x = u) (L' := fun u => [.ow u 78 2 s.tests.length (spC s.tests)]) tabOk [] _ M0 rfl rfl rfl rfl (Sp.refl _) (fun _ h => h.elim) (fun w' hs => cloneTs_ca w' lo hi _ s.tests (RdE.keep h.t hs.chg0) hl1) ?_
    rintro _ u1 hu1
    subst hu1
    dsimp only [List.cons_append, List.nil_append]
    refine qf_fact (fun w hs => hs.slice2 (v := u1) (by repeat constructor)) ?_
    rintro ⟨a1, c1, rfl⟩
    (refine qf_pure tabOk rfl rfl rfl ?_; refine qf_loadBa tabOk rfl rfl rfl ?_)
    refine qf_call (β := Value) (ψ := fun u x => x = u) (L' := fun u => [.ow u 3 1 s.rifles.length (ints s.rifles)]) tabOk [] _ M0 rfl rfl rfl rfl (Sp.refl _) (fun _ h => h.elim) (fun w' hs => cloneI_ca w' lo hi _ s.rifles (RdE.keep h.r hs.chg0) (by omega)) ?_
    rintro _ u2 hu2
    subst hu2
    dsimp only [List.cons_append, List.nil_append]
    refine qf_fact (fun w hs => hs.slice2 (v := u2) (by repeat constructor)) ?_
    rintro ⟨a2, c2, rfl⟩
    skip
    refine qf_mk #[.int .i64 s.err, .int .i64 s.least, .slice a1 s.tests.length c1, .slice a2 s.rifles.length c2] rfl (by kernel_rfl) rfl ?_
    (refine qf_setA tabOk rfl rfl rfl rfl rfl (by repeat constructor) rfl ?_; refine qf_nil ?_)
    exact hK1 _ _ (qt_nil (hK2 (.slice a1 s.tests.length c1, .slice a2 s.rifles.length c2) _ _ ⟨rfl, trivial⟩ (by repeat constructor)))
  rintro ⟨u1, u2⟩
  (refine q_ret ?_)
  refine q_fin tabOk rfl (by repeat constructor) fun w hs => ?_
  exact ⟨(u1, u2), rfl, hs.sp (by repeat constructor)⟩
end Go.Proofs.YtopdmadgkjdgcaaGreat

/- Walks of rifle: spans in spans. -/
namespace Go.Proofs.YtopdmadgkjdgcaaGreat
set_option maxRecDepth 4000
open Go Go.Eng
end Go.Proofs.YtopdmadgkjdgcaaGreat

/- The engine, part B42: Bools compared, unequal, in regions that draw. -/
namespace Go.Eng
set_option maxRecDepth 4000
open Go Go.RowKit
section
variable {P : Program} {ro : Cx} {n : Nat} {F : Fin} {w0 : World} {M : Nat → Prop} {k : List It} {ops : Array Oper} {rest : List Oper} {e : Env} {H Hq : List Ck}
end
end Go.Eng

/- The engine, part B43: a struct is stored into an own row. -/
namespace Go.Eng
set_option maxRecDepth 4000
open Go Go.RowKit
section
variable {P : Program} {T : Tab} {ro : Cx} {n : Nat} {F : Fin} {w0 : World} {M : Nat → Prop} {k : List It} {ops : Array Oper} {rest : List Oper} {e : Env} {H Hq : List Ck}
end
end Go.Eng

/- Walks of rifle: tests told backwards. -/
namespace Go.Proofs.YtopdmadgkjdgcaaGreat
set_option maxRecDepth 4000
open Go Go.Eng
end Go.Proofs.YtopdmadgkjdgcaaGreat

/- The engine, part B44: pieces told otherwise in a region that draws; the least of three numbers. -/
namespace Go.Eng
set_option maxRecDepth 4000
open Go Go.RowKit
section
variable {P : Program} {T : Tab} {ro : Cx} {n : Nat} {F : Fin} {w0 : World} {M : Nat → Prop} {k : List It} {ops : Array Oper} {rest : List Oper} {e : Env} {H H' Hq : List Ck}
end
end Go.Eng

/- Walks of the reference: which scales are right; the offsets that tests allow, as a list; the span of such a list. -/
namespace Go.Proofs.YtopdmadgkjdgcaaGreat
set_option maxRecDepth 4000
open Go Go.Eng
theorem slBo : SlT Tryz.prog 76 4 1 1 (.bool false) := ⟨by kernel_rfl, by kernel_rfl, rfl, by omega⟩
theorem routs_ca (n a b : Int) (w : World) : Ca Tryz.prog 114 [.int .i64 n, .int .i64 a, .int .i64 b] w fun v w' => v = .bool (!(inB n a b)) ∧ Chg [] w w' := by
  refine q_of (Sat.nil w M0) Tryz.func114 rfl (by simp [Tryz.ntmps114]) ?_
  by_cases h1 : n < a
  · have e : inB n a b = false := by simp [inB]; omega
    rw [e]
    (refine q_seq (q_region (ql_pure tabOk rfl rfl (q_nil (q_seq (q_region (ql_pure tabOk rfl rfl (ql_pure tabOk rfl rfl (ql_lssT tabOk rfl rfl rfl (by omega) (ql_pure tabOk rfl rfl ?_))))))))); (iterate 3 refine ql_gno rfl rfl rfl ?_); refine ql_pure tabOk rfl rfl (ql_pure tabOk rfl rfl (q_nil (q_ret ?_))))
    refine q_fin tabOk rfl (by repeat constructor) fun w hs => ?_
    exact ⟨rfl, hs.chg0⟩
  · by_cases h2 : b < n
    · have e : inB n a b = false := by simp [inB]; omega
      rw [e]
      (refine q_seq (q_region (ql_pure tabOk rfl rfl (q_nil (q_seq (q_region (ql_pure tabOk rfl rfl (ql_pure tabOk rfl rfl (ql_lssF tabOk rfl rfl rfl (by omega) (ql_pure tabOk rfl rfl (ql_gyes rfl (ql_pure tabOk rfl rfl ?_))))))))))); refine ql_gyes rfl (ql_pure tabOk rfl rfl (ql_gyes rfl (ql_gtrT tabOk rfl rfl rfl (by omega) (ql_pure tabOk rfl rfl (ql_pure tabOk rfl rfl (q_nil (q_ret ?_))))))))
      refine q_fin tabOk rfl (by repeat constructor) fun w hs => ?_
      exact ⟨rfl, hs.chg0⟩
    · have e : inB n a b = true := inB_iff.2 (by omega)
      rw [e]
      (refine q_seq (q_region (ql_pure tabOk rfl rfl (q_nil (q_seq (q_region (ql_pure tabOk rfl rfl (ql_pure tabOk rfl rfl (ql_lssF tabOk rfl rfl rfl (by omega) (ql_pure tabOk rfl rfl (ql_gyes rfl (ql_pure tabOk rfl rfl ?_))))))))))); refine ql_gyes rfl (ql_pure tabOk rfl rfl (ql_gyes rfl (ql_gtrF tabOk rfl rfl rfl (by omega) (ql_pure tabOk rfl rfl (ql_pure tabOk rfl rfl (q_nil (q_ret ?_))))))))
      refine q_fin tabOk rfl (by repeat constructor) fun w hs => ?_
      exact ⟨rfl, hs.chg0⟩
theorem take_all {α : Type} {p : α → Bool} {l : List α} {k : Nat} (hk : k < l.length) (h : (l.take k).all p = true) (hp : p l[k] = true) : (l.take (k + 1)).all p = true := by
  rw [List.take_succ_eq_append_getElem hk, List.all_append, h]
  simp [hp]
theorem not_all {α : Type} {p : α → Bool} {l : List α} {k : Nat} (hk : k < l.length) (hp : p l[k] = false) : l.all p = false := List.all_eq_false.2 ⟨_, List.getElem_mem hk, by rw [hp]; simp⟩
set_option maxHeartbeats 2000000 in
theorem rchkS_ca (w : World) (lo hi : Nat) (s : Sc) (tv rv : Value) (h : ScR w lo hi tv rv s) (hl1 : s.tests.length ≤ maxLen) (hl2 : s.rifles.length ≤ maxLen) : Ca Tryz.prog 33 [.agg (scC s tv rv).toArray] w fun x w' => x = .int .i64 (chkS s) ∧ Chg [] w w' := by
  obtain ⟨ta, tc, rfl, hta⟩ := RdS.outI h.t
  obtain ⟨ra, rc, rfl, hra⟩ := RdI.outI h.r
  simp only [maxLen] at hl1 hl2
  refine q_of (Sat.nil w M0) Tryz.func33 rfl (by simp [Tryz.ntmps33]) ?_
  (refine q_seq (q_region ?_))
  refine ql_box rfl rfl (fun b1 => ?_)
  rw [agg_cells]
  by_cases c1 : 10 < s.tests.length ∨ inB s.rifles.length 1 8 = false
  · have e : chkS s = 2 := by unfold chkS; rw [if_pos c1]
    rw [e]
    by_cases c2 : 10 < s.tests.length
    · (refine ql_pure tabOk rfl rfl (q_nil (q_seq (q_seq (q_region (ql_pure tabOk rfl rfl ?_))))); refine ql_loadBa tabOk rfl rfl rfl ?_; refine ql_pure tabOk rfl rfl (ql_gtrT tabOk rfl rfl rfl (by omega) (ql_pure tabOk rfl rfl ?_)); (iterate 4 refine ql_gno rfl rfl rfl ?_); refine ql_pure tabOk rfl rfl (ql_pure tabOk rfl rfl ?_); (iterate 4 refine ql_gno rfl rfl rfl ?_); refine ql_pure tabOk rfl rfl (q_nil (q_cond_true rfl (q_seq (q_region (ql_pure tabOk rfl rfl (q_nil (q_ret ?_))))))))
      refine q_fin tabOk rfl (by repeat constructor) fun w hs => ?_
      exact ⟨rfl, hs.chg0⟩
    · have c3 : ¬ ((1 : Int) ≤ s.rifles.length ∧ (s.rifles.length : Int) ≤ 8) := by
        rw [← inB_iff]
        rcases c1 with c1 | c1
        · exact absurd c1 c2
        · rw [c1]; simp
      by_cases c4 : s.rifles.length < 1
      · (refine ql_pure tabOk rfl rfl (q_nil (q_seq (q_seq (q_region (ql_pure tabOk rfl rfl ?_))))); refine ql_loadBa tabOk rfl rfl rfl ?_; refine ql_pure tabOk rfl rfl (ql_gtrF tabOk rfl rfl rfl (by omega) (ql_pure tabOk rfl rfl (ql_gyes rfl (ql_pure tabOk rfl rfl (ql_gyes rfl ?_))))); refine ql_loadBa tabOk rfl rfl rfl ?_; refine ql_gyes rfl (ql_pure tabOk rfl rfl (ql_gyes rfl (ql_lssT tabOk rfl rfl rfl (by omega) (ql_pure tabOk rfl rfl (ql_pure tabOk rfl rfl ?_))))); (iterate 4 refine ql_gno rfl rfl rfl ?_); refine ql_pure tabOk rfl rfl (q_nil (q_cond_true rfl (q_seq (q_region (ql_pure tabOk rfl rfl (q_nil (q_ret ?_))))))))
        refine q_fin tabOk rfl (by repeat constructor) fun w hs => ?_
        exact ⟨rfl, hs.chg0⟩
      · (refine ql_pure tabOk rfl rfl (q_nil (q_seq (q_seq (q_region (ql_pure tabOk rfl rfl ?_))))); refine ql_loadBa tabOk rfl rfl rfl ?_; refine ql_pure tabOk rfl rfl (ql_gtrF tabOk rfl rfl rfl (by omega) (ql_pure tabOk rfl rfl (ql_gyes rfl (ql_pure tabOk rfl rfl (ql_gyes rfl ?_))))); refine ql_loadBa tabOk rfl rfl rfl ?_; refine ql_gyes rfl (ql_pure tabOk rfl rfl (ql_gyes rfl (ql_lssF tabOk rfl rfl rfl (by omega) (ql_pure tabOk rfl rfl (ql_pure tabOk rfl rfl (ql_gyes rfl (ql_pure tabOk rfl rfl (ql_gyes rfl ?_)))))))); refine ql_loadBa tabOk rfl rfl rfl ?_; refine ql_gyes rfl (ql_pure tabOk rfl rfl (ql_gyes rfl (ql_gtrT tabOk rfl rfl rfl (by omega) (ql_pure tabOk rfl rfl (q_nil (q_cond_true rfl (q_seq (q_region (ql_pure tabOk rfl rfl (q_nil (q_ret ?_))))))))))))
        refine q_fin tabOk rfl (by repeat constructor) fun w hs => ?_
        exact ⟨rfl, hs.chg0⟩
  · have c2 : s.tests.length ≤ 10 := by omega
    have c3 : (1 : Int) ≤ s.rifles.length ∧ (s.rifles.length : Int) ≤ 8 := inB_iff.1 (by simpa using fun h => c1 (.inr h))
    have e1 : chkS s = if (inB s.err 0 100 && inB s.least 1 10000) = false then 3 else if s.tests.all tstB = false then 3 else if (s.rifles.all fun n => inB n 0 20000) = false then 3 else 0 := by unfold chkS; rw [if_neg c1]
    rw [e1]
    clear e1 c1
    (refine ql_pure tabOk rfl rfl (q_nil (q_seq (q_seq (q_region (ql_pure tabOk rfl rfl ?_))))); refine ql_loadBa tabOk rfl rfl rfl ?_; refine ql_pure tabOk rfl rfl (ql_gtrF tabOk rfl rfl rfl (by omega) (ql_pure tabOk rfl rfl (ql_gyes rfl (ql_pure tabOk rfl rfl (ql_gyes rfl ?_))))); refine ql_loadBa tabOk rfl rfl rfl ?_; refine ql_gyes rfl (ql_pure tabOk rfl rfl (ql_gyes rfl (ql_lssF tabOk rfl rfl rfl (by omega) (ql_pure tabOk rfl rfl (ql_pure tabOk rfl rfl (ql_gyes rfl (ql_pure tabOk rfl rfl (ql_gyes rfl ?_)))))))); refine ql_loadBa tabOk rfl rfl rfl ?_; refine ql_gyes rfl (ql_pure tabOk rfl rfl (ql_gyes rfl (ql_gtrF tabOk rfl rfl rfl (by omega) (ql_pure tabOk rfl rfl (q_nil (q_cond_false rfl (q_skip (q_seq (q_seq (q_region (ql_pure tabOk rfl rfl ?_))))))))))); refine ql_loadBa tabOk rfl rfl rfl ?_)
    refine ql_callv (val := .bool (!(inB s.err 0 100))) tabOk rfl rfl rfl rfl (fun w hs => ?_) ?_; exact routs_ca s.err 0 100 w
    cases d1 : inB s.err 0 100 with
    | false =>
      (refine ql_pure tabOk rfl rfl ?_; (iterate 3 refine ql_gno rfl rfl rfl ?_); refine ql_pure tabOk rfl rfl (q_nil (q_cond_true rfl (q_seq (q_region (ql_pure tabOk rfl rfl (q_nil (q_ret ?_))))))))
      refine q_fin tabOk rfl (by repeat constructor) fun w hs => ?_
      exact ⟨rfl, hs.chg0⟩
    | true =>
      (refine ql_pure tabOk rfl rfl (ql_gyes rfl (ql_pure tabOk rfl rfl (ql_gyes rfl ?_))); refine ql_loadBa tabOk rfl rfl rfl ?_; refine ql_gyes rfl ?_)
      refine ql_callv (val := .bool (!(inB s.least 1 10000))) tabOk rfl rfl rfl rfl (fun w hs => ?_) ?_; exact routs_ca s.least 1 10000 w
      cases d2 : inB s.least 1 10000 with
      | false =>
        (refine ql_pure tabOk rfl rfl (q_nil (q_cond_true rfl (q_seq (q_region (ql_pure tabOk rfl rfl (q_nil (q_ret ?_))))))))
        refine q_fin tabOk rfl (by repeat constructor) fun w hs => ?_
        exact ⟨rfl, hs.chg0⟩
      | true =>
        rw [if_neg (by simp)]
        (refine ql_pure tabOk rfl rfl (q_nil (q_cond_false rfl (q_skip (q_seq (q_seq (q_region (ql_pure tabOk rfl rfl (q_nil (q_block ?_))))))))))
        refine q_loop (σ := Nat) (fun k => k ≤ s.tests.length ∧ (s.tests.take k).all tstB = true) (fun k => s.tests.length - k) (fun k => [(1, .pointer (some ⟨b1, 0, none⟩)), (3, .int .i64 k)]) (fun _ => [.pt b1 (scC s (.slice ta s.tests.length tc) (.slice ra s.rifles.length rc)) 51]) 0 ⟨by omega, rfl⟩ ⟨rfl, rfl, trivial⟩ (by repeat constructor) ?_
        rintro k ⟨hk, hok⟩ K hK
        (refine q_seq (q_seq (q_region (ql_pure tabOk rfl rfl (ql_pure tabOk rfl rfl ?_)))); refine ql_loadBa tabOk rfl rfl rfl ?_; refine ql_pure tabOk rfl rfl (ql_pure tabOk rfl rfl (q_nil ?_)))
        refine q_if rfl (fun hc => ?_) (fun hc => ?_)
        · have hk2 : k < s.tests.length := by omega
          clear hc
          obtain ⟨tb, to, rfl⟩ := hta (by omega)
          (refine q_skip (q_seq (q_block (q_seq (q_region (ql_pure tabOk rfl rfl ?_))))); refine ql_loadBa tabOk rfl rfl rfl ?_; refine ql_pure tabOk rfl rfl ?_)
          refine ql_index tabOk rfl rfl rfl rfl rfl (by omega) (by omega) ?_
          (refine ql_pure tabOk rfl rfl ?_)
          refine ql_load1 (v := .int .i64 s.tests[k].1) tabOk rfl rfl rfl (fun w hs => RdS.at (RdE.keep h.t hs.chg0) k hk2 0 (by omega)) ?_
          skip
          refine ql_callv (val := .bool (!(inB s.tests[k].1 1 10000))) tabOk rfl rfl rfl rfl (fun w hs => ?_) ?_; exact routs_ca s.tests[k].1 1 10000 w
          cases d3 : inB s.tests[k].1 1 10000 with
          | false =>
            rw [not_all (p := tstB) hk2 (by unfold tstB; rw [d3]; rfl), if_pos rfl]
            (refine ql_pure tabOk rfl rfl ?_; (iterate 7 refine ql_gno rfl rfl rfl ?_); refine ql_pure tabOk rfl rfl (q_nil (q_cond_true rfl (q_seq (q_region (ql_pure tabOk rfl rfl (q_nil (q_ret ?_))))))))
            refine q_fin tabOk rfl (by repeat constructor) fun w hs => ?_
            exact ⟨rfl, hs.chg0⟩
          | true =>
            (refine ql_pure tabOk rfl rfl (ql_gyes rfl (ql_pure tabOk rfl rfl (ql_gyes rfl ?_))); refine ql_loadBa tabOk rfl rfl rfl ?_; refine ql_gyes rfl (ql_pure tabOk rfl rfl (ql_gyes rfl ?_)))
            refine ql_index tabOk rfl rfl rfl rfl rfl (by omega) (by omega) ?_
            (refine ql_gyes rfl (ql_pure tabOk rfl rfl (ql_gyes rfl ?_)))
            refine ql_load1 (v := .int .i64 s.tests[k].2) tabOk rfl rfl rfl (fun w hs => RdS.at (RdE.keep h.t hs.chg0) k hk2 1 (by omega)) ?_
            (refine ql_gyes rfl ?_)
            refine ql_callv (val := .bool (!(inB s.tests[k].2 0 20000))) tabOk rfl rfl rfl rfl (fun w hs => ?_) ?_; exact routs_ca s.tests[k].2 0 20000 w
            cases d4 : inB s.tests[k].2 0 20000 with
            | false =>
              rw [not_all (p := tstB) hk2 (by unfold tstB; rw [d3, d4]; rfl), if_pos rfl]
              (refine ql_pure tabOk rfl rfl (q_nil (q_cond_true rfl (q_seq (q_region (ql_pure tabOk rfl rfl (q_nil (q_ret ?_))))))))
              refine q_fin tabOk rfl (by repeat constructor) fun w hs => ?_
              exact ⟨rfl, hs.chg0⟩
            | true =>
              (refine ql_pure tabOk rfl rfl (q_nil (q_cond_false rfl (q_skip (q_blk (q_region (ql_pure tabOk rfl rfl (ql_ar tabOk rfl rfl rfl rfl (by omega) (by omega) (ql_pure tabOk rfl rfl (q_nil ?_))))))))))
              exact hK (k + 1) _ _ ⟨by omega, take_all hk2 hok (by unfold tstB; rw [d3, d4]; rfl)⟩ (by omega) ⟨rfl, rfl, trivial⟩ (by repeat constructor)
        · obtain rfl : k = s.tests.length := by omega
          rw [List.take_length] at hok
          rw [hok, if_neg (by simp)]
          clear hc hK hk
          (refine q_exit _ rfl (q_seq (q_seq (q_region (ql_pure tabOk rfl rfl (q_nil (q_block ?_)))))))
          refine q_loop (σ := Nat) (fun k => k ≤ s.rifles.length ∧ ((s.rifles.take k).all fun n => inB n 0 20000) = true) (fun k => s.rifles.length - k) (fun k => [(1, .pointer (some ⟨b1, 0, none⟩)), (4, .int .i64 k)]) (fun _ => [.pt b1 (scC s (.slice ta s.tests.length tc) (.slice ra s.rifles.length rc)) 51]) 0 ⟨by omega, rfl⟩ ⟨rfl, rfl, trivial⟩ (by repeat constructor) ?_
          rintro k ⟨hk, hok2⟩ K hK
          (refine q_seq (q_seq (q_region (ql_pure tabOk rfl rfl (ql_pure tabOk rfl rfl ?_)))); refine ql_loadBa tabOk rfl rfl rfl ?_; refine ql_pure tabOk rfl rfl (ql_pure tabOk rfl rfl (q_nil ?_)))
          refine q_if rfl (fun hc => ?_) (fun hc => ?_)
          · have hk2 : k < s.rifles.length := by omega
            clear hc
            obtain ⟨rb, ro, rfl⟩ := hra (by omega)
            (refine q_skip (q_seq (q_block (q_seq (q_region (ql_pure tabOk rfl rfl ?_))))); refine ql_loadBa tabOk rfl rfl rfl ?_; refine ql_pure tabOk rfl rfl ?_)
            refine ql_index tabOk rfl rfl rfl rfl rfl (by omega) (by omega) ?_
            skip
            refine ql_load1 (v := .int .i64 s.rifles[k]) tabOk rfl rfl rfl (fun w hs => RdI.at (RdE.keep h.r hs.chg0) k hk2) ?_
            skip
            refine ql_callv (val := .bool (!(inB s.rifles[k] 0 20000))) tabOk rfl rfl rfl rfl (fun w hs => ?_) ?_; exact routs_ca s.rifles[k] 0 20000 w
            cases d3 : inB s.rifles[k] 0 20000 with
            | false =>
              rw [not_all (p := fun n => inB n 0 20000) hk2 d3, if_pos rfl]
              (refine q_nil (q_cond_true rfl (q_seq (q_region (ql_pure tabOk rfl rfl (q_nil (q_ret ?_)))))))
              refine q_fin tabOk rfl (by repeat constructor) fun w hs => ?_
              exact ⟨rfl, hs.chg0⟩
            | true =>
              (refine q_nil (q_cond_false rfl (q_skip (q_blk (q_region (ql_pure tabOk rfl rfl (ql_ar tabOk rfl rfl rfl rfl (by omega) (by omega) (ql_pure tabOk rfl rfl (q_nil ?_)))))))))
              exact hK (k + 1) _ _ ⟨by omega, take_all (p := fun n => inB n 0 20000) hk2 hok2 d3⟩ (by omega) ⟨rfl, rfl, trivial⟩ (by repeat constructor)
          · obtain rfl : k = s.rifles.length := by omega
            rw [List.take_length] at hok2
            rw [hok2, if_neg (by simp)]
            (refine q_exit _ rfl (q_seq (q_region (ql_pure tabOk rfl rfl (q_nil (q_ret ?_))))))
            refine q_fin tabOk rfl (by repeat constructor) fun w hs => ?_
            exact ⟨rfl, hs.chg0⟩
end Go.Proofs.YtopdmadgkjdgcaaGreat

/- Walks of the reference: the offsets that tests allow, as a list; the span of such a list. -/
namespace Go.Proofs.YtopdmadgkjdgcaaGreat
set_option maxRecDepth 4000
open Go Go.Eng
/-- The offsets of a span, from -1000 on. -/
def ofsB (lo hi : Int) (i : Nat) : Bool := decide (lo ≤ (i : Int) - 1000) && decide ((i : Int) - 1000 ≤ hi)
def ofsL (lo hi : Int) : List Bool := (List.range 2001).map (ofsB lo hi)
theorem ofsL_len (lo hi : Int) : (ofsL lo hi).length = 2001 := by simp [ofsL]
theorem ofsL_get (lo hi : Int) {i : Nat} (h : i < (ofsL lo hi).length) : (ofsL lo hi)[i] = ofsB lo hi i := by simp [ofsL]
/-- The first i of them, and false. -/
def ofsP (lo hi : Int) (i : Nat) : List Bool := (ofsL lo hi).take i ++ List.replicate (2001 - i) false
theorem ofsP_len (lo hi : Int) {i : Nat} (h : i ≤ 2001) : (ofsP lo hi i).length = 2001 := by
  unfold ofsP
  rw [List.length_append, List.length_take, List.length_replicate, ofsL_len]
  omega
theorem ofsP_zero (lo hi : Int) : ofsP lo hi 0 = List.replicate 2001 false := rfl
theorem ofsP_full (lo hi : Int) : ofsP lo hi 2001 = ofsL lo hi := by
  unfold ofsP
  rw [Nat.sub_self, List.replicate_zero, List.append_nil, List.take_of_length_le (by rw [ofsL_len]; exact Nat.le_refl _)]
theorem ofsP_set (lo hi : Int) {i : Nat} (h : i < 2001) : (ofsP lo hi i).set i (ofsB lo hi i) = ofsP lo hi (i + 1) := by
  unfold ofsP
  have hl : i < (ofsL lo hi).length := by rw [ofsL_len]; exact h
  rw [List.set_append_right _ _ (by rw [List.length_take]; omega), List.length_take, show i - min i (ofsL lo hi).length = 0 from by omega, show 2001 - i = (2001 - (i + 1)) + 1 from by omega, List.replicate_succ, List.set_cons_zero, List.take_succ_eq_append_getElem hl, ofsL_get lo hi hl, List.append_assoc]
  rfl
/-- Some tests allow an offset. -/
def alwB (s : Sc) (o : Int) (t : Int × Int) : Bool := inB (t.2 - t.1 - o) (-s.err) s.err
theorem alw_all (s : Sc) (T : List (Int × Int)) {i : Nat} (hi : i < 2001) : T.all (alwB s ((i : Int) - 1000)) = ofsB (offL s T).1 (offL s T).2 i := by
  have h := offL_iff s ((i : Int) - 1000) T (-1000, 1000)
  rw [Bool.eq_iff_iff]
  unfold ofsB
  rw [Bool.and_eq_true, decide_eq_true_iff, decide_eq_true_iff, List.all_eq_true]
  unfold offL
  rw [h]
  constructor
  · intro g
    exact ⟨by simp only; omega, fun t ht => by have := inB_iff.1 (g t ht); unfold alwP; omega⟩
  · intro g t ht
    have := g.2 t ht
    unfold alwP at this
    exact inB_iff.2 this.2
structure TstOk (T : List (Int × Int)) : Prop where
  n : T.length ≤ 10
  test : ∀ t ∈ T, (1 ≤ t.1 ∧ t.1 ≤ 10000) ∧ 0 ≤ t.2 ∧ t.2 ≤ 20000
set_option maxHeartbeats 4000000 in
theorem allowed_ca (w : World) (lo hi lo2 hi2 : Nat) (s : Sc) (tv rv uv : Value) (T : List (Int × Int)) (h : ScR w lo hi tv rv s) (hT : RdS w lo2 hi2 uv T) (hs0 : s.Ok) (hTo : TstOk T) : Ca Tryz.prog 117 [.agg (scC s tv rv).toArray, uv] w fun x w' => ∃ b : Nat, x = .slice (some ⟨b, 0, none⟩) 2001 2001 ∧ Sat w M0 [.pt b (bools (ofsL (offL s T).1 (offL s T).2)) 4] w' := by
  obtain ⟨ta, tc, rfl, _⟩ := RdS.outI h.t
  obtain ⟨ra, rc, rfl, _⟩ := RdI.outI h.r
  obtain ⟨ua, uc, rfl, hua⟩ := RdS.outI hT
  have he := hs0.err
  have hTn := hTo.n
  refine q_of (Sat.nil w M0) Tryz.func117 rfl (by simp [Tryz.ntmps117]) ?_
  (refine q_seq (q_region ?_))
  refine ql_box rfl rfl (fun b2 => ?_)
  rw [agg_cells]
  (refine ql_pure tabOk rfl rfl (q_nil (q_seq (q_region ?_))))
  refine ql_makeZ (m := 2001) slBo rfl rfl rfl rfl (by omega) (by omega) (fun b5 => ?_)
  obtain ⟨N, hN⟩ : ∃ N : Nat, N = 2001 := ⟨_, rfl⟩
  rw [← hN]
  (refine ql_pure tabOk rfl rfl (q_nil (q_seq (q_seq (q_region (ql_pure tabOk rfl rfl (q_nil (q_block ?_))))))))
  refine q_conv (H' := [.pt b5 (bools (ofsP (offL s T).1 (offL s T).2 0)) 4, .pt b2 (scC s (.slice ta s.tests.length tc) (.slice ra s.rifles.length rc)) 51]) (fun w' hs => by rw [hN] at hs; rw [ofsP_zero, show bools (List.replicate 2001 false) = List.replicate 2001 (.bool false) from List.map_replicate]; exact hs.sp (by repeat constructor)) ?_
  refine q_loop (σ := Nat) (fun i => i ≤ N) (fun i => N - i) (fun i => [(1, .slice ua T.length uc), (2, .pointer (some ⟨b2, 0, none⟩)), (5, .slice (some ⟨b5, 0, none⟩) N N), (6, .int .i64 i)])
    (fun i => [.pt b5 (bools (ofsP (offL s T).1 (offL s T).2 i)) 4, .pt b2 (scC s (.slice ta s.tests.length tc) (.slice ra s.rifles.length rc)) 51]) 0 (by omega) ⟨rfl, rfl, rfl, rfl, trivial⟩ (by repeat constructor) ?_
  rintro i hi' K hK
  (refine q_seq (q_seq (q_region ?_)); (iterate 4 refine ql_pure tabOk rfl rfl ?_); refine q_nil ?_)
  refine q_if rfl (fun hc => ?_) (fun hc => ?_)
  · have hi2 : i < N := by omega
    clear hc
    (refine q_skip (q_seq (q_block (q_seq (q_region (ql_pure tabOk rfl rfl (ql_pure tabOk rfl rfl ?_)))))))
    refine ql_index tabOk rfl rfl rfl rfl rfl (by omega) (by omega) ?_
    skip
    refine ql_storeBo tabOk i rfl rfl rfl (by repeat constructor) (by omega) (by rw [ofsP_len _ _ (show i ≤ 2001 by omega)]; omega) ?_
    (refine q_nil (q_seq (q_region (ql_pure tabOk rfl rfl (q_nil (q_block ?_))))))
    have hs0 : ∀ (l : List Bool) (a b : Bool), (l.set i a).set i b = l.set i b := fun l a b => List.set_set a
    have hend := alw_all s T (show i < 2001 by omega)
    refine q_loop (σ := Nat) (fun k => k ≤ T.length) (fun k => T.length - k) (fun k => [(1, .slice ua T.length uc), (2, .pointer (some ⟨b2, 0, none⟩)), (5, .slice (some ⟨b5, 0, none⟩) N N), (6, .int .i64 i), (7, .int .i64 k)])
      (fun k => [.pt b5 (bools ((ofsP (offL s T).1 (offL s T).2 i).set i ((T.take k).all (alwB s ((i : Int) - 1000))))) 4, .pt b2 (scC s (.slice ta s.tests.length tc) (.slice ra s.rifles.length rc)) 51]) 0 (by omega) ⟨rfl, rfl, rfl, rfl, rfl, trivial⟩ (by repeat constructor) ?_
    rintro k hk K2 hK2
    (refine q_seq (q_seq (q_region ?_)); (iterate 4 refine ql_pure tabOk rfl rfl ?_); refine q_nil ?_)
    refine q_if rfl (fun hc => ?_) (fun hc => ?_)
    · have hk2 : k < T.length := by omega
      clear hc
      have ht := hTo.test _ (List.getElem_mem hk2)
      have hsu : (T.take (k + 1)).all (alwB s ((i : Int) - 1000)) = ((T.take k).all (alwB s ((i : Int) - 1000)) && alwB s ((i : Int) - 1000) T[k]) := by
        rw [List.take_succ_eq_append_getElem hk2, List.all_append]
        simp
      obtain ⟨ub, uo, rfl⟩ := hua (by omega)
      (refine q_skip (q_seq (q_block (q_seq ?_))))
      refine q_draw _ [] (Sp.refl _) (by kernel_rfl) (by kernel_rfl) ?_
      (refine qf_pure tabOk rfl rfl rfl (qf_pure tabOk rfl rfl rfl ?_))
      refine qf_index tabOk rfl rfl rfl rfl rfl (by omega) (by omega) ?_
      (refine qf_pure tabOk rfl rfl rfl ?_)
      refine qf_load1 (v := .int .i64 T[k].2) tabOk rfl rfl rfl (fun w hs => RdS.at (RdE.keep hT hs.chg0) k hk2 1 (by omega)) ?_
      (refine qf_pure tabOk rfl rfl rfl (qf_pure tabOk rfl rfl rfl ?_))
      refine qf_index tabOk rfl rfl rfl rfl rfl (by omega) (by omega) ?_
      (refine qf_pure tabOk rfl rfl rfl ?_)
      refine qf_load1 (v := .int .i64 T[k].1) tabOk rfl rfl rfl (fun w hs => RdS.at (RdE.keep hT hs.chg0) k hk2 0 (by omega)) ?_
      (refine qf_ar tabOk rfl rfl rfl rfl (by omega) (by omega) (qf_pure tabOk rfl rfl rfl (qf_ar tabOk rfl rfl rfl rfl (by omega) (by omega) (qf_ar tabOk rfl rfl rfl rfl (by omega) (by omega) (qf_pure tabOk rfl rfl rfl (qf_nil (q_seq (q_region (ql_pure tabOk rfl rfl (ql_pure tabOk rfl rfl ?_))))))))); refine ql_loadBa tabOk rfl rfl rfl ?_; refine ql_neg tabOk rfl rfl (by omega) (by omega) (ql_pure tabOk rfl rfl ?_); refine ql_loadBa tabOk rfl rfl rfl ?_)
      refine ql_callv (val := .bool (!(alwB s ((i : Int) - 1000) T[k]))) tabOk rfl rfl rfl rfl (fun w hs => ?_) ?_; exact routs_ca (T[k].2 - T[k].1 - ((i : Int) - 1000)) (-s.err) s.err w
      cases ha : alwB s ((i : Int) - 1000) T[k] with
      | true =>
        rw [ha, Bool.and_true] at hsu
        (refine q_nil (q_cond_false rfl (q_skip (q_blk (q_region (ql_pure tabOk rfl rfl (ql_ar tabOk rfl rfl rfl rfl (by omega) (by omega) (ql_pure tabOk rfl rfl (q_nil ?_)))))))))
        exact hK2 (k + 1) _ _ (by omega) (by omega) ⟨rfl, rfl, rfl, rfl, rfl, trivial⟩ (by rw [hsu]; repeat constructor)
      | false =>
        rw [ha, Bool.and_false] at hsu
        (refine q_nil (q_cond_true rfl (q_region (ql_pure tabOk rfl rfl (ql_pure tabOk rfl rfl ?_)))))
        refine ql_index tabOk rfl rfl rfl rfl rfl (by omega) (by omega) ?_
        skip
        refine ql_storeBo tabOk i rfl rfl rfl (by repeat constructor) (by omega) (by rw [List.length_set, ofsP_len _ _ (show i ≤ 2001 by omega)]; omega) ?_
        rw [hs0]
        (refine q_nil (q_blk (q_region (ql_pure tabOk rfl rfl (ql_ar tabOk rfl rfl rfl rfl (by omega) (by omega) (ql_pure tabOk rfl rfl (q_nil ?_)))))))
        exact hK2 (k + 1) _ _ (by omega) (by omega) ⟨rfl, rfl, rfl, rfl, rfl, trivial⟩ (by rw [hsu]; repeat constructor)
    · obtain rfl : k = T.length := by omega
      rw [List.take_length, hend, ofsP_set _ _ (show i < 2001 by omega)]
      clear hc hK2
      (refine q_exit _ rfl (q_blk (q_region (ql_pure tabOk rfl rfl (ql_ar tabOk rfl rfl rfl rfl (by omega) (by omega) (ql_pure tabOk rfl rfl (q_nil ?_)))))))
      exact hK (i + 1) _ _ (by omega) (by omega) ⟨rfl, rfl, rfl, rfl, trivial⟩ (by repeat constructor)
  · obtain rfl : i = N := by omega
    rw [hN, ofsP_full]
    (refine q_exit _ rfl (q_seq (q_region (ql_pure tabOk rfl rfl (ql_pure tabOk rfl rfl (q_nil (q_ret ?_)))))))
    refine q_fin tabOk rfl (by repeat constructor) fun w hs => ?_
    exact ⟨b5, rfl, hs.sp (by repeat constructor)⟩
/-- The span of offsets, if there are any. -/
def ofsS (lo hi : Int) : Int × Int := if lo ≤ hi then (lo, hi) else (0, 0)
set_option maxHeartbeats 4000000 in
theorem rofs_ca (w : World) (l2 h2 : Nat) (v : Value) (lo hi : Int) (h : RdB w l2 h2 v (ofsL lo hi)) (hlo : -1000 ≤ lo) (hhi : hi ≤ 1000) : Ca Tryz.prog 116 [v] w fun x w' => x = .tuple #[spV2 (ofsS lo hi), .bool (decide (lo ≤ hi))] ∧ Chg [] w w' := by
  obtain ⟨ba, bc, rfl, hba⟩ := h.out
  obtain ⟨N, hN⟩ : ∃ N : Nat, N = 2001 := ⟨_, rfl⟩
  have el : (bools (ofsL lo hi)).length = N := by rw [List.length_map, ofsL_len, hN]
  rw [el] at hba h ⊢
  obtain ⟨bb, bo, rfl⟩ := hba (by omega)
  have hcell : ∀ i, i < N → ∀ w', Chg [] w w' → w'.cell? ⟨bb, bo + i * 1, none⟩ = some (.bool (ofsB lo hi i)) := fun i hi' w' hw => by
    have h1 : i < (bools (ofsL lo hi)).length := by rw [el]; exact hi'
    have h2 := (RdE.keep h hw).cell1 i h1 (by rw [List.getElem_map]; rfl)
    rw [h2, List.getElem_map, ofsL_get]
  refine q_of (Sat.nil w M0) Tryz.func116 rfl (by simp [Tryz.ntmps116]) ?_
  (refine q_seq (q_region ?_))
  refine ql_alloc zero56 rfl (fun b2 => ?_)
  (refine ql_pure tabOk rfl rfl (q_nil (q_seq (q_region ?_))))
  refine ql_mk #[.int .i64 0, .int .i64 0] rfl (by kernel_rfl) rfl ?_
  skip
  refine ql_alloc zero56 rfl (fun b4 => ?_)
  (refine ql_setA tabOk rfl rfl rfl rfl rfl (by repeat constructor) rfl ?_; refine ql_pure tabOk rfl rfl (q_nil (q_seq (q_seq (q_region (ql_pure tabOk rfl rfl (q_nil (q_block ?_))))))))
  refine q_loop (σ := Nat × Bool × Int × Int) (fun s => s.1 ≤ N ∧ (s.2.1 = true → lo ≤ hi ∧ lo + 1000 < s.1 ∧ s.2.2.1 = lo ∧ s.2.2.2 = min hi ((s.1 : Int) - 1001)) ∧ (s.2.1 = false → (lo ≤ hi → (s.1 : Int) ≤ lo + 1000) ∧ s.2.2 = (0, 0))) (fun s => N - s.1) (fun s => [(0, .slice (some ⟨bb, bo, none⟩) N bc), (2, .pointer (some ⟨b2, 0, none⟩)), (4, .pointer (some ⟨b4, 0, none⟩)), (5, .bool s.2.1), (6, .int .i64 s.1)])
    (fun s => [.pt b4 [.int .i64 s.2.2.1, .int .i64 s.2.2.2] 56, .pt b2 [.int .i64 0, .int .i64 0] 56]) (0, false, 0, 0) ⟨by simp, (fun h => by cases h), fun _ => ⟨fun _ => by simp only; omega, rfl⟩⟩ ⟨rfl, rfl, rfl, rfl, rfl, trivial⟩ (by repeat constructor) ?_
  rintro ⟨i, f, a, b⟩ ⟨hi', hf1, hf2⟩ K hK
  dsimp only at hi' hf1 hf2 ⊢
  (refine q_seq (q_seq (q_region ?_)); (iterate 4 refine ql_pure tabOk rfl rfl ?_); refine q_nil ?_)
  refine q_if rfl (fun hc => ?_) (fun hc => ?_)
  · have hi2 : i < N := by omega
    clear hc
    (refine q_skip (q_seq (q_block (q_seq (q_region (ql_pure tabOk rfl rfl (ql_pure tabOk rfl rfl ?_)))))))
    refine ql_index tabOk rfl rfl rfl rfl rfl (by omega) (by omega) ?_
    refine ql_load1 tabOk rfl rfl rfl (fun w hs => hcell i hi2 _ hs.chg0) ?_
    cases hb : ofsB lo hi i with
    | true =>
      have hb2 : lo ≤ (i : Int) - 1000 ∧ (i : Int) - 1000 ≤ hi := by
        unfold ofsB at hb
        simpa using hb
      cases f with
      | true =>
        obtain ⟨g1, g2, g3, g4⟩ := hf1 rfl
        (refine q_nil (q_cond_true rfl (q_seq (q_seq (q_region (ql_pure tabOk rfl rfl (ql_pure tabOk rfl rfl (q_nil (q_cond_false rfl (q_skip (q_seq (q_region ?_))))))))))); refine ql_pure tabOk rfl rfl (ql_ar tabOk rfl rfl rfl rfl (by omega) (by omega) (ql_pure tabOk rfl rfl ?_)); refine ql_st1 tabOk rfl rfl rfl rfl (by repeat constructor) ?_; refine q_nil (q_region (ql_pure tabOk rfl rfl (q_nil (q_blk (q_region (ql_pure tabOk rfl rfl (ql_ar tabOk rfl rfl rfl rfl (by omega) (by omega) (ql_pure tabOk rfl rfl (q_nil ?_))))))))))
        exact hK (i + 1, true, a, (i : Int) - 1000) _ _ ⟨by simp only; omega, (fun _ => ⟨g1, by simp only; omega, g3, by simp only; omega⟩), (fun h => by cases h)⟩ (by simp only; omega) ⟨rfl, rfl, rfl, rfl, rfl, trivial⟩ (by repeat constructor)
      | false =>
        obtain ⟨g1, g2⟩ := hf2 rfl
        have g3 := g1 (by omega)
        (refine q_nil (q_cond_true rfl (q_seq (q_seq (q_region (ql_pure tabOk rfl rfl (ql_pure tabOk rfl rfl (q_nil (q_cond_true rfl (q_region (ql_pure tabOk rfl rfl (ql_ar tabOk rfl rfl rfl rfl (by omega) (by omega) ?_))))))))))); refine ql_pure tabOk rfl rfl ?_; refine ql_st0 tabOk rfl rfl rfl rfl (by repeat constructor) ?_; refine q_nil (q_seq (q_region (ql_pure tabOk rfl rfl (ql_ar tabOk rfl rfl rfl rfl (by omega) (by omega) (ql_pure tabOk rfl rfl ?_))))); refine ql_st1 tabOk rfl rfl rfl rfl (by repeat constructor) ?_; refine q_nil (q_region (ql_pure tabOk rfl rfl (q_nil (q_blk (q_region (ql_pure tabOk rfl rfl (ql_ar tabOk rfl rfl rfl rfl (by omega) (by omega) (ql_pure tabOk rfl rfl (q_nil ?_))))))))))
        exact hK (i + 1, true, (i : Int) - 1000, (i : Int) - 1000) _ _ ⟨by simp only; omega, fun _ => ⟨by omega, by simp only; omega, by simp only; omega, by simp only; omega⟩, (fun h => by cases h)⟩ (by simp only; omega) ⟨rfl, rfl, rfl, rfl, rfl, trivial⟩ (by repeat constructor)
    | false =>
      have hb2 : ¬ (lo ≤ (i : Int) - 1000 ∧ (i : Int) - 1000 ≤ hi) := by
        unfold ofsB at hb
        simpa using hb
      (refine q_nil (q_cond_false rfl (q_skip (q_blk (q_region (ql_pure tabOk rfl rfl (ql_ar tabOk rfl rfl rfl rfl (by omega) (by omega) (ql_pure tabOk rfl rfl (q_nil ?_)))))))))
      exact hK (i + 1, f, a, b) _ _ ⟨by simp only; omega, fun hf => by
        obtain ⟨g1, g2, g3, g4⟩ := hf1 hf
        exact ⟨g1, by simp only; omega, g3, by simp only; omega⟩, fun hf => by
        obtain ⟨g1, g2⟩ := hf2 hf
        exact ⟨fun g => by have := g1 g; simp only; omega, g2⟩⟩ (by simp only; omega) ⟨rfl, rfl, rfl, rfl, rfl, trivial⟩ (by repeat constructor)
  · have hiN : i = 2001 := by omega
    have e : f = decide (lo ≤ hi) ∧ (a, b) = ofsS lo hi := by
      cases f with
      | true =>
        obtain ⟨g1, g2, g3, g4⟩ := hf1 rfl
        refine ⟨(decide_eq_true g1).symm, ?_⟩
        unfold ofsS
        rw [if_pos g1, g3, g4, show min hi ((i : Int) - 1001) = hi from by omega]
      | false =>
        obtain ⟨g1, g2⟩ := hf2 rfl
        have g3 : ¬ lo ≤ hi := fun g => by have := g1 g; omega
        refine ⟨(decide_eq_false g3).symm, ?_⟩
        unfold ofsS
        rw [if_neg g3, g2]
    obtain ⟨e1, e2⟩ := e
    rw [← e1, ← e2]
    (refine q_exit _ rfl (q_seq (q_region ?_)); refine ql_loadABa tabOk rfl rfl rfl ?_; refine ql_pure tabOk rfl rfl ?_; refine ql_setA tabOk rfl rfl rfl rfl rfl (by repeat constructor) rfl ?_; refine ql_pure tabOk rfl rfl (q_nil (q_ret ?_)))
    refine q_fin tabOk rfl (by repeat constructor) fun w hs => ?_
    exact ⟨rfl, hs.chg0⟩
end Go.Proofs.YtopdmadgkjdgcaaGreat

/- Walks of the reference: the offset, and which tests contradict each other. -/
namespace Go.Proofs.YtopdmadgkjdgcaaGreat
set_option maxRecDepth 4000
open Go Go.Eng
/-- The offset that is told: nothing, if there is an error. -/
def offU (s : Sc) : Int × Int := if chkO s = 0 then offV s else (0, 0)
theorem Sc.Ok.tst {s : Sc} (h : s.Ok) : TstOk s.tests := ⟨h.tn, h.test⟩
theorem blk_rdB {w : World} {b n : Nat} {l : List Bool} {t c : Nat} (h : Blk w b (bools l) t) (hn : n = l.length) : RdB w 0 w.heap.size (.slice (some ⟨b, 0, none⟩) n c) l := by
  subst hn
  have hl := h.lt
  refine RdB.of ⟨by simp, .inr ⟨b, 0, c, rfl, fun _ => ⟨by omega, hl, hl⟩, fun j hj => ?_⟩⟩
  rw [Nat.zero_add, Blk.cell h]
theorem rroff_u (w : World) (lo hi : Nat) (s : Sc) (tv rv : Value) (h : ScR w lo hi tv rv s) (hl1 : s.tests.length ≤ maxLen) (hl2 : s.rifles.length ≤ maxLen) : Ca Tryz.prog 35 [.agg (scC s tv rv).toArray] w fun x w' => x = .tuple #[spV2 (offU s), .int .i64 (chkO s)] ∧ Chg [] w w' := by
  obtain ⟨ta, tc, rfl, _⟩ := RdS.outI h.t
  obtain ⟨ra, rc, rfl, _⟩ := RdI.outI h.r
  refine q_of (Sat.nil w M0) Tryz.func35 rfl (by simp [Tryz.ntmps35]) ?_
  (refine q_seq (q_region ?_))
  refine ql_box rfl rfl (fun b1 => ?_)
  rw [agg_cells]
  skip
  refine ql_alloc zero56 rfl (fun b2 => ?_)
  (refine ql_pure tabOk rfl rfl (q_nil (q_seq (q_seq (q_region ?_)))); refine ql_loadABa tabOk rfl rfl rfl ?_)
  refine ql_callv (val := .int .i64 (chkS s)) tabOk rfl rfl rfl rfl (fun w hs => ?_) ?_; exact rchkS_ca w lo hi s _ _ (h.keep hs.chg0) hl1 hl2
  by_cases h0 : chkS s = 0
  · have hok := chkS_zero.1 h0
    have hob := off_bd s
    rw [h0]
    (refine ql_pure tabOk rfl rfl (q_nil (q_seq (q_region (ql_pure tabOk rfl rfl (ql_neqF tabOk rfl rfl rfl (by omega) (q_nil (q_cond_false rfl (q_skip (q_seq (q_region ?_)))))))))); refine ql_loadABa tabOk rfl rfl rfl ?_; refine ql_pure tabOk rfl rfl ?_; refine ql_loadBa tabOk rfl rfl rfl ?_)
    refine ql_call (β := Nat) tabOk [] _ M0 rfl rfl rfl rfl (Sp.refl _) (fun _ h => h.elim) (fun w' hs => allowed_ca w' lo hi lo hi s _ _ _ s.tests (h.keep hs.chg0) (RdE.keep h.t hs.chg0) hok hok.tst) ?_
    rintro b3 _ rfl
    dsimp only [List.cons_append, List.nil_append]
    skip
    by_cases hle : (offV s).1 ≤ (offV s).2
    · have e1 : chkO s = 0 := chkO_zero.2 ⟨hok, hle⟩
      have e2 : offU s = offV s := by unfold offU; rw [if_pos e1]
      have e3 : ofsS (offV s).1 (offV s).2 = offV s := by unfold ofsS; rw [if_pos hle]
      rw [e1, e2, ← e3]
      refine ql_callv (val := .tuple #[spV2 (ofsS (offV s).1 (offV s).2), .bool true]) tabOk rfl rfl rfl rfl (fun w hs => ?_) ?_; exact by have := rofs_ca w 0 w.heap.size _ _ _ (blk_rdB (c := 2001) (hs.blk (b := b3) (by repeat constructor)) (by rw [ofsL_len])) hob.1 hob.2; rw [decide_eq_true hle] at this; exact this
      (refine ql_pure tabOk rfl rfl (ql_ext tabOk rfl rfl rfl (ql_ext tabOk rfl rfl rfl ?_)))
      refine ql_alloc zero56 rfl (fun b5 => ?_)
      (refine ql_setA tabOk rfl rfl rfl rfl rfl (by repeat constructor) rfl ?_; refine ql_pure tabOk rfl rfl (q_nil (q_seq (q_seq (q_region (ql_pure tabOk rfl rfl (ql_pure tabOk rfl rfl (q_nil (q_cond_false rfl (q_skip (q_seq (q_region ?_))))))))))); refine ql_loadABa tabOk rfl rfl rfl ?_; refine ql_setA tabOk rfl rfl rfl rfl rfl (by repeat constructor) rfl ?_; refine ql_pure tabOk rfl rfl (q_nil (q_ret ?_)))
      refine q_fin tabOk rfl (by repeat constructor) fun w hs => ?_
      exact ⟨rfl, hs.chg0⟩
    · have e1 : chkO s = 7 := by unfold chkO; rw [if_neg (by rw [h0]; simp), if_neg hle]
      have e2 : offU s = (0, 0) := by unfold offU; rw [if_neg (by rw [e1]; decide)]
      rw [e1, e2]
      refine ql_callv (val := .tuple #[spV2 (ofsS (offV s).1 (offV s).2), .bool false]) tabOk rfl rfl rfl rfl (fun w hs => ?_) ?_; exact by have := rofs_ca w 0 w.heap.size _ _ _ (blk_rdB (c := 2001) (hs.blk (b := b3) (by repeat constructor)) (by rw [ofsL_len])) hob.1 hob.2; rw [decide_eq_false hle] at this; exact this
      (refine ql_pure tabOk rfl rfl (ql_ext tabOk rfl rfl rfl (ql_ext tabOk rfl rfl rfl ?_)))
      refine ql_alloc zero56 rfl (fun b5 => ?_)
      (refine ql_setA tabOk rfl rfl rfl rfl rfl (by repeat constructor) rfl ?_; refine ql_pure tabOk rfl rfl (q_nil (q_seq (q_seq (q_region (ql_pure tabOk rfl rfl (ql_pure tabOk rfl rfl (q_nil (q_cond_true rfl (q_seq (q_region ?_)))))))))))
      refine ql_mk #[.int .i64 0, .int .i64 0] rfl (by kernel_rfl) rfl ?_
      (refine ql_setA tabOk rfl rfl rfl rfl rfl (by repeat constructor) rfl ?_; refine ql_pure tabOk rfl rfl (q_nil (q_ret ?_)))
      refine q_fin tabOk rfl (by repeat constructor) fun w hs => ?_
      exact ⟨rfl, hs.chg0⟩
  · have e1 : chkO s = chkS s := by unfold chkO; rw [if_pos h0]
    have e2 : offU s = (0, 0) := by unfold offU; rw [if_neg (by rw [e1]; exact h0)]
    rw [e1, e2]
    (refine ql_pure tabOk rfl rfl (q_nil (q_seq (q_region (ql_pure tabOk rfl rfl (ql_neqT tabOk rfl rfl rfl (by omega) (q_nil (q_cond_true rfl (q_seq (q_region ?_))))))))))
    refine ql_mk #[.int .i64 0, .int .i64 0] rfl (by kernel_rfl) rfl ?_
    (refine ql_pure tabOk rfl rfl ?_; refine ql_setA tabOk rfl rfl rfl rfl rfl (by repeat constructor) rfl ?_; refine ql_pure tabOk rfl rfl (q_nil (q_ret ?_)))
    refine q_fin tabOk rfl (by repeat constructor) fun w hs => ?_
    exact ⟨rfl, hs.chg0⟩
/-- What Clash answers, of any scale. -/
def ClU (s : Sc) (i k : Nat) (e : Int) : Prop := (chkS s ≠ 0 ∧ i = 0 ∧ k = 0 ∧ e = chkS s) ∨ (chkS s = 0 ∧ ClR s i k e)
def tF33_795a40e : OT := .alt (chainT [13, 14, 15, 17, 18, 16, 19] (.nil)) (chainT [17, 13, 14, 15, 18, 16, 19] (.nil))
def tF33_5987165 : OT := .alt (chainT [12] (tF33_795a40e)) (chainT [17, 12, 13, 14, 15, 18, 16, 19] (.nil))
def tF33_0520a61 : OT := .alt (chainT [0, 1, 2, 3, 4, 5, 6, 7, 8, 9, 10, 11] (tF33_5987165)) (chainT [17, 0, 1, 2, 3, 4, 5, 6, 7, 8, 9, 10, 11, 12, 13, 14, 15, 18, 16, 19] (.nil))
end Go.Proofs.YtopdmadgkjdgcaaGreat

/- The plain laws of made scales. -/
namespace Go.Proofs.YtopdmadgkjdgcaaGreat
set_option maxRecDepth 4000
open Go Go.Eng
section
variable {most : Nat} {s : Sc} {o : Int} {X : List (Int × Int)}
theorem MadS.len (h : MadS most s o X) : s.rifles.length = X.length := by rw [h.rif, List.length_map]
theorem MadS.at (h : MadS most s o X) {r : Nat} (hr : r < X.length) : s.rif r = X[r].2 := by
  unfold Sc.rif
  rw [List.getD_eq_getElem?_getD, h.rif, List.getElem?_map, List.getElem?_eq_getElem hr]
  rfl
theorem MadS.ok (h : MadS most s o X) (hm : most ≤ 8) : s.Ok := by
  have he := h.err
  have ho := h.off
  have h1 := h.n1
  have h2 := h.n2
  have h3 := h.len
  have h4 := h.tn
  refine ⟨by omega, by omega, by omega, by omega, by rw [h.least]; omega, fun t ht => ?_, fun n hn => ?_⟩
  · have := h.tst t ht
    omega
  · rw [h.rif] at hn
    obtain ⟨p, hp, rfl⟩ := List.mem_map.1 hn
    have := h.rifle p hp
    omega
theorem MadS.in (h : MadS most s o X) : (offV s).1 ≤ o ∧ o ≤ (offV s).2 := by
  have he := h.err
  have ho := h.off
  refine off_iff.2 ⟨by omega, fun t ht => ?_⟩
  have := h.tst t ht
  unfold alwP
  omega
theorem MadS.cl (h : MadS most s o X) : ∀ a b, a ≤ b → b < s.tests.length → clB s a b = false := fun a b hab hb => by
  have he := h.err
  have ho := h.off
  have g : ∀ i, i < s.tests.length → (alwV s (tstN s i)).1 ≤ o ∧ o ≤ (alwV s (tstN s i)).2 := fun i hi => by
    have : tstN s i ∈ s.tests := by
      unfold tstN
      rw [List.getD_eq_getElem?_getD, List.getElem?_eq_getElem hi]
      exact List.getElem_mem hi
    have := h.tst _ this
    simp only [alwV]
    omega
  have h1 := g a (by omega)
  have h2 := g b hb
  unfold clB
  refine decide_eq_false fun hc => ?_
  simp only [comV] at hc
  omega
/-- What a made scale tells of a rifle. -/
theorem MadS.has (h : MadS most s o X) {r : Nat} (hr : r < X.length) : (wgtV s r (offV s)).1 ≤ X[r].1 ∧ X[r].1 ≤ (wgtV s r (offV s)).2 := by
  have h1 := h.in
  have h2 := h.rifle _ (List.getElem_mem hr)
  simp only [wgtV, h.at hr]
  omega
end
end Go.Proofs.YtopdmadgkjdgcaaGreat

/- Walks of the reference: what rifles weigh; which of them pass, and which are open. -/
namespace Go.Proofs.YtopdmadgkjdgcaaGreat
set_option maxRecDepth 4000
open Go Go.Eng
theorem rweight_ca (w : World) (lo hi l2 h2 : Nat) (s : Sc) (tv rv v : Value) (h : ScR w lo hi tv rv s) (hs0 : s.Ok) (i : Nat) (hi' : i < s.rifles.length) (a b : Int) (hb : RdB w l2 h2 v (ofsL a b)) (ha1 : -1000 ≤ a) (hb1 : b ≤ 1000) : Ca Tryz.prog 121 [.agg (scC s tv rv).toArray, .int .i64 i, v] w fun x w' => x = spV2 (wgtV s i (ofsS a b)) ∧ Chg [] w w' := by
  obtain ⟨ta, tc, rfl, _⟩ := RdS.outI h.t
  obtain ⟨ra, rc, rfl, hra⟩ := RdI.outI h.r
  obtain ⟨rb, ro, rfl⟩ := hra (by omega)
  have he := hs0.err
  have hr := hs0.rif hi'
  have hsb : (-1000 ≤ (ofsS a b).1 ∧ (ofsS a b).1 ≤ 1000) ∧ -1000 ≤ (ofsS a b).2 ∧ (ofsS a b).2 ≤ 1000 := by
    unfold ofsS
    split
    · simp only; omega
    · simp only; omega
  obtain ⟨o, ho⟩ : ∃ o, o = ofsS a b := ⟨_, rfl⟩
  rw [← ho] at hsb
  have hrf : s.rifles[i] = s.rif i := by unfold Sc.rif; rw [List.getD_eq_getElem?_getD, List.getElem?_eq_getElem hi']; rfl
  refine q_of (Sat.nil w M0) Tryz.func121 rfl (by simp [Tryz.ntmps121]) ?_
  (refine q_seq (q_region ?_))
  refine ql_box rfl rfl (fun b3 => ?_)
  rw [agg_cells]
  skip
  refine ql_alloc zero56 rfl (fun b6 => ?_)
  (refine q_nil (q_seq (q_region (ql_pure tabOk rfl rfl ?_))))
  refine ql_callv (val := .tuple #[spV2 (ofsS a b), .bool (decide (a ≤ b))]) tabOk rfl rfl rfl rfl (fun w hs => ?_) ?_; exact rofs_ca w l2 h2 v a b (RdE.keep hb hs.chg0) ha1 hb1
  rw [← ho]
  (refine ql_pure tabOk rfl rfl (ql_ext tabOk rfl rfl rfl (ql_ext tabOk rfl rfl rfl ?_)))
  refine ql_alloc zero56 rfl (fun b7 => ?_)
  (refine ql_setA tabOk rfl rfl rfl rfl rfl (by repeat constructor) rfl ?_; refine ql_pure tabOk rfl rfl (q_nil (q_seq ?_)))
  refine q_draw _ [.pt b6 _ _] (Sp.cons (by repeat constructor) (Sp.refl _)) (by kernel_rfl) (by kernel_rfl) ?_
  (refine qf_pure tabOk rfl rfl rfl ?_; refine qf_loadBa tabOk rfl rfl rfl ?_; refine qf_pure tabOk rfl rfl rfl ?_)
  refine qf_index tabOk rfl rfl rfl rfl rfl (by omega) (by omega) ?_
  skip
  refine qf_load1 (v := .int .i64 (s.rif i)) tabOk rfl rfl rfl (fun w hs => by rw [← hrf]; exact RdI.at (RdE.keep h.r hs.chg0) i hi') ?_
  (refine qf_pure tabOk rfl rfl rfl ?_; refine qf_loadBa tabOk rfl rfl rfl ?_; refine qf_ar tabOk rfl rfl rfl rfl (by omega) (by omega) (qf_pure tabOk rfl rfl rfl ?_); refine qf_loadBa tabOk rfl rfl rfl ?_; refine qf_ar tabOk rfl rfl rfl rfl (by omega) (by omega) (qf_pure tabOk rfl rfl rfl ?_); refine qf_loadBa tabOk rfl rfl rfl ?_; refine qf_pure tabOk rfl rfl rfl ?_)
  refine qf_index tabOk rfl rfl rfl rfl rfl (by omega) (by omega) ?_
  skip
  refine qf_load1 (v := .int .i64 (s.rif i)) tabOk rfl rfl rfl (fun w hs => by rw [← hrf]; exact RdI.at (RdE.keep h.r hs.chg0) i hi') ?_
  (refine qf_pure tabOk rfl rfl rfl ?_; refine qf_loadBa tabOk rfl rfl rfl ?_; refine qf_ar tabOk rfl rfl rfl rfl (by omega) (by omega) (qf_pure tabOk rfl rfl rfl ?_); refine qf_loadBa tabOk rfl rfl rfl ?_; refine qf_ar tabOk rfl rfl rfl rfl (by omega) (by omega) ?_)
  refine qf_mk #[.int .i64 (s.rif i - o.2 - s.err), .int .i64 (s.rif i - o.1 + s.err)] rfl (by kernel_rfl) rfl ?_
  (refine qf_setA tabOk rfl rfl rfl rfl rfl (by repeat constructor) rfl ?_; refine qf_nil (q_ret ?_))
  refine q_fin tabOk rfl (by repeat constructor) fun w hs => ?_
  exact ⟨rfl, hs.chg0⟩
/-- The rifles that are open; of the first ones. -/
def opfL (s : Sc) (k : Nat) : List Nat := (List.range k).filter fun i => decide ((wgtV s i (offV s)).1 < s.least) && decide (s.least ≤ (wgtV s i (offV s)).2)
end Go.Proofs.YtopdmadgkjdgcaaGreat

/- Walks of the law: scales of the reference; scales compared; which scales are looked at. -/
namespace Go.Proofs.YtopdmadgkjdgcaaGreat
set_option maxRecDepth 4000
open Go Go.Eng
theorem slRT : SlT Tryz.prog 49 172 2 16 (.agg #[.int .i64 0, .int .i64 0]) := ⟨by kernel_rfl, by kernel_rfl, by kernel_rfl, by decide⟩
set_option maxHeartbeats 1000000 in
theorem rscale_ca (w : World) (lo hi : Nat) (s : Sc) (tv rv : Value) (h : ScR w lo hi tv rv s) (hl1 : s.tests.length ≤ 1000) : Ca Tryz.prog 31 [.agg (scC s tv rv).toArray] w fun x w' => ∃ u : Value, x = .agg (scC s u rv).toArray ∧ Sat w M0 [.ow u 172 2 s.tests.length (spC s.tests)] w' := by
  obtain ⟨ta, tc, rfl, hta⟩ := RdS.outI h.t
  obtain ⟨ra, rc, rfl, _⟩ := RdI.outI h.r
  refine q_of (Sat.nil w M0) Tryz.func31 rfl (by simp [Tryz.ntmps31]) ?_
  (refine q_seq (q_region ?_))
  refine ql_box rfl rfl (fun b1 => ?_)
  rw [agg_cells]
  skip
  refine ql_alloc zero51 rfl (fun b2 => ?_)
  (refine q_nil (q_seq (q_region (ql_pure tabOk rfl rfl ?_))); refine ql_loadBa tabOk rfl rfl rfl ?_; refine ql_pure tabOk rfl rfl ?_; refine ql_loadBa tabOk rfl rfl rfl ?_; refine ql_pure tabOk rfl rfl ?_; refine ql_loadBa tabOk rfl rfl rfl ?_)
  refine ql_mk #[.int .i64 s.err, .int .i64 s.least, .slice none 0 0, .slice ra s.rifles.length rc] rfl (by kernel_rfl) rfl ?_
  skip
  refine ql_alloc zero51 rfl (fun b3 => ?_)
  (refine ql_setA tabOk rfl rfl rfl rfl rfl (by repeat constructor) rfl ?_; refine q_nil (q_seq (q_seq (q_region (ql_pure tabOk rfl rfl ?_)))); refine ql_loadBa tabOk rfl rfl rfl ?_; refine ql_pure tabOk rfl rfl (ql_pure tabOk rfl rfl (q_nil (q_block ?_))))
  refine q_conv (H' := [.ow (.slice none 0 0) 172 2 0 (spC (s.tests.take 0)), .pt b3 [.int .i64 s.err, .int .i64 s.least, .slice none 0 0, .slice ra s.rifles.length rc] 51, .pt b2 [.int .i64 0, .int .i64 0, .slice none 0 0, .slice none 0 0] 51]) (fun w' hs => Sat.ownil (hs.sp (by repeat constructor)) 172 2) ?_
  refine q_loop (σ := Nat × Option Addr × Nat) (fun z => z.1 ≤ s.tests.length) (fun z => s.tests.length - z.1) (fun z => [(2, .pointer (some ⟨b2, 0, none⟩)), (3, .pointer (some ⟨b3, 0, none⟩)), (14, .slice ta s.tests.length tc), (15, .int .i64 s.tests.length), (16, .int .i64 z.1)])
    (fun z => [.ow (.slice z.2.1 z.1 z.2.2) 172 2 z.1 (spC (s.tests.take z.1)), .pt b3 [.int .i64 s.err, .int .i64 s.least, .slice z.2.1 z.1 z.2.2, .slice ra s.rifles.length rc] 51, .pt b2 [.int .i64 0, .int .i64 0, .slice none 0 0, .slice none 0 0] 51]) (0, none, 0) (by simp) ⟨rfl, rfl, rfl, rfl, rfl, trivial⟩ (by repeat constructor) ?_
  rintro ⟨i, u1, u2⟩ hi2 K hK
  dsimp only at hi2 hK ⊢
  (refine q_seq (q_region (ql_pure tabOk rfl rfl (q_nil (q_seq ?_)))))
  refine q_if rfl (fun hc => ?_) (fun hc => ?_)
  · have hi3 : i < s.tests.length := by omega
    clear hc
    obtain ⟨tb, to, rfl⟩ := hta (by omega)
    (refine q_skip (q_seq (q_block (q_seq (q_region ?_)))))
    refine ql_index tabOk rfl rfl rfl rfl rfl (by omega) (by omega) ?_
    refine ql_loadA (cs := [.int .i64 s.tests[i].1, .int .i64 s.tests[i].2]) tabOk rfl rfl rfl rfl (fun w hs q hq => by simpa using RdS.at (RdE.keep h.t hs.chg0) i hi3 q hq) ?_
    skip
    refine ql_alloc zero78 rfl (fun b5 => ?_)
    (refine ql_setA tabOk rfl rfl rfl rfl rfl (by repeat constructor) rfl ?_; refine q_nil (q_region (ql_pure tabOk rfl rfl ?_)); refine ql_loadBa tabOk rfl rfl rfl ?_; refine ql_loadABa tabOk rfl rfl rfl ?_)
    refine ql_mkS 172 [.int .i64 s.tests[i].1, .int .i64 s.tests[i].2] rfl (by kernel_rfl) rfl (fun bn => ?_)
    skip
    refine ql_append (q := 1) (news := [.int .i64 s.tests[i].1, .int .i64 s.tests[i].2]) slRT rfl rfl rfl (fun v' => by repeat constructor) (fun w' hs => ⟨_, _, Blk.rdN (hs.blk (b := bn) (by repeat constructor)) rfl⟩) (by simp [oneV]) (by omega) (by omega) (fun u' => ?_)
    refine ql_fact (fun w hs => hs.slice2 (v := u') (by repeat constructor)) ?_
    rintro ⟨a1, c1, rfl⟩
    (refine ql_pure tabOk rfl rfl ?_; refine ql_st2 tabOk rfl rfl rfl rfl (by repeat constructor) ?_; refine q_nil (q_blk (q_region (ql_ar tabOk rfl rfl rfl rfl (by omega) (by omega) (ql_pure tabOk rfl rfl (q_nil ?_))))))
    have e : spC (s.tests.take (i + 1)) = spC (s.tests.take i) ++ [.int .i64 s.tests[i].1, .int .i64 s.tests[i].2] := by
      rw [List.take_succ_eq_append_getElem hi3, spC_snoc2]
    exact hK (i + 1, a1, c1) _ _ (by simp only; omega) (by simp only; omega) ⟨rfl, rfl, rfl, rfl, rfl, trivial⟩ (by dsimp only; rw [e]; repeat constructor)
  · obtain rfl : i = s.tests.length := by omega
    rw [List.take_length]
    (refine q_exit _ rfl (q_seq (q_region ?_)); refine ql_loadABa tabOk rfl rfl rfl ?_; refine ql_setA tabOk rfl rfl rfl rfl rfl (by repeat constructor) rfl ?_; refine q_nil (q_ret ?_))
    refine q_fin tabOk rfl (by repeat constructor) fun w hs => ?_
    exact ⟨_, rfl, hs.sp (by repeat constructor)⟩
theorem rsame_ca (w : World) (lo hi lo2 hi2 : Nat) (s : Sc) (tv rv tv2 rv2 : Value) (h : ScR w lo hi tv rv s) (h2 : ScR w lo2 hi2 tv2 rv2 s) (hl1 : s.tests.length ≤ 1000) (hl2 : s.rifles.length ≤ 1000) : Ca Tryz.prog 45 [.agg (scC s tv rv).toArray, .agg (scC s tv2 rv2).toArray] w fun x w' => x = .bool true ∧ Chg [] w w' := by
  refine q_of (Sat.nil w M0) Tryz.func45 rfl (by simp [Tryz.ntmps45]) ?_
  (refine q_seq (q_region ?_))
  refine ql_box rfl rfl (fun b2 => ?_)
  rw [agg_cells]
  skip
  refine ql_box rfl rfl (fun b3 => ?_)
  rw [agg_cells]
  (refine ql_pure tabOk rfl rfl (q_nil (q_seq (q_region (ql_pure tabOk rfl rfl ?_)))); refine ql_loadBa tabOk rfl rfl rfl ?_; refine ql_pure tabOk rfl rfl ?_; refine ql_loadBa tabOk rfl rfl rfl ?_; refine ql_eqlT tabOk rfl rfl rfl (by omega) (ql_pure tabOk rfl rfl (ql_gyes rfl (ql_pure tabOk rfl rfl (ql_gyes rfl ?_)))); refine ql_loadBa tabOk rfl rfl rfl ?_; refine ql_gyes rfl (ql_pure tabOk rfl rfl (ql_gyes rfl ?_)); refine ql_loadBa tabOk rfl rfl rfl ?_; refine ql_gyes rfl (ql_eqlT tabOk rfl rfl rfl (by omega) (ql_pure tabOk rfl rfl (ql_pure tabOk rfl rfl (ql_gyes rfl (ql_pure tabOk rfl rfl (ql_gyes rfl ?_)))))); refine ql_loadBa tabOk rfl rfl rfl ?_; refine ql_gyes rfl (ql_pure tabOk rfl rfl (ql_gyes rfl ?_)); refine ql_loadBa tabOk rfl rfl rfl ?_; refine ql_gyes rfl ?_)
  refine ql_callv (val := .bool true) tabOk rfl rfl rfl rfl (fun w hs => ?_) ?_; exact eqTs_ca w lo hi lo2 hi2 tv tv2 s.tests (RdE.keep h.t hs.chg0) (RdE.keep h2.t hs.chg0) (by omega)
  (refine ql_pure tabOk rfl rfl (ql_pure tabOk rfl rfl (ql_gyes rfl (ql_pure tabOk rfl rfl (ql_gyes rfl ?_)))); refine ql_loadBa tabOk rfl rfl rfl ?_; refine ql_gyes rfl (ql_pure tabOk rfl rfl (ql_gyes rfl ?_)); refine ql_loadBa tabOk rfl rfl rfl ?_; refine ql_gyes rfl ?_)
  refine ql_callv (val := .bool true) tabOk rfl rfl rfl rfl (fun w hs => ?_) ?_; exact eqI_ca w lo hi lo2 hi2 rv rv2 s.rifles (RdE.keep h.r hs.chg0) (RdE.keep h2.r hs.chg0) (by omega)
  (refine ql_pure tabOk rfl rfl (ql_pure tabOk rfl rfl (q_nil (q_ret ?_))))
  refine q_fin tabOk rfl (by repeat constructor) fun w hs => ?_
  exact ⟨rfl, hs.chg0⟩
/-- Scales that have more than is looked at. -/
def grtB (s : Sc) (m : Int) : Bool := ((decide (m < s.rifles.length) && decide (s.rifles.length ≤ 8)) || decide (12 < s.rifles.length)) || decide (14 < s.tests.length)
theorem grtB_false {s : Sc} {m : Int} (h : grtB s m = false) : ¬ (m < s.rifles.length ∧ s.rifles.length ≤ 8) ∧ s.rifles.length ≤ 12 ∧ s.tests.length ≤ 14 := by
  unfold grtB at h
  simp only [Bool.or_eq_false_iff, Bool.and_eq_false_iff, decide_eq_false_iff_not] at h
  omega
theorem rgreat_ca (w : World) (lo hi : Nat) (s : Sc) (tv rv : Value) (m : Int) (h : ScR w lo hi tv rv s) : Ca Tryz.prog 29 [.agg (scC s tv rv).toArray, .int .i64 m] w fun x w' => x = .bool (grtB s m) ∧ Chg [] w w' := by
  obtain ⟨ta, tc, rfl, _⟩ := RdS.outI h.t
  obtain ⟨ra, rc, rfl, _⟩ := RdI.outI h.r
  refine q_of (Sat.nil w M0) Tryz.func29 rfl (by simp [Tryz.ntmps29]) ?_
  (refine q_seq (q_region ?_))
  refine ql_box rfl rfl (fun b2 => ?_)
  rw [agg_cells]
  by_cases h1 : m < s.rifles.length
  · by_cases h2 : s.rifles.length ≤ 8
    · (refine ql_pure tabOk rfl rfl (q_nil (q_seq (q_region (ql_pure tabOk rfl rfl ?_)))); refine ql_loadBa tabOk rfl rfl rfl ?_; refine ql_pure tabOk rfl rfl (ql_pure tabOk rfl rfl (ql_gtrT tabOk rfl rfl rfl (by omega) (ql_pure tabOk rfl rfl (ql_gyes rfl (ql_pure tabOk rfl rfl (ql_gyes rfl ?_)))))); refine ql_loadBa tabOk rfl rfl rfl ?_; refine ql_gyes rfl (ql_pure tabOk rfl rfl (ql_gyes rfl (ql_leqT tabOk rfl rfl rfl (by omega) (ql_pure tabOk rfl rfl (ql_pure tabOk rfl rfl ?_))))); (iterate 4 refine ql_gno rfl rfl rfl ?_); refine ql_pure tabOk rfl rfl (ql_pure tabOk rfl rfl ?_); (iterate 4 refine ql_gno rfl rfl rfl ?_); refine ql_pure tabOk rfl rfl (ql_pure tabOk rfl rfl (q_nil (q_ret ?_))))
      refine q_fin tabOk rfl (by repeat constructor) fun w hs => ?_
      exact ⟨by simp [retV, grtB, h1, h2], hs.chg0⟩
    · by_cases h3 : 12 < s.rifles.length
      · (refine ql_pure tabOk rfl rfl (q_nil (q_seq (q_region (ql_pure tabOk rfl rfl ?_)))); refine ql_loadBa tabOk rfl rfl rfl ?_; refine ql_pure tabOk rfl rfl (ql_pure tabOk rfl rfl (ql_gtrT tabOk rfl rfl rfl (by omega) (ql_pure tabOk rfl rfl (ql_gyes rfl (ql_pure tabOk rfl rfl (ql_gyes rfl ?_)))))); refine ql_loadBa tabOk rfl rfl rfl ?_; refine ql_gyes rfl (ql_pure tabOk rfl rfl (ql_gyes rfl (ql_leqF tabOk rfl rfl rfl (by omega) (ql_pure tabOk rfl rfl (ql_pure tabOk rfl rfl (ql_gyes rfl (ql_pure tabOk rfl rfl (ql_gyes rfl ?_)))))))); refine ql_loadBa tabOk rfl rfl rfl ?_; refine ql_gyes rfl (ql_pure tabOk rfl rfl (ql_gyes rfl (ql_gtrT tabOk rfl rfl rfl (by omega) (ql_pure tabOk rfl rfl (ql_pure tabOk rfl rfl ?_))))); (iterate 4 refine ql_gno rfl rfl rfl ?_); refine ql_pure tabOk rfl rfl (ql_pure tabOk rfl rfl (q_nil (q_ret ?_))))
        refine q_fin tabOk rfl (by repeat constructor) fun w hs => ?_
        exact ⟨by simp [retV, grtB, h2, h3], hs.chg0⟩
      · by_cases h4 : 14 < s.tests.length
        · (refine ql_pure tabOk rfl rfl (q_nil (q_seq (q_region (ql_pure tabOk rfl rfl ?_)))); refine ql_loadBa tabOk rfl rfl rfl ?_; refine ql_pure tabOk rfl rfl (ql_pure tabOk rfl rfl (ql_gtrT tabOk rfl rfl rfl (by omega) (ql_pure tabOk rfl rfl (ql_gyes rfl (ql_pure tabOk rfl rfl (ql_gyes rfl ?_)))))); refine ql_loadBa tabOk rfl rfl rfl ?_; refine ql_gyes rfl (ql_pure tabOk rfl rfl (ql_gyes rfl (ql_leqF tabOk rfl rfl rfl (by omega) (ql_pure tabOk rfl rfl (ql_pure tabOk rfl rfl (ql_gyes rfl (ql_pure tabOk rfl rfl (ql_gyes rfl ?_)))))))); refine ql_loadBa tabOk rfl rfl rfl ?_; refine ql_gyes rfl (ql_pure tabOk rfl rfl (ql_gyes rfl (ql_gtrF tabOk rfl rfl rfl (by omega) (ql_pure tabOk rfl rfl (ql_pure tabOk rfl rfl (ql_gyes rfl (ql_pure tabOk rfl rfl (ql_gyes rfl ?_)))))))); refine ql_loadBa tabOk rfl rfl rfl ?_; refine ql_gyes rfl (ql_pure tabOk rfl rfl (ql_gyes rfl (ql_gtrT tabOk rfl rfl rfl (by omega) (ql_pure tabOk rfl rfl (ql_pure tabOk rfl rfl (q_nil (q_ret ?_))))))))
          refine q_fin tabOk rfl (by repeat constructor) fun w hs => ?_
          exact ⟨by simp [retV, grtB, h4], hs.chg0⟩
        · (refine ql_pure tabOk rfl rfl (q_nil (q_seq (q_region (ql_pure tabOk rfl rfl ?_)))); refine ql_loadBa tabOk rfl rfl rfl ?_; refine ql_pure tabOk rfl rfl (ql_pure tabOk rfl rfl (ql_gtrT tabOk rfl rfl rfl (by omega) (ql_pure tabOk rfl rfl (ql_gyes rfl (ql_pure tabOk rfl rfl (ql_gyes rfl ?_)))))); refine ql_loadBa tabOk rfl rfl rfl ?_; refine ql_gyes rfl (ql_pure tabOk rfl rfl (ql_gyes rfl (ql_leqF tabOk rfl rfl rfl (by omega) (ql_pure tabOk rfl rfl (ql_pure tabOk rfl rfl (ql_gyes rfl (ql_pure tabOk rfl rfl (ql_gyes rfl ?_)))))))); refine ql_loadBa tabOk rfl rfl rfl ?_; refine ql_gyes rfl (ql_pure tabOk rfl rfl (ql_gyes rfl (ql_gtrF tabOk rfl rfl rfl (by omega) (ql_pure tabOk rfl rfl (ql_pure tabOk rfl rfl (ql_gyes rfl (ql_pure tabOk rfl rfl (ql_gyes rfl ?_)))))))); refine ql_loadBa tabOk rfl rfl rfl ?_; refine ql_gyes rfl (ql_pure tabOk rfl rfl (ql_gyes rfl (ql_gtrF tabOk rfl rfl rfl (by omega) (ql_pure tabOk rfl rfl (ql_pure tabOk rfl rfl (q_nil (q_ret ?_))))))))
          refine q_fin tabOk rfl (by repeat constructor) fun w hs => ?_
          exact ⟨by simp [retV, grtB, h2, h3, h4], hs.chg0⟩
  · by_cases h3 : 12 < s.rifles.length
    · (refine ql_pure tabOk rfl rfl (q_nil (q_seq (q_region (ql_pure tabOk rfl rfl ?_)))); refine ql_loadBa tabOk rfl rfl rfl ?_; refine ql_pure tabOk rfl rfl (ql_pure tabOk rfl rfl (ql_gtrF tabOk rfl rfl rfl (by omega) (ql_pure tabOk rfl rfl ?_))); (iterate 4 refine ql_gno rfl rfl rfl ?_); refine ql_pure tabOk rfl rfl (ql_pure tabOk rfl rfl (ql_gyes rfl (ql_pure tabOk rfl rfl (ql_gyes rfl ?_)))); refine ql_loadBa tabOk rfl rfl rfl ?_; refine ql_gyes rfl (ql_pure tabOk rfl rfl (ql_gyes rfl (ql_gtrT tabOk rfl rfl rfl (by omega) (ql_pure tabOk rfl rfl (ql_pure tabOk rfl rfl ?_))))); (iterate 4 refine ql_gno rfl rfl rfl ?_); refine ql_pure tabOk rfl rfl (ql_pure tabOk rfl rfl (q_nil (q_ret ?_))))
      refine q_fin tabOk rfl (by repeat constructor) fun w hs => ?_
      exact ⟨by simp [retV, grtB, h3], hs.chg0⟩
    · by_cases h4 : 14 < s.tests.length
      · (refine ql_pure tabOk rfl rfl (q_nil (q_seq (q_region (ql_pure tabOk rfl rfl ?_)))); refine ql_loadBa tabOk rfl rfl rfl ?_; refine ql_pure tabOk rfl rfl (ql_pure tabOk rfl rfl (ql_gtrF tabOk rfl rfl rfl (by omega) (ql_pure tabOk rfl rfl ?_))); (iterate 4 refine ql_gno rfl rfl rfl ?_); refine ql_pure tabOk rfl rfl (ql_pure tabOk rfl rfl (ql_gyes rfl (ql_pure tabOk rfl rfl (ql_gyes rfl ?_)))); refine ql_loadBa tabOk rfl rfl rfl ?_; refine ql_gyes rfl (ql_pure tabOk rfl rfl (ql_gyes rfl (ql_gtrF tabOk rfl rfl rfl (by omega) (ql_pure tabOk rfl rfl (ql_pure tabOk rfl rfl (ql_gyes rfl (ql_pure tabOk rfl rfl (ql_gyes rfl ?_)))))))); refine ql_loadBa tabOk rfl rfl rfl ?_; refine ql_gyes rfl (ql_pure tabOk rfl rfl (ql_gyes rfl (ql_gtrT tabOk rfl rfl rfl (by omega) (ql_pure tabOk rfl rfl (ql_pure tabOk rfl rfl (q_nil (q_ret ?_))))))))
        refine q_fin tabOk rfl (by repeat constructor) fun w hs => ?_
        exact ⟨by simp [retV, grtB, h4], hs.chg0⟩
      · (refine ql_pure tabOk rfl rfl (q_nil (q_seq (q_region (ql_pure tabOk rfl rfl ?_)))); refine ql_loadBa tabOk rfl rfl rfl ?_; refine ql_pure tabOk rfl rfl (ql_pure tabOk rfl rfl (ql_gtrF tabOk rfl rfl rfl (by omega) (ql_pure tabOk rfl rfl ?_))); (iterate 4 refine ql_gno rfl rfl rfl ?_); refine ql_pure tabOk rfl rfl (ql_pure tabOk rfl rfl (ql_gyes rfl (ql_pure tabOk rfl rfl (ql_gyes rfl ?_)))); refine ql_loadBa tabOk rfl rfl rfl ?_; refine ql_gyes rfl (ql_pure tabOk rfl rfl (ql_gyes rfl (ql_gtrF tabOk rfl rfl rfl (by omega) (ql_pure tabOk rfl rfl (ql_pure tabOk rfl rfl (ql_gyes rfl (ql_pure tabOk rfl rfl (ql_gyes rfl ?_)))))))); refine ql_loadBa tabOk rfl rfl rfl ?_; refine ql_gyes rfl (ql_pure tabOk rfl rfl (ql_gyes rfl (ql_gtrF tabOk rfl rfl rfl (by omega) (ql_pure tabOk rfl rfl (ql_pure tabOk rfl rfl (q_nil (q_ret ?_))))))))
        refine q_fin tabOk rfl (by repeat constructor) fun w hs => ?_
        exact ⟨by simp [retV, grtB, h1, h3, h4], hs.chg0⟩
end Go.Proofs.YtopdmadgkjdgcaaGreat

/- What a function of the chapter is told of its arguments: scales, plans, guards. -/
namespace Go.Proofs.YtopdmadgkjdgcaaGreat
set_option maxRecDepth 4000
open Go Go.Eng
theorem cs4 {cs : List Value} (h : cs.length = 4) : ∃ a b c d, cs = [a, b, c, d] := by
  match cs, h with
  | [a, b, c, d], _ => exact ⟨a, b, c, d, rfl⟩
section
variable {H : Type} {enc : TypeId × Value → H} {w : World} {sp : Nat → Bool} {held : Bool} {rc : Reach} {base : Nat} {v : Value} {d : DataW H} {ps : List MemPlace}
theorem und_sc : Tryz.prog.underlying 46 = some (.struct (Tryz.prog.fieldsOf 46)) := by kernel_rfl
theorem cel_sc : Tryz.prog.cellsOf 46 = 4 := by kernel_rfl
theorem und_ts : Tryz.prog.underlying 78 = some (.struct (Tryz.prog.fieldsOf 78)) := by kernel_rfl
theorem cel_ts : Tryz.prog.cellsOf 78 = 2 := by kernel_rfl
theorem und_nd : Tryz.prog.underlying 91 = some (.struct (Tryz.prog.fieldsOf 91)) := by kernel_rfl
theorem cel_nd : Tryz.prog.cellsOf 91 = 3 := by kernel_rfl
theorem und_Ts : Tryz.prog.underlying 44 = some (.slice 78) := by kernel_rfl
theorem cel_Ts : Tryz.prog.cellsOf 44 = 1 := by kernel_rfl
theorem und_Nd : Tryz.prog.underlying 88 = some (.slice 91) := by kernel_rfl
theorem trod_ts {n : Nat} {c : List Value} {y : DataW H × List MemPlace} (h : DataW.trod enc Tryz.prog w 0 sp held n 78 c = some y) : ∃ a : Int × Int, c = (rtV a).cells.toList ∧ (I64 a.1 ∧ I64 a.2) := by
  have hl := (in_field und_ts h).1
  rw [cel_ts] at hl
  obtain ⟨n0, y0, f0⟩ := in_fieldK und_ts h 0 3 0 1 (by kernel_rfl) cel_i
  obtain ⟨n1, y1, f1⟩ := in_fieldK und_ts h 1 3 1 1 (by kernel_rfl) cel_i
  obtain ⟨a0, a1, rfl⟩ := cs2 hl
  obtain ⟨x0, g0, e0⟩ := in_int und_i f0
  obtain ⟨x1, g1, e1⟩ := in_int und_i f1
  cases g0; cases g1
  exact ⟨(x0, x1), rfl, e0, e1⟩
theorem trod_nd {n : Nat} {c : List Value} {y : DataW H × List MemPlace} (h : DataW.trod enc Tryz.prog w 0 sp held n 91 c = some y) : ∃ a : Nd, c = (nodV a).cells.toList ∧ (I64 a.r ∧ I64 a.p ∧ I64 a.f) := by
  have hl := (in_field und_nd h).1
  rw [cel_nd] at hl
  obtain ⟨n0, y0, f0⟩ := in_fieldK und_nd h 0 3 0 1 (by kernel_rfl) cel_i
  obtain ⟨n1, y1, f1⟩ := in_fieldK und_nd h 1 3 1 1 (by kernel_rfl) cel_i
  obtain ⟨n2, y2, f2⟩ := in_fieldK und_nd h 2 3 2 1 (by kernel_rfl) cel_i
  obtain ⟨a0, a1, a2, rfl⟩ := cs3 hl
  obtain ⟨x0, g0, e0⟩ := in_int und_i f0
  obtain ⟨x1, g1, e1⟩ := in_int und_i f1
  obtain ⟨x2, g2, e2⟩ := in_int und_i f2
  cases g0; cases g1; cases g2
  exact ⟨⟨x0, x1, x2⟩, rfl, e0, e1, e2⟩
set_option maxRecDepth 100000 in
/-- A scale that came in. -/
theorem in_Sc (h : DataW.Trod enc Tryz.prog w 0 sp held 46 v d ps) (hv : Value.okWide Tryz.prog w rc base 46 v) :
    ∃ (s : Sc) (tv rv : Value), v = .agg (scC s tv rv).toArray ∧ ScR w 0 w.heap.size tv rv s := by
  obtain ⟨fuel, h⟩ := h
  obtain ⟨cs, rfl, hcs⟩ := agg_of und_sc hv
  rw [hcs] at h
  have hl := (in_field und_sc h).1
  rw [cel_sc] at hl
  obtain ⟨n0, y0, f0⟩ := in_fieldK und_sc h 0 3 0 1 (by kernel_rfl) cel_i
  obtain ⟨n1, y1, f1⟩ := in_fieldK und_sc h 1 3 1 1 (by kernel_rfl) cel_i
  obtain ⟨n2, y2, f2⟩ := in_fieldK und_sc h 2 44 2 1 (by kernel_rfl) cel_Ts
  obtain ⟨n3, y3, f3⟩ := in_fieldK und_sc h 3 29 3 1 (by kernel_rfl) cel_l
  obtain ⟨a0, a1, a2, a3, rfl⟩ := cs4 hl
  obtain ⟨x0, g0, e0⟩ := in_int und_i f0
  obtain ⟨x1, g1, e1⟩ := in_int und_i f1
  obtain ⟨u, l, g2, h2, h3, h4⟩ := in_flats rtV (fun a => I64 a.1 ∧ I64 a.2) (sz := 2) (fun _ => rfl) (by omega) und_Ts cel_ts (fun n c y hc => trod_ts hc) f2
  obtain ⟨u2, l2, g3, k2, k3, k4⟩ := in_ints und_l und_i cel_i f3
  cases g0; cases g1; cases g2; cases g3
  exact ⟨⟨x0, x1, l, l2⟩, _, _, rfl, ⟨h2, k2⟩⟩
set_option maxRecDepth 100000 in
/-- A plan that came in. -/
theorem in_Nd (h : DataW.Trod enc Tryz.prog w 0 sp held 88 v d ps) (hv : Value.okWide Tryz.prog w rc base 88 v) :
    ∃ l : List Nd, RdN w 0 w.heap.size v l ∧ l.length ≤ maxLen := by
  obtain ⟨fuel, h⟩ := h
  obtain ⟨a, n, c, rfl⟩ := WideShapes.okWide_slice und_Nd hv
  obtain ⟨u, l, g2, h2, h3, h4⟩ := in_flats nodV (fun a => I64 a.r ∧ I64 a.p ∧ I64 a.f) (sz := 3) (fun _ => rfl) (by omega) und_Nd cel_nd (fun n c y hc => trod_nd hc) h
  cases g2
  exact ⟨l, h2, h4⟩
end
end Go.Proofs.YtopdmadgkjdgcaaGreat

/- The engine, part B45: an empty list that is no nil, in a region that draws. -/
namespace Go.Eng
set_option maxRecDepth 4000
open Go Go.RowKit
section
variable {P : Program} {T : Tab} {ro : Cx} {n : Nat} {F : Fin} {w0 : World} {M : Nat → Prop} {k : List It} {ops : Array Oper} {rest : List Oper} {e : Env} {H H' Hq : List Ck}
theorem qf_mkSz (et sz : Nat) {d t : Nat} {ty : TypeId} {pos : String} {af : Array Edge} (hu : P.underlying t = some (.slice et)) (hi : (P.info? et).isSome = true) (hd : Nat.blt d n = true)
    (h : ∀ b, QF P ro n F w0 M k ops Hq rest ((d, .slice (some ⟨b, 0, none⟩) 0 0) :: e) (.ow (.slice (some ⟨b, 0, none⟩) 0 0) et sz 0 [] :: H)) : QF P ro n F w0 M k ops Hq (⟨some d, .buildSlice t 0 #[], ty, pos, af, none⟩ :: rest) e H := .mk fun w hs => by
  have hs' : Sat w0 M (.ow (.slice (some ⟨w.heap.size, 0, none⟩) 0 0) et sz 0 [] :: (H ++ Hq)) (w.alloc (.cells #[] et)) := Sat.pt_ow (m := 0) (by simp) (by omega) (hs.addPt (alloc_chg _ _) (by simp) (alloc_blk w _ _))
  refine yf_eff (w' := w.alloc (.cells #[] et)) rfl hd (fun a hf => ?_) (hs'.tail).right ((h w.heap.size).h _ hs')
  simp only [execOp]
  simp [run_mkS0 hu hi]
end
end Go.Eng

/- Walks of the reference: what is known; what is known after a check. Written by gen_F37.py. -/
namespace Go.Proofs.YtopdmadgkjdgcaaGreat
set_option maxRecDepth 4000
open Go Go.Eng
/-- What was shown of a rifle: 0 nothing, 1 that it passes, 2 that it fails. -/
def skV (k : Kn) (i : Nat) : Int := if k.p.getD i false = true then 1 else if k.f.getD i false = true then 2 else 0
def skL (s : Sc) (k : Kn) : List Int := (List.range s.rifles.length).map (skV k)
theorem skL_len (s : Sc) (k : Kn) : (skL s k).length = s.rifles.length := by simp [skL]
theorem skL_get (s : Sc) (k : Kn) {i : Nat} (h : i < (skL s k).length) : (skL s k)[i] = skV k i := by simp [skL]
theorem skV_zero {k : Kn} {i : Nat} : skV k i = 0 ↔ k.free i = true := by
  unfold skV Kn.free
  cases k.p.getD i false <;> cases k.f.getD i false <;> simp
theorem skL_pass {s : Sc} {k : Kn} {i : Nat} (hk : k.p.length = 8) (hi : i < s.rifles.length) (h8 : s.rifles.length ≤ 8) : (skL s k).set i 1 = skL s (passK s k i) := by
  refine List.ext_getElem (by rw [List.length_set, skL_len, skL_len]) fun j h1 h2 => ?_
  rw [skL_get, List.getElem_set]
  have e : skV (passK s k i) j = if i = j then 1 else skV k j := by
    unfold skV passK
    simp only
    rw [getD_setB (by omega)]
    by_cases c : i = j
    · simp [c]
    · simp [c]
  rw [e, skL_get s k (by rw [skL_len]; rw [List.length_set, skL_len] at h1; exact h1)]
theorem skL_fail {s : Sc} {k : Kn} {i : Nat} (hk : k.f.length = 8) (hi : i < s.rifles.length) (h8 : s.rifles.length ≤ 8) (hf : k.free i = true) : (skL s k).set i 2 = skL s (failK s k i) := by
  have hp : k.p.getD i false = false := by
    unfold Kn.free at hf
    cases h : k.p.getD i false
    · rfl
    · rw [h] at hf; cases hf
  refine List.ext_getElem (by rw [List.length_set, skL_len, skL_len]) fun j h1 h2 => ?_
  rw [skL_get, List.getElem_set]
  have e : skV (failK s k i) j = if i = j then 2 else skV k j := by
    unfold skV failK
    simp only
    rw [getD_setB (by omega)]
    by_cases c : i = j
    · subst c
      rw [hp]
      simp
    · simp [c]
  rw [e, skL_get s k (by rw [skL_len]; rw [List.length_set, skL_len] at h1; exact h1)]
/-- What is known can be read. -/
structure KnR (w : World) (lo hi : Nat) (ov sv : Value) (s : Sc) (k : Kn) : Prop where
  o : RdB w lo hi ov (ofsL k.lo k.hi)
  s : RdI w lo hi sv (skL s k)
theorem KnR.keep {w w' : World} {lo hi : Nat} {ov sv : Value} {s : Sc} {k : Kn} (h : KnR w lo hi ov sv s k) (c : Chg [] w w') : KnR w' lo hi ov sv s k := ⟨RdE.keep h.o c, RdE.keep h.s c⟩
theorem rdB_row {w : World} {lo hi N : Nat} {v : Value} {a b : Int} (h : RdB w lo hi v (ofsL a b)) (hN : N = 2001) : Rd w lo hi v 1 N (bools (ofsL a b)) := by
  have := h.rd
  rw [cellsOf_bools] at this
  rw [List.length_map, ofsL_len, ← hN] at this
  exact this
theorem rdI_row {w : World} {lo hi N : Nat} {v : Value} {l : List Int} (h : RdI w lo hi v l) (hN : l.length = N) : Rd w lo hi v 1 N (ints l) := by
  have := h.rd
  rw [cellsOf_ints] at this
  rw [List.length_map, hN] at this
  exact this
theorem bools_one (l : List Bool) : ∀ c ∈ bools l, oneV c = true := fun c hc => by obtain ⟨b, _, rfl⟩ := List.mem_map.1 hc; rfl
theorem ints_one (l : List Int) : ∀ c ∈ ints l, oneV c = true := fun c hc => by obtain ⟨b, _, rfl⟩ := List.mem_map.1 hc; rfl
theorem own_rdB {w : World} {t n : Nat} {v : Value} {l : List Bool} (h : w.ownsRow 0 t 1 v n (bools l)) (hn : n = l.length) : RdB w 0 w.heap.size v l := by
  subst hn
  exact RdB.of (own_rd h)
/-- The first of one list, the rest of another one. -/
def ofsM (a b c d : Int) (j : Nat) : List Bool := (ofsL c d).take j ++ (ofsL a b).drop j
theorem ofsM_len (a b c d : Int) {j : Nat} (h : j ≤ 2001) : (ofsM a b c d j).length = 2001 := by
  unfold ofsM
  rw [List.length_append, List.length_take, List.length_drop, ofsL_len, ofsL_len]
  omega
theorem ofsM_zero (a b c d : Int) : ofsM a b c d 0 = ofsL a b := rfl
theorem ofsM_full (a b c d : Int) : ofsM a b c d 2001 = ofsL c d := by
  unfold ofsM
  rw [List.take_of_length_le (by rw [ofsL_len]; exact Nat.le_refl _), List.drop_of_length_le (by rw [ofsL_len]; exact Nat.le_refl _), List.append_nil]
theorem ofsM_set (a b c d : Int) {j : Nat} (h : j < 2001) : (ofsM a b c d j).set j (ofsB c d j) = ofsM a b c d (j + 1) := by
  have h1 : j < (ofsL a b).length := by rw [ofsL_len]; exact h
  have h2 : j < (ofsL c d).length := by rw [ofsL_len]; exact h
  unfold ofsM
  rw [List.set_append_right _ _ (by rw [List.length_take]; omega), List.length_take, show j - min j (ofsL c d).length = 0 from by omega, List.drop_eq_getElem_cons h1, List.set_cons_zero, List.take_succ_eq_append_getElem h2, ofsL_get c d h2, List.append_assoc]
  rfl
theorem ofsM_same (a b c d : Int) {j : Nat} (h : j < 2001) (e : ofsB a b j = ofsB c d j) : ofsM a b c d j = ofsM a b c d (j + 1) := by
  have h1 : j < (ofsL a b).length := by rw [ofsL_len]; exact h
  have h2 : j < (ofsL c d).length := by rw [ofsL_len]; exact h
  unfold ofsM
  rw [List.drop_eq_getElem_cons h1, List.take_succ_eq_append_getElem h2, ofsL_get a b h1, ofsL_get c d h2, e, List.append_assoc]
  rfl
theorem rafter_old (w : World) (lo hi l2 h2 : Nat) (s : Sc) (tv rv ov sv : Value) (k : Kn) (h : ScR w lo hi tv rv s) (hkr : KnR w l2 h2 ov sv s k) (i : Nat) (hi' : i < s.rifles.length) (hf : k.free i = false) (b : Bool) : Ca Tryz.prog 171 [.agg (scC s tv rv).toArray, .agg #[ov, sv], .int .i64 i, .int .i64 (if b then 1 else 2)] w fun x w' => x = .tuple #[.agg #[ov, sv], .bool (k.p.getD i false == b)] ∧ Chg [] w w' := by
  obtain ⟨ta, tc, rfl, _⟩ := RdS.outI h.t
  obtain ⟨ra, rc, rfl, _⟩ := RdI.outI h.r
  obtain ⟨sa, sc, rfl, hsa⟩ := RdI.outI hkr.s
  obtain ⟨oa, oc, rfl, _⟩ := hkr.o.out
  have hsl := skL_len s k
  obtain ⟨sb, so, rfl⟩ := hsa (by omega)
  have hpos : 0 < skV k i := by
    have h1 : skV k i ≠ 0 := fun e => by rw [skV_zero, hf] at e; cases e
    have h2 : 0 ≤ skV k i := by unfold skV; split; decide; split; decide; decide
    omega
  have hcell : ∀ w', Chg [] w w' → w'.cell? ⟨sb, so + i * 1, none⟩ = some (.int .i64 (skV k i)) := fun w' hw => by
    have := RdI.at (RdE.keep hkr.s hw) i (by rw [hsl]; exact hi')
    rw [skL_get] at this
    exact this
  have heq : (skV k i = (if b then 1 else 2)) ↔ (k.p.getD i false == b) = true := by
    unfold Kn.free at hf
    unfold skV
    cases hp : k.p.getD i false <;> cases hq : k.f.getD i false <;> cases b <;> simp_all
  obtain ⟨x, hx⟩ : ∃ x, x = skV k i := ⟨_, rfl⟩
  rw [← hx] at hpos hcell heq
  refine q_of (Sat.nil w M0) Tryz.func171 rfl (by simp [Tryz.ntmps171]) ?_
  (refine q_seq (q_region ?_))
  refine ql_box rfl rfl (fun b4 => ?_)
  rw [agg_cells]
  skip
  refine ql_box rfl rfl (fun b5 => ?_)
  skip
  refine ql_alloc zero209 rfl (fun b8 => ?_)
  (refine ql_pure tabOk rfl rfl (q_nil (q_seq (q_seq (q_region (ql_pure tabOk rfl rfl ?_))))); refine ql_loadBa tabOk rfl rfl rfl ?_; refine ql_pure tabOk rfl rfl ?_)
  refine ql_index tabOk rfl rfl rfl rfl rfl (by omega) (by rw [hsl]; omega) ?_
  refine ql_load1 tabOk rfl rfl rfl (fun w hs => hcell _ hs.chg0) ?_
  (refine ql_gtrT tabOk rfl rfl rfl (by omega) (q_nil (q_cond_true rfl (q_seq ?_))))
  refine q_draw _ [.pt b8 _ _] (Sp.cons (by repeat constructor) (Sp.refl _)) (by kernel_rfl) (by kernel_rfl) ?_
  (refine qf_loadABa tabOk rfl rfl rfl ?_; refine qf_pure tabOk rfl rfl rfl ?_; refine qf_loadBa tabOk rfl rfl rfl ?_; refine qf_pure tabOk rfl rfl rfl ?_)
  refine qf_index tabOk rfl rfl rfl rfl rfl (by omega) (by rw [hsl]; omega) ?_
  skip
  refine qf_load1 tabOk rfl rfl rfl (fun w hs => hcell _ hs.chg0) ?_
  have hfin : (decide (x = if b = true then 1 else 2)) = (k.p.getD i false == b) := by
    rw [Bool.eq_iff_iff, decide_eq_true_iff]
    exact heq
  rw [← hfin]
  (refine qf_pure tabOk rfl rfl rfl (qf_pure tabOk rfl rfl rfl ?_); refine qf_setA tabOk rfl rfl rfl rfl rfl (by repeat constructor) rfl ?_; refine qf_pure tabOk rfl rfl rfl (qf_nil (q_ret ?_)))
  refine q_fin tabOk rfl (by repeat constructor) fun w hs => ?_
  exact ⟨rfl, hs.chg0⟩
/-- What is known after a check of a rifle that was not checked before. -/
def kB (s : Sc) (k : Kn) (i : Nat) (b : Bool) : Kn := if b = true then passK s k i else failK s k i
theorem kB_bd {s : Sc} {k : Kn} (hk : k.Fit) (i : Nat) (b : Bool) : -1000 ≤ (kB s k i b).lo ∧ (kB s k i b).hi ≤ 1000 := by
  have h1 := hk.lo
  have h2 := hk.hi
  unfold kB
  cases b
  · rw [if_neg (by decide)]
    unfold failK
    simp only
    omega
  · rw [if_pos rfl]
    unfold passK
    simp only
    omega
theorem skL_set {s : Sc} {k : Kn} {i : Nat} (hk : k.Fit) (hi : i < s.rifles.length) (h8 : s.rifles.length ≤ 8) (hf : k.free i = true) (b : Bool) : (skL s k).set i (if b = true then 1 else 2) = skL s (kB s k i b) := by
  unfold kB
  cases b
  · rw [if_neg (by decide), if_neg (by decide)]
    exact skL_fail hk.f8 hi h8 hf
  · rw [if_pos rfl, if_pos rfl]
    exact skL_pass hk.p8 hi h8
/-- Whether an offset falls away. -/
def cutB (s : Sc) (i : Nat) (b : Bool) (j : Nat) : Bool := if b = true then decide (s.rif i - ((j : Int) - 1000) + s.err < s.least) else decide (s.least ≤ s.rif i - ((j : Int) - 1000) - s.err)
theorem cut_ofs {s : Sc} {k : Kn} (i : Nat) (b : Bool) {j : Nat} (hj : j < 2001) : ofsB (kB s k i b).lo (kB s k i b).hi j = (ofsB k.lo k.hi j && !(cutB s i b j)) := by
  rw [Bool.eq_iff_iff]
  unfold kB cutB ofsB
  cases b
  · rw [if_neg (by decide), if_neg (by decide)]
    unfold failK edgeV
    simp only [Bool.and_eq_true, decide_eq_true_iff, Bool.not_eq_true', decide_eq_false_iff_not]
    omega
  · rw [if_pos rfl, if_pos rfl]
    unfold passK edgeV
    simp only [Bool.and_eq_true, decide_eq_true_iff, Bool.not_eq_true', decide_eq_false_iff_not]
    omega
def tF37_f5e1940 : OT := chainT [10] (.nil)
def tF37_e92e7b8 : OT := chainT [9] (tF37_f5e1940)
def tF37_f0abd17 : OT := chainT [5, 6, 7, 8] (tF37_f5e1940)
def tF37_12ad7e0 : OT := .alt (chainT [5, 6, 7, 8] (tF37_e92e7b8)) (chainT [9] (tF37_f0abd17))
def tF37_1adb0f3 : OT := chainT [4] (tF37_f0abd17)
def tF37_ef2443a : OT := .alt (chainT [4] (tF37_12ad7e0)) (chainT [9] (tF37_1adb0f3))
def tF37_351e6ba : OT := chainT [1, 2, 3] (tF37_f0abd17)
def tF37_0a8b54d : OT := .alt (chainT [1, 2, 3] (tF37_12ad7e0)) (chainT [9] (tF37_351e6ba))
def tF37_9e734c6 : OT := .alt (chainT [1, 2, 3] (tF37_1adb0f3)) (chainT [4] (tF37_351e6ba))
def tF37_6c26d9f : OT := .alt (chainT [1, 2, 3] (tF37_ef2443a)) (.alt (chainT [4] (tF37_0a8b54d)) (chainT [9] (tF37_9e734c6)))
def tF37_057bea5 : OT := chainT [0] (tF37_351e6ba)
def tF37_b8c2c40 : OT := .alt (chainT [0] (tF37_0a8b54d)) (chainT [9] (tF37_057bea5))
def tF37_aaf68eb : OT := .alt (chainT [0] (tF37_9e734c6)) (chainT [4] (tF37_057bea5))
def tF37_3bf612e : OT := .alt (chainT [0] (tF37_6c26d9f)) (.alt (chainT [4] (tF37_b8c2c40)) (chainT [9] (tF37_aaf68eb)))
set_option maxHeartbeats 8000000 in
theorem rafter_free (w : World) (lo hi l2 h2 : Nat) (s : Sc) (tv rv ov sv : Value) (k : Kn) (h : ScR w lo hi tv rv s) (hs0 : s.Ok) (hkr : KnR w l2 h2 ov sv s k) (hk : k.Fit) (i : Nat) (hi' : i < s.rifles.length) (hf : k.free i = true) (b : Bool) : Ca Tryz.prog 171 [.agg (scC s tv rv).toArray, .agg #[ov, sv], .int .i64 i, .int .i64 (if b = true then 1 else 2)] w fun x w' => ∃ y : Value × Value, x = .tuple #[.agg #[y.1, y.2], .bool (decide ((kB s k i b).lo ≤ (kB s k i b).hi))] ∧ Sat w M0 [.ow y.1 4 1 2001 (bools (ofsL (kB s k i b).lo (kB s k i b).hi)), .ow y.2 3 1 s.rifles.length (ints (skL s (kB s k i b)))] w' := by
  have h8 := hs0.rn8
  have herr := hs0.err
  have hlea := hs0.least
  have hr := hs0.rif hi'
  have hrf : s.rifles[i] = s.rif i := by unfold Sc.rif; rw [List.getD_eq_getElem?_getD, List.getElem?_eq_getElem hi']; rfl
  obtain ⟨ta, tc, rfl, _⟩ := RdS.outI h.t
  obtain ⟨ra, rc, rfl, hra⟩ := RdI.outI h.r
  obtain ⟨rb, ro, rfl⟩ := hra (by omega)
  obtain ⟨sa, sc, rfl, hsa⟩ := RdI.outI hkr.s
  obtain ⟨oa, oc, rfl, hoa⟩ := hkr.o.out
  have hsl := skL_len s k
  obtain ⟨N, hN⟩ : ∃ N : Nat, N = 2001 := ⟨_, rfl⟩
  have el : (bools (ofsL k.lo k.hi)).length = N := by rw [List.length_map, ofsL_len, hN]
  rw [el] at hkr hoa ⊢
  rw [hsl] at hkr hsa ⊢
  obtain ⟨sa, so, rfl⟩ := hsa (by omega)
  obtain ⟨oa, oo, rfl⟩ := hoa (by omega)
  have hcell : ∀ w', Chg [] w w' → w'.cell? ⟨sa, so + i * 1, none⟩ = some (.int .i64 0) := fun w' hw => by
    have := RdI.at (RdE.keep hkr.s hw) i (by rw [hsl]; exact hi')
    rw [skL_get, skV_zero.2 hf] at this
    exact this
  obtain ⟨sh, hsh⟩ : ∃ sh : Int, sh = if b = true then 1 else 2 := ⟨_, rfl⟩
  rw [← hsh]
  refine q_of (Sat.nil w M0) Tryz.func171 rfl (by simp [Tryz.ntmps171]) ?_
  (refine q_seq (q_region ?_))
  refine ql_box rfl rfl (fun b4 => ?_)
  rw [agg_cells]
  skip
  refine ql_box rfl rfl (fun b5 => ?_)
  skip
  refine ql_alloc zero209 rfl (fun b8 => ?_)
  (refine ql_pure tabOk rfl rfl (q_nil (q_seq (q_seq (q_region (ql_pure tabOk rfl rfl ?_))))); refine ql_loadBa tabOk rfl rfl rfl ?_; refine ql_pure tabOk rfl rfl ?_)
  refine ql_index tabOk rfl rfl rfl rfl rfl (by omega) (by omega) ?_
  refine ql_load1 tabOk rfl rfl rfl (fun w hs => hcell _ hs.chg0) ?_
  (refine ql_gtrF tabOk rfl rfl rfl (by omega) (q_nil (q_cond_false rfl (q_skip (q_seq ?_)))))
  refine q_conv (H' := [.pt b4 (scC s (.slice ta s.tests.length tc) (.slice (some ⟨rb, ro, none⟩) s.rifles.length rc)) 51, .pt b5 [(.slice (some ⟨oa, oo, none⟩) N oc), (.slice (some ⟨sa, so, none⟩) s.rifles.length sc)] 209, .pt b8 [.slice none 0 0, .slice none 0 0] 209]) (fun w' hs => hs.sp (by repeat constructor)) ?_
  refine q_cut (σ := Option Addr × Nat × Option Addr × Nat × Nat) (fun ⟨p3, q3, p7, q7, b10⟩ => [(2, .int .i64 i), (3, .int .i64 sh), (4, .pointer (some ⟨b4, 0, none⟩)), (8, .pointer (some ⟨b8, 0, none⟩)), (10, .pointer (some ⟨b10, 0, none⟩))])
    (fun ⟨p3, q3, p7, q7, b10⟩ => [.ow (.slice p3 N q3) 4 1 N (bools (ofsL k.lo k.hi)), .ow (.slice p7 s.rifles.length q7) 3 1 s.rifles.length (ints (skL s k)), .pt b10 [.slice p3 N q3, .slice p7 s.rifles.length q7] 209, .pt b4 (scC s (.slice ta s.tests.length tc) (.slice (some ⟨rb, ro, none⟩) s.rifles.length rc)) 51, .pt b8 [.slice none 0 0, .slice none 0 0] 209]) ?_ ?_
  rotate_left
  · intro K2 hK2
    refine q_drawT (tF37_3bf612e) _ [] (Sp.refl _) (by kernel_rfl) (by kernel_rfl) ?_
    refine qt_let (σ := Nat × Option Addr × Nat × Nat × Option Addr × Nat × Nat × Unit) (.nil) (fun ⟨x0, p3, q3, x4, p7, q7, b10, ()⟩ => [(2, .int .i64 i), (3, .int .i64 sh), (4, .pointer (some ⟨b4, 0, none⟩)), (8, .pointer (some ⟨b8, 0, none⟩)), (5, .pointer (some ⟨b5, 0, none⟩)), (10, .pointer (some ⟨b10, 0, none⟩))]) (fun ⟨x0, p3, q3, x4, p7, q7, b10, ()⟩ => [.ow (.slice p3 N q3) 4 1 N (bools (ofsL k.lo k.hi)), .ow (.slice p7 s.rifles.length q7) 3 1 s.rifles.length (ints (skL s k)), .pt b10 [.slice p3 N q3, .slice p7 s.rifles.length q7] 209]) ?_ (fun hS0_3_4_7_9_10 => ?_)
    · rintro ⟨x0, p3, q3, x4, p7, q7, b10, _⟩
      exact qt_nil (hK2 (p3, q3, p7, q7, b10) _ _ ⟨rfl, rfl, rfl, rfl, rfl, trivial⟩ (by repeat constructor))
    refine qt_let (σ := Nat × Option Addr × Nat × Nat × Option Addr × Nat × Nat × Unit) (tF37_f5e1940) (fun ⟨x0, p3, q3, x4, p7, q7, b10, ()⟩ => [(2, .int .i64 i), (3, .int .i64 sh), (4, .pointer (some ⟨b4, 0, none⟩)), (8, .pointer (some ⟨b8, 0, none⟩)), (5, .pointer (some ⟨b5, 0, none⟩)), (37, .agg #[.slice p3 N q3, .slice p7 s.rifles.length q7]), (10, .pointer (some ⟨b10, 0, none⟩))]) (fun ⟨x0, p3, q3, x4, p7, q7, b10, ()⟩ => [.ow (.slice p3 N q3) 4 1 N (bools (ofsL k.lo k.hi)), .ow (.slice p7 s.rifles.length q7) 3 1 s.rifles.length (ints (skL s k)), .pt b10 [.slice none 0 0, .slice none 0 0] 209]) ?_ (fun hS0_3_4_7_9 => ?_)
    · rintro ⟨x0, p3, q3, x4, p7, q7, b10, _⟩
      refine qt_seg (by repeat (first | exact PickL.nil | (apply PickL.cons; rfl))) fun K1 hK1 => ?_
      (refine qf_setA tabOk rfl rfl rfl rfl rfl (by repeat constructor) rfl ?_; refine qf_nil ?_)
      skip
      exact hK1 _ _ (hS0_3_4_7_9_10 ⟨x0, p3, q3, x4, p7, q7, b10, ()⟩ _ _ ⟨rfl, rfl, rfl, rfl, rfl, rfl, trivial⟩ (by repeat constructor))
    refine qt_let (σ := Nat × Option Addr × Nat × Nat × Option Addr × Nat × Unit) (tF37_e92e7b8) (fun ⟨x0, p3, q3, x4, p7, q7, ()⟩ => [(2, .int .i64 i), (3, .int .i64 sh), (4, .pointer (some ⟨b4, 0, none⟩)), (8, .pointer (some ⟨b8, 0, none⟩)), (5, .pointer (some ⟨b5, 0, none⟩)), (37, .agg #[.slice p3 N q3, .slice p7 s.rifles.length q7])]) (fun ⟨x0, p3, q3, x4, p7, q7, ()⟩ => [.ow (.slice p3 N q3) 4 1 N (bools (ofsL k.lo k.hi)), .ow (.slice p7 s.rifles.length q7) 3 1 s.rifles.length (ints (skL s k))]) ?_ (fun hS0_3_4_7 => ?_)
    · rintro ⟨x0, p3, q3, x4, p7, q7, _⟩
      refine qt_seg (by repeat (first | exact PickL.nil | (apply PickL.cons; rfl))) fun K1 hK1 => ?_
      skip
      refine qf_alloc zero209 rfl (fun b10 => ?_)
      (refine qf_nil ?_)
      exact hK1 _ _ (hS0_3_4_7_9 ⟨x0, p3, q3, x4, p7, q7, b10, ()⟩ _ _ ⟨rfl, rfl, rfl, rfl, rfl, rfl, rfl, trivial⟩ (by repeat constructor))
    refine qt_let (σ := Nat × Option Addr × Nat × Nat × Nat × Unit) (tF37_f0abd17) (fun ⟨x0, p3, q3, x4, b10, ()⟩ => [(2, .int .i64 i), (3, .int .i64 sh), (4, .pointer (some ⟨b4, 0, none⟩)), (8, .pointer (some ⟨b8, 0, none⟩)), (5, .pointer (some ⟨b5, 0, none⟩)), (32, (.slice p3 N q3)), (33, .slice (some ⟨x4, 0, none⟩) 0 0), (10, .pointer (some ⟨b10, 0, none⟩))]) (fun ⟨x0, p3, q3, x4, b10, ()⟩ => [.ow (.slice p3 N q3) 4 1 N (bools (ofsL k.lo k.hi)), .ow (.slice (some ⟨x4, 0, none⟩) 0 0) 3 1 0 [], .pt b10 [.slice none 0 0, .slice none 0 0] 209]) ?_ (fun hS0_3_4_9 => ?_)
    · rintro ⟨x0, p3, q3, x4, b10, _⟩
      refine qt_seg (by repeat (first | exact PickL.nil | (apply PickL.cons; rfl))) fun K1 hK1 => ?_
      (refine qf_pure tabOk rfl rfl rfl ?_; refine qf_loadBa tabOk rfl rfl rfl ?_)
      refine qf_append (q := s.rifles.length) (news := ints (skL s k)) slI rfl rfl rfl (fun v' => by repeat constructor) (fun w' hs => ⟨_, _, rdI_row (RdE.keep hkr.s hs.chg0) (skL_len s k)⟩) (ints_one _) (by omega) (by omega) (fun u7 => ?_)
      rw [Nat.zero_add s.rifles.length, List.nil_append]
      refine qf_fact (fun w hs => hs.slice2 (v := u7) (by repeat constructor)) ?_
      rintro ⟨p7, q7, rfl⟩
      skip
      refine qf_mk #[.slice p3 N q3, .slice p7 s.rifles.length q7] rfl (by kernel_rfl) rfl ?_
      (refine qf_nil ?_)
      exact hK1 _ _ (hS0_3_4_7_9 ⟨x0, p3, q3, x4, p7, q7, b10, ()⟩ _ _ ⟨rfl, rfl, rfl, rfl, rfl, rfl, rfl, trivial⟩ (by repeat constructor))
    refine qt_let (σ := Nat × Option Addr × Nat × Nat × Unit) (tF37_12ad7e0) (fun ⟨x0, p3, q3, x4, ()⟩ => [(2, .int .i64 i), (3, .int .i64 sh), (4, .pointer (some ⟨b4, 0, none⟩)), (8, .pointer (some ⟨b8, 0, none⟩)), (5, .pointer (some ⟨b5, 0, none⟩)), (32, (.slice p3 N q3)), (33, .slice (some ⟨x4, 0, none⟩) 0 0)]) (fun ⟨x0, p3, q3, x4, ()⟩ => [.ow (.slice p3 N q3) 4 1 N (bools (ofsL k.lo k.hi)), .ow (.slice (some ⟨x4, 0, none⟩) 0 0) 3 1 0 []]) ?_ (fun hS0_3_4 => ?_)
    · rintro ⟨x0, p3, q3, x4, _⟩
      refine qt_alt ?_ ?_
      · skip
        refine qt_seg (by repeat (first | exact PickL.nil | (apply PickL.cons; rfl))) fun K1 hK1 => ?_
        (refine qf_pure tabOk rfl rfl rfl ?_; refine qf_loadBa tabOk rfl rfl rfl ?_)
        refine qf_append (q := s.rifles.length) (news := ints (skL s k)) slI rfl rfl rfl (fun v' => by repeat constructor) (fun w' hs => ⟨_, _, rdI_row (RdE.keep hkr.s hs.chg0) (skL_len s k)⟩) (ints_one _) (by omega) (by omega) (fun u7 => ?_)
        rw [Nat.zero_add s.rifles.length, List.nil_append]
        refine qf_fact (fun w hs => hs.slice2 (v := u7) (by repeat constructor)) ?_
        rintro ⟨p7, q7, rfl⟩
        skip
        refine qf_mk #[.slice p3 N q3, .slice p7 s.rifles.length q7] rfl (by kernel_rfl) rfl ?_
        (refine qf_nil ?_)
        exact hK1 _ _ (hS0_3_4_7 ⟨x0, p3, q3, x4, p7, q7, ()⟩ _ _ ⟨rfl, rfl, rfl, rfl, rfl, rfl, trivial⟩ (by repeat constructor))
      · skip
        refine qt_seg (by repeat (first | exact PickL.nil | (apply PickL.cons; rfl))) fun K1 hK1 => ?_
        skip
        refine qf_alloc zero209 rfl (fun b10 => ?_)
        (refine qf_nil ?_)
        exact hK1 _ _ (hS0_3_4_9 ⟨x0, p3, q3, x4, b10, ()⟩ _ _ ⟨rfl, rfl, rfl, rfl, rfl, rfl, rfl, rfl, trivial⟩ (by repeat constructor))
    refine qt_let (σ := Nat × Option Addr × Nat × Nat × Unit) (tF37_1adb0f3) (fun ⟨x0, p3, q3, b10, ()⟩ => [(2, .int .i64 i), (3, .int .i64 sh), (4, .pointer (some ⟨b4, 0, none⟩)), (8, .pointer (some ⟨b8, 0, none⟩)), (5, .pointer (some ⟨b5, 0, none⟩)), (32, (.slice p3 N q3)), (10, .pointer (some ⟨b10, 0, none⟩))]) (fun ⟨x0, p3, q3, b10, ()⟩ => [.ow (.slice p3 N q3) 4 1 N (bools (ofsL k.lo k.hi)), .pt b10 [.slice none 0 0, .slice none 0 0] 209]) ?_ (fun hS0_3_9 => ?_)
    · rintro ⟨x0, p3, q3, b10, _⟩
      refine qt_seg (by repeat (first | exact PickL.nil | (apply PickL.cons; rfl))) fun K1 hK1 => ?_
      skip
      refine qf_mkSz 3 1 (by kernel_rfl) (by kernel_rfl) rfl (fun x4 => ?_)
      (refine qf_nil ?_)
      exact hK1 _ _ (hS0_3_4_9 ⟨x0, p3, q3, x4, b10, ()⟩ _ _ ⟨rfl, rfl, rfl, rfl, rfl, rfl, rfl, rfl, trivial⟩ (by repeat constructor))
    refine qt_let (σ := Nat × Nat × Nat × Unit) (tF37_351e6ba) (fun ⟨x0, x4, b10, ()⟩ => [(2, .int .i64 i), (3, .int .i64 sh), (4, .pointer (some ⟨b4, 0, none⟩)), (8, .pointer (some ⟨b8, 0, none⟩)), (5, .pointer (some ⟨b5, 0, none⟩)), (29, .slice (some ⟨x0, 0, none⟩) 0 0), (33, .slice (some ⟨x4, 0, none⟩) 0 0), (10, .pointer (some ⟨b10, 0, none⟩))]) (fun ⟨x0, x4, b10, ()⟩ => [.ow (.slice (some ⟨x0, 0, none⟩) 0 0) 4 1 0 [], .ow (.slice (some ⟨x4, 0, none⟩) 0 0) 3 1 0 [], .pt b10 [.slice none 0 0, .slice none 0 0] 209]) ?_ (fun hS0_4_9 => ?_)
    · rintro ⟨x0, x4, b10, _⟩
      refine qt_seg (by repeat (first | exact PickL.nil | (apply PickL.cons; rfl))) fun K1 hK1 => ?_
      (refine qf_pure tabOk rfl rfl rfl ?_; refine qf_loadBa tabOk rfl rfl rfl ?_)
      refine qf_append (q := N) (news := bools (ofsL k.lo k.hi)) slBo rfl rfl rfl (fun v' => by repeat constructor) (fun w' hs => ⟨_, _, rdB_row (RdE.keep hkr.o hs.chg0) hN⟩) (bools_one _) (by omega) (by omega) (fun u3 => ?_)
      rw [Nat.zero_add N, List.nil_append]
      refine qf_fact (fun w hs => hs.slice2 (v := u3) (by repeat constructor)) ?_
      rintro ⟨p3, q3, rfl⟩
      (refine qf_nil ?_)
      exact hK1 _ _ (hS0_3_4_9 ⟨x0, p3, q3, x4, b10, ()⟩ _ _ ⟨rfl, rfl, rfl, rfl, rfl, rfl, rfl, rfl, trivial⟩ (by repeat constructor))
    refine qt_let (σ := Nat × Option Addr × Nat × Unit) (tF37_ef2443a) (fun ⟨x0, p3, q3, ()⟩ => [(2, .int .i64 i), (3, .int .i64 sh), (4, .pointer (some ⟨b4, 0, none⟩)), (8, .pointer (some ⟨b8, 0, none⟩)), (5, .pointer (some ⟨b5, 0, none⟩)), (32, (.slice p3 N q3))]) (fun ⟨x0, p3, q3, ()⟩ => [.ow (.slice p3 N q3) 4 1 N (bools (ofsL k.lo k.hi))]) ?_ (fun hS0_3 => ?_)
    · rintro ⟨x0, p3, q3, _⟩
      refine qt_alt ?_ ?_
      · skip
        refine qt_seg (by repeat (first | exact PickL.nil | (apply PickL.cons; rfl))) fun K1 hK1 => ?_
        skip
        refine qf_mkSz 3 1 (by kernel_rfl) (by kernel_rfl) rfl (fun x4 => ?_)
        (refine qf_nil ?_)
        exact hK1 _ _ (hS0_3_4 ⟨x0, p3, q3, x4, ()⟩ _ _ ⟨rfl, rfl, rfl, rfl, rfl, rfl, rfl, trivial⟩ (by repeat constructor))
      · skip
        refine qt_seg (by repeat (first | exact PickL.nil | (apply PickL.cons; rfl))) fun K1 hK1 => ?_
        skip
        refine qf_alloc zero209 rfl (fun b10 => ?_)
        (refine qf_nil ?_)
        exact hK1 _ _ (hS0_3_9 ⟨x0, p3, q3, b10, ()⟩ _ _ ⟨rfl, rfl, rfl, rfl, rfl, rfl, rfl, trivial⟩ (by repeat constructor))
    refine qt_let (σ := Nat × Nat × Unit) (tF37_0a8b54d) (fun ⟨x0, x4, ()⟩ => [(2, .int .i64 i), (3, .int .i64 sh), (4, .pointer (some ⟨b4, 0, none⟩)), (8, .pointer (some ⟨b8, 0, none⟩)), (5, .pointer (some ⟨b5, 0, none⟩)), (29, .slice (some ⟨x0, 0, none⟩) 0 0), (33, .slice (some ⟨x4, 0, none⟩) 0 0)]) (fun ⟨x0, x4, ()⟩ => [.ow (.slice (some ⟨x0, 0, none⟩) 0 0) 4 1 0 [], .ow (.slice (some ⟨x4, 0, none⟩) 0 0) 3 1 0 []]) ?_ (fun hS0_4 => ?_)
    · rintro ⟨x0, x4, _⟩
      refine qt_alt ?_ ?_
      · skip
        refine qt_seg (by repeat (first | exact PickL.nil | (apply PickL.cons; rfl))) fun K1 hK1 => ?_
        (refine qf_pure tabOk rfl rfl rfl ?_; refine qf_loadBa tabOk rfl rfl rfl ?_)
        refine qf_append (q := N) (news := bools (ofsL k.lo k.hi)) slBo rfl rfl rfl (fun v' => by repeat constructor) (fun w' hs => ⟨_, _, rdB_row (RdE.keep hkr.o hs.chg0) hN⟩) (bools_one _) (by omega) (by omega) (fun u3 => ?_)
        rw [Nat.zero_add N, List.nil_append]
        refine qf_fact (fun w hs => hs.slice2 (v := u3) (by repeat constructor)) ?_
        rintro ⟨p3, q3, rfl⟩
        (refine qf_nil ?_)
        exact hK1 _ _ (hS0_3_4 ⟨x0, p3, q3, x4, ()⟩ _ _ ⟨rfl, rfl, rfl, rfl, rfl, rfl, rfl, trivial⟩ (by repeat constructor))
      · skip
        refine qt_seg (by repeat (first | exact PickL.nil | (apply PickL.cons; rfl))) fun K1 hK1 => ?_
        skip
        refine qf_alloc zero209 rfl (fun b10 => ?_)
        (refine qf_nil ?_)
        exact hK1 _ _ (hS0_4_9 ⟨x0, x4, b10, ()⟩ _ _ ⟨rfl, rfl, rfl, rfl, rfl, rfl, rfl, rfl, trivial⟩ (by repeat constructor))
    refine qt_let (σ := Nat × Nat × Unit) (tF37_9e734c6) (fun ⟨x0, b10, ()⟩ => [(2, .int .i64 i), (3, .int .i64 sh), (4, .pointer (some ⟨b4, 0, none⟩)), (8, .pointer (some ⟨b8, 0, none⟩)), (5, .pointer (some ⟨b5, 0, none⟩)), (29, .slice (some ⟨x0, 0, none⟩) 0 0), (10, .pointer (some ⟨b10, 0, none⟩))]) (fun ⟨x0, b10, ()⟩ => [.ow (.slice (some ⟨x0, 0, none⟩) 0 0) 4 1 0 [], .pt b10 [.slice none 0 0, .slice none 0 0] 209]) ?_ (fun hS0_9 => ?_)
    · rintro ⟨x0, b10, _⟩
      refine qt_alt ?_ ?_
      · skip
        refine qt_seg (by repeat (first | exact PickL.nil | (apply PickL.cons; rfl))) fun K1 hK1 => ?_
        (refine qf_pure tabOk rfl rfl rfl ?_; refine qf_loadBa tabOk rfl rfl rfl ?_)
        refine qf_append (q := N) (news := bools (ofsL k.lo k.hi)) slBo rfl rfl rfl (fun v' => by repeat constructor) (fun w' hs => ⟨_, _, rdB_row (RdE.keep hkr.o hs.chg0) hN⟩) (bools_one _) (by omega) (by omega) (fun u3 => ?_)
        rw [Nat.zero_add N, List.nil_append]
        refine qf_fact (fun w hs => hs.slice2 (v := u3) (by repeat constructor)) ?_
        rintro ⟨p3, q3, rfl⟩
        (refine qf_nil ?_)
        exact hK1 _ _ (hS0_3_9 ⟨x0, p3, q3, b10, ()⟩ _ _ ⟨rfl, rfl, rfl, rfl, rfl, rfl, rfl, trivial⟩ (by repeat constructor))
      · skip
        refine qt_seg (by repeat (first | exact PickL.nil | (apply PickL.cons; rfl))) fun K1 hK1 => ?_
        skip
        refine qf_mkSz 3 1 (by kernel_rfl) (by kernel_rfl) rfl (fun x4 => ?_)
        (refine qf_nil ?_)
        exact hK1 _ _ (hS0_4_9 ⟨x0, x4, b10, ()⟩ _ _ ⟨rfl, rfl, rfl, rfl, rfl, rfl, rfl, rfl, trivial⟩ (by repeat constructor))
    refine qt_let (σ := Nat × Nat × Unit) (tF37_057bea5) (fun ⟨x4, b10, ()⟩ => [(2, .int .i64 i), (3, .int .i64 sh), (4, .pointer (some ⟨b4, 0, none⟩)), (8, .pointer (some ⟨b8, 0, none⟩)), (5, .pointer (some ⟨b5, 0, none⟩)), (33, .slice (some ⟨x4, 0, none⟩) 0 0), (10, .pointer (some ⟨b10, 0, none⟩))]) (fun ⟨x4, b10, ()⟩ => [.ow (.slice (some ⟨x4, 0, none⟩) 0 0) 3 1 0 [], .pt b10 [.slice none 0 0, .slice none 0 0] 209]) ?_ (fun hS4_9 => ?_)
    · rintro ⟨x4, b10, _⟩
      refine qt_seg (by repeat (first | exact PickL.nil | (apply PickL.cons; rfl))) fun K1 hK1 => ?_
      skip
      refine qf_mkSz 4 1 (by kernel_rfl) (by kernel_rfl) rfl (fun x0 => ?_)
      (refine qf_nil ?_)
      exact hK1 _ _ (hS0_4_9 ⟨x0, x4, b10, ()⟩ _ _ ⟨rfl, rfl, rfl, rfl, rfl, rfl, rfl, rfl, trivial⟩ (by repeat constructor))
    refine qt_let (σ := Nat × Unit) (tF37_6c26d9f) (fun ⟨x0, ()⟩ => [(2, .int .i64 i), (3, .int .i64 sh), (4, .pointer (some ⟨b4, 0, none⟩)), (8, .pointer (some ⟨b8, 0, none⟩)), (5, .pointer (some ⟨b5, 0, none⟩)), (29, .slice (some ⟨x0, 0, none⟩) 0 0)]) (fun ⟨x0, ()⟩ => [.ow (.slice (some ⟨x0, 0, none⟩) 0 0) 4 1 0 []]) ?_ (fun hS0 => ?_)
    · rintro ⟨x0, _⟩
      refine qt_alt ?_ (qt_alt ?_ ?_)
      · skip
        refine qt_seg (by repeat (first | exact PickL.nil | (apply PickL.cons; rfl))) fun K1 hK1 => ?_
        (refine qf_pure tabOk rfl rfl rfl ?_; refine qf_loadBa tabOk rfl rfl rfl ?_)
        refine qf_append (q := N) (news := bools (ofsL k.lo k.hi)) slBo rfl rfl rfl (fun v' => by repeat constructor) (fun w' hs => ⟨_, _, rdB_row (RdE.keep hkr.o hs.chg0) hN⟩) (bools_one _) (by omega) (by omega) (fun u3 => ?_)
        rw [Nat.zero_add N, List.nil_append]
        refine qf_fact (fun w hs => hs.slice2 (v := u3) (by repeat constructor)) ?_
        rintro ⟨p3, q3, rfl⟩
        (refine qf_nil ?_)
        exact hK1 _ _ (hS0_3 ⟨x0, p3, q3, ()⟩ _ _ ⟨rfl, rfl, rfl, rfl, rfl, rfl, trivial⟩ (by repeat constructor))
      · skip
        refine qt_seg (by repeat (first | exact PickL.nil | (apply PickL.cons; rfl))) fun K1 hK1 => ?_
        skip
        refine qf_mkSz 3 1 (by kernel_rfl) (by kernel_rfl) rfl (fun x4 => ?_)
        (refine qf_nil ?_)
        exact hK1 _ _ (hS0_4 ⟨x0, x4, ()⟩ _ _ ⟨rfl, rfl, rfl, rfl, rfl, rfl, rfl, trivial⟩ (by repeat constructor))
      · skip
        refine qt_seg (by repeat (first | exact PickL.nil | (apply PickL.cons; rfl))) fun K1 hK1 => ?_
        skip
        refine qf_alloc zero209 rfl (fun b10 => ?_)
        (refine qf_nil ?_)
        exact hK1 _ _ (hS0_9 ⟨x0, b10, ()⟩ _ _ ⟨rfl, rfl, rfl, rfl, rfl, rfl, rfl, trivial⟩ (by repeat constructor))
    refine qt_let (σ := Nat × Unit) (tF37_b8c2c40) (fun ⟨x4, ()⟩ => [(2, .int .i64 i), (3, .int .i64 sh), (4, .pointer (some ⟨b4, 0, none⟩)), (8, .pointer (some ⟨b8, 0, none⟩)), (5, .pointer (some ⟨b5, 0, none⟩)), (33, .slice (some ⟨x4, 0, none⟩) 0 0)]) (fun ⟨x4, ()⟩ => [.ow (.slice (some ⟨x4, 0, none⟩) 0 0) 3 1 0 []]) ?_ (fun hS4 => ?_)
    · rintro ⟨x4, _⟩
      refine qt_alt ?_ ?_
      · skip
        refine qt_seg (by repeat (first | exact PickL.nil | (apply PickL.cons; rfl))) fun K1 hK1 => ?_
        skip
        refine qf_mkSz 4 1 (by kernel_rfl) (by kernel_rfl) rfl (fun x0 => ?_)
        (refine qf_nil ?_)
        exact hK1 _ _ (hS0_4 ⟨x0, x4, ()⟩ _ _ ⟨rfl, rfl, rfl, rfl, rfl, rfl, rfl, trivial⟩ (by repeat constructor))
      · skip
        refine qt_seg (by repeat (first | exact PickL.nil | (apply PickL.cons; rfl))) fun K1 hK1 => ?_
        skip
        refine qf_alloc zero209 rfl (fun b10 => ?_)
        (refine qf_nil ?_)
        exact hK1 _ _ (hS4_9 ⟨x4, b10, ()⟩ _ _ ⟨rfl, rfl, rfl, rfl, rfl, rfl, rfl, trivial⟩ (by repeat constructor))
    refine qt_let (σ := Nat × Unit) (tF37_aaf68eb) (fun ⟨b10, ()⟩ => [(2, .int .i64 i), (3, .int .i64 sh), (4, .pointer (some ⟨b4, 0, none⟩)), (8, .pointer (some ⟨b8, 0, none⟩)), (5, .pointer (some ⟨b5, 0, none⟩)), (10, .pointer (some ⟨b10, 0, none⟩))]) (fun ⟨b10, ()⟩ => [.pt b10 [.slice none 0 0, .slice none 0 0] 209]) ?_ (fun hS9 => ?_)
    · rintro ⟨b10, _⟩
      refine qt_alt ?_ ?_
      · skip
        refine qt_seg (by repeat (first | exact PickL.nil | (apply PickL.cons; rfl))) fun K1 hK1 => ?_
        skip
        refine qf_mkSz 4 1 (by kernel_rfl) (by kernel_rfl) rfl (fun x0 => ?_)
        (refine qf_nil ?_)
        exact hK1 _ _ (hS0_9 ⟨x0, b10, ()⟩ _ _ ⟨rfl, rfl, rfl, rfl, rfl, rfl, rfl, trivial⟩ (by repeat constructor))
      · skip
        refine qt_seg (by repeat (first | exact PickL.nil | (apply PickL.cons; rfl))) fun K1 hK1 => ?_
        skip
        refine qf_mkSz 3 1 (by kernel_rfl) (by kernel_rfl) rfl (fun x4 => ?_)
        (refine qf_nil ?_)
        exact hK1 _ _ (hS4_9 ⟨x4, b10, ()⟩ _ _ ⟨rfl, rfl, rfl, rfl, rfl, rfl, rfl, trivial⟩ (by repeat constructor))
    refine qt_alt ?_ (qt_alt ?_ ?_)
    · skip
      refine qt_seg (by repeat (first | exact PickL.nil | (apply PickL.cons; rfl))) fun K1 hK1 => ?_
      skip
      refine qf_mkSz 4 1 (by kernel_rfl) (by kernel_rfl) rfl (fun x0 => ?_)
      (refine qf_nil ?_)
      exact hK1 _ _ (hS0 ⟨x0, ()⟩ _ _ ⟨rfl, rfl, rfl, rfl, rfl, rfl, trivial⟩ (by repeat constructor))
    · skip
      refine qt_seg (by repeat (first | exact PickL.nil | (apply PickL.cons; rfl))) fun K1 hK1 => ?_
      skip
      refine qf_mkSz 3 1 (by kernel_rfl) (by kernel_rfl) rfl (fun x4 => ?_)
      (refine qf_nil ?_)
      exact hK1 _ _ (hS4 ⟨x4, ()⟩ _ _ ⟨rfl, rfl, rfl, rfl, rfl, rfl, trivial⟩ (by repeat constructor))
    · skip
      refine qt_seg (by repeat (first | exact PickL.nil | (apply PickL.cons; rfl))) fun K1 hK1 => ?_
      skip
      refine qf_alloc zero209 rfl (fun b10 => ?_)
      (refine qf_nil ?_)
      exact hK1 _ _ (hS9 ⟨b10, ()⟩ _ _ ⟨rfl, rfl, rfl, rfl, rfl, rfl, trivial⟩ (by repeat constructor))
  rintro ⟨p3, q3, p7, q7, b10⟩
  dsimp only
  refine q_fact (fun w hs => hs.ownSome (v := .slice p3 N q3) (by repeat constructor) (by omega)) ?_
  rintro ⟨g3, c3, hg3⟩
  cases hg3
  refine q_fact (fun w hs => hs.ownSome (v := .slice p7 s.rifles.length q7) (by repeat constructor) (by omega)) ?_
  rintro ⟨g7, c7, hg7⟩
  cases hg7
  (refine q_seq (q_region (ql_pure tabOk rfl rfl ?_)); refine ql_loadBa tabOk rfl rfl rfl ?_; refine ql_pure tabOk rfl rfl (ql_pure tabOk rfl rfl ?_))
  refine ql_index tabOk rfl rfl rfl rfl rfl (by omega) (by omega) ?_
  skip
  refine ql_storeW tabOk i rfl rfl rfl rfl (by repeat constructor) (by omega) (by simp only [ints, List.length_map]; rw [hsl]; exact hi') ?_
  have hset : (ints (skL s k)).set i (.int .i64 sh) = ints (skL s (kB s k i b)) := by
    rw [← skL_set hk hi' h8 hf b, ← hsh]
    simp [ints, List.map_set]
  rw [hset]
  (refine q_nil (q_seq (q_seq (q_region (ql_pure tabOk rfl rfl (q_nil (q_block ?_)))))))
  refine q_conv (H' := [.ow (.slice (some ⟨g3, 0, none⟩) N q3) 4 1 N (bools (ofsM k.lo k.hi (kB s k i b).lo (kB s k i b).hi 0)), .ow (.slice (some ⟨g7, 0, none⟩) s.rifles.length q7) 3 1 s.rifles.length (ints (skL s (kB s k i b))), .pt b10 [.slice (some ⟨g3, 0, none⟩) N q3, .slice (some ⟨g7, 0, none⟩) s.rifles.length q7] 209, .pt b4 (scC s (.slice ta s.tests.length tc) (.slice (some ⟨rb, ro, none⟩) s.rifles.length rc)) 51, .pt b8 [.slice none 0 0, .slice none 0 0] 209]) (fun w' hs => by rw [ofsM_zero]; exact hs.sp (by repeat constructor)) ?_
  refine q_loop (σ := Nat) (fun j => j ≤ N) (fun j => N - j) (fun j => [(2, .int .i64 i), (3, .int .i64 sh), (4, .pointer (some ⟨b4, 0, none⟩)), (8, .pointer (some ⟨b8, 0, none⟩)), (10, .pointer (some ⟨b10, 0, none⟩)), (11, .int .i64 j)])
    (fun j => [.ow (.slice (some ⟨g3, 0, none⟩) N q3) 4 1 N (bools (ofsM k.lo k.hi (kB s k i b).lo (kB s k i b).hi j)), .ow (.slice (some ⟨g7, 0, none⟩) s.rifles.length q7) 3 1 s.rifles.length (ints (skL s (kB s k i b))), .pt b10 [.slice (some ⟨g3, 0, none⟩) N q3, .slice (some ⟨g7, 0, none⟩) s.rifles.length q7] 209, .pt b4 (scC s (.slice ta s.tests.length tc) (.slice (some ⟨rb, ro, none⟩) s.rifles.length rc)) 51, .pt b8 [.slice none 0 0, .slice none 0 0] 209]) 0 (by omega) ⟨rfl, rfl, rfl, rfl, rfl, rfl, trivial⟩ (by repeat constructor) ?_
  rintro j hj K hK
  (refine q_seq (q_seq (q_region (ql_pure tabOk rfl rfl (ql_pure tabOk rfl rfl ?_)))); refine ql_loadBa tabOk rfl rfl rfl ?_; refine ql_pure tabOk rfl rfl (ql_pure tabOk rfl rfl (q_nil ?_)))
  refine q_if rfl (fun hc => ?_) (fun hc => ?_)
  · have hj2 : j < N := by omega
    clear hc
    have hj3 : j < 2001 := by omega
    have hlen := ofsM_len k.lo k.hi (kB s k i b).lo (kB s k i b).hi (j := j) (by omega)
    have hcut := cut_ofs (s := s) (k := k) i b hj3
    have hst : (bools (ofsM k.lo k.hi (kB s k i b).lo (kB s k i b).hi j)).set j (.bool (ofsB (kB s k i b).lo (kB s k i b).hi j)) = bools (ofsM k.lo k.hi (kB s k i b).lo (kB s k i b).hi (j + 1)) := by
      rw [← ofsM_set _ _ _ _ hj3]
      simp [List.map_set]
    have hsm := ofsM_same k.lo k.hi (kB s k i b).lo (kB s k i b).hi hj3
    (refine q_skip (q_seq (q_block (q_seq (q_region (ql_pure tabOk rfl rfl ?_))))); refine ql_loadBa tabOk rfl rfl rfl ?_; refine ql_pure tabOk rfl rfl ?_)
    refine ql_index tabOk rfl rfl rfl rfl rfl (by omega) (by omega) ?_
    refine ql_load1 (v := .int .i64 (s.rif i)) tabOk rfl rfl rfl (fun w hs => by rw [← hrf]; exact RdI.at (RdE.keep h.r hs.chg0) i hi') ?_
    cases hcc : cutB s i b j with
    | true =>
      rw [hcc] at hcut
      simp only [Bool.not_true, Bool.and_false] at hcut
      rw [hcut] at hst
      unfold cutB at hcc
      cases b with
      | true =>
        rw [if_pos rfl] at hcc hsh
        subst hsh
        have hcc := of_decide_eq_true hcc
        (refine ql_pure tabOk rfl rfl (ql_ar tabOk rfl rfl rfl rfl (by omega) (by omega) (ql_ar tabOk rfl rfl rfl rfl (by omega) (by omega) (ql_pure tabOk rfl rfl (q_nil (q_seq (q_region (ql_pure tabOk rfl rfl (ql_eqlT tabOk rfl rfl rfl (by omega) (ql_pure tabOk rfl rfl (ql_gyes rfl (ql_pure tabOk rfl rfl ?_))))))))))); refine ql_gyes rfl (ql_pure tabOk rfl rfl (ql_gyes rfl ?_)); refine ql_loadBa tabOk rfl rfl rfl ?_; refine ql_gyes rfl (ql_ar tabOk rfl rfl rfl rfl (by omega) (by omega) (ql_gyes rfl (ql_pure tabOk rfl rfl (ql_gyes rfl ?_)))); refine ql_loadBa tabOk rfl rfl rfl ?_; refine ql_gyes rfl (ql_lssT tabOk rfl rfl rfl (by omega) (ql_pure tabOk rfl rfl (ql_pure tabOk rfl rfl ?_))); (iterate 3 refine ql_gno rfl rfl rfl ?_); (iterate 7 refine ql_gnone rfl rfl ?_); refine ql_gno rfl rfl rfl (ql_pure tabOk rfl rfl (q_nil (q_cond_true rfl (q_region (ql_pure tabOk rfl rfl ?_))))); refine ql_loadBa tabOk rfl rfl rfl ?_; refine ql_pure tabOk rfl rfl ?_)
        refine ql_index tabOk rfl rfl rfl rfl rfl (by omega) (by omega) ?_
        skip
        refine ql_storeW tabOk j rfl rfl rfl rfl (by repeat constructor) (by omega) (by rw [List.length_map, hlen]; omega) ?_
        rw [hst]
        (refine q_nil (q_blk (q_region (ql_pure tabOk rfl rfl (ql_ar tabOk rfl rfl rfl rfl (by omega) (by omega) (ql_pure tabOk rfl rfl (q_nil ?_)))))))
        exact hK (j + 1) _ _ (by omega) (by omega) ⟨rfl, rfl, rfl, rfl, rfl, rfl, trivial⟩ (by repeat constructor)
      | false =>
        rw [if_neg (by decide)] at hcc hsh
        subst hsh
        have hcc := of_decide_eq_true hcc
        (refine ql_pure tabOk rfl rfl (ql_ar tabOk rfl rfl rfl rfl (by omega) (by omega) (ql_ar tabOk rfl rfl rfl rfl (by omega) (by omega) (ql_pure tabOk rfl rfl (q_nil (q_seq (q_region (ql_pure tabOk rfl rfl (ql_eqlF tabOk rfl rfl rfl (by omega) (ql_pure tabOk rfl rfl ?_))))))))); (iterate 7 refine ql_gno rfl rfl rfl ?_); refine ql_pure tabOk rfl rfl (ql_pure tabOk rfl rfl (ql_gyes rfl (ql_pure tabOk rfl rfl (ql_gyes rfl (ql_eqlT tabOk rfl rfl rfl (by omega) (ql_gyes rfl (ql_pure tabOk rfl rfl (ql_gyes rfl (ql_pure tabOk rfl rfl (ql_gyes rfl (ql_pure tabOk rfl rfl ?_))))))))))); refine ql_gyes rfl ?_; refine ql_loadBa tabOk rfl rfl rfl ?_; refine ql_gyes rfl (ql_ar tabOk rfl rfl rfl rfl (by omega) (by omega) (ql_gyes rfl (ql_pure tabOk rfl rfl (ql_gyes rfl ?_)))); refine ql_loadBa tabOk rfl rfl rfl ?_; refine ql_gyes rfl (ql_geqT tabOk rfl rfl rfl (by omega) (ql_gyes rfl (ql_pure tabOk rfl rfl (ql_pure tabOk rfl rfl (q_nil (q_cond_true rfl (q_region (ql_pure tabOk rfl rfl ?_)))))))); refine ql_loadBa tabOk rfl rfl rfl ?_; refine ql_pure tabOk rfl rfl ?_)
        refine ql_index tabOk rfl rfl rfl rfl rfl (by omega) (by omega) ?_
        skip
        refine ql_storeW tabOk j rfl rfl rfl rfl (by repeat constructor) (by omega) (by rw [List.length_map, hlen]; omega) ?_
        rw [hst]
        (refine q_nil (q_blk (q_region (ql_pure tabOk rfl rfl (ql_ar tabOk rfl rfl rfl rfl (by omega) (by omega) (ql_pure tabOk rfl rfl (q_nil ?_)))))))
        exact hK (j + 1) _ _ (by omega) (by omega) ⟨rfl, rfl, rfl, rfl, rfl, rfl, trivial⟩ (by repeat constructor)
    | false =>
      rw [hcc] at hcut
      simp only [Bool.not_false, Bool.and_true] at hcut
      rw [hsm hcut.symm]
      unfold cutB at hcc
      cases b with
      | true =>
        rw [if_pos rfl] at hcc hsh
        subst hsh
        have hcc := of_decide_eq_false hcc
        (refine ql_pure tabOk rfl rfl (ql_ar tabOk rfl rfl rfl rfl (by omega) (by omega) (ql_ar tabOk rfl rfl rfl rfl (by omega) (by omega) (ql_pure tabOk rfl rfl (q_nil (q_seq (q_region (ql_pure tabOk rfl rfl (ql_eqlT tabOk rfl rfl rfl (by omega) (ql_pure tabOk rfl rfl (ql_gyes rfl (ql_pure tabOk rfl rfl ?_))))))))))); refine ql_gyes rfl (ql_pure tabOk rfl rfl (ql_gyes rfl ?_)); refine ql_loadBa tabOk rfl rfl rfl ?_; refine ql_gyes rfl (ql_ar tabOk rfl rfl rfl rfl (by omega) (by omega) (ql_gyes rfl (ql_pure tabOk rfl rfl (ql_gyes rfl ?_)))); refine ql_loadBa tabOk rfl rfl rfl ?_; refine ql_gyes rfl (ql_lssF tabOk rfl rfl rfl (by omega) (ql_pure tabOk rfl rfl (ql_pure tabOk rfl rfl (ql_gyes rfl (ql_pure tabOk rfl rfl (ql_gyes rfl (ql_eqlF tabOk rfl rfl rfl (by omega) (ql_gyes rfl (ql_pure tabOk rfl rfl ?_))))))))); (iterate 7 refine ql_gno rfl rfl rfl ?_); refine ql_gyes rfl (ql_pure tabOk rfl rfl (ql_pure tabOk rfl rfl (q_nil (q_cond_false rfl (q_skip (q_blk (q_region (ql_pure tabOk rfl rfl (ql_ar tabOk rfl rfl rfl rfl (by omega) (by omega) (ql_pure tabOk rfl rfl (q_nil ?_))))))))))))
        exact hK (j + 1) _ _ (by omega) (by omega) ⟨rfl, rfl, rfl, rfl, rfl, rfl, trivial⟩ (by repeat constructor)
      | false =>
        rw [if_neg (by decide)] at hcc hsh
        subst hsh
        have hcc := of_decide_eq_false hcc
        (refine ql_pure tabOk rfl rfl (ql_ar tabOk rfl rfl rfl rfl (by omega) (by omega) (ql_ar tabOk rfl rfl rfl rfl (by omega) (by omega) (ql_pure tabOk rfl rfl (q_nil (q_seq (q_region (ql_pure tabOk rfl rfl (ql_eqlF tabOk rfl rfl rfl (by omega) (ql_pure tabOk rfl rfl ?_))))))))); (iterate 7 refine ql_gno rfl rfl rfl ?_); refine ql_pure tabOk rfl rfl (ql_pure tabOk rfl rfl (ql_gyes rfl (ql_pure tabOk rfl rfl (ql_gyes rfl (ql_eqlT tabOk rfl rfl rfl (by omega) (ql_gyes rfl (ql_pure tabOk rfl rfl (ql_gyes rfl (ql_pure tabOk rfl rfl (ql_gyes rfl (ql_pure tabOk rfl rfl ?_))))))))))); refine ql_gyes rfl ?_; refine ql_loadBa tabOk rfl rfl rfl ?_; refine ql_gyes rfl (ql_ar tabOk rfl rfl rfl rfl (by omega) (by omega) (ql_gyes rfl (ql_pure tabOk rfl rfl (ql_gyes rfl ?_)))); refine ql_loadBa tabOk rfl rfl rfl ?_; refine ql_gyes rfl (ql_geqF tabOk rfl rfl rfl (by omega) (ql_gyes rfl (ql_pure tabOk rfl rfl (ql_pure tabOk rfl rfl (q_nil (q_cond_false rfl (q_skip (q_blk (q_region (ql_pure tabOk rfl rfl (ql_ar tabOk rfl rfl rfl rfl (by omega) (by omega) ?_))))))))))); refine ql_pure tabOk rfl rfl (q_nil ?_))
        exact hK (j + 1) _ _ (by omega) (by omega) ⟨rfl, rfl, rfl, rfl, rfl, rfl, trivial⟩ (by repeat constructor)
  · have hjN : j = 2001 := by omega
    rw [hjN, ofsM_full]
    clear hc hK
    have hbd := kB_bd (s := s) hk i b
    (refine q_exit _ rfl (q_seq (q_region (ql_pure tabOk rfl rfl ?_))); refine ql_loadBa tabOk rfl rfl rfl ?_)
    refine ql_callv (val := .tuple #[spV2 (ofsS (kB s k i b).lo (kB s k i b).hi), .bool (decide ((kB s k i b).lo ≤ (kB s k i b).hi))]) tabOk rfl rfl rfl rfl (fun w hs => ?_) ?_; exact rofs_ca w 0 w.heap.size _ _ _ (own_rdB (hs.mem (c := .ow (.slice (some ⟨g3, 0, none⟩) N q3) 4 1 N (bools (ofsL (kB s k i b).lo (kB s k i b).hi))) (by repeat constructor)) (by rw [ofsL_len, hN])) hbd.1 hbd.2
    (refine ql_pure tabOk rfl rfl (ql_ext tabOk rfl rfl rfl (ql_ext tabOk rfl rfl rfl ?_)))
    refine ql_alloc zero56 rfl (fun b13 => ?_)
    (refine ql_setA tabOk rfl rfl rfl rfl rfl (by repeat constructor) rfl ?_; refine ql_pure tabOk rfl rfl (q_nil (q_seq (q_region ?_))); refine ql_loadABa tabOk rfl rfl rfl ?_; refine ql_pure tabOk rfl rfl ?_; refine ql_setA tabOk rfl rfl rfl rfl rfl (by repeat constructor) rfl ?_; refine ql_pure tabOk rfl rfl (q_nil (q_ret ?_)))
    refine q_fin tabOk rfl (by repeat constructor) fun w hs => ?_
    exact ⟨(.slice (some ⟨g3, 0, none⟩) N q3, .slice (some ⟨g7, 0, none⟩) s.rifles.length q7), rfl, by rw [← hN]; exact hs.sp (by repeat constructor)⟩
end Go.Proofs.YtopdmadgkjdgcaaGreat

/- Walks of the reference: which rifles are open, the fewest further checks. -/
namespace Go.Proofs.YtopdmadgkjdgcaaGreat
set_option maxRecDepth 4000
open Go Go.Eng
theorem rropen_ca (w : World) (lo hi l2 h2 : Nat) (s : Sc) (tv rv ov sv : Value) (k : Kn) (h : ScR w lo hi tv rv s) (hs0 : s.Ok) (hkr : KnR w l2 h2 ov sv s k) (hk : k.Fit) (i : Nat) (hi' : i < s.rifles.length) : Ca Tryz.prog 170 [.agg (scC s tv rv).toArray, .agg #[ov, sv], .int .i64 i] w fun x w' => x = .bool (openK s k i) ∧ Chg [] w w' := by
  obtain ⟨ta, tc, rfl, _⟩ := RdS.outI h.t
  obtain ⟨ra, rc, rfl, _⟩ := RdI.outI h.r
  obtain ⟨sa, sc, rfl, hsa⟩ := RdI.outI hkr.s
  obtain ⟨oa, oc, rfl, _⟩ := hkr.o.out
  have hsl := skL_len s k
  have hr := hs0.rif hi'
  have herr := hs0.err
  have f1 := hk.lo
  have f2 := hk.hi
  have f3 := hk.le
  obtain ⟨sb, so, rfl⟩ := hsa (by omega)
  have hcell : ∀ w', Chg [] w w' → w'.cell? ⟨sb, so + i * 1, none⟩ = some (.int .i64 (skV k i)) := fun w' hw => by
    have := RdI.at (RdE.keep hkr.s hw) i (by rw [hsl]; exact hi')
    rw [skL_get] at this
    exact this
  have e3 : ofsS k.lo k.hi = (k.lo, k.hi) := by unfold ofsS; rw [if_pos f3]
  have hop := open_iff (s := s) (k := k) (i := i)
  refine q_of (Sat.nil w M0) Tryz.func170 rfl (by simp [Tryz.ntmps170]) ?_
  (refine q_seq (q_region ?_))
  refine ql_box rfl rfl (fun b3 => ?_)
  rw [agg_cells]
  skip
  refine ql_box rfl rfl (fun b4 => ?_)
  (refine ql_pure tabOk rfl rfl (q_nil (q_seq (q_region ?_))); refine ql_loadABa tabOk rfl rfl rfl ?_; refine ql_pure tabOk rfl rfl (ql_pure tabOk rfl rfl ?_); refine ql_loadBa tabOk rfl rfl rfl ?_)
  refine ql_callv (val := spV2 (wgtV s i (k.lo, k.hi))) tabOk rfl rfl rfl rfl (fun w hs => ?_) ?_; exact by have := rweight_ca w lo hi l2 h2 s _ _ _ (h.keep hs.chg0) hs0 i hi' k.lo k.hi (RdE.keep hkr.o hs.chg0) f1 f2; rw [e3] at this; exact this
  skip
  refine ql_alloc zero56 rfl (fun b7 => ?_)
  (refine ql_setA tabOk rfl rfl rfl rfl rfl (by repeat constructor) rfl ?_; refine q_nil (q_seq (q_region (ql_pure tabOk rfl rfl ?_))); refine ql_loadBa tabOk rfl rfl rfl ?_; refine ql_pure tabOk rfl rfl ?_)
  refine ql_index tabOk rfl rfl rfl rfl rfl (by omega) (by rw [hsl]; omega) ?_
  refine ql_load1 tabOk rfl rfl rfl (fun w hs => hcell _ hs.chg0) ?_
  have e5 : (wgtV s i (k.lo, k.hi)).1 = s.rif i - k.hi - s.err := rfl
  have e6 : (wgtV s i (k.lo, k.hi)).2 = s.rif i - k.lo + s.err := rfl
  by_cases c1 : skV k i = 0
  · have g1 := skV_zero.1 c1
    by_cases c2 : (wgtV s i (k.lo, k.hi)).1 < s.least
    · by_cases c3 : s.least ≤ (wgtV s i (k.lo, k.hi)).2
      · rw [show openK s k i = true from hop.2 ⟨g1, by omega, by omega⟩]
        (refine ql_eqlT tabOk rfl rfl rfl (by omega) (ql_pure tabOk rfl rfl (ql_gyes rfl (ql_pure tabOk rfl rfl (ql_gyes rfl ?_)))); refine ql_loadBa tabOk rfl rfl rfl ?_; refine ql_gyes rfl (ql_pure tabOk rfl rfl (ql_gyes rfl ?_)); refine ql_loadBa tabOk rfl rfl rfl ?_; refine ql_gyes rfl (ql_lssT tabOk rfl rfl rfl (by omega) (ql_pure tabOk rfl rfl (ql_pure tabOk rfl rfl (ql_gyes rfl (ql_pure tabOk rfl rfl (ql_gyes rfl ?_)))))); refine ql_loadBa tabOk rfl rfl rfl ?_; refine ql_gyes rfl (ql_pure tabOk rfl rfl (ql_gyes rfl ?_)); refine ql_loadBa tabOk rfl rfl rfl ?_; refine ql_gyes rfl (ql_geqT tabOk rfl rfl rfl (by omega) (ql_pure tabOk rfl rfl (ql_pure tabOk rfl rfl (q_nil (q_ret ?_))))))
        refine q_fin tabOk rfl (by repeat constructor) fun w hs => ?_
        exact ⟨rfl, hs.chg0⟩
      · rw [show openK s k i = false from Bool.eq_false_iff.2 fun e => by have := hop.1 e; omega]
        (refine ql_eqlT tabOk rfl rfl rfl (by omega) (ql_pure tabOk rfl rfl (ql_gyes rfl (ql_pure tabOk rfl rfl (ql_gyes rfl ?_)))); refine ql_loadBa tabOk rfl rfl rfl ?_; refine ql_gyes rfl (ql_pure tabOk rfl rfl (ql_gyes rfl ?_)); refine ql_loadBa tabOk rfl rfl rfl ?_; refine ql_gyes rfl (ql_lssT tabOk rfl rfl rfl (by omega) (ql_pure tabOk rfl rfl (ql_pure tabOk rfl rfl (ql_gyes rfl (ql_pure tabOk rfl rfl (ql_gyes rfl ?_)))))); refine ql_loadBa tabOk rfl rfl rfl ?_; refine ql_gyes rfl (ql_pure tabOk rfl rfl (ql_gyes rfl ?_)); refine ql_loadBa tabOk rfl rfl rfl ?_; refine ql_gyes rfl (ql_geqF tabOk rfl rfl rfl (by omega) (ql_pure tabOk rfl rfl (ql_pure tabOk rfl rfl (q_nil (q_ret ?_))))))
        refine q_fin tabOk rfl (by repeat constructor) fun w hs => ?_
        exact ⟨rfl, hs.chg0⟩
    · rw [show openK s k i = false from Bool.eq_false_iff.2 fun e => by have := hop.1 e; omega]
      (refine ql_eqlT tabOk rfl rfl rfl (by omega) (ql_pure tabOk rfl rfl (ql_gyes rfl (ql_pure tabOk rfl rfl (ql_gyes rfl ?_)))); refine ql_loadBa tabOk rfl rfl rfl ?_; refine ql_gyes rfl (ql_pure tabOk rfl rfl (ql_gyes rfl ?_)); refine ql_loadBa tabOk rfl rfl rfl ?_; refine ql_gyes rfl (ql_lssF tabOk rfl rfl rfl (by omega) (ql_pure tabOk rfl rfl (ql_pure tabOk rfl rfl ?_))); (iterate 5 refine ql_gno rfl rfl rfl ?_); refine ql_pure tabOk rfl rfl (ql_pure tabOk rfl rfl (q_nil (q_ret ?_))))
      refine q_fin tabOk rfl (by repeat constructor) fun w hs => ?_
      exact ⟨rfl, hs.chg0⟩
  · rw [show openK s k i = false from Bool.eq_false_iff.2 fun e => c1 (skV_zero.2 (hop.1 e).1)]
    (refine ql_eqlF tabOk rfl rfl rfl (by omega) (ql_pure tabOk rfl rfl ?_); (iterate 5 refine ql_gno rfl rfl rfl ?_); refine ql_pure tabOk rfl rfl (ql_pure tabOk rfl rfl ?_); (iterate 5 refine ql_gno rfl rfl rfl ?_); refine ql_pure tabOk rfl rfl (ql_pure tabOk rfl rfl (q_nil (q_ret ?_))))
    refine q_fin tabOk rfl (by repeat constructor) fun w hs => ?_
    exact ⟨rfl, hs.chg0⟩
/-- The best of the first checks. -/
def opX (s : Sc) (k : Kn) (i : Nat) : List Nat := (List.range i).filter (openK s k)
def bstP (s : Sc) (k : Kn) (i : Nat) : Int × Int := (opX s k i).foldl (pickS (depV s) s k) (0, 0)
theorem opX_succ (s : Sc) (k : Kn) (i : Nat) : opX s k (i + 1) = if openK s k i = true then opX s k i ++ [i] else opX s k i := by
  unfold opX
  rw [List.range_succ, List.filter_append]
  by_cases e : openK s k i = true
  · simp [e]
  · simp [e]
theorem bstP_pk (s : Sc) (k : Kn) (i : Nat) : PkI s k (opX s k i) (bstP s k i) := by
  have := pk_all (s := s) (k := k) (try_pos s k) (opX s k i) [] (0, 0) ⟨fun _ => rfl, fun h => absurd rfl h, fun i hi => by cases hi⟩
  rwa [List.nil_append] at this
theorem bstP_skip {s : Sc} {k : Kn} {i : Nat} (h : openK s k i = false) : opX s k (i + 1) = opX s k i ∧ bstP s k (i + 1) = bstP s k i := by
  have e : opX s k (i + 1) = opX s k i := by rw [opX_succ, if_neg (by rw [h]; simp)]
  exact ⟨e, by unfold bstP; rw [e]⟩
theorem bstP_take {s : Sc} {k : Kn} {i : Nat} (h : openK s k i = true) : opX s k (i + 1) = opX s k i ++ [i] ∧ bstP s k (i + 1) = (if bstP s k i = (0, 0) ∨ tryV s k i < (bstP s k i).2 then ((i : Int), tryV s k i) else bstP s k i) := by
  have e : opX s k (i + 1) = opX s k i ++ [i] := by rw [opX_succ, if_pos h]
  refine ⟨e, ?_⟩
  unfold bstP
  rw [e, List.foldl_append]
  rfl
theorem bstP_full {s : Sc} (h8 : s.rifles.length ≤ 8) {k : Kn} (hk : k.Fit) : (bstP s k s.rifles.length).2 = depV s k := by
  unfold depV
  rw [bstK_eq h8 hk]
  rfl
/-- Whether there is one. -/
def smP (s : Sc) (k : Kn) (i : Nat) : Bool := !(opX s k i).isEmpty
theorem smP_false {s : Sc} {k : Kn} {i : Nat} (h : smP s k i = false) : bstP s k i = (0, 0) := (bstP_pk s k i).nil (by
  unfold smP at h
  simpa using h)
theorem smP_true {s : Sc} {k : Kn} {i : Nat} (h : smP s k i = true) : bstP s k i ≠ (0, 0) := by
  obtain ⟨j, _, h1, h2⟩ := (bstP_pk s k i).at_ (by
    intro e
    unfold smP at h
    rw [e] at h
    cases h)
  rw [h1]
  intro e
  have := congrArg Prod.snd e
  simp only at this
  omega
theorem bstP_8 {s : Sc} (h8 : s.rifles.length ≤ 8) {k : Kn} (hk : k.Fit) {i : Nat} (hi : i ≤ s.rifles.length) : 0 ≤ (bstP s k i).2 ∧ (bstP s k i).2 ≤ 10 := by
  have h1 := bstP_pk s k i
  by_cases e : opX s k i = []
  · rw [h1.nil e]; simp
  · obtain ⟨j, hj, h2, h3⟩ := h1.at_ e
    rw [h2]
    unfold opX at hj
    rw [List.mem_filter, List.mem_range] at hj
    have d1 := dep_8 h8 (passK_fit hk hj.2)
    have d2 := dep_8 h8 (failK_fit hk hj.2)
    unfold tryV at h3 ⊢
    simp only
    omega
set_option maxHeartbeats 8000000 in
theorem rleast_ca (lo hi : Nat) (s : Sc) (tv rv : Value) (hs0 : s.Ok) : ∀ (n : Nat) (k : Kn) (w : World) (l2 h2 : Nat) (ov sv : Value), cntK s k = n → k.Fit → ScR w lo hi tv rv s → KnR w l2 h2 ov sv s k →
    Ca Tryz.prog 129 [.agg (scC s tv rv).toArray, .agg #[ov, sv]] w fun x w' => x = .int .i64 (depV s k) ∧ Chg [] w w' := by
  have h8 := hs0.rn8
  intro n
  induction n using Nat.strongRecOn with
  | ind n ih =>
  intro k w l2 h2 ov sv hcn hk h hkr
  obtain ⟨ta, tc, rfl, _⟩ := RdS.outI h.t
  obtain ⟨ra, rc, rfl, _⟩ := RdI.outI h.r
  obtain ⟨sa, sc, rfl, _⟩ := RdI.outI hkr.s
  obtain ⟨oa, oc, rfl, _⟩ := hkr.o.out
  obtain ⟨NS, hNS⟩ : ∃ N, N = (skL s k).length := ⟨_, rfl⟩
  obtain ⟨NO, hNO⟩ : ∃ N, N = (bools (ofsL k.lo k.hi)).length := ⟨_, rfl⟩
  rw [← hNS, ← hNO] at hkr ⊢
  refine q_of (Sat.nil w M0) Tryz.func129 rfl (by simp [Tryz.ntmps129]) ?_
  (refine q_seq (q_region ?_))
  refine ql_box rfl rfl (fun b2 => ?_)
  rw [agg_cells]
  skip
  refine ql_box rfl rfl (fun b3 => ?_)
  (refine ql_pure tabOk rfl rfl (q_nil (q_seq (q_region (ql_pure tabOk rfl rfl (ql_pure tabOk rfl rfl (q_nil (q_seq (q_seq (q_region (ql_pure tabOk rfl rfl (q_nil ?_))))))))))); refine q_block ?_)
  refine q_conv (H' := [.pt b3 [.slice oa NO oc, .slice sa NS sc] 209, .pt b2 (scC s (.slice ta s.tests.length tc) (.slice ra s.rifles.length rc)) 51]) (fun w' hs => hs.sp (by repeat constructor)) ?_
  refine q_loop (σ := Nat) (fun i => i ≤ s.rifles.length) (fun i => s.rifles.length - i) (fun i => [(2, .pointer (some ⟨b2, 0, none⟩)), (3, .pointer (some ⟨b3, 0, none⟩)), (5, .int .i64 (bstP s k i).2), (6, .bool (smP s k i)), (7, .int .i64 i)])
    (fun _ => [.pt b3 [.slice oa NO oc, .slice sa NS sc] 209, .pt b2 (scC s (.slice ta s.tests.length tc) (.slice ra s.rifles.length rc)) 51]) 0 (by omega) ⟨rfl, rfl, rfl, rfl, rfl, trivial⟩ (by repeat constructor) ?_
  rintro i hi2 K hK
  have hb8 := bstP_8 h8 hk hi2
  (refine q_seq (q_seq (q_region (ql_pure tabOk rfl rfl (ql_pure tabOk rfl rfl ?_)))); refine ql_loadBa tabOk rfl rfl rfl ?_; refine ql_pure tabOk rfl rfl (ql_pure tabOk rfl rfl (q_nil ?_)))
  refine q_if rfl (fun hc => ?_) (fun hc => ?_)
  · have hi3 : i < s.rifles.length := by omega
    clear hc
    (refine q_skip (q_seq (q_block (q_seq (q_seq (q_region ?_))))); (iterate 2 refine ql_loadABa tabOk rfl rfl rfl ?_); refine ql_pure tabOk rfl rfl ?_)
    refine ql_callv (val := .bool (openK s k i)) tabOk rfl rfl rfl rfl (fun w hs => ?_) ?_; exact rropen_ca w lo hi l2 h2 s _ _ _ _ k (h.keep hs.chg0) hs0 (hkr.keep hs.chg0) hk i hi3
    cases ho : openK s k i with
    | false =>
      obtain ⟨e1, e2⟩ := bstP_skip ho
      have e3 : smP s k (i + 1) = smP s k i := by unfold smP; rw [e1]
      (refine ql_pure tabOk rfl rfl (q_nil (q_cond_true rfl (q_exit _ rfl (q_region (ql_pure tabOk rfl rfl (ql_ar tabOk rfl rfl rfl rfl (by omega) (by omega) (ql_pure tabOk rfl rfl (q_nil ?_)))))))))
      exact hK (i + 1) _ _ (by omega) (by omega) ⟨rfl, rfl, by rw [e2]; rfl, by rw [e3]; rfl, rfl, trivial⟩ (by repeat constructor)
    | true =>
      obtain ⟨e1, e2⟩ := bstP_take ho
      have hfr := (open_iff.1 ho).1
      have c1 := cnt_pass hk h8 hi3 hfr
      have c2 := cnt_fail hk h8 hi3 hfr
      have fp := passK_fit hk ho
      have ff := failK_fit hk ho
      have dp := dep_8 h8 fp
      have df := dep_8 h8 ff
      have e3 : smP s k (i + 1) = true := by unfold smP; rw [e1]; simp
      (refine ql_pure tabOk rfl rfl (q_nil (q_cond_false rfl (q_skip (q_seq (q_region ?_))))); (iterate 2 refine ql_loadABa tabOk rfl rfl rfl ?_); refine ql_pure tabOk rfl rfl ?_)
      obtain ⟨N, hN⟩ : ∃ N : Nat, N = 2001 := ⟨_, rfl⟩
      refine ql_call (β := Value × Value) (ψ := fun y v => v = .tuple #[.agg #[y.1, y.2], .bool (decide ((kB s k i true).lo ≤ (kB s k i true).hi))]) (L' := fun y => [.ow y.1 4 1 2001 (bools (ofsL (kB s k i true).lo (kB s k i true).hi)), .ow y.2 3 1 s.rifles.length (ints (skL s (kB s k i true)))]) tabOk [] _ M0 rfl rfl rfl rfl (Sp.refl _) (fun _ h => h.elim) (fun w' hs => rafter_free w' lo hi l2 h2 s _ _ _ _ k (h.keep hs.chg0) hs0 (hkr.keep hs.chg0) hk i hi3 hfr true) ?_
      rintro ⟨u1, u2⟩ _ rfl
      dsimp only [List.cons_append, List.nil_append]
      rw [show kB s k i true = passK s k i from rfl, ← hN]
      refine ql_fact (fun w hs => hs.slice2 (v := u1) (by repeat constructor)) ?_
      rintro ⟨p1, p2, rfl⟩
      refine ql_fact (fun w hs => hs.slice2 (v := u2) (by repeat constructor)) ?_
      rintro ⟨p3, p4, rfl⟩
      (refine ql_pure tabOk rfl rfl (ql_ext tabOk rfl rfl rfl (ql_ext tabOk rfl rfl rfl ?_)))
      refine ql_alloc zero209 rfl (fun b8 => ?_)
      (refine ql_setA tabOk rfl rfl rfl rfl rfl (by repeat constructor) rfl ?_; refine ql_pure tabOk rfl rfl (q_nil (q_seq (q_region ?_))); (iterate 2 refine ql_loadABa tabOk rfl rfl rfl ?_); refine ql_pure tabOk rfl rfl ?_)
      refine ql_call (β := Value × Value) (ψ := fun y v => v = .tuple #[.agg #[y.1, y.2], .bool (decide ((kB s k i false).lo ≤ (kB s k i false).hi))]) (L' := fun y => [.ow y.1 4 1 2001 (bools (ofsL (kB s k i false).lo (kB s k i false).hi)), .ow y.2 3 1 s.rifles.length (ints (skL s (kB s k i false)))]) tabOk [] _ M0 rfl rfl rfl rfl (Sp.refl _) (fun _ h => h.elim) (fun w' hs => rafter_free w' lo hi l2 h2 s _ _ _ _ k (h.keep hs.chg0) hs0 (hkr.keep hs.chg0) hk i hi3 hfr false) ?_
      rintro ⟨u3, u4⟩ _ rfl
      dsimp only [List.cons_append, List.nil_append]
      rw [show kB s k i false = failK s k i from rfl, ← hN]
      refine ql_fact (fun w hs => hs.slice2 (v := u3) (by repeat constructor)) ?_
      rintro ⟨q1, q2, rfl⟩
      refine ql_fact (fun w hs => hs.slice2 (v := u4) (by repeat constructor)) ?_
      rintro ⟨q3, q4, rfl⟩
      (refine ql_pure tabOk rfl rfl (ql_ext tabOk rfl rfl rfl (ql_ext tabOk rfl rfl rfl ?_)))
      refine ql_alloc zero209 rfl (fun b10 => ?_)
      (refine ql_setA tabOk rfl rfl rfl rfl rfl (by repeat constructor) rfl ?_; refine ql_pure tabOk rfl rfl (q_nil (q_seq ?_)))
      refine q_draw _ [] (Sp.refl _) (by kernel_rfl) (by kernel_rfl) ?_
      ((iterate 2 refine qf_loadABa tabOk rfl rfl rfl ?_))
      refine qf_callv (val := .int .i64 (depV s (passK s k i))) tabOk rfl rfl rfl rfl (fun w hs => ?_) ?_; exact ih _ (by omega) (passK s k i) w 0 w.heap.size (.slice p1 N p2) (.slice p3 s.rifles.length p4) rfl fp (h.keep hs.chg0) ⟨own_rdB (hs.mem (c := .ow (.slice p1 N p2) 4 1 N (bools (ofsL (passK s k i).lo (passK s k i).hi))) (by repeat constructor)) (by rw [ofsL_len, hN]), hs.rdI (v := .slice p3 s.rifles.length p4) (t := 3) (n := s.rifles.length) (by repeat constructor) (skL_len _ _).symm⟩
      ((iterate 2 refine qf_loadABa tabOk rfl rfl rfl ?_))
      refine qf_callv (val := .int .i64 (depV s (failK s k i))) tabOk rfl rfl rfl rfl (fun w hs => ?_) ?_; exact ih _ (by omega) (failK s k i) w 0 w.heap.size (.slice q1 N q2) (.slice q3 s.rifles.length q4) rfl ff (h.keep hs.chg0) ⟨own_rdB (hs.mem (c := .ow (.slice q1 N q2) 4 1 N (bools (ofsL (failK s k i).lo (failK s k i).hi))) (by repeat constructor)) (by rw [ofsL_len, hN]), hs.rdI (v := .slice q3 s.rifles.length q4) (t := 3) (n := s.rifles.length) (by repeat constructor) (skL_len _ _).symm⟩
      (refine qf_pure tabOk rfl rfl rfl (qf_ar tabOk rfl rfl rfl rfl (by omega) (by omega) (qf_pure tabOk rfl rfl rfl (qf_nil (q_seq (q_region ?_))))); (iterate 3 refine ql_pure tabOk rfl rfl ?_))
      have et : tryV s k i = 1 + max (depV s (passK s k i)) (depV s (failK s k i)) := rfl
      cases hsm : smP s k i with
      | false =>
        have e4 : bstP s k (i + 1) = ((i : Int), tryV s k i) := by rw [e2, if_pos (.inl (smP_false hsm))]
        ((iterate 3 refine ql_gno rfl rfl rfl ?_); refine ql_pure tabOk rfl rfl (q_nil (q_cond_true rfl (q_region ?_))); (iterate 3 refine ql_pure tabOk rfl rfl ?_); refine q_nil (q_blk (q_region (ql_pure tabOk rfl rfl (ql_ar tabOk rfl rfl rfl rfl (by omega) (by omega) (ql_pure tabOk rfl rfl (q_nil ?_)))))))
        exact hK (i + 1) _ _ (by omega) (by omega) ⟨rfl, rfl, by rw [e4]; rfl, by rw [e3]; rfl, rfl, trivial⟩ (by repeat constructor)
      | true =>
        have hne := smP_true hsm
        by_cases hlt : tryV s k i < (bstP s k i).2
        · have e4 : bstP s k (i + 1) = ((i : Int), tryV s k i) := by rw [e2, if_pos (.inr hlt)]
          (refine ql_gyes rfl (ql_pure tabOk rfl rfl (ql_gyes rfl (ql_pure tabOk rfl rfl (ql_gyes rfl (ql_lssT tabOk rfl rfl rfl (by omega) (ql_pure tabOk rfl rfl (q_nil (q_cond_true rfl (q_region ?_))))))))); (iterate 3 refine ql_pure tabOk rfl rfl ?_); refine q_nil (q_blk (q_region (ql_pure tabOk rfl rfl (ql_ar tabOk rfl rfl rfl rfl (by omega) (by omega) (ql_pure tabOk rfl rfl (q_nil ?_)))))))
          exact hK (i + 1) _ _ (by omega) (by omega) ⟨rfl, rfl, by rw [e4]; rfl, by rw [e3]; rfl, rfl, trivial⟩ (by repeat constructor)
        · have e4 : bstP s k (i + 1) = bstP s k i := by rw [e2, if_neg (by rintro (g | g); exact hne g; exact hlt g)]
          (refine ql_gyes rfl (ql_pure tabOk rfl rfl (ql_gyes rfl (ql_pure tabOk rfl rfl (ql_gyes rfl (ql_lssF tabOk rfl rfl rfl (by omega) (ql_pure tabOk rfl rfl (q_nil (q_cond_false rfl (q_skip (q_blk (q_region ?_))))))))))); refine ql_pure tabOk rfl rfl (ql_ar tabOk rfl rfl rfl rfl (by omega) (by omega) (ql_pure tabOk rfl rfl (q_nil ?_))))
          exact hK (i + 1) _ _ (by omega) (by omega) ⟨rfl, rfl, by rw [e4]; rfl, by rw [e3, ← hsm]; rfl, rfl, trivial⟩ (by repeat constructor)
  · obtain rfl : i = s.rifles.length := by omega
    rw [bstP_full h8 hk]
    (refine q_exit _ rfl (q_seq (q_region (ql_pure tabOk rfl rfl (ql_pure tabOk rfl rfl (q_nil (q_ret ?_)))))))
    refine q_fin tabOk rfl (by repeat constructor) fun w hs => ?_
    exact ⟨rfl, hs.chg0⟩
end Go.Proofs.YtopdmadgkjdgcaaGreat

/- Walks of the reference: the fewest further checks; what follows from a plan. -/
namespace Go.Proofs.YtopdmadgkjdgcaaGreat
set_option maxRecDepth 4000
open Go Go.Eng
theorem free_first (s : Sc) (i : Nat) : (firstK s).free i = true := by
  have e : ∀ r, (List.replicate 8 false).getD r false = false := fun r => by
    rw [List.getD_eq_getElem?_getD, List.getElem?_replicate]
    split <;> rfl
  unfold Kn.free firstK none8
  simp only [e]
  rfl
theorem blk_rdI' {w : World} {b n c : Nat} {l : List Int} {t : TypeId} (h : Blk w b (ints l) t) (hn : n = l.length) : RdI w 0 w.heap.size (.slice (some ⟨b, 0, none⟩) n c) l := by
  subst hn
  exact Blk.rdI h
theorem skL_first (s : Sc) : skL s (firstK s) = List.replicate s.rifles.length 0 := List.ext_getElem (by rw [skL_len, List.length_replicate]) fun i h1 h2 => by
  rw [skL_get, List.getElem_replicate]
  exact skV_zero.2 (free_first s i)
def fewU (s : Sc) : Int := if chkO s = 0 then depV s (firstK s) else 0
theorem rfewest_u (w : World) (lo hi : Nat) (s : Sc) (tv rv : Value) (h : ScR w lo hi tv rv s) (hl1 : s.tests.length ≤ maxLen) (hl2 : s.rifles.length ≤ maxLen) : Ca Tryz.prog 52 [.agg (scC s tv rv).toArray] w fun x w' => x = .tuple #[.int .i64 (fewU s), .int .i64 (chkO s)] ∧ Chg [] w w' := by
  by_cases h0 : chkO s = 0
  · have := rfewest_ok w lo hi s tv rv h (chkO_zero.1 h0)
    unfold fewU
    rw [if_pos h0, h0]
    exact this
  · have := rfewest_no w lo hi s tv rv h hl1 hl2 h0
    unfold fewU
    rw [if_neg h0]
    exact this
def tF39_267b938 : OT := .alt (chainT [0, 1, 2, 3, 4, 5, 6, 7, 8, 9, 10, 11, 12] (.nil)) (chainT [5, 6, 7, 8, 0, 1, 2, 3, 4, 9, 10, 11, 12] (.nil))
set_option maxHeartbeats 2000000 in
theorem rrfewest_u (w : World) (lo hi : Nat) (s : Sc) (tv rv : Value) (h : ScR w lo hi tv rv s) (hl1 : s.tests.length ≤ maxLen) (hl2 : s.rifles.length ≤ maxLen) : Ca Tryz.prog 55 [.agg (scC s tv rv).toArray] w fun x w' => x = .tuple #[.int .i64 (fewU s), .int .i64 (chkO s)] ∧ Chg [] w w' := by
  obtain ⟨ta, tc, rfl, _⟩ := RdS.outI h.t
  obtain ⟨ra, rc, rfl, _⟩ := RdI.outI h.r
  refine q_of (Sat.nil w M0) Tryz.func55 rfl (by simp [Tryz.ntmps55]) ?_
  (refine q_seq (q_region ?_))
  refine ql_box rfl rfl (fun b1 => ?_)
  rw [agg_cells]
  (refine ql_pure tabOk rfl rfl (ql_pure tabOk rfl rfl (q_nil (q_seq (q_seq (q_region ?_))))); refine ql_loadABa tabOk rfl rfl rfl ?_)
  refine ql_callv (val := .tuple #[spV2 (offU s), .int .i64 (chkO s)]) tabOk rfl rfl rfl rfl (fun w hs => ?_) ?_; exact rroff_u w lo hi s _ _ (h.keep hs.chg0) hl1 hl2
  by_cases h0 : chkO s = 0
  · have hsok := chkO_zero.1 h0
    have hok := hsok.ok
    have hfit := firstK_fit hsok.le
    have h8 := hok.rn8
    have e1 : fewU s = depV s (firstK s) := by unfold fewU; rw [if_pos h0]
    rw [h0, e1]
    (refine ql_pure tabOk rfl rfl (ql_ext tabOk rfl rfl rfl (ql_ext tabOk rfl rfl rfl ?_)))
    refine ql_alloc zero56 rfl (fun b4 => ?_)
    (refine ql_setA tabOk rfl rfl rfl rfl rfl (by repeat constructor) rfl ?_; refine ql_pure tabOk rfl rfl (q_nil (q_seq (q_region (ql_pure tabOk rfl rfl (ql_neqF tabOk rfl rfl rfl (by omega) (q_nil (q_cond_false rfl (q_skip (q_seq ?_))))))))))
    refine q_cut (σ := Unit) (fun _ => [(2, .int .i64 (depV s (firstK s))), (3, .int .i64 0)]) (fun _ => []) ?_ ?_
    rotate_left
    · intro K3 hK3
      refine q_drawT (tF39_267b938) _ [] (Sp.refl _) (by kernel_rfl) (by kernel_rfl) ?_
      refine qt_alt ?_ ?_
      · skip
        refine qt_seg (by repeat (first | exact PickL.nil | (apply PickL.cons; rfl))) fun K1 hK1 => ?_
        ((iterate 2 refine qf_loadABa tabOk rfl rfl rfl ?_); refine qf_pure tabOk rfl rfl rfl ?_; refine qf_loadBa tabOk rfl rfl rfl ?_)
        refine qf_call (β := Nat) (ψ := fun b v => v = .slice (some ⟨b, 0, none⟩) 2001 2001) (L' := fun b => [.pt b (bools (ofsL (offV s).1 (offV s).2)) 4]) tabOk [] _ M0 rfl rfl rfl rfl (Sp.refl _) (fun _ h => h.elim) (fun w' hs => allowed_ca w' lo hi lo hi s _ _ _ s.tests (h.keep hs.chg0) (RdE.keep h.t hs.chg0) hok hok.tst) ?_
        rintro b5 _ rfl
        dsimp only [List.cons_append, List.nil_append]
        (refine qf_pure tabOk rfl rfl rfl ?_; refine qf_loadBa tabOk rfl rfl rfl ?_; refine qf_pure tabOk rfl rfl rfl ?_)
        refine qf_makeI (m := s.rifles.length) slI rfl rfl rfl (by omega) (fun b6 => ?_)
        skip
        refine qf_mk #[.slice (some ⟨b5, 0, none⟩) 2001 2001, .slice (some ⟨b6, 0, none⟩) s.rifles.length s.rifles.length] rfl (by kernel_rfl) rfl ?_
        skip
        refine qf_callv (val := .int .i64 (depV s (firstK s))) tabOk rfl rfl rfl rfl (fun w hs => rleast_ca lo hi s _ _ hok _ (firstK s) w 0 w.heap.size _ _ rfl hfit (h.keep hs.chg0) ⟨blk_rdB (c := 2001) (hs.blk (b := b5) (by repeat constructor)) (by rw [ofsL_len]), by rw [skL_first]; exact blk_rdI' (hs.blk (b := b6) (cs := ints (List.replicate s.rifles.length 0)) (by repeat constructor)) (by simp)⟩) ?_
        (refine qf_pure tabOk rfl rfl rfl (qf_pure tabOk rfl rfl rfl (qf_nil ?_)))
        exact hK1 _ _ (qt_nil (hK3 () _ _ ⟨rfl, rfl, trivial⟩ (by repeat constructor)))
      · skip
        refine qt_seg (by repeat (first | exact PickL.nil | (apply PickL.cons; rfl))) fun K1 hK1 => ?_
        (refine qf_pure tabOk rfl rfl rfl ?_; refine qf_loadBa tabOk rfl rfl rfl ?_; refine qf_pure tabOk rfl rfl rfl ?_)
        refine qf_makeI (m := s.rifles.length) slI rfl rfl rfl (by omega) (fun b6 => ?_)
        ((iterate 2 refine qf_loadABa tabOk rfl rfl rfl ?_); refine qf_pure tabOk rfl rfl rfl ?_; refine qf_loadBa tabOk rfl rfl rfl ?_)
        refine qf_call (β := Nat) (ψ := fun b v => v = .slice (some ⟨b, 0, none⟩) 2001 2001) (L' := fun b => [.pt b (bools (ofsL (offV s).1 (offV s).2)) 4]) tabOk [] _ M0 rfl rfl rfl rfl (Sp.refl _) (fun _ h => h.elim) (fun w' hs => allowed_ca w' lo hi lo hi s _ _ _ s.tests (h.keep hs.chg0) (RdE.keep h.t hs.chg0) hok hok.tst) ?_
        rintro b5 _ rfl
        dsimp only [List.cons_append, List.nil_append]
        skip
        refine qf_mk #[.slice (some ⟨b5, 0, none⟩) 2001 2001, .slice (some ⟨b6, 0, none⟩) s.rifles.length s.rifles.length] rfl (by kernel_rfl) rfl ?_
        skip
        refine qf_callv (val := .int .i64 (depV s (firstK s))) tabOk rfl rfl rfl rfl (fun w hs => rleast_ca lo hi s _ _ hok _ (firstK s) w 0 w.heap.size _ _ rfl hfit (h.keep hs.chg0) ⟨blk_rdB (c := 2001) (hs.blk (b := b5) (by repeat constructor)) (by rw [ofsL_len]), by rw [skL_first]; exact blk_rdI' (hs.blk (b := b6) (cs := ints (List.replicate s.rifles.length 0)) (by repeat constructor)) (by simp)⟩) ?_
        (refine qf_pure tabOk rfl rfl rfl (qf_pure tabOk rfl rfl rfl (qf_nil ?_)))
        exact hK1 _ _ (qt_nil (hK3 () _ _ ⟨rfl, rfl, trivial⟩ (by repeat constructor)))
    intro _
    (refine q_ret ?_)
    refine q_fin tabOk rfl (by repeat constructor) fun w hs => ?_
    exact ⟨rfl, hs.chg0⟩
  · have e1 : fewU s = 0 := by unfold fewU; rw [if_neg h0]
    rw [e1]
    (refine ql_pure tabOk rfl rfl (ql_ext tabOk rfl rfl rfl (ql_ext tabOk rfl rfl rfl ?_)))
    refine ql_alloc zero56 rfl (fun b4 => ?_)
    (refine ql_setA tabOk rfl rfl rfl rfl rfl (by repeat constructor) rfl ?_; refine ql_pure tabOk rfl rfl (q_nil (q_seq (q_region (ql_pure tabOk rfl rfl (ql_neqT tabOk rfl rfl rfl (by omega) (q_nil (q_cond_true rfl (q_seq (q_region ?_))))))))); (iterate 3 refine ql_pure tabOk rfl rfl ?_); refine q_nil (q_ret ?_))
    refine q_fin tabOk rfl (by repeat constructor) fun w hs => ?_
    exact ⟨rfl, hs.chg0⟩
end Go.Proofs.YtopdmadgkjdgcaaGreat
