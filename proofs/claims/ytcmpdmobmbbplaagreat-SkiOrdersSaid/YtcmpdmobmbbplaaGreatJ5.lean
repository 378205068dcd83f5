/- My texts E16, Sort, K43, B35, K44, K45, B36, K46, K47, W26, K33, K48, E17, B37, E18, E19, K49, K50, K34, K35, W17, K31, W16, K32, L8, K51, E20, joined: a claim takes at most 60 files. -/
import Derived.Test.YtcmpdmobmbbplaaGreatJ4
import Derived.Shelf.Sort.Plain
import Derived.Shelf.Slices.In.SortNone

/- Walks of the reference: orders that fit; how many runs have to be dropped; runs without some of them. -/
namespace Go.Proofs.YtcmpdmobmbbplaaGreat
set_option maxRecDepth 4000
open Go Go.Eng
theorem agW_iff {l : Lb} (hl : l.Ok) {L : List Nat} {i : Nat} (hi : i < l.runs.length) : agW l L i = true ↔ ∃ f s, Sh l i f s ∧ L.idxOf s < L.idxOf f := by
  have hrg : l.runs.getD i ⟨0, 0, 0⟩ = l.runs[i] := by rw [List.getD_eq_getElem?_getD, List.getElem?_eq_getElem hi, Option.getD_some]
  unfold agW
  rw [hrg]
  cases hri : runI l.err l.runs[i] with
  | none => simp only [Bool.false_eq_true, false_iff]; rintro ⟨f, s, h, _⟩; exact runI_no hi hri h
  | some p =>
    obtain ⟨p1, p2⟩ := p
    obtain ⟨f, s, hf, hs', hsh⟩ := runI_sh hl hi (p := p1) (q := p2) hri
    subst hf hs'
    simp only [Int.toNat_natCast, decide_eq_true_iff]
    constructor
    · intro h; exact ⟨f, s, hsh, h⟩
    · rintro ⟨f', s', h, g⟩
      obtain ⟨rfl, rfl⟩ := sh_fun hsh h
      exact g
def agD (l : Lb) (L : List Nat) : List Nat := (List.range l.runs.length).filter (agW l L)
theorem agD_mem {l : Lb} (hl : l.Ok) {L : List Nat} {i : Nat} : i ∈ agD l L ↔ ∃ f s, Sh l i f s ∧ L.idxOf s < L.idxOf f := by
  unfold agD
  rw [List.mem_filter, List.mem_range]
  constructor
  · rintro ⟨h1, h2⟩; exact (agW_iff hl h1).1 h2
  · rintro ⟨f, s, h, g⟩; exact ⟨h.1, (agW_iff hl h.1).2 ⟨f, s, h, g⟩⟩
theorem agD_nodup (l : Lb) (L : List Nat) : (agD l L).Nodup := List.nodup_range.sublist List.filter_sublist
theorem ag_zero {l : Lb} (hl : l.Ok) {L : List Nat} (hp : L.Perm (List.range l.n)) : agN l L = 0 ↔ preB l.ord l.n [] L = true := by
  have h8 := hl.n8
  rw [pre_lin h8 hl.inO hp]
  constructor
  · intro h
    have h0 : agD l L = [] := List.length_eq_zero_iff.1 h
    refine ⟨hp, order_sub (R := fun a b => a < l.n ∧ b < l.n ∧ L.idxOf a < L.idxOf b) hl.in8 (fun a b c _ _ _ h1 h2 => ⟨h1.1, h2.2.1, by omega⟩) fun p hpp => ?_⟩
    obtain ⟨h1, h2, h3⟩ := hl.in _ hpp
    refine ⟨h1, h2, ?_⟩
    obtain ⟨i, hi⟩ := pair_sh hpp
    rcases Nat.lt_trichotomy (L.idxOf p.1) (L.idxOf p.2) with g | g | g
    · exact g
    · exfalso
      have m1 := List.idxOf_lt_length_iff.2 (hp.mem_iff.2 (List.mem_range.2 h1))
      have m2 := List.idxOf_lt_length_iff.2 (hp.mem_iff.2 (List.mem_range.2 h2))
      have e1 := List.getElem_idxOf m1
      have e2 := List.getElem_idxOf m2
      simp only [g] at e1
      exact h3 (e1.symm.trans e2)
    · exfalso
      have := (agD_mem hl).2 ⟨_, _, hi, g⟩
      rw [h0] at this
      cases this
  · intro h
    refine List.length_eq_zero_iff.2 (List.eq_nil_iff_forall_not_mem.2 fun i hi => ?_)
    obtain ⟨f, s, h1, h2⟩ := (agD_mem hl).1 hi
    have h3 := hl.in8 _ (sh_pair h1)
    have := (h.idx f s h3.1 h3.2 (order_has hl.in8 (sh_pair h1))).2.2
    omega
def dropF (l : Lb) (X : List (List Nat)) : Nat := X.foldl (fun b p => min b (agN l p)) l.runs.length
theorem dropF_snoc (l : Lb) (X : List (List Nat)) (p : List Nat) : dropF l (X ++ [p]) = min (dropF l X) (agN l p) := by simp [dropF]
theorem foldmin_le (f : List Nat → Nat) : ∀ (X : List (List Nat)) (a : Nat), X.foldl (fun b p => min b (f p)) a ≤ a ∧ ∀ p ∈ X, X.foldl (fun b p => min b (f p)) a ≤ f p
  | [], a => ⟨Nat.le_refl _, fun p h => by cases h⟩
  | q :: X, a => by
    rw [List.foldl_cons]
    have ih := foldmin_le f X (min a (f q))
    refine ⟨by omega, fun p hp => ?_⟩
    rcases List.mem_cons.1 hp with rfl | hp
    · omega
    · exact ih.2 p hp
theorem foldmin_ge (f : List Nat → Nat) (c : Nat) : ∀ (X : List (List Nat)) (a : Nat), c ≤ a → (∀ p ∈ X, c ≤ f p) → c ≤ X.foldl (fun b p => min b (f p)) a
  | [], a, h, _ => h
  | q :: X, a, h, g => by
    rw [List.foldl_cons]
    have h1 := g q List.mem_cons_self
    exact foldmin_ge f c X _ (by omega) fun p hp => g p (List.mem_cons_of_mem _ hp)
theorem drop_fold {l : Lb} (hl : l.Ok) {d : List Nat} (h : DropP l d) : dropF l (permN l.n l.n) = d.length := by
  refine Nat.le_antisymm ?_ ?_
  · obtain ⟨L, hL, hi⟩ := h.at_
    refine Nat.le_trans ((foldmin_le (agN l) _ _).2 L (perm_full.2 hL)) ?_
    exact sub_len (agD_nodup l L) fun i hm => by
      obtain ⟨f, s, h1, h2⟩ := (agD_mem hl).1 hm
      exact (hi i).2 ⟨f, s, h1, h2⟩
  · refine foldmin_ge (agN l) _ _ _ ?_ fun L hL => ?_
    · have := sub_len (D := List.range l.runs.length) (h.asc.imp (fun h => by omega)) (fun x hx => List.mem_range.2 (h.lt x hx))
      rwa [List.length_range] at this
    · exact h.min (agD l L) (noC_drop hl (perm_full.1 hL) fun i s t h1 h2 => (agD_mem hl).2 ⟨s, t, h1, h2⟩)
theorem perm_len6 {n : Nat} (hn : n ≤ 6) : (permN n n).length ≤ 46656 := perm_bd hn hn
set_option maxHeartbeats 2000000 in
theorem fitting_ca (w : World) (lo hi : Nat) (l : Lb) (v : Value) (h : RdR w lo hi v l.runs) (hl : l.Ok) (h6 : l.n ≤ 6) :
    Ca Tryz.prog 37 [.agg (lbC l v).toArray] w fun x w' => ∃ y : Value × List (Value × List Int) × List (Value × List Int), (x = y.1 ∧ (∀ p ∈ y.2.2, p ∈ y.2.1) ∧ y.2.2.map (·.2) = (FL l.ord l.n l.n).map chI) ∧ Sat w M0 [un (rowsO 3 y.2.1), .ow y.1 48 1 y.2.2.length (y.2.2.map (·.1))] w' := by
  obtain ⟨n, en, hn', h8, h1⟩ := hl.nat
  have hFL := FL_eq l.ord n n
  have hPb := perm_len6 (n := n) (by omega)
  have hag := fun L (hp : L ∈ permN n n) => ag_zero hl (L := L) (by rw [hn']; exact perm_full.1 hp)
  have hagp := fun L (hp : L ∈ permN n n) => perm_full.1 hp
  rw [hn'] at hag ⊢
  obtain ⟨va, vc, rfl, _⟩ := RdR.outI h
  refine q_of (Sat.nil w M0) Tryz.func37 rfl (by simp [Tryz.ntmps37]) ?_
  (refine q_seq (q_region ?_))
  refine ql_box rfl rfl (fun b1 => ?_)
  rw [agg_cells]
  (refine ql_pure tabOk rfl rfl (q_nil (q_seq (q_region (ql_pure tabOk rfl rfl ?_)))); refine ql_loadBa tabOk rfl rfl rfl ?_)
  rw [en]
  refine ql_call (β := Value × List (Value × List Int)) tabOk [] _ M0 rfl rfl rfl rfl (Sp.refl _) (fun _ h => h.elim) (fun w' hs => perms_ca n (by omega) w') ?_
  rintro ⟨_, Y⟩ v3 ⟨rfl, hY⟩
  dsimp only [List.cons_append, List.nil_append] at hY ⊢
  have hYl : Y.length = (permN n n).length := by have := congrArg List.length hY; simpa using this
  obtain ⟨PL, hPL⟩ : ∃ PL, PL = permN n n := ⟨_, rfl⟩
  rw [← hPL] at hFL hPb hag hagp hY hYl
  refine ql_fact (fun w hs => hs.slice2 (v := v3) (by repeat constructor)) ?_
  rintro ⟨a3, c3, rfl⟩
  (refine ql_pure tabOk rfl rfl (q_nil (q_seq (q_region (ql_pure tabOk rfl rfl (q_nil (q_seq (q_seq (q_region (ql_pure tabOk rfl rfl (q_nil (q_block ?_))))))))))))
  refine q_conv (H' := [.ow (.slice none 0 0) 48 1 0 [], un (rowsO 3 Y), .ow (.slice a3 Y.length c3) 48 1 Y.length (Y.map (·.1)), .pt b1 (lbC l (.slice va l.runs.length vc)) 30]) (fun w' hs => (Sat.ownil hs 48 1).sp (by repeat constructor)) ?_
  refine q_loop (σ := Nat × Value × List (Value × List Int)) (fun z => z.1 ≤ Y.length ∧ z.2.2.length ≤ z.1 ∧ (∀ p ∈ z.2.2, p ∈ Y) ∧ z.2.2.map (·.2) = ((PL.take z.1).filter (preB l.ord n [])).map chI) (fun z => Y.length - z.1) (fun z => [(1, .pointer (some ⟨b1, 0, none⟩)), (3, .slice a3 Y.length c3), (4, z.2.1), (5, .int .i64 z.1)]) (fun z => [.ow z.2.1 48 1 z.2.2.length (z.2.2.map (·.1)), un (rowsO 3 Y), .ow (.slice a3 Y.length c3) 48 1 Y.length (Y.map (·.1)), .pt b1 (lbC l (.slice va l.runs.length vc)) 30]) (0, .slice none 0 0, []) ⟨by simp, by simp, by simp, by simp⟩ ⟨rfl, rfl, rfl, rfl, trivial⟩ (by repeat constructor) ?_
  rintro ⟨i, v4, sel⟩ ⟨hi', hsl, hsub, hsel⟩ K hK
  dsimp only at hi' hsl hsub hsel hK ⊢
  (refine q_seq (q_seq (q_region ?_)); (iterate 4 refine ql_pure tabOk rfl rfl ?_); refine q_nil ?_)
  refine q_if rfl (fun hc => ?_) (fun hc => ?_)
  · have hi2 : i < Y.length := by omega
    clear hc
    have hip : i < PL.length := by omega
    obtain ⟨p, hp⟩ : ∃ p, p = PL[i] := ⟨_, rfl⟩
    have hpm : p ∈ PL := by rw [hp]; exact List.getElem_mem hip
    have hYk : Y[i].2 = chI p := by
      have h1 : (Y.map (·.2))[i]? = (PL.map chI)[i]? := by rw [hY]
      rw [List.getElem?_map, List.getElem?_map, List.getElem?_eq_getElem hi2, List.getElem?_eq_getElem hip, Option.map_some, Option.map_some] at h1
      rw [hp]
      exact Option.some.inj h1
    have hpl : Y[i].2.length = p.length := by rw [hYk, chI_len]
    have htk : (PL.take (i + 1)).filter (preB l.ord n []) = (PL.take i).filter (preB l.ord n []) ++ (if preB l.ord n [] p = true then [p] else []) := by
      rw [List.take_succ_eq_append_getElem hip, List.filter_append, ← hp]
      cases hc : preB l.ord n [] p <;> simp [hc]
    have hag2 := hag p hpm
    refine q_fact (fun w hs => rowN hs (t := 3) (X := Y) (by repeat constructor) hi2) ?_
    rintro ⟨ka, kc, ek, hka⟩
    rw [hpl] at ek hka
    refine q_fact (fun w hs => hs.ownSome (v := .slice a3 Y.length c3) (by repeat constructor) (by omega)) ?_
    rintro ⟨g3, q3, ev⟩
    cases ev
    (refine q_skip (q_seq (q_block (q_seq ?_))))
    refine q_draw _ [] (Sp.refl _) (by kernel_rfl) (by kernel_rfl) ?_
    (refine qf_loadABa tabOk rfl rfl rfl ?_; refine qf_pure tabOk rfl rfl rfl (qf_pure tabOk rfl rfl rfl ?_))
    refine qf_index tabOk rfl rfl rfl rfl rfl (by omega) (by omega) ?_
    refine qf_load1 (v := .slice ka p.length kc) tabOk rfl rfl rfl (fun w hs => row_cell hs (t := 48) (X := Y) (by repeat constructor) hi2 ek rfl) ?_
    skip
    refine qf_callv (val := .int .i64 (agN l p : Nat)) tabOk rfl rfl rfl rfl (fun w hs => ?_) ?_; exact ragainst_ca w lo hi 0 w.heap.size l (.slice va l.runs.length vc) (.slice ka p.length kc) p (RdE.keep h hs.chg0) hl (by rw [hn']; exact hagp p hpm) (by have := (wx_row hs (t := 3) (xs := Y) (by repeat constructor) i hi2).1; rw [ek, hYk] at this; exact this)
    by_cases h0 : agN l p = 0
    · rw [if_pos (hag2.1 h0)] at htk
      (refine qf_eqlT tabOk rfl rfl rfl (by omega) (qf_nil (q_cond_true rfl (q_region ?_))); (iterate 3 refine ql_pure tabOk rfl rfl ?_))
      refine ql_index tabOk rfl rfl rfl rfl rfl (by omega) (by omega) ?_
      refine ql_load1 (v := .slice ka p.length kc) tabOk rfl rfl rfl (fun w hs => row_cell hs (t := 48) (X := Y) (by repeat constructor) hi2 ek rfl) ?_
      skip
      refine ql_mkS 48 [.slice ka p.length kc] rfl (by kernel_rfl) rfl (fun bm => ?_)
      skip
      refine ql_append (q := 1) (news := [.slice ka p.length kc]) slII rfl rfl rfl (fun v' => by repeat constructor) (fun w' hs => ⟨_, _, Blk.rdN (hs.blk (b := bm) (by repeat constructor)) rfl⟩) (by simp [oneV]) (by omega) (by omega) (fun u4 => ?_)
      (refine ql_pure tabOk rfl rfl (q_nil (q_blk (q_region (ql_pure tabOk rfl rfl (ql_ar tabOk rfl rfl rfl rfl (by omega) (by omega) (ql_pure tabOk rfl rfl (q_nil ?_))))))))
      have elen : (sel ++ [Y[i]]).length = sel.length + 1 := by simp
      exact hK (i + 1, u4, sel ++ [Y[i]]) _ _ ⟨by simp only; omega, by simp only [elen]; omega, fun q hq => by
        rcases List.mem_append.1 hq with hq | hq
        · exact hsub q hq
        · rw [List.mem_singleton.1 hq]; exact List.getElem_mem hi2, by dsimp only; rw [htk, List.map_append, List.map_append, hsel, List.map_singleton, hYk, List.map_singleton]⟩ (by simp only; omega) ⟨rfl, rfl, rfl, rfl, trivial⟩ (by dsimp only; rw [elen, List.map_append, List.map_singleton, ek]; repeat constructor)
    · rw [if_neg (fun h => h0 (hag2.2 h)), List.append_nil] at htk
      (refine qf_eqlF tabOk rfl rfl rfl (by omega) (qf_nil (q_cond_false rfl (q_skip (q_blk (q_region (ql_pure tabOk rfl rfl (ql_ar tabOk rfl rfl rfl rfl (by omega) (by omega) (ql_pure tabOk rfl rfl (q_nil ?_))))))))))
      exact hK (i + 1, v4, sel) _ _ ⟨by simp only; omega, by simp only; omega, hsub, by dsimp only; rw [htk]; exact hsel⟩ (by simp only; omega) ⟨rfl, rfl, rfl, rfl, trivial⟩ (by repeat constructor)
  · have hiY : i = PL.length := by omega
    rw [hiY, List.take_length, hFL] at hsel
    (refine q_exit _ rfl (q_seq (q_region (ql_pure tabOk rfl rfl (ql_pure tabOk rfl rfl (q_nil (q_ret ?_)))))))
    refine q_fin tabOk rfl (by repeat constructor) fun w hs => ?_
    exact ⟨(v4, Y, sel), ⟨rfl, hsub, hsel⟩, hs.sp (by repeat constructor)⟩
end Go.Proofs.YtcmpdmobmbbplaaGreat

/- The laying of slices.Sort at this seat's program, as the kit's lay-plain.mjs writes it. -/
namespace Go.Proofs.YtcmpdmobmbbplaaGreat
set_option maxRecDepth 4000
open Go Go.Shelf
def lays189_ren : Go.Shelf.Ren := ⟨fun | 189 => 78 | 125 => 138 | 257 => 137 | 128 => 175 | 129 => 176 | 294 => 166 | 295 => 167 | 296 => 168 | 297 => 169 | 298 => 170 | 299 => 171 | 216 => 172 | 300 => 173 | 301 => 174 | 328 => 186 | 329 => 187 | 330 => 188 | 331 => 189 | 332 => 190 | 215 => 191 | 343 => 196 | n => n, fun | 28 => 48 | 3 => 3 | 46 => 199 | 0 => 0 | 51 => 135 | 53 => 222 | 4 => 4 | 183 => 215 | 182 => 214 | 131 => 190 | 5 => 5 | 9 => 9 | 218 => 226 | 222 => 90 | 228 => 234 | 229 => 141 | n => n, fun | n => n⟩
theorem lays189 : Go.Proofs.Lays.n189 Tryz.prog lays189_ren := {
  mixed := by kernel_rfl
  f125 := Tryz.func138.trans (congrArg some (by kernel_rfl))
  f128 := Tryz.func175.trans (congrArg some (by kernel_rfl))
  f129 := Tryz.func176.trans (congrArg some (by kernel_rfl))
  f189 := Tryz.func78.trans (congrArg some (by kernel_rfl))
  f215 := Tryz.func191.trans (congrArg some (by kernel_rfl))
  f216 := Tryz.func172.trans (congrArg some (by kernel_rfl))
  f257 := Tryz.func137.trans (congrArg some (by kernel_rfl))
  f294 := Tryz.func166.trans (congrArg some (by kernel_rfl))
  f295 := Tryz.func167.trans (congrArg some (by kernel_rfl))
  f296 := Tryz.func168.trans (congrArg some (by kernel_rfl))
  f297 := Tryz.func169.trans (congrArg some (by kernel_rfl))
  f298 := Tryz.func170.trans (congrArg some (by kernel_rfl))
  f299 := Tryz.func171.trans (congrArg some (by kernel_rfl))
  f300 := Tryz.func173.trans (congrArg some (by kernel_rfl))
  f301 := Tryz.func174.trans (congrArg some (by kernel_rfl))
  f328 := Tryz.func186.trans (congrArg some (by kernel_rfl))
  f329 := Tryz.func187.trans (congrArg some (by kernel_rfl))
  f330 := Tryz.func188.trans (congrArg some (by kernel_rfl))
  f331 := Tryz.func189.trans (congrArg some (by kernel_rfl))
  f332 := Tryz.func190.trans (congrArg some (by kernel_rfl))
  f343 := Tryz.func196.trans (congrArg some (by kernel_rfl))
  t0 := Tryz.underlying0
  a0 := Tryz.isAgg0
  z0 := Tryz.sizeOf0
  v0 := Tryz.zeroValue0
  t3 := Tryz.underlying3
  a3 := Tryz.isAgg3
  z3 := Tryz.sizeOf3
  v3 := Tryz.zeroValue3
  t4 := Tryz.underlying4
  a4 := Tryz.isAgg4
  z4 := Tryz.sizeOf4
  v4 := Tryz.zeroValue4
  t5 := Tryz.underlying5
  a5 := Tryz.isAgg5
  z5 := Tryz.sizeOf5
  v5 := Tryz.zeroValue5
  t9 := Tryz.underlying9
  a9 := Tryz.isAgg9
  z9 := Tryz.sizeOf9
  v9 := Tryz.zeroValue9
  t28 := Tryz.underlying48
  a28 := Tryz.isAgg48
  z28 := Tryz.sizeOf48
  v28 := Tryz.zeroValue48
  t46 := Tryz.underlying199
  a46 := Tryz.isAgg199
  z46 := Tryz.sizeOf199
  v46 := Tryz.zeroValue199
  t51 := Tryz.underlying135
  a51 := Tryz.isAgg135
  z51 := Tryz.sizeOf135
  v51 := Tryz.zeroValue135
  t53 := Tryz.underlying222
  a53 := Tryz.isAgg222
  z53 := Tryz.sizeOf222
  v53 := Tryz.zeroValue222
  t131 := Tryz.underlying190
  a131 := Tryz.isAgg190
  z131 := Tryz.sizeOf190
  v131 := Tryz.zeroValue190
  t182 := Tryz.underlying214
  a182 := Tryz.isAgg214
  z182 := Tryz.sizeOf214
  v182 := Tryz.zeroValue214
  t183 := Tryz.underlying215
  a183 := Tryz.isAgg215
  z183 := Tryz.sizeOf215
  v183 := Tryz.zeroValue215
  t218 := Tryz.underlying226
  a218 := Tryz.isAgg226
  z218 := Tryz.sizeOf226
  v218 := Tryz.zeroValue226
  t222 := Tryz.underlying90
  a222 := Tryz.isAgg90
  z222 := Tryz.sizeOf90
  v222 := Tryz.zeroValue90
  t228 := Tryz.underlying234
  a228 := Tryz.isAgg234
  z228 := Tryz.sizeOf234
  v228 := Tryz.zeroValue234
  t229 := Tryz.underlying141
  a229 := Tryz.isAgg141
  z229 := Tryz.sizeOf141
  v229 := Tryz.zeroValue141 }
end Go.Proofs.YtcmpdmobmbbplaaGreat

/- Walks: runs that contradict each other. -/
namespace Go.Proofs.YtcmpdmobmbbplaaGreat
set_option maxRecDepth 4000
open Go Go.Eng
/-- What comes of asking for a round. -/
def RoR (l : Lb) (c : List Int) (e : Int) : Prop := (checkV l ≠ 0 ∧ c = [] ∧ e = checkV l) ∨ (l.Ok ∧ NoC l.ord l.n ∧ c = [] ∧ e = 6) ∨ (l.Ok ∧ e = 0 ∧ ∃ s : Nat, s < l.n ∧ fa l.ord s s = true ∧ Short l s s c)
theorem round_ca (w : World) (lo hi : Nat) (l : Lb) (v : Value) (h : RdR w lo hi v l.runs) (hlen : l.runs.length ≤ maxLen) :
    Ca Tryz.prog 32 [.agg (lbC l v).toArray] w fun x w' => ∃ y : Value × List Int × Int, (x = .tuple #[y.1, .int .i64 y.2.2] ∧ RoR l y.2.1 y.2.2) ∧ Sat w M0 [.ow y.1 3 1 y.2.1.length (ints y.2.1)] w' := by
  refine q_of (Sat.nil w M0) Tryz.func32 rfl (by simp [Tryz.ntmps32]) ?_
  (refine q_seq (q_region ?_))
  refine ql_box rfl rfl (fun b3 => ?_)
  rw [agg_cells]
  (refine ql_pure tabOk rfl rfl (ql_pure tabOk rfl rfl (q_nil (q_seq (q_region ?_)))); refine ql_loadABa tabOk rfl rfl rfl ?_)
  by_cases h2 : checkV l = 0
  · have hl := check_iff.1 h2
    have h8 := hl.n8
    refine ql_call (β := Nat) tabOk [] _ M0 rfl rfl rfl rfl (Sp.refl _) (fun _ h => h.elim) (fun w' hs => asked_ok w' lo hi l v (RdE.keep h hs.chg0) hl) ?_
    rintro d _ rfl
    dsimp only [List.cons_append, List.nil_append]
    (refine ql_pure tabOk rfl rfl (ql_ext tabOk rfl rfl rfl (ql_ext tabOk rfl rfl rfl (ql_pure tabOk rfl rfl (ql_pure tabOk rfl rfl (q_nil (q_seq (q_seq (q_region (ql_pure tabOk rfl rfl (ql_neqF tabOk rfl rfl rfl (by omega) (q_nil ?_))))))))))); refine q_cond_false rfl (q_skip (q_seq (q_region (ql_pure tabOk rfl rfl ?_)))))
    refine ql_callv (val := .int .i64 (confV l.ord l.n)) tabOk rfl rfl rfl rfl (fun w hs => ?_) ?_; exact conflict_ca w d 122 l v l.ord (hs.blk (by repeat constructor)) hl
    by_cases hc0 : ∃ s, s < l.n ∧ fa l.ord s s = true ∧ ∀ t, t < s → fa l.ord t t = false
    · obtain ⟨s, hs1, hs2, hs3⟩ := hc0
      rw [conf_some hs1 hs2 hs3]
      (refine ql_pure tabOk rfl rfl (q_nil (q_seq (q_seq (q_region (ql_pure tabOk rfl rfl (ql_lssF tabOk rfl rfl rfl (by omega) (q_nil (q_cond_false rfl (q_skip (q_seq (q_region ?_))))))))))); (iterate 3 refine ql_pure tabOk rfl rfl ?_))
      refine ql_call (β := Nat × Nat × List Int) (ψ := fun y x => x = .slice (some ⟨y.1, 0, none⟩) y.2.2.length y.2.1 ∧ Short l s s y.2.2) (L' := fun y => [.ow (.slice (some ⟨y.1, 0, none⟩) y.2.2.length y.2.1) 3 1 y.2.2.length (ints y.2.2)]) tabOk [] _ M0 rfl rfl rfl rfl (Sp.refl _) (fun _ h => h.elim) (fun w' hs => by
        have hch := chain_ca w' d lo hi l v l.ord 122 (hs.blk (by repeat constructor)) (RdE.keep h hs.chg0) hl s s (by omega) (by omega)
        refine hch.mono fun x w2 hx => ?_
        rcases hx with ⟨g1, g2, g3⟩ | ⟨g, cp, c, g1, g2, g3⟩
        · exfalso
          obtain ⟨k, hk⟩ := fa_wk hl (by omega) (by omega) hs2
          obtain ⟨c, hc1, hc2⟩ := wk_lead _ _ hk
          exact g2 c (fun e => by rw [e] at hc1; simp at hc1) hc2
        · exact ⟨(g, cp, c), ⟨g1, g2⟩, by rw [g1] at g3; exact g3⟩) ?_
      rintro y x ⟨rfl, hsh⟩
      obtain ⟨g, cp, c⟩ := y
      dsimp only [List.nil_append, List.cons_append]
      (refine ql_pure tabOk rfl rfl (ql_pure tabOk rfl rfl (q_nil (q_ret ?_))))
      refine q_fin tabOk rfl (by repeat constructor) fun w hs => ?_
      exact ⟨(.slice (some ⟨g, 0, none⟩) c.length cp, c, 0), ⟨rfl, .inr (.inr ⟨hl, rfl, s, hs1, hs2, hsh⟩)⟩, hs.sp (by repeat constructor)⟩
    · have hno : NoC l.ord l.n := confl_iff.1 (Bool.eq_false_iff.2 fun hh => by
        have h5 := conf_iff.2 hh
        unfold confV at h5
        split at h5
        · rename_i s hs
          obtain ⟨h6, h7, h9⟩ := List.find?_range_eq_some.1 hs
          exact hc0 ⟨s, List.mem_range.1 h7, h6, fun t ht => by simpa using h9 t ht⟩
        · omega)
      rw [conf_none hno]
      (refine ql_pure tabOk rfl rfl (q_nil (q_seq (q_seq (q_region (ql_pure tabOk rfl rfl (ql_lssT tabOk rfl rfl rfl (by omega) (q_nil (q_cond_true rfl (q_seq (q_region (ql_pure tabOk rfl rfl ?_))))))))))); refine ql_pure tabOk rfl rfl (q_nil (q_ret ?_)))
      refine q_fin tabOk rfl (by repeat constructor) fun w hs => ?_
      exact ⟨(.slice none 0 0, [], 6), ⟨rfl, .inr (.inl ⟨hl, hno, rfl, rfl⟩)⟩, Sat.ownil (hs.sp (by repeat constructor)) _ _⟩
  · refine ql_callv (val := .tuple #[.pointer none, .int .i64 (checkV l)]) tabOk rfl rfl rfl rfl (fun w hs => ?_) ?_; exact asked_no w lo hi l v (RdE.keep h hs.chg0) hlen h2
    (refine ql_pure tabOk rfl rfl (ql_ext tabOk rfl rfl rfl (ql_ext tabOk rfl rfl rfl (ql_pure tabOk rfl rfl (ql_pure tabOk rfl rfl (q_nil (q_seq (q_seq (q_region (ql_pure tabOk rfl rfl (ql_neqT tabOk rfl rfl rfl (by omega) (q_nil ?_))))))))))); refine q_cond_true rfl (q_seq (q_region ?_)); (iterate 3 refine ql_pure tabOk rfl rfl ?_); refine q_nil (q_ret ?_))
    refine q_fin tabOk rfl (by repeat constructor) fun w hs => ?_
    exact ⟨(.slice none 0 0, [], checkV l), ⟨rfl, .inl ⟨h2, rfl, rfl⟩⟩, Sat.ownil (hs.sp (by repeat constructor)) _ _⟩
end Go.Proofs.YtcmpdmobmbbplaaGreat

/- The engine, part B35: a bit of a number is cleared. -/
namespace Go.Eng
set_option maxRecDepth 4000
open Go Go.RowKit

section
variable {P : Program} {ro : Cx} {n : Nat} {F : Fin} {w0 : World} {M : Nat → Prop} {k : List It} {ops : Array Oper} {rest : List Oper} {e : Env} {H Hq : List Ck}
/-- A number without a bit. -/
def delB (a s : Nat) : Nat := if a.testBit s = true then a ^^^ 2 ^ s else a
theorem delB_bit (a s i : Nat) : (delB a s).testBit i = (a.testBit i && !decide (i = s)) := by
  unfold delB
  by_cases e : i = s
  · subst e
    split
    · rename_i h
      rw [Nat.testBit_xor, h, Nat.testBit_two_pow_self]; simp
    · rename_i h
      simp [h]
  · split
    · rw [Nat.testBit_xor, Nat.testBit_two_pow_of_ne (Ne.symm e)]; simp [e]
    · simp [e]
theorem delB_le (a s : Nat) : delB a s ≤ a := by
  have : delB a s = a &&& delB a s := Nat.eq_of_testBit_eq fun i => by
    rw [Nat.testBit_and, delB_bit]
    cases a.testBit i <;> simp
  rw [this]
  exact Nat.and_le_left
theorem run_delB {a s : Nat} (ha : a < 9223372036854775808) (hs : s < 63) (w : World) : (Op.intBits .andNot .i64 (a : Int) ((2 ^ s : Nat) : Int)).run P w = .ok (.int .i64 ((delB a s : Nat) : Int)) w := by
  have hp : 2 ^ s < 9223372036854775808 := by
    have := Nat.pow_lt_pow_right (a := 2) (by omega) hs
    simpa using this
  have h0 : ∀ x : Nat, x < 9223372036854775808 → (BitVec.ofInt 64 (x : Int)).toNat = x := fun x hx => by
    simp [BitVec.toNat_ofInt]; omega
  have h1 : (BitVec.ofInt IntKind.i64.bits (a : Int) &&& ~~~BitVec.ofInt IntKind.i64.bits ((2 ^ s : Nat) : Int)).toNat = delB a s := by
    show (BitVec.ofInt 64 (a : Int) &&& ~~~BitVec.ofInt 64 ((2 ^ s : Nat) : Int)).toNat = delB a s
    refine Nat.eq_of_testBit_eq fun i => ?_
    rw [delB_bit, BitVec.testBit_toNat, BitVec.getLsbD_and, BitVec.getLsbD_not, ← BitVec.testBit_toNat, ← BitVec.testBit_toNat, h0 a ha, h0 _ hp, Nat.testBit_two_pow]
    by_cases hi : i < 64
    · simp [hi, eq_comm]
    · rw [Nat.testBit_lt_two_pow (Nat.lt_of_lt_of_le ha (Nat.le_trans (by decide : 9223372036854775808 ≤ 2 ^ 64) (Nat.pow_le_pow_right (by omega) (by omega))))]
      rfl
  have h2 := delB_le a s
  simp only [Op.intBits]
  rw [h1, w64 (by omega) (by omega)]
  rfl
theorem ql_delB {d t t' : Nat} {x y : Operand} {a s : Nat} {b : Int} {ty : TypeId} {pos : String} {af : Array Edge} (hx : opv e x = some (.int .i64 a)) (hy : opv e y = some (.int .i64 b)) (hb : b = ((2 ^ s : Nat) : Int)) (hd : Nat.blt d n = true) (ha : a < 9223372036854775808) (hs : s < 63)
    (h : QL P ro n F w0 M k ops rest ((d, .int .i64 ((delB a s : Nat) : Int)) :: e) H) : QL P ro n F w0 M k ops (⟨some d, .binOp .andNot t x y t', ty, pos, af, none⟩ :: rest) e H := .mk fun w hw =>
  yl_val (by simp) hd (fun a' hf => by
    have e1 := hf.op hx
    have e2 := hf.op hy
    simp only [execOp, e1, e2]
    have := run_delB (P := P) ha hs w
    rw [← hb] at this
    simp [eqGuard, binOp, this]) (h.h w hw)
end
end Go.Eng

/- Walks: the runs against an order; the fewest runs against some order of each set. -/
namespace Go.Proofs.YtcmpdmobmbbplaaGreat
set_option maxRecDepth 4000
open Go Go.Eng
def agI (l : Lb) (s S : Nat) (pre : List (Nat × Int × Int)) : List Nat := (pre.filter (agB s S)).map (·.1)
theorem agI_snoc (l : Lb) (s S : Nat) (pre : List (Nat × Int × Int)) (x : Nat × Int × Int) : agI l s S (pre ++ [x]) = agI l s S pre ++ (if agB s S x = true then [x.1] else []) := by
  unfold agI
  rw [List.filter_append, List.map_append, List.filter_cons]
  split <;> rfl
theorem agI_len (l : Lb) (s S : Nat) (pre : List (Nat × Int × Int)) : (agI l s S pre).length ≤ pre.length := by
  unfold agI
  rw [List.length_map]
  exact List.length_filter_le _ _
theorem shL_len (l : Lb) : (shL l).length ≤ l.runs.length := by
  have := List.length_filterMap_le (fun i => (runI l.err (l.runs.getD i ⟨0, 0, 0⟩)).map fun p => (i, p)) (List.range l.runs.length)
  rw [List.length_range] at this
  exact this
set_option maxHeartbeats 1000000 in
theorem against_ca (w : World) (b : Nat) (lo hi : Nat) (l : Lb) (v : Value) (o : Nat) (t : TypeId) (hb : Blk w b (dkC l v o) t) (h : RdR w lo hi v l.runs) (hl : l.Ok) (s S : Nat) (hs8 : s < 8) (hS : S < 256) :
    Ca Tryz.prog 77 [.pointer (some ⟨b, 0, none⟩), .int .i64 s, .int .i64 S] w fun x w' => ∃ u : Value, x = u ∧ Sat w M0 [.ow u 3 1 (agL l s S).length (ints (chI (agL l s S)))] w' := by
  have hlen : l.runs.length ≤ 40 := hl.len
  have hbd : ∀ k : Nat, 0 ≤ (S : Int) / 2 ^ (k : Int).toNat ∧ (S : Int) / 2 ^ (k : Int).toNat < 9223372036854775808 := fun k => by
    have h1 : (0 : Int) ≤ (S : Int) / 2 ^ (k : Int).toNat := Int.ediv_nonneg (by omega) (Int.pow_nonneg (by omega))
    have h2 : (S : Int) / 2 ^ (k : Int).toNat ≤ S := Int.ediv_le_self _ (by omega)
    omega
  refine q_ofM (Sat.nil w M0) Tryz.func77 rfl (by simp [Tryz.ntmps77]) ?_
  (refine q_seq (q_region ?_))
  refine ql_box rfl rfl (fun b4 => ?_)
  refine ql_box rfl rfl (fun b5 => ?_)
  (refine ql_pure tabOk rfl rfl (q_nil (q_seq (q_region ?_))))
  refine ql_alloc zero48 rfl (fun b7 => ?_)
  (refine q_nil (q_seq (q_seq (q_region ?_))); (iterate 3 refine ql_pure tabOk rfl rfl ?_); refine ql_loadPA tabOk rfl rfl rfl (by assumption) (by rfl) (by rfl) ?_)
  refine ql_call (β := Nat) tabOk [] _ M0 rfl rfl rfl rfl (Sp.refl _) (fun _ h => h.elim) (fun w' hs => shown_ca w' l v) ?_
  rintro bs _ rfl
  dsimp only [List.cons_append, List.nil_append]
  (refine q_nil (q_block ?_))
  refine q_conv (H' := [.ow (.slice none 0 0) 3 1 (agI l s S []).length (ints (chI (agI l s S []))), .pt b7 [.slice none 0 0] 48, .pt b4 [.int .i64 s] 3, .pt b5 [.int .i64 S] 3, .pt bs (lbC l v) 24]) (fun w' hs => (Sat.ownil hs 3 1).sp (by repeat constructor)) ?_
  refine q_range shE (List Nat × Value) (shL l) (fun pre z => z.1 = agI l s S pre) (fun _ _ => False) (fun z => [.ow z.2 3 1 z.1.length (ints (chI z.1)), .pt b7 [z.2] 48]) [.pt b4 [.int .i64 s] 3, .pt b5 [.int .i64 S] 3, .pt bs (lbC l v) 24] ([], .slice none 0 0)
    rfl (by kernel_rfl) rfl (fun _ _ => rfl) rfl (by repeat constructor) ?_ ?_ ?_ (fun _ _ _ h => h.elim)
  · intro w1 D hs hD
    exact shown_it w w1 D lo hi bs l v h ⟨hl.e0, hl.e1⟩ (by have := hl.len; omega) (fun w' hc => hs.chg0.old hc (fun k hk => (hD k hk).2.resolve_left (fun h => h))) (hs.blk (by repeat constructor)) (fun h => (hD _ h).1 ⟨.pt bs (lbC l v) _, (by repeat constructor), rfl⟩)
  · rintro pre ⟨i, p1, p2⟩ post ⟨L, vm⟩ w1 lb rdy bsy K F' hx hB hsat hR hbegin hend hret hexit
    dsimp only at hB hend hexit hbegin ⊢
    have hxm : (i, p1, p2) ∈ shL l := by rw [hx]; simp
    have hxl := shL_in hl _ hxm
    have h8 := hl.s1
    have hLl : L.length ≤ 40 := by
      have h1 := agI_len l s S pre
      have h2 := shL_len l
      rw [hx, List.length_append] at h2
      rw [hB]; omega
    obtain ⟨f, hf⟩ := Int.eq_ofNat_of_zero_le hxl.1
    obtain ⟨g, hg⟩ := Int.eq_ofNat_of_zero_le hxl.2.2.1
    dsimp only at hf hg hxl
    subst hf hg
    have hg8 : g < 8 := by omega
    have hsn := agI_snoc l s S pre (i, (f : Int), (g : Int))
    rw [← hB] at hsn
    dsimp only [shE, List.zip_cons_cons, List.zip_nil_left, List.zip_nil_right, List.foldl_cons, List.foldl_nil]
    (refine q_seq (q_region (ql_pure tabOk rfl rfl (q_nil (q_region ?_)))))
    refine ql_alloc zero86 rfl (fun b12 => ?_)
    (refine ql_setA tabOk rfl rfl rfl rfl rfl (by repeat constructor) rfl ?_; refine q_nil ?_)
    refine q_conv (H' := [rdy, .pt b12 [.int .i64 f, .int .i64 g] 86, .ow vm 3 1 L.length (ints (chI L)), .pt b7 [vm] 48]) (fun w' hs => hs.sp (by repeat constructor)) ?_
    refine hbegin _ _ ?_
    (refine q_block (q_seq (q_region (ql_pure tabOk rfl rfl ?_))); refine ql_loadBa tabOk rfl rfl rfl ?_)
    refine ql_load1 (v := .int .i64 s) tabOk rfl rfl rfl (fun w hs => by rw [Blk.cell ((hR w hs.chg).blk (b := b4) (cs := [.int .i64 s]) (t := 3) (by repeat constructor))]; rfl) ?_
    by_cases hfs : f = s
    · cases hbg : S.testBit g with
      | true =>
        have e : agB s S (i, (f : Int), (g : Int)) = true := by
          unfold agB
          rw [Int.toNat_natCast, Int.toNat_natCast, hbg, decide_eq_true hfs]; rfl
        rw [if_pos e] at hsn
        (refine ql_eqlT tabOk rfl rfl rfl (by omega) (ql_pure tabOk rfl rfl (ql_gyes rfl ?_)))
        refine ql_load1 (v := .int .i64 S) tabOk rfl rfl rfl (fun w hs => by rw [Blk.cell ((hR w hs.chg).blk (b := b5) (cs := [.int .i64 S]) (t := 3) (by repeat constructor))]; rfl) ?_
        (refine ql_gyes rfl (ql_pure tabOk rfl rfl (ql_gyes rfl ?_)); refine ql_loadBa tabOk rfl rfl rfl ?_; refine ql_gyes rfl ?_)
        refine ql_shr rfl rfl rfl (by omega) (by omega) ?_
        (refine ql_gyes rfl ?_)
        refine ql_and1 rfl rfl rfl (hbd _) ?_
        rw [bit_int, hbg, show (((true).toNat : Nat) : Int) = 1 from rfl]
        (refine ql_gyes rfl (ql_eqlT tabOk rfl rfl rfl (by omega) (ql_pure tabOk rfl rfl (q_nil (q_cond_true rfl (q_region ?_))))); refine ql_loadBa tabOk rfl rfl rfl ?_; refine ql_pure tabOk rfl rfl ?_)
        refine ql_mkS 3 [.int .i64 i] rfl (by kernel_rfl) rfl (fun bn => ?_)
        skip
        refine ql_append (q := 1) (news := [.int .i64 i]) slI rfl rfl rfl (fun v' => by repeat constructor) (fun w' hs => ⟨_, _, Blk.rdN (hs.blk (b := bn) (by repeat constructor)) rfl⟩) (by simp [oneV]) (by omega) (by omega) (fun u' => ?_)
        refine ql_fact (fun w' hs => hs.own_one (v := u') (by repeat constructor)) (fun hone => ?_)
        refine ql_store1 tabOk rfl rfl rfl hone (by repeat constructor) (by simp) ?_
        (refine q_nil (q_blk ?_))
        exact hend _ _ (L ++ [i], u') hsn.symm (by dsimp only; rw [List.length_append, List.length_singleton, chI_add]; repeat constructor)
      | false =>
        have e : ¬ agB s S (i, (f : Int), (g : Int)) = true := by
          unfold agB
          rw [Int.toNat_natCast, Int.toNat_natCast, hbg, Bool.and_false]; simp
        rw [if_neg e, List.append_nil] at hsn
        (refine ql_eqlT tabOk rfl rfl rfl (by omega) (ql_pure tabOk rfl rfl (ql_gyes rfl ?_)))
        refine ql_load1 (v := .int .i64 S) tabOk rfl rfl rfl (fun w hs => by rw [Blk.cell ((hR w hs.chg).blk (b := b5) (cs := [.int .i64 S]) (t := 3) (by repeat constructor))]; rfl) ?_
        (refine ql_gyes rfl (ql_pure tabOk rfl rfl (ql_gyes rfl ?_)); refine ql_loadBa tabOk rfl rfl rfl ?_; refine ql_gyes rfl ?_)
        refine ql_shr rfl rfl rfl (by omega) (by omega) ?_
        (refine ql_gyes rfl ?_)
        refine ql_and1 rfl rfl rfl (hbd _) ?_
        rw [bit_int, hbg, show (((false).toNat : Nat) : Int) = 0 from rfl]
        (refine ql_gyes rfl (ql_eqlF tabOk rfl rfl rfl (by omega) (ql_pure tabOk rfl rfl (q_nil (q_cond_false rfl (q_skip (q_blk ?_)))))))
        exact hend _ _ (L, vm) hsn.symm (by repeat constructor)
    · have e : ¬ agB s S (i, (f : Int), (g : Int)) = true := by
        unfold agB
        rw [Int.toNat_natCast, decide_eq_false hfs, Bool.false_and]; simp
      rw [if_neg e, List.append_nil] at hsn
      (refine ql_eqlF tabOk rfl rfl rfl (by omega) (ql_pure tabOk rfl rfl ?_); (iterate 6 refine ql_gno rfl rfl rfl ?_); refine ql_pure tabOk rfl rfl (q_nil (q_cond_false rfl (q_skip (q_blk ?_)))))
      exact hend _ _ (L, vm) hsn.symm (by repeat constructor)
  · rintro D ⟨L, vm⟩ hI
    dsimp only at hI ⊢
    obtain rfl : L = agL l s S := hI
    (refine q_blk (q_seq (q_region ?_)); refine ql_loadBa tabOk rfl rfl rfl ?_; refine ql_pure tabOk rfl rfl (q_nil (q_ret ?_)))
    refine q_finMD tabOk (by repeat constructor) rfl (by repeat constructor) fun w hs => ?_
    exact ⟨vm, rfl, hs.sp (by repeat constructor)⟩
end Go.Proofs.YtcmpdmobmbbplaaGreat

/- slices.Sort of numbers, of any length, by the kit's contract. -/
namespace Go.Proofs.YtcmpdmobmbbplaaGreat
set_option maxRecDepth 4000
open Go Go.Eng
theorem sort_ca (w : World) (g c : Nat) (l : List Int) (hl : l.length ≤ 1000000) (hb : w.ownsRow 0 3 1 (.slice (some ⟨g, 0, none⟩) l.length c) l.length (ints l)) :
    Ca Tryz.prog 78 [.slice (some ⟨g, 0, none⟩) l.length c] w fun v w' => ∃ L : List Int, (v = .tuple #[] ∧ L.Perm l ∧ L.Pairwise (· ≤ ·)) ∧ Sat w (fun x => x = g) [.ow (.slice (some ⟨g, 0, none⟩) l.length c) 3 1 l.length (ints L)] w' := by
  have hs0 := Sat.own0 hb
  obtain ⟨hlen, h2⟩ := hb
  rcases h2 with ⟨h3, _⟩ | ⟨g', cap, cur, h3, h4, h5, h6, h7, h8, h9⟩
  · injection h3 with h3 _ _
    cases h3
  · injection h3 with e1 _ e3
    injection e1 with e1
    injection e1 with e1 _ _
    subst e1 e3
    have hg : g < w.heap.size := (Array.getElem?_eq_some_iff.1 h5).1
    have hcell : ∀ j (hj : j < l.length), cur[j]? = some (.int .i64 l[j]) := fun j hj => by
      have h10 : (cur.toList.take (l.length * 1))[j]? = (ints l)[j]? := by rw [h9]
      rw [List.getElem?_take_of_lt (by omega)] at h10
      rw [← Array.getElem?_toList, h10]
      simp [ints, hj]
    have hH : Go.Sort.Holds (Value.int .i64) w g 0 l.toArray := fun j hj => by
      have hj2 : j < l.length := by simpa using hj
      refine ⟨?_, ?_⟩
      · have h11 : l.toArray[j]! = l[j] := by
          rw [getElem!_pos l.toArray j hj]
          simp
        rw [h11]
        have h12 := hcell j hj2
        simp only [World.cell?, h5, Nat.zero_add]
        simpa using h12
      · simp [World.frozen?, h5]
    have hc := Any.slices_Sort_int lays189 g 0 c l w hH hg (by omega)
    refine Calls.mono (show Calls Tryz.prog 78 _ w _ from hc) ?_
    rintro e w' ⟨rfl, n, os, rfl⟩
    refine ⟨_, rfl, l.mergeSort (fun x y => decide (x ≤ y)), ⟨rfl, List.mergeSort_perm _ _, ?_⟩, ?_⟩
    · have := List.pairwise_mergeSort (le := fun x y : Int => decide (x ≤ y)) (by intro a b c h1 h2; simp at *; omega) (by intro a b; simp; omega) l
      exact this.imp (by intro a b h; simpa using h)
    · have hL : (l.mergeSort (fun x y => decide (x ≤ y))).length = l.length := List.length_mergeSort _
      generalize l.mergeSort (fun x y => decide (x ≤ y)) = L at hL
      have hhp : ∀ k, k < w.heap.size → (Go.Sort.grow (Go.Sort.putRow (Value.int .i64) (Go.Sort.ahead w n) g 0 L.toArray) os).heap[k]? = (w.heap.modify g (Go.Sort.onCells (Go.Sort.putCells (Value.int .i64) 0 L.toArray)))[k]? := fun k hk => by
        show ((w.heap.modify g (Go.Sort.onCells (Go.Sort.putCells (Value.int .i64) 0 L.toArray))) ++ os)[k]? = _
        rw [Array.getElem?_append_left (by simpa using hk)]
      have hgc : (Go.Sort.grow (Go.Sort.putRow (Value.int .i64) (Go.Sort.ahead w n) g 0 L.toArray) os).heap[g]? = some (.cells (Go.Sort.putCells (Value.int .i64) 0 L.toArray cur) 3 (0, 0)) := by
        rw [hhp g hg, Array.getElem?_modify, if_pos rfl, h5]
        rfl
      refine hs0.app (v := .slice (some ⟨g, 0, none⟩) l.length c) (v' := .slice (some ⟨g, 0, none⟩) l.length c) (et := 3) (sz := 1) (m := l.length) (q := l.length) (xs := ints l) (ys := ints L) (by repeat constructor) ⟨rfl, rfl, rfl, ?_, fun k hk hn => ?_⟩ ⟨by simp [ints, hL], .inr ⟨g, c, _, rfl, h4, hgc, h6, h7, ?_, ?_⟩⟩ (fun x hx => .inl hx)
      · show w.heap.size ≤ ((w.heap.modify g _) ++ os).size
        simp
      · rw [hhp k hk, Array.getElem?_modify, if_neg (fun e => hn (by simp [Value.ownBlock, e]))]
      · rw [← h8]
        simp [Go.Sort.putCells]
      · refine List.ext_getElem? fun j => ?_
        by_cases hj : j < l.length
        · have hjL : j < L.length := by omega
          have hjc : j < cur.size := by omega
          rw [List.getElem?_take_of_lt (by omega), Array.getElem?_toList]
          simp [Go.Sort.putCells, ints, hjL, hjc]
        · rw [List.getElem?_eq_none (by rw [List.length_take]; omega), List.getElem?_eq_none (by simp [ints]; omega)]
/-- No number: nothing is done. -/
theorem sort0_ca (w : World) (a : Option Addr) (c : Nat) : Ca Tryz.prog 78 [.slice a 0 c] w fun v w' => v = .tuple #[] ∧ Chg [] w w' :=
  Calls.mono (show Calls Tryz.prog 78 _ w _ from Any.slices_Sort_int_none lays189 a c w) fun e w' ⟨h1, h2⟩ => ⟨_, h1, rfl, by rw [h2]; exact Chg.refl _ _⟩
end Go.Proofs.YtcmpdmobmbbplaaGreat

/- The engine, part B36: shifts and make of a list of numbers in a region that draws. -/
namespace Go.Eng
set_option maxRecDepth 4000
open Go Go.RowKit

section
variable {P : Program} {ro : Cx} {n : Nat} {F : Fin} {w0 : World} {M : Nat → Prop} {k : List It} {ops : Array Oper} {rest : List Oper} {e : Env} {H Hq : List Ck}
theorem qf_shl {d t t' : Nat} {x y : Operand} {a b : Int} {ty : TypeId} {pos : String} {af : Array Edge} (hx : opv e x = some (.int .i64 a)) (hy : opv e y = some (.int .i64 b)) (hd : Nat.blt d n = true) (hb : 0 ≤ b ∧ b < 64) (h1 : -9223372036854775808 ≤ a * 2 ^ b.toNat) (h2 : a * 2 ^ b.toNat < 9223372036854775808)
    (h : QF P ro n F w0 M k ops Hq rest ((d, .int .i64 (a * 2 ^ b.toNat)) :: e) H) : QF P ro n F w0 M k ops Hq (⟨some d, .binOp .shl t x y t', ty, pos, af, none⟩ :: rest) e H := .mk fun w hw =>
  yf_quiet rfl hd (fun a' hf w' _ => by
    have e1 := hf.op hx
    have e2 := hf.op hy
    simp only [execOp, e1, e2]
    have := run_shl (P := P) hb h1 h2 w'
    simp [eqGuard, binOp, this]
    exact w64 h1 h2) (h.h w hw)
theorem qf_makeI {d t et m : Nat} {x y : Operand} {ty : TypeId} {pos : String} {af : Array Edge} (hS : SlT P t et 1 8 (.int .i64 0)) (hx : opv e x = some (.int .i64 m)) (hy : opv e y = some (.int .i64 m)) (hd : Nat.blt d n = true) (hm : m ≤ 1000000)
    (h : ∀ b, QF P ro n F w0 M k ops Hq rest ((d, .slice (some ⟨b, 0, none⟩) m m) :: e) (.pt b (ints (List.replicate m 0)) et :: H)) :
    QF P ro n F w0 M k ops Hq (⟨some d, .makeSlice t x y, ty, pos, af, none⟩ :: rest) e H := .mk fun w hs => by
  obtain ⟨ht, hi', hzs, hsz⟩ := hS
  cases hinf : P.info? et with
  | none => simp [hinf] at hi'
  | some i =>
    simp [hinf] at hi'
    obtain ⟨hz, hsize, hby⟩ := hi'
    have hr := run_makeSlice (P := P) w t et i _ ht hinf hz .i64 .i64 m m (by omega) (Int.le_refl _) (by rw [hsize]; simp; omega) (by rw [hby]; omega) (by omega)
    have hcells : (madeCells (Value.int .i64 0).cells ((m : Int).toNat * i.size)) = (ints (List.replicate m 0)).toArray := by
      apply Array.ext'
      rw [hsize, show (Value.int .i64 0).cells = #[Value.int .i64 0] from rfl, toList_madeCells_one]
      simp
    rw [hcells] at hr
    have hs' : Sat w0 M ((.pt w.heap.size (ints (List.replicate m 0)) et :: H) ++ Hq) (w.alloc (.cells (ints (List.replicate m 0)).toArray et)) := hs.addPt (alloc_chg _ _) (by simp) (alloc_blk w _ _)
    refine yf_eff (w' := w.alloc (.cells (ints (List.replicate m 0)).toArray et)) rfl hd (fun ac hf => ?_) hs'.right ((h w.heap.size).h _ hs')
    simp only [execOp, hf.op hx, hf.op hy]
    simp [hr]
end
end Go.Eng

/- Walks: the fewest runs that are to be dropped. -/
namespace Go.Proofs.YtcmpdmobmbbplaaGreat
set_option maxRecDepth 4000
open Go Go.Eng
theorem dpStep_le (l : Lb) (F : Nat → Nat × Nat) (S : Nat) (p : Nat × Nat) (s : Nat) : (dpStep l F S p s).1 ≤ p.1 := by
  unfold dpStep
  split
  · split
    · simp only; omega
    · exact Nat.le_refl _
  · exact Nat.le_refl _
theorem dpPart_bd (l : Lb) (n S : Nat) : ∀ j, (dpPart l n S j).1 ≤ 41 ∧ (dpPart l n S j).2 ≤ j
  | 0 => ⟨Nat.le_refl _, Nat.le_refl _⟩
  | j + 1 => by
    have ih := dpPart_bd l n S j
    rw [dpPart_succ]
    refine ⟨Nat.le_trans (dpStep_le _ _ _ _ _) ih.1, ?_⟩
    unfold dpStep
    split
    · split
      · simp
      · omega
    · omega
theorem dp_part {l : Lb} {n S : Nat} (h : S ≠ 0) : dpPart l n S n = dp l n S := (dp_eq h).symm
theorem dp_bd (l : Lb) (n S : Nat) : (dp l n S).1 ≤ 41 ∧ (dp l n S).2 ≤ n := by
  by_cases h : S = 0
  · subst h; rw [dp_zero]; exact ⟨by omega, by omega⟩
  · rw [← dp_part h]; exact dpPart_bd l n S n
def fwL (l : Lb) (n S : Nat) : List Int := (List.range (2 ^ n)).map fun T => if T < S then ((dp l n T).1 : Int) else 0
def lsL (l : Lb) (n S : Nat) : List Int := (List.range (2 ^ n)).map fun T => if T < S then ((dp l n T).2 : Int) else 0
section
variable {l : Lb} {n S : Nat}
theorem fw_len (l : Lb) (n S : Nat) : (fwL l n S).length = 2 ^ n := by simp [fwL]
theorem ls_len (l : Lb) (n S : Nat) : (lsL l n S).length = 2 ^ n := by simp [lsL]
theorem fw_next (h : S < 2 ^ n) : (fwL l n S).set S ((dp l n S).1 : Int) = fwL l n (S + 1) := by
  refine List.ext_getElem (by simp [fwL]) fun T h1 h2 => ?_
  rw [List.getElem_set]
  simp only [fwL, List.getElem_map, List.getElem_range]
  by_cases e : S = T
  · subst e; rw [if_pos rfl, if_pos (by omega)]
  · rw [if_neg e]
    by_cases h3 : T < S
    · rw [if_pos h3, if_pos (by omega)]
    · rw [if_neg h3, if_neg (by omega)]
theorem ls_next (h : S < 2 ^ n) : (lsL l n S).set S ((dp l n S).2 : Int) = lsL l n (S + 1) := by
  refine List.ext_getElem (by simp [lsL]) fun T h1 h2 => ?_
  rw [List.getElem_set]
  simp only [lsL, List.getElem_map, List.getElem_range]
  by_cases e : S = T
  · subst e; rw [if_pos rfl, if_pos (by omega)]
  · rw [if_neg e]
    by_cases h3 : T < S
    · rw [if_pos h3, if_pos (by omega)]
    · rw [if_neg h3, if_neg (by omega)]
theorem ls_same : lsL l n S = (lsL l n S).set S 0 := by
  refine List.ext_getElem (by simp) fun T h1 h2 => ?_
  rw [List.getElem_set]
  by_cases e : S = T
  · subst e; rw [if_pos rfl]; simp [lsL]
  · rw [if_neg e]
theorem fw_one : List.replicate (2 ^ n) 0 = fwL l n 1 := by
  refine List.ext_getElem (by simp [fwL]) fun T h1 h2 => ?_
  simp only [fwL, List.getElem_map, List.getElem_range, List.getElem_replicate]
  split
  · obtain rfl : T = 0 := by omega
    rw [dp_zero]; rfl
  · rfl
theorem ls_one : List.replicate (2 ^ n) 0 = lsL l n 1 := by
  refine List.ext_getElem (by simp [lsL]) fun T h1 h2 => ?_
  simp only [lsL, List.getElem_map, List.getElem_range, List.getElem_replicate]
  split
  · obtain rfl : T = 0 := by omega
    rw [dp_zero]; rfl
  · rfl
theorem fw_at {T : Nat} {x : Int} (h : T < S) (hS : S < 2 ^ n) (h2 : T < ((fwL l n S).set S x).length) : ((fwL l n S).set S x)[T] = ((dp l n T).1 : Int) := by
  rw [List.getElem_set, if_neg (by omega)]
  simp [fwL, h]
theorem fw_self {x : Int} (h2 : S < ((fwL l n S).set S x).length) : ((fwL l n S).set S x)[S] = x := by
  rw [List.getElem_set, if_pos rfl]
theorem ls_at {T : Nat} (h : T < S) (h2 : T < (lsL l n S).length) : (lsL l n S)[T] = ((dp l n T).2 : Int) := by
  simp [lsL, h]
/-- One step of the way back. -/
theorem bt_step (h40 : l.runs.length ≤ 40) {R : List Nat} (hn : R.Nodup) (hr : ∀ s ∈ R, s < n) (h0 : bitL R ≠ 0) : (bitL R).testBit (dp l n (bitL R)).2 = true ∧ (dp l n (bitL R)).2 < n ∧ ∃ R' : List Nat, R'.Nodup ∧ (∀ s ∈ R', s < n) ∧ bitL R ^^^ 2 ^ (dp l n (bitL R)).2 = bitL R' ∧ R.length = R'.length + 1 ∧ btF l n R.length (bitL R) = agL l (dp l n (bitL R)).2 (bitL R') ++ btF l n R'.length (bitL R') := by
  have hI := dp_is (l := l) (n := n) h0
  have hle : (dp l n (bitL R)).1 ≤ 40 := by
    have h1 := dp_le (l := l) R hn hr
    have h2 := dropR_len (l := l) hn
    omega
  rcases hI.at_ with h | ⟨h1, h2, h3⟩
  · rw [h] at hle; simp at hle
  · have hm : (dp l n (bitL R)).2 ∈ R := by rw [bit_mem] at h2; exact of_decide_eq_true h2
    have hp := List.perm_cons_erase hm
    have hn2 := hp.nodup_iff.1 hn
    obtain ⟨h4, h5⟩ := List.nodup_cons.1 hn2
    have he : bitL R = bitL ((dp l n (bitL R)).2 :: R.erase (dp l n (bitL R)).2) := bitL_ext fun t => hp.mem_iff
    have he2 : bitL R ^^^ 2 ^ (dp l n (bitL R)).2 = bitL (R.erase (dp l n (bitL R)).2) := by
      conv => lhs; arg 1; rw [he]
      exact bitL_cons h4
    have hl : R.length = (R.erase (dp l n (bitL R)).2).length + 1 := by
      have := List.length_pos_of_mem hm
      rw [List.length_erase_of_mem hm]; omega
    refine ⟨h2, h1, _, h5, fun s hs => hr s (List.mem_of_mem_erase hs), he2, hl, ?_⟩
    conv => lhs; rw [hl, btF, if_neg h0, he2]
theorem bt_zero {R : List Nat} (h0 : bitL R = 0) : R = [] := by
  cases R with
  | nil => rfl
  | cons x R =>
    have := bit_mem x (x :: R)
    rw [h0] at this
    simp at this
end
end Go.Proofs.YtcmpdmobmbbplaaGreat

/- Walks: the fewest runs that are to be dropped. -/
namespace Go.Proofs.YtcmpdmobmbbplaaGreat
set_option maxRecDepth 4000
open Go Go.Eng
theorem drop_no (w : World) (lo hi : Nat) (l : Lb) (v : Value) (h : RdR w lo hi v l.runs) (hlen : l.runs.length ≤ maxLen) (hc0 : checkV l ≠ 0) : Ca Tryz.prog 26 [.agg (lbC l v).toArray] w fun x w' => x = .tuple #[.slice none 0 0, .int .i64 (checkV l)] ∧ Chg [] w w' := by
  refine q_of (Sat.nil w M0) Tryz.func26 rfl (by simp [Tryz.ntmps26]) ?_
  (refine q_seq (q_region ?_))
  refine ql_box rfl rfl (fun b1 => ?_)
  rw [agg_cells]
  (refine ql_pure tabOk rfl rfl (ql_pure tabOk rfl rfl (q_nil (q_seq (q_region ?_)))); refine ql_loadABa tabOk rfl rfl rfl ?_)
  refine ql_callv (val := .tuple #[.pointer none, .int .i64 (checkV l)]) tabOk rfl rfl rfl rfl (fun w hs => ?_) ?_; exact asked_no w lo hi l v (RdE.keep h hs.chg0) hlen hc0
  (refine ql_pure tabOk rfl rfl (ql_ext tabOk rfl rfl rfl (ql_ext tabOk rfl rfl rfl (ql_pure tabOk rfl rfl (ql_pure tabOk rfl rfl (q_nil (q_seq (q_seq (q_region (ql_pure tabOk rfl rfl (ql_neqT tabOk rfl rfl rfl (by omega) (q_nil ?_))))))))))); refine q_cond_true rfl (q_seq (q_region ?_)); (iterate 3 refine ql_pure tabOk rfl rfl ?_); refine q_nil (q_ret ?_))
  refine q_fin tabOk rfl (by repeat constructor) fun w hs => ?_
  exact ⟨rfl, hs.chg0⟩
def tK47_d76cc7a : OT := .alt (chainT [0, 1, 2, 3, 4, 5, 6, 7, 8, 9, 10, 11, 12, 13, 14, 15] (.nil)) (chainT [7, 8, 9, 10, 11, 12, 13, 0, 1, 2, 3, 4, 5, 6, 14, 15] (.nil))
set_option maxHeartbeats 4000000 in
theorem drop_ok (w : World) (lo hi : Nat) (l : Lb) (v : Value) (h : RdR w lo hi v l.runs) (hl : l.Ok) :
    Ca Tryz.prog 26 [.agg (lbC l v).toArray] w fun x w' => ∃ y : Value × List Nat, (x = .tuple #[y.1, .int .i64 0] ∧ DropP l y.2) ∧ Sat w M0 [.ow y.1 3 1 y.2.length (ints (chI y.2))] w' := by
  have hdp := fun d hp hs => drop_says hl (d := d) hp hs
  obtain ⟨n, en, hn', h8, h1⟩ := hl.nat
  have h40 := hl.len
  have hp : 2 ^ n ≤ 256 := Nat.pow_le_pow_right (n := 2) (j := 8) (by omega) h8
  have hp1 : 2 ≤ 2 ^ n := Nat.pow_le_pow_right (n := 2) (i := 1) (by omega) h1
  have ep : (2 : Int) ^ n = ((2 ^ n : Nat) : Int) := by norm_cast
  have hbt : (btF l n n (2 ^ n - 1)).length ≤ 40 ∧ ∀ x ∈ btF l n n (2 ^ n - 1), x < l.runs.length := by
    obtain ⟨R, g1, g2, g3⟩ := bt_is (l := l) (n := n) h40 (List.range n) List.nodup_range (fun s h => List.mem_range.1 h)
    rw [List.length_range, bitL_all (n := n) (fun t => List.mem_range)] at g2
    rw [g2]
    have := dropR_len (l := l) (g1.nodup_iff.2 List.nodup_range)
    exact ⟨by omega, fun x hx => dropR_lt hx⟩
  rw [hn'] at hdp
  generalize hF : btF l n n (2 ^ n - 1) = Full at hbt hdp
  refine q_of (Sat.nil w M0) Tryz.func26 rfl (by simp [Tryz.ntmps26]) ?_
  (refine q_seq (q_region ?_))
  refine ql_box rfl rfl (fun b1 => ?_)
  rw [agg_cells]
  (refine ql_pure tabOk rfl rfl (ql_pure tabOk rfl rfl (q_nil (q_seq (q_region ?_)))); refine ql_loadABa tabOk rfl rfl rfl ?_)
  refine ql_call (β := Nat) tabOk [] _ M0 rfl rfl rfl rfl (Sp.refl _) (fun _ h => h.elim) (fun w' hs => asked_ok w' lo hi l v (RdE.keep h hs.chg0) hl) ?_
  rintro b _ rfl
  dsimp only [List.cons_append, List.nil_append]
  (refine ql_pure tabOk rfl rfl (ql_ext tabOk rfl rfl rfl (ql_ext tabOk rfl rfl rfl (ql_pure tabOk rfl rfl (ql_pure tabOk rfl rfl (q_nil (q_seq (q_seq (q_region (ql_pure tabOk rfl rfl (ql_neqF tabOk rfl rfl rfl (by omega) (q_nil ?_))))))))))); refine q_cond_false rfl (q_skip (q_seq ?_)))
  generalize hN : 2 ^ n = N at *
  refine q_cut (σ := Nat × Nat) (fun z => [(4, .pointer (some ⟨b, 0, none⟩)), (6, .slice (some ⟨z.1, 0, none⟩) N N), (7, .slice (some ⟨z.2, 0, none⟩) N N)]) (fun z => [.pt z.1 (ints (List.replicate N 0)) 3, .pt z.2 (ints (List.replicate N 0)) 3, .pt b (dkC l v l.ord) 122]) ?_ ?_
  rotate_left
  · intro K2 hK2
    refine q_drawT (tK47_d76cc7a) _ [] (Sp.refl _) (by kernel_rfl) (by kernel_rfl) ?_
    refine qt_alt ?_ ?_
    · skip
      refine qt_seg (by repeat (first | exact PickL.nil | (apply PickL.cons; rfl))) fun K1 hK1 => ?_
      ((iterate 4 refine qf_pure tabOk rfl rfl rfl ?_); refine qf_loadBa tabOk rfl rfl rfl ?_)
      rw [en]
      refine qf_shl rfl rfl rfl (by omega) (by rw [Int.toNat_natCast, ep]; omega) (by rw [Int.toNat_natCast, ep]; omega) ?_
      rw [Int.toNat_natCast, ep, Int.one_mul]
      skip
      refine qf_makeI slI rfl rfl rfl (by omega) (fun b6 => ?_)
      ((iterate 4 refine qf_pure tabOk rfl rfl rfl ?_); refine qf_loadBa tabOk rfl rfl rfl ?_)
      rw [en]
      refine qf_shl rfl rfl rfl (by omega) (by rw [Int.toNat_natCast, ep]; omega) (by rw [Int.toNat_natCast, ep]; omega) ?_
      rw [Int.toNat_natCast, ep, Int.one_mul]
      skip
      refine qf_makeI slI rfl rfl rfl (by omega) (fun b7 => ?_)
      (refine qf_pure tabOk rfl rfl rfl (qf_pure tabOk rfl rfl rfl (qf_nil ?_)))
      skip
      exact hK1 _ _ (qt_nil (hK2 (b6, b7) _ _ ⟨rfl, rfl, rfl, trivial⟩ (by repeat constructor)))
    · skip
      refine qt_seg (by repeat (first | exact PickL.nil | (apply PickL.cons; rfl))) fun K1 hK1 => ?_
      ((iterate 4 refine qf_pure tabOk rfl rfl rfl ?_); refine qf_loadBa tabOk rfl rfl rfl ?_)
      rw [en]
      refine qf_shl rfl rfl rfl (by omega) (by rw [Int.toNat_natCast, ep]; omega) (by rw [Int.toNat_natCast, ep]; omega) ?_
      rw [Int.toNat_natCast, ep, Int.one_mul]
      skip
      refine qf_makeI slI rfl rfl rfl (by omega) (fun b7 => ?_)
      ((iterate 4 refine qf_pure tabOk rfl rfl rfl ?_); refine qf_loadBa tabOk rfl rfl rfl ?_)
      rw [en]
      refine qf_shl rfl rfl rfl (by omega) (by rw [Int.toNat_natCast, ep]; omega) (by rw [Int.toNat_natCast, ep]; omega) ?_
      rw [Int.toNat_natCast, ep, Int.one_mul]
      skip
      refine qf_makeI slI rfl rfl rfl (by omega) (fun b6 => ?_)
      (refine qf_pure tabOk rfl rfl rfl (qf_pure tabOk rfl rfl rfl (qf_nil ?_)))
      skip
      exact hK1 _ _ (qt_nil (hK2 (b6, b7) _ _ ⟨rfl, rfl, rfl, trivial⟩ (by repeat constructor)))
  rintro ⟨b6, b7⟩
  dsimp only
  have e1 : List.replicate N 0 = fwL l n 1 := by rw [← hN]; exact fw_one
  have e2 : List.replicate N 0 = lsL l n 1 := by rw [← hN]; exact ls_one
  refine q_conv (H' := [.pt b6 (ints (fwL l n 1)) 3, .pt b7 (ints (lsL l n 1)) 3, .pt b (dkC l v l.ord) 122]) (fun w' hs => by rw [← e1, ← e2]; exact hs) ?_
  have lfw : ∀ S, (fwL l n S).length = N := fun S => by rw [fw_len, hN]
  have lls : ∀ S, (lsL l n S).length = N := fun S => by rw [ls_len, hN]
  have sh1 : ∀ k : Nat, (1 : Int) * 2 ^ (k : Int).toNat = ((2 ^ k : Nat) : Int) := fun k => by rw [Int.one_mul, Int.toNat_natCast]; norm_cast
  (refine q_seq (q_seq (q_region (ql_pure tabOk rfl rfl (q_nil (q_block ?_))))))
  refine q_loop (σ := Nat) (fun S => 1 ≤ S ∧ S ≤ N) (fun S => N - S) (fun S => [(4, .pointer (some ⟨b, 0, none⟩)), (6, .slice (some ⟨b6, 0, none⟩) N N), (7, .slice (some ⟨b7, 0, none⟩) N N), (8, .int .i64 S)]) (fun S => [.pt b6 (ints (fwL l n S)) 3, .pt b7 (ints (lsL l n S)) 3, .pt b (dkC l v l.ord) 122]) 1 (by omega) ⟨rfl, rfl, rfl, rfl, trivial⟩ (by repeat constructor) ?_
  rintro S ⟨hS1, hS⟩ K hK
  (refine q_seq (q_seq (q_region ?_)); (iterate 4 refine ql_pure tabOk rfl rfl ?_); refine q_nil ?_)
  refine q_if rfl (fun hc => ?_) (fun hc => ?_)
  · have hS2 : S < N := by omega
    have hSn : S < 2 ^ n := by rw [hN]; exact hS2
    clear hc
    (refine q_skip (q_seq (q_block (q_seq (q_region (ql_pure tabOk rfl rfl (ql_pure tabOk rfl rfl ?_)))))))
    have hiS : S < (fwL l n S).length := by rw [lfw]; exact hS2
    refine ql_index tabOk rfl rfl rfl rfl rfl (by omega) (by omega) ?_
    refine ql_storeI tabOk (S) rfl rfl rfl (by repeat constructor) (by first | rfl | omega | simp) hiS ?_
    rw [ls_same]
    (refine q_nil (q_seq (q_region ?_)); (iterate 4 refine ql_pure tabOk rfl rfl ?_); refine ql_loadBa tabOk rfl rfl rfl ?_; refine ql_pure tabOk rfl rfl (q_nil (q_block ?_)))
    rw [en]
    refine q_loop (σ := Nat) (fun j => j ≤ n) (fun j => n - j) (fun j => [(4, .pointer (some ⟨b, 0, none⟩)), (6, .slice (some ⟨b6, 0, none⟩) N N), (7, .slice (some ⟨b7, 0, none⟩) N N), (8, .int .i64 S), (50, .int .i64 n), (51, .int .i64 j)]) (fun j => [.pt b6 (ints ((fwL l n S).set S ((dpPart l n S j).1 : Nat))) 3, .pt b7 (ints ((lsL l n S).set S ((dpPart l n S j).2 : Nat))) 3, .pt b (dkC l v l.ord) 122]) 0 (by omega) ⟨rfl, rfl, rfl, rfl, rfl, rfl, trivial⟩ (by repeat constructor) ?_
    rintro j hj K2 hK2
    (refine q_seq (q_region (ql_pure tabOk rfl rfl (q_nil (q_seq ?_)))))
    refine q_if rfl (fun hc => ?_) (fun hc => ?_)
    · have hj2 : j < n := by omega
      clear hc
      have hpow : (2 : Nat) ^ j ≤ 128 := by have := Nat.pow_le_pow_right (show 0 < 2 by omega) (show j ≤ 7 by omega); simpa using this
      have hpb := dpPart_bd l n S j
      have hsu := dpPart_succ l n S j
      have hi1 : S < ((fwL l n S).set S ((dpPart l n S j).1 : Nat)).length := by rw [List.length_set]; exact hiS
      have hi2 : S < ((lsL l n S).set S ((dpPart l n S j).2 : Nat)).length := by rw [List.length_set, lls]; exact hS2
      obtain ⟨pk, hpk⟩ : ∃ p, p = 2 ^ j := ⟨_, rfl⟩
      have sh2 : (1 : Int) * 2 ^ (j : Int).toNat = (pk : Int) := by rw [sh1, hpk]
      rw [← hpk] at hpow
      (refine q_skip (q_seq (q_block (q_seq (q_region (ql_pure tabOk rfl rfl (ql_pure tabOk rfl rfl (q_nil (q_seq (q_region (ql_pure tabOk rfl rfl (ql_pure tabOk rfl rfl ?_))))))))))))
      refine ql_shl rfl rfl rfl (by omega) (by rw [sh2]; omega) (by rw [sh2]; omega) ?_
      rw [sh2]
      skip
      refine ql_delB (s := j) rfl rfl (by rw [hpk]) rfl (by omega) (by omega) ?_
      by_cases hb : S.testBit j = true
      · have hx := xor_lt hb
        have ed : delB S j = S ^^^ 2 ^ j := if_pos hb
        rw [ed]
        obtain ⟨T, hT⟩ : ∃ T, T = S ^^^ 2 ^ j := ⟨_, rfl⟩
        rw [← hT] at hx ⊢
        have hdT := dp_bd l n T
        have hst : dpPart l n S (j + 1) = if (dp l n T).1 + (agL l j T).length < (dpPart l n S j).1 then ((dp l n T).1 + (agL l j T).length, j) else dpPart l n S j := by
          rw [hsu]
          unfold dpStep
          rw [if_pos hb, ← hT]
        have hag : (agL l j T).length ≤ 40 := by
          have g1 := agI_len l j T (shL l)
          have g2 := shL_len l
          have g3 : agI l j T (shL l) = agL l j T := rfl
          rw [g3] at g1
          omega
        have hiT : T < ((fwL l n S).set S ((dpPart l n S j).1 : Nat)).length := by rw [List.length_set, lfw]; omega
        (refine ql_pure tabOk rfl rfl (q_nil (q_seq (q_region (ql_pure tabOk rfl rfl (ql_pure tabOk rfl rfl (ql_neqT tabOk rfl rfl rfl (by omega) (q_nil (q_cond_true rfl (q_seq ?_))))))))))
        refine q_draw _ [] (Sp.refl _) (by kernel_rfl) (by kernel_rfl) ?_
        (refine qf_pure tabOk rfl rfl rfl (qf_pure tabOk rfl rfl rfl ?_))
        refine qf_index tabOk rfl rfl rfl rfl rfl (by omega) (by omega) ?_
        refine qf_loadI tabOk (T) rfl rfl rfl (by repeat constructor) (by first | rfl | omega | simp) hiT ?_
        rw [fw_at hx hSn]
        ((iterate 3 refine qf_pure tabOk rfl rfl rfl ?_))
        refine qf_call (β := Value) tabOk [] _ M0 rfl rfl rfl rfl (Sp.refl _) (fun _ h => h.elim) (fun w' hs => against_ca w' b lo hi l v l.ord 122 (hs.blk (by repeat constructor)) (RdE.keep h hs.chg0) hl j T (by omega) (by omega)) ?_
        rintro _ u rfl
        dsimp only [List.cons_append, List.nil_append]
        refine qf_fact (fun w hs => hs.slice2 (v := u) (by repeat constructor)) ?_
        rintro ⟨ua, uc, rfl⟩
        (refine qf_pure tabOk rfl rfl rfl (qf_ar tabOk rfl rfl rfl rfl (by omega) (by omega) (qf_pure tabOk rfl rfl rfl (qf_nil (q_seq (q_region ?_))))); (iterate 3 refine ql_pure tabOk rfl rfl ?_))
        refine ql_index tabOk rfl rfl rfl rfl rfl (by omega) (by omega) ?_
        refine ql_loadI tabOk (S) rfl rfl rfl (by repeat constructor) (by first | rfl | omega | simp) hi1 ?_
        rw [fw_self]
        by_cases hlt : (dp l n T).1 + (agL l j T).length < (dpPart l n S j).1
        · rw [if_pos hlt] at hst
          (refine ql_lssT tabOk rfl rfl rfl (by omega) (q_nil (q_cond_true rfl (q_region ?_))); (iterate 6 refine ql_pure tabOk rfl rfl ?_))
          refine ql_index tabOk rfl rfl rfl rfl rfl (by omega) (by omega) ?_
          refine ql_storeI tabOk (S) rfl rfl rfl (by repeat constructor) (by first | rfl | omega | simp) hi1 ?_
          skip
          refine ql_index tabOk rfl rfl rfl rfl rfl (by omega) (by omega) ?_
          refine ql_storeI tabOk (S) rfl rfl rfl (by repeat constructor) (by first | rfl | omega | simp) hi2 ?_
          rw [List.set_set, List.set_set]
          (refine q_nil (q_blk (q_region (ql_ar tabOk rfl rfl rfl rfl (by omega) (by omega) (ql_pure tabOk rfl rfl (q_nil ?_))))))
          exact hK2 (j + 1) _ _ (by omega) (by omega) ⟨rfl, rfl, rfl, rfl, rfl, rfl, trivial⟩ (by rw [hst]; repeat constructor)
        · rw [if_neg hlt] at hst
          (refine ql_lssF tabOk rfl rfl rfl (by omega) (q_nil (q_cond_false rfl (q_skip (q_blk (q_region (ql_ar tabOk rfl rfl rfl rfl (by omega) (by omega) (ql_pure tabOk rfl rfl (q_nil ?_)))))))))
          exact hK2 (j + 1) _ _ (by omega) (by omega) ⟨rfl, rfl, rfl, rfl, rfl, rfl, trivial⟩ (by rw [hst]; repeat constructor)
      · have ed : delB S j = S := if_neg hb
        have hst : dpPart l n S (j + 1) = dpPart l n S j := by
          rw [hsu]
          unfold dpStep
          rw [if_neg hb]
        rw [ed]
        (refine ql_pure tabOk rfl rfl (q_nil (q_seq (q_region (ql_pure tabOk rfl rfl (ql_pure tabOk rfl rfl (ql_neqF tabOk rfl rfl rfl (by omega) (q_nil (q_cond_false rfl (q_skip (q_blk (q_region ?_))))))))))); refine ql_ar tabOk rfl rfl rfl rfl (by omega) (by omega) (ql_pure tabOk rfl rfl (q_nil ?_)))
        exact hK2 (j + 1) _ _ (by omega) (by omega) ⟨rfl, rfl, rfl, rfl, rfl, rfl, trivial⟩ (by rw [hst]; repeat constructor)
    · obtain rfl : n = j := by omega
      clear hc hK2 hj
      rw [dp_part (by omega), fw_next hSn, ls_next hSn]
      (refine q_exit _ rfl (q_blk (q_region (ql_pure tabOk rfl rfl (ql_ar tabOk rfl rfl rfl rfl (by omega) (by omega) (ql_pure tabOk rfl rfl (q_nil ?_)))))))
      exact hK (S + 1) _ _ (by omega) (by omega) ⟨rfl, rfl, rfl, rfl, trivial⟩ (by repeat constructor)
  · obtain rfl : N = S := by omega
    clear hc hK
    have hbf : bitL (List.range n) = N - 1 := by rw [bitL_all (n := n) (fun t => List.mem_range), hN]
    (refine q_exit _ rfl (q_seq (q_region (ql_pure tabOk rfl rfl (q_nil (q_seq (q_seq (q_region (ql_pure tabOk rfl rfl (ql_pure tabOk rfl rfl (ql_ar tabOk rfl rfl rfl rfl (by omega) (by omega) (ql_pure tabOk rfl rfl ?_))))))))))); refine q_nil (q_block ?_))
    refine q_conv (H' := [.ow (.slice none 0 0) 3 1 ([] : List Nat).length (ints (chI [])), .pt b7 (ints (lsL l n N)) 3, .pt b (dkC l v l.ord) 122]) (fun w' hs => (Sat.ownil hs 3 1).sp (by repeat constructor)) ?_
    refine q_loop (σ := List Nat × List Nat × Value) (fun z => z.1.Nodup ∧ (∀ s ∈ z.1, s < n) ∧ z.2.1 ++ btF l n z.1.length (bitL z.1) = Full) (fun z => z.1.length) (fun z => [(4, .pointer (some ⟨b, 0, none⟩)), (7, .slice (some ⟨b7, 0, none⟩) N N), (12, z.2.2), (13, .int .i64 (bitL z.1 : Nat))]) (fun z => [.ow z.2.2 3 1 z.2.1.length (ints (chI z.2.1)), .pt b7 (ints (lsL l n N)) 3, .pt b (dkC l v l.ord) 122]) (List.range n, [], .slice none 0 0) ⟨List.nodup_range, fun s h => List.mem_range.1 h, by rw [List.length_range, hbf]; exact hF⟩ ⟨rfl, rfl, rfl, by rw [hbf]; exact congrArg (fun z => some (Value.int IntKind.i64 z)) (by omega), trivial⟩ (by repeat constructor) ?_
    rintro ⟨R, out, u⟩ ⟨hR1, hR2, hR3⟩ K hK
    dsimp only at hR1 hR2 hR3 hK ⊢
    have hbR : bitL R < N := by
      rw [← hN]
      refine Nat.lt_pow_two_of_testBit _ fun i hi => ?_
      rw [bit_mem]
      exact decide_eq_false fun hm => by have := hR2 i hm; omega
    have hol : out.length ≤ 40 := by
      have h9 := hbt.1
      rw [← hR3, List.length_append] at h9
      omega
    (refine q_seq (q_seq (q_region (ql_pure tabOk rfl rfl (ql_pure tabOk rfl rfl (q_nil ?_))))))
    refine q_if rfl (fun hc => ?_) (fun hc => ?_)
    · have h0 : bitL R ≠ 0 := by omega
      clear hc
      obtain ⟨g1, g2, R', g3, g4, g5, g6, g7⟩ := bt_step (l := l) (n := n) h40 hR1 hR2 h0
      obtain ⟨S, hSR⟩ : ∃ S, S = bitL R := ⟨_, rfl⟩
      rw [← hSR] at g1 g2 g5 g7 hbR hR3 ⊢
      obtain ⟨s, hs'⟩ : ∃ s, s = (dp l n S).2 := ⟨_, rfl⟩
      have hpow : (2 : Nat) ^ s ≤ 128 := by have := Nat.pow_le_pow_right (show 0 < 2 by omega) (show s ≤ 7 by omega); simpa using this
      rw [← hs'] at g1 g2 g5 g7
      have hiS : S < (lsL l n N).length := by rw [lls]; exact hbR
      have hxl := xor_lt g1
      rw [g5] at hxl
      (refine q_skip (q_block (q_seq (q_region (ql_pure tabOk rfl rfl (ql_pure tabOk rfl rfl ?_))))))
      refine ql_index tabOk rfl rfl rfl rfl rfl (by omega) (by omega) ?_
      refine ql_loadI tabOk (S) rfl rfl rfl (by repeat constructor) (by first | rfl | omega | simp) hiS ?_
      rw [ls_at hbR, ← hs']
      obtain ⟨pk, hpk⟩ : ∃ p, p = 2 ^ s := ⟨_, rfl⟩
      have sh2 : (1 : Int) * 2 ^ (s : Int).toNat = (pk : Int) := by rw [sh1, hpk]
      rw [← hpk] at hpow
      (refine ql_pure tabOk rfl rfl (q_nil (q_seq (q_region (ql_pure tabOk rfl rfl (ql_pure tabOk rfl rfl ?_))))))
      refine ql_shl rfl rfl rfl (by omega) (by rw [sh2]; omega) (by rw [sh2]; omega) ?_
      rw [sh2]
      skip
      refine ql_delB (s := s) rfl rfl (by rw [hpk]) rfl (by omega) (by omega) ?_
      rw [show delB S s = bitL R' from (if_pos g1).trans g5]
      have hag : (agL l s (bitL R')).length ≤ 40 := by
        have g1 := agI_len l s (bitL R') (shL l)
        have g2 := shL_len l
        have g3 : agI l s (bitL R') (shL l) = agL l s (bitL R') := rfl
        rw [g3] at g1
        omega
      (refine ql_pure tabOk rfl rfl (q_nil (q_region ?_)); (iterate 4 refine ql_pure tabOk rfl rfl ?_))
      refine ql_call (β := Value) tabOk [] _ M0 rfl rfl rfl rfl (Sp.refl _) (fun _ h => h.elim) (fun w' hs => against_ca w' b lo hi l v l.ord 122 (hs.blk (by repeat constructor)) (RdE.keep h hs.chg0) hl s (bitL R') (by omega) (by omega)) ?_
      rintro _ u2 rfl
      dsimp only [List.cons_append, List.nil_append]
      skip
      refine ql_append (q := (agL l s (bitL R')).length) (news := ints (chI (agL l s (bitL R')))) slI rfl rfl rfl (fun v' => by repeat constructor) (fun w' hs => ⟨_, _, by have := (own_rdI (t := 3) (hs.mem (c := .ow u2 3 1 (agL l s (bitL R')).length (ints (chI (agL l s (bitL R'))))) (by repeat constructor)) (by rw [chI_len])).row; rw [chI_len] at this; exact this⟩) (by simp [ints, oneV]) (by omega) (by omega) (fun u' => ?_)
      (refine ql_pure tabOk rfl rfl (q_nil (q_blk ?_)))
      exact hK (R', out ++ agL l s (bitL R'), u') _ _ ⟨g3, g4, by rw [List.append_assoc, ← g7]; exact hR3⟩ (by dsimp only; omega) ⟨rfl, rfl, rfl, rfl, trivial⟩ (by dsimp only; rw [List.length_append, show ints (chI (out ++ agL l s (bitL R'))) = ints (chI out) ++ ints (chI (agL l s (bitL R'))) from by simp [ints, chI]]; repeat constructor)
    · have h0 : R = [] := bt_zero (by omega)
      clear hc hK
      subst h0
      have ho : out = Full := by simpa [btF] using hR3
      subst ho
      refine q_fact (fun w hs => hs.slice2 (v := u) (by repeat constructor)) ?_
      rintro ⟨ua, uc, rfl⟩
      (refine q_exit _ rfl (q_seq (q_region (ql_pure tabOk rfl rfl ?_))))
      by_cases hz : out.length = 0
      · obtain rfl : out = [] := List.length_eq_zero_iff.1 hz
        refine ql_callv (val := .tuple #[]) tabOk rfl rfl rfl rfl (fun w hs => ?_) ?_; exact sort0_ca w ua uc
        (refine q_nil (q_seq (q_region ?_)); (iterate 3 refine ql_pure tabOk rfl rfl ?_); refine q_nil (q_ret ?_))
        refine q_fin tabOk rfl (by repeat constructor) fun w hs => ?_
        exact ⟨(.slice ua 0 uc, []), ⟨rfl, hdp [] (.refl _) .nil⟩, hs.sp (by repeat constructor)⟩
      · refine ql_fact (fun w hs => hs.ownSome (v := .slice ua out.length uc) (by repeat constructor) (by omega)) ?_
        rintro ⟨g, gc, e⟩
        cases e
        have h9 := hbt.1
        have hcl : (chI out).length = out.length := chI_len _
        refine ql_call (β := List Int) (ψ := fun L x => x = .tuple #[] ∧ L.Perm (chI out) ∧ L.Pairwise (· ≤ ·)) (L' := fun L => [.ow (.slice (some ⟨g, 0, none⟩) out.length uc) 3 1 out.length (ints L)]) tabOk [.ow (.slice (some ⟨g, 0, none⟩) out.length uc) 3 1 out.length (ints (chI out))] _ (fun x => x = g) rfl rfl rfl rfl (Sp.cons (by repeat constructor) (Sp.refl _)) (fun x hx => ⟨_, .head _, by subst hx; rfl⟩) (fun w' hs => by have := sort_ca w' g uc (chI out) (by omega) (by rw [hcl]; exact hs.all _ (.head _)); rw [hcl] at this; exact this) ?_
        rintro L _ ⟨rfl, g1, g2⟩
        dsimp only [List.cons_append, List.nil_append]
        have hLt : chI (L.map Int.toNat) = L := by
          unfold chI
          rw [List.map_map]
          refine (List.map_congr_left fun x hx => ?_).trans (List.map_id _)
          obtain ⟨y, _, rfl⟩ := List.mem_map.1 (g1.mem_iff.1 hx)
          rfl
        have hLl : (L.map Int.toNat).length = out.length := by rw [List.length_map, g1.length_eq, hcl]
        have hLp : (L.map Int.toNat).Perm out := by
          have := g1.map Int.toNat
          rwa [show (chI out).map Int.toNat = out from by unfold chI; rw [List.map_map]; exact List.map_id'' (fun i => by simp) _] at this
        have hLs : (L.map Int.toNat).Pairwise (· ≤ ·) := List.pairwise_map.2 (g2.imp fun h => by omega)
        (refine q_nil (q_seq (q_region ?_)); (iterate 3 refine ql_pure tabOk rfl rfl ?_); refine q_nil (q_ret ?_))
        refine q_fin tabOk rfl (by repeat constructor) fun w hs => ?_
        exact ⟨(.slice (some ⟨g, 0, none⟩) out.length uc, L.map Int.toNat), ⟨rfl, hdp _ hLp hLs⟩, by rw [hLt, hLl]; exact hs.sp (by repeat constructor)⟩
end Go.Proofs.YtcmpdmobmbbplaaGreat

/- The plain law of SkiRanked: chains, and what is to be dropped, if runs do not contradict each other. -/
namespace Go.Proofs.YtcmpdmobmbbplaaGreat
set_option maxRecDepth 4000
open Go Go.Eng
theorem short_isD {l : Lb} {a b : Nat} {c : List Int} (he : 0 ≤ l.err) (h : Short l a b c) : IsD l a b c.length :=
  ⟨List.length_pos_iff.2 h.ne, short_wk he h, fun j h1 h2 hw => by have := short_min h h1 hw; omega⟩
theorem short_shows {l : Lb} {a b : Nat} (ha : twoV l a b = 0) {c : List Int} (h : Short l a b c) : chainV l a b c = (true, 0) := by
  rw [chain_yes ha (List.all_eq_true.2 fun i hi => inB_iff.2 (by have := h.inr i hi; omega)), h.ok]
  cases c with
  | nil => exact absurd rfl h.ne
  | cons x c => simp
theorem two_ok' {l : Lb} (hl : l.Ok) {a b : Nat} (ha : a < l.n) (hb : b < l.n) : twoV l a b = 0 := by
  have hs := hl.s0
  have : (l.n : Int) = l.skis := by unfold Lb.n; omega
  exact two_iff.2 ⟨hl, inB_iff.2 (by omega), inB_iff.2 (by omega)⟩
end Go.Proofs.YtcmpdmobmbbplaaGreat

/- Walks: whether places are known; the first order that fits; where a number is. -/
namespace Go.Proofs.YtcmpdmobmbbplaaGreat
set_option maxRecDepth 4000
open Go Go.Eng

/-- Where a number is in a list, or -1. -/
def idxN (L : List Nat) (x : Nat) : Int := if x ∈ L then (L.idxOf x : Int) else -1
theorem chI_snoc' (ch : List Nat) (x : Nat) : ints (chI ch ++ [(x : Int)]) = ints (chI ch) ++ [.int .i64 (x : Int)] := by simp [ints]
theorem chI_app' (ch : List Nat) (x : Nat) : chI (ch ++ [x]) = chI ch ++ [(x : Int)] := by simp [chI]
theorem first_step {o n j : Nat} : firF o n (j + 1) = match nextO o n (firF o n j).2 with | some s => ((firF o n j).1 ++ [s], (firF o n j).2 ||| 2 ^ s) | none => firF o n j := rfl
set_option maxHeartbeats 1000000 in
theorem first_ok (w : World) (lo hi : Nat) (l : Lb) (v : Value) (h : RdR w lo hi v l.runs) (hl : l.Ok) (hc0 : NoC l.ord l.n) : Ca Tryz.prog 36 [.agg (lbC l v).toArray] w fun x w' => ∃ u : Value, x = .tuple #[u, .int .i64 0] ∧ Sat w M0 [.ow u 3 1 l.n (ints (chI (firF l.ord l.n l.n).1))] w' := by
  obtain ⟨n, en, hn', h8, h1⟩ := hl.nat
  have hfi := fun j (hj : j ≤ l.n) => fir_is hc0 hl.o hl.n8 j hj
  rw [hn'] at hfi ⊢
  refine q_of (Sat.nil w M0) Tryz.func36 rfl (by simp [Tryz.ntmps36]) ?_
  (refine q_seq (q_region ?_))
  refine ql_box rfl rfl (fun b1 => ?_)
  rw [agg_cells]
  (refine ql_pure tabOk rfl rfl (ql_pure tabOk rfl rfl (q_nil (q_seq (q_region ?_)))); refine ql_loadABa tabOk rfl rfl rfl ?_)
  refine ql_call (β := Nat) tabOk [] _ M0 rfl rfl rfl rfl (Sp.refl _) (fun _ h => h.elim) (fun w' hs => agreed_ok w' lo hi l v (RdE.keep h hs.chg0) hl hc0) ?_
  rintro b _ rfl
  dsimp only [List.cons_append, List.nil_append]
  (refine ql_pure tabOk rfl rfl (ql_ext tabOk rfl rfl rfl (ql_ext tabOk rfl rfl rfl (ql_pure tabOk rfl rfl (ql_pure tabOk rfl rfl (q_nil (q_seq (q_seq (q_region (ql_pure tabOk rfl rfl (ql_neqF tabOk rfl rfl rfl (by omega) (q_nil ?_))))))))))); refine q_cond_false rfl (q_skip (q_seq (q_region (ql_pure tabOk rfl rfl (q_nil (q_seq (q_region (ql_pure tabOk rfl rfl (q_nil (q_seq (q_seq ?_))))))))))); refine q_region ?_; (iterate 4 refine ql_pure tabOk rfl rfl ?_); refine ql_loadBa tabOk rfl rfl rfl ?_; refine ql_pure tabOk rfl rfl (q_nil (q_block ?_)))
  rw [en]
  refine q_conv (H' := [.ow (.slice none 0 0) 3 1 0 (ints (chI (firF l.ord n 0).1)), .pt b (dkC l v l.ord) 122]) (fun w' hs => (Sat.ownil hs 3 1).sp (by repeat constructor)) ?_
  refine q_loop (σ := Nat × Value) (fun y => y.1 ≤ n) (fun y => n - y.1) (fun y => [(4, .pointer (some ⟨b, 0, none⟩)), (6, y.2), (7, .int .i64 (firF l.ord n y.1).2), (21, .int .i64 n), (22, .int .i64 y.1)]) (fun y => [.ow y.2 3 1 y.1 (ints (chI (firF l.ord n y.1).1)), .pt b (dkC l v l.ord) 122]) (0, .slice none 0 0) (by simp only; omega) ⟨rfl, rfl, rfl, rfl, rfl, trivial⟩ (by repeat constructor) ?_
  rintro ⟨j, u⟩ hj K hK
  dsimp only at hj ⊢
  (refine q_seq (q_region (ql_pure tabOk rfl rfl (q_nil (q_seq ?_)))))
  refine q_if rfl (fun hc => ?_) (fun hc => ?_)
  · have hj2 : j < n := by omega
    clear hc
    have hI := hfi j (by omega)
    have hI2 := hfi (j + 1) (by omega)
    rw [first_step] at hI2
    have hst := first_step (o := l.ord) (n := n) (j := j)
    have hbd := hI.bd
    have h256 : 2 ^ n ≤ 256 := by have := Nat.pow_le_pow_right (show 0 < 2 by omega) h8; simpa using this
    obtain ⟨L, S, hLS⟩ : ∃ L S, firF l.ord n j = (L, S) := ⟨_, _, rfl⟩
    rw [hLS] at hI hI2 hst hbd ⊢
    dsimp only at hI hI2 hst hbd ⊢
    have hex : ∃ s, nextO l.ord n S = some s := by
      cases hnx : nextO l.ord n S with
      | some s => exact ⟨s, rfl⟩
      | none =>
        rw [hnx] at hI2
        have h3 := hI2.len
        have h4 := hI.len
        dsimp only at h3
        omega
    obtain ⟨s0, hs0⟩ := hex
    rw [hs0] at hst
    dsimp only at hst
    obtain ⟨hf0, hr0, hb0⟩ := List.find?_range_eq_some.1 hs0
    have hs0n := List.mem_range.1 hr0
    have hS : S < 256 := by omega
    (refine q_skip (q_seq (q_block (q_seq (q_region ?_)))); (iterate 4 refine ql_pure tabOk rfl rfl ?_); refine ql_loadBa tabOk rfl rfl rfl ?_; refine ql_pure tabOk rfl rfl (q_nil (q_block ?_)))
    rw [en]
    refine q_loop (σ := Nat) (fun s => s ≤ s0) (fun s => n - s) (fun s => [(4, .pointer (some ⟨b, 0, none⟩)), (6, u), (7, .int .i64 S), (21, .int .i64 n), (22, .int .i64 j), (28, .int .i64 n), (29, .int .i64 s)]) (fun _ => [.ow u 3 1 j (ints (chI L)), .pt b (dkC l v l.ord) 122]) 0 (by omega) ⟨rfl, rfl, rfl, rfl, rfl, rfl, rfl, trivial⟩ (by repeat constructor) ?_
    rintro s hs1 K2 hK2
    (refine q_seq (q_region (ql_lssT tabOk rfl rfl rfl (by omega) (q_nil (q_seq (q_cond_true rfl (q_skip (q_seq (q_block (q_seq (q_region (ql_pure tabOk rfl rfl ?_))))))))))); refine ql_pure tabOk rfl rfl (q_nil (q_seq (q_region ?_))); (iterate 3 refine ql_pure tabOk rfl rfl ?_))
    refine ql_callv (val := .bool (freeO l.ord n s S)) tabOk rfl rfl rfl rfl (fun w hs => ?_) ?_; exact by have := free_ca w b 122 l v l.ord s S (hs.blk (by repeat constructor)) hl (by omega) (by omega); rw [hn'] at this; exact this
    by_cases hss : s = s0
    · subst hss
      rw [hf0]
      have hpow : (2 : Nat) ^ s ≤ 128 := by have := Nat.pow_le_pow_right (show 0 < 2 by omega) (show s ≤ 7 by omega); simpa using this
      (refine q_nil (q_cond_true rfl (q_seq (q_region (ql_pure tabOk rfl rfl (ql_pure tabOk rfl rfl ?_))))))
      refine ql_mkS 3 [.int .i64 s] rfl (by kernel_rfl) rfl (fun bn => ?_)
      skip
      refine ql_append (q := 1) (news := [.int .i64 s]) slI rfl rfl rfl (fun v' => by repeat constructor) (fun w' hs => ⟨_, _, Blk.rdN (hs.blk (b := bn) (by repeat constructor)) rfl⟩) (by simp [oneV]) (by omega) (by omega) (fun u' => ?_)
      (refine ql_pure tabOk rfl rfl (q_nil (q_seq (q_region (ql_pure tabOk rfl rfl (ql_pure tabOk rfl rfl ?_))))))
      obtain ⟨pk, hpk⟩ : ∃ p, p = 2 ^ s := ⟨_, rfl⟩
      have sh2 : (1 : Int) * 2 ^ (s : Int).toNat = (pk : Int) := by rw [hpk, Int.toNat_natCast, Int.one_mul]; norm_cast
      rw [← hpk] at hpow hst
      refine ql_shl rfl rfl rfl (by omega) (by rw [sh2]; omega) (by rw [sh2]; omega) ?_
      rw [sh2]
      skip
      refine ql_orN rfl rfl rfl (by omega) (by omega) ?_
      (refine ql_pure tabOk rfl rfl (q_nil (q_exit _ rfl (q_blk (q_region (ql_ar tabOk rfl rfl rfl rfl (by omega) (by omega) (ql_pure tabOk rfl rfl (q_nil ?_))))))))
      exact hK (j + 1, u') _ _ (by simp only; omega) (by simp only; omega) ⟨rfl, rfl, by rw [hst]; rfl, rfl, rfl, trivial⟩ (by dsimp only; rw [hst]; dsimp only; rw [chI_app', chI_snoc']; repeat constructor)
    · have hff : freeO l.ord n s S = false := by simpa using hb0 s (by omega)
      rw [hff]
      (refine q_nil (q_cond_false rfl (q_skip (q_blk (q_region (ql_ar tabOk rfl rfl rfl rfl (by omega) (by omega) (ql_pure tabOk rfl rfl (q_nil ?_))))))))
      exact hK2 (s + 1) _ _ (by omega) (by omega) ⟨rfl, rfl, rfl, rfl, rfl, rfl, rfl, trivial⟩ (by repeat constructor)
  · obtain rfl : j = n := by omega
    (refine q_exit _ rfl (q_seq (q_region ?_)); (iterate 3 refine ql_pure tabOk rfl rfl ?_); refine q_nil (q_ret ?_))
    refine q_fin tabOk rfl (by repeat constructor) fun w hs => ?_
    exact ⟨u, rfl, hs.sp (by repeat constructor)⟩
end Go.Proofs.YtcmpdmobmbbplaaGreat

/- Walks: whether a number is in a list; runs without some of them. -/
namespace Go.Proofs.YtcmpdmobmbbplaaGreat
set_option maxRecDepth 4000
open Go Go.Eng
def woR (l : Lb) (D : List Nat) (k : Nat) : List Rn := ((List.range k).filter fun i => !decide (i ∈ D)).map fun i => l.runs.getD i ⟨0, 0, 0⟩
theorem woR_len (l : Lb) (D : List Nat) (k : Nat) : (woR l D k).length ≤ k := by
  unfold woR
  rw [List.length_map]
  have := List.length_filter_le (fun i => !decide (i ∈ D)) (List.range k)
  rw [List.length_range] at this
  exact this
theorem woR_yes {l : Lb} {D : List Nat} {k : Nat} (h : k ∈ D) : woR l D (k + 1) = woR l D k := by
  unfold woR
  rw [List.range_succ, List.filter_append]
  simp [h]
theorem woR_no {l : Lb} {D : List Nat} {k : Nat} (h : k ∉ D) (hk : k < l.runs.length) : woR l D (k + 1) = woR l D k ++ [l.runs[k]] := by
  unfold woR
  rw [List.range_succ, List.filter_append]
  simp [h, hk]
end Go.Proofs.YtcmpdmobmbbplaaGreat

/- Walks of the reference: how many runs have to be dropped; runs without some of them. -/
namespace Go.Proofs.YtcmpdmobmbbplaaGreat
set_option maxRecDepth 4000
open Go Go.Eng
set_option maxHeartbeats 2000000 in
theorem rdrop_ca (w : World) (lo hi : Nat) (l : Lb) (v : Value) (h : RdR w lo hi v l.runs) (hl : l.Ok) (h6 : l.n ≤ 6) :
    Ca Tryz.prog 34 [.agg (lbC l v).toArray] w fun x w' => x = .int .i64 (dropF l (permN l.n l.n) : Nat) ∧ Chg [] w w' := by
  obtain ⟨n, en, hn', h8, h1⟩ := hl.nat
  have hPb := perm_len6 (n := n) (by omega)
  have hagp := fun L (hp : L ∈ permN n n) => perm_full.1 hp
  have hlen := hl.len
  rw [hn'] at ⊢
  obtain ⟨va, vc, rfl, _⟩ := RdR.outI h
  refine q_of (Sat.nil w M0) Tryz.func34 rfl (by simp [Tryz.ntmps34]) ?_
  (refine q_seq (q_region ?_))
  refine ql_box rfl rfl (fun b1 => ?_)
  rw [agg_cells]
  (refine ql_pure tabOk rfl rfl (q_nil (q_seq (q_region (ql_pure tabOk rfl rfl ?_)))); refine ql_loadBa tabOk rfl rfl rfl ?_)
  rw [en]
  refine ql_call (β := Value × List (Value × List Int)) tabOk [] _ M0 rfl rfl rfl rfl (Sp.refl _) (fun _ h => h.elim) (fun w' hs => perms_ca n (by omega) w') ?_
  rintro ⟨_, Y⟩ v3 ⟨rfl, hY⟩
  dsimp only [List.cons_append, List.nil_append] at hY ⊢
  have hYl : Y.length = (permN n n).length := by have := congrArg List.length hY; simpa using this
  obtain ⟨PL, hPL⟩ : ∃ PL, PL = permN n n := ⟨_, rfl⟩
  rw [← hPL] at hPb hagp hY hYl ⊢
  refine ql_fact (fun w hs => hs.slice2 (v := v3) (by repeat constructor)) ?_
  rintro ⟨a3, c3, rfl⟩
  (refine ql_pure tabOk rfl rfl (q_nil (q_seq (q_region (ql_pure tabOk rfl rfl ?_)))); refine ql_loadBa tabOk rfl rfl rfl ?_; refine ql_pure tabOk rfl rfl (ql_pure tabOk rfl rfl (q_nil (q_seq (q_seq (q_region (ql_pure tabOk rfl rfl (q_nil (q_block ?_)))))))))
  refine q_loop (σ := Nat) (fun i => i ≤ Y.length) (fun i => Y.length - i) (fun i => [(1, .pointer (some ⟨b1, 0, none⟩)), (3, .slice a3 Y.length c3), (4, .int .i64 (dropF l (PL.take i) : Nat)), (5, .int .i64 i)]) (fun _ => [un (rowsO 3 Y), .ow (.slice a3 Y.length c3) 48 1 Y.length (Y.map (·.1)), .pt b1 (lbC l (.slice va l.runs.length vc)) 30]) 0 (by omega) ⟨rfl, rfl, rfl, rfl, trivial⟩ (by repeat constructor) ?_
  rintro i hi' K hK
  (refine q_seq (q_seq (q_region ?_)); (iterate 4 refine ql_pure tabOk rfl rfl ?_); refine q_nil ?_)
  refine q_if rfl (fun hc => ?_) (fun hc => ?_)
  · have hi2 : i < Y.length := by omega
    clear hc
    have hip : i < PL.length := by omega
    obtain ⟨p, hp⟩ : ∃ p, p = PL[i] := ⟨_, rfl⟩
    have hpm : p ∈ PL := by rw [hp]; exact List.getElem_mem hip
    have hYk : Y[i].2 = chI p := by
      have h1 : (Y.map (·.2))[i]? = (PL.map chI)[i]? := by rw [hY]
      rw [List.getElem?_map, List.getElem?_map, List.getElem?_eq_getElem hi2, List.getElem?_eq_getElem hip, Option.map_some, Option.map_some] at h1
      rw [hp]
      exact Option.some.inj h1
    have hpl : Y[i].2.length = p.length := by rw [hYk, chI_len]
    have hst : dropF l (PL.take (i + 1)) = min (dropF l (PL.take i)) (agN l p) := by rw [List.take_succ_eq_append_getElem hip, ← hp, dropF_snoc]
    have hst2 : ((dropF l (PL.take (i + 1)) : Nat) : Int) = min ((dropF l (PL.take i) : Nat) : Int) ((agN l p : Nat) : Int) := by rw [hst]; omega
    refine q_fact (fun w hs => rowN hs (t := 3) (X := Y) (by repeat constructor) hi2) ?_
    rintro ⟨ka, kc, ek, hka⟩
    rw [hpl] at ek hka
    refine q_fact (fun w hs => hs.ownSome (v := .slice a3 Y.length c3) (by repeat constructor) (by omega)) ?_
    rintro ⟨g3, q3, ev⟩
    cases ev
    (refine q_skip (q_seq (q_block ?_)))
    refine q_draw _ [] (Sp.refl _) (by kernel_rfl) (by kernel_rfl) ?_
    (refine qf_pure tabOk rfl rfl rfl ?_; refine qf_loadABa tabOk rfl rfl rfl ?_; refine qf_pure tabOk rfl rfl rfl (qf_pure tabOk rfl rfl rfl ?_))
    refine qf_index tabOk rfl rfl rfl rfl rfl (by omega) (by omega) ?_
    refine qf_load1 (v := .slice ka p.length kc) tabOk rfl rfl rfl (fun w hs => row_cell hs (t := 48) (X := Y) (by repeat constructor) hi2 ek rfl) ?_
    skip
    refine qf_callv (val := .int .i64 (agN l p : Nat)) tabOk rfl rfl rfl rfl (fun w hs => ?_) ?_; exact ragainst_ca w lo hi 0 w.heap.size l (.slice va l.runs.length vc) (.slice ka p.length kc) p (RdE.keep h hs.chg0) hl (by rw [hn']; exact hagp p hpm) (by have := (wx_row hs (t := 3) (xs := Y) (by repeat constructor) i hi2).1; rw [ek, hYk] at this; exact this)
    (refine qf_pure tabOk rfl rfl rfl (qf_pure tabOk rfl rfl rfl (qf_nil (q_blk (q_region (ql_pure tabOk rfl rfl (ql_ar tabOk rfl rfl rfl rfl (by omega) (by omega) (ql_pure tabOk rfl rfl (q_nil ?_)))))))))
    exact hK (i + 1) _ _ (by omega) (by omega) ⟨rfl, rfl, by rw [hst2]; rfl, rfl, trivial⟩ (by repeat constructor)
  · have hiY : i = PL.length := by omega
    subst hiY
    rw [List.take_length]
    (refine q_exit _ rfl (q_seq (q_region (ql_pure tabOk rfl rfl (ql_pure tabOk rfl rfl (q_nil (q_ret ?_)))))))
    refine q_fin tabOk rfl (by repeat constructor) fun w hs => ?_
    exact ⟨rfl, hs.chg0⟩
def kpB (i : Nat) (L : List Nat) : Bool := !decide (i ∈ L) && true
theorem kp_t {i : Nat} {L : List Nat} (h : i ∉ L) : kpB i L = true := by unfold kpB; rw [decide_eq_false h]; rfl
theorem kp_f {i : Nat} {L : List Nat} (h : i ∈ L) : kpB i L = false := by unfold kpB; rw [decide_eq_true h]; rfl
set_option maxHeartbeats 2000000 in
theorem rwithout_ca (w : World) (lo hi lo2 hi2 : Nat) (l : Lb) (v u : Value) (D : List Nat) (h : RdR w lo hi v l.runs) (hl : l.Ok) (hD : RdI w lo2 hi2 u (chI D)) (hDl : D.length ≤ 1000000) :
    Ca Tryz.prog 35 [.agg (lbC l v).toArray, u] w fun x w' => ∃ z : Value, x = .agg (lbC (woL l D) z).toArray ∧ Sat w M0 [.ow z 113 3 (woL l D).runs.length (rnC (woL l D).runs)] w' := by
  have hlen := hl.len
  obtain ⟨va, vc, rfl, hva⟩ := RdR.outI h
  obtain ⟨ua, uc, rfl, hua⟩ := RdI.outI hD
  rw [chI_len] at hua hD ⊢
  refine q_of (Sat.nil w M0) Tryz.func35 rfl (by simp [Tryz.ntmps35]) ?_
  (refine q_seq (q_region ?_))
  refine ql_box rfl rfl (fun b2 => ?_)
  rw [agg_cells]
  skip
  refine ql_alloc zero30 rfl (fun b4 => ?_)
  (refine q_nil (q_seq (q_region (ql_pure tabOk rfl rfl ?_))); refine ql_loadBa tabOk rfl rfl rfl ?_; refine ql_pure tabOk rfl rfl ?_; refine ql_loadBa tabOk rfl rfl rfl ?_)
  refine ql_mk (lbC ⟨l.skis, l.err, []⟩ (.slice none 0 0)).toArray rfl (by kernel_rfl) rfl ?_
  skip
  refine ql_alloc zero30 rfl (fun b5 => ?_)
  (refine ql_setA tabOk rfl rfl rfl rfl rfl (by repeat constructor) rfl ?_; refine q_nil (q_seq (q_seq (q_region (ql_pure tabOk rfl rfl (q_nil (q_block ?_)))))))
  refine q_conv (H' := [.ow (.slice none 0 0) 113 3 (woR l D 0).length (rnC (woR l D 0)), .pt b5 [.int .i64 l.skis, .int .i64 l.err, .slice none 0 0] 30, .pt b4 [.int .i64 0, .int .i64 0, .slice none 0 0] 30, .pt b2 (lbC l (.slice va l.runs.length vc)) 30]) (fun w' hs => (Sat.ownil hs 113 3).sp (by repeat constructor)) ?_
  refine q_loop (σ := Nat × Value) (fun z => z.1 ≤ l.runs.length) (fun z => l.runs.length - z.1) (fun z => [(1, .slice ua D.length uc), (2, .pointer (some ⟨b2, 0, none⟩)), (4, .pointer (some ⟨b4, 0, none⟩)), (5, .pointer (some ⟨b5, 0, none⟩)), (6, .int .i64 z.1)]) (fun z => [.ow z.2 113 3 (woR l D z.1).length (rnC (woR l D z.1)), .pt b5 [.int .i64 l.skis, .int .i64 l.err, z.2] 30, .pt b4 [.int .i64 0, .int .i64 0, .slice none 0 0] 30, .pt b2 (lbC l (.slice va l.runs.length vc)) 30]) (0, .slice none 0 0) (by simp only; omega) ⟨rfl, rfl, rfl, rfl, rfl, trivial⟩ (by repeat constructor) ?_
  rintro ⟨i, x⟩ hi' K hK
  dsimp only at hi' hK ⊢
  have hwl := woR_len l D i
  refine q_fact (fun w hs => hs.slice2 (v := x) (by repeat constructor)) ?_
  rintro ⟨xa, xc, rfl⟩
  (refine q_seq (q_seq (q_region (ql_pure tabOk rfl rfl (ql_pure tabOk rfl rfl ?_)))); refine ql_loadBa tabOk rfl rfl rfl ?_; refine ql_pure tabOk rfl rfl (ql_pure tabOk rfl rfl (q_nil ?_)))
  refine q_if rfl (fun hc => ?_) (fun hc => ?_)
  · have hi2 : i < l.runs.length := by omega
    clear hc
    obtain ⟨gv, ov, rfl⟩ := hva (by omega)
    (refine q_skip (q_seq (q_block (q_seq (q_region (ql_pure tabOk rfl rfl (q_nil (q_seq (q_seq (q_region (ql_pure tabOk rfl rfl (q_nil ?_))))))))))); refine q_block ?_)
    refine q_loop (σ := Nat) (fun k => k ≤ D.length) (fun k => D.length - k) (fun k => [(1, .slice ua D.length uc), (2, .pointer (some ⟨b2, 0, none⟩)), (4, .pointer (some ⟨b4, 0, none⟩)), (5, .pointer (some ⟨b5, 0, none⟩)), (6, .int .i64 i), (7, .bool (kpB i (D.take k))), (8, .int .i64 k)]) (fun _ => [.ow (.slice xa (woR l D i).length xc) 113 3 (woR l D i).length (rnC (woR l D i)), .pt b5 [.int .i64 l.skis, .int .i64 l.err, .slice xa (woR l D i).length xc] 30, .pt b4 [.int .i64 0, .int .i64 0, .slice none 0 0] 30, .pt b2 (lbC l (.slice (some ⟨gv, ov, none⟩) l.runs.length vc)) 30]) 0 (by omega) ⟨rfl, rfl, rfl, rfl, rfl, by rw [kp_t (by simp)]; rfl, rfl, trivial⟩ (by repeat constructor) ?_
    rintro k hk K2 hK2
    (refine q_seq (q_seq (q_region ?_)); (iterate 4 refine ql_pure tabOk rfl rfl ?_); refine q_nil ?_)
    refine q_if rfl (fun hc => ?_) (fun hc => ?_)
    · have hk2 : k < D.length := by omega
      clear hc
      obtain ⟨gu, ou, rfl⟩ := hua (by omega)
      have hk3 : k < (chI D).length := by rw [chI_len]; exact hk2
      have htk : (i ∈ D.take (k + 1)) ↔ (i ∈ D.take k ∨ i = D[k]) := by rw [List.take_succ_eq_append_getElem hk2, List.mem_append, List.mem_singleton]
      obtain ⟨dk, hdk⟩ : ∃ d, d = D[k] := ⟨_, rfl⟩
      rw [← hdk] at htk
      by_cases hm : i ∈ D.take k
      · rw [kp_f hm]
        (refine q_skip (q_seq (q_block (q_region (ql_pure tabOk rfl rfl (ql_pure tabOk rfl rfl ?_))))); (iterate 6 refine ql_gno rfl rfl rfl ?_); refine ql_pure tabOk rfl rfl (ql_pure tabOk rfl rfl (q_nil (q_blk (q_region (ql_pure tabOk rfl rfl (ql_ar tabOk rfl rfl rfl rfl (by omega) (by omega) (ql_pure tabOk rfl rfl (q_nil ?_)))))))))
        exact hK2 (k + 1) _ _ (by omega) (by omega) ⟨rfl, rfl, rfl, rfl, rfl, by rw [kp_f (htk.2 (.inl hm))]; rfl, rfl, trivial⟩ (by repeat constructor)
      · rw [kp_t hm]
        (refine q_skip (q_seq (q_block (q_region (ql_pure tabOk rfl rfl (ql_pure tabOk rfl rfl (ql_gyes rfl (ql_pure tabOk rfl rfl (ql_gyes rfl (ql_pure tabOk rfl rfl (ql_gyes rfl ?_)))))))))))
        refine ql_index tabOk rfl rfl rfl rfl rfl (by omega) (by omega) ?_
        (refine ql_gyes rfl ?_)
        refine ql_load1 (v := .int .i64 dk) tabOk rfl rfl rfl (fun w hs => by
          have := RdI.at (RdE.keep hD hs.chg0) k hk3
          rw [show (chI D)[k] = ((D[k] : Nat) : Int) from by simp [chI], ← hdk] at this
          exact this) ?_
        by_cases he : i = dk
        · (refine ql_gyes rfl (ql_pure tabOk rfl rfl (ql_gyes rfl (ql_neqF tabOk rfl rfl rfl (by omega) (ql_pure tabOk rfl rfl (ql_pure tabOk rfl rfl (q_nil (q_blk (q_region (ql_pure tabOk rfl rfl (ql_ar tabOk rfl rfl rfl rfl (by omega) (by omega) (ql_pure tabOk rfl rfl ?_))))))))))); refine q_nil ?_)
          exact hK2 (k + 1) _ _ (by omega) (by omega) ⟨rfl, rfl, rfl, rfl, rfl, by rw [kp_f (htk.2 (.inr he))]; rfl, rfl, trivial⟩ (by repeat constructor)
        · (refine ql_gyes rfl (ql_pure tabOk rfl rfl (ql_gyes rfl (ql_neqT tabOk rfl rfl rfl (by omega) (ql_pure tabOk rfl rfl (ql_pure tabOk rfl rfl (q_nil (q_blk (q_region (ql_pure tabOk rfl rfl (ql_ar tabOk rfl rfl rfl rfl (by omega) (by omega) (ql_pure tabOk rfl rfl ?_))))))))))); refine q_nil ?_)
          exact hK2 (k + 1) _ _ (by omega) (by omega) ⟨rfl, rfl, rfl, rfl, rfl, by rw [kp_t (fun h => (htk.1 h).elim hm he)]; rfl, rfl, trivial⟩ (by repeat constructor)
    · obtain rfl : k = D.length := by omega
      clear hc hK2 hk
      rw [List.take_length]
      by_cases hm : i ∈ D
      · rw [kp_f hm]
        (refine q_exit _ rfl (q_seq (q_region (ql_pure tabOk rfl rfl (q_nil (q_cond_false rfl (q_skip (q_blk (q_region (ql_pure tabOk rfl rfl (ql_ar tabOk rfl rfl rfl rfl (by omega) (by omega) (ql_pure tabOk rfl rfl ?_))))))))))); refine q_nil ?_)
        exact hK (i + 1, .slice xa (woR l D i).length xc) _ _ (by simp only; omega) (by simp only; omega) ⟨rfl, rfl, rfl, rfl, rfl, trivial⟩ (by dsimp only; rw [woR_yes hm]; repeat constructor)
      · rw [kp_t hm]
        (refine q_exit _ rfl (q_seq (q_region (ql_pure tabOk rfl rfl (q_nil (q_cond_true rfl ?_))))))
        refine q_drawS 8 [.pt b4 [.int .i64 0, .int .i64 0, .slice none 0 0] 30, .pt b2 (lbC l (.slice (some ⟨gv, ov, none⟩) l.runs.length vc)) 30] [.ow (.slice xa (woR l D i).length xc) 113 3 (woR l D i).length (rnC (woR l D i)), .pt b5 [.int .i64 l.skis, .int .i64 l.err, .slice xa (woR l D i).length xc] 30] (by repeat constructor) (by kernel_rfl) (by kernel_rfl) (by kernel_rfl) fun K1 hK1 => ?_
        (refine qf_pure tabOk rfl rfl rfl ?_; refine qf_loadBa tabOk rfl rfl rfl ?_; refine qf_pure tabOk rfl rfl rfl ?_; refine qf_loadBa tabOk rfl rfl rfl ?_; refine qf_pure tabOk rfl rfl rfl ?_)
        refine qf_index tabOk rfl rfl rfl rfl rfl (by omega) (by omega) ?_
        skip
        refine qf_loadA (cs := [.int .i64 l.runs[i].a, .int .i64 l.runs[i].b, .int .i64 l.runs[i].lead]) tabOk rfl rfl rfl rfl (fun w hs j hj => RdR.at (RdE.keep h hs.chg0) i hi2 j hj) ?_
        skip
        refine qf_mkS 113 [.int .i64 l.runs[i].a, .int .i64 l.runs[i].b, .int .i64 l.runs[i].lead] rfl (by kernel_rfl) rfl (fun bn => ?_)
        (refine qf_nil ?_)
        refine hK1 _ _ [.pt bn [.int .i64 l.runs[i].a, .int .i64 l.runs[i].b, .int .i64 l.runs[i].lead] 113, .ow (.slice xa (woR l D i).length xc) 113 3 (woR l D i).length (rnC (woR l D i)), .pt b5 [.int .i64 l.skis, .int .i64 l.err, .slice xa (woR l D i).length xc] 30] (by repeat constructor) ?_
        skip
        refine qf_append (q := 1) (news := [.int .i64 l.runs[i].a, .int .i64 l.runs[i].b, .int .i64 l.runs[i].lead]) slRr rfl rfl rfl (fun v' => by repeat constructor) (fun w' hs => ⟨_, _, Blk.rdN (hs.blk (b := bn) (by repeat constructor)) rfl⟩) (by simp [oneV]) (by omega) (by omega) (fun u' => ?_)
        refine qf_fact (fun w' hs => hs.own_one (v := u') (by repeat constructor)) (fun hone => ?_)
        (refine qf_pure tabOk rfl rfl rfl ?_)
        refine qf_st2 tabOk rfl rfl rfl hone (by repeat constructor) ?_
        (refine qf_nil (q_blk (q_region (ql_pure tabOk rfl rfl (ql_ar tabOk rfl rfl rfl rfl (by omega) (by omega) (ql_pure tabOk rfl rfl (q_nil ?_)))))))
        exact hK (i + 1, u') _ _ (by simp only; omega) (by simp only; omega) ⟨rfl, rfl, rfl, rfl, rfl, trivial⟩ (by dsimp only; rw [woR_no hm hi2, List.length_append, List.length_singleton, rnC_snoc]; repeat constructor)
  · obtain rfl : i = l.runs.length := by omega
    clear hc hK hi'
    (refine q_exit _ rfl (q_seq (q_region ?_)); refine ql_loadABa tabOk rfl rfl rfl ?_; refine ql_setA tabOk rfl rfl rfl rfl rfl (by repeat constructor) rfl ?_; refine q_nil (q_ret ?_))
    refine q_fin tabOk rfl (by repeat constructor) fun w hs => ?_
    exact ⟨_, rfl, hs.sp (by repeat constructor)⟩
end Go.Proofs.YtcmpdmobmbbplaaGreat

/- The engine, part B37: make of a list whose elements are structs, with its zero cells. -/
namespace Go.Eng
set_option maxRecDepth 4000
open Go Go.RowKit
section
variable {P : Program} {T : Tab} {ro : Cx} {n : Nat} {F : Fin} {w0 : World} {M : Nat → Prop} {k : List It} {ops : Array Oper} {rest : List Oper} {e : Env} {H Hq : List Ck}
theorem ql_makeC {d t et m size bytes : Nat} {z : Value} {x y : Operand} {ty : TypeId} {pos : String} {af : Array Edge} (hS : SlT P t et size bytes z) (hx : opv e x = some (.int .i64 m)) (hy : opv e y = some (.int .i64 m)) (hd : Nat.blt d n = true) (hm : m * size ≤ 1000000) (hm2 : m * bytes ≤ 1000000000) (hm3 : m ≤ 1000000)
    (h : ∀ b, QL P ro n F w0 M k ops rest ((d, .slice (some ⟨b, 0, none⟩) m m) :: e) (.pt b (madeCells z.cells (m * size)).toList et :: H)) :
    QL P ro n F w0 M k ops (⟨some d, .makeSlice t x y, ty, pos, af, none⟩ :: rest) e H := .mk fun w hs => by
  obtain ⟨ht, hi', hzs, hsz⟩ := hS
  cases hinf : P.info? et with
  | none => simp [hinf] at hi'
  | some i =>
    simp [hinf] at hi'
    obtain ⟨hz, hsize, hby⟩ := hi'
    subst hsize
    subst hby
    have hr := run_makeSlice (P := P) w t et i _ ht hinf hz .i64 .i64 m m (by omega) (Int.le_refl _) (by simp; omega) (by rw [Int.mul_comm]; omega) (by omega)
    refine yl_val (w' := w.alloc (.cells (madeCells z.cells (m * i.size)) et)) (by simp) hd (fun ac hf => ?_) ((h w.heap.size).h _ (hs.addPt (alloc_chg _ _) (by simp) (by have := alloc_blk w (madeCells z.cells (m * i.size)) et; simpa using this)))
    simp only [execOp, hf.op hx, hf.op hy]
    simp at hr
    simp [hr]
theorem made_same (z : Value) (m : Nat) : (madeCells #[z, z] m).toList = List.replicate m z := by
  unfold madeCells
  rw [Array.toList_map, Array.toList_range]
  refine List.eq_replicate_iff.2 ⟨by simp, fun b hb => ?_⟩
  obtain ⟨x, _, rfl⟩ := List.mem_map.1 hb
  have h2 : x % 2 = 0 ∨ x % 2 = 1 := by omega
  show #[z, z][x % 2]! = z
  rcases h2 with h | h <;> rw [h] <;> rfl
end
end Go.Eng

/- Walks of the reference: places, by all orders that fit. -/
namespace Go.Proofs.YtcmpdmobmbbplaaGreat
set_option maxRecDepth 4000
open Go Go.Eng
/-- The places that have been seen so far. -/
def Dn (X : List (List Nat)) (i p s q : Nat) : Prop := ∃ j, j < X.length ∧ (j < i ∨ (j = i ∧ q < p)) ∧ (X.getD j [])[q]? = some s
theorem dn_succ {X : List (List Nat)} {i p s x q : Nat} (hi : i < X.length) (hx : (X.getD i [])[p]? = some x) : Dn X i (p + 1) s q ↔ Dn X i p s q ∨ (s = x ∧ q = p) := by
  constructor
  · rintro ⟨j, h1, h2, h3⟩
    rcases h2 with h2 | ⟨h2, h4⟩
    · exact .inl ⟨j, h1, .inl h2, h3⟩
    · by_cases e : q = p
      · subst e; subst h2
        rw [hx] at h3
        exact .inr ⟨(Option.some.inj h3).symm, rfl⟩
      · exact .inl ⟨j, h1, .inr ⟨h2, by omega⟩, h3⟩
  · rintro (⟨j, h1, h2, h3⟩ | ⟨rfl, rfl⟩)
    · exact ⟨j, h1, h2.imp_right fun h => ⟨h.1, by omega⟩, h3⟩
    · exact ⟨i, hi, .inr ⟨rfl, by omega⟩, hx⟩
theorem dn_row {X : List (List Nat)} {n i s q : Nat} (hl : (X.getD i []).length = n) : Dn X i n s q ↔ Dn X (i + 1) 0 s q := by
  constructor
  · rintro ⟨j, h1, h2, h3⟩
    exact ⟨j, h1, .inl (by omega), h3⟩
  · rintro ⟨j, h1, h2, h3⟩
    have h4 : j < i + 1 := by rcases h2 with h | h <;> omega
    by_cases e : j = i
    · subst e
      refine ⟨j, h1, .inr ⟨rfl, ?_⟩, h3⟩
      obtain ⟨h5, _⟩ := List.getElem?_eq_some_iff.1 h3
      omega
    · exact ⟨j, h1, .inl (by omega), h3⟩
theorem dn_zero {X : List (List Nat)} {s q : Nat} : ¬ Dn X 0 0 s q := by
  rintro ⟨j, h1, h2, h3⟩
  rcases h2 with h | h <;> omega
structure PlS (n : Nat) (O : List (Int × Int)) (D : Nat → Nat → Prop) : Prop where
  len : O.length = n
  at_ : ∀ s, s < n → ((∀ q, ¬ D s q) ∧ O.getD s (0, 0) = (0, 0)) ∨ ((∃ q : Nat, D s q ∧ (O.getD s (0, 0)).1 = q + 1) ∧ (∀ q : Nat, D s q → (O.getD s (0, 0)).1 ≤ q + 1) ∧ (∃ q : Nat, D s q ∧ (O.getD s (0, 0)).2 = q + 1) ∧ ∀ q : Nat, D s q → (q : Int) + 1 ≤ (O.getD s (0, 0)).2)
theorem PlS.congr {n : Nat} {O : List (Int × Int)} {D E : Nat → Nat → Prop} (h : PlS n O D) (he : ∀ s q, D s q ↔ E s q) : PlS n O E := by
  have : D = E := funext fun s => funext fun q => propext (he s q)
  rw [← this]; exact h
def loU (z : Int × Int) (p : Nat) : Int := if z.1 = 0 ∨ (p : Int) + 1 < z.1 then (p : Int) + 1 else z.1
def upZ (z : Int × Int) (p : Nat) : Int × Int := (loU z p, max z.2 ((p : Int) + 1))
theorem PlS.set {n : Nat} {O : List (Int × Int)} {D : Nat → Nat → Prop} (h : PlS n O D) {x p : Nat} (hx : x < n) : PlS n (O.set x (upZ (O.getD x (0, 0)) p)) (fun s q => D s q ∨ (s = x ∧ q = p)) where
  len := by rw [List.length_set]; exact h.len
  at_ s hs := by
    have hl := h.len
    have hg : (O.set x (upZ (O.getD x (0, 0)) p)).getD s (0, 0) = if s = x then upZ (O.getD x (0, 0)) p else O.getD s (0, 0) := by
      rw [List.getD_eq_getElem?_getD, List.getElem?_set]
      by_cases e : x = s
      · subst e; rw [if_pos rfl, if_pos (by omega), if_pos rfl]; rfl
      · rw [if_neg e, if_neg (fun h => e h.symm), List.getD_eq_getElem?_getD]
    rw [hg]
    by_cases e : s = x
    · subst e
      rw [if_pos rfl]
      right
      rcases h.at_ s hs with ⟨h1, h2⟩ | ⟨⟨q1, h1, h2⟩, h3, ⟨q2, h4, h5⟩, h6⟩
      · rw [h2]
        refine ⟨⟨p, .inr ⟨rfl, rfl⟩, by simp [upZ, loU]⟩, fun q hq => ?_, ⟨p, .inr ⟨rfl, rfl⟩, by simp only [upZ]; omega⟩, fun q hq => ?_⟩
        · rcases hq with hq | ⟨_, rfl⟩
          · exact absurd hq (h1 q)
          · simp [upZ, loU]
        · rcases hq with hq | ⟨_, rfl⟩
          · exact absurd hq (h1 q)
          · simp only [upZ]; omega
      · generalize O.getD s (0, 0) = z at h2 h3 h5 h6 ⊢
        refine ⟨?_, fun q hq => ?_, ?_, fun q hq => ?_⟩
        · by_cases hc : z.1 = 0 ∨ (p : Int) + 1 < z.1
          · exact ⟨p, .inr ⟨rfl, rfl⟩, by simp only [upZ, loU]; rw [if_pos hc]⟩
          · exact ⟨q1, .inl h1, by simp only [upZ, loU]; rw [if_neg hc]; exact h2⟩
        · have h7 : (upZ z p).1 ≤ z.1 ∧ (upZ z p).1 ≤ p + 1 := by
            simp only [upZ, loU]
            split <;> omega
          rcases hq with hq | ⟨_, rfl⟩
          · have := h3 q hq; omega
          · exact h7.2
        · by_cases hc : z.2 ≤ (p : Int) + 1
          · exact ⟨p, .inr ⟨rfl, rfl⟩, by simp only [upZ]; omega⟩
          · exact ⟨q2, .inl h4, by simp only [upZ]; omega⟩
        · rcases hq with hq | ⟨_, rfl⟩
          · have := h6 q hq; simp only [upZ]; omega
          · simp only [upZ]; omega
    · rw [if_neg e]
      rcases h.at_ s hs with ⟨h1, h2⟩ | ⟨⟨q1, h1, h2⟩, h3, ⟨q2, h4, h5⟩, h6⟩
      · exact .inl ⟨fun q hq => hq.elim (h1 q) fun h => e h.1, h2⟩
      · exact .inr ⟨⟨q1, .inl h1, h2⟩, fun q hq => hq.elim (h3 q) fun h => absurd h.1 e, ⟨q2, .inl h4, h5⟩, fun q hq => hq.elim (h6 q) fun h => absurd h.1 e⟩
theorem PlS.zero (n : Nat) : PlS n (List.replicate n (0, 0)) (fun _ _ => False) := ⟨by simp, fun s hs => .inl ⟨fun q h => h, by rw [List.getD_eq_getElem?_getD, List.getElem?_replicate, if_pos hs]; rfl⟩⟩
/-- All places that have been seen: the spans. -/
theorem PlS.all {l : Lb} (hl : l.Ok) (hc : NoC l.ord l.n) {O : List (Int × Int)} (h : PlS l.n O (Dn (FL l.ord l.n l.n) (FL l.ord l.n l.n).length 0)) : O = plC l l.ord l.n := by
  have h8 := hl.n8
  have hsk : l.skis = (l.n : Int) := by have := hl.s0; unfold Lb.n; omega
  have hdn : ∀ s q, Dn (FL l.ord l.n l.n) (FL l.ord l.n l.n).length 0 s q ↔ ∃ L, LinO l.ord l.n L ∧ L[q]? = some s := fun s q => by
    constructor
    · rintro ⟨j, h1, _, h3⟩
      rw [List.getD_eq_getElem?_getD, List.getElem?_eq_getElem h1, Option.getD_some] at h3
      exact ⟨_, (fl_mem h8 hl.inO).1 (List.getElem_mem h1), h3⟩
    · rintro ⟨L, h1, h2⟩
      obtain ⟨j, hj, rfl⟩ := List.mem_iff_getElem.1 ((fl_mem h8 hl.inO).2 h1)
      exact ⟨j, hj, .inl hj, by rw [List.getD_eq_getElem?_getD, List.getElem?_eq_getElem hj, Option.getD_some]; exact h2⟩
  refine List.ext_getElem (by rw [h.len, plC_len]) fun s h1 h2 => ?_
  have hs : s < l.n := by rw [plC_len] at h2; exact h2
  have hidx : ∀ L q, LinO l.ord l.n L → L[q]? = some s → L.idxOf s = q := fun L q hL hq => by
    obtain ⟨h3, h4⟩ := List.getElem?_eq_some_iff.1 hq
    rw [← h4]
    exact hL.nodup.idxOf_getElem q h3
  have hat : ∀ L, LinO l.ord l.n L → L[L.idxOf s]? = some s := fun L hL => by
    have h3 := List.idxOf_lt_length_iff.2 (hL.mem.2 hs)
    rw [List.getElem?_eq_getElem h3, List.getElem_idxOf]
  obtain ⟨L1, g1, g2⟩ := place_lo hc hl.o h8 hl.inO hs
  obtain ⟨L2, g3, g4⟩ := place_hi hc hl.o h8 hl.inO hs
  have d1 := (hdn s _).2 ⟨L1, g1, hat L1 g1⟩
  have d2 := (hdn s _).2 ⟨L2, g3, hat L2 g3⟩
  have hO : O[s] = O.getD s (0, 0) := by rw [List.getD_eq_getElem?_getD, List.getElem?_eq_getElem h1, Option.getD_some]
  have hP := plC_get l l.ord (k := l.n) hs
  obtain ⟨_, hP⟩ := List.getElem?_eq_some_iff.1 hP
  rw [hO, hP]
  rcases h.at_ s hs with ⟨h5, _⟩ | ⟨⟨q1, h5, h6⟩, h7, ⟨q2, h9, h10⟩, h11⟩
  · exact absurd d1 (h5 _)
  · obtain ⟨L3, k1, k2⟩ := (hdn s q1).1 h5
    obtain ⟨L4, k3, k4⟩ := (hdn s q2).1 h9
    have e1 := hidx L3 q1 k1 k2
    have e2 := hidx L4 q2 k3 k4
    have b1 := lin_bd k1 h8 hs
    have b2 := lin_bd k3 h8 hs
    have a1 := h7 _ d1
    have a2 := h11 _ d2
    refine Prod.ext ?_ ?_
    · simp only; omega
    · simp only; omega
theorem spC_rep (n : Nat) : List.replicate (n * 2) (Value.int .i64 0) = spC (List.replicate n (0, 0)) := by
  induction n with
  | zero => rfl
  | succ n ih =>
    rw [show (n + 1) * 2 = n * 2 + 1 + 1 from by omega, List.replicate_succ, List.replicate_succ, ih, List.replicate_succ]
    rfl
theorem spC_at : ∀ (O : List (Int × Int)) (s : Nat), s < O.length → (spC O)[s * 2]? = some (.int .i64 (O.getD s (0, 0)).1) ∧ (spC O)[s * 2 + 1]? = some (.int .i64 (O.getD s (0, 0)).2)
  | z :: O, 0, _ => ⟨rfl, rfl⟩
  | z :: O, s + 1, h => by
    have ih := spC_at O s (by simpa using h)
    have e : spC (z :: O) = .int .i64 z.1 :: .int .i64 z.2 :: spC O := rfl
    rw [e, show (s + 1) * 2 = s * 2 + 1 + 1 from by omega, List.getElem?_cons_succ, List.getElem?_cons_succ, List.getElem?_cons_succ, List.getElem?_cons_succ]
    exact ih
theorem spC_setL : ∀ (O : List (Int × Int)) (s : Nat) (x y : Int), s < O.length → ((spC O).set (s * 2) (.int .i64 x)) = spC (O.set s (x, (O.getD s (0, 0)).2)) ∧ ((spC (O.set s (x, (O.getD s (0, 0)).2))).set (s * 2 + 1) (.int .i64 y)) = spC (O.set s (x, y)) ∧ ((spC O).set (s * 2 + 1) (.int .i64 y)) = spC (O.set s ((O.getD s (0, 0)).1, y))
  | z :: O, 0, x, y, _ => ⟨rfl, rfl, rfl⟩
  | z :: O, s + 1, x, y, h => by
    have ih := spC_setL O s x y (by simpa using h)
    have e : ∀ O, spC (z :: O) = .int .i64 z.1 :: .int .i64 z.2 :: spC O := fun _ => rfl
    have g : (z :: O).getD (s + 1) (0, 0) = O.getD s (0, 0) := rfl
    rw [g, List.set_cons_succ, List.set_cons_succ, List.set_cons_succ, e, e, e, e, show (s + 1) * 2 = s * 2 + 1 + 1 from by omega, List.set_cons_succ, List.set_cons_succ, List.set_cons_succ, List.set_cons_succ, List.set_cons_succ, List.set_cons_succ]
    exact ⟨by rw [ih.1], by rw [ih.2.1], by rw [ih.2.2]⟩
end Go.Proofs.YtcmpdmobmbbplaaGreat

/- The walk of the reference's Places. -/
namespace Go.Proofs.YtcmpdmobmbbplaaGreat
set_option maxRecDepth 4000
open Go Go.Eng
theorem rowM {w0 w : World} {M : Nat → Prop} {H : List Ck} {t : Nat} {Y : List (Value × List Int)} (hs : Sat w0 M H w) (hm : un (rowsO t Y) ∈ H) {p : Value × List Int} (hp : p ∈ Y) : ∃ a c, p.1 = .slice a p.2.length c ∧ (0 < p.2.length → ∃ g, a = some ⟨g, 0, none⟩) := by
  have h2 : w.ownsRow 0 t 1 p.1 p.2.length (ints p.2) := (hs.mem hm).1 (.ow p.1 t 1 p.2.length (ints p.2)) (List.mem_map.2 ⟨_, hp, rfl⟩)
  rcases h2.2 with ⟨h3, h4⟩ | ⟨g, cap, cur, h3, _⟩
  · exact ⟨none, 0, by rw [h3, h4], fun h => by omega⟩
  · exact ⟨_, _, h3, fun _ => ⟨g, rfl⟩⟩
theorem rowR {w0 w : World} {M : Nat → Prop} {H : List Ck} {t : Nat} {Y : List (Value × List Int)} (hs : Sat w0 M H w) (hm : un (rowsO t Y) ∈ H) {p : Value × List Int} (hp : p ∈ Y) : RdI w 0 w.heap.size p.1 p.2 :=
  own_rdI ((hs.mem hm).1 (.ow p.1 t 1 p.2.length (ints p.2)) (List.mem_map.2 ⟨_, hp, rfl⟩)) rfl
theorem sp_off (s : Nat) (j : Nat) : 0 + (s : Int).toNat * 2 + j = s * 2 + j := by rw [Int.toNat_natCast]; omega
set_option maxHeartbeats 4000000 in
theorem rplaces_ca (w : World) (lo hi : Nat) (l : Lb) (v : Value) (h : RdR w lo hi v l.runs) (hl : l.Ok) (hc0 : NoC l.ord l.n) (h6 : l.n ≤ 6) :
    Ca Tryz.prog 39 [.agg (lbC l v).toArray] w fun x w' => ∃ b : Nat, x = .slice (some ⟨b, 0, none⟩) l.n l.n ∧ Sat w M0 [.pt b (spC (plC l l.ord l.n)) 64] w' := by
  have hall := fun O hO => PlS.all hl hc0 (O := O) hO
  obtain ⟨n, en, hn', h8, h1⟩ := hl.nat
  have hfit := fun w' hr => fitting_ca w' lo hi l v hr hl h6
  rw [hn'] at hall hfit h6 ⊢
  have hXm : ∀ L ∈ FL l.ord n n, L.length = n ∧ ∀ x ∈ L, x < n := fun L hL => by
    obtain ⟨_, h2, h3⟩ := fl_has hL
    exact ⟨h3, h2⟩
  have hXb : (FL l.ord n n).length ≤ 46656 := by
    rw [← FL_eq]
    exact Nat.le_trans (List.length_filter_le _ _) (perm_len6 h6)
  obtain ⟨va, vc, rfl, _⟩ := RdR.outI h
  refine q_of (Sat.nil w M0) Tryz.func39 rfl (by simp [Tryz.ntmps39]) ?_
  (refine q_seq (q_region ?_))
  refine ql_box rfl rfl (fun b1 => ?_)
  rw [agg_cells]
  (refine ql_pure tabOk rfl rfl (q_nil (q_seq (q_region (ql_pure tabOk rfl rfl ?_)))); refine ql_loadBa tabOk rfl rfl rfl ?_)
  rw [en]
  refine ql_makeC slS rfl rfl rfl (by omega) (by omega) (by omega) (fun b3 => ?_)
  rw [show (Value.agg #[.int .i64 0, .int .i64 0]).cells = #[.int .i64 0, .int .i64 0] from rfl, made_same, spC_rep]
  (refine ql_pure tabOk rfl rfl (q_nil (q_seq (q_region ?_))); refine ql_loadABa tabOk rfl rfl rfl ?_)
  refine ql_call (β := Value × List (Value × List Int) × List (Value × List Int)) tabOk [] _ M0 rfl rfl rfl rfl (Sp.refl _) (fun _ h => h.elim) (fun w' hs => hfit w' (RdE.keep h hs.chg0)) ?_
  rintro ⟨_, Y, sel⟩ v4 ⟨rfl, hsub, hsel⟩
  dsimp only [List.cons_append, List.nil_append] at hsub hsel ⊢
  obtain ⟨X, hX⟩ : ∃ X, X = FL l.ord n n := ⟨_, rfl⟩
  rw [← hX] at hXm hXb hall hsel
  have hsl : sel.length = X.length := by have := congrArg List.length hsel; simpa using this
  refine ql_fact (fun w hs => hs.slice2 (v := v4) (by repeat constructor)) ?_
  rintro ⟨a4, c4, rfl⟩
  (refine ql_pure tabOk rfl rfl (q_nil (q_seq (q_seq (q_region (ql_pure tabOk rfl rfl (q_nil (q_block ?_))))))))
  refine q_loop (σ := Nat × List (Int × Int)) (fun z => z.1 ≤ sel.length ∧ PlS n z.2 (Dn X z.1 0)) (fun z => sel.length - z.1) (fun z => [(1, .pointer (some ⟨b1, 0, none⟩)), (3, .slice (some ⟨b3, 0, none⟩) n n), (4, .slice a4 sel.length c4), (5, .int .i64 z.1)]) (fun z => [.pt b3 (spC z.2) 64, un (rowsO 3 Y), .ow (.slice a4 sel.length c4) 48 1 sel.length (sel.map (·.1)), .pt b1 (lbC l (.slice va l.runs.length vc)) 30]) (0, List.replicate n (0, 0)) ⟨by simp, (PlS.zero n).congr fun s q => ⟨fun h => h.elim, fun h => dn_zero h⟩⟩ ⟨rfl, rfl, rfl, rfl, trivial⟩ (by repeat constructor) ?_
  rintro ⟨i, O⟩ ⟨hi', hO⟩ K hK
  dsimp only at hi' hO hK ⊢
  (refine q_seq (q_seq (q_region ?_)); (iterate 4 refine ql_pure tabOk rfl rfl ?_); refine q_nil ?_)
  refine q_if rfl (fun hc => ?_) (fun hc => ?_)
  · have hi2 : i < sel.length := by omega
    clear hc
    have hiX : i < X.length := by omega
    have hXi := hXm _ (List.getElem_mem hiX)
    obtain ⟨L, hL⟩ : ∃ L, L = X[i] := ⟨_, rfl⟩
    have hLd : X.getD i [] = L := by rw [List.getD_eq_getElem?_getD, List.getElem?_eq_getElem hiX, Option.getD_some, hL]
    rw [← hL] at hXi
    obtain ⟨hLl, hLn⟩ := hXi
    have hse : sel[i].2 = chI L := by
      have h1 : (sel.map (·.2))[i]? = (X.map chI)[i]? := by rw [hsel]
      rw [List.getElem?_map, List.getElem?_map, List.getElem?_eq_getElem hi2, List.getElem?_eq_getElem hiX, Option.map_some, Option.map_some] at h1
      rw [hL]
      exact Option.some.inj h1
    have hsY := hsub _ (List.getElem_mem hi2)
    refine q_fact (fun w hs => rowM hs (t := 3) (Y := Y) (by repeat constructor) hsY) ?_
    rintro ⟨ka, kc, ek, hka⟩
    rw [hse, chI_len, hLl] at ek hka
    obtain ⟨gk, rfl⟩ := hka (by omega)
    refine q_fact (fun w hs => hs.ownSome (v := .slice a4 sel.length c4) (by repeat constructor) (by omega)) ?_
    rintro ⟨g4, q4, ev⟩
    cases ev
    (refine q_skip (q_seq (q_block (q_seq (q_region (ql_pure tabOk rfl rfl (q_nil (q_block ?_))))))))
    refine q_loop (σ := Nat × List (Int × Int)) (fun z => z.1 ≤ n ∧ PlS n z.2 (Dn X i z.1)) (fun z => n - z.1) (fun z => [(1, .pointer (some ⟨b1, 0, none⟩)), (3, .slice (some ⟨b3, 0, none⟩) n n), (4, .slice (some ⟨g4, 0, none⟩) sel.length c4), (5, .int .i64 i), (6, .int .i64 z.1)]) (fun z => [.pt b3 (spC z.2) 64, un (rowsO 3 Y), .ow (.slice (some ⟨g4, 0, none⟩) sel.length c4) 48 1 sel.length (sel.map (·.1)), .pt b1 (lbC l (.slice va l.runs.length vc)) 30]) (0, O) ⟨by simp only; omega, hO⟩ ⟨rfl, rfl, rfl, rfl, rfl, trivial⟩ (by repeat constructor) ?_
    rintro ⟨p, O⟩ ⟨hp, hO⟩ K2 hK2
    dsimp only at hp hO hK2 ⊢
    (refine q_seq (q_seq (q_region (ql_pure tabOk rfl rfl (ql_pure tabOk rfl rfl ?_)))); refine ql_loadBa tabOk rfl rfl rfl ?_; refine ql_pure tabOk rfl rfl (q_nil ?_))
    rw [en]
    refine q_if rfl (fun hc => ?_) (fun hc => ?_)
    · have hp2 : p < n := by omega
      clear hc
      have hpL : p < L.length := by omega
      have hpc : p < (chI L).length := by rw [chI_len]; exact hpL
      have hLp := hLn _ (List.getElem_mem hpL)
      obtain ⟨s, hs'⟩ : ∃ s, s = L[p] := ⟨_, rfl⟩
      rw [← hs'] at hLp
      have hOl := hO.len
      have hsO : s < O.length := by omega
      have hsp := spC_at O s hsO
      have hstep := (hO.set (p := p) hLp).congr fun x q => (dn_succ hiX (by rw [hLd, List.getElem?_eq_getElem hpL, ← hs'] : (X.getD i [])[p]? = some s) (s := x) (q := q)).symm
      have hcl : (spC O).length = O.length * 2 := spC_length O
      obtain ⟨z, hz⟩ : ∃ z, z = O.getD s (0, 0) := ⟨_, rfl⟩
      rw [← hz] at hsp hstep
      have hpn := fun x y => spC_setL O s x y hsO
      rw [← hz] at hpn
      have hz1 := hO.at_ s hLp
      rw [← hz] at hz1
      have hzb : 0 ≤ z.1 ∧ z.1 ≤ 1000000 ∧ 0 ≤ z.2 ∧ z.2 ≤ 1000000 := by
        have hq : ∀ q, Dn X i p s q → q < n := fun q ⟨j, g1, _, g3⟩ => by
          rw [List.getD_eq_getElem?_getD, List.getElem?_eq_getElem g1, Option.getD_some] at g3
          have := (hXm _ (List.getElem_mem g1)).1
          obtain ⟨g4, _⟩ := List.getElem?_eq_some_iff.1 g3
          omega
        rcases hz1 with ⟨_, e⟩ | ⟨⟨q1, g1, g2⟩, _, ⟨q2, g3, g4⟩, _⟩
        · rw [e]; simp
        · have := hq _ g1
          have := hq _ g3
          omega
      clear hz1
      (refine q_skip (q_seq (q_block (q_seq (q_region (ql_pure tabOk rfl rfl (ql_pure tabOk rfl rfl ?_)))))))
      refine ql_index tabOk rfl rfl rfl rfl rfl (by omega) (by omega) ?_
      refine ql_load1 (v := .slice (some ⟨gk, 0, none⟩) n kc) tabOk rfl rfl rfl (fun w hs => row_cell hs (t := 48) (X := sel) (by repeat constructor) hi2 ek rfl) ?_
      (refine ql_pure tabOk rfl rfl ?_)
      refine ql_index tabOk rfl rfl rfl rfl rfl (by omega) (by omega) ?_
      refine ql_load1 (v := .int .i64 s) tabOk rfl rfl rfl (fun w hs => by
        have h9 := rowR hs (t := 3) (Y := Y) (by repeat constructor) hsY
        rw [ek, hse] at h9
        have := RdI.at h9 p hpc
        rw [show (chI L)[p] = ((L[p] : Nat) : Int) from by simp [chI], ← hs'] at this
        exact this) ?_
      (refine ql_pure tabOk rfl rfl (q_nil (q_seq (q_seq (q_region (ql_pure tabOk rfl rfl (ql_pure tabOk rfl rfl ?_)))))))
      refine ql_index tabOk rfl rfl rfl rfl rfl (by omega) (by omega) ?_
      (refine ql_pure tabOk rfl rfl ?_)
      refine ql_load1 (v := .int .i64 z.1) tabOk rfl rfl rfl (fun w hs => by rw [Blk.cell (hs.blk (b := b3) (cs := spC O) (t := 64) (by repeat constructor)), sp_off]; exact hsp.1) ?_
      by_cases h0 : z.1 = 0
      · (refine ql_eqlT tabOk rfl rfl rfl (by omega) (ql_pure tabOk rfl rfl ?_); (iterate 8 refine ql_gno rfl rfl rfl ?_); refine ql_pure tabOk rfl rfl (q_nil (q_cond_true rfl (q_region ?_))); (iterate 3 refine ql_pure tabOk rfl rfl ?_); refine ql_ar tabOk rfl rfl rfl rfl (by omega) (by omega) ?_)
        skip
        refine ql_index tabOk rfl rfl rfl rfl rfl (by omega) (by omega) ?_
        (refine ql_pure tabOk rfl rfl ?_)
        refine ql_store1 tabOk rfl rfl rfl rfl (by repeat constructor) (by omega) ?_
        rw [sp_off, Nat.add_zero, (hpn ((p : Int) + 1) 0).1]
        (refine q_nil (q_region ?_); (iterate 4 refine ql_pure tabOk rfl rfl ?_))
        refine ql_index tabOk rfl rfl rfl rfl rfl (by omega) (by omega) ?_
        (refine ql_pure tabOk rfl rfl ?_)
        refine ql_load1 (v := .int .i64 z.2) tabOk rfl rfl rfl (fun w hs => by
          rw [Blk.cell (hs.blk (b := b3) (cs := spC (O.set s ((p : Int) + 1, z.2))) (t := 64) (by repeat constructor)), sp_off]
          have := (spC_at (O.set s ((p : Int) + 1, z.2)) s (by rw [List.length_set]; exact hsO)).2
          rw [List.getD_eq_getElem?_getD, List.getElem?_set_self hsO] at this
          exact this) ?_
        (refine ql_pure tabOk rfl rfl (ql_ar tabOk rfl rfl rfl rfl (by omega) (by omega) (ql_pure tabOk rfl rfl ?_)))
        refine ql_index tabOk rfl rfl rfl rfl rfl (by omega) (by omega) ?_
        (refine ql_pure tabOk rfl rfl ?_)
        refine ql_store1 tabOk rfl rfl rfl rfl (by repeat constructor) (by rw [spC_length, List.length_set]; omega) ?_
        rw [sp_off, (hpn ((p : Int) + 1) (max z.2 ((p : Int) + 1))).2.1]
        (refine q_nil (q_blk (q_region (ql_pure tabOk rfl rfl (ql_ar tabOk rfl rfl rfl rfl (by omega) (by omega) (ql_pure tabOk rfl rfl (q_nil ?_)))))))
        exact hK2 (p + 1, O.set s ((p : Int) + 1, max z.2 ((p : Int) + 1))) _ _ ⟨by simp only; omega, by rw [show ((p : Int) + 1, max z.2 ((p : Int) + 1)) = upZ z p from by unfold upZ loU; rw [if_pos (by omega)]]; exact hstep⟩ (by simp only; omega) ⟨rfl, rfl, rfl, rfl, rfl, trivial⟩ (by repeat constructor)
      · (refine ql_eqlF tabOk rfl rfl rfl (by omega) (ql_pure tabOk rfl rfl (ql_gyes rfl (ql_pure tabOk rfl rfl (ql_gyes rfl (ql_ar tabOk rfl rfl rfl rfl (by omega) (by omega) (ql_gyes rfl (ql_pure tabOk rfl rfl (ql_gyes rfl (ql_pure tabOk rfl rfl (ql_gyes rfl ?_)))))))))))
        refine ql_index tabOk rfl rfl rfl rfl rfl (by omega) (by omega) ?_
        (refine ql_gyes rfl (ql_pure tabOk rfl rfl (ql_gyes rfl ?_)))
        refine ql_load1 (v := .int .i64 z.1) tabOk rfl rfl rfl (fun w hs => by rw [Blk.cell (hs.blk (b := b3) (cs := spC O) (t := 64) (by repeat constructor)), sp_off]; exact hsp.1) ?_
        by_cases hlt : (p : Int) + 1 < z.1
        · (refine ql_gyes rfl (ql_lssT tabOk rfl rfl rfl (by omega) (ql_pure tabOk rfl rfl (q_nil (q_cond_true rfl (q_region ?_))))); (iterate 3 refine ql_pure tabOk rfl rfl ?_); refine ql_ar tabOk rfl rfl rfl rfl (by omega) (by omega) ?_)
          skip
          refine ql_index tabOk rfl rfl rfl rfl rfl (by omega) (by omega) ?_
          (refine ql_pure tabOk rfl rfl ?_)
          refine ql_store1 tabOk rfl rfl rfl rfl (by repeat constructor) (by omega) ?_
          rw [sp_off, Nat.add_zero, (hpn ((p : Int) + 1) 0).1]
          (refine q_nil (q_region ?_); (iterate 4 refine ql_pure tabOk rfl rfl ?_))
          refine ql_index tabOk rfl rfl rfl rfl rfl (by omega) (by omega) ?_
          (refine ql_pure tabOk rfl rfl ?_)
          refine ql_load1 (v := .int .i64 z.2) tabOk rfl rfl rfl (fun w hs => by
            rw [Blk.cell (hs.blk (b := b3) (cs := spC (O.set s ((p : Int) + 1, z.2))) (t := 64) (by repeat constructor)), sp_off]
            have := (spC_at (O.set s ((p : Int) + 1, z.2)) s (by rw [List.length_set]; exact hsO)).2
            rw [List.getD_eq_getElem?_getD, List.getElem?_set_self hsO] at this
            exact this) ?_
          (refine ql_pure tabOk rfl rfl (ql_ar tabOk rfl rfl rfl rfl (by omega) (by omega) (ql_pure tabOk rfl rfl ?_)))
          refine ql_index tabOk rfl rfl rfl rfl rfl (by omega) (by omega) ?_
          (refine ql_pure tabOk rfl rfl ?_)
          refine ql_store1 tabOk rfl rfl rfl rfl (by repeat constructor) (by rw [spC_length, List.length_set]; omega) ?_
          rw [sp_off, (hpn ((p : Int) + 1) (max z.2 ((p : Int) + 1))).2.1]
          (refine q_nil (q_blk (q_region (ql_pure tabOk rfl rfl (ql_ar tabOk rfl rfl rfl rfl (by omega) (by omega) (ql_pure tabOk rfl rfl (q_nil ?_)))))))
          exact hK2 (p + 1, O.set s ((p : Int) + 1, max z.2 ((p : Int) + 1))) _ _ ⟨by simp only; omega, by rw [show ((p : Int) + 1, max z.2 ((p : Int) + 1)) = upZ z p from by unfold upZ loU; rw [if_pos (by omega)]]; exact hstep⟩ (by simp only; omega) ⟨rfl, rfl, rfl, rfl, rfl, trivial⟩ (by repeat constructor)
        · (refine ql_gyes rfl (ql_lssF tabOk rfl rfl rfl (by omega) (ql_pure tabOk rfl rfl (q_nil (q_cond_false rfl (q_skip (q_region ?_)))))); (iterate 4 refine ql_pure tabOk rfl rfl ?_))
          refine ql_index tabOk rfl rfl rfl rfl rfl (by omega) (by omega) ?_
          (refine ql_pure tabOk rfl rfl ?_)
          refine ql_load1 (v := .int .i64 z.2) tabOk rfl rfl rfl (fun w hs => by rw [Blk.cell (hs.blk (b := b3) (cs := spC O) (t := 64) (by repeat constructor)), sp_off]; exact hsp.2) ?_
          (refine ql_pure tabOk rfl rfl (ql_ar tabOk rfl rfl rfl rfl (by omega) (by omega) (ql_pure tabOk rfl rfl ?_)))
          refine ql_index tabOk rfl rfl rfl rfl rfl (by omega) (by omega) ?_
          (refine ql_pure tabOk rfl rfl ?_)
          refine ql_store1 tabOk rfl rfl rfl rfl (by repeat constructor) (by omega) ?_
          rw [sp_off, (hpn 0 (max z.2 ((p : Int) + 1))).2.2]
          (refine q_nil (q_blk (q_region (ql_pure tabOk rfl rfl (ql_ar tabOk rfl rfl rfl rfl (by omega) (by omega) (ql_pure tabOk rfl rfl (q_nil ?_)))))))
          exact hK2 (p + 1, O.set s (z.1, max z.2 ((p : Int) + 1))) _ _ ⟨by simp only; omega, by rw [show (z.1, max z.2 ((p : Int) + 1)) = upZ z p from by unfold upZ loU; rw [if_neg (by omega)]]; exact hstep⟩ (by simp only; omega) ⟨rfl, rfl, rfl, rfl, rfl, trivial⟩ (by repeat constructor)
    · obtain rfl : p = n := by omega
      clear hc hK2
      (refine q_exit _ rfl (q_blk (q_region (ql_pure tabOk rfl rfl (ql_ar tabOk rfl rfl rfl rfl (by omega) (by omega) (ql_pure tabOk rfl rfl (q_nil ?_)))))))
      exact hK (i + 1, O) _ _ ⟨by simp only; omega, hO.congr fun s q => dn_row (by rw [hLd, hLl])⟩ (by simp only; omega) ⟨rfl, rfl, rfl, rfl, trivial⟩ (by repeat constructor)
  · have hiX : i = X.length := by omega
    rw [hiX] at hO
    have hfin := hall O hO
    (refine q_exit _ rfl (q_seq (q_region (ql_pure tabOk rfl rfl (ql_pure tabOk rfl rfl (q_nil (q_ret ?_)))))))
    refine q_fin tabOk rfl (by repeat constructor) fun w hs => ?_
    exact ⟨b3, rfl, by rw [← hfin]; exact hs.sp (by repeat constructor)⟩
end Go.Proofs.YtcmpdmobmbbplaaGreat

/- Parts of lists. -/
namespace Go.Proofs.YtcmpdmobmbbplaaGreat
set_option maxRecDepth 4000
open Go Go.Eng
/-- Where a part begins. -/
def frA (a : Option Addr) (c k sz : Nat) : Option Addr := if c = k then a else a.map (·.add (k * sz))
section
variable {P : Program} {ro : Cx} {n : Nat} {F : Fin} {w0 : World} {M : Nat → Prop} {ks : List It} {ops : Array Oper} {rest : List Oper} {e : Env} {H Hq : List Ck}
end
end Go.Proofs.YtcmpdmobmbbplaaGreat

/- Walk: numbers are shuffled. -/
namespace Go.Proofs.YtcmpdmobmbbplaaGreat
set_option maxRecDepth 4000
open Go Go.Eng
theorem chI_at {l : List Nat} {i : Nat} (h : i < l.length) (h2 : i < (chI l).length) : (chI l)[i] = ((l[i] : Nat) : Int) := by simp [chI]
end Go.Proofs.YtcmpdmobmbbplaaGreat

/- Walks: what a run is worth; the next run. -/
namespace Go.Proofs.YtcmpdmobmbbplaaGreat
set_option maxRecDepth 4000
open Go Go.Eng

/-- What a run of two skis is worth. -/
def worthV (n k o a b : Nat) : Nat := if (fa o a b || fa o b a) = true then 1 + planO n k o else worthO n k o a b
/-- The pairs as they are asked. -/
def nxPairs (b a : Nat) : List (Nat × Nat) := ((List.range b).flatMap fun y => (List.range y).map fun x => (x, y)) ++ (List.range a).map fun x => (x, b)
/-- The first pair that is worth the fewest. -/
def nxV (n k o : Nat) (L : List (Nat × Nat)) : Option (Nat × Nat) := L.find? fun p => decide (worthV n k o p.1 p.2 = planO n k o)
def nxC (p : Option (Nat × Nat)) : List Value := match p with | some p => [.int .i64 p.1, .int .i64 p.2, .int .i64 0] | none => [.int .i64 0, .int .i64 0, .int .i64 0]
end Go.Proofs.YtcmpdmobmbbplaaGreat

/- Walks: the skis, the fastest one first. -/
namespace Go.Proofs.YtcmpdmobmbbplaaGreat
set_option maxRecDepth 4000
open Go Go.Eng

end Go.Proofs.YtcmpdmobmbbplaaGreat

/- The plain law of SkiPlanned: following the plan; parts of lists. -/
namespace Go.Proofs.YtcmpdmobmbbplaaGreat
set_option maxRecDepth 4000
open Go Go.Eng
/-- What the skis that are run one after the other show. -/
structure Goes (l : Lb) (N k : Nat) (L : List Nat) (r : Nat) (m : Lb) : Prop where
  ok : m.Ok
  sk : m.skis = l.skis
  err : m.err = l.err
  len : m.runs.length ≤ l.runs.length + r
  lin : LinO m.ord l.n L
  few : planO l.n k m.ord + r ≤ N
theorem Goes.n {l m : Lb} {N k r : Nat} {L : List Nat} (h : Goes l N k L r m) : m.n = l.n := by unfold Lb.n; rw [h.sk]
theorem Goes.noC {l m : Lb} {N k r : Nat} {L : List Nat} (h : Goes l N k L r m) (hl : l.Ok) : NoC m.ord m.n := by rw [h.n]; exact h.lin.noC hl.n8
theorem Goes.next {l m : Lb} {N k r : Nat} {L : List Nat} (h : Goes l N k L r m) (hl : l.Ok) (hr : l.runs.length + r < 40) {x y : Nat} (hx : x < l.n) (hy : y < l.n) (hne : x ≠ y) (hi : L.idxOf x < L.idxOf y) (hp : planO l.n k (withO m.ord x y) + 1 ≤ planO l.n k m.ord) : Goes l N k L (r + 1) (m.add ⟨x, y, m.err + 1⟩) := by
  have h2 := h.len
  have h3 := h.few
  have ho := furt_ord h.ok x y
  refine ⟨furt_ok h.ok (by rw [h.n]; exact hx) (by rw [h.n]; exact hy) hne (by omega), h.sk, h.err, ?_, ?_, ?_⟩
  · show (m.runs ++ [_]).length ≤ _
    rw [List.length_append, List.length_singleton]
    omega
  · rw [ho]
    exact h.lin.with hl.n8 hx hy hi
  · rw [ho]
    omega
/-- Where a part begins. -/
def toA (a : Option Addr) (c : Nat) : Option Addr := if c = 0 then a else a.map (·.add 0)
section
variable {P : Program} {ro : Cx} {n : Nat} {F : Fin} {w0 : World} {M : Nat → Prop} {ks : List It} {ops : Array Oper} {rest : List Oper} {e : Env} {H Hq : List Ck}
end
end Go.Proofs.YtcmpdmobmbbplaaGreat

/- Walks: the bag. -/
namespace Go.Proofs.YtcmpdmobmbbplaaGreat
set_option maxRecDepth 4000
open Go Go.Eng

abbrev bagV (b2 b6 b8 : Nat) : Value := .func (.func 149) #[] #[.pointer (some ⟨b2, 0, none⟩), .pointer (some ⟨b6, 0, none⟩), .pointer (some ⟨b8, 0, none⟩)]
/-- The variables of the search for a bag. -/
structure BagE (w : World) (b2 b6 b8 : Nat) (l R : List (List Int)) (most : Int) : Prop where
  h2 : ∃ t a c lo hi, Blk w b2 [.slice a l.length c] t ∧ RdII w lo hi (.slice a l.length c) l
  h6 : ∃ t a c lo hi, Blk w b6 [.slice a R.length c] t ∧ RdW w lo hi (.slice a R.length c) most R
  h8 : ∃ t, Blk w b8 [bagV b2 b6 b8] t
theorem BagE.keep {w w' : World} {b2 b6 b8 : Nat} {l R : List (List Int)} {most : Int} (h : BagE w b2 b6 b8 l R most) (c : Chg [] w w') : BagE w' b2 b6 b8 l R most := by
  obtain ⟨t, a, c2, lo, hi, h1, h2⟩ := h.h2
  obtain ⟨t', a', c2', lo', hi', h1', h2'⟩ := h.h6
  obtain ⟨t8, h8⟩ := h.h8
  exact ⟨⟨t, a, c2, lo, hi, h1.keep c, RdII.keep h2 c⟩, ⟨t', a', c2', lo', hi', h1'.keep c, h2'.keep c⟩, ⟨t8, h8.keep c⟩⟩
def tK31_cfbf5ab : OT := .alt (chainT [1, 2, 3, 4, 5, 0, 6, 7, 8, 9] (.nil)) (chainT [3, 4, 1, 2, 5, 0, 6, 7, 8, 9] (.nil))
end Go.Proofs.YtcmpdmobmbbplaaGreat

/- The plain law of SkiBagged: breaks that are tried. -/
namespace Go.Proofs.YtcmpdmobmbbplaaGreat
set_option maxRecDepth 4000

theorem Inc.up {m : Nat} {ch : List Nat} (h : Inc m ch) : Inc (m + 1) ch := ⟨h.1, fun x hx => by have := h.2 x hx; omega⟩
theorem Inc.push {m : Nat} {ch : List Nat} (h : Inc m ch) : Inc (m + 1) (ch ++ [m]) := by
  refine ⟨List.pairwise_append.2 ⟨h.1, List.pairwise_singleton _ _, fun x hx y hy => ?_⟩, fun x hx => ?_⟩
  · rw [List.mem_singleton.1 hy]
    exact h.2 x hx
  · rcases List.mem_append.1 hx with h1 | h1
    · have := h.2 x h1; omega
    · rw [List.mem_singleton.1 h1]; omega
end Go.Proofs.YtcmpdmobmbbplaaGreat

/- Walks: a coin; whether waxes have a good one for each snow. -/
namespace Go.Proofs.YtcmpdmobmbbplaaGreat
set_option maxRecDepth 4000
open Go Go.Eng

/-- The variables of the law's own search. -/
structure CovE (w : World) (b11 b12 b13 : Nat) (R : List (List Int)) (most : Int) (n : Nat) : Prop where
  h1 : ∃ t, Blk w b11 [.int .i64 n] t
  h2 : ∃ t, Blk w b12 [.int .i64 most] t
  h3 : ∃ t a c lo hi, Blk w b13 [.slice a R.length c] t ∧ RdII w lo hi (.slice a R.length c) R
theorem CovE.keep {w w' : World} {b11 b12 b13 n : Nat} {R : List (List Int)} {most : Int} (h : CovE w b11 b12 b13 R most n) (c : Chg [] w w') : CovE w' b11 b12 b13 R most n := by
  obtain ⟨t1, h1⟩ := h.h1
  obtain ⟨t2, h2⟩ := h.h2
  obtain ⟨t3, a, c2, lo, hi, h3, h4⟩ := h.h3
  exact ⟨⟨t1, h1.keep c⟩, ⟨t2, h2.keep c⟩, ⟨t3, a, c2, lo, hi, h3.keep c, RdII.keep h4 c⟩⟩
end Go.Proofs.YtcmpdmobmbbplaaGreat

/- SkiContradicted. -/
namespace Go.Proofs.YtcmpdmobmbbplaaGreat
set_option maxRecDepth 4000
open Go Go.Eng
def ordN (l : Lb) : Nat := if agreedV l = 0 then cnt l.ord l.n (2 ^ l.n - 1) else 0
theorem ordersA_ca (w : World) (lo hi : Nat) (l : Lb) (v : Value) (h : RdR w lo hi v l.runs) (hlen : l.runs.length ≤ maxLen) : Ca Tryz.prog 29 [.agg (lbC l v).toArray] w fun x w' => x = .tuple #[.int .i64 (ordN l : Nat), .int .i64 (agreedV l)] ∧ Chg [] w w' := by
  by_cases h0 : agreedV l = 0
  · obtain ⟨hl, hc⟩ := agreed_iff.1 h0
    have := orders_ok w lo hi l v h hl hc
    unfold ordN
    rw [h0, if_pos rfl]
    exact this
  · have := orders_no w lo hi l v h hlen h0
    unfold ordN
    rw [if_neg h0]
    exact this
/-- The lead of a run is turned. -/
def flipR (r : List Rn) (i : Nat) : List Rn := r.set i ⟨(r.getD i ⟨0, 0, 0⟩).a, (r.getD i ⟨0, 0, 0⟩).b, -(r.getD i ⟨0, 0, 0⟩).lead⟩
/-- What is told of a lab and of the runs that are to be dropped. -/
theorem agreed_noC {l : Lb} (hl : l.Ok) : agreedV l = 0 ↔ NoC l.ord l.n := by rw [agreed_iff]; exact ⟨fun h => h.2, fun h => ⟨hl, h⟩⟩
theorem agreed_seven {l : Lb} (hl : l.Ok) (h : ¬ NoC l.ord l.n) : agreedV l = 7 := by
  have h1 := check_iff.2 hl
  have h2 : conflB l.ord l.n = true := by
    cases hc : conflB l.ord l.n with
    | true => rfl
    | false => exact absurd (confl_iff.1 hc) h
  unfold agreedV
  rw [if_neg (by rw [h1]; simp), if_pos h2]
theorem wo_agreed {l : Lb} (hl : l.Ok) (D : List Nat) : agreedV (woL l D) = 0 ↔ NoC (woL l D).ord l.n := agreed_noC (wo_ok hl D)
theorem short_lt2 {l : Lb} (hl : l.Ok) {a b : Nat} {c : List Int} (h : Short l a b c) : c.length ≤ 8 := by
  have := isD_le hl (short_isD hl.e0 h)
  have := hl.n8
  omega
def smB (l : Lb) (c : List Int) (k : Nat) : Bool := (List.range k).any fun s => decide ((chainV l s s c).2 = 0) && (chainV l s s c).1
theorem sm_succ (l : Lb) (c : List Int) (k : Nat) : smB l c (k + 1) = (smB l c k || (decide ((chainV l k k c).2 = 0) && (chainV l k k c).1)) := by
  unfold smB
  rw [List.range_succ, List.any_append]
  simp
theorem sm_true {l : Lb} {c : List Int} {s n : Nat} (hs : s < n) (h : chainV l s s c = (true, 0)) : smB l c n = true := List.any_eq_true.2 ⟨s, List.mem_range.2 hs, by rw [h]; rfl⟩
end Go.Proofs.YtcmpdmobmbbplaaGreat

/- Walks: shuffles of a new deck; places and plans of any lab; what skis and runs in another order say. -/
namespace Go.Proofs.YtcmpdmobmbbplaaGreat
set_option maxRecDepth 4000
open Go Go.Eng
def plA (l : Lb) : List (Int × Int) := if agreedV l = 0 then plC l l.ord l.n else []
theorem placesA_ca (w : World) (lo hi : Nat) (l : Lb) (v : Value) (h : RdR w lo hi v l.runs) (hlen : l.runs.length ≤ maxLen) : Ca Tryz.prog 28 [.agg (lbC l v).toArray] w fun x w' => ∃ u : Value, x = .tuple #[u, .int .i64 (agreedV l)] ∧ Sat w M0 [.ow u 64 2 (plA l).length (spC (plA l))] w' := by
  by_cases h0 : agreedV l = 0
  · obtain ⟨hl, hc⟩ := agreed_iff.1 h0
    refine (places_ok w lo hi l v h hl hc).mono fun x w' ⟨u, h1, h2⟩ => ⟨u, by rw [h0]; exact h1, ?_⟩
    unfold plA
    rw [if_pos h0, plC_len]
    exact h2
  · refine (places_no w lo hi l v h hlen h0).mono fun x w' ⟨h1, h2⟩ => ⟨_, h1, ?_⟩
    unfold plA
    rw [if_neg h0]
    exact Sat.ownil ((Sat.nil w M0).keep h2) _ _
section
variable {l m : Lb} {t u : Nat → Nat} {σ : List Nat}
end
end Go.Proofs.YtcmpdmobmbbplaaGreat

/- The walk of SkiOrders. -/
namespace Go.Proofs.YtcmpdmobmbbplaaGreat
set_option maxRecDepth 4000
open Go Go.Eng
def greatB (l : Lb) (most : Int) : Bool := (decide (most < l.skis) && decide (l.skis ≤ 8)) || decide (45 < l.runs.length)
theorem great_ca (w : World) (lo hi : Nat) (l : Lb) (v : Value) (most : Int) (h : RdR w lo hi v l.runs) (hlen : l.runs.length ≤ maxLen) : Ca Tryz.prog 9 [.agg (lbC l v).toArray, .int .i64 most] w fun x w' => x = .bool (greatB l most && true) ∧ Chg [] w w' := by
  obtain ⟨va, vc, rfl, hsv⟩ := RdR.outI h
  refine q_of (Sat.nil w M0) Tryz.func9 rfl (by simp [Tryz.ntmps9]) ?_
  (refine q_seq (q_region ?_))
  refine ql_box rfl rfl (fun b2 => ?_)
  rw [agg_cells]
  unfold greatB
  by_cases h1 : most < l.skis
  · by_cases h2 : l.skis ≤ 8
    · (refine ql_pure tabOk rfl rfl (q_nil (q_seq (q_region (ql_pure tabOk rfl rfl ?_)))); refine ql_loadBa tabOk rfl rfl rfl ?_; refine ql_pure tabOk rfl rfl (ql_gtrT tabOk rfl rfl rfl (by omega) (ql_pure tabOk rfl rfl (ql_gyes rfl (ql_pure tabOk rfl rfl (ql_gyes rfl ?_))))); refine ql_loadBa tabOk rfl rfl rfl ?_; refine ql_gyes rfl (ql_leqT tabOk rfl rfl rfl (by omega) (ql_pure tabOk rfl rfl (ql_pure tabOk rfl rfl ?_))); (iterate 4 refine ql_gno rfl rfl rfl ?_); refine ql_pure tabOk rfl rfl (ql_pure tabOk rfl rfl (q_nil (q_ret ?_))))
      refine q_fin tabOk rfl (by repeat constructor) fun w hs => ?_
      exact ⟨by rw [decide_eq_true h1, decide_eq_true h2]; rfl, hs.chg0⟩
    · by_cases h3 : 45 < l.runs.length
      · (refine ql_pure tabOk rfl rfl (q_nil (q_seq (q_region (ql_pure tabOk rfl rfl ?_)))); refine ql_loadBa tabOk rfl rfl rfl ?_; refine ql_pure tabOk rfl rfl (ql_gtrT tabOk rfl rfl rfl (by omega) (ql_pure tabOk rfl rfl (ql_gyes rfl (ql_pure tabOk rfl rfl (ql_gyes rfl ?_))))); refine ql_loadBa tabOk rfl rfl rfl ?_; refine ql_gyes rfl (ql_leqF tabOk rfl rfl rfl (by omega) (ql_pure tabOk rfl rfl (ql_pure tabOk rfl rfl (ql_gyes rfl (ql_pure tabOk rfl rfl (ql_gyes rfl ?_)))))); refine ql_loadBa tabOk rfl rfl rfl ?_; refine ql_gyes rfl (ql_pure tabOk rfl rfl (ql_gyes rfl (ql_gtrT tabOk rfl rfl rfl (by omega) (ql_pure tabOk rfl rfl (ql_pure tabOk rfl rfl (q_nil (q_ret ?_))))))))
        refine q_fin tabOk rfl (by repeat constructor) fun w hs => ?_
        exact ⟨by rw [decide_eq_true h1, decide_eq_false h2, decide_eq_true h3]; rfl, hs.chg0⟩
      · (refine ql_pure tabOk rfl rfl (q_nil (q_seq (q_region (ql_pure tabOk rfl rfl ?_)))); refine ql_loadBa tabOk rfl rfl rfl ?_; refine ql_pure tabOk rfl rfl (ql_gtrT tabOk rfl rfl rfl (by omega) (ql_pure tabOk rfl rfl (ql_gyes rfl (ql_pure tabOk rfl rfl (ql_gyes rfl ?_))))); refine ql_loadBa tabOk rfl rfl rfl ?_; refine ql_gyes rfl (ql_leqF tabOk rfl rfl rfl (by omega) (ql_pure tabOk rfl rfl (ql_pure tabOk rfl rfl (ql_gyes rfl (ql_pure tabOk rfl rfl (ql_gyes rfl ?_)))))); refine ql_loadBa tabOk rfl rfl rfl ?_; refine ql_gyes rfl (ql_pure tabOk rfl rfl (ql_gyes rfl (ql_gtrF tabOk rfl rfl rfl (by omega) (ql_pure tabOk rfl rfl (ql_pure tabOk rfl rfl (q_nil (q_ret ?_))))))))
        refine q_fin tabOk rfl (by repeat constructor) fun w hs => ?_
        exact ⟨by rw [decide_eq_true h1, decide_eq_false h2, decide_eq_false h3]; rfl, hs.chg0⟩
  · by_cases h3 : 45 < l.runs.length
    · (refine ql_pure tabOk rfl rfl (q_nil (q_seq (q_region (ql_pure tabOk rfl rfl ?_)))); refine ql_loadBa tabOk rfl rfl rfl ?_; refine ql_pure tabOk rfl rfl (ql_gtrF tabOk rfl rfl rfl (by omega) (ql_pure tabOk rfl rfl ?_)); (iterate 3 refine ql_gno rfl rfl rfl ?_); refine ql_pure tabOk rfl rfl (ql_pure tabOk rfl rfl (ql_gyes rfl (ql_pure tabOk rfl rfl (ql_gyes rfl ?_)))); refine ql_loadBa tabOk rfl rfl rfl ?_; refine ql_gyes rfl (ql_pure tabOk rfl rfl (ql_gyes rfl (ql_gtrT tabOk rfl rfl rfl (by omega) (ql_pure tabOk rfl rfl (ql_pure tabOk rfl rfl (q_nil (q_ret ?_))))))))
      refine q_fin tabOk rfl (by repeat constructor) fun w hs => ?_
      exact ⟨by rw [decide_eq_false h1, decide_eq_true h3]; rfl, hs.chg0⟩
    · (refine ql_pure tabOk rfl rfl (q_nil (q_seq (q_region (ql_pure tabOk rfl rfl ?_)))); refine ql_loadBa tabOk rfl rfl rfl ?_; refine ql_pure tabOk rfl rfl (ql_gtrF tabOk rfl rfl rfl (by omega) (ql_pure tabOk rfl rfl ?_)); (iterate 3 refine ql_gno rfl rfl rfl ?_); refine ql_pure tabOk rfl rfl (ql_pure tabOk rfl rfl (ql_gyes rfl (ql_pure tabOk rfl rfl (ql_gyes rfl ?_)))); refine ql_loadBa tabOk rfl rfl rfl ?_; refine ql_gyes rfl (ql_pure tabOk rfl rfl (ql_gyes rfl (ql_gtrF tabOk rfl rfl rfl (by omega) (ql_pure tabOk rfl rfl (ql_pure tabOk rfl rfl (q_nil (q_ret ?_))))))))
      refine q_fin tabOk rfl (by repeat constructor) fun w hs => ?_
      exact ⟨by rw [decide_eq_false h1, decide_eq_false h3]; rfl, hs.chg0⟩
def firA (l : Lb) : List Nat := if agreedV l = 0 then (firF l.ord l.n l.n).1 else []
theorem first_no (w : World) (lo hi : Nat) (l : Lb) (v : Value) (h : RdR w lo hi v l.runs) (hlen : l.runs.length ≤ maxLen) (hc0 : agreedV l ≠ 0) : Ca Tryz.prog 36 [.agg (lbC l v).toArray] w fun x w' => x = .tuple #[.slice none 0 0, .int .i64 (agreedV l)] ∧ Chg [] w w' := by
  refine q_of (Sat.nil w M0) Tryz.func36 rfl (by simp [Tryz.ntmps36]) ?_
  (refine q_seq (q_region ?_))
  refine ql_box rfl rfl (fun b1 => ?_)
  rw [agg_cells]
  (refine ql_pure tabOk rfl rfl (ql_pure tabOk rfl rfl (q_nil (q_seq (q_region ?_)))); refine ql_loadABa tabOk rfl rfl rfl ?_)
  refine ql_call (β := Option Addr) tabOk [] _ M0 rfl rfl rfl rfl (Sp.refl _) (fun _ h => h.elim) (fun w' hs => agreed_no w' lo hi l v (RdE.keep h hs.chg0) hlen hc0) ?_
  rintro p _ rfl
  dsimp only [List.cons_append, List.nil_append]
  (refine ql_pure tabOk rfl rfl (ql_ext tabOk rfl rfl rfl (ql_ext tabOk rfl rfl rfl (ql_pure tabOk rfl rfl (ql_pure tabOk rfl rfl (q_nil (q_seq (q_seq (q_region (ql_pure tabOk rfl rfl (ql_neqT tabOk rfl rfl rfl (by omega) (q_nil ?_))))))))))); refine q_cond_true rfl (q_seq (q_region ?_)); (iterate 3 refine ql_pure tabOk rfl rfl ?_); refine q_nil (q_ret ?_))
  refine q_fin tabOk rfl (by repeat constructor) fun w hs => ?_
  exact ⟨rfl, hs.chg0⟩
theorem firstA_ca (w : World) (lo hi : Nat) (l : Lb) (v : Value) (h : RdR w lo hi v l.runs) (hlen : l.runs.length ≤ maxLen) : Ca Tryz.prog 36 [.agg (lbC l v).toArray] w fun x w' => ∃ u : Value, x = .tuple #[u, .int .i64 (agreedV l)] ∧ Sat w M0 [.ow u 3 1 (firA l).length (ints (chI (firA l)))] w' := by
  by_cases h0 : agreedV l = 0
  · obtain ⟨hl, hc⟩ := agreed_iff.1 h0
    have hfl := (fir_is hc hl.o hl.n8 l.n (Nat.le_refl _)).len
    refine (first_ok w lo hi l v h hl hc).mono fun x w' ⟨u, h1, h2⟩ => ⟨u, by rw [h0]; exact h1, ?_⟩
    unfold firA
    rw [if_pos h0, hfl]
    exact h2
  · refine (first_no w lo hi l v h hlen h0).mono fun x w' ⟨h1, h2⟩ => ⟨_, h1, ?_⟩
    unfold firA
    rw [if_neg h0]
    exact Sat.ownil ((Sat.nil w M0).keep h2) _ _
theorem check_vals (l : Lb) : checkV l = 0 ∨ checkV l = 1 ∨ checkV l = 2 ∨ checkV l = 3 := by
  unfold checkV
  split
  · simp
  · split
    · simp
    · split
      · simp
      · split <;> simp
def tE20_2fe5332 : OT := chainT [6, 7] (.nil)
def tE20_33bdd6c : OT := chainT [5] (tE20_2fe5332)
def tE20_c754af7 : OT := chainT [4] (tE20_2fe5332)
def tE20_33adb0d : OT := .alt (chainT [4] (tE20_33bdd6c)) (chainT [5] (tE20_c754af7))
def tE20_8587a70 : OT := chainT [2, 3] (tE20_2fe5332)
def tE20_51e9c74 : OT := .alt (chainT [2, 3] (tE20_33bdd6c)) (chainT [5] (tE20_8587a70))
def tE20_4aade5c : OT := .alt (chainT [2, 3] (tE20_c754af7)) (chainT [4] (tE20_8587a70))
def tE20_cdf2087 : OT := .alt (chainT [2, 3] (tE20_33adb0d)) (.alt (chainT [4] (tE20_51e9c74)) (chainT [5] (tE20_4aade5c)))
def tE20_8f7d4d4 : OT := chainT [0, 1] (tE20_8587a70)
def tE20_d769b30 : OT := .alt (chainT [0, 1] (tE20_51e9c74)) (chainT [5] (tE20_8f7d4d4))
def tE20_a451c87 : OT := .alt (chainT [0, 1] (tE20_4aade5c)) (chainT [4] (tE20_8f7d4d4))
def tE20_ccfc7b1 : OT := .alt (chainT [0, 1] (tE20_cdf2087)) (.alt (chainT [4] (tE20_d769b30)) (chainT [5] (tE20_a451c87)))
set_option maxRecDepth 20000 in
set_option maxHeartbeats 16000000 in
theorem skiOrders_ca (w : World) (lo hi : Nat) (l : Lb) (v : Value) (h : RdR w lo hi v l.runs) (hlen0 : l.runs.length ≤ maxLen) :
    Ca Tryz.prog 5 [.agg (lbC l v).toArray] w fun r w' => r = .bool true ∧ Chg [] w w' := by
  obtain ⟨va, vc, rfl, hsv⟩ := RdR.outI h
  refine q_of (Sat.nil w M0) Tryz.func5 rfl (by simp [Tryz.ntmps5]) ?_
  (refine q_seq (q_region ?_))
  refine ql_box rfl rfl (fun b1 => ?_)
  rw [agg_cells]
  (refine ql_pure tabOk rfl rfl (q_nil (q_seq (q_seq (q_region ?_)))); refine ql_loadABa tabOk rfl rfl rfl ?_)
  refine ql_callv (val := .bool (greatB l 6 && true)) tabOk rfl rfl rfl rfl (fun w hs => ?_) ?_; exact great_ca w lo hi l (.slice va l.runs.length vc) 6 (RdE.keep h hs.chg0) hlen0
  cases hg : greatB l 6 with
  | true =>
    (refine q_nil (q_cond_true rfl (q_seq (q_region ?_))))
    refine ql_callv (val := .bool true) tabOk rfl rfl rfl rfl (fun w hs => ?_) ?_; exact awake_ca w
    (refine ql_pure tabOk rfl rfl (q_nil (q_ret ?_)))
    refine q_fin tabOk rfl (by repeat constructor) fun w hs => ?_
    exact ⟨rfl, hs.chg0⟩
  | false =>
    have hg2 : (l.skis ≤ 6 ∨ 8 < l.skis) ∧ l.runs.length ≤ 45 := by
      unfold greatB at hg
      simp only [Bool.or_eq_false_iff, Bool.and_eq_false_imp, decide_eq_true_eq, decide_eq_false_iff_not] at hg
      omega
    obtain ⟨g1, g2⟩ := hg2
    clear hg
    (refine q_nil (q_cond_false rfl (q_skip (q_seq ?_))))
    refine q_cut (σ := Option Addr × Nat × Option Addr × Nat × Nat × Nat) (fun ⟨ua, uc, ra, rc, b3, b4⟩ => [(1, .pointer (some ⟨b1, 0, none⟩)), (3, .pointer (some ⟨b3, 0, none⟩)), (4, .pointer (some ⟨b4, 0, none⟩))])
      (fun ⟨ua, uc, ra, rc, b3, b4⟩ => [.pt b3 (lbC l (.slice ua l.runs.length uc)) 24, .pt b4 (lbC l (.slice ra l.runs.length rc)) 30, .ow (.slice ua l.runs.length uc) 40 3 l.runs.length (rnC l.runs), .ow (.slice ra l.runs.length rc) 113 3 l.runs.length (rnC l.runs), .pt b1 (lbC l (.slice va l.runs.length vc)) 24]) ?_ ?_
    rotate_left
    · intro K2 hK2
      refine q_drawT (tE20_ccfc7b1) _ [] (Sp.refl _) (by kernel_rfl) (by kernel_rfl) ?_
      refine qt_let (σ := Option Addr × Nat × Option Addr × Nat × Nat × Nat × Unit) (.nil) (fun ⟨ua, uc, ra, rc, b3, b4, ()⟩ => [(1, .pointer (some ⟨b1, 0, none⟩)), (3, .pointer (some ⟨b3, 0, none⟩)), (4, .pointer (some ⟨b4, 0, none⟩))]) (fun ⟨ua, uc, ra, rc, b3, b4, ()⟩ => [.pt b3 (lbC l (.slice ua l.runs.length uc)) 24, .pt b4 (lbC l (.slice ra l.runs.length rc)) 30, .ow (.slice ua l.runs.length uc) 40 3 l.runs.length (rnC l.runs), .ow (.slice ra l.runs.length rc) 113 3 l.runs.length (rnC l.runs)]) ?_ (fun hS1_3_4_5_7 => ?_)
      · rintro ⟨ua, uc, ra, rc, b3, b4, _⟩
        exact qt_nil (hK2 ⟨ua, uc, ra, rc, b3, b4⟩ _ _ ⟨rfl, rfl, rfl, trivial⟩ (by repeat constructor))
      refine qt_let (σ := Option Addr × Nat × Option Addr × Nat × Nat × Nat × Unit) (tE20_2fe5332) (fun ⟨ua, uc, ra, rc, b3, b4, ()⟩ => [(1, .pointer (some ⟨b1, 0, none⟩)), (3, .pointer (some ⟨b3, 0, none⟩)), (4, .pointer (some ⟨b4, 0, none⟩)), (26, .agg (lbC l (.slice ua l.runs.length uc)).toArray), (28, .agg (lbC l (.slice ra l.runs.length rc)).toArray)]) (fun ⟨ua, uc, ra, rc, b3, b4, ()⟩ => [.pt b3 [.int .i64 0, .int .i64 0, .slice none 0 0] 24, .pt b4 [.int .i64 0, .int .i64 0, .slice none 0 0] 30, .ow (.slice ua l.runs.length uc) 40 3 l.runs.length (rnC l.runs), .ow (.slice ra l.runs.length rc) 113 3 l.runs.length (rnC l.runs)]) ?_ (fun hS1_3_4_5 => ?_)
      · rintro ⟨ua, uc, ra, rc, b3, b4, _⟩
        refine qt_seg (by repeat (first | exact PickL.nil | (apply PickL.cons; rfl))) fun K1 hK1 => ?_
        ((iterate 2 refine qf_setA tabOk rfl rfl rfl rfl rfl (by repeat constructor) rfl ?_); refine qf_nil ?_)
        skip
        exact hK1 _ _ (hS1_3_4_5_7 ⟨ua, uc, ra, rc, b3, b4, ()⟩ _ _ ⟨rfl, rfl, rfl, trivial⟩ (by repeat constructor))
      refine qt_let (σ := Option Addr × Nat × Option Addr × Nat × Nat × Unit) (tE20_33bdd6c) (fun ⟨ua, uc, ra, rc, b3, ()⟩ => [(1, .pointer (some ⟨b1, 0, none⟩)), (3, .pointer (some ⟨b3, 0, none⟩)), (26, .agg (lbC l (.slice ua l.runs.length uc)).toArray), (28, .agg (lbC l (.slice ra l.runs.length rc)).toArray)]) (fun ⟨ua, uc, ra, rc, b3, ()⟩ => [.pt b3 [.int .i64 0, .int .i64 0, .slice none 0 0] 24, .ow (.slice ua l.runs.length uc) 40 3 l.runs.length (rnC l.runs), .ow (.slice ra l.runs.length rc) 113 3 l.runs.length (rnC l.runs)]) ?_ (fun hS1_3_4 => ?_)
      · rintro ⟨ua, uc, ra, rc, b3, _⟩
        refine qt_seg (by repeat (first | exact PickL.nil | (apply PickL.cons; rfl))) fun K1 hK1 => ?_
        skip
        refine qf_alloc zero30 rfl (fun b4 => ?_)
        (refine qf_nil ?_)
        exact hK1 _ _ (hS1_3_4_5 ⟨ua, uc, ra, rc, b3, b4, ()⟩ _ _ ⟨rfl, rfl, rfl, rfl, rfl, trivial⟩ (by repeat constructor))
      refine qt_let (σ := Option Addr × Nat × Option Addr × Nat × Nat × Unit) (tE20_c754af7) (fun ⟨ua, uc, ra, rc, b4, ()⟩ => [(1, .pointer (some ⟨b1, 0, none⟩)), (4, .pointer (some ⟨b4, 0, none⟩)), (26, .agg (lbC l (.slice ua l.runs.length uc)).toArray), (28, .agg (lbC l (.slice ra l.runs.length rc)).toArray)]) (fun ⟨ua, uc, ra, rc, b4, ()⟩ => [.pt b4 [.int .i64 0, .int .i64 0, .slice none 0 0] 30, .ow (.slice ua l.runs.length uc) 40 3 l.runs.length (rnC l.runs), .ow (.slice ra l.runs.length rc) 113 3 l.runs.length (rnC l.runs)]) ?_ (fun hS1_3_5 => ?_)
      · rintro ⟨ua, uc, ra, rc, b4, _⟩
        refine qt_seg (by repeat (first | exact PickL.nil | (apply PickL.cons; rfl))) fun K1 hK1 => ?_
        skip
        refine qf_alloc zero24 rfl (fun b3 => ?_)
        (refine qf_nil ?_)
        exact hK1 _ _ (hS1_3_4_5 ⟨ua, uc, ra, rc, b3, b4, ()⟩ _ _ ⟨rfl, rfl, rfl, rfl, rfl, trivial⟩ (by repeat constructor))
      refine qt_let (σ := Option Addr × Nat × Nat × Nat × Unit) (tE20_8587a70) (fun ⟨ua, uc, b3, b4, ()⟩ => [(1, .pointer (some ⟨b1, 0, none⟩)), (3, .pointer (some ⟨b3, 0, none⟩)), (4, .pointer (some ⟨b4, 0, none⟩)), (26, .agg (lbC l (.slice ua l.runs.length uc)).toArray)]) (fun ⟨ua, uc, b3, b4, ()⟩ => [.pt b3 [.int .i64 0, .int .i64 0, .slice none 0 0] 24, .pt b4 [.int .i64 0, .int .i64 0, .slice none 0 0] 30, .ow (.slice ua l.runs.length uc) 40 3 l.runs.length (rnC l.runs)]) ?_ (fun hS1_4_5 => ?_)
      · rintro ⟨ua, uc, b3, b4, _⟩
        refine qt_seg (by repeat (first | exact PickL.nil | (apply PickL.cons; rfl))) fun K1 hK1 => ?_
        (refine qf_loadABa tabOk rfl rfl rfl ?_)
        refine qf_call (β := Value) tabOk [] _ M0 rfl rfl rfl rfl (Sp.refl _) (fun _ h => h.elim) (fun w' hs => rlab_ca w' lo hi l _ (RdE.keep h hs.chg0) (by omega)) ?_
        rintro z3 _ rfl
        dsimp only [List.cons_append, List.nil_append]
        refine qf_fact (fun w hs => hs.slice2 (v := z3) (by repeat constructor)) ?_
        rintro ⟨ra, rc, rfl⟩
        (refine qf_nil ?_)
        exact hK1 _ _ (hS1_3_4_5 ⟨ua, uc, ra, rc, b3, b4, ()⟩ _ _ ⟨rfl, rfl, rfl, rfl, rfl, trivial⟩ (by repeat constructor))
      refine qt_let (σ := Option Addr × Nat × Option Addr × Nat × Unit) (tE20_33adb0d) (fun ⟨ua, uc, ra, rc, ()⟩ => [(1, .pointer (some ⟨b1, 0, none⟩)), (26, .agg (lbC l (.slice ua l.runs.length uc)).toArray), (28, .agg (lbC l (.slice ra l.runs.length rc)).toArray)]) (fun ⟨ua, uc, ra, rc, ()⟩ => [.ow (.slice ua l.runs.length uc) 40 3 l.runs.length (rnC l.runs), .ow (.slice ra l.runs.length rc) 113 3 l.runs.length (rnC l.runs)]) ?_ (fun hS1_3 => ?_)
      · rintro ⟨ua, uc, ra, rc, _⟩
        refine qt_alt ?_ ?_
        · skip
          refine qt_seg (by repeat (first | exact PickL.nil | (apply PickL.cons; rfl))) fun K1 hK1 => ?_
          skip
          refine qf_alloc zero24 rfl (fun b3 => ?_)
          (refine qf_nil ?_)
          exact hK1 _ _ (hS1_3_4 ⟨ua, uc, ra, rc, b3, ()⟩ _ _ ⟨rfl, rfl, rfl, rfl, trivial⟩ (by repeat constructor))
        · skip
          refine qt_seg (by repeat (first | exact PickL.nil | (apply PickL.cons; rfl))) fun K1 hK1 => ?_
          skip
          refine qf_alloc zero30 rfl (fun b4 => ?_)
          (refine qf_nil ?_)
          exact hK1 _ _ (hS1_3_5 ⟨ua, uc, ra, rc, b4, ()⟩ _ _ ⟨rfl, rfl, rfl, rfl, trivial⟩ (by repeat constructor))
      refine qt_let (σ := Option Addr × Nat × Nat × Unit) (tE20_51e9c74) (fun ⟨ua, uc, b3, ()⟩ => [(1, .pointer (some ⟨b1, 0, none⟩)), (3, .pointer (some ⟨b3, 0, none⟩)), (26, .agg (lbC l (.slice ua l.runs.length uc)).toArray)]) (fun ⟨ua, uc, b3, ()⟩ => [.pt b3 [.int .i64 0, .int .i64 0, .slice none 0 0] 24, .ow (.slice ua l.runs.length uc) 40 3 l.runs.length (rnC l.runs)]) ?_ (fun hS1_4 => ?_)
      · rintro ⟨ua, uc, b3, _⟩
        refine qt_alt ?_ ?_
        · skip
          refine qt_seg (by repeat (first | exact PickL.nil | (apply PickL.cons; rfl))) fun K1 hK1 => ?_
          (refine qf_loadABa tabOk rfl rfl rfl ?_)
          refine qf_call (β := Value) tabOk [] _ M0 rfl rfl rfl rfl (Sp.refl _) (fun _ h => h.elim) (fun w' hs => rlab_ca w' lo hi l _ (RdE.keep h hs.chg0) (by omega)) ?_
          rintro z3 _ rfl
          dsimp only [List.cons_append, List.nil_append]
          refine qf_fact (fun w hs => hs.slice2 (v := z3) (by repeat constructor)) ?_
          rintro ⟨ra, rc, rfl⟩
          (refine qf_nil ?_)
          exact hK1 _ _ (hS1_3_4 ⟨ua, uc, ra, rc, b3, ()⟩ _ _ ⟨rfl, rfl, rfl, rfl, trivial⟩ (by repeat constructor))
        · skip
          refine qt_seg (by repeat (first | exact PickL.nil | (apply PickL.cons; rfl))) fun K1 hK1 => ?_
          skip
          refine qf_alloc zero30 rfl (fun b4 => ?_)
          (refine qf_nil ?_)
          exact hK1 _ _ (hS1_4_5 ⟨ua, uc, b3, b4, ()⟩ _ _ ⟨rfl, rfl, rfl, rfl, trivial⟩ (by repeat constructor))
      refine qt_let (σ := Option Addr × Nat × Nat × Unit) (tE20_4aade5c) (fun ⟨ua, uc, b4, ()⟩ => [(1, .pointer (some ⟨b1, 0, none⟩)), (4, .pointer (some ⟨b4, 0, none⟩)), (26, .agg (lbC l (.slice ua l.runs.length uc)).toArray)]) (fun ⟨ua, uc, b4, ()⟩ => [.pt b4 [.int .i64 0, .int .i64 0, .slice none 0 0] 30, .ow (.slice ua l.runs.length uc) 40 3 l.runs.length (rnC l.runs)]) ?_ (fun hS1_5 => ?_)
      · rintro ⟨ua, uc, b4, _⟩
        refine qt_alt ?_ ?_
        · skip
          refine qt_seg (by repeat (first | exact PickL.nil | (apply PickL.cons; rfl))) fun K1 hK1 => ?_
          (refine qf_loadABa tabOk rfl rfl rfl ?_)
          refine qf_call (β := Value) tabOk [] _ M0 rfl rfl rfl rfl (Sp.refl _) (fun _ h => h.elim) (fun w' hs => rlab_ca w' lo hi l _ (RdE.keep h hs.chg0) (by omega)) ?_
          rintro z3 _ rfl
          dsimp only [List.cons_append, List.nil_append]
          refine qf_fact (fun w hs => hs.slice2 (v := z3) (by repeat constructor)) ?_
          rintro ⟨ra, rc, rfl⟩
          (refine qf_nil ?_)
          exact hK1 _ _ (hS1_3_5 ⟨ua, uc, ra, rc, b4, ()⟩ _ _ ⟨rfl, rfl, rfl, rfl, trivial⟩ (by repeat constructor))
        · skip
          refine qt_seg (by repeat (first | exact PickL.nil | (apply PickL.cons; rfl))) fun K1 hK1 => ?_
          skip
          refine qf_alloc zero24 rfl (fun b3 => ?_)
          (refine qf_nil ?_)
          exact hK1 _ _ (hS1_4_5 ⟨ua, uc, b3, b4, ()⟩ _ _ ⟨rfl, rfl, rfl, rfl, trivial⟩ (by repeat constructor))
      refine qt_let (σ := Nat × Nat × Unit) (tE20_8f7d4d4) (fun ⟨b3, b4, ()⟩ => [(1, .pointer (some ⟨b1, 0, none⟩)), (3, .pointer (some ⟨b3, 0, none⟩)), (4, .pointer (some ⟨b4, 0, none⟩))]) (fun ⟨b3, b4, ()⟩ => [.pt b3 [.int .i64 0, .int .i64 0, .slice none 0 0] 24, .pt b4 [.int .i64 0, .int .i64 0, .slice none 0 0] 30]) ?_ (fun hS4_5 => ?_)
      · rintro ⟨b3, b4, _⟩
        refine qt_seg (by repeat (first | exact PickL.nil | (apply PickL.cons; rfl))) fun K1 hK1 => ?_
        (refine qf_loadABa tabOk rfl rfl rfl ?_)
        refine qf_call (β := Value) tabOk [] _ M0 rfl rfl rfl rfl (Sp.refl _) (fun _ h => h.elim) (fun w' hs => cloneL_ca w' lo hi l _ (RdE.keep h hs.chg0) (by omega)) ?_
        rintro z1 _ rfl
        dsimp only [List.cons_append, List.nil_append]
        refine qf_fact (fun w hs => hs.slice2 (v := z1) (by repeat constructor)) ?_
        rintro ⟨ua, uc, rfl⟩
        (refine qf_nil ?_)
        exact hK1 _ _ (hS1_4_5 ⟨ua, uc, b3, b4, ()⟩ _ _ ⟨rfl, rfl, rfl, rfl, trivial⟩ (by repeat constructor))
      refine qt_let (σ := Option Addr × Nat × Unit) (tE20_cdf2087) (fun ⟨ua, uc, ()⟩ => [(1, .pointer (some ⟨b1, 0, none⟩)), (26, .agg (lbC l (.slice ua l.runs.length uc)).toArray)]) (fun ⟨ua, uc, ()⟩ => [.ow (.slice ua l.runs.length uc) 40 3 l.runs.length (rnC l.runs)]) ?_ (fun hS1 => ?_)
      · rintro ⟨ua, uc, _⟩
        refine qt_alt ?_ (qt_alt ?_ ?_)
        · skip
          refine qt_seg (by repeat (first | exact PickL.nil | (apply PickL.cons; rfl))) fun K1 hK1 => ?_
          (refine qf_loadABa tabOk rfl rfl rfl ?_)
          refine qf_call (β := Value) tabOk [] _ M0 rfl rfl rfl rfl (Sp.refl _) (fun _ h => h.elim) (fun w' hs => rlab_ca w' lo hi l _ (RdE.keep h hs.chg0) (by omega)) ?_
          rintro z3 _ rfl
          dsimp only [List.cons_append, List.nil_append]
          refine qf_fact (fun w hs => hs.slice2 (v := z3) (by repeat constructor)) ?_
          rintro ⟨ra, rc, rfl⟩
          (refine qf_nil ?_)
          exact hK1 _ _ (hS1_3 ⟨ua, uc, ra, rc, ()⟩ _ _ ⟨rfl, rfl, rfl, trivial⟩ (by repeat constructor))
        · skip
          refine qt_seg (by repeat (first | exact PickL.nil | (apply PickL.cons; rfl))) fun K1 hK1 => ?_
          skip
          refine qf_alloc zero24 rfl (fun b3 => ?_)
          (refine qf_nil ?_)
          exact hK1 _ _ (hS1_4 ⟨ua, uc, b3, ()⟩ _ _ ⟨rfl, rfl, rfl, trivial⟩ (by repeat constructor))
        · skip
          refine qt_seg (by repeat (first | exact PickL.nil | (apply PickL.cons; rfl))) fun K1 hK1 => ?_
          skip
          refine qf_alloc zero30 rfl (fun b4 => ?_)
          (refine qf_nil ?_)
          exact hK1 _ _ (hS1_5 ⟨ua, uc, b4, ()⟩ _ _ ⟨rfl, rfl, rfl, trivial⟩ (by repeat constructor))
      refine qt_let (σ := Nat × Unit) (tE20_d769b30) (fun ⟨b3, ()⟩ => [(1, .pointer (some ⟨b1, 0, none⟩)), (3, .pointer (some ⟨b3, 0, none⟩))]) (fun ⟨b3, ()⟩ => [.pt b3 [.int .i64 0, .int .i64 0, .slice none 0 0] 24]) ?_ (fun hS4 => ?_)
      · rintro ⟨b3, _⟩
        refine qt_alt ?_ ?_
        · skip
          refine qt_seg (by repeat (first | exact PickL.nil | (apply PickL.cons; rfl))) fun K1 hK1 => ?_
          (refine qf_loadABa tabOk rfl rfl rfl ?_)
          refine qf_call (β := Value) tabOk [] _ M0 rfl rfl rfl rfl (Sp.refl _) (fun _ h => h.elim) (fun w' hs => cloneL_ca w' lo hi l _ (RdE.keep h hs.chg0) (by omega)) ?_
          rintro z1 _ rfl
          dsimp only [List.cons_append, List.nil_append]
          refine qf_fact (fun w hs => hs.slice2 (v := z1) (by repeat constructor)) ?_
          rintro ⟨ua, uc, rfl⟩
          (refine qf_nil ?_)
          exact hK1 _ _ (hS1_4 ⟨ua, uc, b3, ()⟩ _ _ ⟨rfl, rfl, rfl, trivial⟩ (by repeat constructor))
        · skip
          refine qt_seg (by repeat (first | exact PickL.nil | (apply PickL.cons; rfl))) fun K1 hK1 => ?_
          skip
          refine qf_alloc zero30 rfl (fun b4 => ?_)
          (refine qf_nil ?_)
          exact hK1 _ _ (hS4_5 ⟨b3, b4, ()⟩ _ _ ⟨rfl, rfl, rfl, trivial⟩ (by repeat constructor))
      refine qt_let (σ := Nat × Unit) (tE20_a451c87) (fun ⟨b4, ()⟩ => [(1, .pointer (some ⟨b1, 0, none⟩)), (4, .pointer (some ⟨b4, 0, none⟩))]) (fun ⟨b4, ()⟩ => [.pt b4 [.int .i64 0, .int .i64 0, .slice none 0 0] 30]) ?_ (fun hS5 => ?_)
      · rintro ⟨b4, _⟩
        refine qt_alt ?_ ?_
        · skip
          refine qt_seg (by repeat (first | exact PickL.nil | (apply PickL.cons; rfl))) fun K1 hK1 => ?_
          (refine qf_loadABa tabOk rfl rfl rfl ?_)
          refine qf_call (β := Value) tabOk [] _ M0 rfl rfl rfl rfl (Sp.refl _) (fun _ h => h.elim) (fun w' hs => cloneL_ca w' lo hi l _ (RdE.keep h hs.chg0) (by omega)) ?_
          rintro z1 _ rfl
          dsimp only [List.cons_append, List.nil_append]
          refine qf_fact (fun w hs => hs.slice2 (v := z1) (by repeat constructor)) ?_
          rintro ⟨ua, uc, rfl⟩
          (refine qf_nil ?_)
          exact hK1 _ _ (hS1_5 ⟨ua, uc, b4, ()⟩ _ _ ⟨rfl, rfl, rfl, trivial⟩ (by repeat constructor))
        · skip
          refine qt_seg (by repeat (first | exact PickL.nil | (apply PickL.cons; rfl))) fun K1 hK1 => ?_
          skip
          refine qf_alloc zero24 rfl (fun b3 => ?_)
          (refine qf_nil ?_)
          exact hK1 _ _ (hS4_5 ⟨b3, b4, ()⟩ _ _ ⟨rfl, rfl, rfl, trivial⟩ (by repeat constructor))
      refine qt_alt ?_ (qt_alt ?_ ?_)
      · skip
        refine qt_seg (by repeat (first | exact PickL.nil | (apply PickL.cons; rfl))) fun K1 hK1 => ?_
        (refine qf_loadABa tabOk rfl rfl rfl ?_)
        refine qf_call (β := Value) tabOk [] _ M0 rfl rfl rfl rfl (Sp.refl _) (fun _ h => h.elim) (fun w' hs => cloneL_ca w' lo hi l _ (RdE.keep h hs.chg0) (by omega)) ?_
        rintro z1 _ rfl
        dsimp only [List.cons_append, List.nil_append]
        refine qf_fact (fun w hs => hs.slice2 (v := z1) (by repeat constructor)) ?_
        rintro ⟨ua, uc, rfl⟩
        (refine qf_nil ?_)
        exact hK1 _ _ (hS1 ⟨ua, uc, ()⟩ _ _ ⟨rfl, rfl, trivial⟩ (by repeat constructor))
      · skip
        refine qt_seg (by repeat (first | exact PickL.nil | (apply PickL.cons; rfl))) fun K1 hK1 => ?_
        skip
        refine qf_alloc zero24 rfl (fun b3 => ?_)
        (refine qf_nil ?_)
        exact hK1 _ _ (hS4 ⟨b3, ()⟩ _ _ ⟨rfl, rfl, trivial⟩ (by repeat constructor))
      · skip
        refine qt_seg (by repeat (first | exact PickL.nil | (apply PickL.cons; rfl))) fun K1 hK1 => ?_
        skip
        refine qf_alloc zero30 rfl (fun b4 => ?_)
        (refine qf_nil ?_)
        exact hK1 _ _ (hS5 ⟨b4, ()⟩ _ _ ⟨rfl, rfl, trivial⟩ (by repeat constructor))
    rintro ⟨ua, uc, ra, rc, b3, b4⟩
    dsimp only
    have hlen : l.runs.length ≤ maxLen := hlen0
    (refine q_seq ?_)
    refine q_draw _ [] (Sp.refl _) (by kernel_rfl) (by kernel_rfl) ?_
    (refine qf_loadABa tabOk rfl rfl rfl ?_)
    refine qf_callv (val := .int .i64 (checkV l)) tabOk rfl rfl rfl rfl (fun w hs => ?_) ?_; exact rcheck_ca w 0 w.heap.size l (.slice ra l.runs.length rc) (runs_rdK hs (v := .slice ra l.runs.length rc) (t := 113) (l := l.runs) (by repeat constructor) rfl) hlen
    (refine qf_loadABa tabOk rfl rfl rfl ?_)
    refine qf_callv (val := .int .i64 (agreedV l)) tabOk rfl rfl rfl rfl (fun w hs => ?_) ?_; exact ragreed_ca w 0 w.heap.size l (.slice ra l.runs.length rc) (runs_rdK hs (v := .slice ra l.runs.length rc) (t := 113) (l := l.runs) (by repeat constructor) rfl) hlen
    (refine qf_pure tabOk rfl rfl rfl (qf_pure tabOk rfl rfl rfl (qf_nil (q_seq (q_region ?_)))); refine ql_loadABa tabOk rfl rfl rfl ?_)
    refine ql_call (β := Value × List Int × Int) tabOk [] _ M0 rfl rfl rfl rfl (Sp.refl _) (fun _ h => h.elim) (fun w' hs => round_ca w' 0 w'.heap.size l (.slice ua l.runs.length uc) (runs_rdK hs (v := .slice ua l.runs.length uc) (t := 40) (l := l.runs) (by repeat constructor) rfl) hlen) ?_
    rintro ⟨v36, c36, e36⟩ _ ⟨rfl, hro⟩
    dsimp only [List.cons_append, List.nil_append] at hro ⊢
    refine ql_fact (fun w hs => hs.slice2 (v := v36) (by repeat constructor)) ?_
    rintro ⟨a36, q36, rfl⟩
    obtain ⟨ck, hckE⟩ : ∃ ck, checkV l = ck := ⟨_, rfl⟩
    obtain ⟨ag, hagE⟩ : ∃ ag, agreedV l = ag := ⟨_, rfl⟩
    rw [hckE, hagE]
    have hcv := check_vals l
    rw [hckE] at hcv
    have hc1 : ck = 0 → l.Ok := fun h => check_iff.1 (hckE.trans h)
    have hc2 : ck ≠ 0 → ag = ck := fun h => by rw [← hagE]; unfold agreedV; rw [hckE, if_pos h]
    have hc3 : ag = 0 → l.Ok ∧ NoC l.ord l.n := fun h => agreed_iff.1 (hagE.trans h)
    (refine ql_pure tabOk rfl rfl (ql_ext tabOk rfl rfl rfl (ql_ext tabOk rfl rfl rfl (ql_pure tabOk rfl rfl (ql_pure tabOk rfl rfl (q_nil (q_seq ?_)))))))
    refine q_cut (σ := Unit) (fun _ => [(1, .pointer (some ⟨b1, 0, none⟩)), (3, .pointer (some ⟨b3, 0, none⟩)), (4, .pointer (some ⟨b4, 0, none⟩)), (5, .int .i64 ck), (6, .int .i64 ag)]) (fun _ => [.pt b3 (lbC l (.slice ua l.runs.length uc)) 24, .pt b4 (lbC l (.slice ra l.runs.length rc)) 30, .ow (.slice ua l.runs.length uc) 40 3 l.runs.length (rnC l.runs), .ow (.slice ra l.runs.length rc) 113 3 l.runs.length (rnC l.runs), .pt b1 (lbC l (.slice va l.runs.length vc)) 24]) ?_ ?_
    rotate_left
    · intro K2 hK2
      by_cases hck : ck = 0
      · have hok := hc1 hck
        by_cases hnc : NoC l.ord l.n
        · obtain rfl : ag = 0 := by rw [← hagE]; exact (agreed_noC hok).2 hnc
          have he : e36 = 6 ∧ c36 = [] := by
            rcases hro with ⟨h1, _⟩ | ⟨_, _, h3, h4⟩ | ⟨_, _, s, h3, h4, _⟩
            · exact absurd (hckE.trans hck) h1
            · exact ⟨h4, h3⟩
            · exact absurd (hnc s h3) (by rw [h4]; simp)
          obtain ⟨rfl, rfl⟩ := he
          subst hck
          (refine q_block (q_seq (q_region (ql_pure tabOk rfl rfl (ql_eqlF tabOk rfl rfl rfl (by omega) (ql_pure tabOk rfl rfl (q_nil (q_cond_false rfl (q_seq (q_region (ql_pure tabOk rfl rfl (ql_eqlT tabOk rfl rfl rfl (by omega) ?_))))))))))); refine ql_pure tabOk rfl rfl (q_nil (q_cond_true rfl (q_seq (q_region (ql_pure tabOk rfl rfl (ql_neqF tabOk rfl rfl rfl (by omega) (ql_pure tabOk rfl rfl (ql_gyes rfl (ql_pure tabOk rfl rfl (ql_gyes rfl (ql_pure tabOk rfl rfl ?_))))))))))); refine ql_gyes rfl (ql_pure tabOk rfl rfl (ql_pure tabOk rfl rfl (q_nil (q_cond_false rfl (q_skip (q_blk ?_)))))))
          exact hK2 () _ _ ⟨rfl, rfl, rfl, rfl, rfl, trivial⟩ (by repeat constructor)
        · obtain rfl : ag = 7 := by rw [← hagE]; exact agreed_seven hok hnc
          subst hck
          obtain ⟨he, s0, hs0, _, hsh⟩ : e36 = 0 ∧ ∃ s : Nat, s < l.n ∧ fa l.ord s s = true ∧ Short l s s c36 := by
            rcases hro with ⟨h1, _⟩ | ⟨_, h3, _⟩ | ⟨_, h⟩
            · exact absurd hckE h1
            · exact absurd h3 hnc
            · exact h
          obtain ⟨sk, hls, hln, h8, h1⟩ := hok.nat
          have hsl := short_lt2 hok hsh
          have hsm0 := sm_true (n := sk) (by omega) (short_shows (two_ok' hok hs0 hs0) hsh)
          subst he
          (refine q_block (q_seq (q_region (ql_pure tabOk rfl rfl (ql_eqlT tabOk rfl rfl rfl (by omega) (ql_pure tabOk rfl rfl (q_nil (q_cond_true rfl (q_seq (q_region (ql_pure tabOk rfl rfl (q_nil ?_))))))))))); refine q_seq (q_seq (q_region (ql_pure tabOk rfl rfl ?_))); refine ql_loadBa tabOk rfl rfl rfl ?_; refine ql_pure tabOk rfl rfl (q_nil (q_block ?_)))
          rw [hls]
          refine q_loop (σ := Nat) (fun k => k ≤ sk) (fun k => sk - k) (fun k => [(1, .pointer (some ⟨b1, 0, none⟩)), (3, .pointer (some ⟨b3, 0, none⟩)), (4, .pointer (some ⟨b4, 0, none⟩)), (5, .int .i64 0), (6, .int .i64 7), (7, .slice a36 c36.length q36), (8, .int .i64 0), (9, .bool (smB l c36 k)), (42, .int .i64 sk), (43, .int .i64 k)]) (fun _ => [.ow (.slice a36 c36.length q36) 3 1 c36.length (ints c36), .pt b3 (lbC l (.slice ua l.runs.length uc)) 24, .pt b4 (lbC l (.slice ra l.runs.length rc)) 30, .ow (.slice ua l.runs.length uc) 40 3 l.runs.length (rnC l.runs), .ow (.slice ra l.runs.length rc) 113 3 l.runs.length (rnC l.runs), .pt b1 (lbC l (.slice va l.runs.length vc)) 24]) 0 (by omega) ⟨rfl, rfl, rfl, rfl, rfl, rfl, rfl, rfl, rfl, rfl, trivial⟩ (by repeat constructor) ?_
          rintro k hk K hK
          (refine q_seq (q_region (ql_pure tabOk rfl rfl (q_nil (q_seq ?_)))))
          refine q_if rfl (fun hc => ?_) (fun hc => ?_)
          · have hk2 : k < sk := by omega
            clear hc
            have hsc := sm_succ l c36 k
            (refine q_skip (q_seq (q_block (q_seq (q_region (ql_pure tabOk rfl rfl (ql_pure tabOk rfl rfl (q_nil (q_seq (q_region ?_))))))))); refine ql_loadABa tabOk rfl rfl rfl ?_; (iterate 3 refine ql_pure tabOk rfl rfl ?_))
            refine ql_callv (val := .tuple #[.bool (chainV l k k c36).1, .int .i64 (chainV l k k c36).2]) tabOk rfl rfl rfl rfl (fun w hs => ?_) ?_; exact rchain_ca w 0 w.heap.size 0 w.heap.size l (.slice ra l.runs.length rc) k k (.slice a36 c36.length q36) c36 (runs_rdK hs (v := .slice ra l.runs.length rc) (t := 113) (l := l.runs) (by repeat constructor) rfl) hlen (hs.rdI (v := .slice a36 c36.length q36) (l := c36) (t := 3) (n := c36.length) (by repeat constructor) rfl) (by omega)
            generalize chainV l k k c36 = cv at hsc ⊢
            obtain ⟨is, er⟩ := cv
            dsimp only at hsc ⊢
            cases hb : smB l c36 k with
            | true =>
              rw [hb, Bool.true_or] at hsc
              (refine ql_pure tabOk rfl rfl (ql_ext tabOk rfl rfl rfl (ql_ext tabOk rfl rfl rfl (ql_pure tabOk rfl rfl (ql_pure tabOk rfl rfl (q_nil (q_region (ql_pure tabOk rfl rfl (ql_pure tabOk rfl rfl ?_)))))))); (iterate 3 refine ql_gno rfl rfl rfl ?_); refine ql_gnone rfl rfl (ql_gno rfl rfl rfl (ql_pure tabOk rfl rfl (ql_pure tabOk rfl rfl (q_nil (q_blk (q_region (ql_ar tabOk rfl rfl rfl rfl (by omega) (by omega) (ql_pure tabOk rfl rfl (q_nil ?_))))))))))
              exact hK (k + 1) _ _ (by omega) (by omega) ⟨rfl, rfl, rfl, rfl, rfl, rfl, rfl, by rw [hsc]; rfl, rfl, rfl, trivial⟩ (by repeat constructor)
            | false =>
              rw [hb, Bool.false_or] at hsc
              by_cases h0 : er = 0
              · subst h0
                rw [decide_eq_true rfl, Bool.true_and] at hsc
                (refine ql_pure tabOk rfl rfl (ql_ext tabOk rfl rfl rfl (ql_ext tabOk rfl rfl rfl (ql_pure tabOk rfl rfl (ql_pure tabOk rfl rfl (q_nil (q_region (ql_pure tabOk rfl rfl (ql_pure tabOk rfl rfl (ql_gyes rfl (ql_pure tabOk rfl rfl (ql_gyes rfl ?_))))))))))); refine ql_eqlT tabOk rfl rfl rfl (by omega) (ql_gyes rfl (ql_pure tabOk rfl rfl (ql_gyes rfl (ql_pure tabOk rfl rfl (ql_gyes rfl ?_))))); (iterate 3 refine ql_pure tabOk rfl rfl ?_); refine q_nil (q_blk (q_region (ql_ar tabOk rfl rfl rfl rfl (by omega) (by omega) (ql_pure tabOk rfl rfl (q_nil ?_))))))
                exact hK (k + 1) _ _ (by omega) (by omega) ⟨rfl, rfl, rfl, rfl, rfl, rfl, rfl, by rw [hsc]; rfl, rfl, rfl, trivial⟩ (by repeat constructor)
              · rw [decide_eq_false h0, Bool.false_and] at hsc
                (refine ql_pure tabOk rfl rfl (ql_ext tabOk rfl rfl rfl (ql_ext tabOk rfl rfl rfl (ql_pure tabOk rfl rfl (ql_pure tabOk rfl rfl (q_nil (q_region (ql_pure tabOk rfl rfl (ql_pure tabOk rfl rfl (ql_gyes rfl (ql_pure tabOk rfl rfl (ql_gyes rfl ?_))))))))))); refine ql_eqlF tabOk rfl rfl rfl (by omega) (ql_gyes rfl (ql_pure tabOk rfl rfl (ql_gno rfl rfl rfl (ql_gyes rfl ?_)))); (iterate 3 refine ql_pure tabOk rfl rfl ?_); refine q_nil (q_blk (q_region (ql_ar tabOk rfl rfl rfl rfl (by omega) (by omega) (ql_pure tabOk rfl rfl (q_nil ?_))))))
                exact hK (k + 1) _ _ (by omega) (by omega) ⟨rfl, rfl, rfl, rfl, rfl, rfl, rfl, by rw [hsc]; rfl, rfl, rfl, trivial⟩ (by repeat constructor)
          · obtain rfl : k = sk := by omega
            clear hc hK hk
            rw [hsm0]
            (refine q_exit _ rfl (q_seq (q_region (ql_pure tabOk rfl rfl (ql_neqF tabOk rfl rfl rfl (by omega) (ql_pure tabOk rfl rfl (ql_gyes rfl (ql_pure tabOk rfl rfl (ql_gyes rfl (ql_pure tabOk rfl rfl (ql_pure tabOk rfl rfl (q_nil ?_))))))))))); refine q_cond_false rfl (q_skip (q_blk ?_)))
            exact hK2 () _ _ ⟨rfl, rfl, rfl, rfl, rfl, trivial⟩ (by repeat constructor)
      · obtain rfl := hc2 hck
        have he : e36 = ag ∧ c36 = [] := by
          rcases hro with ⟨_, h3, h4⟩ | ⟨h1, _⟩ | ⟨h1, _⟩
          · exact ⟨h4.trans hckE, h3⟩
          · exact absurd (hckE.symm.trans (check_iff.2 h1)) hck
          · exact absurd (hckE.symm.trans (check_iff.2 h1)) hck
        obtain ⟨rfl, rfl⟩ := he
        rcases hcv with h | h | h | h
        · exact absurd h hck
        · subst h
          (refine q_block (q_seq (q_region (ql_pure tabOk rfl rfl (ql_eqlF tabOk rfl rfl rfl (by omega) (ql_pure tabOk rfl rfl (q_nil (q_cond_false rfl (q_seq (q_region (ql_pure tabOk rfl rfl (ql_eqlF tabOk rfl rfl rfl (by omega) ?_))))))))))); refine ql_pure tabOk rfl rfl (q_nil (q_cond_false rfl (q_seq (q_region (ql_pure tabOk rfl rfl (ql_pure tabOk rfl rfl (ql_neqF tabOk rfl rfl rfl (by omega) (ql_pure tabOk rfl rfl (ql_gyes rfl (ql_pure tabOk rfl rfl (ql_gyes rfl ?_))))))))))); refine ql_pure tabOk rfl rfl (ql_gyes rfl ?_); (iterate 3 refine ql_pure tabOk rfl rfl ?_); refine q_nil (q_cond_false rfl (q_skip (q_blk ?_))))
          exact hK2 () _ _ ⟨rfl, rfl, rfl, rfl, rfl, trivial⟩ (by repeat constructor)
        · subst h
          (refine q_block (q_seq (q_region (ql_pure tabOk rfl rfl (ql_eqlF tabOk rfl rfl rfl (by omega) (ql_pure tabOk rfl rfl (q_nil (q_cond_false rfl (q_seq (q_region (ql_pure tabOk rfl rfl (ql_eqlF tabOk rfl rfl rfl (by omega) ?_))))))))))); refine ql_pure tabOk rfl rfl (q_nil (q_cond_false rfl (q_seq (q_region (ql_pure tabOk rfl rfl (ql_pure tabOk rfl rfl (ql_neqF tabOk rfl rfl rfl (by omega) (ql_pure tabOk rfl rfl (ql_gyes rfl (ql_pure tabOk rfl rfl (ql_gyes rfl ?_))))))))))); refine ql_pure tabOk rfl rfl (ql_gyes rfl ?_); (iterate 3 refine ql_pure tabOk rfl rfl ?_); refine q_nil (q_cond_false rfl (q_skip (q_blk ?_))))
          exact hK2 () _ _ ⟨rfl, rfl, rfl, rfl, rfl, trivial⟩ (by repeat constructor)
        · subst h
          (refine q_block (q_seq (q_region (ql_pure tabOk rfl rfl (ql_eqlF tabOk rfl rfl rfl (by omega) (ql_pure tabOk rfl rfl (q_nil (q_cond_false rfl (q_seq (q_region (ql_pure tabOk rfl rfl (ql_eqlF tabOk rfl rfl rfl (by omega) ?_))))))))))); refine ql_pure tabOk rfl rfl (q_nil (q_cond_false rfl (q_seq (q_region (ql_pure tabOk rfl rfl (ql_pure tabOk rfl rfl (ql_neqF tabOk rfl rfl rfl (by omega) (ql_pure tabOk rfl rfl (ql_gyes rfl (ql_pure tabOk rfl rfl (ql_gyes rfl ?_))))))))))); refine ql_pure tabOk rfl rfl (ql_gyes rfl ?_); (iterate 3 refine ql_pure tabOk rfl rfl ?_); refine q_nil (q_cond_false rfl (q_skip (q_blk ?_))))
          exact hK2 () _ _ ⟨rfl, rfl, rfl, rfl, rfl, trivial⟩ (by repeat constructor)
    rintro ⟨⟩
    clear hro
    by_cases hck : ck = 0
    · have hok := hc1 hck
      subst hck
      (refine q_seq (q_region ?_); refine ql_loadABa tabOk rfl rfl rfl ?_)
      refine ql_call (β := Value × List Nat) tabOk [] _ M0 rfl rfl rfl rfl (Sp.refl _) (fun _ h => h.elim) (fun w' hs => drop_ok w' 0 w'.heap.size l (.slice ua l.runs.length uc) (runs_rdK hs (v := .slice ua l.runs.length uc) (t := 40) (l := l.runs) (by repeat constructor) rfl) hok) ?_
      rintro ⟨v91, d⟩ _ ⟨rfl, hd⟩
      dsimp only [List.cons_append, List.nil_append] at hd ⊢
      refine ql_fact (fun w hs => hs.slice2 (v := v91) (by repeat constructor)) ?_
      rintro ⟨a91, q91, rfl⟩
      have hdl : d.length ≤ 45 := by
        have := sub_len (D := List.range l.runs.length) (hd.asc.imp (fun h => by omega)) (fun x hx => List.mem_range.2 (hd.lt x hx))
        rw [List.length_range] at this
        omega
      (refine ql_pure tabOk rfl rfl (ql_ext tabOk rfl rfl rfl (ql_ext tabOk rfl rfl rfl (ql_pure tabOk rfl rfl (ql_pure tabOk rfl rfl (q_nil (q_seq (q_seq (q_region (ql_pure tabOk rfl rfl (ql_pure tabOk rfl rfl (ql_neqF tabOk rfl rfl rfl (by omega) ?_))))))))))); refine ql_pure tabOk rfl rfl (ql_gyes rfl (ql_pure tabOk rfl rfl (ql_gyes rfl (ql_neqF tabOk rfl rfl rfl (by omega) (ql_gyes rfl (ql_pure tabOk rfl rfl ?_)))))); (iterate 3 refine ql_gno rfl rfl rfl ?_); refine ql_gyes rfl (ql_pure tabOk rfl rfl (ql_pure tabOk rfl rfl (q_nil (q_cond_false rfl (q_skip (q_seq (q_seq (q_region (ql_pure tabOk rfl rfl (ql_eqlT tabOk rfl rfl rfl (by omega) (q_nil ?_))))))))))); refine q_cond_true rfl (q_seq (q_seq (q_region ?_))); (iterate 3 refine ql_pure tabOk rfl rfl ?_); refine q_nil (q_block ?_))
      refine q_loop (σ := Nat) (fun k => k ≤ d.length) (fun k => d.length - k) (fun k => [(1, .pointer (some ⟨b1, 0, none⟩)), (3, .pointer (some ⟨b3, 0, none⟩)), (4, .pointer (some ⟨b4, 0, none⟩)), (5, .int .i64 0), (6, .int .i64 ag), (13, .slice a91 d.length q91), (107, .slice a91 d.length q91), (108, .int .i64 d.length), (109, .int .i64 k)]) (fun _ => [.ow (.slice a91 d.length q91) 3 1 d.length (ints (chI d)), .pt b3 (lbC l (.slice ua l.runs.length uc)) 24, .pt b4 (lbC l (.slice ra l.runs.length rc)) 30, .ow (.slice ua l.runs.length uc) 40 3 l.runs.length (rnC l.runs), .ow (.slice ra l.runs.length rc) 113 3 l.runs.length (rnC l.runs), .pt b1 (lbC l (.slice va l.runs.length vc)) 24]) 0 (by omega) ⟨rfl, rfl, rfl, rfl, rfl, rfl, rfl, rfl, rfl, trivial⟩ (by repeat constructor) ?_
      rintro k hk K hK
      (refine q_seq (q_region (ql_pure tabOk rfl rfl (q_nil (q_seq ?_)))))
      refine q_if rfl (fun hc => ?_) (fun hc => ?_)
      · have hk2 : k < d.length := by omega
        clear hc
        have hkc : k < (chI d).length := by rw [chI_len]; exact hk2
        have hlt := hd.lt d[k] (List.getElem_mem hk2)
        have hasc : ∀ j, (hj : j < k) → d[j]'(by omega) < d[k] := fun j hj => List.pairwise_iff_getElem.1 hd.asc j k (by omega) hk2 hj
        refine q_fact (fun w hs => hs.ownSome (v := .slice a91 d.length q91) (by repeat constructor) (by rw [chI_len] at hkc; omega)) ?_
        rintro ⟨g91, z91, ev⟩
        cases ev
        (refine q_skip (q_seq (q_block (q_seq (q_region (ql_pure tabOk rfl rfl ?_))))))
        refine ql_index tabOk rfl rfl rfl rfl rfl (by omega) (by omega) ?_
        refine ql_load1 (v := .int .i64 (d[k] : Nat)) tabOk rfl rfl rfl (fun w hs => by
          have := RdI.at (hs.rdI (v := .slice (some ⟨g91, 0, none⟩) d.length q91) (l := chI d) (t := 3) (n := d.length) (by repeat constructor) (chI_len _).symm) k hkc
          rw [chI_at hk2 hkc] at this
          exact this) ?_
        generalize hdk : d[k] = dk at hlt hasc ⊢
        cases k with
        | zero =>
          (refine ql_pure tabOk rfl rfl (ql_pure tabOk rfl rfl (q_nil (q_seq (q_region (ql_pure tabOk rfl rfl (ql_lssF tabOk rfl rfl rfl (by omega) (ql_pure tabOk rfl rfl (ql_gyes rfl (ql_pure tabOk rfl rfl (ql_gyes rfl (ql_pure tabOk rfl rfl ?_))))))))))); refine ql_gyes rfl ?_; refine ql_loadBa tabOk rfl rfl rfl ?_; refine ql_gyes rfl (ql_pure tabOk rfl rfl (ql_gyes rfl (ql_geqF tabOk rfl rfl rfl (by omega) (ql_pure tabOk rfl rfl (ql_pure tabOk rfl rfl (ql_gyes rfl (ql_pure tabOk rfl rfl (ql_gyes rfl (ql_gtrF tabOk rfl rfl rfl (by omega) (ql_gyes rfl (ql_pure tabOk rfl rfl ?_))))))))))); (iterate 7 refine ql_gno rfl rfl rfl ?_); refine ql_gyes rfl (ql_pure tabOk rfl rfl (ql_pure tabOk rfl rfl (q_nil (q_cond_false rfl (q_skip (q_blk (q_region (ql_ar tabOk rfl rfl rfl rfl (by omega) (by omega) (ql_pure tabOk rfl rfl (q_nil ?_)))))))))))
          exact hK 1 _ _ (by omega) (by omega) ⟨rfl, rfl, rfl, rfl, rfl, rfl, rfl, rfl, rfl, trivial⟩ (by repeat constructor)
        | succ j =>
          have hj := hasc j (by omega)
          have hjc : j < (chI d).length := by rw [chI_len]; omega
          obtain ⟨dj, hdj⟩ : ∃ dj, d[j]'(by omega) = dj := ⟨_, rfl⟩
          rw [hdj] at hj
          (refine ql_pure tabOk rfl rfl (ql_pure tabOk rfl rfl (q_nil (q_seq (q_region (ql_pure tabOk rfl rfl (ql_lssF tabOk rfl rfl rfl (by omega) (ql_pure tabOk rfl rfl (ql_gyes rfl (ql_pure tabOk rfl rfl (ql_gyes rfl (ql_pure tabOk rfl rfl ?_))))))))))); refine ql_gyes rfl ?_; refine ql_loadBa tabOk rfl rfl rfl ?_; refine ql_gyes rfl (ql_pure tabOk rfl rfl (ql_gyes rfl (ql_geqF tabOk rfl rfl rfl (by omega) (ql_pure tabOk rfl rfl (ql_pure tabOk rfl rfl (ql_gyes rfl (ql_pure tabOk rfl rfl (ql_gyes rfl (ql_gtrT tabOk rfl rfl rfl (by omega) (ql_gyes rfl (ql_pure tabOk rfl rfl ?_))))))))))); refine ql_gyes rfl (ql_pure tabOk rfl rfl (ql_gyes rfl (ql_pure tabOk rfl rfl (ql_gyes rfl (ql_ar tabOk rfl rfl rfl rfl (by omega) (by omega) (ql_gyes rfl ?_)))))))
          rw [show ((j + 1 : Nat) : Int) - 1 = (j : Int) from by omega]
          refine ql_index tabOk rfl rfl rfl rfl rfl (by omega) (by omega) ?_
          (refine ql_gyes rfl ?_)
          refine ql_load1 (v := .int .i64 (dj : Nat)) tabOk rfl rfl rfl (fun w hs => by
            have := RdI.at (hs.rdI (v := .slice (some ⟨g91, 0, none⟩) d.length q91) (l := chI d) (t := 3) (n := d.length) (by repeat constructor) (chI_len _).symm) j hjc
            rw [chI_at (by omega) hjc, hdj] at this
            exact this) ?_
          (refine ql_gyes rfl (ql_pure tabOk rfl rfl (ql_gyes rfl (ql_geqF tabOk rfl rfl rfl (by omega) (ql_gyes rfl (ql_pure tabOk rfl rfl (ql_pure tabOk rfl rfl (q_nil (q_cond_false rfl (q_skip (q_blk (q_region ?_))))))))))); refine ql_ar tabOk rfl rfl rfl rfl (by omega) (by omega) (ql_pure tabOk rfl rfl (q_nil ?_)))
          exact hK (j + 2) _ _ (by omega) (by omega) ⟨rfl, rfl, rfl, rfl, rfl, rfl, rfl, rfl, rfl, trivial⟩ (by repeat constructor)
      · clear hc hK hk
        obtain ⟨sk, hls, hln, h8, h1⟩ := hok.nat
        have h6 : l.n ≤ 6 := by omega
        have hw40 := (wo_ok hok d).len
        have hmx : (40 : Nat) ≤ maxLen := by decide
        (refine q_exit _ rfl (q_seq (q_region (ql_pure tabOk rfl rfl (ql_pure tabOk rfl rfl ?_)))); refine ql_loadABa tabOk rfl rfl rfl ?_)
        refine ql_callv (val := .int .i64 (d.length : Nat)) tabOk rfl rfl rfl rfl (fun w hs => ?_) ?_; exact by have := rdrop_ca w 0 w.heap.size l (.slice ra l.runs.length rc) (runs_rdK hs (v := .slice ra l.runs.length rc) (t := 113) (l := l.runs) (by repeat constructor) rfl) hok h6; rw [drop_fold hok hd] at this; exact this
        (refine ql_neqF tabOk rfl rfl rfl (by omega) (ql_pure tabOk rfl rfl (ql_gyes rfl ?_)); refine ql_loadABa tabOk rfl rfl rfl ?_; refine ql_gyes rfl (ql_pure tabOk rfl rfl (ql_gyes rfl ?_)))
        refine ql_call (β := Value) tabOk [] _ M0 rfl rfl rfl rfl (Sp.refl _) (fun _ h => h.elim) (fun w' hs => rwithout_ca w' 0 w'.heap.size 0 w'.heap.size l (.slice ra l.runs.length rc) (.slice a91 d.length q91) d (runs_rdK hs (v := .slice ra l.runs.length rc) (t := 113) (l := l.runs) (by repeat constructor) rfl) hok (hs.rdI (v := .slice a91 d.length q91) (l := chI d) (t := 3) (n := d.length) (by repeat constructor) (chI_len _).symm) (by omega)) ?_
        rintro z145 _ rfl
        dsimp only [List.cons_append, List.nil_append]
        (refine ql_gyes rfl ?_)
        refine ql_callv (val := .int .i64 0) tabOk rfl rfl rfl rfl (fun w hs => ?_) ?_; exact by have := ragreed_ca w 0 w.heap.size (woL l d) z145 (runs_rdK hs (v := z145) (t := 113) (l := (woL l d).runs) (by repeat constructor) rfl) (by omega); rw [(wo_agreed hok d).2 hd.noC] at this; exact this
        (refine ql_gyes rfl (ql_neqF tabOk rfl rfl rfl (by omega) (ql_pure tabOk rfl rfl (q_nil (q_cond_false rfl (q_skip (q_seq (q_region ?_))))))); refine ql_loadABa tabOk rfl rfl rfl ?_)
        by_cases hnc : NoC l.ord l.n
        · obtain rfl : ag = 0 := by rw [← hagE]; exact (agreed_noC hok).2 hnc
          have hpn : plA l = plC l l.ord l.n := by unfold plA; rw [if_pos hagE]
          have hon : ordN l = cnt l.ord l.n (2 ^ l.n - 1) := by unfold ordN; rw [if_pos hagE]
          have hfn : firA l = (firF l.ord l.n l.n).1 := by unfold firA; rw [if_pos hagE]
          have hhead := fl_first hnc hok.o hok.n8 l.n (Nat.le_refl _)
          have hcnt := fl_len l.ord l.n
          have hpl := plC_len l l.ord l.n
          have hfl := (fir_is hnc hok.o hok.n8 l.n (Nat.le_refl _)).len
          skip
          refine ql_call (β := Value) tabOk [] _ M0 rfl rfl rfl rfl (Sp.refl _) (fun _ h => h.elim) (fun w' hs => placesA_ca w' 0 w'.heap.size l (.slice ua l.runs.length uc) (runs_rdK hs (v := .slice ua l.runs.length uc) (t := 40) (l := l.runs) (by repeat constructor) rfl) hlen) ?_
          rintro v151 _ rfl
          dsimp only [List.cons_append, List.nil_append]
          rw [hagE]
          refine ql_fact (fun w hs => hs.slice2 (v := v151) (by repeat constructor)) ?_
          rintro ⟨a151, q151, rfl⟩
          (refine ql_pure tabOk rfl rfl (ql_ext tabOk rfl rfl rfl (ql_ext tabOk rfl rfl rfl (ql_pure tabOk rfl rfl (ql_pure tabOk rfl rfl (q_nil (q_seq (q_region ?_))))))); refine ql_loadABa tabOk rfl rfl rfl ?_)
          refine ql_callv (val := .tuple #[.int .i64 (ordN l : Nat), .int .i64 (agreedV l)]) tabOk rfl rfl rfl rfl (fun w hs => ?_) ?_; exact ordersA_ca w 0 w.heap.size l (.slice ua l.runs.length uc) (runs_rdK hs (v := .slice ua l.runs.length uc) (t := 40) (l := l.runs) (by repeat constructor) rfl) hlen
          rw [hagE]
          (refine ql_pure tabOk rfl rfl (ql_ext tabOk rfl rfl rfl (ql_ext tabOk rfl rfl rfl (ql_pure tabOk rfl rfl (ql_pure tabOk rfl rfl (q_nil (q_seq (q_region ?_))))))); refine ql_loadABa tabOk rfl rfl rfl ?_)
          refine ql_call (β := Value) tabOk [] _ M0 rfl rfl rfl rfl (Sp.refl _) (fun _ h => h.elim) (fun w' hs => firstA_ca w' 0 w'.heap.size l (.slice ua l.runs.length uc) (runs_rdK hs (v := .slice ua l.runs.length uc) (t := 40) (l := l.runs) (by repeat constructor) rfl) hlen) ?_
          rintro v161 _ rfl
          dsimp only [List.cons_append, List.nil_append]
          rw [hagE]
          refine ql_fact (fun w hs => hs.slice2 (v := v161) (by repeat constructor)) ?_
          rintro ⟨a161, q161, rfl⟩
          rw [hpn, hon, hfn]
          generalize hF : (firF l.ord l.n l.n).1 = F at hhead hfl ⊢
          generalize hP : plC l l.ord l.n = P at hpl ⊢
          rw [hpl]
          (refine ql_pure tabOk rfl rfl (ql_ext tabOk rfl rfl rfl (ql_ext tabOk rfl rfl rfl (ql_pure tabOk rfl rfl (ql_pure tabOk rfl rfl (q_nil (q_seq (q_seq (q_region (ql_pure tabOk rfl rfl (ql_pure tabOk rfl rfl (ql_neqF tabOk rfl rfl rfl (by omega) ?_))))))))))); refine ql_pure tabOk rfl rfl (ql_gyes rfl (ql_pure tabOk rfl rfl (ql_gyes rfl (ql_pure tabOk rfl rfl (ql_gyes rfl (ql_neqF tabOk rfl rfl rfl (by omega) (ql_pure tabOk rfl rfl (ql_pure tabOk rfl rfl (ql_gyes rfl (ql_pure tabOk rfl rfl (ql_gyes rfl ?_))))))))))); refine ql_pure tabOk rfl rfl (ql_gyes rfl (ql_neqF tabOk rfl rfl rfl (by omega) (ql_pure tabOk rfl rfl (q_nil (q_cond_false rfl (q_skip (q_seq (q_seq (q_region (ql_pure tabOk rfl rfl (ql_neqF tabOk rfl rfl rfl (by omega) ?_))))))))))); refine q_nil (q_cond_false rfl (q_skip (q_seq (q_region ?_)))); refine ql_loadABa tabOk rfl rfl rfl ?_)
          refine ql_call (β := Value × List (Value × List Int) × List (Value × List Int)) tabOk [] _ M0 rfl rfl rfl rfl (Sp.refl _) (fun _ h => h.elim) (fun w' hs => fitting_ca w' 0 w'.heap.size l (.slice ra l.runs.length rc) (runs_rdK hs (v := .slice ra l.runs.length rc) (t := 113) (l := l.runs) (by repeat constructor) rfl) hok h6) ?_
          rintro ⟨_, Y, sel⟩ v198 ⟨rfl, hsub, hmap⟩
          dsimp only [List.cons_append, List.nil_append] at hsub hmap ⊢
          have hsl : sel.length = cnt l.ord l.n (2 ^ l.n - 1) := by have := congrArg List.length hmap; simp only [List.length_map] at this; rw [this, hcnt]
          rw [hsl]
          generalize cnt l.ord l.n (2 ^ l.n - 1) = nf at hsl ⊢
          obtain ⟨p, rest, hse⟩ : ∃ p rest, sel = p :: rest := by
            cases sel with
            | nil =>
              cases hfe : FL l.ord l.n l.n with
              | nil => rw [hfe] at hhead; exact absurd hhead (by simp)
              | cons _ _ => rw [hfe] at hmap; exact absurd hmap (by simp)
            | cons p rest => exact ⟨p, rest, rfl⟩
          have hp2 : p.2 = chI F := by
            cases hfe : FL l.ord l.n l.n with
            | nil => rw [hfe] at hhead; exact absurd hhead (by simp)
            | cons x y =>
              rw [hfe] at hhead hmap
              rw [hse] at hmap
              simp only [List.map_cons, List.cons.injEq] at hmap
              simp only [List.head?_cons, Option.some.injEq] at hhead
              rw [hmap.1, hhead]
          have hpY := hsub p (by rw [hse]; exact .head _)
          have hsl0 : 0 < sel.length := by rw [hse]; exact Nat.succ_pos _
          have hs0 : sel[0]'hsl0 = p := by subst hse; rfl
          have hnf : 0 < nf := by omega
          refine ql_fact (fun w hs => hs.slice2 (v := v198) (by repeat constructor)) ?_
          rintro ⟨a198, q198, rfl⟩
          refine ql_fact (fun w hs => hs.ownSome (v := .slice a198 nf q198) (by repeat constructor) (by omega)) ?_
          rintro ⟨g198, z198, ev⟩
          cases ev
          obtain ⟨pv, pl⟩ := p
          dsimp only at hp2
          subst hp2
          (refine ql_pure tabOk rfl rfl (q_nil (q_seq (q_region (ql_pure tabOk rfl rfl (ql_pure tabOk rfl rfl (ql_gtrT tabOk rfl rfl rfl (by omega) (ql_pure tabOk rfl rfl (ql_gyes rfl (ql_pure tabOk rfl rfl (ql_gyes rfl ?_)))))))))); refine ql_loadABa tabOk rfl rfl rfl ?_; refine ql_gyes rfl ?_)
          refine ql_call (β := Nat) tabOk [] _ M0 rfl rfl rfl rfl (Sp.refl _) (fun _ h => h.elim) (fun w' hs => rplaces_ca w' 0 w'.heap.size l (.slice ra l.runs.length rc) (runs_rdK hs (v := .slice ra l.runs.length rc) (t := 113) (l := l.runs) (by repeat constructor) rfl) hok hnc h6) ?_
          rintro b205 _ rfl
          dsimp only [List.cons_append, List.nil_append]
          rw [hP]
          (refine ql_gyes rfl ?_)
          refine ql_callv (val := .bool true) tabOk rfl rfl rfl rfl (fun w hs => ?_) ?_; exact eqS_ca w 0 w.heap.size 0 w.heap.size _ _ P (own_rdS (t := 64) (hs.mem (c := .ow (.slice a151 l.n q151) 64 2 l.n (spC P)) (by repeat constructor)) hpl.symm) (Blk.rdS' (c := l.n) (hs.blk (b := b205) (by repeat constructor)) hpl.symm) (by omega)
          (refine ql_pure tabOk rfl rfl (ql_pure tabOk rfl rfl (ql_gyes rfl (ql_pure tabOk rfl rfl (ql_gyes rfl (ql_pure tabOk rfl rfl (ql_gyes rfl (ql_pure tabOk rfl rfl (ql_gyes rfl (ql_eqlT tabOk rfl rfl rfl (by omega) (ql_pure tabOk rfl rfl (ql_pure tabOk rfl rfl ?_))))))))))); refine ql_gyes rfl (ql_pure tabOk rfl rfl (ql_gyes rfl (ql_pure tabOk rfl rfl (ql_gyes rfl ?_)))))
          refine ql_index tabOk rfl rfl rfl rfl rfl (by omega) (by omega) ?_
          (refine ql_gyes rfl ?_)
          refine ql_load1 (v := pv) tabOk rfl rfl rfl (fun w hs => row_cell hs (by repeat constructor) hsl0 (by rw [hs0]) rfl) ?_
          (refine ql_gyes rfl ?_)
          refine ql_callv (val := .bool true) tabOk rfl rfl rfl rfl (fun w hs => ?_) ?_; exact eqI_ca w 0 w.heap.size 0 w.heap.size _ _ (chI F) (hs.rdI (v := .slice a161 F.length q161) (l := chI F) (t := 3) (n := F.length) (by repeat constructor) (chI_len _).symm) (rowR hs (by repeat constructor) hpY) (by rw [chI_len]; omega)
          (refine ql_pure tabOk rfl rfl (ql_pure tabOk rfl rfl (ql_gyes rfl ?_)); refine ql_loadABa tabOk rfl rfl rfl ?_; refine ql_gyes rfl ?_; refine ql_loadABa tabOk rfl rfl rfl ?_; refine ql_gyes rfl ?_)
          refine ql_callv (val := .bool true) tabOk rfl rfl rfl rfl (fun w hs => ?_) ?_; exact same_ca w 0 w.heap.size lo hi l (.slice ua l.runs.length uc) (.slice va l.runs.length vc) (runs_rdK hs (v := .slice ua l.runs.length uc) (t := 40) (l := l.runs) (by repeat constructor) rfl) (RdE.keep h hs.chg0) (by omega)
          (refine ql_pure tabOk rfl rfl (ql_pure tabOk rfl rfl (ql_gyes rfl ?_)))
          refine ql_callv (val := .bool true) tabOk rfl rfl rfl rfl (fun w hs => ?_) ?_; exact awake_ca w
          (refine ql_pure tabOk rfl rfl (ql_pure tabOk rfl rfl (q_nil (q_ret ?_))))
          refine q_fin tabOk rfl (by repeat constructor) fun w hs => ?_
          exact ⟨rfl, hs.chg0⟩
        · obtain rfl : ag = 7 := by rw [← hagE]; exact agreed_seven hok hnc
          have hpn : plA l = [] := by unfold plA; rw [if_neg (by rw [hagE]; decide)]
          have hon : ordN l = 0 := by unfold ordN; rw [if_neg (by rw [hagE]; decide)]
          have hfn : firA l = [] := by unfold firA; rw [if_neg (by rw [hagE]; decide)]
          skip
          refine ql_call (β := Value) tabOk [] _ M0 rfl rfl rfl rfl (Sp.refl _) (fun _ h => h.elim) (fun w' hs => placesA_ca w' 0 w'.heap.size l (.slice ua l.runs.length uc) (runs_rdK hs (v := .slice ua l.runs.length uc) (t := 40) (l := l.runs) (by repeat constructor) rfl) hlen) ?_
          rintro v151 _ rfl
          dsimp only [List.cons_append, List.nil_append]
          rw [hagE]
          refine ql_fact (fun w hs => hs.slice2 (v := v151) (by repeat constructor)) ?_
          rintro ⟨a151, q151, rfl⟩
          (refine ql_pure tabOk rfl rfl (ql_ext tabOk rfl rfl rfl (ql_ext tabOk rfl rfl rfl (ql_pure tabOk rfl rfl (ql_pure tabOk rfl rfl (q_nil (q_seq (q_region ?_))))))); refine ql_loadABa tabOk rfl rfl rfl ?_)
          refine ql_callv (val := .tuple #[.int .i64 (ordN l : Nat), .int .i64 (agreedV l)]) tabOk rfl rfl rfl rfl (fun w hs => ?_) ?_; exact ordersA_ca w 0 w.heap.size l (.slice ua l.runs.length uc) (runs_rdK hs (v := .slice ua l.runs.length uc) (t := 40) (l := l.runs) (by repeat constructor) rfl) hlen
          rw [hagE]
          (refine ql_pure tabOk rfl rfl (ql_ext tabOk rfl rfl rfl (ql_ext tabOk rfl rfl rfl (ql_pure tabOk rfl rfl (ql_pure tabOk rfl rfl (q_nil (q_seq (q_region ?_))))))); refine ql_loadABa tabOk rfl rfl rfl ?_)
          refine ql_call (β := Value) tabOk [] _ M0 rfl rfl rfl rfl (Sp.refl _) (fun _ h => h.elim) (fun w' hs => firstA_ca w' 0 w'.heap.size l (.slice ua l.runs.length uc) (runs_rdK hs (v := .slice ua l.runs.length uc) (t := 40) (l := l.runs) (by repeat constructor) rfl) hlen) ?_
          rintro v161 _ rfl
          dsimp only [List.cons_append, List.nil_append]
          rw [hagE]
          refine ql_fact (fun w hs => hs.slice2 (v := v161) (by repeat constructor)) ?_
          rintro ⟨a161, q161, rfl⟩
          rw [hpn, hon, hfn]
          dsimp only [List.length_nil]
          (refine ql_pure tabOk rfl rfl (ql_ext tabOk rfl rfl rfl (ql_ext tabOk rfl rfl rfl (ql_pure tabOk rfl rfl (ql_pure tabOk rfl rfl (q_nil (q_seq (q_seq (q_region (ql_pure tabOk rfl rfl (ql_pure tabOk rfl rfl (ql_neqF tabOk rfl rfl rfl (by omega) ?_))))))))))); refine ql_pure tabOk rfl rfl (ql_gyes rfl (ql_pure tabOk rfl rfl (ql_gyes rfl (ql_pure tabOk rfl rfl (ql_gyes rfl (ql_neqF tabOk rfl rfl rfl (by omega) (ql_pure tabOk rfl rfl (ql_pure tabOk rfl rfl (ql_gyes rfl (ql_pure tabOk rfl rfl (ql_gyes rfl ?_))))))))))); refine ql_pure tabOk rfl rfl (ql_gyes rfl (ql_neqF tabOk rfl rfl rfl (by omega) (ql_pure tabOk rfl rfl (q_nil (q_cond_false rfl (q_skip (q_seq (q_seq (q_region (ql_pure tabOk rfl rfl (ql_neqT tabOk rfl rfl rfl (by omega) ?_))))))))))); refine q_nil (q_cond_true rfl (q_seq (q_region ?_))); (iterate 4 refine ql_pure tabOk rfl rfl ?_); refine ql_ar tabOk rfl rfl rfl rfl (by omega) (by omega) (ql_eqlT tabOk rfl rfl rfl (by omega) (ql_pure tabOk rfl rfl (ql_gyes rfl (ql_pure tabOk rfl rfl (ql_gyes rfl (ql_eqlT tabOk rfl rfl rfl (by omega) (ql_pure tabOk rfl rfl (ql_pure tabOk rfl rfl (ql_gyes rfl ?_))))))))); refine ql_loadABa tabOk rfl rfl rfl ?_; refine ql_gyes rfl ?_; refine ql_loadABa tabOk rfl rfl rfl ?_; refine ql_gyes rfl ?_)
          refine ql_callv (val := .bool true) tabOk rfl rfl rfl rfl (fun w hs => ?_) ?_; exact same_ca w 0 w.heap.size lo hi l (.slice ua l.runs.length uc) (.slice va l.runs.length vc) (runs_rdK hs (v := .slice ua l.runs.length uc) (t := 40) (l := l.runs) (by repeat constructor) rfl) (RdE.keep h hs.chg0) (by omega)
          (refine ql_pure tabOk rfl rfl (ql_pure tabOk rfl rfl (ql_gyes rfl ?_)))
          refine ql_callv (val := .bool true) tabOk rfl rfl rfl rfl (fun w hs => ?_) ?_; exact awake_ca w
          (refine ql_pure tabOk rfl rfl (ql_pure tabOk rfl rfl (q_nil (q_ret ?_))))
          refine q_fin tabOk rfl (by repeat constructor) fun w hs => ?_
          exact ⟨rfl, hs.chg0⟩
    · obtain rfl := hc2 hck
      rcases hcv with h | h | h | h
      · exact absurd h hck
      · subst h
        (refine q_seq (q_region ?_); refine ql_loadABa tabOk rfl rfl rfl ?_)
        refine ql_callv (val := .tuple #[.slice none 0 0, .int .i64 (checkV l)]) tabOk rfl rfl rfl rfl (fun w hs => ?_) ?_; exact drop_no w 0 w.heap.size l (.slice ua l.runs.length uc) (runs_rdK hs (v := .slice ua l.runs.length uc) (t := 40) (l := l.runs) (by repeat constructor) rfl) hlen (by rw [hckE]; decide)
        rw [hckE]
        have hpn : plA l = [] := by unfold plA; rw [if_neg (by rw [hagE]; decide)]
        have hon : ordN l = 0 := by unfold ordN; rw [if_neg (by rw [hagE]; decide)]
        have hfn : firA l = [] := by unfold firA; rw [if_neg (by rw [hagE]; decide)]
        (refine ql_pure tabOk rfl rfl (ql_ext tabOk rfl rfl rfl (ql_ext tabOk rfl rfl rfl (ql_pure tabOk rfl rfl (ql_pure tabOk rfl rfl (q_nil (q_seq (q_seq (q_region (ql_pure tabOk rfl rfl (ql_pure tabOk rfl rfl (ql_neqF tabOk rfl rfl rfl (by omega) ?_))))))))))); refine ql_pure tabOk rfl rfl (ql_gyes rfl (ql_pure tabOk rfl rfl (ql_gyes rfl (ql_neqT tabOk rfl rfl rfl (by omega) (ql_gyes rfl (ql_pure tabOk rfl rfl (ql_gyes rfl (ql_pure tabOk rfl rfl (ql_gyes rfl (ql_pure tabOk rfl rfl (ql_gyes rfl ?_))))))))))); refine ql_gtrF tabOk rfl rfl rfl (by omega) (ql_gyes rfl (ql_pure tabOk rfl rfl (ql_pure tabOk rfl rfl (q_nil (q_cond_false rfl (q_skip (q_seq (q_seq (q_region (ql_pure tabOk rfl rfl (ql_eqlF tabOk rfl rfl rfl (by omega) ?_))))))))))); refine q_nil (q_cond_false rfl (q_skip (q_seq (q_region ?_)))); refine ql_loadABa tabOk rfl rfl rfl ?_)
        refine ql_call (β := Value) tabOk [] _ M0 rfl rfl rfl rfl (Sp.refl _) (fun _ h => h.elim) (fun w' hs => placesA_ca w' 0 w'.heap.size l (.slice ua l.runs.length uc) (runs_rdK hs (v := .slice ua l.runs.length uc) (t := 40) (l := l.runs) (by repeat constructor) rfl) hlen) ?_
        rintro v151 _ rfl
        dsimp only [List.cons_append, List.nil_append]
        rw [hagE]
        refine ql_fact (fun w hs => hs.slice2 (v := v151) (by repeat constructor)) ?_
        rintro ⟨a151, q151, rfl⟩
        (refine ql_pure tabOk rfl rfl (ql_ext tabOk rfl rfl rfl (ql_ext tabOk rfl rfl rfl (ql_pure tabOk rfl rfl (ql_pure tabOk rfl rfl (q_nil (q_seq (q_region ?_))))))); refine ql_loadABa tabOk rfl rfl rfl ?_)
        refine ql_callv (val := .tuple #[.int .i64 (ordN l : Nat), .int .i64 (agreedV l)]) tabOk rfl rfl rfl rfl (fun w hs => ?_) ?_; exact ordersA_ca w 0 w.heap.size l (.slice ua l.runs.length uc) (runs_rdK hs (v := .slice ua l.runs.length uc) (t := 40) (l := l.runs) (by repeat constructor) rfl) hlen
        rw [hagE]
        (refine ql_pure tabOk rfl rfl (ql_ext tabOk rfl rfl rfl (ql_ext tabOk rfl rfl rfl (ql_pure tabOk rfl rfl (ql_pure tabOk rfl rfl (q_nil (q_seq (q_region ?_))))))); refine ql_loadABa tabOk rfl rfl rfl ?_)
        refine ql_call (β := Value) tabOk [] _ M0 rfl rfl rfl rfl (Sp.refl _) (fun _ h => h.elim) (fun w' hs => firstA_ca w' 0 w'.heap.size l (.slice ua l.runs.length uc) (runs_rdK hs (v := .slice ua l.runs.length uc) (t := 40) (l := l.runs) (by repeat constructor) rfl) hlen) ?_
        rintro v161 _ rfl
        dsimp only [List.cons_append, List.nil_append]
        rw [hagE]
        refine ql_fact (fun w hs => hs.slice2 (v := v161) (by repeat constructor)) ?_
        rintro ⟨a161, q161, rfl⟩
        rw [hpn, hon, hfn]
        dsimp only [List.length_nil]
        (refine ql_pure tabOk rfl rfl (ql_ext tabOk rfl rfl rfl (ql_ext tabOk rfl rfl rfl (ql_pure tabOk rfl rfl (ql_pure tabOk rfl rfl (q_nil (q_seq (q_seq (q_region (ql_pure tabOk rfl rfl (ql_pure tabOk rfl rfl (ql_neqF tabOk rfl rfl rfl (by omega) ?_))))))))))); refine ql_pure tabOk rfl rfl (ql_gyes rfl (ql_pure tabOk rfl rfl (ql_gyes rfl (ql_pure tabOk rfl rfl (ql_gyes rfl (ql_neqF tabOk rfl rfl rfl (by omega) (ql_pure tabOk rfl rfl (ql_pure tabOk rfl rfl (ql_gyes rfl (ql_pure tabOk rfl rfl (ql_gyes rfl ?_))))))))))); refine ql_pure tabOk rfl rfl (ql_gyes rfl (ql_neqF tabOk rfl rfl rfl (by omega) (ql_pure tabOk rfl rfl (q_nil (q_cond_false rfl (q_skip (q_seq (q_seq (q_region (ql_pure tabOk rfl rfl (ql_neqT tabOk rfl rfl rfl (by omega) ?_))))))))))); refine q_nil (q_cond_true rfl (q_seq (q_region ?_))); (iterate 4 refine ql_pure tabOk rfl rfl ?_); refine ql_ar tabOk rfl rfl rfl rfl (by omega) (by omega) (ql_eqlT tabOk rfl rfl rfl (by omega) (ql_pure tabOk rfl rfl (ql_gyes rfl (ql_pure tabOk rfl rfl (ql_gyes rfl (ql_eqlT tabOk rfl rfl rfl (by omega) (ql_pure tabOk rfl rfl (ql_pure tabOk rfl rfl (ql_gyes rfl ?_))))))))); refine ql_loadABa tabOk rfl rfl rfl ?_; refine ql_gyes rfl ?_; refine ql_loadABa tabOk rfl rfl rfl ?_; refine ql_gyes rfl ?_)
        refine ql_callv (val := .bool true) tabOk rfl rfl rfl rfl (fun w hs => ?_) ?_; exact same_ca w 0 w.heap.size lo hi l (.slice ua l.runs.length uc) (.slice va l.runs.length vc) (runs_rdK hs (v := .slice ua l.runs.length uc) (t := 40) (l := l.runs) (by repeat constructor) rfl) (RdE.keep h hs.chg0) (by omega)
        (refine ql_pure tabOk rfl rfl (ql_pure tabOk rfl rfl (ql_gyes rfl ?_)))
        refine ql_callv (val := .bool true) tabOk rfl rfl rfl rfl (fun w hs => ?_) ?_; exact awake_ca w
        (refine ql_pure tabOk rfl rfl (ql_pure tabOk rfl rfl (q_nil (q_ret ?_))))
        refine q_fin tabOk rfl (by repeat constructor) fun w hs => ?_
        exact ⟨rfl, hs.chg0⟩
      · subst h
        (refine q_seq (q_region ?_); refine ql_loadABa tabOk rfl rfl rfl ?_)
        refine ql_callv (val := .tuple #[.slice none 0 0, .int .i64 (checkV l)]) tabOk rfl rfl rfl rfl (fun w hs => ?_) ?_; exact drop_no w 0 w.heap.size l (.slice ua l.runs.length uc) (runs_rdK hs (v := .slice ua l.runs.length uc) (t := 40) (l := l.runs) (by repeat constructor) rfl) hlen (by rw [hckE]; decide)
        rw [hckE]
        have hpn : plA l = [] := by unfold plA; rw [if_neg (by rw [hagE]; decide)]
        have hon : ordN l = 0 := by unfold ordN; rw [if_neg (by rw [hagE]; decide)]
        have hfn : firA l = [] := by unfold firA; rw [if_neg (by rw [hagE]; decide)]
        (refine ql_pure tabOk rfl rfl (ql_ext tabOk rfl rfl rfl (ql_ext tabOk rfl rfl rfl (ql_pure tabOk rfl rfl (ql_pure tabOk rfl rfl (q_nil (q_seq (q_seq (q_region (ql_pure tabOk rfl rfl (ql_pure tabOk rfl rfl (ql_neqF tabOk rfl rfl rfl (by omega) ?_))))))))))); refine ql_pure tabOk rfl rfl (ql_gyes rfl (ql_pure tabOk rfl rfl (ql_gyes rfl (ql_neqT tabOk rfl rfl rfl (by omega) (ql_gyes rfl (ql_pure tabOk rfl rfl (ql_gyes rfl (ql_pure tabOk rfl rfl (ql_gyes rfl (ql_pure tabOk rfl rfl (ql_gyes rfl ?_))))))))))); refine ql_gtrF tabOk rfl rfl rfl (by omega) (ql_gyes rfl (ql_pure tabOk rfl rfl (ql_pure tabOk rfl rfl (q_nil (q_cond_false rfl (q_skip (q_seq (q_seq (q_region (ql_pure tabOk rfl rfl (ql_eqlF tabOk rfl rfl rfl (by omega) ?_))))))))))); refine q_nil (q_cond_false rfl (q_skip (q_seq (q_region ?_)))); refine ql_loadABa tabOk rfl rfl rfl ?_)
        refine ql_call (β := Value) tabOk [] _ M0 rfl rfl rfl rfl (Sp.refl _) (fun _ h => h.elim) (fun w' hs => placesA_ca w' 0 w'.heap.size l (.slice ua l.runs.length uc) (runs_rdK hs (v := .slice ua l.runs.length uc) (t := 40) (l := l.runs) (by repeat constructor) rfl) hlen) ?_
        rintro v151 _ rfl
        dsimp only [List.cons_append, List.nil_append]
        rw [hagE]
        refine ql_fact (fun w hs => hs.slice2 (v := v151) (by repeat constructor)) ?_
        rintro ⟨a151, q151, rfl⟩
        (refine ql_pure tabOk rfl rfl (ql_ext tabOk rfl rfl rfl (ql_ext tabOk rfl rfl rfl (ql_pure tabOk rfl rfl (ql_pure tabOk rfl rfl (q_nil (q_seq (q_region ?_))))))); refine ql_loadABa tabOk rfl rfl rfl ?_)
        refine ql_callv (val := .tuple #[.int .i64 (ordN l : Nat), .int .i64 (agreedV l)]) tabOk rfl rfl rfl rfl (fun w hs => ?_) ?_; exact ordersA_ca w 0 w.heap.size l (.slice ua l.runs.length uc) (runs_rdK hs (v := .slice ua l.runs.length uc) (t := 40) (l := l.runs) (by repeat constructor) rfl) hlen
        rw [hagE]
        (refine ql_pure tabOk rfl rfl (ql_ext tabOk rfl rfl rfl (ql_ext tabOk rfl rfl rfl (ql_pure tabOk rfl rfl (ql_pure tabOk rfl rfl (q_nil (q_seq (q_region ?_))))))); refine ql_loadABa tabOk rfl rfl rfl ?_)
        refine ql_call (β := Value) tabOk [] _ M0 rfl rfl rfl rfl (Sp.refl _) (fun _ h => h.elim) (fun w' hs => firstA_ca w' 0 w'.heap.size l (.slice ua l.runs.length uc) (runs_rdK hs (v := .slice ua l.runs.length uc) (t := 40) (l := l.runs) (by repeat constructor) rfl) hlen) ?_
        rintro v161 _ rfl
        dsimp only [List.cons_append, List.nil_append]
        rw [hagE]
        refine ql_fact (fun w hs => hs.slice2 (v := v161) (by repeat constructor)) ?_
        rintro ⟨a161, q161, rfl⟩
        rw [hpn, hon, hfn]
        dsimp only [List.length_nil]
        (refine ql_pure tabOk rfl rfl (ql_ext tabOk rfl rfl rfl (ql_ext tabOk rfl rfl rfl (ql_pure tabOk rfl rfl (ql_pure tabOk rfl rfl (q_nil (q_seq (q_seq (q_region (ql_pure tabOk rfl rfl (ql_pure tabOk rfl rfl (ql_neqF tabOk rfl rfl rfl (by omega) ?_))))))))))); refine ql_pure tabOk rfl rfl (ql_gyes rfl (ql_pure tabOk rfl rfl (ql_gyes rfl (ql_pure tabOk rfl rfl (ql_gyes rfl (ql_neqF tabOk rfl rfl rfl (by omega) (ql_pure tabOk rfl rfl (ql_pure tabOk rfl rfl (ql_gyes rfl (ql_pure tabOk rfl rfl (ql_gyes rfl ?_))))))))))); refine ql_pure tabOk rfl rfl (ql_gyes rfl (ql_neqF tabOk rfl rfl rfl (by omega) (ql_pure tabOk rfl rfl (q_nil (q_cond_false rfl (q_skip (q_seq (q_seq (q_region (ql_pure tabOk rfl rfl (ql_neqT tabOk rfl rfl rfl (by omega) ?_))))))))))); refine q_nil (q_cond_true rfl (q_seq (q_region ?_))); (iterate 4 refine ql_pure tabOk rfl rfl ?_); refine ql_ar tabOk rfl rfl rfl rfl (by omega) (by omega) (ql_eqlT tabOk rfl rfl rfl (by omega) (ql_pure tabOk rfl rfl (ql_gyes rfl (ql_pure tabOk rfl rfl (ql_gyes rfl (ql_eqlT tabOk rfl rfl rfl (by omega) (ql_pure tabOk rfl rfl (ql_pure tabOk rfl rfl (ql_gyes rfl ?_))))))))); refine ql_loadABa tabOk rfl rfl rfl ?_; refine ql_gyes rfl ?_; refine ql_loadABa tabOk rfl rfl rfl ?_; refine ql_gyes rfl ?_)
        refine ql_callv (val := .bool true) tabOk rfl rfl rfl rfl (fun w hs => ?_) ?_; exact same_ca w 0 w.heap.size lo hi l (.slice ua l.runs.length uc) (.slice va l.runs.length vc) (runs_rdK hs (v := .slice ua l.runs.length uc) (t := 40) (l := l.runs) (by repeat constructor) rfl) (RdE.keep h hs.chg0) (by omega)
        (refine ql_pure tabOk rfl rfl (ql_pure tabOk rfl rfl (ql_gyes rfl ?_)))
        refine ql_callv (val := .bool true) tabOk rfl rfl rfl rfl (fun w hs => ?_) ?_; exact awake_ca w
        (refine ql_pure tabOk rfl rfl (ql_pure tabOk rfl rfl (q_nil (q_ret ?_))))
        refine q_fin tabOk rfl (by repeat constructor) fun w hs => ?_
        exact ⟨rfl, hs.chg0⟩
      · subst h
        (refine q_seq (q_region ?_); refine ql_loadABa tabOk rfl rfl rfl ?_)
        refine ql_callv (val := .tuple #[.slice none 0 0, .int .i64 (checkV l)]) tabOk rfl rfl rfl rfl (fun w hs => ?_) ?_; exact drop_no w 0 w.heap.size l (.slice ua l.runs.length uc) (runs_rdK hs (v := .slice ua l.runs.length uc) (t := 40) (l := l.runs) (by repeat constructor) rfl) hlen (by rw [hckE]; decide)
        rw [hckE]
        have hpn : plA l = [] := by unfold plA; rw [if_neg (by rw [hagE]; decide)]
        have hon : ordN l = 0 := by unfold ordN; rw [if_neg (by rw [hagE]; decide)]
        have hfn : firA l = [] := by unfold firA; rw [if_neg (by rw [hagE]; decide)]
        (refine ql_pure tabOk rfl rfl (ql_ext tabOk rfl rfl rfl (ql_ext tabOk rfl rfl rfl (ql_pure tabOk rfl rfl (ql_pure tabOk rfl rfl (q_nil (q_seq (q_seq (q_region (ql_pure tabOk rfl rfl (ql_pure tabOk rfl rfl (ql_neqF tabOk rfl rfl rfl (by omega) ?_))))))))))); refine ql_pure tabOk rfl rfl (ql_gyes rfl (ql_pure tabOk rfl rfl (ql_gyes rfl (ql_neqT tabOk rfl rfl rfl (by omega) (ql_gyes rfl (ql_pure tabOk rfl rfl (ql_gyes rfl (ql_pure tabOk rfl rfl (ql_gyes rfl (ql_pure tabOk rfl rfl (ql_gyes rfl ?_))))))))))); refine ql_gtrF tabOk rfl rfl rfl (by omega) (ql_gyes rfl (ql_pure tabOk rfl rfl (ql_pure tabOk rfl rfl (q_nil (q_cond_false rfl (q_skip (q_seq (q_seq (q_region (ql_pure tabOk rfl rfl (ql_eqlF tabOk rfl rfl rfl (by omega) ?_))))))))))); refine q_nil (q_cond_false rfl (q_skip (q_seq (q_region ?_)))); refine ql_loadABa tabOk rfl rfl rfl ?_)
        refine ql_call (β := Value) tabOk [] _ M0 rfl rfl rfl rfl (Sp.refl _) (fun _ h => h.elim) (fun w' hs => placesA_ca w' 0 w'.heap.size l (.slice ua l.runs.length uc) (runs_rdK hs (v := .slice ua l.runs.length uc) (t := 40) (l := l.runs) (by repeat constructor) rfl) hlen) ?_
        rintro v151 _ rfl
        dsimp only [List.cons_append, List.nil_append]
        rw [hagE]
        refine ql_fact (fun w hs => hs.slice2 (v := v151) (by repeat constructor)) ?_
        rintro ⟨a151, q151, rfl⟩
        (refine ql_pure tabOk rfl rfl (ql_ext tabOk rfl rfl rfl (ql_ext tabOk rfl rfl rfl (ql_pure tabOk rfl rfl (ql_pure tabOk rfl rfl (q_nil (q_seq (q_region ?_))))))); refine ql_loadABa tabOk rfl rfl rfl ?_)
        refine ql_callv (val := .tuple #[.int .i64 (ordN l : Nat), .int .i64 (agreedV l)]) tabOk rfl rfl rfl rfl (fun w hs => ?_) ?_; exact ordersA_ca w 0 w.heap.size l (.slice ua l.runs.length uc) (runs_rdK hs (v := .slice ua l.runs.length uc) (t := 40) (l := l.runs) (by repeat constructor) rfl) hlen
        rw [hagE]
        (refine ql_pure tabOk rfl rfl (ql_ext tabOk rfl rfl rfl (ql_ext tabOk rfl rfl rfl (ql_pure tabOk rfl rfl (ql_pure tabOk rfl rfl (q_nil (q_seq (q_region ?_))))))); refine ql_loadABa tabOk rfl rfl rfl ?_)
        refine ql_call (β := Value) tabOk [] _ M0 rfl rfl rfl rfl (Sp.refl _) (fun _ h => h.elim) (fun w' hs => firstA_ca w' 0 w'.heap.size l (.slice ua l.runs.length uc) (runs_rdK hs (v := .slice ua l.runs.length uc) (t := 40) (l := l.runs) (by repeat constructor) rfl) hlen) ?_
        rintro v161 _ rfl
        dsimp only [List.cons_append, List.nil_append]
        rw [hagE]
        refine ql_fact (fun w hs => hs.slice2 (v := v161) (by repeat constructor)) ?_
        rintro ⟨a161, q161, rfl⟩
        rw [hpn, hon, hfn]
        dsimp only [List.length_nil]
        (refine ql_pure tabOk rfl rfl (ql_ext tabOk rfl rfl rfl (ql_ext tabOk rfl rfl rfl (ql_pure tabOk rfl rfl (ql_pure tabOk rfl rfl (q_nil (q_seq (q_seq (q_region (ql_pure tabOk rfl rfl (ql_pure tabOk rfl rfl (ql_neqF tabOk rfl rfl rfl (by omega) ?_))))))))))); refine ql_pure tabOk rfl rfl (ql_gyes rfl (ql_pure tabOk rfl rfl (ql_gyes rfl (ql_pure tabOk rfl rfl (ql_gyes rfl (ql_neqF tabOk rfl rfl rfl (by omega) (ql_pure tabOk rfl rfl (ql_pure tabOk rfl rfl (ql_gyes rfl (ql_pure tabOk rfl rfl (ql_gyes rfl ?_))))))))))); refine ql_pure tabOk rfl rfl (ql_gyes rfl (ql_neqF tabOk rfl rfl rfl (by omega) (ql_pure tabOk rfl rfl (q_nil (q_cond_false rfl (q_skip (q_seq (q_seq (q_region (ql_pure tabOk rfl rfl (ql_neqT tabOk rfl rfl rfl (by omega) ?_))))))))))); refine q_nil (q_cond_true rfl (q_seq (q_region ?_))); (iterate 4 refine ql_pure tabOk rfl rfl ?_); refine ql_ar tabOk rfl rfl rfl rfl (by omega) (by omega) (ql_eqlT tabOk rfl rfl rfl (by omega) (ql_pure tabOk rfl rfl (ql_gyes rfl (ql_pure tabOk rfl rfl (ql_gyes rfl (ql_eqlT tabOk rfl rfl rfl (by omega) (ql_pure tabOk rfl rfl (ql_pure tabOk rfl rfl (ql_gyes rfl ?_))))))))); refine ql_loadABa tabOk rfl rfl rfl ?_; refine ql_gyes rfl ?_; refine ql_loadABa tabOk rfl rfl rfl ?_; refine ql_gyes rfl ?_)
        refine ql_callv (val := .bool true) tabOk rfl rfl rfl rfl (fun w hs => ?_) ?_; exact same_ca w 0 w.heap.size lo hi l (.slice ua l.runs.length uc) (.slice va l.runs.length vc) (runs_rdK hs (v := .slice ua l.runs.length uc) (t := 40) (l := l.runs) (by repeat constructor) rfl) (RdE.keep h hs.chg0) (by omega)
        (refine ql_pure tabOk rfl rfl (ql_pure tabOk rfl rfl (ql_gyes rfl ?_)))
        refine ql_callv (val := .bool true) tabOk rfl rfl rfl rfl (fun w hs => ?_) ?_; exact awake_ca w
        (refine ql_pure tabOk rfl rfl (ql_pure tabOk rfl rfl (q_nil (q_ret ?_))))
        refine q_fin tabOk rfl (by repeat constructor) fun w hs => ?_
        exact ⟨rfl, hs.chg0⟩
end Go.Proofs.YtcmpdmobmbbplaaGreat
