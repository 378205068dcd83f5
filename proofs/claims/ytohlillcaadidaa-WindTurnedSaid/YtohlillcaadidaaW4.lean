/- My texts Q7, Q8, Q9, Q10, U0, U1, D1, D2, D3, D4, D5, D6, B13, D7, D8, R1, X0, X1, X2, X3, joined: a claim takes at most 60 files. -/
import Derived.Test.YtohlillcaadidaaW3

/- Walks: Values. -/
namespace Go.Proofs.Ytohlillcaadidaa
open Go Go.Eng

theorem rangeF_length {α : Type} (f : Nat → List α) (c : Nat) : ∀ n, (∀ i, i < n → (f i).length = c) → ((List.range n).flatMap f).length = n * c
  | 0, _ => by simp
  | n + 1, h => by rw [rangeF_succ, List.length_append, rangeF_length f c n (fun i hi => h i (by omega)), h n (by omega), Nat.succ_mul]
theorem plcL_length (r : Rg) (p : Ru) : (plcL r p).length = 5 * ((p.waits + 1).toNat * (r.drifts.length * ((2 * r.clicks + 1).toNat * 1))) :=
  rangeF_length _ _ _ fun _ _ => rangeF_length _ _ _ fun _ _ => rangeF_length _ _ _ fun _ _ => rangeF_length _ _ _ fun _ _ => rfl
theorem plcL_len_le (r : Rg) (p : Ru) (hr : r.Right) (hp : p.Right) : (plcL r p).length ≤ 1000000 := by
  rw [plcL_length]
  have h1 := hr.clicks
  have h2 := hr.d2
  have h3 := hp.waits
  have a : (2 * r.clicks + 1).toNat * 1 ≤ 2001 := by omega
  have b := Nat.mul_le_mul (show r.drifts.length ≤ 5 by omega) a
  have c := Nat.mul_le_mul (show (p.waits + 1).toNat ≤ 4 by omega) b
  have := Nat.mul_le_mul (show 5 ≤ 5 by omega) c
  omega

abbrev valP (r : Rg) (p : Ru) (x : Plc) : Int := valV r p x.1 x.2.1 x.2.2.1 x.2.2.2
/-- Two pieces: a variable with a slice of numbers, and the numbers. -/
abbrev outL (b : Nat) (s : Value × List Int) : List Ck := [.pt b [s.1] 22, .ow s.1 3 1 s.2.length (ints s.2)]

set_option maxHeartbeats 2000000 in
theorem values1_ca (w : World) (bp bd bm b6 b8 : Nat) (r : Rg) (p : Ru) (tp t6 : TypeId) (vf : Vf) (s : Value × List Int) (sh wt st cl v : Int) (hv : vf sh wt st cl = some v) (hlen : s.2.length ≤ 1000000)
    (hsat : Sat w (DL (outL b8 s)) (outL b8 s) w)
    (hb6 : ∀ w', ChgP (DL (outL b8 s)) w w' → Blk w' b6 [.pointer (some ⟨bp, 0, none⟩)] t6)
    (hplb : ∀ w', ChgP (DL (outL b8 s)) w w' → Blk w' bp [.pointer (some ⟨bd, 0, none⟩), .int .i64 p.miss, .int .i64 p.click, .int .i64 p.wait, .int .i64 p.waits, .map (some bm)] tp)
    (hm : ∀ w', ChgP (DL (outL b8 s)) w w' → MapAt w' bm (keyF k4) eqV (liftF vf)) :
    Ca Try.prog 75 [plcV sh wt st cl, .pointer (some ⟨b8, 0, none⟩), .pointer (some ⟨b6, 0, none⟩)] w fun _ w' => ∃ s', s'.2 = s.2 ++ [v] ∧ Sat w (DL (outL b8 s)) (outL b8 s') w' := by
  obtain ⟨v0, l⟩ := s
  simp only at hlen
  refine q_of (H := outL b8 (v0, l)) hsat Try.func75 rfl (by simp [Try.ntmps75]) ?_
  (refine q_seq ?_; refine q_region ?_)
  refine ql_box rfl rfl (fun b3 => ?_)
  (refine q_nil ?_)
  refine q_drawS 8 _ [.pt b8 _ _, .ow v0 3 1 l.length (ints l)] (Sp.cons (by repeat constructor) (Sp.cons (by repeat constructor) (Sp.refl _))) (by kernel_rfl) (by kernel_rfl) (by kernel_rfl) fun K1 hK1 => ?_
  (refine qf_loadB tabOk rfl rfl rfl (by repeat first | exact .head _ | refine .tail _ ?_) (by rfl) ?_; refine qf_loadG tabOk rfl rfl rfl (by assumption) (by rfl) ?_; (iterate 2 refine qf_pure tabOk rfl rfl rfl ?_); refine qf_loadG tabOk rfl rfl rfl (by assumption) (by rfl) ?_; refine qf_loadAB tabOk rfl rfl rfl (by repeat first | exact .head _ | refine .tail _ ?_) (by rfl) (by rfl) ?_)
  refine qf_lookG (v := .int .i64 v) plc_key plc_map zero_int rfl rfl rfl hm (plcV_key _ _ _ _) ((liftF_get vf sh wt st cl).trans (by rw [hv]; rfl)) ?_
  refine qf_mkS 3 [.int .i64 v] rfl (by kernel_rfl) rfl (fun bn => ?_)
  (refine qf_nil ?_)
  refine hK1 _ _ [.pt b8 _ _, .ow v0 3 1 l.length (ints l), .pt bn _ _] (Sp.cons (by repeat constructor) (Sp.cons (by repeat constructor) (Sp.cons (by repeat constructor) (by repeat (first | exact Sp.nil | exact Sp.refl _ | refine Sp.cons (by repeat constructor) ?_))))) ?_
  refine qf_append (q := 1) slI rfl rfl rfl (fun v' => by repeat constructor) (fun w' hs => ⟨_, _, Blk.rd (hs.blk (b := bn) (by repeat first | exact .head _ | refine .tail _ ?_)) rfl 1⟩) (by simp [oneV]) (by omega) (by omega) (fun va' => ?_)
  refine qf_fact (fun w hs => hs.slice (v := va') (by repeat first | exact .head _ | refine .tail _ ?_)) ?_
  rintro ⟨a1, m1, c1, rfl⟩
  (refine qf_set tabOk rfl rfl rfl rfl (by repeat constructor) ?_; refine qf_nil ?_)
  refine q_end tabOk rfl (by repeat (first | exact RVs.nil | apply RVs.tmp rfl | apply RVs.cellA rfl rfl (by repeat first | exact .head _ | refine .tail _ ?_) (by rfl) | apply RVs.cell1 rfl rfl (by repeat first | exact .head _ | refine .tail _ ?_))) fun w hs => ?_
  refine ⟨(.slice a1 m1 c1, l ++ [v]), rfl, ?_⟩
  have e1 : ints (l ++ [v]) = ints l ++ [.int .i64 v] := by simp [ints]
  have e2 : (l ++ [v]).length = l.length + 1 := by simp
  simp only [outL, e1, e2]
  exact hs.sp (by repeat (first | exact Sp.nil | exact Sp.refl _ | refine Sp.cons (by repeat constructor) ?_))

set_option maxHeartbeats 2000000 in
theorem values_no (w : World) (cs : List Value) (r : Rg) (p : Ru) (h : RgC w cs r) (hsm : r.Small) (hr : rulesV r p ≠ 0) : Ca Try.prog 21 [.agg cs.toArray, .agg #[.int .i64 p.miss, .int .i64 p.click, .int .i64 p.wait, .int .i64 p.waits]] w fun v w' => v = .tuple #[.slice none 0 0, .int .i64 (rulesV r p)] ∧ Chg [] w w' := by
  have h0 := h
  obtain ⟨lo, hi, ag, cg, ad, cd, af, cf, an, cn, rfl, hg, hdr, hf, hn⟩ := h
  refine q_of (Sat.nil w M0) Try.func21 rfl (by simp [Try.ntmps21]) ?_
  (refine q_seq ?_; refine q_region ?_)
  refine ql_box rfl rfl (fun b2 => ?_)
  skip
  refine ql_box rfl rfl (fun b3 => ?_)
  ((iterate 2 refine ql_pure tabOk rfl rfl ?_); refine q_nil ?_; refine q_seq ?_; refine q_region ?_; (iterate 2 refine ql_loadAB tabOk rfl rfl rfl (by repeat first | exact .head _ | refine .tail _ ?_) (by rfl) (by rfl) ?_))
  refine ql_callv (val := .tuple #[.pointer none, .int .i64 (rulesV r p)]) tabOk rfl rfl rfl rfl (fun w hs => ?_) ?_; exact begun_no w _ r p (h0.keep hs.chg0) hsm hr
  (refine ql_pure tabOk rfl rfl ?_; (iterate 2 refine ql_ext tabOk rfl rfl rfl ?_))
  refine ql_alloc zero117 rfl (fun b6 => ?_)
  (refine ql_set tabOk rfl rfl rfl rfl (by repeat constructor) ?_; refine ql_pure tabOk rfl rfl ?_; refine q_nil ?_; (iterate 2 refine q_seq ?_); refine q_region ?_; (iterate 2 refine ql_pure tabOk rfl rfl ?_); refine q_nil ?_)
  rw [decide_eq_false hr]
  (refine q_cond_true rfl ?_; refine q_seq ?_; refine q_region ?_; (iterate 3 refine ql_pure tabOk rfl rfl ?_); refine q_nil ?_; refine q_ret ?_)
  refine q_fin tabOk rfl (by repeat (first | exact RVs.nil | apply RVs.tmp rfl | apply RVs.cellA rfl rfl (by repeat first | exact .head _ | refine .tail _ ?_) (by rfl) | apply RVs.cell1 rfl rfl (by repeat first | exact .head _ | refine .tail _ ?_))) fun w hs => ?_
  exact ⟨rfl, hs.chg0⟩

set_option maxHeartbeats 2000000 in
theorem values_ok (w : World) (cs : List Value) (r : Rg) (p : Ru) (h : RgC w cs r) (hsm : r.Small) (hru : rulesV r p = 0) : Ca Try.prog 21 [.agg cs.toArray, .agg #[.int .i64 p.miss, .int .i64 p.click, .int .i64 p.wait, .int .i64 p.waits]] w fun v w' =>
    ∃ x : Value, v = .tuple #[x, .int .i64 0] ∧ Sat w M0 [.ow x 3 1 (plcL r p).length (ints ((plcL r p).map (valP r p)))] w' := by
  have h0 := h
  obtain ⟨hck, hp⟩ := (rules_iff r p).1 hru
  have hr := (right_check r).1 hck
  have hlen := plcL_len_le r p hr hp
  obtain ⟨lo, hi, ag, cg, ad, cd, af, cf, an, cn, rfl, hg, hdr, hf, hn⟩ := h
  refine q_of (Sat.nil w M0) Try.func21 rfl (by simp [Try.ntmps21]) ?_
  (refine q_seq ?_; refine q_region ?_)
  refine ql_box rfl rfl (fun b2 => ?_)
  skip
  refine ql_box rfl rfl (fun b3 => ?_)
  ((iterate 2 refine ql_pure tabOk rfl rfl ?_); refine q_nil ?_; refine q_seq ?_; refine q_region ?_; (iterate 2 refine ql_loadAB tabOk rfl rfl rfl (by repeat first | exact .head _ | refine .tail _ ?_) (by rfl) (by rfl) ?_))
  refine ql_call (β := Nat × Nat × Nat) tabOk [] _ M0 rfl rfl rfl rfl (Sp.refl _) (fun _ h => h.elim) (fun w' hs => begun_ok w' _ r p (h0.keep hs.chg0) hsm hru) ?_
  rintro ⟨bp, bd, bm⟩ _ rfl
  (refine ql_pure tabOk rfl rfl ?_; (iterate 2 refine ql_ext tabOk rfl rfl rfl ?_))
  refine ql_alloc zero117 rfl (fun b6 => ?_)
  (refine ql_set tabOk rfl rfl rfl rfl (by repeat constructor) ?_; refine ql_pure tabOk rfl rfl ?_; refine q_nil ?_; (iterate 2 refine q_seq ?_); refine q_region ?_; (iterate 2 refine ql_pure tabOk rfl rfl ?_); refine q_nil ?_; refine q_cond_false rfl ?_; refine q_skip ?_; refine q_seq ?_; refine q_region ?_; refine ql_loadB tabOk rfl rfl rfl (by repeat first | exact .head _ | refine .tail _ ?_) (by rfl) ?_)
  refine ql_call (β := Vf) (ψ := fun vf' v => GoodV r p vf' ∧ ∀ sh wt st cl, (sh, wt, st, cl) ∈ plcL r p → (vf' sh wt st cl).isSome = true) (L' := fun vf' => [mpV bm vf']) tabOk
    [mpV bm (fun _ _ _ _ => none)] _ (· = bm) rfl rfl rfl rfl (Sp.cons (by repeat constructor) (Sp.refl _)) (fun b hb => ⟨_, .head _, hb⟩) (fun w' hs => (fill_ca w' bp bd bm r p hr hp (fun _ _ _ _ => none) ⟨_, hs.blk (b := bp) (by repeat first | exact .head _ | refine .tail _ ?_), _, _, hs.blk (b := bd) (by repeat first | exact .head _ | refine .tail _ ?_), h0.keep hs.chg0⟩ (hs.mem (show mpV bm (fun _ _ _ _ => none) ∈ _ from .head _)) (fun _ _ _ _ _ h => by cases h)).mono fun v w'' ⟨vf', _, g1, g2, g3⟩ => ⟨vf', ⟨g1, g2⟩, g3⟩) ?_
  rintro vf v ⟨hgood, hfull⟩
  (refine q_nil ?_; refine q_seq ?_; refine q_region ?_)
  refine ql_alloc zero22 rfl (fun b8 => ?_)
  (refine q_nil ?_; refine q_seq ?_; refine q_region ?_; refine ql_loadB tabOk rfl rfl rfl (by repeat first | exact .head _ | refine .tail _ ?_) (by rfl) ?_; refine ql_pure tabOk rfl rfl ?_)
  refine ql_conv (H' := .ow (.slice none 0 0) 3 1 0 (ints []) :: _) (fun w' hs => Sat.ownil hs _ _) ?_
  refine ql_call (β := Value × List Int) (ψ := fun s' v => s'.2 = (plcL r p).map (valP r p)) (L' := fun s' => outL b8 s') tabOk
    (outL b8 (.slice none 0 0, [])) _ (DL (outL b8 (.slice none 0 0, []))) rfl rfl rfl rfl (Sp.cons (by repeat constructor) (Sp.cons (by repeat constructor) (Sp.refl _))) (fun b hb => hb) (fun w' hs => ?_) ?_
  · refine (situations_ca (σ := Value × List Int) w' bp bd bm r p _ (fun s => outL b8 s) (fun pre s => s.2 = pre.map (valP r p)) (.slice none 0 0, []) _ _ _ (h0.keep hs.chg0) hr hp
      (fun w'' hc => hs.aside hc (x := .pt bp _ _) (by repeat first | exact .head _ | refine .tail _ ?_)) (fun w'' hc => hs.aside hc (x := .pt bd _ _) (by repeat first | exact .head _ | refine .tail _ ?_)) rfl hs.self ?_)
    rintro pre ⟨sh, wt, st, cl⟩ post s w1 hx hI hs1
    have hmem : (sh, wt, st, cl) ∈ plcL r p := by rw [hx]; simp
    refine CaF.of tabOk rfl ((values1_ca w1 bp bd bm b6 b8 r p _ _ vf s sh wt st cl (valP r p (sh, wt, st, cl)) (hgood.at (hfull _ _ _ _ hmem)) ?_ hs1.self' (fun w2 hc => hs.aside (hs1.later hc) (x := .pt b6 _ _) (by repeat first | exact .head _ | refine .tail _ ?_)) (fun w2 hc => hs.aside (hs1.later hc) (x := .pt bp _ _) (by repeat first | exact .head _ | refine .tail _ ?_)) (fun w2 hc => hs.aside (hs1.later hc) (x := mpV bm vf) (by repeat first | exact .head _ | refine .tail _ ?_))).mono ?_)
    · have : (plcL r p).length = (pre ++ (sh, wt, st, cl) :: post).length := by rw [hx]
      rw [hI, List.length_map]
      simp at this
      omega
    · rintro v w2 ⟨s', g1, g2⟩
      exact ⟨s', by rw [g1, hI, List.map_append]; rfl, g2⟩
  · rintro ⟨x, l⟩ _ hl
    simp only at hl
    (refine q_nil ?_; refine q_seq ?_; refine q_region ?_; refine ql_loadB tabOk rfl rfl rfl (by repeat first | exact .head _ | refine .tail _ ?_) (by rfl) ?_; (iterate 2 refine ql_pure tabOk rfl rfl ?_); refine q_nil ?_; refine q_ret ?_)
    refine q_fin tabOk rfl (by repeat (first | exact RVs.nil | apply RVs.tmp rfl | apply RVs.cellA rfl rfl (by repeat first | exact .head _ | refine .tail _ ?_) (by rfl) | apply RVs.cell1 rfl rfl (by repeat first | exact .head _ | refine .tail _ ?_))) fun w hs => ?_
    refine ⟨x, rfl, ?_⟩
    have e := congrArg List.length hl
    simp only [List.length_map] at e
    have h1 := hs.sp (H' := [.ow x 3 1 l.length (ints l)]) (by repeat (first | exact Sp.nil | exact Sp.refl _ | refine Sp.cons (by repeat constructor) ?_))
    rw [e, hl] at h1
    exact h1

end Go.Proofs.Ytohlillcaadidaa

/- Walks: Proves. -/
namespace Go.Proofs.Ytohlillcaadidaa
open Go Go.Eng

/-- The place of a situation in its list. -/
def idxP (r : Rg) (p : Ru) (x : Plc) : Nat := ((x.1 * (p.waits + 1).toNat + x.2.1) * r.drifts.length + x.2.2.1) * (2 * r.clicks + 1).toNat + (x.2.2.2 + r.clicks).toNat
theorem idx_flat (m c : Nat) : ∀ n, (List.range n).flatMap (fun i => (List.range m).map (fun j => (c + i) * m + j)) = (List.range (n * m)).map (fun j => c * m + j)
  | 0 => by simp
  | n + 1 => by
    rw [rangeF_succ, idx_flat m c n, Nat.succ_mul, List.range_add, List.map_append, List.map_map]
    congr 1
    refine List.map_congr_left fun j _ => ?_
    simp only [Function.comp, Nat.add_mul]
    omega
theorem pl3_idx (r : Rg) (p : Ru) (sh wt st : Nat) : (pl3 r sh wt st).map (idxP r p) = (List.range (2 * r.clicks + 1).toNat).map (fun j => ((sh * (p.waits + 1).toNat + wt) * r.drifts.length + st) * (2 * r.clicks + 1).toNat + j) := by
  rw [pl3, List.map_flatMap]
  have : ∀ i, (pl4 r sh wt st i).map (idxP r p) = [((sh * (p.waits + 1).toNat + wt) * r.drifts.length + st) * (2 * r.clicks + 1).toNat + i] := fun i => by
    simp only [pl4, idxP, List.map_cons, List.map_nil]
    congr 2
    omega
  simp only [this]
  exact List.map_eq_flatMap.symm
theorem pl2_idx (r : Rg) (p : Ru) (sh wt : Nat) : (pl2 r sh wt).map (idxP r p) = (List.range (r.drifts.length * (2 * r.clicks + 1).toNat)).map (fun j => (sh * (p.waits + 1).toNat + wt) * (r.drifts.length * (2 * r.clicks + 1).toNat) + j) := by
  rw [pl2, List.map_flatMap]
  simp only [pl3_idx]
  rw [idx_flat]
  simp only [Nat.mul_assoc]
theorem pl1_idx (r : Rg) (p : Ru) (sh : Nat) : (pl1 r p sh).map (idxP r p) = (List.range ((p.waits + 1).toNat * (r.drifts.length * (2 * r.clicks + 1).toNat))).map (fun j => sh * ((p.waits + 1).toNat * (r.drifts.length * (2 * r.clicks + 1).toNat)) + j) := by
  rw [pl1, List.map_flatMap]
  simp only [pl2_idx]
  rw [idx_flat]
  simp only [Nat.mul_assoc]
theorem plcL_idx (r : Rg) (p : Ru) : (plcL r p).map (idxP r p) = List.range (plcL r p).length := by
  rw [plcL_length, plcL, List.map_flatMap]
  simp only [pl1_idx]
  have := idx_flat ((p.waits + 1).toNat * (r.drifts.length * (2 * r.clicks + 1).toNat)) 0 5
  simp only [Nat.zero_add, Nat.zero_mul] at this
  rw [this]
  simp
theorem idx_at (r : Rg) (p : Ru) {pre post : List Plc} {x : Plc} (h : plcL r p = pre ++ x :: post) : idxP r p x = pre.length := by
  have h1 := plcL_idx r p
  have h2 : ((plcL r p).map (idxP r p))[pre.length]? = (List.range (plcL r p).length)[pre.length]? := by rw [h1]
  rw [h] at h2
  simpa using h2

/-- Values that are given. -/
def gV (r : Rg) (p : Ru) (l : List Int) (sh wt st : Nat) (cl : Int) : Int := l.getD (idxP r p (sh, wt, st, cl)) 0
/-- Some of the given values, and none beyond the bound. -/
def GoodW (r : Rg) (p : Ru) (l : List Int) (pre : List Plc) (vf : Vf) : Prop := (∀ sh wt st cl, (sh, wt, st, cl) ∈ pre → vf sh wt st cl = some (gV r p l sh wt st cl)) ∧ ∀ a b c d v, vf a b c d = some v → 0 ≤ v ∧ v ≤ 1000000000000000
theorem GoodW.put {r : Rg} {p : Ru} {l : List Int} {pre post : List Plc} {vf : Vf} {sh wt st : Nat} {cl : Int} (h : GoodW r p l pre vf) (hx : plcL r p = pre ++ (sh, wt, st, cl) :: post) (hl : l.length = (plcL r p).length) (hb : ∀ v ∈ l, 0 ≤ v ∧ v ≤ 1000000000000000) :
    ∃ h : pre.length < l.length, GoodW r p l (pre ++ [(sh, wt, st, cl)]) (updF vf sh wt st cl l[pre.length]) := by
  have hk : pre.length < l.length := by rw [hl, hx]; simp
  have hi := idx_at r p hx
  have hg : gV r p l sh wt st cl = l[pre.length] := by unfold gV; rw [hi]; simp [hk]
  refine ⟨hk, fun a b c d hm => ?_, fun a b c d v hv => ?_⟩
  · unfold updF
    split
    · rename_i hq
      obtain ⟨h1, h2, h3, rfl⟩ := hq
      obtain rfl : a = sh := by omega
      obtain rfl : b = wt := by omega
      obtain rfl : c = st := by omega
      rw [hg]
    · rename_i hq
      rcases List.mem_append.1 hm with hm | hm
      · exact h.1 _ _ _ _ hm
      · rw [List.mem_singleton] at hm
        cases hm
        exact absurd ⟨rfl, rfl, rfl, rfl⟩ hq
  · unfold updF at hv
    split at hv
    · cases hv
      exact hb _ (List.getElem_mem hk)
    · exact h.2 _ _ _ _ _ hv
theorem GoodW.fine {r : Rg} {p : Ru} {l : List Int} {pre : List Plc} {vf : Vf} (h : GoodW r p l pre vf) (sh wt : Nat) : FineV r vf sh wt := by
  intro t c ht hc
  cases hv : vf sh wt t c with
  | none =>
    have : gvF vf sh wt t c = 0 := by unfold gvF; rw [hv]; rfl
    rw [this]; omega
  | some v =>
    have : gvF vf sh wt t c = v := by unfold gvF; rw [hv]; rfl
    rw [this]
    exact h.2 _ _ _ _ _ hv

abbrev prL (bm b10 : Nat) (s : Vf × Nat) : List Ck := [mpV bm s.1, .pt b10 [.int .i64 s.2] 3]

set_option maxHeartbeats 2000000 in
theorem proves2_ca (w : World) (bp bd bm b5 b8 b10 : Nat) (p : Ru) (tp t5 t8 : TypeId) (lo hi : Nat) (vs : Value) (l : List Int) (s : Vf × Nat) (sh wt st cl : Int) (hk : s.2 < l.length) (hlen : l.length ≤ 1000000)
    (hsat : Sat w (DL (prL bm b10 s)) (prL bm b10 s) w)
    (hb5 : ∀ w', ChgP (DL (prL bm b10 s)) w w' → Blk w' b5 [vs] t5)
    (hb8 : ∀ w', ChgP (DL (prL bm b10 s)) w w' → Blk w' b8 [.pointer (some ⟨bp, 0, none⟩)] t8)
    (hplb : ∀ w', ChgP (DL (prL bm b10 s)) w w' → Blk w' bp [.pointer (some ⟨bd, 0, none⟩), .int .i64 p.miss, .int .i64 p.click, .int .i64 p.wait, .int .i64 p.waits, .map (some bm)] tp)
    (hval : ∀ w', ChgP (DL (prL bm b10 s)) w w' → RdI w' lo hi vs l) :
    Ca Try.prog 79 [plcV sh wt st cl, .pointer (some ⟨b5, 0, none⟩), .pointer (some ⟨b10, 0, none⟩), .pointer (some ⟨b8, 0, none⟩)] w fun _ w' => Sat w (DL (prL bm b10 s)) (prL bm b10 (updF s.1 sh wt st cl l[s.2], s.2 + 1)) w' := by
  obtain ⟨vf, k⟩ := s
  simp only at hk
  obtain ⟨a, cap, rfl, hsd⟩ := (hval w (ChgP.refl _ _)).outI
  obtain ⟨bv, ov, rfl⟩ := hsd (by omega)
  refine q_of (H := prL bm b10 (vf, k)) hsat Try.func79 rfl (by simp [Try.ntmps79]) ?_
  (refine q_seq ?_; refine q_region ?_)
  refine ql_box rfl rfl (fun b4 => ?_)
  (refine q_nil ?_; refine q_seq ?_)
  refine q_draw _ [mpV bm vf] (Sp.cons (by repeat constructor) (Sp.refl _)) (by kernel_rfl) (by kernel_rfl) ?_
  (refine qf_loadG tabOk rfl rfl rfl (by assumption) (by rfl) ?_; (iterate 2 refine qf_pure tabOk rfl rfl rfl ?_); refine qf_loadG tabOk rfl rfl rfl (by assumption) (by rfl) ?_; refine qf_loadAB tabOk rfl rfl rfl (by repeat first | exact .head _ | refine .tail _ ?_) (by rfl) (by rfl) ?_; refine qf_loadG tabOk rfl rfl rfl (by assumption) (by rfl) ?_; refine qf_loadB tabOk rfl rfl rfl (by repeat first | exact .head _ | refine .tail _ ?_) (by rfl) ?_)
  (refine qf_index tabOk rfl rfl rfl rfl rfl (by omega) (by omega) ?_; refine qf_load1 tabOk rfl rfl rfl (fun w hs => RdI.at (hval w hs.chg) k hk) ?_)
  skip
  refine qf_mapUpd plc_key plc_map rfl rfl rfl (plcV_key _ _ _ _) (by repeat constructor) ?_
  (refine qf_nil ?_; refine q_region ?_; refine ql_loadB tabOk rfl rfl rfl (by repeat first | exact .head _ | refine .tail _ ?_) (by rfl) ?_; refine ql_ar tabOk rfl rfl rfl rfl (by omega) (by omega) ?_; refine ql_set tabOk rfl rfl rfl rfl (by repeat constructor) ?_; refine q_nil ?_)
  refine q_end tabOk rfl (by repeat (first | exact RVs.nil | apply RVs.tmp rfl | apply RVs.cellA rfl rfl (by repeat first | exact .head _ | refine .tail _ ?_) (by rfl) | apply RVs.cell1 rfl rfl (by repeat first | exact .head _ | refine .tail _ ?_))) fun w hs => ?_
  have h1 := (hs.sp (H' := _ :: [.pt b10 [.int .i64 (k + 1)] 3]) (Sp.cons (by repeat constructor) (by repeat (first | exact Sp.nil | exact Sp.refl _ | refine Sp.cons (by repeat constructor) ?_)))).mapC (updF_lift vf sh wt st cl _)
  exact h1

/-- A given value is not above what the best choice costs. -/
def holdV (r : Rg) (p : Ru) (g : Nat → Nat → Nat → Int → Int) (x : Plc) : Bool := decide (g x.1 x.2.1 x.2.2.1 x.2.2.2 ≤ (chV r p (g (x.1 + 1) x.2.1) (g x.1 (x.2.1 - 1)) x.1 x.2.1 x.2.2.1 x.2.2.2).2) && true

set_option maxHeartbeats 2000000 in
theorem proves3_ca (w : World) (bp bd bm b8 b11 : Nat) (r : Rg) (p : Ru) (hr : r.Right) (hp : p.Right) (t8 : TypeId) (l : List Int) (vf : Vf) (b : Bool) (sh wt st : Nat) (cl : Int) (hmem : (sh, wt, st, cl) ∈ plcL r p) (hW : GoodW r p l (plcL r p) vf)
    (hsat : Sat w (· = b11) [.pt b11 [.bool b] 4] w)
    (hb8 : ∀ w', ChgP (· = b11) w w' → Blk w' b8 [.pointer (some ⟨bp, 0, none⟩)] t8)
    (hpl : ∀ w', ChgP (· = b11) w w' → PlAt w' bp bd bm r p)
    (hm : ∀ w', ChgP (· = b11) w w' → MapAt w' bm (keyF k4) eqV (liftF vf)) :
    Ca Try.prog 80 [plcV sh wt st cl, .pointer (some ⟨b8, 0, none⟩), .pointer (some ⟨b11, 0, none⟩)] w fun _ w' => Sat w (· = b11) [.pt b11 [.bool (b && holdV r p (gV r p l) (sh, wt, st, cl))] 4] w' := by
  have h1 := hpl w (ChgP.refl _ _)
  obtain ⟨tp, hplb, hdk⟩ := h1; have hdk0 := hdk; obtain ⟨cs, bt, hblk, lo, hi, ag, cg, ad, cd, af, cf, an, cn, rfl, hg, hdr, hf, hn⟩ := hdk
  obtain ⟨h5, hwt, hst, hcl⟩ := (plcL_mem r p sh wt st cl).1 hmem
  have hw3 : wt ≤ 3 := by have := hp.waits; omega
  have hplb : ∀ w', ChgP (· = b11) w w' → Blk w' bp [.pointer (some ⟨bd, 0, none⟩), .int .i64 p.miss, .int .i64 p.click, .int .i64 p.wait, .int .i64 p.waits, .map (some bm)] tp := fun w' c => by
    obtain ⟨t', h1', _⟩ := hpl w' c
    have e := c.block bp hplb.lt (fun h => by
      subst h
      have := hsat.blk (b := bp) (.head _)
      unfold Blk at this hplb
      rw [this] at hplb
      simp at hplb)
    exact e.trans hplb
  have hch : chV r p (gvF vf (sh + 1) wt) (gvF vf sh (wt - 1)) sh wt st cl = chV r p (gV r p l (sh + 1) wt) (gV r p l sh (wt - 1)) sh wt st cl := by
    refine chV_congr r p _ _ _ _ sh wt st cl hcl (fun h4 t c ht hc => ?_) (fun h0 t ht => ?_)
    · show (vf ((sh + 1 : Nat) : Int) wt t c).getD 0 = _
      rw [hW.1 (sh + 1) wt t c ((plcL_mem r p _ _ _ _).2 ⟨by omega, hwt, ht, hc⟩)]; rfl
    · show (vf sh ((wt - 1 : Nat) : Int) t cl).getD 0 = _
      rw [hW.1 sh (wt - 1) t cl ((plcL_mem r p _ _ _ _).2 ⟨by omega, by omega, ht, hcl⟩)]; rfl
  have hvx := hW.1 sh wt st cl hmem
  obtain ⟨cv, hcv⟩ : ∃ cv, cv = chV r p (gV r p l (sh + 1) wt) (gV r p l sh (wt - 1)) sh wt st cl := ⟨_, rfl⟩
  have hhold : holdV r p (gV r p l) (sh, wt, st, cl) = decide (gV r p l sh wt st cl ≤ cv.2) := by rw [hcv]; unfold holdV; simp
  rw [hhold]
  rw [← hcv] at hch
  refine q_of (H := [.pt b11 [.bool b] 4]) hsat Try.func80 rfl (by simp [Try.ntmps80]) ?_
  (refine q_seq ?_; refine q_region ?_)
  refine ql_box rfl rfl (fun b3 => ?_)
  (refine q_nil ?_; refine q_seq ?_; refine q_region ?_; refine ql_loadG tabOk rfl rfl rfl (by assumption) (by rfl) ?_; refine ql_loadAB tabOk rfl rfl rfl (by repeat first | exact .head _ | refine .tail _ ?_) (by rfl) (by rfl) ?_)
  refine ql_callv (val := .tuple #[.agg #[.bool cv.1.1, .int .i64 cv.1.2], .int .i64 cv.2]) tabOk rfl rfl rfl rfl (fun w hs => ?_) ?_; exact by have := choose_ca w bp bd bm r p vf sh wt st cl (hpl w hs.chg) (hm w hs.chg) hr hp (by omega) hw3 hst hcl (fun _ => hW.fine _ _) (fun _ => hW.fine _ _); rw [hch] at this; exact this
  (refine ql_pure tabOk rfl rfl ?_; (iterate 2 refine ql_ext tabOk rfl rfl rfl ?_))
  refine ql_alloc zero47 rfl (fun b4 => ?_)
  (refine ql_setA tabOk rfl rfl rfl rfl rfl (by repeat constructor) rfl ?_; refine ql_pure tabOk rfl rfl ?_; refine q_nil ?_)
  cases b with
  | false =>
    refine q_drawS 11 _ [.pt b11 _ _] (Sp.cons (by repeat constructor) (Sp.refl _)) (by kernel_rfl) (by kernel_rfl) (by kernel_rfl) fun K1 hK1 => ?_
    (refine qf_loadB tabOk rfl rfl rfl (by repeat first | exact .head _ | refine .tail _ ?_) (by rfl) ?_; refine qf_pure tabOk rfl rfl rfl ?_; (iterate 8 refine qf_gno rfl rfl rfl ?_); refine qf_pure tabOk rfl rfl rfl ?_; refine qf_nil ?_)
    refine hK1 _ _ [.pt b11 _ _] (Sp.cons (by repeat constructor) ((by repeat (first | exact Sp.nil | exact Sp.refl _ | refine Sp.cons (by repeat constructor) ?_)))) ?_
    (refine qf_set tabOk rfl rfl rfl rfl (by repeat constructor) ?_; refine qf_nil ?_)
    refine q_end tabOk rfl (by repeat (first | exact RVs.nil | apply RVs.tmp rfl | apply RVs.cellA rfl rfl (by repeat first | exact .head _ | refine .tail _ ?_) (by rfl) | apply RVs.cell1 rfl rfl (by repeat first | exact .head _ | refine .tail _ ?_))) fun w hs => ?_
    exact hs.sp (by repeat (first | exact Sp.nil | exact Sp.refl _ | refine Sp.cons (by repeat constructor) ?_))
  | true =>
    refine q_drawS 11 _ [.pt b11 _ _] (Sp.cons (by repeat constructor) (Sp.refl _)) (by kernel_rfl) (by kernel_rfl) (by kernel_rfl) fun K1 hK1 => ?_
    (refine qf_loadB tabOk rfl rfl rfl (by repeat first | exact .head _ | refine .tail _ ?_) (by rfl) ?_; refine qf_pure tabOk rfl rfl rfl ?_; refine qf_gyes rfl ?_; refine qf_loadG tabOk rfl rfl rfl (by assumption) (by rfl) ?_; refine qf_gyes rfl ?_; refine qf_pure tabOk rfl rfl rfl ?_; refine qf_gyes rfl ?_; refine qf_pure tabOk rfl rfl rfl ?_; refine qf_gyes rfl ?_; refine qf_loadG tabOk rfl rfl rfl (by assumption) (by rfl) ?_; refine qf_gyes rfl ?_; refine qf_loadAB tabOk rfl rfl rfl (by repeat first | exact .head _ | refine .tail _ ?_) (by rfl) (by rfl) ?_; refine qf_gyes rfl ?_)
    refine qf_lookG (v := .int .i64 (gV r p l sh wt st cl)) plc_key plc_map zero_int rfl rfl rfl hm (plcV_key _ _ _ _) ((liftF_get vf sh wt st cl).trans (by rw [hvx]; rfl)) ?_
    (refine qf_gyes rfl ?_; refine qf_pure tabOk rfl rfl rfl ?_; refine qf_gyes rfl ?_; (iterate 2 refine qf_pure tabOk rfl rfl rfl ?_); refine qf_nil ?_)
    refine hK1 _ _ [.pt b11 _ _] (Sp.cons (by repeat constructor) ((by repeat (first | exact Sp.nil | exact Sp.refl _ | refine Sp.cons (by repeat constructor) ?_)))) ?_
    (refine qf_set tabOk rfl rfl rfl rfl (by repeat constructor) ?_; refine qf_nil ?_)
    refine q_end tabOk rfl (by repeat (first | exact RVs.nil | apply RVs.tmp rfl | apply RVs.cellA rfl rfl (by repeat first | exact .head _ | refine .tail _ ?_) (by rfl) | apply RVs.cell1 rfl rfl (by repeat first | exact .head _ | refine .tail _ ?_))) fun w hs => ?_
    exact hs.sp (by repeat (first | exact Sp.nil | exact Sp.refl _ | refine Sp.cons (by repeat constructor) ?_))

theorem DL_pt (b : Nat) (cs : List Value) (t : TypeId) : DL [.pt b cs t] = (· = b) := by
  funext x
  refine propext ⟨?_, ?_⟩
  · rintro ⟨c, hc, hb⟩
    rw [List.mem_singleton.1 hc] at hb
    exact hb
  · rintro rfl
    exact ⟨_, .head _, rfl⟩

/-- How many values there are. -/
def cntP (r : Rg) (p : Ru) : Int := 5 * (p.waits + 1) * r.drifts.length * (2 * r.clicks + 1)
theorem cntP_eq {r : Rg} {p : Ru} (hr : r.Right) (hp : p.Right) : cntP r p = ((plcL r p).length : Int) := by
  rw [plcL_length]
  have h1 := hr.clicks
  have h3 := hp.waits
  have e1 : (((p.waits + 1).toNat : Nat) : Int) = p.waits + 1 := by omega
  have e2 : (((2 * r.clicks + 1).toNat : Nat) : Int) = 2 * r.clicks + 1 := by omega
  simp only [Int.natCast_mul, e1, e2, cntP]
  simp [Int.mul_assoc]
theorem cntP_bd {r : Rg} {p : Ru} (hr : r.Right) (hp : p.Right) : (0 ≤ 5 * (p.waits + 1) * (r.drifts.length : Int) ∧ 5 * (p.waits + 1) * (r.drifts.length : Int) ≤ 100) ∧ 0 ≤ 5 * (p.waits + 1) * (r.drifts.length : Int) * (2 * r.clicks + 1) ∧ 5 * (p.waits + 1) * (r.drifts.length : Int) * (2 * r.clicks + 1) ≤ 1300 := by
  have h1 := hr.clicks
  have h2 := hr.d2
  have h3 := hp.waits
  have a := mul_bd0 (show 0 ≤ 5 * (p.waits + 1) ∧ 5 * (p.waits + 1) ≤ 20 by omega) (show 0 ≤ (r.drifts.length : Int) ∧ (r.drifts.length : Int) ≤ 5 by omega)
  have a' : 0 ≤ 5 * (p.waits + 1) * (r.drifts.length : Int) ∧ 5 * (p.waits + 1) * (r.drifts.length : Int) ≤ 100 := by omega
  have b := mul_bd0 a' (show 0 ≤ 2 * r.clicks + 1 ∧ 2 * r.clicks + 1 ≤ 13 by omega)
  exact ⟨a', by omega⟩
/-- What values prove. -/
def costV (r : Rg) (p : Ru) (g : Nat → Nat → Nat → Int → Int) : Int := sumR (fun s => r.first.getD s 0 * g 0 p.waits.toNat s 0) r.drifts.length
def proofV (r : Rg) (p : Ru) (l : List Int) : (Int × Int) × Int :=
  if rulesV r p ≠ 0 then ((0, 0), rulesV r p) else if (l.length : Int) ≠ cntP r p then ((0, 0), 2) else if !(l.all (fun n => inB n 0 1000000000000000)) then ((0, 0), 3)
  else if !((plcL r p).all (holdV r p (gV r p l))) then ((0, 0), 8) else (ratioV (costV r p (gV r p l)) (partsV r 0 p.waits.toNat * r.total), 0)

theorem prov1_p (w : World) (es : List Int) : PredAt Try.prog tab w (.func (.func 78) #[] #[]) (ints es) (pI 0 1000000000000000) := by
  refine ⟨_, _, _, rfl, rfl, fun w' hw' x hx => ?_⟩
  obtain ⟨y, hy, rfl⟩ := List.mem_map.1 hx
  refine q_of (Sat.nil w' M0) Try.func78 rfl (by simp [Try.ntmps78]) ?_
  (refine q_seq ?_; refine q_region ?_; refine ql_pure tabOk rfl rfl ?_; refine q_nil ?_; refine q_seq ?_; refine q_region ?_; refine ql_pure tabOk rfl rfl ?_)
  refine ql_callv tabOk rfl rfl rfl rfl (fun w hs => in_ca y 0 1000000000000000 w) ?_
  (refine ql_pure tabOk rfl rfl ?_; refine q_nil ?_; refine q_ret ?_)
  refine q_fin tabOk rfl (by repeat (first | exact RVs.nil | apply RVs.tmp rfl | apply RVs.cellA rfl rfl (by repeat first | exact .head _ | refine .tail _ ?_) (by rfl) | apply RVs.cell1 rfl rfl (by repeat first | exact .head _ | refine .tail _ ?_))) fun w hs => ?_
  exact ⟨rfl, hs.chg0⟩

set_option maxHeartbeats 4000000 in
theorem proves_ca (w : World) (l0 h1 : Nat) (cs : List Value) (r : Rg) (p : Ru) (v : Value) (l : List Int) (h : RgC w cs r) (hsm : r.Small) (hl : RdI w l0 h1 v l) (hlen : l.length ≤ 1000000) : Ca Try.prog 24 [.agg cs.toArray, .agg #[.int .i64 p.miss, .int .i64 p.click, .int .i64 p.wait, .int .i64 p.waits], v] w fun v w' =>
    v = .tuple #[rtV (proofV r p l).1, .int .i64 (proofV r p l).2] ∧ Chg [] w w' := by
  have h0 := h
  have s2 := hsm.drifts
  obtain ⟨lo, hi, ag, cg, ad, cd, af, cf, an, cn, rfl, hg, hdr, hf, hn⟩ := h
  obtain ⟨av, cv, rfl, hsd⟩ := hl.outI
  refine q_of (Sat.nil w M0) Try.func24 rfl (by simp [Try.ntmps24]) ?_
  (refine q_seq ?_; refine q_region ?_)
  refine ql_box rfl rfl (fun b3 => ?_)
  skip
  refine ql_box rfl rfl (fun b4 => ?_)
  skip
  refine ql_box rfl rfl (fun b5 => ?_)
  skip
  refine ql_alloc zero42 rfl (fun b6 => ?_)
  (refine ql_pure tabOk rfl rfl ?_; refine q_nil ?_; refine q_seq ?_; refine q_region ?_; (iterate 2 refine ql_loadAB tabOk rfl rfl rfl (by repeat first | exact .head _ | refine .tail _ ?_) (by rfl) (by rfl) ?_))
  by_cases hru : rulesV r p = 0
  · obtain ⟨hck, hp⟩ := (rules_iff r p).1 hru
    have hr := (right_check r).1 hck
    have hcnt := cntP_bd hr hp
    have hC := hr.clicks
    have hW := hp.waits
    refine ql_call (β := Nat × Nat × Nat) tabOk [] _ M0 rfl rfl rfl rfl (Sp.refl _) (fun _ h => h.elim) (fun w' hs => begun_ok w' _ r p (h0.keep hs.chg0) hsm hru) ?_
    rintro ⟨bp, bd, bm⟩ _ rfl
    (refine ql_pure tabOk rfl rfl ?_; (iterate 2 refine ql_ext tabOk rfl rfl rfl ?_))
    refine ql_alloc zero117 rfl (fun b8 => ?_)
    (refine ql_set tabOk rfl rfl rfl rfl (by repeat constructor) ?_; refine ql_pure tabOk rfl rfl ?_; refine q_nil ?_; refine q_seq ?_; refine q_block ?_; refine q_seq ?_; refine q_region ?_; (iterate 3 refine ql_pure tabOk rfl rfl ?_); refine q_nil ?_; refine q_cond_false rfl ?_; refine q_seq ?_; refine q_region ?_; refine ql_loadB tabOk rfl rfl rfl (by repeat first | exact .head _ | refine .tail _ ?_) (by rfl) ?_; (iterate 2 refine ql_pure tabOk rfl rfl ?_); refine ql_loadB tabOk rfl rfl rfl (by repeat first | exact .head _ | refine .tail _ ?_) (by rfl) ?_; (iterate 2 refine ql_ar tabOk rfl rfl rfl rfl (by omega) (by omega) ?_); refine ql_pure tabOk rfl rfl ?_; refine ql_loadB tabOk rfl rfl rfl (by repeat first | exact .head _ | refine .tail _ ?_) (by rfl) ?_; refine ql_pure tabOk rfl rfl ?_; refine ql_ar tabOk rfl rfl rfl rfl (by omega) (by omega) ?_; refine ql_pure tabOk rfl rfl ?_; refine ql_loadB tabOk rfl rfl rfl (by repeat first | exact .head _ | refine .tail _ ?_) (by rfl) ?_; (iterate 3 refine ql_ar tabOk rfl rfl rfl rfl (by omega) (by omega) ?_); (iterate 2 refine ql_pure tabOk rfl rfl ?_); refine q_nil ?_)
    by_cases hn : (l.length : Int) = cntP r p
    · rw [decide_eq_true (show (l.length : Int) = 5 * (p.waits + 1) * r.drifts.length * (2 * r.clicks + 1) from hn)]
      (refine q_cond_false rfl ?_; refine q_seq ?_; refine q_region ?_; refine ql_loadB tabOk rfl rfl rfl (by repeat first | exact .head _ | refine .tail _ ?_) (by rfl) ?_)
      refine ql_callv (val := .bool (l.all (fun n => inB n 0 1000000000000000))) tabOk rfl rfl rfl rfl (fun w hs => ?_) ?_; exact by have := all_int w l0 h1 _ _ (ints l) (pI 0 1000000000000000) (RdE.keep hl hs.chg0) (ints_one _) (by simp; omega) (prov1_p w l); rw [pI_all] at this; exact this
      ((iterate 2 refine ql_pure tabOk rfl rfl ?_); refine q_nil ?_)
      cases hall : l.all (fun n => inB n 0 1000000000000000) with
      | false =>
        (refine q_cond_true rfl ?_; refine q_seq ?_; refine q_region ?_)
        refine ql_mk #[.int .i64 0, .int .i64 0] rfl (by kernel_rfl) rfl ?_
        (refine ql_setA tabOk rfl rfl rfl rfl rfl (by repeat constructor) rfl ?_; refine ql_pure tabOk rfl rfl ?_; refine q_nil ?_; refine q_ret ?_)
        refine q_fin tabOk rfl (by repeat (first | exact RVs.nil | apply RVs.tmp rfl | apply RVs.cellA rfl rfl (by repeat first | exact .head _ | refine .tail _ ?_) (by rfl) | apply RVs.cell1 rfl rfl (by repeat first | exact .head _ | refine .tail _ ?_))) fun w hs => ?_
        refine ⟨?_, hs.chg0⟩
        have e : proofV r p l = ((0, 0), 3) := by unfold proofV; rw [if_neg (by simpa using hru), if_neg (by simpa using hn), hall]; rfl
        rw [e]; rfl
      | true =>
        (refine q_cond_false rfl ?_; refine q_skip ?_; refine q_blk ?_; refine q_seq ?_; refine q_region ?_)
        refine ql_alloc zero3 rfl (fun b10 => ?_)
        (refine ql_set tabOk rfl rfl rfl rfl (by repeat constructor) ?_; refine q_nil ?_; refine q_seq ?_; refine q_region ?_; refine ql_loadB tabOk rfl rfl rfl (by repeat first | exact .head _ | refine .tail _ ?_) (by rfl) ?_; refine ql_pure tabOk rfl rfl ?_)
        have hll : l.length = (plcL r p).length := by rw [cntP_eq hr hp] at hn; omega
        have hbnd : ∀ v ∈ l, 0 ≤ v ∧ v ≤ 1000000000000000 := fun v hv => inB_iff.1 (List.all_eq_true.1 hall v hv)
        refine ql_call (β := Vf × Nat) (ψ := fun s v => GoodW r p l (plcL r p) s.1) (L' := fun s => prL bm b10 s) tabOk
          (prL bm b10 ((fun _ _ _ _ => none), 0)) _ (DL (prL bm b10 ((fun _ _ _ _ => none), 0))) rfl rfl rfl rfl (Sp.cons (by repeat constructor) (Sp.cons (by repeat constructor) (Sp.refl _))) (fun b hb => hb) (fun w' hs => ?_) ?_
        · refine (situations_ca (σ := Vf × Nat) w' bp bd bm r p _ (fun s => prL bm b10 s) (fun pre s => s.2 = pre.length ∧ GoodW r p l pre s.1) ((fun _ _ _ _ => none), 0) _ _ _ (h0.keep hs.chg0) hr hp
            (fun w'' hc => hs.aside hc (x := .pt bp _ _) (by repeat first | exact .head _ | refine .tail _ ?_)) (fun w'' hc => hs.aside hc (x := .pt bd _ _) (by repeat first | exact .head _ | refine .tail _ ?_)) ⟨rfl, fun _ _ _ _ h => (by cases h), fun _ _ _ _ _ h => by cases h⟩ hs.self ?_).mono fun v w'' ⟨s', ⟨_, g⟩, g2⟩ => ⟨s', g, g2⟩
          rintro pre ⟨sh, wt, st, cl⟩ post ⟨vf1, k1⟩ w1 hx ⟨hI1, hI2⟩ hs1
          simp only at hI1 hI2
          subst hI1
          obtain ⟨hk, hput⟩ := hI2.put hx hll hbnd
          refine CaF.of tabOk rfl ((proves2_ca w1 bp bd bm b5 b8 b10 p _ _ _ l0 h1 _ l (vf1, pre.length) sh wt st cl hk hlen hs1.self' (fun w2 hc => hs.aside (hs1.later hc) (x := .pt b5 _ _) (by repeat first | exact .head _ | refine .tail _ ?_)) (fun w2 hc => hs.aside (hs1.later hc) (x := .pt b8 _ _) (by repeat first | exact .head _ | refine .tail _ ?_)) (fun w2 hc => hs.aside (hs1.later hc) (x := .pt bp _ _) (by repeat first | exact .head _ | refine .tail _ ?_)) (fun w2 hc => RdE.keep hl (hs.asideOld (hs1.later hc)))).mono ?_)
          rintro v w2 g
          exact ⟨(updF vf1 sh wt st cl l[pre.length], pre.length + 1), ⟨by simp, hput⟩, g⟩
        rintro ⟨vf, k1⟩ v hGW
        (refine q_nil ?_; refine q_seq ?_; refine q_region ?_)
        refine ql_alloc zero4 rfl (fun b11 => ?_)
        (refine ql_set tabOk rfl rfl rfl rfl (by repeat constructor) ?_; refine q_nil ?_; refine q_seq ?_; refine q_region ?_; refine ql_loadB tabOk rfl rfl rfl (by repeat first | exact .head _ | refine .tail _ ?_) (by rfl) ?_; refine ql_pure tabOk rfl rfl ?_)
        refine ql_call (β := Bool) (ψ := fun b v => b = (plcL r p).all (holdV r p (gV r p l))) (L' := fun b => [.pt b11 [.bool b] 4]) tabOk
          [.pt b11 [.bool true] 4] _ (DL [.pt b11 [.bool true] 4]) rfl rfl rfl rfl (Sp.cons (by repeat constructor) (Sp.refl _)) (fun b hb => hb) (fun w' hs => ?_) ?_
        · refine (situations_ca (σ := Bool) w' bp bd bm r p _ (fun b => [.pt b11 [.bool b] 4]) (fun pre b => b = pre.all (holdV r p (gV r p l))) true _ _ _ (h0.keep hs.chg0) hr hp
            (fun w'' hc => hs.aside hc (x := .pt bp _ _) (by repeat first | exact .head _ | refine .tail _ ?_)) (fun w'' hc => hs.aside hc (x := .pt bd _ _) (by repeat first | exact .head _ | refine .tail _ ?_)) rfl hs.self ?_).mono fun v w'' ⟨s', g, g2⟩ => ⟨s', g, g2⟩
          rintro pre ⟨sh, wt, st, cl⟩ post b w1 hx hI hs1
          have hlat : ∀ w2, ChgP (· = b11) w1 w2 → ChgP (DL [.pt b11 [.bool true] 4]) w' w2 := fun w2 hc => hs1.later (by rw [DL_pt]; exact hc)
          have hs1' := hs1.self'
          rw [DL_pt] at hs1'
          refine CaF.of tabOk rfl ((proves3_ca w1 bp bd bm b8 b11 r p hr hp _ l vf b sh wt st cl (by rw [hx]; simp) hGW hs1' (fun w2 hc => hs.aside (hlat w2 hc) (x := .pt b8 _ _) (by repeat first | exact .head _ | refine .tail _ ?_)) (fun w2 hc => ⟨_, hs.aside (hlat w2 hc) (x := .pt bp _ _) (by repeat first | exact .head _ | refine .tail _ ?_), _, _, hs.aside (hlat w2 hc) (x := .pt bd _ _) (by repeat first | exact .head _ | refine .tail _ ?_), h0.keep (hs.asideOld (hlat w2 hc))⟩) (fun w2 hc => hs.aside (hlat w2 hc) (x := mpV bm vf) (by repeat first | exact .head _ | refine .tail _ ?_))).mono ?_)
          rintro v w2 g
          exact ⟨b && holdV r p (gV r p l) (sh, wt, st, cl), by simp [hI, List.all_append], by rw [DL_pt]; exact g⟩
        rintro b v hb
        (refine q_nil ?_; (iterate 2 refine q_seq ?_); refine q_region ?_; refine ql_loadB tabOk rfl rfl rfl (by repeat first | exact .head _ | refine .tail _ ?_) (by rfl) ?_; refine ql_pure tabOk rfl rfl ?_; refine q_nil ?_)
        cases hhold : (plcL r p).all (holdV r p (gV r p l)) with
        | false =>
          rw [hhold] at hb
          subst hb
          (refine q_cond_true rfl ?_; refine q_seq ?_; refine q_region ?_)
          refine ql_mk #[.int .i64 0, .int .i64 0] rfl (by kernel_rfl) rfl ?_
          (refine ql_setA tabOk rfl rfl rfl rfl rfl (by repeat constructor) rfl ?_; refine ql_pure tabOk rfl rfl ?_; refine q_nil ?_; refine q_ret ?_)
          refine q_fin tabOk rfl (by repeat (first | exact RVs.nil | apply RVs.tmp rfl | apply RVs.cellA rfl rfl (by repeat first | exact .head _ | refine .tail _ ?_) (by rfl) | apply RVs.cell1 rfl rfl (by repeat first | exact .head _ | refine .tail _ ?_))) fun w hs => ?_
          refine ⟨?_, hs.chg0⟩
          have e : proofV r p l = ((0, 0), 8) := by unfold proofV; rw [if_neg (by simpa using hru), if_neg (by simpa using hn), hall, hhold]; rfl
          rw [e]; rfl
        | true =>
          rw [hhold] at hb
          subst hb
          (refine q_cond_false rfl ?_; refine q_skip ?_; refine q_seq ?_; refine q_region ?_; refine ql_pure tabOk rfl rfl ?_; refine ql_loadB tabOk rfl rfl rfl (by repeat first | exact .head _ | refine .tail _ ?_) (by rfl) ?_)
          refine ql_mk #[.int .i64 0, .int .i64 p.waits, .int .i64 0, .int .i64 0] rfl (by kernel_rfl) rfl ?_
          refine ql_alloc zero122 rfl (fun b12 => ?_)
          (refine ql_setA tabOk rfl rfl rfl rfl rfl (by repeat constructor) rfl ?_; refine q_nil ?_; refine q_seq ?_; refine q_region ?_; refine ql_loadB tabOk rfl rfl rfl (by repeat first | exact .head _ | refine .tail _ ?_) (by rfl) ?_; refine ql_loadAB tabOk rfl rfl rfl (by repeat first | exact .head _ | refine .tail _ ?_) (by rfl) (by rfl) ?_)
          have hwt : ((p.waits.toNat : Nat) : Int) = p.waits := by omega
          have hw3 : p.waits.toNat ≤ 3 := by omega
          refine ql_callv (val := .int .i64 (partsV r 0 p.waits.toNat)) tabOk rfl rfl rfl rfl (fun w hs => ?_) ?_; exact by have := parts_ca w bp bd bm r p 0 p.waits.toNat 0 0 ⟨_, hs.blk (b := bp) (by repeat first | exact .head _ | refine .tail _ ?_), _, _, hs.blk (b := bd) (by repeat first | exact .head _ | refine .tail _ ?_), h0.keep hs.chg0⟩ hr (by omega) hw3; rw [hwt] at this; exact this
          ((iterate 2 refine ql_pure tabOk rfl rfl ?_); refine q_nil ?_; (iterate 2 refine q_seq ?_); refine q_region ?_; refine ql_pure tabOk rfl rfl ?_; refine ql_loadB tabOk rfl rfl rfl (by repeat first | exact .head _ | refine .tail _ ?_) (by rfl) ?_; (iterate 2 refine ql_pure tabOk rfl rfl ?_); refine q_nil ?_; refine q_block ?_)
          have hpt := parts_bd r hr 0 p.waits.toNat hw3
          have hfl : r.first.length = r.drifts.length := hr.first
          have hD := hr.d2
          have hg0 : ∀ t, 0 ≤ gV r p l 0 p.waits.toNat t 0 ∧ gV r p l 0 p.waits.toNat t 0 ≤ 1000000000000000 := fun t => by
            unfold gV
            by_cases hq : idxP r p (0, p.waits.toNat, t, 0) < l.length
            · have := hbnd _ (List.getElem_mem hq)
              simpa [hq] using this
            · simp [List.getElem?_eq_none (by omega : l.length ≤ idxP r p (0, p.waits.toNat, t, 0))]
          have htt := hr.total
          have hf0 : ∀ t, 0 ≤ r.first.getD t 0 ∧ r.first.getD t 0 ≤ 12 := fun t => by
            by_cases hq : t < r.first.length
            · have := hr.chance _ (List.getElem_mem hq)
              simp [hq]; omega
            · simp [List.getElem?_eq_none (by omega : r.first.length ≤ t)]
          have hcost := fun k => sumR_bd (fun s => r.first.getD s 0 * gV r p l 0 p.waits.toNat s 0) (12 * 1000000000000000) k (fun i _ => mul_bd0 (hf0 i) (hg0 i))
          refine q_loop (σ := Nat × Int) (fun s => s.1 ≤ r.drifts.length) (fun s => r.drifts.length - s.1) (fun s => [(3, .pointer (some ⟨b3, 0, none⟩)), (6, .pointer (some ⟨b6, 0, none⟩)), (8, .pointer (some ⟨b8, 0, none⟩)), (12, .pointer (some ⟨b12, 0, none⟩)), (13, .int .i64 (partsV r 0 p.waits.toNat)), (14, .int .i64 (sumR (fun s => r.first.getD s 0 * gV r p l 0 p.waits.toNat s 0) s.1)), (67, .slice af r.first.length cf), (68, .int .i64 r.first.length), (69, .int .i64 s.1)])
            (fun s => [.pt b12 [.int .i64 0, .int .i64 p.waits, .int .i64 s.2, .int .i64 0] 122, mpV bm vf, .pt b8 [.pointer (some ⟨bp, 0, none⟩)] 117, .pt bp [.pointer (some ⟨bd, 0, none⟩), .int .i64 p.miss, .int .i64 p.click, .int .i64 p.wait, .int .i64 p.waits, .map (some bm)] 126, .pt b6 [.int .i64 0, .int .i64 0] 42, .pt b3 [.int .i64 r.radius, .int .i64 r.unit, .int .i64 r.clicks, .int .i64 r.total, .slice ag r.group.length cg, .slice ad r.drifts.length cd, .slice af r.first.length cf, .slice an r.next.length cn] 25]) (0, 0) (by simp) ⟨rfl, rfl, rfl, rfl, rfl, rfl, rfl, rfl, rfl, trivial⟩ (by repeat (first | exact Sp.nil | exact Sp.refl _ | refine Sp.cons (by repeat constructor) ?_)) ?_
          rintro ⟨k, s⟩ hk K hK
          simp only at hk
          have hck := hcost k
          have hck1 := hcost (k + 1)
          dsimp only
          (refine q_seq ?_; refine q_region ?_; refine ql_pure tabOk rfl rfl ?_; refine q_nil ?_; refine q_seq ?_)
          refine q_if rfl (fun hc => ?_) (fun hc => ?_)
          · have hk2 : k < r.first.length := by omega
            obtain ⟨af', cf', hsl, hfd⟩ := RdI.outI hf
            cases hsl
            obtain ⟨bf, off, rfl⟩ := hfd (by omega)
            have he : r.first.getD k 0 = r.first[k] := by simp [hk2]
            have hm2 := mul_bd0 (hf0 k) (hg0 k)
            have hsu : sumR (fun s => r.first.getD s 0 * gV r p l 0 p.waits.toNat s 0) (k + 1) = sumR (fun s => r.first.getD s 0 * gV r p l 0 p.waits.toNat s 0) k + r.first[k] * gV r p l 0 p.waits.toNat k 0 := by rw [sumR, he]
            rw [he] at hm2
            (refine q_skip ?_; refine q_seq ?_; refine q_block ?_; refine q_seq ?_; refine q_region ?_; refine ql_pure tabOk rfl rfl ?_)
            (refine ql_index tabOk rfl rfl rfl rfl rfl (by omega) (by omega) ?_; refine ql_load1 tabOk rfl rfl rfl (fun w hs => RdI.at (RdE.keep hf hs.chg0) k hk2) ?_)
            ((iterate 2 refine ql_pure tabOk rfl rfl ?_); refine q_nil ?_; refine q_seq ?_; refine q_region ?_; (iterate 2 refine ql_pure tabOk rfl rfl ?_); refine ql_st2 tabOk rfl rfl rfl rfl (by repeat constructor) ?_; refine q_nil ?_)
            refine q_draw _ [] (Sp.refl _) (by kernel_rfl) (by kernel_rfl) ?_
            ((iterate 2 refine qf_pure tabOk rfl rfl rfl ?_); refine qf_loadB tabOk rfl rfl rfl (by repeat first | exact .head _ | refine .tail _ ?_) (by rfl) ?_; (iterate 2 refine qf_pure tabOk rfl rfl rfl ?_); refine qf_loadB tabOk rfl rfl rfl (by repeat first | exact .head _ | refine .tail _ ?_) (by rfl) ?_; refine qf_loadAB tabOk rfl rfl rfl (by repeat first | exact .head _ | refine .tail _ ?_) (by rfl) (by rfl) ?_)
            have hvf : vf 0 p.waits k 0 = some (gV r p l 0 p.waits.toNat k 0) := by
              have := hGW.1 0 p.waits.toNat k 0 ((plcL_mem r p _ _ _ _).2 ⟨by omega, by omega, by omega, by omega⟩)
              rw [hwt] at this
              exact this
            refine qf_look (v := .int .i64 (gV r p l 0 p.waits.toNat k 0)) plc_key plc_map zero_int rfl rfl rfl (f := liftF vf) (by repeat first | exact .head _ | refine .tail _ ?_) (plcV_key _ _ _ _) ((liftF_get vf 0 p.waits k 0).trans (by rw [hvf]; rfl)) ?_
            ((iterate 2 refine qf_ar tabOk rfl rfl rfl rfl (by omega) (by omega) ?_); refine qf_pure tabOk rfl rfl rfl ?_; refine qf_nil ?_; refine q_blk ?_; refine q_region ?_; refine ql_ar tabOk rfl rfl rfl rfl (by omega) (by omega) ?_; refine ql_pure tabOk rfl rfl ?_; refine q_nil ?_)
            exact hK (k + 1, (k : Int)) _ _ (by simp only; omega) (by simp only; omega) ⟨rfl, rfl, rfl, rfl, rfl, lookI rfl hsu.symm, rfl, rfl, rfl, trivial⟩ (by repeat (first | exact Sp.nil | exact Sp.refl _ | refine Sp.cons (by repeat constructor) ?_))
          · obtain rfl : k = r.drifts.length := by omega
            have hcv : costV r p (gV r p l) = sumR (fun s => r.first.getD s 0 * gV r p l 0 p.waits.toNat s 0) r.drifts.length := rfl
            have hcb : 0 ≤ costV r p (gV r p l) ∧ costV r p (gV r p l) ≤ 12 * 1000000000000000 * (r.drifts.length : Int) := hcost r.drifts.length
            rw [← hcv]
            have hmul : 1 ≤ partsV r 0 p.waits.toNat * r.total ∧ partsV r 0 p.waits.toNat * r.total ≤ 42998169600 := by
              have a := mul_bd0 (show 0 ≤ partsV r 0 p.waits.toNat ∧ partsV r 0 p.waits.toNat ≤ 3583180800 by omega) (show 0 ≤ r.total ∧ r.total ≤ 12 by omega)
              have b : 1 * 1 ≤ partsV r 0 p.waits.toNat * r.total := Int.mul_le_mul hpt.1 htt.1 (by omega) (by omega)
              omega
            (refine q_exit _ rfl ?_; refine q_seq ?_; refine q_region ?_; (iterate 3 refine ql_pure tabOk rfl rfl ?_); refine ql_loadB tabOk rfl rfl rfl (by repeat first | exact .head _ | refine .tail _ ?_) (by rfl) ?_; refine ql_ar tabOk rfl rfl rfl rfl (by omega) (by omega) ?_)
            refine ql_callv (val := rtV (ratioV (costV r p (gV r p l)) (partsV r 0 p.waits.toNat * r.total))) tabOk rfl rfl rfl rfl (fun w hs => ?_) ?_; exact ratio_ca _ _ w (by omega) (by omega) (by omega) (by omega)
            (refine ql_setA tabOk rfl rfl rfl rfl rfl (by repeat constructor) rfl ?_; refine ql_pure tabOk rfl rfl ?_; refine q_nil ?_; refine q_ret ?_)
            refine q_fin tabOk rfl (by repeat (first | exact RVs.nil | apply RVs.tmp rfl | apply RVs.cellA rfl rfl (by repeat first | exact .head _ | refine .tail _ ?_) (by rfl) | apply RVs.cell1 rfl rfl (by repeat first | exact .head _ | refine .tail _ ?_))) fun w hs => ?_
            refine ⟨?_, hs.chg0⟩
            have e : proofV r p l = (ratioV (costV r p (gV r p l)) (partsV r 0 p.waits.toNat * r.total), 0) := by unfold proofV; rw [if_neg (by simpa using hru), if_neg (by simpa using hn), hall, hhold]; rfl
            rw [e]; rfl
    · rw [decide_eq_false (show ¬ (l.length : Int) = 5 * (p.waits + 1) * r.drifts.length * (2 * r.clicks + 1) from hn)]
      (refine q_cond_true rfl ?_; refine q_seq ?_; refine q_region ?_)
      refine ql_mk #[.int .i64 0, .int .i64 0] rfl (by kernel_rfl) rfl ?_
      (refine ql_setA tabOk rfl rfl rfl rfl rfl (by repeat constructor) rfl ?_; refine ql_pure tabOk rfl rfl ?_; refine q_nil ?_; refine q_ret ?_)
      refine q_fin tabOk rfl (by repeat (first | exact RVs.nil | apply RVs.tmp rfl | apply RVs.cellA rfl rfl (by repeat first | exact .head _ | refine .tail _ ?_) (by rfl) | apply RVs.cell1 rfl rfl (by repeat first | exact .head _ | refine .tail _ ?_))) fun w hs => ?_
      refine ⟨?_, hs.chg0⟩
      have e : proofV r p l = ((0, 0), 2) := by unfold proofV; rw [if_neg (by simpa using hru), if_pos hn]
      rw [e]; rfl
  · refine ql_callv (val := .tuple #[.pointer none, .int .i64 (rulesV r p)]) tabOk rfl rfl rfl rfl (fun w hs => ?_) ?_; exact begun_no w _ r p (h0.keep hs.chg0) hsm hru
    (refine ql_pure tabOk rfl rfl ?_; (iterate 2 refine ql_ext tabOk rfl rfl rfl ?_))
    refine ql_alloc zero117 rfl (fun b8 => ?_)
    (refine ql_set tabOk rfl rfl rfl rfl (by repeat constructor) ?_; refine ql_pure tabOk rfl rfl ?_; refine q_nil ?_; refine q_seq ?_; refine q_block ?_; refine q_seq ?_; refine q_region ?_; (iterate 3 refine ql_pure tabOk rfl rfl ?_); refine q_nil ?_)
    rw [decide_eq_false hru]
    (refine q_cond_true rfl ?_; refine q_seq ?_; refine q_region ?_)
    refine ql_mk #[.int .i64 0, .int .i64 0] rfl (by kernel_rfl) rfl ?_
    (refine ql_pure tabOk rfl rfl ?_; refine ql_setA tabOk rfl rfl rfl rfl rfl (by repeat constructor) rfl ?_; refine ql_pure tabOk rfl rfl ?_; refine q_nil ?_; refine q_ret ?_)
    refine q_fin tabOk rfl (by repeat (first | exact RVs.nil | apply RVs.tmp rfl | apply RVs.cellA rfl rfl (by repeat first | exact .head _ | refine .tail _ ?_) (by rfl) | apply RVs.cell1 rfl rfl (by repeat first | exact .head _ | refine .tail _ ?_))) fun w hs => ?_
    refine ⟨?_, hs.chg0⟩
    have e : proofV r p l = ((0, 0), rulesV r p) := by unfold proofV; rw [if_pos hru]
    rw [e]; rfl

end Go.Proofs.Ytohlillcaadidaa

/- Walks: Choose. -/
namespace Go.Proofs.Ytohlillcaadidaa
open Go Go.Eng

def chzV (c : Bool × Int) : Value := .agg #[.bool c.1, .int .i64 c.2]
/-- The best choice of a situation, or the error. -/
def chooseV (r : Rg) (p : Ru) (shot waits state click : Int) : (Bool × Int) × Int :=
  if rulesV r p ≠ 0 then ((false, 0), rulesV r p) else if !inB shot 0 4 then ((false, 0), 1) else if !inB state 0 ((r.drifts.length : Int) - 1) then ((false, 0), 1)
  else if !inB waits 0 p.waits then ((false, 0), 3) else if !inB click (-r.clicks) r.clicks then ((false, 0), 3) else ((choV r p shot.toNat waits.toNat state.toNat click).1, 0)

/-- The best choice, where the map holds all values. -/
theorem choose_full (w : World) (bp bd bm : Nat) (r : Rg) (p : Ru) (vf : Vf) (shot wt st : Nat) (cl : Int) (h : PlAt w bp bd bm r p) (hm : MapAt w bm (keyF k4) eqV (liftF vf)) (hr : r.Right) (hp : p.Right) (hgood : GoodV r p vf) (hfull : ∀ sh wt st cl, (sh, wt, st, cl) ∈ plcL r p → (vf sh wt st cl).isSome = true)
    (h5 : shot < 5) (hw : (wt : Int) ≤ p.waits) (hst : st < r.drifts.length) (hcl : -r.clicks ≤ cl ∧ cl ≤ r.clicks) :
    Ca Try.prog 81 [.pointer (some ⟨bp, 0, none⟩), plcV shot wt st cl] w fun v w' =>
      v = .tuple #[chzV (choV r p shot wt st cl).1, .int .i64 (choV r p shot wt st cl).2] ∧ Chg [] w w' := by
  have hw3 : wt ≤ 3 := by have := hp.waits; omega
  have hch : chV r p (gvF vf (shot + 1) wt) (gvF vf shot (wt - 1)) shot wt st cl = choV r p shot wt st cl := by
    unfold choV
    refine chV_congr r p _ _ _ _ shot wt st cl hcl (fun h4 t c ht hc => ?_) (fun h0 t ht => ?_)
    · show (vf ((shot + 1 : Nat) : Int) wt t c).getD 0 = _
      rw [hgood.at (hfull _ _ _ _ ((plcL_mem r p _ _ _ _).2 ⟨by omega, hw, ht, hc⟩))]; rfl
    · show (vf shot ((wt - 1 : Nat) : Int) t cl).getD 0 = _
      rw [hgood.at (hfull _ _ _ _ ((plcL_mem r p _ _ _ _).2 ⟨by omega, by omega, ht, hcl⟩))]; rfl
  have := choose_ca w bp bd bm r p vf shot wt st cl h hm hr hp (by omega) hw3 hst hcl (fun _ => good_fine2 hr hp hgood hw) (fun _ => good_fine2 hr hp hgood (by omega))
  rw [hch] at this
  exact this

set_option maxHeartbeats 4000000 in
theorem chooseF_ca (w : World) (cs : List Value) (r : Rg) (p : Ru) (shot waits state click : Int) (h : RgC w cs r) (hsm : r.Small) : Ca Try.prog 26 [.agg cs.toArray, .agg #[.int .i64 p.miss, .int .i64 p.click, .int .i64 p.wait, .int .i64 p.waits], .int .i64 shot, .int .i64 waits, .int .i64 state, .int .i64 click] w fun v w' =>
    v = .tuple #[chzV (chooseV r p shot waits state click).1, .int .i64 (chooseV r p shot waits state click).2] ∧ Chg [] w w' := by
  have h0 := h
  have s2 := hsm.drifts
  obtain ⟨lo, hi, ag, cg, ad, cd, af, cf, an, cn, rfl, hg, hdr, hf, hn⟩ := h
  refine q_of (Sat.nil w M0) Try.func26 rfl (by simp [Try.ntmps26]) ?_
  (refine q_seq ?_; refine q_region ?_)
  refine ql_box rfl rfl (fun b6 => ?_)
  skip
  refine ql_box rfl rfl (fun b7 => ?_)
  skip
  refine ql_alloc zero47 rfl (fun b12 => ?_)
  (refine ql_pure tabOk rfl rfl ?_; refine q_nil ?_; refine q_seq ?_; refine q_region ?_; (iterate 2 refine ql_loadAB tabOk rfl rfl rfl (by repeat first | exact .head _ | refine .tail _ ?_) (by rfl) (by rfl) ?_))
  by_cases hru : rulesV r p = 0
  · obtain ⟨hck, hp⟩ := (rules_iff r p).1 hru
    have hr := (right_check r).1 hck
    have hC := hr.clicks
    have hW := hp.waits
    refine ql_call (β := Nat × Nat × Nat) tabOk [] _ M0 rfl rfl rfl rfl (Sp.refl _) (fun _ h => h.elim) (fun w' hs => begun_ok w' _ r p (h0.keep hs.chg0) hsm hru) ?_
    rintro ⟨bp, bd, bm⟩ _ rfl
    (refine ql_pure tabOk rfl rfl ?_; (iterate 2 refine ql_ext tabOk rfl rfl rfl ?_); (iterate 2 refine ql_pure tabOk rfl rfl ?_); refine q_nil ?_; refine q_seq ?_; refine q_block ?_; refine q_seq ?_; refine q_region ?_; (iterate 3 refine ql_pure tabOk rfl rfl ?_); refine q_nil ?_; refine q_cond_false rfl ?_; refine q_seq ?_; refine q_region ?_; refine ql_pure tabOk rfl rfl ?_)
    refine ql_callv (val := .bool (inB shot 0 4)) tabOk rfl rfl rfl rfl (fun w hs => ?_) ?_; exact in_ca _ _ _ w
    ((iterate 2 refine ql_pure tabOk rfl rfl ?_))
    cases c1 : inB shot 0 4 with
    | false =>
      ((iterate 7 refine ql_gno rfl rfl rfl ?_); (iterate 2 refine ql_pure tabOk rfl rfl ?_); refine q_nil ?_; refine q_cond_true rfl ?_; refine q_seq ?_; refine q_region ?_)
      refine ql_mk #[.bool false, .int .i64 0] rfl (by kernel_rfl) rfl ?_
      (refine ql_setA tabOk rfl rfl rfl rfl rfl (by repeat constructor) rfl ?_; refine ql_pure tabOk rfl rfl ?_; refine q_nil ?_; refine q_ret ?_)
      refine q_fin tabOk rfl (by repeat (first | exact RVs.nil | apply RVs.tmp rfl | apply RVs.cellA rfl rfl (by repeat first | exact .head _ | refine .tail _ ?_) (by rfl) | apply RVs.cell1 rfl rfl (by repeat first | exact .head _ | refine .tail _ ?_))) fun w hs => ?_
      refine ⟨?_, hs.chg0⟩
      have e : chooseV r p shot waits state click = ((false, 0), 1) := by unfold chooseV; rw [if_neg (by simpa using hru), c1]; rfl
      rw [e]; rfl
    | true =>
      (refine ql_gyes rfl ?_; refine ql_pure tabOk rfl rfl ?_; refine ql_gyes rfl ?_; refine ql_pure tabOk rfl rfl ?_; refine ql_gyes rfl ?_; refine ql_loadB tabOk rfl rfl rfl (by repeat first | exact .head _ | refine .tail _ ?_) (by rfl) ?_; refine ql_gyes rfl ?_; refine ql_pure tabOk rfl rfl ?_; refine ql_gyes rfl ?_; refine ql_ar tabOk rfl rfl rfl rfl (by omega) (by omega) ?_; refine ql_gyes rfl ?_)
      refine ql_callv (val := .bool (inB state 0 ((r.drifts.length : Int) - 1))) tabOk rfl rfl rfl rfl (fun w hs => ?_) ?_; exact in_ca _ _ _ w
      (refine ql_gyes rfl ?_; (iterate 3 refine ql_pure tabOk rfl rfl ?_); refine q_nil ?_)
      cases c2 : inB state 0 ((r.drifts.length : Int) - 1) with
      | false =>
        (refine q_cond_true rfl ?_; refine q_seq ?_; refine q_region ?_)
        refine ql_mk #[.bool false, .int .i64 0] rfl (by kernel_rfl) rfl ?_
        (refine ql_setA tabOk rfl rfl rfl rfl rfl (by repeat constructor) rfl ?_; refine ql_pure tabOk rfl rfl ?_; refine q_nil ?_; refine q_ret ?_)
        refine q_fin tabOk rfl (by repeat (first | exact RVs.nil | apply RVs.tmp rfl | apply RVs.cellA rfl rfl (by repeat first | exact .head _ | refine .tail _ ?_) (by rfl) | apply RVs.cell1 rfl rfl (by repeat first | exact .head _ | refine .tail _ ?_))) fun w hs => ?_
        refine ⟨?_, hs.chg0⟩
        have e : chooseV r p shot waits state click = ((false, 0), 1) := by unfold chooseV; rw [if_neg (by simpa using hru), c1, c2]; rfl
        rw [e]; rfl
      | true =>
        (refine q_cond_false rfl ?_; refine q_seq ?_; refine q_region ?_; (iterate 2 refine ql_pure tabOk rfl rfl ?_); refine ql_loadB tabOk rfl rfl rfl (by repeat first | exact .head _ | refine .tail _ ?_) (by rfl) ?_)
        refine ql_callv (val := .bool (inB waits 0 p.waits)) tabOk rfl rfl rfl rfl (fun w hs => ?_) ?_; exact in_ca _ _ _ w
        ((iterate 2 refine ql_pure tabOk rfl rfl ?_))
        cases c3 : inB waits 0 p.waits with
        | false =>
          ((iterate 8 refine ql_gno rfl rfl rfl ?_); (iterate 2 refine ql_pure tabOk rfl rfl ?_); refine q_nil ?_; refine q_cond_true rfl ?_; refine q_seq ?_; refine q_region ?_)
          refine ql_mk #[.bool false, .int .i64 0] rfl (by kernel_rfl) rfl ?_
          (refine ql_setA tabOk rfl rfl rfl rfl rfl (by repeat constructor) rfl ?_; refine ql_pure tabOk rfl rfl ?_; refine q_nil ?_; refine q_ret ?_)
          refine q_fin tabOk rfl (by repeat (first | exact RVs.nil | apply RVs.tmp rfl | apply RVs.cellA rfl rfl (by repeat first | exact .head _ | refine .tail _ ?_) (by rfl) | apply RVs.cell1 rfl rfl (by repeat first | exact .head _ | refine .tail _ ?_))) fun w hs => ?_
          refine ⟨?_, hs.chg0⟩
          have e : chooseV r p shot waits state click = ((false, 0), 3) := by unfold chooseV; rw [if_neg (by simpa using hru), c1, c2, c3]; rfl
          rw [e]; rfl
        | true =>
          (refine ql_gyes rfl ?_; refine ql_pure tabOk rfl rfl ?_; refine ql_gyes rfl ?_; refine ql_pure tabOk rfl rfl ?_; refine ql_gyes rfl ?_; refine ql_loadB tabOk rfl rfl rfl (by repeat first | exact .head _ | refine .tail _ ?_) (by rfl) ?_; refine ql_gyes rfl ?_; refine ql_neg tabOk rfl rfl (by omega) (by omega) ?_; refine ql_gyes rfl ?_; refine ql_pure tabOk rfl rfl ?_; refine ql_gyes rfl ?_; refine ql_loadB tabOk rfl rfl rfl (by repeat first | exact .head _ | refine .tail _ ?_) (by rfl) ?_; refine ql_gyes rfl ?_)
          refine ql_callv (val := .bool (inB click (-r.clicks) r.clicks)) tabOk rfl rfl rfl rfl (fun w hs => ?_) ?_; exact in_ca _ _ _ w
          (refine ql_gyes rfl ?_; (iterate 3 refine ql_pure tabOk rfl rfl ?_); refine q_nil ?_)
          cases c4 : inB click (-r.clicks) r.clicks with
          | false =>
            (refine q_cond_true rfl ?_; refine q_seq ?_; refine q_region ?_)
            refine ql_mk #[.bool false, .int .i64 0] rfl (by kernel_rfl) rfl ?_
            (refine ql_setA tabOk rfl rfl rfl rfl rfl (by repeat constructor) rfl ?_; refine ql_pure tabOk rfl rfl ?_; refine q_nil ?_; refine q_ret ?_)
            refine q_fin tabOk rfl (by repeat (first | exact RVs.nil | apply RVs.tmp rfl | apply RVs.cellA rfl rfl (by repeat first | exact .head _ | refine .tail _ ?_) (by rfl) | apply RVs.cell1 rfl rfl (by repeat first | exact .head _ | refine .tail _ ?_))) fun w hs => ?_
            refine ⟨?_, hs.chg0⟩
            have e : chooseV r p shot waits state click = ((false, 0), 3) := by unfold chooseV; rw [if_neg (by simpa using hru), c1, c2, c3, c4]; rfl
            rw [e]; rfl
          | true =>
            have i1 := inB_iff.1 c1
            have i2 := inB_iff.1 c2
            have i3 := inB_iff.1 c3
            have i4 := inB_iff.1 c4
            (refine q_cond_false rfl ?_; refine q_skip ?_; refine q_blk ?_; refine q_seq ?_; refine q_region ?_; refine ql_pure tabOk rfl rfl ?_)
            refine ql_call (β := Vf) (ψ := fun vf' v => GoodV r p vf' ∧ ∀ sh wt st cl, (sh, wt, st, cl) ∈ plcL r p → (vf' sh wt st cl).isSome = true) (L' := fun vf' => [mpV bm vf']) tabOk
              [mpV bm (fun _ _ _ _ => none)] _ (· = bm) rfl rfl rfl rfl (Sp.cons (by repeat constructor) (Sp.refl _)) (fun b hb => ⟨_, .head _, hb⟩) (fun w' hs => (fill_ca w' bp bd bm r p hr hp (fun _ _ _ _ => none) ⟨_, hs.blk (b := bp) (by repeat first | exact .head _ | refine .tail _ ?_), _, _, hs.blk (b := bd) (by repeat first | exact .head _ | refine .tail _ ?_), h0.keep hs.chg0⟩ (hs.mem (show mpV bm (fun _ _ _ _ => none) ∈ _ from .head _)) (fun _ _ _ _ _ h => by cases h)).mono fun v w'' ⟨vf', _, g1, g2, g3⟩ => ⟨vf', ⟨g1, g2⟩, g3⟩) ?_
            rintro vf v ⟨hgood, hfull⟩
            (refine q_nil ?_; refine q_seq ?_; refine q_region ?_; (iterate 5 refine ql_pure tabOk rfl rfl ?_))
            refine ql_mk #[.int .i64 shot, .int .i64 waits, .int .i64 state, .int .i64 click] rfl (by kernel_rfl) rfl ?_
            skip
            refine ql_callv (val := .tuple #[.agg #[.bool (choV r p shot.toNat waits.toNat state.toNat click).1.1, .int .i64 (choV r p shot.toNat waits.toNat state.toNat click).1.2], .int .i64 (choV r p shot.toNat waits.toNat state.toNat click).2]) tabOk rfl rfl rfl rfl (fun w hs => ?_) ?_; exact by have := choose_full w bp bd bm r p vf shot.toNat waits.toNat state.toNat click ⟨_, hs.blk (b := bp) (by repeat first | exact .head _ | refine .tail _ ?_), _, _, hs.blk (b := bd) (by repeat first | exact .head _ | refine .tail _ ?_), h0.keep hs.chg0⟩ (hs.mem (show mpV bm vf ∈ _ from by repeat first | exact .head _ | refine .tail _ ?_)) hr hp hgood hfull (by omega) (by omega) (by omega) i4; rw [show ((shot.toNat : Nat) : Int) = shot by omega, show ((waits.toNat : Nat) : Int) = waits by omega, show ((state.toNat : Nat) : Int) = state by omega] at this; exact this
            (refine ql_pure tabOk rfl rfl ?_; (iterate 2 refine ql_ext tabOk rfl rfl rfl ?_))
            refine ql_alloc zero47 rfl (fun b16 => ?_)
            (refine ql_setA tabOk rfl rfl rfl rfl rfl (by repeat constructor) rfl ?_; refine ql_pure tabOk rfl rfl ?_; refine q_nil ?_; refine q_seq ?_; refine q_region ?_; refine ql_loadAB tabOk rfl rfl rfl (by repeat first | exact .head _ | refine .tail _ ?_) (by rfl) (by rfl) ?_; refine ql_setA tabOk rfl rfl rfl rfl rfl (by repeat constructor) rfl ?_; refine ql_pure tabOk rfl rfl ?_; refine q_nil ?_; refine q_ret ?_)
            refine q_fin tabOk rfl (by repeat (first | exact RVs.nil | apply RVs.tmp rfl | apply RVs.cellA rfl rfl (by repeat first | exact .head _ | refine .tail _ ?_) (by rfl) | apply RVs.cell1 rfl rfl (by repeat first | exact .head _ | refine .tail _ ?_))) fun w hs => ?_
            refine ⟨?_, hs.chg0⟩
            have e : chooseV r p shot waits state click = ((choV r p shot.toNat waits.toNat state.toNat click).1, 0) := by unfold chooseV; rw [if_neg (by simpa using hru), c1, c2, c3, c4]; rfl
            rw [e]; rfl
  · refine ql_callv (val := .tuple #[.pointer none, .int .i64 (rulesV r p)]) tabOk rfl rfl rfl rfl (fun w hs => ?_) ?_; exact begun_no w _ r p (h0.keep hs.chg0) hsm hru
    (refine ql_pure tabOk rfl rfl ?_; (iterate 2 refine ql_ext tabOk rfl rfl rfl ?_); (iterate 2 refine ql_pure tabOk rfl rfl ?_); refine q_nil ?_; refine q_seq ?_; refine q_block ?_; refine q_seq ?_; refine q_region ?_; (iterate 3 refine ql_pure tabOk rfl rfl ?_); refine q_nil ?_)
    rw [decide_eq_false hru]
    (refine q_cond_true rfl ?_; refine q_seq ?_; refine q_region ?_)
    refine ql_mk #[.bool false, .int .i64 0] rfl (by kernel_rfl) rfl ?_
    (refine ql_pure tabOk rfl rfl ?_; refine ql_setA tabOk rfl rfl rfl rfl rfl (by repeat constructor) rfl ?_; refine ql_pure tabOk rfl rfl ?_; refine q_nil ?_; refine q_ret ?_)
    refine q_fin tabOk rfl (by repeat (first | exact RVs.nil | apply RVs.tmp rfl | apply RVs.cellA rfl rfl (by repeat first | exact .head _ | refine .tail _ ?_) (by rfl) | apply RVs.cell1 rfl rfl (by repeat first | exact .head _ | refine .tail _ ?_))) fun w hs => ?_
    refine ⟨?_, hs.chg0⟩
    have e : chooseV r p shot waits state click = ((false, 0), rulesV r p) := by unfold chooseV; rw [if_pos hru]
    rw [e]; rfl

end Go.Proofs.Ytohlillcaadidaa

/- Walks: Follow. -/
namespace Go.Proofs.Ytohlillcaadidaa
open Go Go.Eng

/-- How far one is. -/
structure FS where
  shot : Nat
  wt : Int
  cl : Int
  misses : Int
  cost : Int
  steps : Int
def stepF (r : Rg) (p : Ru) (offs : List Int) (x : FS) (st : Int) : FS :=
  if x.shot = 5 then x else
  let c := (choV r p x.shot x.wt.toNat st.toNat x.cl).1
  if c.1 then { x with wt := x.wt - 1, cost := x.cost + p.wait, steps := x.steps + 1 }
  else if hitB r (r.drifts.getD st.toNat 0 + offs.getD x.shot 0 + c.2 * r.unit) then { x with shot := x.shot + 1, cl := c.2, cost := x.cost + p.click * max (c.2 - x.cl) (x.cl - c.2), steps := x.steps + 1 }
  else { x with shot := x.shot + 1, cl := c.2, misses := x.misses + 1, cost := x.cost + p.click * max (c.2 - x.cl) (x.cl - c.2) + p.miss, steps := x.steps + 1 }
def endF (r : Rg) (p : Ru) (states offs : List Int) : FS := states.foldl (stepF r p offs) ⟨0, p.waits, 0, 0, 0, 0⟩
/-- What comes of following the plan: misses, cost, steps; the error. -/
def followV (r : Rg) (p : Ru) (states offs : List Int) : (Int × Int × Int) × Int :=
  if rulesV r p ≠ 0 then ((0, 0, 0), rulesV r p) else if (offs.length : Int) ≠ 5 then ((0, 0, 0), 2) else if 5 + p.waits < (states.length : Int) then ((0, 0, 0), 2)
  else if !(states.all (fun n => inB n 0 ((r.drifts.length : Int) - 1))) then ((0, 0, 0), 1) else if !(offs.all (fun n => inB n (-((r.group.length : Int) / 2)) ((r.group.length : Int) / 2))) then ((0, 0, 0), 3)
  else if (endF r p states offs).shot < 5 then ((0, 0, 0), 6) else (((endF r p states offs).misses, (endF r p states offs).cost, (endF r p states offs).steps), 0)

theorem cho_wait {r : Rg} {p : Ru} {shot wt st : Nat} {cl : Int} (h : (choV r p shot wt st cl).1.1 = true) : 0 < wt ∧ (choV r p shot wt st cl).1.2 = 0 := by
  revert h
  unfold choV chV
  simp only
  split
  · split
    · intro _; exact ⟨by assumption, rfl⟩
    · intro h; cases h
  · intro h; cases h
theorem cho_click {r : Rg} {p : Ru} {shot wt st : Nat} {cl : Int} (hc : -r.clicks ≤ cl ∧ cl ≤ r.clicks) (h : (choV r p shot wt st cl).1.1 = false) : -r.clicks ≤ (choV r p shot wt st cl).1.2 ∧ (choV r p shot wt st cl).1.2 ≤ r.clicks := by
  have h2 := (chClick_spec r p (valV r p (shot + 1) wt) shot wt st cl hc).2.1
  revert h
  unfold choV chV
  simp only
  split
  · split
    · intro h; cases h
    · intro _; exact h2
  · intro _; exact h2

structure FOk (r : Rg) (p : Ru) (k : Nat) (x : FS) : Prop where
  shot : x.shot ≤ 5
  wt : 0 ≤ x.wt ∧ x.wt ≤ p.waits
  cl : -r.clicks ≤ x.cl ∧ x.cl ≤ r.clicks
  misses : 0 ≤ x.misses ∧ x.misses ≤ k
  cost : 0 ≤ x.cost ∧ x.cost ≤ 20000 * k
  steps : 0 ≤ x.steps ∧ x.steps ≤ k
theorem stepF_ok {r : Rg} {p : Ru} (hr : r.Right) (hp : p.Right) {offs : List Int} {k : Nat} {x : FS} (h : FOk r p k x) (st : Int) : FOk r p (k + 1) (stepF r p offs x st) := by
  have h1 := h.shot
  have h2 := h.wt
  have h3 := h.cl
  have h4 := h.misses
  have h5 := h.cost
  have h6 := h.steps
  have hC := hr.clicks
  have w1 := hp.wait
  have w2 := hp.miss
  unfold stepF
  split
  · exact ⟨h1, h2, h3, by omega, by omega, by omega⟩
  · rename_i hn
    simp only
    split
    · rename_i hw
      have := (cho_wait hw).1
      refine ⟨h1, ?_, h3, ?_, ?_, ?_⟩ <;> simp only <;> omega
    · rename_i hw
      have hcl := cho_click (r := r) (p := p) (shot := x.shot) (wt := x.wt.toNat) (st := st.toNat) h3 (by simpa using hw)
      have hfar := far_bd hC.2 h3 hcl
      have a1 := mul_bd0 hp.click hfar
      split <;> refine ⟨?_, ?_, hcl, ?_, ?_, ?_⟩ <;> simp only <;> omega
theorem takeF_ok {r : Rg} {p : Ru} (hr : r.Right) (hp : p.Right) (states offs : List Int) : ∀ k, k ≤ states.length → FOk r p k ((states.take k).foldl (stepF r p offs) ⟨0, p.waits, 0, 0, 0, 0⟩)
  | 0, _ => by
    have h1 := hr.clicks
    have h2' : 0 ≤ p.waits ∧ p.waits ≤ p.waits := ⟨hp.waits.1, Int.le_refl _⟩
    exact ⟨by simp, h2' , by simp; omega, by simp, by simp, by simp⟩
  | k + 1, h => by
    rw [List.take_succ_eq_append_getElem (by omega), List.foldl_append]
    exact stepF_ok hr hp (takeF_ok hr hp states offs k (by omega)) _
theorem stepF_5 {r : Rg} {p : Ru} {offs : List Int} (l : List Int) {x : FS} (h : x.shot = 5) : l.foldl (stepF r p offs) x = x := by
  induction l with
  | nil => rfl
  | cons a l ih => rw [List.foldl_cons, show stepF r p offs x a = x by unfold stepF; rw [if_pos h], ih]

theorem follow1_p (w : World) (b : Nat) (t : TypeId) (r : Rg) (cs : List Value) (es : List Int) (hb : Blk w b cs t) (a : Option Addr) (c : Nat) (hc : cs[5]? = some (.slice a r.drifts.length c)) (hs : r.drifts.length ≤ 1000000) : PredAt Try.prog tab w (.func (.func 91) #[] #[.pointer (some ⟨b, 0, none⟩)]) (ints es) (pI 0 ((r.drifts.length : Int) - 1)) := by
  refine ⟨_, _, _, rfl, rfl, fun w' hw' x hx => ?_⟩
  have hb' := hb.keep hw'
  obtain ⟨y, hy, rfl⟩ := List.mem_map.1 hx
  refine q_of (Sat.nil w' M0) Try.func91 rfl (by simp [Try.ntmps91]) ?_
  (refine q_seq ?_; refine q_region ?_; refine ql_pure tabOk rfl rfl ?_; refine q_nil ?_; refine q_seq ?_; refine q_region ?_; (iterate 2 refine ql_pure tabOk rfl rfl ?_))
  refine ql_loadP tabOk rfl rfl rfl hb' hc ?_
  (refine ql_pure tabOk rfl rfl ?_; refine ql_ar tabOk rfl rfl rfl rfl (by omega) (by omega) ?_)
  refine ql_callv tabOk rfl rfl rfl rfl (fun w hs => in_ca y 0 ((r.drifts.length : Int) - 1) w) ?_
  (refine ql_pure tabOk rfl rfl ?_; refine q_nil ?_; refine q_ret ?_)
  refine q_fin tabOk rfl (by repeat (first | exact RVs.nil | apply RVs.tmp rfl | apply RVs.cellA rfl rfl (by repeat first | exact .head _ | refine .tail _ ?_) (by rfl) | apply RVs.cell1 rfl rfl (by repeat first | exact .head _ | refine .tail _ ?_))) fun w hs => ?_
  exact ⟨rfl, hs.chg0⟩
theorem follow2_p (w : World) (b : Nat) (t : TypeId) (far : Int) (es : List Int) (hb : Blk w b [.int .i64 far] t) (hf : 0 ≤ far ∧ far ≤ 1000000) : PredAt Try.prog tab w (.func (.func 92) #[] #[.pointer (some ⟨b, 0, none⟩)]) (ints es) (pI (-far) far) := by
  refine ⟨_, _, _, rfl, rfl, fun w' hw' x hx => ?_⟩
  have hb' := hb.keep hw'
  obtain ⟨y, hy, rfl⟩ := List.mem_map.1 hx
  refine q_of (Sat.nil w' M0) Try.func92 rfl (by simp [Try.ntmps92]) ?_
  (refine q_seq ?_; refine q_region ?_; refine ql_pure tabOk rfl rfl ?_; refine q_nil ?_; refine q_seq ?_; refine q_region ?_; refine ql_pure tabOk rfl rfl ?_; refine ql_loadP tabOk rfl rfl rfl (by assumption) (by rfl) ?_; refine ql_neg tabOk rfl rfl (by omega) (by omega) ?_; refine ql_loadP tabOk rfl rfl rfl (by assumption) (by rfl) ?_)
  refine ql_callv tabOk rfl rfl rfl rfl (fun w hs => in_ca y (-far) far w) ?_
  (refine ql_pure tabOk rfl rfl ?_; refine q_nil ?_; refine q_ret ?_)
  refine q_fin tabOk rfl (by repeat (first | exact RVs.nil | apply RVs.tmp rfl | apply RVs.cellA rfl rfl (by repeat first | exact .head _ | refine .tail _ ?_) (by rfl) | apply RVs.cell1 rfl rfl (by repeat first | exact .head _ | refine .tail _ ?_))) fun w hs => ?_
  exact ⟨rfl, hs.chg0⟩

theorem chc_flat : flatB Try.prog 47 [none, some .i64] = true := by kernel_rfl

set_option maxHeartbeats 4000000 in
theorem follow_ca (w : World) (l0 h1 l2 h2 : Nat) (cs : List Value) (r : Rg) (p : Ru) (vs vo : Value) (states offs : List Int) (h : RgC w cs r) (hsm : r.Small) (hl : RdI w l0 h1 vs states) (hu : RdI w l2 h2 vo offs) (hlen : states.length ≤ 1000000) (hlen2 : offs.length ≤ 1000000) :
    Ca Try.prog 29 [.agg cs.toArray, .agg #[.int .i64 p.miss, .int .i64 p.click, .int .i64 p.wait, .int .i64 p.waits], vs, vo] w fun v w' =>
    v = .tuple #[.agg #[.int .i64 (followV r p states offs).1.1, .int .i64 (followV r p states offs).1.2.1, .int .i64 (followV r p states offs).1.2.2], .int .i64 (followV r p states offs).2] ∧ Chg [] w w' := by
  have h0 := h
  have s2 := hsm.drifts
  have s1 := hsm.group
  obtain ⟨lo, hi, ag, cg, ad, cd, af, cf, an, cn, rfl, hg, hdr, hf, hn⟩ := h
  obtain ⟨av, cv, rfl, hsd⟩ := hl.outI
  obtain ⟨ao, co, rfl, hod⟩ := hu.outI
  refine q_of (Sat.nil w M0) Try.func29 rfl (by simp [Try.ntmps29]) ?_
  (refine q_seq ?_; refine q_region ?_)
  refine ql_box rfl rfl (fun b4 => ?_)
  skip
  refine ql_box rfl rfl (fun b5 => ?_)
  skip
  refine ql_alloc zero55 rfl (fun b8 => ?_)
  (refine ql_pure tabOk rfl rfl ?_; refine q_nil ?_)
  refine q_scope (fun l a w h => h) ?_
  (refine q_seq ?_; refine q_region ?_; (iterate 2 refine ql_loadAB tabOk rfl rfl rfl (by repeat first | exact .head _ | refine .tail _ ?_) (by rfl) (by rfl) ?_))
  by_cases hru : rulesV r p = 0
  · obtain ⟨hck, hp⟩ := (rules_iff r p).1 hru
    have hr := (right_check r).1 hck
    have hC := hr.clicks
    have hW := hp.waits
    have hD := hr.d2
    refine ql_call (β := Nat × Nat × Nat) tabOk [] _ M0 rfl rfl rfl rfl (Sp.refl _) (fun _ h => h.elim) (fun w' hs => begun_ok w' _ r p (h0.keep hs.chg0) hsm hru) ?_
    rintro ⟨bp, bd, bm⟩ _ rfl
    (refine ql_pure tabOk rfl rfl ?_; (iterate 2 refine ql_ext tabOk rfl rfl rfl ?_); (iterate 2 refine ql_pure tabOk rfl rfl ?_); refine q_nil ?_; refine q_seq ?_; refine q_region ?_; refine ql_pure tabOk rfl rfl ?_; refine ql_loadB tabOk rfl rfl rfl (by repeat first | exact .head _ | refine .tail _ ?_) (by rfl) ?_; refine ql_pure tabOk rfl rfl ?_; refine ql_quoN rfl rfl rfl (by omega) (by omega) (by omega) ?_)
    refine ql_alloc zero3 rfl (fun b12 => ?_)
    (refine ql_set tabOk rfl rfl rfl rfl (by repeat constructor) ?_; refine q_nil ?_; refine q_seq ?_; refine q_block ?_; refine q_seq ?_; refine q_region ?_; (iterate 3 refine ql_pure tabOk rfl rfl ?_); refine q_nil ?_; refine q_cond_false rfl ?_; refine q_seq ?_; refine q_region ?_; (iterate 4 refine ql_pure tabOk rfl rfl ?_))
    by_cases ho : (offs.length : Int) = 5
    · rw [decide_eq_true ho]
      (refine ql_gyes rfl ?_; refine ql_pure tabOk rfl rfl ?_; refine ql_gyes rfl ?_; refine ql_pure tabOk rfl rfl ?_; refine ql_gyes rfl ?_; refine ql_pure tabOk rfl rfl ?_; refine ql_gyes rfl ?_; refine ql_loadB tabOk rfl rfl rfl (by repeat first | exact .head _ | refine .tail _ ?_) (by rfl) ?_; refine ql_gyes rfl ?_; refine ql_ar tabOk rfl rfl rfl rfl (by omega) (by omega) ?_; refine ql_gyes rfl ?_; (iterate 3 refine ql_pure tabOk rfl rfl ?_); refine q_nil ?_)
      by_cases hn : 5 + p.waits < (states.length : Int)
      · rw [decide_eq_true hn]
        (refine q_cond_true rfl ?_; refine q_seq ?_; refine q_region ?_)
        refine ql_mk #[.int .i64 0, .int .i64 0, .int .i64 0] rfl (by kernel_rfl) rfl ?_
        (refine ql_setA tabOk rfl rfl rfl rfl rfl (by repeat constructor) rfl ?_; refine ql_pure tabOk rfl rfl ?_; refine q_nil ?_; refine q_ret ?_)
        refine q_fin tabOk rfl (by repeat (first | exact RVs.nil | apply RVs.tmp rfl | apply RVs.cellA rfl rfl (by repeat first | exact .head _ | refine .tail _ ?_) (by rfl) | apply RVs.cell1 rfl rfl (by repeat first | exact .head _ | refine .tail _ ?_))) fun w hs => ?_
        refine ⟨?_, hs.chg0⟩
        have e : followV r p states offs = ((0, 0, 0), 2) := by unfold followV; rw [if_neg (by simpa using hru), if_neg (by simpa using ho), if_pos hn]
        rw [e]; rfl
      rw [decide_eq_false hn]
      (refine q_cond_false rfl ?_; refine q_seq ?_; refine q_region ?_; (iterate 2 refine ql_pure tabOk rfl rfl ?_))
      refine ql_callv (val := .bool (states.all (fun n => inB n 0 ((r.drifts.length : Int) - 1)))) tabOk rfl rfl rfl rfl (fun w hs => ?_) ?_; exact by have := all_int w l0 h1 _ _ (ints states) (pI 0 ((r.drifts.length : Int) - 1)) (RdE.keep hl hs.chg0) (ints_one _) (by simp; omega) (follow1_p w b4 _ r _ states (hs.blk (by repeat first | exact .head _ | refine .tail _ ?_)) ad cd rfl (by omega)); rw [pI_all] at this; exact this
      ((iterate 2 refine ql_pure tabOk rfl rfl ?_); refine q_nil ?_)
      cases hall : states.all (fun n => inB n 0 ((r.drifts.length : Int) - 1)) with
      | false =>
        (refine q_cond_true rfl ?_; refine q_seq ?_; refine q_region ?_)
        refine ql_mk #[.int .i64 0, .int .i64 0, .int .i64 0] rfl (by kernel_rfl) rfl ?_
        (refine ql_setA tabOk rfl rfl rfl rfl rfl (by repeat constructor) rfl ?_; refine ql_pure tabOk rfl rfl ?_; refine q_nil ?_; refine q_ret ?_)
        refine q_fin tabOk rfl (by repeat (first | exact RVs.nil | apply RVs.tmp rfl | apply RVs.cellA rfl rfl (by repeat first | exact .head _ | refine .tail _ ?_) (by rfl) | apply RVs.cell1 rfl rfl (by repeat first | exact .head _ | refine .tail _ ?_))) fun w hs => ?_
        refine ⟨?_, hs.chg0⟩
        have e : followV r p states offs = ((0, 0, 0), 1) := by unfold followV; rw [if_neg (by simpa using hru), if_neg (by simpa using ho), if_neg hn, hall]; rfl
        rw [e]; rfl
      | true =>
        (refine q_cond_false rfl ?_; refine q_seq ?_; refine q_region ?_; (iterate 2 refine ql_pure tabOk rfl rfl ?_))
        refine ql_callv (val := .bool (offs.all (fun n => inB n (-((r.group.length : Int) / 2)) ((r.group.length : Int) / 2)))) tabOk rfl rfl rfl rfl (fun w hs => ?_) ?_; exact by have := all_int w l2 h2 _ _ (ints offs) (pI (-((r.group.length : Int) / 2)) ((r.group.length : Int) / 2)) (RdE.keep hu hs.chg0) (ints_one _) (by simp; omega) (follow2_p w b12 _ _ offs (hs.blk (by repeat first | exact .head _ | refine .tail _ ?_)) (by omega)); rw [pI_all] at this; exact this
        ((iterate 2 refine ql_pure tabOk rfl rfl ?_); refine q_nil ?_)
        cases hall2 : offs.all (fun n => inB n (-((r.group.length : Int) / 2)) ((r.group.length : Int) / 2)) with
        | false =>
          (refine q_cond_true rfl ?_; refine q_seq ?_; refine q_region ?_)
          refine ql_mk #[.int .i64 0, .int .i64 0, .int .i64 0] rfl (by kernel_rfl) rfl ?_
          (refine ql_setA tabOk rfl rfl rfl rfl rfl (by repeat constructor) rfl ?_; refine ql_pure tabOk rfl rfl ?_; refine q_nil ?_; refine q_ret ?_)
          refine q_fin tabOk rfl (by repeat (first | exact RVs.nil | apply RVs.tmp rfl | apply RVs.cellA rfl rfl (by repeat first | exact .head _ | refine .tail _ ?_) (by rfl) | apply RVs.cell1 rfl rfl (by repeat first | exact .head _ | refine .tail _ ?_))) fun w hs => ?_
          refine ⟨?_, hs.chg0⟩
          have e : followV r p states offs = ((0, 0, 0), 3) := by unfold followV; rw [if_neg (by simpa using hru), if_neg (by simpa using ho), if_neg hn, hall, hall2]; rfl
          rw [e]; rfl
        | true =>
          (refine q_cond_false rfl ?_; refine q_skip ?_; refine q_blk ?_; refine q_seq ?_; refine q_region ?_; refine ql_pure tabOk rfl rfl ?_)
          refine ql_call (β := Vf) (ψ := fun vf' v => GoodV r p vf' ∧ ∀ sh wt st cl, (sh, wt, st, cl) ∈ plcL r p → (vf' sh wt st cl).isSome = true) (L' := fun vf' => [mpV bm vf']) tabOk
            [mpV bm (fun _ _ _ _ => none)] _ (· = bm) rfl rfl rfl rfl (Sp.cons (by repeat constructor) (Sp.refl _)) (fun b hb => ⟨_, .head _, hb⟩) (fun w' hs => (fill_ca w' bp bd bm r p hr hp (fun _ _ _ _ => none) ⟨_, hs.blk (b := bp) (by repeat first | exact .head _ | refine .tail _ ?_), _, _, hs.blk (b := bd) (by repeat first | exact .head _ | refine .tail _ ?_), h0.keep hs.chg0⟩ (hs.mem (show mpV bm (fun _ _ _ _ => none) ∈ _ from .head _)) (fun _ _ _ _ _ h => by cases h)).mono fun v w'' ⟨vf', _, g1, g2, g3⟩ => ⟨vf', ⟨g1, g2⟩, g3⟩) ?_
          rintro vf v ⟨hgood, hfull⟩
          (refine q_nil ?_; refine q_seq ?_; refine q_region ?_)
          refine ql_alloc zero55 rfl (fun b13 => ?_)
          (refine q_nil ?_; refine q_seq ?_; refine q_region ?_; refine ql_pure tabOk rfl rfl ?_; refine ql_loadB tabOk rfl rfl rfl (by repeat first | exact .head _ | refine .tail _ ?_) (by rfl) ?_)
          refine ql_mk #[.int .i64 0, .int .i64 p.waits, .int .i64 0, .int .i64 0] rfl (by kernel_rfl) rfl ?_
          refine ql_alloc zero122 rfl (fun b14 => ?_)
          (refine ql_setA tabOk rfl rfl rfl rfl rfl (by repeat constructor) rfl ?_; refine q_nil ?_; refine q_seq ?_; refine q_label ?_; (iterate 2 refine q_seq ?_); refine q_region ?_; (iterate 3 refine ql_pure tabOk rfl rfl ?_); refine q_nil ?_; refine q_block ?_)
          have hst5 : (states.length : Int) ≤ 8 := by omega
          refine q_loop (σ := Nat × Int × FS) (fun s => s.1 ≤ states.length ∧ s.2.2 = (states.take s.1).foldl (stepF r p offs) ⟨0, p.waits, 0, 0, 0, 0⟩) (fun s => states.length - s.1)
            (fun s => [(3, .slice ao offs.length co), (4, .pointer (some ⟨b4, 0, none⟩)), (5, .pointer (some ⟨b5, 0, none⟩)), (8, .pointer (some ⟨b8, 0, none⟩)), (10, .pointer (some ⟨bp, 0, none⟩)), (13, .pointer (some ⟨b13, 0, none⟩)), (14, .pointer (some ⟨b14, 0, none⟩)), (64, .slice av states.length cv), (65, .int .i64 states.length), (66, .int .i64 s.1)])
            (fun s => [.pt b14 [.int .i64 s.2.2.shot, .int .i64 s.2.2.wt, .int .i64 s.2.1, .int .i64 s.2.2.cl] 122, .pt b13 [.int .i64 s.2.2.misses, .int .i64 s.2.2.cost, .int .i64 s.2.2.steps] 55, mpV bm vf, .pt bp [.pointer (some ⟨bd, 0, none⟩), .int .i64 p.miss, .int .i64 p.click, .int .i64 p.wait, .int .i64 p.waits, .map (some bm)] 126,
              .pt bd [.int .i64 r.radius, .int .i64 r.unit, .int .i64 r.clicks, .int .i64 r.total, .slice ag r.group.length cg, .slice ad r.drifts.length cd, .slice af r.first.length cf, .slice an r.next.length cn] 149, .pt b8 [.int .i64 0, .int .i64 0, .int .i64 0] 55, .pt b5 [.int .i64 p.miss, .int .i64 p.click, .int .i64 p.wait, .int .i64 p.waits] 27,
              .pt b4 [.int .i64 r.radius, .int .i64 r.unit, .int .i64 r.clicks, .int .i64 r.total, .slice ag r.group.length cg, .slice ad r.drifts.length cd, .slice af r.first.length cf, .slice an r.next.length cn] 25]) (0, 0, ⟨0, p.waits, 0, 0, 0, 0⟩) ⟨by simp, rfl⟩ ⟨rfl, rfl, rfl, rfl, rfl, rfl, rfl, rfl, rfl, rfl, trivial⟩ (by repeat (first | exact Sp.nil | exact Sp.refl _ | refine Sp.cons (by repeat constructor) ?_)) ?_
          rintro ⟨k, z, sh, wt, cl, mi, co', st'⟩ ⟨hk, hx⟩ K hK
          simp only at hk hx
          have hfo := takeF_ok hr hp states offs k hk
          rw [← hx] at hfo
          have f1 := hfo.shot
          have f2 := hfo.wt
          have f3 := hfo.cl
          have f4 := hfo.misses
          have f5 := hfo.cost
          have f6 := hfo.steps
          simp only at f1 f2 f3 f4 f5 f6
          dsimp only
          (refine q_seq ?_; refine q_region ?_; refine ql_pure tabOk rfl rfl ?_; refine q_nil ?_; refine q_seq ?_)
          refine q_if rfl (fun hc => ?_) (fun hc => ?_)
          · have hk2 : k < states.length := by omega
            clear hc
            obtain ⟨av', cv', hsl, hvd⟩ := RdI.outI hl
            cases hsl
            obtain ⟨bv, ov, rfl⟩ := hvd (by omega)
            obtain ⟨ad', cd', hsl, hdd⟩ := RdI.outI hdr
            cases hsl
            obtain ⟨bdr, odr, rfl⟩ := hdd (by have := hr.d1; omega)
            obtain ⟨ao', co2, hsl, hod2⟩ := RdI.outI hu
            cases hsl
            obtain ⟨bo, oo, rfl⟩ := hod2 (by omega)
            have hsk := inB_iff.1 (List.all_eq_true.1 hall _ (List.getElem_mem hk2))
            obtain ⟨sn, hsn⟩ : ∃ sn : Nat, states[k] = (sn : Int) := ⟨states[k].toNat, by omega⟩
            have hsd2 : sn < r.drifts.length := by omega
            (refine q_skip ?_; refine q_seq ?_; refine q_block ?_; refine q_seq ?_; refine q_region ?_)
            (refine ql_index tabOk rfl rfl rfl rfl rfl (by omega) (by omega) ?_; refine ql_load1 tabOk rfl rfl rfl (fun w hs => RdI.at (RdE.keep hl hs.chg0) k hk2) ?_)
            (refine ql_pure tabOk rfl rfl ?_; refine q_nil ?_; (iterate 2 refine q_seq ?_); refine q_region ?_; refine ql_pure tabOk rfl rfl ?_; refine ql_loadB tabOk rfl rfl rfl (by repeat first | exact .head _ | refine .tail _ ?_) (by rfl) ?_; refine ql_pure tabOk rfl rfl ?_; refine q_nil ?_)
            by_cases h5 : sh = 5
            · rw [decide_eq_true (show (sh : Int) = 5 by omega)]
              have hend : endF r p states offs = ⟨sh, wt, cl, mi, co', st'⟩ := by
                unfold endF
                rw [← List.take_append_drop k states, List.foldl_append, ← hx]
                exact stepF_5 _ h5
              (refine q_cond_true rfl ?_; refine q_exit _ rfl ?_; (iterate 2 refine q_seq ?_); refine q_region ?_; refine ql_pure tabOk rfl rfl ?_; refine ql_loadB tabOk rfl rfl rfl (by repeat first | exact .head _ | refine .tail _ ?_) (by rfl) ?_; refine ql_pure tabOk rfl rfl ?_; refine q_nil ?_)
              refine q_if rfl (fun hc => ?_) (fun hc => ?_)
              · (refine q_seq ?_; refine q_region ?_)
                refine ql_mk #[.int .i64 0, .int .i64 0, .int .i64 0] rfl (by kernel_rfl) rfl ?_
                (refine ql_setA tabOk rfl rfl rfl rfl rfl (by repeat constructor) rfl ?_; refine ql_pure tabOk rfl rfl ?_; refine q_nil ?_; refine q_ret ?_)
                refine q_fin tabOk rfl (by repeat (first | exact RVs.nil | apply RVs.tmp rfl | apply RVs.cellA rfl rfl (by repeat first | exact .head _ | refine .tail _ ?_) (by rfl) | apply RVs.cell1 rfl rfl (by repeat first | exact .head _ | refine .tail _ ?_))) fun w hs => ?_
                refine ⟨?_, hs.chg0⟩
                have e : followV r p states offs = ((0, 0, 0), 6) := by unfold followV; rw [if_neg (by simpa using hru), if_neg (by simpa using ho), if_neg hn, hall, hall2, hend]; exact if_pos (by show sh < 5; omega)
                rw [e]; rfl
              · (refine q_skip ?_; refine q_seq ?_; refine q_region ?_; refine ql_loadAB tabOk rfl rfl rfl (by repeat first | exact .head _ | refine .tail _ ?_) (by rfl) (by rfl) ?_; refine ql_setA tabOk rfl rfl rfl rfl rfl (by repeat constructor) rfl ?_; refine ql_pure tabOk rfl rfl ?_; refine q_nil ?_; refine q_ret ?_)
                refine q_fin tabOk rfl (by repeat (first | exact RVs.nil | apply RVs.tmp rfl | apply RVs.cellA rfl rfl (by repeat first | exact .head _ | refine .tail _ ?_) (by rfl) | apply RVs.cell1 rfl rfl (by repeat first | exact .head _ | refine .tail _ ?_))) fun w hs => ?_
                refine ⟨?_, hs.chg0⟩
                have e : followV r p states offs = ((mi, co', st'), 0) := by unfold followV; rw [if_neg (by simpa using hru), if_neg (by simpa using ho), if_neg hn, hall, hall2, hend]; exact if_neg (by show ¬ sh < 5; omega)
                rw [e]; rfl
            rw [decide_eq_false (show ¬ (sh : Int) = 5 by omega)]
            obtain ⟨ch, hch⟩ : ∃ ch, ch = choV r p sh wt.toNat sn cl := ⟨_, rfl⟩
            have hstep : (states.take (k + 1)).foldl (stepF r p offs) ⟨0, p.waits, 0, 0, 0, 0⟩ = stepF r p offs ⟨sh, wt, cl, mi, co', st'⟩ (sn : Int) := by
              rw [List.take_succ_eq_append_getElem hk2, List.foldl_append, ← hx, hsn]
              rfl
            have hsh : sh < offs.length := by omega
            (refine q_cond_false rfl ?_; refine q_skip ?_; refine q_seq ?_; refine q_region ?_; (iterate 2 refine ql_pure tabOk rfl rfl ?_); refine ql_st2 tabOk rfl rfl rfl rfl (by repeat constructor) ?_; refine q_nil ?_; refine q_seq ?_; refine q_region ?_; refine ql_pure tabOk rfl rfl ?_; refine ql_loadAB tabOk rfl rfl rfl (by repeat first | exact .head _ | refine .tail _ ?_) (by rfl) (by rfl) ?_)
            rw [hsn]
            skip
            refine ql_callv (val := .tuple #[.agg #[.bool ch.1.1, .int .i64 ch.1.2], .int .i64 ch.2]) tabOk rfl rfl rfl rfl (fun w hs => ?_) ?_; exact by have := choose_full w bp bd bm r p vf sh wt.toNat sn cl ⟨_, hs.blk (b := bp) (by repeat first | exact .head _ | refine .tail _ ?_), _, _, hs.blk (b := bd) (by repeat first | exact .head _ | refine .tail _ ?_), h0.keep hs.chg0⟩ (hs.mem (show mpV bm vf ∈ _ from by repeat first | exact .head _ | refine .tail _ ?_)) hr hp hgood hfull (by omega) (by omega) hsd2 f3; rw [← hch, show ((wt.toNat : Nat) : Int) = wt by omega] at this; exact this
            (refine ql_pure tabOk rfl rfl ?_; (iterate 2 refine ql_ext tabOk rfl rfl rfl ?_))
            refine ql_alloc zero47 rfl (fun b17 => ?_)
            (refine ql_setA tabOk rfl rfl rfl rfl rfl (by repeat constructor) rfl ?_; refine ql_pure tabOk rfl rfl ?_; refine q_nil ?_; refine q_seq ?_; refine q_region ?_; refine ql_pure tabOk rfl rfl ?_; refine ql_loadB tabOk rfl rfl rfl (by repeat first | exact .head _ | refine .tail _ ?_) (by rfl) ?_; refine ql_ar tabOk rfl rfl rfl rfl (by omega) (by omega) ?_; refine ql_pure tabOk rfl rfl ?_; refine ql_st2 tabOk rfl rfl rfl rfl (by repeat constructor) ?_; refine q_nil ?_; (iterate 2 refine q_seq ?_); refine q_region ?_; refine ql_loadAB tabOk rfl rfl rfl (by repeat first | exact .head _ | refine .tail _ ?_) (by rfl) (by rfl) ?_)
            refine ql_mk #[.bool true, .int .i64 0] rfl (by kernel_rfl) rfl ?_
            refine ql_eqF (xs := [.bool ch.1.1, .int .i64 ch.1.2]) (ys := [.bool true, .int .i64 0]) [none, some .i64] chc_flat rfl rfl rfl rfl rfl ?_
            (refine q_nil ?_)
            cases hcw : ch.1.1 with
            | true =>
              have hw0 := cho_wait (by rw [← hch]; exact hcw)
              rw [← hch] at hw0
              rw [hw0.2]
              have e1 : stepF r p offs ⟨sh, wt, cl, mi, co', st'⟩ (sn : Int) = ⟨sh, wt - 1, cl, mi, co' + p.wait, st' + 1⟩ := by
                unfold stepF
                rw [if_neg h5]
                simp only [Int.toNat_natCast]
                rw [← hch, if_pos hcw]
              have w1 := hp.wait
              (refine q_cond_true rfl ?_; refine q_seq ?_; refine q_region ?_; refine ql_pure tabOk rfl rfl ?_; refine ql_loadB tabOk rfl rfl rfl (by repeat first | exact .head _ | refine .tail _ ?_) (by rfl) ?_; refine ql_ar tabOk rfl rfl rfl rfl (by omega) (by omega) ?_; refine ql_pure tabOk rfl rfl ?_; refine ql_st1 tabOk rfl rfl rfl rfl (by repeat constructor) ?_; refine q_nil ?_; refine q_seq ?_; refine q_region ?_; refine ql_pure tabOk rfl rfl ?_; refine ql_loadB tabOk rfl rfl rfl (by repeat first | exact .head _ | refine .tail _ ?_) (by rfl) ?_; refine ql_pure tabOk rfl rfl ?_; refine ql_loadB tabOk rfl rfl rfl (by repeat first | exact .head _ | refine .tail _ ?_) (by rfl) ?_; refine ql_ar tabOk rfl rfl rfl rfl (by omega) (by omega) ?_; refine ql_pure tabOk rfl rfl ?_; refine ql_st1 tabOk rfl rfl rfl rfl (by repeat constructor) ?_; refine q_nil ?_; refine q_exit _ rfl ?_; refine q_region ?_; refine ql_ar tabOk rfl rfl rfl rfl (by omega) (by omega) ?_; refine ql_pure tabOk rfl rfl ?_; refine q_nil ?_)
              exact hK (k + 1, sn, ⟨sh, wt - 1, cl, mi, co' + p.wait, st' + 1⟩) _ _ ⟨by simp only; omega, by simp only; rw [hstep, e1]⟩ (by simp only; omega) ⟨rfl, rfl, rfl, rfl, rfl, rfl, rfl, rfl, rfl, rfl, trivial⟩ (by repeat (first | exact Sp.nil | exact Sp.refl _ | refine Sp.cons (by repeat constructor) ?_))
            | false =>
              have hcl := cho_click (r := r) (p := p) (shot := sh) (wt := wt.toNat) (st := sn) f3 (by rw [← hch]; exact hcw)
              rw [← hch] at hcl
              have hfar := far_bd hC.2 f3 hcl
              have a1 := mul_bd0 hp.click hfar
              have hdb := hr.drift _ (List.getElem_mem hsd2)
              have hob := inB_iff.1 (List.all_eq_true.1 hall2 _ (List.getElem_mem hsh))
              have hg2 := hr.g2
              have hun := hr.unit
              have a2 := mul_bd (show -6 ≤ ch.1.2 ∧ ch.1.2 ≤ 6 by omega) (show -20 ≤ r.unit ∧ r.unit ≤ 20 by omega)
              have hgd : r.drifts.getD sn 0 = r.drifts[sn] := by simp [hsd2]
              have hgo : offs.getD sh 0 = offs[sh] := by simp [hsh]
              have w1 := hp.miss
              (refine q_cond_false rfl ?_; refine q_skip ?_; refine q_seq ?_; refine q_region ?_; refine ql_pure tabOk rfl rfl ?_; refine ql_loadB tabOk rfl rfl rfl (by repeat first | exact .head _ | refine .tail _ ?_) (by rfl) ?_; refine ql_pure tabOk rfl rfl ?_; refine ql_loadB tabOk rfl rfl rfl (by repeat first | exact .head _ | refine .tail _ ?_) (by rfl) ?_; refine ql_pure tabOk rfl rfl ?_; refine ql_loadB tabOk rfl rfl rfl (by repeat first | exact .head _ | refine .tail _ ?_) (by rfl) ?_; refine ql_pure tabOk rfl rfl ?_; refine ql_loadB tabOk rfl rfl rfl (by repeat first | exact .head _ | refine .tail _ ?_) (by rfl) ?_; refine ql_ar tabOk rfl rfl rfl rfl (by omega) (by omega) ?_; refine ql_pure tabOk rfl rfl ?_; refine ql_loadB tabOk rfl rfl rfl (by repeat first | exact .head _ | refine .tail _ ?_) (by rfl) ?_; refine ql_pure tabOk rfl rfl ?_; refine ql_loadB tabOk rfl rfl rfl (by repeat first | exact .head _ | refine .tail _ ?_) (by rfl) ?_; refine ql_ar tabOk rfl rfl rfl rfl (by omega) (by omega) ?_; refine ql_pure tabOk rfl rfl ?_; (iterate 2 refine ql_ar tabOk rfl rfl rfl rfl (by omega) (by omega) ?_); refine ql_pure tabOk rfl rfl ?_; refine ql_st1 tabOk rfl rfl rfl rfl (by repeat constructor) ?_; refine q_nil ?_; (iterate 2 refine q_seq ?_); refine q_region ?_; refine ql_pure tabOk rfl rfl ?_; refine ql_loadB tabOk rfl rfl rfl (by repeat first | exact .head _ | refine .tail _ ?_) (by rfl) ?_; refine ql_pure tabOk rfl rfl ?_; refine ql_st3 tabOk rfl rfl rfl rfl (by repeat constructor) ?_; refine q_nil ?_; refine q_seq ?_)
              refine q_draw _ [] (Sp.refl _) (by kernel_rfl) (by kernel_rfl) ?_
              ((iterate 3 refine qf_pure tabOk rfl rfl rfl ?_); refine qf_loadB tabOk rfl rfl rfl (by repeat first | exact .head _ | refine .tail _ ?_) (by rfl) ?_; refine qf_pure tabOk rfl rfl rfl ?_; refine qf_loadB tabOk rfl rfl rfl (by repeat first | exact .head _ | refine .tail _ ?_) (by rfl) ?_; refine qf_pure tabOk rfl rfl rfl ?_)
              (refine qf_index tabOk rfl rfl rfl rfl rfl (by omega) (by omega) ?_; refine qf_load1 tabOk rfl rfl rfl (fun w hs => RdI.at (RdE.keep hdr hs.chg0) sn hsd2) ?_)
              ((iterate 2 refine qf_pure tabOk rfl rfl rfl ?_); refine qf_loadB tabOk rfl rfl rfl (by repeat first | exact .head _ | refine .tail _ ?_) (by rfl) ?_)
              (refine qf_index tabOk rfl rfl rfl rfl rfl (by omega) (by omega) ?_; refine qf_load1 tabOk rfl rfl rfl (fun w hs => RdI.at (RdE.keep hu hs.chg0) sh hsh) ?_)
              (refine qf_ar tabOk rfl rfl rfl rfl (by omega) (by omega) ?_; refine qf_pure tabOk rfl rfl rfl ?_; refine qf_loadB tabOk rfl rfl rfl (by repeat first | exact .head _ | refine .tail _ ?_) (by rfl) ?_; refine qf_pure tabOk rfl rfl rfl ?_; refine qf_loadB tabOk rfl rfl rfl (by repeat first | exact .head _ | refine .tail _ ?_) (by rfl) ?_; (iterate 2 refine qf_ar tabOk rfl rfl rfl rfl (by omega) (by omega) ?_))
              refine qf_callv (val := .bool (hitB r (r.drifts[sn] + offs[sh] + ch.1.2 * r.unit))) tabOk rfl rfl rfl rfl (fun w hs => ?_) ?_; exact hits_ca w bd r _ ⟨_, _, hs.blk (b := bd) (by repeat first | exact .head _ | refine .tail _ ?_), h0.keep hs.chg0⟩ hr.radius
              (refine qf_pure tabOk rfl rfl rfl ?_; refine qf_nil ?_)
              cases hhit : hitB r (r.drifts[sn] + offs[sh] + ch.1.2 * r.unit) with
              | true =>
                have e1 : stepF r p offs ⟨sh, wt, cl, mi, co', st'⟩ (sn : Int) = ⟨sh + 1, wt, ch.1.2, mi, co' + p.click * max (ch.1.2 - cl) (cl - ch.1.2), st' + 1⟩ := by
                  unfold stepF
                  rw [if_neg h5]
                  simp only [Int.toNat_natCast]
                  rw [← hch, if_neg (by rw [hcw]; decide), hgd, hgo, if_pos hhit]
                (refine q_cond_false rfl ?_; refine q_skip ?_; refine q_region ?_; refine ql_pure tabOk rfl rfl ?_; refine ql_loadB tabOk rfl rfl rfl (by repeat first | exact .head _ | refine .tail _ ?_) (by rfl) ?_; refine ql_ar tabOk rfl rfl rfl rfl (by omega) (by omega) ?_; refine ql_pure tabOk rfl rfl ?_; refine ql_st0 tabOk rfl rfl rfl rfl (by repeat constructor) ?_; refine q_nil ?_; refine q_blk ?_; refine q_region ?_; refine ql_ar tabOk rfl rfl rfl rfl (by omega) (by omega) ?_; refine ql_pure tabOk rfl rfl ?_; refine q_nil ?_)
                exact hK (k + 1, sn, ⟨sh + 1, wt, ch.1.2, mi, co' + p.click * max (ch.1.2 - cl) (cl - ch.1.2), st' + 1⟩) _ _ ⟨by simp only; omega, by simp only; rw [hstep, e1]⟩ (by simp only; omega) ⟨rfl, rfl, rfl, rfl, rfl, rfl, rfl, rfl, rfl, rfl, trivial⟩ (by repeat (first | exact Sp.nil | exact Sp.refl _ | refine Sp.cons (by repeat constructor) ?_))
              | false =>
                have e1 : stepF r p offs ⟨sh, wt, cl, mi, co', st'⟩ (sn : Int) = ⟨sh + 1, wt, ch.1.2, mi + 1, co' + p.click * max (ch.1.2 - cl) (cl - ch.1.2) + p.miss, st' + 1⟩ := by
                  unfold stepF
                  rw [if_neg h5]
                  simp only [Int.toNat_natCast]
                  rw [← hch, if_neg (by rw [hcw]; decide), hgd, hgo, if_neg (by rw [hhit]; decide)]
                (refine q_cond_true rfl ?_; refine q_seq ?_; refine q_region ?_; refine ql_pure tabOk rfl rfl ?_; refine ql_loadB tabOk rfl rfl rfl (by repeat first | exact .head _ | refine .tail _ ?_) (by rfl) ?_; refine ql_ar tabOk rfl rfl rfl rfl (by omega) (by omega) ?_; refine ql_pure tabOk rfl rfl ?_; refine ql_st0 tabOk rfl rfl rfl rfl (by repeat constructor) ?_; refine q_nil ?_; refine q_region ?_; refine ql_pure tabOk rfl rfl ?_; refine ql_loadB tabOk rfl rfl rfl (by repeat first | exact .head _ | refine .tail _ ?_) (by rfl) ?_; refine ql_pure tabOk rfl rfl ?_; refine ql_loadB tabOk rfl rfl rfl (by repeat first | exact .head _ | refine .tail _ ?_) (by rfl) ?_; refine ql_ar tabOk rfl rfl rfl rfl (by omega) (by omega) ?_; refine ql_pure tabOk rfl rfl ?_; refine ql_st1 tabOk rfl rfl rfl rfl (by repeat constructor) ?_; refine q_nil ?_; refine q_region ?_; refine ql_pure tabOk rfl rfl ?_; refine ql_loadB tabOk rfl rfl rfl (by repeat first | exact .head _ | refine .tail _ ?_) (by rfl) ?_; refine ql_ar tabOk rfl rfl rfl rfl (by omega) (by omega) ?_; refine ql_pure tabOk rfl rfl ?_; refine ql_st0 tabOk rfl rfl rfl rfl (by repeat constructor) ?_; refine q_nil ?_; refine q_blk ?_; refine q_region ?_; refine ql_ar tabOk rfl rfl rfl rfl (by omega) (by omega) ?_; refine ql_pure tabOk rfl rfl ?_; refine q_nil ?_)
                exact hK (k + 1, sn, ⟨sh + 1, wt, ch.1.2, mi + 1, co' + p.click * max (ch.1.2 - cl) (cl - ch.1.2) + p.miss, st' + 1⟩) _ _ ⟨by simp only; omega, by simp only; rw [hstep, e1]⟩ (by simp only; omega) ⟨rfl, rfl, rfl, rfl, rfl, rfl, rfl, rfl, rfl, rfl, trivial⟩ (by repeat (first | exact Sp.nil | exact Sp.refl _ | refine Sp.cons (by repeat constructor) ?_))
          · obtain rfl : k = states.length := by omega
            have hend : endF r p states offs = ⟨sh, wt, cl, mi, co', st'⟩ := by
              rw [List.take_of_length_le (Nat.le_refl _)] at hx
              exact hx.symm
            clear hc
            (refine q_exit _ rfl ?_; (iterate 2 refine q_seq ?_); refine q_region ?_; refine ql_pure tabOk rfl rfl ?_; refine ql_loadB tabOk rfl rfl rfl (by repeat first | exact .head _ | refine .tail _ ?_) (by rfl) ?_; refine ql_pure tabOk rfl rfl ?_; refine q_nil ?_)
            refine q_if rfl (fun hc => ?_) (fun hc => ?_)
            · (refine q_seq ?_; refine q_region ?_)
              refine ql_mk #[.int .i64 0, .int .i64 0, .int .i64 0] rfl (by kernel_rfl) rfl ?_
              (refine ql_setA tabOk rfl rfl rfl rfl rfl (by repeat constructor) rfl ?_; refine ql_pure tabOk rfl rfl ?_; refine q_nil ?_; refine q_ret ?_)
              refine q_fin tabOk rfl (by repeat (first | exact RVs.nil | apply RVs.tmp rfl | apply RVs.cellA rfl rfl (by repeat first | exact .head _ | refine .tail _ ?_) (by rfl) | apply RVs.cell1 rfl rfl (by repeat first | exact .head _ | refine .tail _ ?_))) fun w hs => ?_
              refine ⟨?_, hs.chg0⟩
              have e : followV r p states offs = ((0, 0, 0), 6) := by unfold followV; rw [if_neg (by simpa using hru), if_neg (by simpa using ho), if_neg hn, hall, hall2, hend]; exact if_pos (by show sh < 5; omega)
              rw [e]; rfl
            · (refine q_skip ?_; refine q_seq ?_; refine q_region ?_; refine ql_loadAB tabOk rfl rfl rfl (by repeat first | exact .head _ | refine .tail _ ?_) (by rfl) (by rfl) ?_; refine ql_setA tabOk rfl rfl rfl rfl rfl (by repeat constructor) rfl ?_; refine ql_pure tabOk rfl rfl ?_; refine q_nil ?_; refine q_ret ?_)
              refine q_fin tabOk rfl (by repeat (first | exact RVs.nil | apply RVs.tmp rfl | apply RVs.cellA rfl rfl (by repeat first | exact .head _ | refine .tail _ ?_) (by rfl) | apply RVs.cell1 rfl rfl (by repeat first | exact .head _ | refine .tail _ ?_))) fun w hs => ?_
              refine ⟨?_, hs.chg0⟩
              have e : followV r p states offs = ((mi, co', st'), 0) := by unfold followV; rw [if_neg (by simpa using hru), if_neg (by simpa using ho), if_neg hn, hall, hall2, hend]; exact if_neg (by show ¬ sh < 5; omega)
              rw [e]; rfl
    · rw [decide_eq_false ho]
      ((iterate 6 refine ql_gno rfl rfl rfl ?_); (iterate 2 refine ql_pure tabOk rfl rfl ?_); refine q_nil ?_; refine q_cond_true rfl ?_; refine q_seq ?_; refine q_region ?_)
      refine ql_mk #[.int .i64 0, .int .i64 0, .int .i64 0] rfl (by kernel_rfl) rfl ?_
      (refine ql_setA tabOk rfl rfl rfl rfl rfl (by repeat constructor) rfl ?_; refine ql_pure tabOk rfl rfl ?_; refine q_nil ?_; refine q_ret ?_)
      refine q_fin tabOk rfl (by repeat (first | exact RVs.nil | apply RVs.tmp rfl | apply RVs.cellA rfl rfl (by repeat first | exact .head _ | refine .tail _ ?_) (by rfl) | apply RVs.cell1 rfl rfl (by repeat first | exact .head _ | refine .tail _ ?_))) fun w hs => ?_
      refine ⟨?_, hs.chg0⟩
      have e : followV r p states offs = ((0, 0, 0), 2) := by unfold followV; rw [if_neg (by simpa using hru), if_pos ho]
      rw [e]; rfl
  · refine ql_callv (val := .tuple #[.pointer none, .int .i64 (rulesV r p)]) tabOk rfl rfl rfl rfl (fun w hs => ?_) ?_; exact begun_no w _ r p (h0.keep hs.chg0) hsm hru
    (refine ql_pure tabOk rfl rfl ?_; (iterate 2 refine ql_ext tabOk rfl rfl rfl ?_); (iterate 2 refine ql_pure tabOk rfl rfl ?_); refine q_nil ?_; refine q_seq ?_; refine q_region ?_; refine ql_pure tabOk rfl rfl ?_; refine ql_loadB tabOk rfl rfl rfl (by repeat first | exact .head _ | refine .tail _ ?_) (by rfl) ?_; refine ql_pure tabOk rfl rfl ?_; refine ql_quoN rfl rfl rfl (by omega) (by omega) (by omega) ?_)
    refine ql_alloc zero3 rfl (fun b12 => ?_)
    (refine ql_set tabOk rfl rfl rfl rfl (by repeat constructor) ?_; refine q_nil ?_; refine q_seq ?_; refine q_block ?_; refine q_seq ?_; refine q_region ?_; (iterate 3 refine ql_pure tabOk rfl rfl ?_); refine q_nil ?_)
    rw [decide_eq_false hru]
    (refine q_cond_true rfl ?_; refine q_seq ?_; refine q_region ?_)
    refine ql_mk #[.int .i64 0, .int .i64 0, .int .i64 0] rfl (by kernel_rfl) rfl ?_
    (refine ql_pure tabOk rfl rfl ?_; refine ql_setA tabOk rfl rfl rfl rfl rfl (by repeat constructor) rfl ?_; refine ql_pure tabOk rfl rfl ?_; refine q_nil ?_; refine q_ret ?_)
    refine q_fin tabOk rfl (by repeat (first | exact RVs.nil | apply RVs.tmp rfl | apply RVs.cellA rfl rfl (by repeat first | exact .head _ | refine .tail _ ?_) (by rfl) | apply RVs.cell1 rfl rfl (by repeat first | exact .head _ | refine .tail _ ?_))) fun w hs => ?_
    refine ⟨?_, hs.chg0⟩
    have e : followV r p states offs = ((0, 0, 0), rulesV r p) := by unfold followV; rw [if_pos hru]
    rw [e]; rfl

end Go.Proofs.Ytohlillcaadidaa

/- Walks: Two, Winds. -/
namespace Go.Proofs.Ytohlillcaadidaa
open Go Go.Eng

theorem Blk.rdI {w : World} {b : Nat} {l : List Int} {t : TypeId} {c : Nat} (h : Blk w b (ints l) t) : RdI w 0 w.heap.size (.slice (some ⟨b, 0, none⟩) l.length c) l :=
  RdI.of ((Blk.rd h (by simp) c).wide (Nat.zero_le _) h.lt)
theorem RdII.of {w : World} {lo hi : Nat} {v : Value} {ll : List (List Int)} {vs : List Value} (h : Rd w lo hi v 1 vs.length vs) (h1 : vs.length = ll.length) (h2 : ∀ i (h : i < vs.length) (h' : i < ll.length), RdI w lo hi vs[i] ll[i]) (h3 : ∀ e ∈ vs, oneV e = true) : RdII w lo hi v ll :=
  ⟨vs, RdE.one h h3, h1, h2⟩

/-- Pieces that hold a range. -/
def OwnR (L : List Ck) (cs : List Value) (r : Rg) : Prop := ∀ w, (∀ c ∈ L, c.p w) → RgC w cs r
theorem OwnR.at {L : List Ck} {cs : List Value} {r : Rg} {w0 w : World} {M : Nat → Prop} {H : List Ck} (h : OwnR L cs r) (hs : Sat w0 M H w) (hm : un L ∈ H) : RgC w cs r := h w (hs.mem hm).1

/-- The range of example 1. -/
def twoR : Rg := ⟨2, 2, 1, 2, [1, 2, 1], [0, 3], [1, 1], [[2, 0], [0, 2]]⟩
abbrev twoC (b1 b2 b3 b6 : Nat) : List Value := [.int .i64 2, .int .i64 2, .int .i64 1, .int .i64 2, .slice (some ⟨b1, 0, none⟩) 3 3, .slice (some ⟨b2, 0, none⟩) 2 2, .slice (some ⟨b3, 0, none⟩) 2 2, .slice (some ⟨b6, 0, none⟩) 2 2]
abbrev twoL (n1 n2 n3 n4 : Int) (b1 b2 b3 b4 b5 b6 : Nat) : List Ck := [.pt b6 [.slice (some ⟨b4, 0, none⟩) 2 2, .slice (some ⟨b5, 0, none⟩) 2 2] 22, .pt b5 (ints [n3, n4]) 3, .pt b4 (ints [n1, n2]) 3, .pt b3 (ints [1, 1]) 3, .pt b2 (ints [0, 3]) 3, .pt b1 (ints [1, 2, 1]) 3]
theorem two_rg {w : World} {n1 n2 n3 n4 : Int} {b1 b2 b3 b4 b5 b6 : Nat} {t1 t2 t3 t4 t5 t6 : TypeId} (g1 : Blk w b1 (ints [1, 2, 1]) t1) (g2 : Blk w b2 (ints [0, 3]) t2) (g3 : Blk w b3 (ints [1, 1]) t3) (g4 : Blk w b4 (ints [n1, n2]) t4) (g5 : Blk w b5 (ints [n3, n4]) t5)
    (g6 : Blk w b6 [.slice (some ⟨b4, 0, none⟩) 2 2, .slice (some ⟨b5, 0, none⟩) 2 2] t6) : RgC w (twoC b1 b2 b3 b6) ⟨2, 2, 1, 2, [1, 2, 1], [0, 3], [1, 1], [[n1, n2], [n3, n4]]⟩ := by
  refine ⟨0, w.heap.size, _, _, _, _, _, _, _, _, rfl, Blk.rdI g1, Blk.rdI g2, Blk.rdI g3, ?_⟩
  refine RdII.of ((Blk.rd g6 rfl 2).wide (Nat.zero_le _) g6.lt) rfl (fun i hi hi' => ?_) (by simp [oneV])
  have : i = 0 ∨ i = 1 := by simp at hi; omega
  rcases this with rfl | rfl
  · exact Blk.rdI g4
  · exact Blk.rdI g5
theorem twoL_own (n1 n2 n3 n4 : Int) (b1 b2 b3 b4 b5 b6 : Nat) : OwnR (twoL n1 n2 n3 n4 b1 b2 b3 b4 b5 b6) (twoC b1 b2 b3 b6) ⟨2, 2, 1, 2, [1, 2, 1], [0, 3], [1, 1], [[n1, n2], [n3, n4]]⟩ := by
  intro w h
  have g6 : Blk w b6 _ _ := h _ (.head _)
  have g5 : Blk w b5 _ _ := h _ (.tail _ (.head _))
  have g4 : Blk w b4 _ _ := h _ (.tail _ (.tail _ (.head _)))
  have g3 : Blk w b3 _ _ := h _ (.tail _ (.tail _ (.tail _ (.head _))))
  have g2 : Blk w b2 _ _ := h _ (.tail _ (.tail _ (.tail _ (.tail _ (.head _)))))
  have g1 : Blk w b1 _ _ := h _ (.tail _ (.tail _ (.tail _ (.tail _ (.tail _ (.head _))))))
  exact two_rg g1 g2 g3 g4 g5 g6

theorem two_ca0 (w : World) : Ca Try.prog 68 [] w fun v w' => ∃ x : Nat × Nat × Nat × Nat × Nat × Nat, v = .agg (twoC x.1 x.2.1 x.2.2.1 x.2.2.2.2.2).toArray ∧ Sat w M0 (twoL 2 0 0 2 x.1 x.2.1 x.2.2.1 x.2.2.2.1 x.2.2.2.2.1 x.2.2.2.2.2) w' := by
  refine q_of (Sat.nil w M0) Try.func68 rfl (by simp [Try.ntmps68]) ?_
  (refine q_seq ?_; refine q_region ?_)
  refine ql_alloc zero25 rfl (fun b0 => ?_)
  (refine q_nil ?_; refine q_seq ?_; refine q_region ?_)
  refine ql_mkS 3 [.int .i64 1, .int .i64 2, .int .i64 1] rfl (by kernel_rfl) rfl (fun b1 => ?_)
  refine ql_mkS 3 [.int .i64 0, .int .i64 3] rfl (by kernel_rfl) rfl (fun b2 => ?_)
  refine ql_mkS 3 [.int .i64 1, .int .i64 1] rfl (by kernel_rfl) rfl (fun b3 => ?_)
  refine ql_mkS 3 [.int .i64 2, .int .i64 0] rfl (by kernel_rfl) rfl (fun b4 => ?_)
  refine ql_mkS 3 [.int .i64 0, .int .i64 2] rfl (by kernel_rfl) rfl (fun b5 => ?_)
  refine ql_mkS 22 [.slice (some ⟨b4, 0, none⟩) 2 2, .slice (some ⟨b5, 0, none⟩) 2 2] rfl (by kernel_rfl) rfl (fun b6 => ?_)
  refine ql_mk (twoC b1 b2 b3 b6).toArray rfl (by kernel_rfl) rfl ?_
  (refine ql_setA tabOk rfl rfl rfl rfl rfl (by repeat constructor) rfl ?_; refine q_nil ?_; refine q_ret ?_)
  refine q_fin tabOk rfl (by repeat (first | exact RVs.nil | apply RVs.tmp rfl | apply RVs.cellA rfl rfl (by repeat first | exact .head _ | refine .tail _ ?_) (by rfl) | apply RVs.cell1 rfl rfl (by repeat first | exact .head _ | refine .tail _ ?_))) fun w hs => ?_
  exact ⟨(b1, b2, b3, b4, b5, b6), rfl, hs.sp (by repeat (first | exact Sp.nil | exact Sp.refl _ | refine Sp.cons (by repeat constructor) ?_))⟩
theorem two_ca (w : World) : Ca Try.prog 68 [] w fun v w' => ∃ x : List Ck × List Value, (v = .agg x.2.toArray ∧ OwnR x.1 x.2 twoR) ∧ Sat w M0 [un x.1] w' :=
  (two_ca0 w).mono fun v w' ⟨(b1, b2, b3, b4, b5, b6), hv, hs⟩ => ⟨(_, _), ⟨hv, twoL_own 2 0 0 2 b1 b2 b3 b4 b5 b6⟩, Sat.un1.2 hs⟩

theorem winds_ca (lo hi : Int) (w : World) : Ca Try.prog 65 [.int .i64 lo, .int .i64 hi] w fun v w' => ∃ b : Nat, v = .slice (some ⟨b, 0, none⟩) 5 5 ∧ Sat w M0 [.pt b [.int .i64 lo, .int .i64 hi, .int .i64 lo, .int .i64 hi, .int .i64 lo, .int .i64 hi, .int .i64 lo, .int .i64 hi, .int .i64 lo, .int .i64 hi] 64] w' := by
  refine q_of (Sat.nil w M0) Try.func65 rfl (by simp [Try.ntmps65]) ?_
  (refine q_seq ?_; refine q_region ?_; refine ql_pure tabOk rfl rfl ?_; refine q_nil ?_; refine q_seq ?_; refine q_region ?_; (iterate 2 refine ql_pure tabOk rfl rfl ?_))
  refine ql_mk #[.int .i64 lo, .int .i64 hi] rfl (by kernel_rfl) rfl ?_
  refine ql_alloc zero64 rfl (fun b0 => ?_)
  (refine ql_setA tabOk rfl rfl rfl rfl rfl (by repeat constructor) rfl ?_; refine q_nil ?_; refine q_seq ?_; refine q_region ?_; (iterate 5 refine ql_loadAB tabOk rfl rfl rfl (by repeat first | exact .head _ | refine .tail _ ?_) (by rfl) (by rfl) ?_))
  refine ql_mkS 64 [.int .i64 lo, .int .i64 hi, .int .i64 lo, .int .i64 hi, .int .i64 lo, .int .i64 hi, .int .i64 lo, .int .i64 hi, .int .i64 lo, .int .i64 hi] rfl (by kernel_rfl) rfl (fun b => ?_)
  (refine ql_pure tabOk rfl rfl ?_; refine q_nil ?_; refine q_ret ?_)
  refine q_fin tabOk rfl (by repeat (first | exact RVs.nil | apply RVs.tmp rfl | apply RVs.cellA rfl rfl (by repeat first | exact .head _ | refine .tail _ ?_) (by rfl) | apply RVs.cell1 rfl rfl (by repeat first | exact .head _ | refine .tail _ ?_))) fun w hs => ?_
  exact ⟨b, rfl, hs.sp (by repeat (first | exact Sp.nil | exact Sp.refl _ | refine Sp.cons (by repeat constructor) ?_))⟩

end Go.Proofs.Ytohlillcaadidaa

/- Walks: awake. -/
namespace Go.Proofs.Ytohlillcaadidaa
open Go Go.Eng

def ruA : Ru := ⟨240, 20, 0, 0⟩
def ruB : Ru := ⟨240, 100, 30, 1⟩
def twoX : Rg := ⟨2, 2, 1, 2, [1, 2, 1], [0, 3], [1, 1], [[1, 1], [1, 1]]⟩
def winds03 : List (Int × Int) := [(0, 3), (0, 3), (0, 3), (0, 3), (0, 3)]
theorem two_small : twoR.Small := ⟨by decide, by decide, by decide, by decide, by decide⟩
theorem twoX_small : twoX.Small := ⟨by decide, by decide, by decide, by decide, by decide⟩
theorem aw_hit : hitV twoR 1 0 = ((1, 4), 0) := by decide +kernel
theorem aw_exp : expdV twoR 1 = ((25, 8), 0) := by decide +kernel
theorem aw_best : bestV twoR = (-1, (5, 8), 0) := by decide +kernel
theorem aw_rob : robV twoR winds03 = (-1, (5, 4), 0) := by decide +kernel
theorem aw_zero : zeroV twoR [4, 5, -1] = (0, 0) := by decide +kernel
theorem aw_rules : rulesV twoR ruA = 0 := by decide +kernel
theorem aw_drift : driftV [(10, 20), (-5, 5)] [3, 1] = ((25, 65), 0) := by decide +kernel
theorem aw_len : (plcL twoR ruA).length = 30 := by decide +kernel
theorem aw_ch : chooseV twoR ruA 0 0 1 0 = ((false, -1), 0) := by decide +kernel
theorem aw_chx : chooseV twoX ruB 4 1 1 0 = ((true, 0), 0) := by decide +kernel
theorem aw_fol : followV twoR ruA [1, 1, 1, 1, 1] [0, 0, 0, 0, 1] = ((0, 20, 5), 0) := by decide +kernel
theorem aw_prove : proofV twoR ruA ((plcL twoR ruA).map (valP twoR ruA)) = ((10, 1), 0) := by decide +kernel
theorem rat_flat : flatB Try.prog 42 [some .i64, some .i64] = true := by kernel_rfl
theorem spn_flat : flatB Try.prog 64 [some .i64, some .i64] = true := by kernel_rfl
theorem ply_flat : flatB Try.prog 55 [some .i64, some .i64, some .i64] = true := by kernel_rfl
theorem Blk.rdS {w : World} {b : Nat} {l : List (Int × Int)} {cs : List Value} {t : TypeId} {c : Nat} (h : Blk w b cs t) (hc : cs = cellsOf (l.map rtV)) : RdS w 0 w.heap.size (.slice (some ⟨b, 0, none⟩) l.length c) l := by
  refine ⟨?_, fun e he => ?_⟩
  · subst hc
    have hl : (cellsOf (l.map rtV)).length = (l.map rtV).length * 2 := cellsOf_length _ (fun e he => by obtain ⟨x, _, rfl⟩ := List.mem_map.1 he; rfl)
    refine ⟨hl, .inr ⟨b, 0, c, by simp, fun _ => ⟨Nat.zero_le _, h.lt, h.lt⟩, fun j _ => by rw [Blk.cell h]; simp⟩⟩
  · obtain ⟨x, _, rfl⟩ := List.mem_map.1 he
    rfl

set_option maxHeartbeats 4000000 in
theorem awake_ca (w : World) : Ca Try.prog 16 [] w fun v w' => v = .bool true ∧ Chg [] w w' := by
  refine q_of (Sat.nil w M0) Try.func16 rfl (by simp [Try.ntmps16]) ?_
  (refine q_seq ?_; refine q_region ?_; refine ql_pure tabOk rfl rfl ?_; refine q_nil ?_; refine q_seq ?_; refine q_region ?_)
  refine ql_call (β := List Ck × List Value) tabOk [] _ M0 rfl rfl rfl rfl (Sp.refl _) (fun _ h => h.elim) (fun w' hs => two_ca w') ?_
  rintro ⟨L1, cs1⟩ _ ⟨rfl, ho1⟩
  refine ql_callv (val := .tuple #[.agg #[.int .i64 (1), .int .i64 (4)], .int .i64 (0)]) tabOk rfl rfl rfl rfl (fun w hs => ?_) ?_; exact by have := hit_ca w cs1 twoR 1 0 (ho1.at hs (by repeat first | exact .head _ | refine .tail _ ?_)) two_small; rw [aw_hit] at this; exact this
  (refine ql_pure tabOk rfl rfl ?_; (iterate 2 refine ql_ext tabOk rfl rfl rfl ?_))
  refine ql_alloc zero42 rfl (fun b1 => ?_)
  (refine ql_setA tabOk rfl rfl rfl rfl rfl (by repeat constructor) rfl ?_; refine ql_pure tabOk rfl rfl ?_; refine q_nil ?_; refine q_seq ?_; refine q_region ?_)
  refine ql_call (β := List Ck × List Value) tabOk [] _ M0 rfl rfl rfl rfl (Sp.refl _) (fun _ h => h.elim) (fun w' hs => two_ca w') ?_
  rintro ⟨L2, cs2⟩ _ ⟨rfl, ho2⟩
  refine ql_callv (val := .tuple #[.agg #[.int .i64 (25), .int .i64 (8)], .int .i64 (0)]) tabOk rfl rfl rfl rfl (fun w hs => ?_) ?_; exact by have := expectedF_ca w cs2 twoR 1 (ho2.at hs (by repeat first | exact .head _ | refine .tail _ ?_)) two_small; rw [aw_exp] at this; exact this
  (refine ql_pure tabOk rfl rfl ?_; (iterate 2 refine ql_ext tabOk rfl rfl rfl ?_))
  refine ql_alloc zero42 rfl (fun b3 => ?_)
  (refine ql_setA tabOk rfl rfl rfl rfl rfl (by repeat constructor) rfl ?_; refine ql_pure tabOk rfl rfl ?_; refine q_nil ?_; refine q_seq ?_; refine q_region ?_)
  refine ql_call (β := List Ck × List Value) tabOk [] _ M0 rfl rfl rfl rfl (Sp.refl _) (fun _ h => h.elim) (fun w' hs => two_ca w') ?_
  rintro ⟨L3, cs3⟩ _ ⟨rfl, ho3⟩
  refine ql_callv (val := .tuple #[.int .i64 (-1), .agg #[.int .i64 (5), .int .i64 (8)], .int .i64 (0)]) tabOk rfl rfl rfl rfl (fun w hs => ?_) ?_; exact by have := bestF_ca w cs3 twoR (ho3.at hs (by repeat first | exact .head _ | refine .tail _ ?_)) two_small; rw [aw_best] at this; exact this
  (refine ql_pure tabOk rfl rfl ?_; (iterate 3 refine ql_ext tabOk rfl rfl rfl ?_))
  refine ql_alloc zero42 rfl (fun b6 => ?_)
  (refine ql_pure tabOk rfl rfl ?_; refine ql_setA tabOk rfl rfl rfl rfl rfl (by repeat constructor) rfl ?_; refine ql_pure tabOk rfl rfl ?_; refine q_nil ?_; refine q_seq ?_; refine q_region ?_)
  refine ql_call (β := List Ck × List Value) tabOk [] _ M0 rfl rfl rfl rfl (Sp.refl _) (fun _ h => h.elim) (fun w' hs => two_ca w') ?_
  rintro ⟨L4, cs4⟩ _ ⟨rfl, ho4⟩
  refine ql_call (β := Nat) tabOk [] _ M0 rfl rfl rfl rfl (Sp.refl _) (fun _ h => h.elim) (fun w' hs => winds_ca 0 3 w') ?_
  rintro bw _ rfl
  refine ql_callv (val := .tuple #[.int .i64 (-1), .agg #[.int .i64 (5), .int .i64 (4)], .int .i64 (0)]) tabOk rfl rfl rfl rfl (fun w hs => ?_) ?_; exact by have := robF_ca w 0 w.heap.size cs4 twoR _ winds03 (ho4.at hs (by repeat first | exact .head _ | refine .tail _ ?_)) two_small (Blk.rdS (c := 5) (hs.blk (b := bw) (by repeat first | exact .head _ | refine .tail _ ?_)) rfl) (by decide); rw [aw_rob] at this; exact this
  (refine ql_pure tabOk rfl rfl ?_; (iterate 3 refine ql_ext tabOk rfl rfl rfl ?_))
  refine ql_alloc zero42 rfl (fun b9 => ?_)
  (refine ql_pure tabOk rfl rfl ?_; refine ql_setA tabOk rfl rfl rfl rfl rfl (by repeat constructor) rfl ?_; refine ql_pure tabOk rfl rfl ?_; refine q_nil ?_; refine q_seq ?_; refine q_region ?_)
  refine ql_call (β := List Ck × List Value) tabOk [] _ M0 rfl rfl rfl rfl (Sp.refl _) (fun _ h => h.elim) (fun w' hs => two_ca w') ?_
  rintro ⟨L5, cs5⟩ _ ⟨rfl, ho5⟩
  refine ql_mkS 3 (ints [4, 5, -1]) rfl (by kernel_rfl) rfl (fun bz => ?_)
  refine ql_callv (val := .tuple #[.int .i64 (0), .int .i64 (0)]) tabOk rfl rfl rfl rfl (fun w hs => ?_) ?_; exact by have := zeroF_ca w 0 w.heap.size cs5 twoR _ [4, 5, -1] (ho5.at hs (by repeat first | exact .head _ | refine .tail _ ?_)) two_small (Blk.rdI (c := 3) (hs.blk (b := bz) (by repeat first | exact .head _ | refine .tail _ ?_))) (by decide); rw [aw_zero] at this; exact this
  (refine ql_pure tabOk rfl rfl ?_; (iterate 2 refine ql_ext tabOk rfl rfl rfl ?_); (iterate 2 refine ql_pure tabOk rfl rfl ?_); refine q_nil ?_; (iterate 2 refine q_seq ?_); refine q_region ?_; (iterate 3 refine ql_pure tabOk rfl rfl ?_); refine ql_gyes rfl ?_; refine ql_pure tabOk rfl rfl ?_; refine ql_gyes rfl ?_; (iterate 3 refine ql_pure tabOk rfl rfl ?_); refine ql_gyes rfl ?_; refine ql_pure tabOk rfl rfl ?_; refine ql_gyes rfl ?_; (iterate 3 refine ql_pure tabOk rfl rfl ?_); refine ql_gyes rfl ?_; refine ql_pure tabOk rfl rfl ?_; refine ql_gyes rfl ?_; (iterate 3 refine ql_pure tabOk rfl rfl ?_); refine ql_gyes rfl ?_; refine ql_pure tabOk rfl rfl ?_; refine ql_gyes rfl ?_; (iterate 3 refine ql_pure tabOk rfl rfl ?_); refine ql_gyes rfl ?_; refine ql_loadAB tabOk rfl rfl rfl (by repeat first | exact .head _ | refine .tail _ ?_) (by rfl) (by rfl) ?_; refine ql_gyes rfl ?_)
  refine ql_mk #[.int .i64 1, .int .i64 4] rfl (by kernel_rfl) rfl ?_
  (refine ql_gyes rfl ?_)
  refine ql_neF (xs := [.int .i64 1, .int .i64 4]) (ys := [.int .i64 1, .int .i64 4]) [some .i64, some .i64] rat_flat rfl rfl rfl rfl rfl ?_
  ((iterate 2 refine ql_pure tabOk rfl rfl ?_); refine ql_gyes rfl ?_; refine ql_loadAB tabOk rfl rfl rfl (by repeat first | exact .head _ | refine .tail _ ?_) (by rfl) (by rfl) ?_; refine ql_gyes rfl ?_)
  refine ql_mk #[.int .i64 25, .int .i64 8] rfl (by kernel_rfl) rfl ?_
  (refine ql_gyes rfl ?_)
  refine ql_neF (xs := [.int .i64 25, .int .i64 8]) (ys := [.int .i64 25, .int .i64 8]) [some .i64, some .i64] rat_flat rfl rfl rfl rfl rfl ?_
  ((iterate 2 refine ql_pure tabOk rfl rfl ?_); refine ql_gyes rfl ?_; refine ql_pure tabOk rfl rfl ?_; refine ql_gyes rfl ?_; (iterate 3 refine ql_pure tabOk rfl rfl ?_); refine ql_gyes rfl ?_; refine ql_loadAB tabOk rfl rfl rfl (by repeat first | exact .head _ | refine .tail _ ?_) (by rfl) (by rfl) ?_; refine ql_gyes rfl ?_)
  refine ql_mk #[.int .i64 5, .int .i64 8] rfl (by kernel_rfl) rfl ?_
  (refine ql_gyes rfl ?_)
  refine ql_neF (xs := [.int .i64 5, .int .i64 8]) (ys := [.int .i64 5, .int .i64 8]) [some .i64, some .i64] rat_flat rfl rfl rfl rfl rfl ?_
  ((iterate 2 refine ql_pure tabOk rfl rfl ?_); refine ql_gyes rfl ?_; refine ql_pure tabOk rfl rfl ?_; refine ql_gyes rfl ?_; (iterate 3 refine ql_pure tabOk rfl rfl ?_); refine ql_gyes rfl ?_; refine ql_loadAB tabOk rfl rfl rfl (by repeat first | exact .head _ | refine .tail _ ?_) (by rfl) (by rfl) ?_; refine ql_gyes rfl ?_)
  refine ql_mk #[.int .i64 5, .int .i64 4] rfl (by kernel_rfl) rfl ?_
  (refine ql_gyes rfl ?_)
  refine ql_neF (xs := [.int .i64 5, .int .i64 4]) (ys := [.int .i64 5, .int .i64 4]) [some .i64, some .i64] rat_flat rfl rfl rfl rfl rfl ?_
  ((iterate 2 refine ql_pure tabOk rfl rfl ?_); refine ql_gyes rfl ?_; refine ql_pure tabOk rfl rfl ?_; refine ql_gyes rfl ?_; (iterate 2 refine ql_pure tabOk rfl rfl ?_); refine q_nil ?_; refine q_cond_false rfl ?_; refine q_skip ?_; refine q_seq ?_; refine q_region ?_)
  refine ql_mk #[.int .i64 240, .int .i64 20, .int .i64 0, .int .i64 0] rfl (by kernel_rfl) rfl ?_
  refine ql_alloc zero27 rfl (fun b13 => ?_)
  (refine ql_setA tabOk rfl rfl rfl rfl rfl (by repeat constructor) rfl ?_; refine q_nil ?_; refine q_seq ?_)
  refine q_keep [(13, .pointer (some ⟨b13, 0, none⟩))] [.pt b13 [.int .i64 240, .int .i64 20, .int .i64 0, .int .i64 0] 27] ⟨rfl, trivial⟩ (by repeat (first | exact Sp.nil | exact Sp.refl _ | refine Sp.cons (by repeat constructor) ?_)) ?_
  refine q_draw _ [] (Sp.refl _) (by kernel_rfl) (by kernel_rfl) ?_
  skip
  refine qf_call (β := List Ck × List Value) tabOk [] _ M0 rfl rfl rfl rfl (Sp.refl _) (fun _ h => h.elim) (fun w' hs => two_ca w') ?_
  rintro ⟨L6, cs6⟩ _ ⟨rfl, ho6⟩
  (refine qf_loadAB tabOk rfl rfl rfl (by repeat first | exact .head _ | refine .tail _ ?_) (by rfl) (by rfl) ?_)
  refine qf_call (β := Value) tabOk [] _ M0 rfl rfl rfl rfl (Sp.refl _) (fun _ h => h.elim) (fun w' hs => by have := values_ok w' cs6 twoR ruA (ho6.at hs (by repeat first | exact .head _ | refine .tail _ ?_)) two_small aw_rules; rw [aw_len] at this; exact this) ?_
  rintro x14 _ rfl
  (refine qf_pure tabOk rfl rfl rfl ?_; (iterate 2 refine qf_ext tabOk rfl rfl rfl ?_); (iterate 2 refine qf_pure tabOk rfl rfl rfl ?_); refine qf_nil ?_; refine q_seq ?_)
  refine q_fact (fun w hs => hs.slice2 (v := x14) (by repeat first | exact .head _ | refine .tail _ ?_)) ?_
  rintro ⟨a14, c14, rfl⟩
  refine q_keep [(13, .pointer (some ⟨b13, 0, none⟩)), (14, .slice a14 30 c14), (2, .int .i64 0)] [.ow (.slice a14 30 c14) 3 1 30 (ints ((plcL twoR ruA).map (valP twoR ruA))), .pt b13 [.int .i64 240, .int .i64 20, .int .i64 0, .int .i64 0] 27] ⟨rfl, rfl, rfl, trivial⟩ (by repeat (first | exact Sp.nil | exact Sp.refl _ | refine Sp.cons (by repeat constructor) ?_)) ?_
  refine q_cut (σ := Nat) (fun b15 => [(13, .pointer (some ⟨b13, 0, none⟩)), (14, .slice a14 30 c14), (2, .int .i64 0), (4, .int .i64 0), (15, .pointer (some ⟨b15, 0, none⟩))]) (fun b15 => [.pt b15 [.int .i64 10, .int .i64 1] 42, .ow (.slice a14 30 c14) 3 1 30 (ints ((plcL twoR ruA).map (valP twoR ruA))), .pt b13 [.int .i64 240, .int .i64 20, .int .i64 0, .int .i64 0] 27]) ?_ (fun K2 hK2 => ?_)
  rotate_left
  · skip
    refine q_drawT (.alt (chainT [0, 1, 2] (.alt (chainT [3, 4, 5, 6, 7, 8, 9] (.nil)) (chainT [7, 3, 4, 5, 6, 8, 9] (.nil)))) (chainT [7, 0, 1, 2, 3, 4, 5, 6, 8, 9] (.nil))) _ [] (Sp.refl _) (by kernel_rfl) (by kernel_rfl) ?_
    refine qt_alt ?_ ?_
    · skip
      refine qt_seg (by repeat (first | exact PickL.nil | (apply PickL.cons; rfl))) fun K1 hK1 => ?_
      refine qf_call (β := List Ck × List Value) tabOk [] _ M0 rfl rfl rfl rfl (Sp.refl _) (fun _ h => h.elim) (fun w' hs => two_ca w') ?_
      rintro ⟨L, cs⟩ _ ⟨rfl, ho⟩
      (refine qf_loadAB tabOk rfl rfl rfl (by repeat first | exact .head _ | refine .tail _ ?_) (by rfl) (by rfl) ?_; refine qf_pure tabOk rfl rfl rfl ?_; refine qf_nil ?_)
      refine hK1 _ _ ?_
      refine qt_alt ?_ ?_
      · skip
        refine qt_seg (by repeat (first | exact PickL.nil | (apply PickL.cons; rfl))) fun K1 hK1 => ?_
        refine qf_callv (val := .tuple #[.agg #[.int .i64 (10), .int .i64 (1)], .int .i64 (0)]) tabOk rfl rfl rfl rfl (fun w hs => ?_) ?_
        · have := proves_ca w 0 w.heap.size cs twoR ruA _ _ (ho.at hs (by repeat first | exact .head _ | refine .tail _ ?_)) two_small (hs.rdI (v := .slice a14 30 c14) (l := (plcL twoR ruA).map (valP twoR ruA)) (by repeat first | exact .head _ | refine .tail _ ?_) (by rw [List.length_map, aw_len])) (by rw [List.length_map, aw_len]; decide); rw [aw_prove] at this; exact this
        (refine qf_pure tabOk rfl rfl rfl ?_; (iterate 2 refine qf_ext tabOk rfl rfl rfl ?_))
        refine qf_alloc zero42 rfl (fun b15 => ?_)
        (refine qf_setA tabOk rfl rfl rfl rfl rfl (by repeat constructor) rfl ?_; refine qf_pure tabOk rfl rfl rfl ?_; refine qf_nil ?_)
        skip
        exact hK1 _ _ (qt_nil (hK2 b15 _ _ ⟨rfl, rfl, rfl, rfl, rfl, trivial⟩ (by repeat (first | exact Sp.nil | exact Sp.refl _ | refine Sp.cons (by repeat constructor) ?_))))
      · skip
        refine qt_seg (by repeat (first | exact PickL.nil | (apply PickL.cons; rfl))) fun K1 hK1 => ?_
        refine qf_alloc zero42 rfl (fun b15 => ?_)
        skip
        refine qf_callv (val := .tuple #[.agg #[.int .i64 (10), .int .i64 (1)], .int .i64 (0)]) tabOk rfl rfl rfl rfl (fun w hs => ?_) ?_
        · have := proves_ca w 0 w.heap.size cs twoR ruA _ _ (ho.at hs (by repeat first | exact .head _ | refine .tail _ ?_)) two_small (hs.rdI (v := .slice a14 30 c14) (l := (plcL twoR ruA).map (valP twoR ruA)) (by repeat first | exact .head _ | refine .tail _ ?_) (by rw [List.length_map, aw_len])) (by rw [List.length_map, aw_len]; decide); rw [aw_prove] at this; exact this
        (refine qf_pure tabOk rfl rfl rfl ?_; (iterate 2 refine qf_ext tabOk rfl rfl rfl ?_); refine qf_setA tabOk rfl rfl rfl rfl rfl (by repeat constructor) rfl ?_; refine qf_pure tabOk rfl rfl rfl ?_; refine qf_nil ?_)
        skip
        exact hK1 _ _ (qt_nil (hK2 b15 _ _ ⟨rfl, rfl, rfl, rfl, rfl, trivial⟩ (by repeat (first | exact Sp.nil | exact Sp.refl _ | refine Sp.cons (by repeat constructor) ?_))))
    · skip
      refine qt_seg (by repeat (first | exact PickL.nil | (apply PickL.cons; rfl))) fun K1 hK1 => ?_
      refine qf_alloc zero42 rfl (fun b15 => ?_)
      skip
      refine qf_call (β := List Ck × List Value) tabOk [] _ M0 rfl rfl rfl rfl (Sp.refl _) (fun _ h => h.elim) (fun w' hs => two_ca w') ?_
      rintro ⟨L, cs⟩ _ ⟨rfl, ho⟩
      (refine qf_loadAB tabOk rfl rfl rfl (by repeat first | exact .head _ | refine .tail _ ?_) (by rfl) (by rfl) ?_; refine qf_pure tabOk rfl rfl rfl ?_)
      refine qf_callv (val := .tuple #[.agg #[.int .i64 (10), .int .i64 (1)], .int .i64 (0)]) tabOk rfl rfl rfl rfl (fun w hs => ?_) ?_
      · have := proves_ca w 0 w.heap.size cs twoR ruA _ _ (ho.at hs (by repeat first | exact .head _ | refine .tail _ ?_)) two_small (hs.rdI (v := .slice a14 30 c14) (l := (plcL twoR ruA).map (valP twoR ruA)) (by repeat first | exact .head _ | refine .tail _ ?_) (by rw [List.length_map, aw_len])) (by rw [List.length_map, aw_len]; decide); rw [aw_prove] at this; exact this
      (refine qf_pure tabOk rfl rfl rfl ?_; (iterate 2 refine qf_ext tabOk rfl rfl rfl ?_); refine qf_setA tabOk rfl rfl rfl rfl rfl (by repeat constructor) rfl ?_; refine qf_pure tabOk rfl rfl rfl ?_; refine qf_nil ?_)
      skip
      exact hK1 _ _ (qt_nil (hK2 b15 _ _ ⟨rfl, rfl, rfl, rfl, rfl, trivial⟩ (by repeat (first | exact Sp.nil | exact Sp.refl _ | refine Sp.cons (by repeat constructor) ?_))))
  intro b15
  (refine q_seq ?_)
  refine q_cut (σ := Nat) (fun b16 => [(13, .pointer (some ⟨b13, 0, none⟩)), (14, .slice a14 30 c14), (2, .int .i64 0), (4, .int .i64 0), (15, .pointer (some ⟨b15, 0, none⟩)), (16, .pointer (some ⟨b16, 0, none⟩)), (7, .int .i64 0)]) (fun b16 => [.pt b16 [.bool false, .int .i64 (-1)] 47, .pt b15 [.int .i64 10, .int .i64 1] 42, .ow (.slice a14 30 c14) 3 1 30 (ints ((plcL twoR ruA).map (valP twoR ruA))), .pt b13 [.int .i64 240, .int .i64 20, .int .i64 0, .int .i64 0] 27]) ?_ (fun K2 hK2 => ?_)
  rotate_left
  · skip
    refine q_drawT (.alt (chainT [0, 1] (.alt (chainT [2, 3, 4, 5, 6, 7, 8] (.nil)) (chainT [6, 2, 3, 4, 5, 7, 8] (.nil)))) (chainT [6, 0, 1, 2, 3, 4, 5, 7, 8] (.nil))) _ [] (Sp.refl _) (by kernel_rfl) (by kernel_rfl) ?_
    refine qt_alt ?_ ?_
    · skip
      refine qt_seg (by repeat (first | exact PickL.nil | (apply PickL.cons; rfl))) fun K1 hK1 => ?_
      refine qf_call (β := List Ck × List Value) tabOk [] _ M0 rfl rfl rfl rfl (Sp.refl _) (fun _ h => h.elim) (fun w' hs => two_ca w') ?_
      rintro ⟨L, cs⟩ _ ⟨rfl, ho⟩
      (refine qf_loadAB tabOk rfl rfl rfl (by repeat first | exact .head _ | refine .tail _ ?_) (by rfl) (by rfl) ?_; refine qf_nil ?_)
      refine hK1 _ _ ?_
      refine qt_alt ?_ ?_
      · skip
        refine qt_seg (by repeat (first | exact PickL.nil | (apply PickL.cons; rfl))) fun K1 hK1 => ?_
        refine qf_callv (val := .tuple #[.agg #[.bool false, .int .i64 (-1)], .int .i64 (0)]) tabOk rfl rfl rfl rfl (fun w hs => ?_) ?_
        · have := chooseF_ca w cs twoR ruA 0 0 1 0 (ho.at hs (by repeat first | exact .head _ | refine .tail _ ?_)) two_small; rw [aw_ch] at this; exact this
        (refine qf_pure tabOk rfl rfl rfl ?_; (iterate 2 refine qf_ext tabOk rfl rfl rfl ?_))
        refine qf_alloc zero47 rfl (fun b16 => ?_)
        (refine qf_setA tabOk rfl rfl rfl rfl rfl (by repeat constructor) rfl ?_; refine qf_pure tabOk rfl rfl rfl ?_; refine qf_nil ?_)
        skip
        exact hK1 _ _ (qt_nil (hK2 b16 _ _ ⟨rfl, rfl, rfl, rfl, rfl, rfl, rfl, trivial⟩ (by repeat (first | exact Sp.nil | exact Sp.refl _ | refine Sp.cons (by repeat constructor) ?_))))
      · skip
        refine qt_seg (by repeat (first | exact PickL.nil | (apply PickL.cons; rfl))) fun K1 hK1 => ?_
        refine qf_alloc zero47 rfl (fun b16 => ?_)
        skip
        refine qf_callv (val := .tuple #[.agg #[.bool false, .int .i64 (-1)], .int .i64 (0)]) tabOk rfl rfl rfl rfl (fun w hs => ?_) ?_
        · have := chooseF_ca w cs twoR ruA 0 0 1 0 (ho.at hs (by repeat first | exact .head _ | refine .tail _ ?_)) two_small; rw [aw_ch] at this; exact this
        (refine qf_pure tabOk rfl rfl rfl ?_; (iterate 2 refine qf_ext tabOk rfl rfl rfl ?_); refine qf_setA tabOk rfl rfl rfl rfl rfl (by repeat constructor) rfl ?_; refine qf_pure tabOk rfl rfl rfl ?_; refine qf_nil ?_)
        skip
        exact hK1 _ _ (qt_nil (hK2 b16 _ _ ⟨rfl, rfl, rfl, rfl, rfl, rfl, rfl, trivial⟩ (by repeat (first | exact Sp.nil | exact Sp.refl _ | refine Sp.cons (by repeat constructor) ?_))))
    · skip
      refine qt_seg (by repeat (first | exact PickL.nil | (apply PickL.cons; rfl))) fun K1 hK1 => ?_
      refine qf_alloc zero47 rfl (fun b16 => ?_)
      skip
      refine qf_call (β := List Ck × List Value) tabOk [] _ M0 rfl rfl rfl rfl (Sp.refl _) (fun _ h => h.elim) (fun w' hs => two_ca w') ?_
      rintro ⟨L, cs⟩ _ ⟨rfl, ho⟩
      (refine qf_loadAB tabOk rfl rfl rfl (by repeat first | exact .head _ | refine .tail _ ?_) (by rfl) (by rfl) ?_)
      refine qf_callv (val := .tuple #[.agg #[.bool false, .int .i64 (-1)], .int .i64 (0)]) tabOk rfl rfl rfl rfl (fun w hs => ?_) ?_
      · have := chooseF_ca w cs twoR ruA 0 0 1 0 (ho.at hs (by repeat first | exact .head _ | refine .tail _ ?_)) two_small; rw [aw_ch] at this; exact this
      (refine qf_pure tabOk rfl rfl rfl ?_; (iterate 2 refine qf_ext tabOk rfl rfl rfl ?_); refine qf_setA tabOk rfl rfl rfl rfl rfl (by repeat constructor) rfl ?_; refine qf_pure tabOk rfl rfl rfl ?_; refine qf_nil ?_)
      skip
      exact hK1 _ _ (qt_nil (hK2 b16 _ _ ⟨rfl, rfl, rfl, rfl, rfl, rfl, rfl, trivial⟩ (by repeat (first | exact Sp.nil | exact Sp.refl _ | refine Sp.cons (by repeat constructor) ?_))))
  intro b16
  (refine q_seq ?_; refine q_region ?_)
  refine ql_call (β := Nat × Nat × Nat × Nat × Nat × Nat) tabOk [] _ M0 rfl rfl rfl rfl (Sp.refl _) (fun _ h => h.elim) (fun w' hs => two_ca0 w') ?_
  rintro ⟨b41, b42, b43, b44, b45, b46⟩ _ rfl
  skip
  refine ql_alloc zero25 rfl (fun b17 => ?_)
  (refine ql_setA tabOk rfl rfl rfl rfl rfl (by repeat constructor) rfl ?_; refine q_nil ?_; refine q_seq ?_; refine q_region ?_)
  refine ql_mkS 3 (ints [1, 1]) rfl (by kernel_rfl) rfl (fun b51 => ?_)
  refine ql_mkS 3 (ints [1, 1]) rfl (by kernel_rfl) rfl (fun b52 => ?_)
  refine ql_mkS 22 [.slice (some ⟨b51, 0, none⟩) 2 2, .slice (some ⟨b52, 0, none⟩) 2 2] rfl (by kernel_rfl) rfl (fun b53 => ?_)
  (refine ql_pure tabOk rfl rfl ?_; refine ql_st7 tabOk rfl rfl rfl rfl (by repeat constructor) ?_; refine q_nil ?_; refine q_seq ?_; refine q_region ?_; refine ql_loadAB tabOk rfl rfl rfl (by repeat first | exact .head _ | refine .tail _ ?_) (by rfl) (by rfl) ?_)
  refine ql_mk #[.int .i64 240, .int .i64 100, .int .i64 30, .int .i64 1] rfl (by kernel_rfl) rfl ?_
  refine ql_callv (val := .tuple #[.agg #[.bool true, .int .i64 0], .int .i64 0]) tabOk rfl rfl rfl rfl (fun w hs => ?_) ?_; exact by have := chooseF_ca w (twoC b41 b42 b43 b53) twoX ruB 4 1 1 0 (two_rg (hs.blk (b := b41) (by repeat first | exact .head _ | refine .tail _ ?_)) (hs.blk (b := b42) (by repeat first | exact .head _ | refine .tail _ ?_)) (hs.blk (b := b43) (by repeat first | exact .head _ | refine .tail _ ?_)) (hs.blk (b := b51) (by repeat first | exact .head _ | refine .tail _ ?_)) (hs.blk (b := b52) (by repeat first | exact .head _ | refine .tail _ ?_)) (hs.blk (b := b53) (by repeat first | exact .head _ | refine .tail _ ?_))) twoX_small; rw [aw_chx] at this; exact this
  (refine ql_pure tabOk rfl rfl ?_; (iterate 2 refine ql_ext tabOk rfl rfl rfl ?_))
  refine ql_alloc zero47 rfl (fun b18 => ?_)
  (refine ql_setA tabOk rfl rfl rfl rfl rfl (by repeat constructor) rfl ?_; refine ql_pure tabOk rfl rfl ?_; refine q_nil ?_; refine q_seq ?_)
  refine q_cut (σ := Nat) (fun b19 => [(14, .slice a14 30 c14), (2, .int .i64 0), (4, .int .i64 0), (7, .int .i64 0), (10, .int .i64 0), (12, .int .i64 0), (15, .pointer (some ⟨b15, 0, none⟩)), (16, .pointer (some ⟨b16, 0, none⟩)), (18, .pointer (some ⟨b18, 0, none⟩)), (19, .pointer (some ⟨b19, 0, none⟩))]) (fun b19 => [.pt b19 [.int .i64 0, .int .i64 20, .int .i64 5] 55, .pt b18 [.bool true, .int .i64 0] 47, .pt b16 [.bool false, .int .i64 (-1)] 47, .pt b15 [.int .i64 10, .int .i64 1] 42]) ?_ (fun K2 hK2 => ?_)
  rotate_left
  · skip
    refine q_drawT (.alt (chainT [0, 1] (.alt (chainT [2] (.alt (chainT [3] (.alt (chainT [4, 5, 6, 7, 8, 9, 10] (.nil)) (chainT [8, 4, 5, 6, 7, 9, 10] (.nil)))) (chainT [8, 3, 4, 5, 6, 7, 9, 10] (.nil)))) (.alt (chainT [3] (.alt (chainT [2] (.alt (chainT [4, 5, 6, 7, 8, 9, 10] (.nil)) (chainT [8, 4, 5, 6, 7, 9, 10] (.nil)))) (chainT [8, 2, 4, 5, 6, 7, 9, 10] (.nil)))) (chainT [8] (.alt (chainT [2, 3, 4, 5, 6, 7, 9, 10] (.nil)) (chainT [3, 2, 4, 5, 6, 7, 9, 10] (.nil))))))) (.alt (chainT [2] (.alt (chainT [0, 1] (.alt (chainT [3] (.alt (chainT [4, 5, 6, 7, 8, 9, 10] (.nil)) (chainT [8, 4, 5, 6, 7, 9, 10] (.nil)))) (chainT [8, 3, 4, 5, 6, 7, 9, 10] (.nil)))) (.alt (chainT [3] (.alt (chainT [0, 1] (.alt (chainT [4, 5, 6, 7, 8, 9, 10] (.nil)) (chainT [8, 4, 5, 6, 7, 9, 10] (.nil)))) (chainT [8, 0, 1, 4, 5, 6, 7, 9, 10] (.nil)))) (chainT [8] (.alt (chainT [0, 1, 3, 4, 5, 6, 7, 9, 10] (.nil)) (chainT [3, 0, 1, 4, 5, 6, 7, 9, 10] (.nil))))))) (.alt (chainT [3] (.alt (chainT [0, 1] (.alt (chainT [2] (.alt (chainT [4, 5, 6, 7, 8, 9, 10] (.nil)) (chainT [8, 4, 5, 6, 7, 9, 10] (.nil)))) (chainT [8, 2, 4, 5, 6, 7, 9, 10] (.nil)))) (.alt (chainT [2] (.alt (chainT [0, 1] (.alt (chainT [4, 5, 6, 7, 8, 9, 10] (.nil)) (chainT [8, 4, 5, 6, 7, 9, 10] (.nil)))) (chainT [8, 0, 1, 4, 5, 6, 7, 9, 10] (.nil)))) (chainT [8] (.alt (chainT [0, 1, 2, 4, 5, 6, 7, 9, 10] (.nil)) (chainT [2, 0, 1, 4, 5, 6, 7, 9, 10] (.nil))))))) (chainT [8] (.alt (chainT [0, 1] (.alt (chainT [2, 3, 4, 5, 6, 7, 9, 10] (.nil)) (chainT [3, 2, 4, 5, 6, 7, 9, 10] (.nil)))) (.alt (chainT [2] (.alt (chainT [0, 1, 3, 4, 5, 6, 7, 9, 10] (.nil)) (chainT [3, 0, 1, 4, 5, 6, 7, 9, 10] (.nil)))) (chainT [3] (.alt (chainT [0, 1, 2, 4, 5, 6, 7, 9, 10] (.nil)) (chainT [2, 0, 1, 4, 5, 6, 7, 9, 10] (.nil)))))))))) _ [] (Sp.refl _) (by kernel_rfl) (by kernel_rfl) ?_
    refine qt_alt ?_ (qt_alt ?_ (qt_alt ?_ ?_))
    · skip
      refine qt_seg (by repeat (first | exact PickL.nil | (apply PickL.cons; rfl))) fun K1 hK1 => ?_
      refine qf_call (β := List Ck × List Value) tabOk [] _ M0 rfl rfl rfl rfl (Sp.refl _) (fun _ h => h.elim) (fun w' hs => two_ca w') ?_
      rintro ⟨L, cs⟩ _ ⟨rfl, ho⟩
      (refine qf_loadAB tabOk rfl rfl rfl (by repeat first | exact .head _ | refine .tail _ ?_) (by rfl) (by rfl) ?_; refine qf_nil ?_)
      refine hK1 _ _ ?_
      refine qt_alt ?_ (qt_alt ?_ ?_)
      · skip
        refine qt_seg (by repeat (first | exact PickL.nil | (apply PickL.cons; rfl))) fun K1 hK1 => ?_
        refine qf_mkS 3 (ints [1, 1, 1, 1, 1]) rfl (by kernel_rfl) rfl (fun b61 => ?_)
        (refine qf_nil ?_)
        refine hK1 _ _ ?_
        refine qt_alt ?_ ?_
        · skip
          refine qt_seg (by repeat (first | exact PickL.nil | (apply PickL.cons; rfl))) fun K1 hK1 => ?_
          refine qf_mkS 3 (ints [0, 0, 0, 0, 1]) rfl (by kernel_rfl) rfl (fun b62 => ?_)
          (refine qf_nil ?_)
          refine hK1 _ _ ?_
          refine qt_alt ?_ ?_
          · skip
            refine qt_seg (by repeat (first | exact PickL.nil | (apply PickL.cons; rfl))) fun K1 hK1 => ?_
            refine qf_callv (val := .tuple #[.agg #[.int .i64 (0), .int .i64 (20), .int .i64 (5)], .int .i64 (0)]) tabOk rfl rfl rfl rfl (fun w hs => ?_) ?_
            · have := follow_ca w 0 w.heap.size 0 w.heap.size cs twoR ruA _ _ [1, 1, 1, 1, 1] [0, 0, 0, 0, 1] (ho.at hs (by repeat first | exact .head _ | refine .tail _ ?_)) two_small (Blk.rdI (c := 5) (hs.blk (b := b61) (by repeat first | exact .head _ | refine .tail _ ?_))) (Blk.rdI (c := 5) (hs.blk (b := b62) (by repeat first | exact .head _ | refine .tail _ ?_))) (by decide) (by decide); rw [aw_fol] at this; exact this
            (refine qf_pure tabOk rfl rfl rfl ?_; (iterate 2 refine qf_ext tabOk rfl rfl rfl ?_))
            refine qf_alloc zero55 rfl (fun b19 => ?_)
            (refine qf_setA tabOk rfl rfl rfl rfl rfl (by repeat constructor) rfl ?_; refine qf_pure tabOk rfl rfl rfl ?_; refine qf_nil ?_)
            skip
            exact hK1 _ _ (qt_nil (hK2 b19 _ _ ⟨rfl, rfl, rfl, rfl, rfl, rfl, rfl, rfl, rfl, rfl, trivial⟩ (by repeat (first | exact Sp.nil | exact Sp.refl _ | refine Sp.cons (by repeat constructor) ?_))))
          · skip
            refine qt_seg (by repeat (first | exact PickL.nil | (apply PickL.cons; rfl))) fun K1 hK1 => ?_
            refine qf_alloc zero55 rfl (fun b19 => ?_)
            skip
            refine qf_callv (val := .tuple #[.agg #[.int .i64 (0), .int .i64 (20), .int .i64 (5)], .int .i64 (0)]) tabOk rfl rfl rfl rfl (fun w hs => ?_) ?_
            · have := follow_ca w 0 w.heap.size 0 w.heap.size cs twoR ruA _ _ [1, 1, 1, 1, 1] [0, 0, 0, 0, 1] (ho.at hs (by repeat first | exact .head _ | refine .tail _ ?_)) two_small (Blk.rdI (c := 5) (hs.blk (b := b61) (by repeat first | exact .head _ | refine .tail _ ?_))) (Blk.rdI (c := 5) (hs.blk (b := b62) (by repeat first | exact .head _ | refine .tail _ ?_))) (by decide) (by decide); rw [aw_fol] at this; exact this
            (refine qf_pure tabOk rfl rfl rfl ?_; (iterate 2 refine qf_ext tabOk rfl rfl rfl ?_); refine qf_setA tabOk rfl rfl rfl rfl rfl (by repeat constructor) rfl ?_; refine qf_pure tabOk rfl rfl rfl ?_; refine qf_nil ?_)
            skip
            exact hK1 _ _ (qt_nil (hK2 b19 _ _ ⟨rfl, rfl, rfl, rfl, rfl, rfl, rfl, rfl, rfl, rfl, trivial⟩ (by repeat (first | exact Sp.nil | exact Sp.refl _ | refine Sp.cons (by repeat constructor) ?_))))
        · skip
          refine qt_seg (by repeat (first | exact PickL.nil | (apply PickL.cons; rfl))) fun K1 hK1 => ?_
          refine qf_alloc zero55 rfl (fun b19 => ?_)
          skip
          refine qf_mkS 3 (ints [0, 0, 0, 0, 1]) rfl (by kernel_rfl) rfl (fun b62 => ?_)
          skip
          refine qf_callv (val := .tuple #[.agg #[.int .i64 (0), .int .i64 (20), .int .i64 (5)], .int .i64 (0)]) tabOk rfl rfl rfl rfl (fun w hs => ?_) ?_
          · have := follow_ca w 0 w.heap.size 0 w.heap.size cs twoR ruA _ _ [1, 1, 1, 1, 1] [0, 0, 0, 0, 1] (ho.at hs (by repeat first | exact .head _ | refine .tail _ ?_)) two_small (Blk.rdI (c := 5) (hs.blk (b := b61) (by repeat first | exact .head _ | refine .tail _ ?_))) (Blk.rdI (c := 5) (hs.blk (b := b62) (by repeat first | exact .head _ | refine .tail _ ?_))) (by decide) (by decide); rw [aw_fol] at this; exact this
          (refine qf_pure tabOk rfl rfl rfl ?_; (iterate 2 refine qf_ext tabOk rfl rfl rfl ?_); refine qf_setA tabOk rfl rfl rfl rfl rfl (by repeat constructor) rfl ?_; refine qf_pure tabOk rfl rfl rfl ?_; refine qf_nil ?_)
          skip
          exact hK1 _ _ (qt_nil (hK2 b19 _ _ ⟨rfl, rfl, rfl, rfl, rfl, rfl, rfl, rfl, rfl, rfl, trivial⟩ (by repeat (first | exact Sp.nil | exact Sp.refl _ | refine Sp.cons (by repeat constructor) ?_))))
      · skip
        refine qt_seg (by repeat (first | exact PickL.nil | (apply PickL.cons; rfl))) fun K1 hK1 => ?_
        refine qf_mkS 3 (ints [0, 0, 0, 0, 1]) rfl (by kernel_rfl) rfl (fun b62 => ?_)
        (refine qf_nil ?_)
        refine hK1 _ _ ?_
        refine qt_alt ?_ ?_
        · skip
          refine qt_seg (by repeat (first | exact PickL.nil | (apply PickL.cons; rfl))) fun K1 hK1 => ?_
          refine qf_mkS 3 (ints [1, 1, 1, 1, 1]) rfl (by kernel_rfl) rfl (fun b61 => ?_)
          (refine qf_nil ?_)
          refine hK1 _ _ ?_
          refine qt_alt ?_ ?_
          · skip
            refine qt_seg (by repeat (first | exact PickL.nil | (apply PickL.cons; rfl))) fun K1 hK1 => ?_
            refine qf_callv (val := .tuple #[.agg #[.int .i64 (0), .int .i64 (20), .int .i64 (5)], .int .i64 (0)]) tabOk rfl rfl rfl rfl (fun w hs => ?_) ?_
            · have := follow_ca w 0 w.heap.size 0 w.heap.size cs twoR ruA _ _ [1, 1, 1, 1, 1] [0, 0, 0, 0, 1] (ho.at hs (by repeat first | exact .head _ | refine .tail _ ?_)) two_small (Blk.rdI (c := 5) (hs.blk (b := b61) (by repeat first | exact .head _ | refine .tail _ ?_))) (Blk.rdI (c := 5) (hs.blk (b := b62) (by repeat first | exact .head _ | refine .tail _ ?_))) (by decide) (by decide); rw [aw_fol] at this; exact this
            (refine qf_pure tabOk rfl rfl rfl ?_; (iterate 2 refine qf_ext tabOk rfl rfl rfl ?_))
            refine qf_alloc zero55 rfl (fun b19 => ?_)
            (refine qf_setA tabOk rfl rfl rfl rfl rfl (by repeat constructor) rfl ?_; refine qf_pure tabOk rfl rfl rfl ?_; refine qf_nil ?_)
            skip
            exact hK1 _ _ (qt_nil (hK2 b19 _ _ ⟨rfl, rfl, rfl, rfl, rfl, rfl, rfl, rfl, rfl, rfl, trivial⟩ (by repeat (first | exact Sp.nil | exact Sp.refl _ | refine Sp.cons (by repeat constructor) ?_))))
          · skip
            refine qt_seg (by repeat (first | exact PickL.nil | (apply PickL.cons; rfl))) fun K1 hK1 => ?_
            refine qf_alloc zero55 rfl (fun b19 => ?_)
            skip
            refine qf_callv (val := .tuple #[.agg #[.int .i64 (0), .int .i64 (20), .int .i64 (5)], .int .i64 (0)]) tabOk rfl rfl rfl rfl (fun w hs => ?_) ?_
            · have := follow_ca w 0 w.heap.size 0 w.heap.size cs twoR ruA _ _ [1, 1, 1, 1, 1] [0, 0, 0, 0, 1] (ho.at hs (by repeat first | exact .head _ | refine .tail _ ?_)) two_small (Blk.rdI (c := 5) (hs.blk (b := b61) (by repeat first | exact .head _ | refine .tail _ ?_))) (Blk.rdI (c := 5) (hs.blk (b := b62) (by repeat first | exact .head _ | refine .tail _ ?_))) (by decide) (by decide); rw [aw_fol] at this; exact this
            (refine qf_pure tabOk rfl rfl rfl ?_; (iterate 2 refine qf_ext tabOk rfl rfl rfl ?_); refine qf_setA tabOk rfl rfl rfl rfl rfl (by repeat constructor) rfl ?_; refine qf_pure tabOk rfl rfl rfl ?_; refine qf_nil ?_)
            skip
            exact hK1 _ _ (qt_nil (hK2 b19 _ _ ⟨rfl, rfl, rfl, rfl, rfl, rfl, rfl, rfl, rfl, rfl, trivial⟩ (by repeat (first | exact Sp.nil | exact Sp.refl _ | refine Sp.cons (by repeat constructor) ?_))))
        · skip
          refine qt_seg (by repeat (first | exact PickL.nil | (apply PickL.cons; rfl))) fun K1 hK1 => ?_
          refine qf_alloc zero55 rfl (fun b19 => ?_)
          skip
          refine qf_mkS 3 (ints [1, 1, 1, 1, 1]) rfl (by kernel_rfl) rfl (fun b61 => ?_)
          skip
          refine qf_callv (val := .tuple #[.agg #[.int .i64 (0), .int .i64 (20), .int .i64 (5)], .int .i64 (0)]) tabOk rfl rfl rfl rfl (fun w hs => ?_) ?_
          · have := follow_ca w 0 w.heap.size 0 w.heap.size cs twoR ruA _ _ [1, 1, 1, 1, 1] [0, 0, 0, 0, 1] (ho.at hs (by repeat first | exact .head _ | refine .tail _ ?_)) two_small (Blk.rdI (c := 5) (hs.blk (b := b61) (by repeat first | exact .head _ | refine .tail _ ?_))) (Blk.rdI (c := 5) (hs.blk (b := b62) (by repeat first | exact .head _ | refine .tail _ ?_))) (by decide) (by decide); rw [aw_fol] at this; exact this
          (refine qf_pure tabOk rfl rfl rfl ?_; (iterate 2 refine qf_ext tabOk rfl rfl rfl ?_); refine qf_setA tabOk rfl rfl rfl rfl rfl (by repeat constructor) rfl ?_; refine qf_pure tabOk rfl rfl rfl ?_; refine qf_nil ?_)
          skip
          exact hK1 _ _ (qt_nil (hK2 b19 _ _ ⟨rfl, rfl, rfl, rfl, rfl, rfl, rfl, rfl, rfl, rfl, trivial⟩ (by repeat (first | exact Sp.nil | exact Sp.refl _ | refine Sp.cons (by repeat constructor) ?_))))
      · skip
        refine qt_seg (by repeat (first | exact PickL.nil | (apply PickL.cons; rfl))) fun K1 hK1 => ?_
        refine qf_alloc zero55 rfl (fun b19 => ?_)
        (refine qf_nil ?_)
        refine hK1 _ _ ?_
        refine qt_alt ?_ ?_
        · skip
          refine qt_seg (by repeat (first | exact PickL.nil | (apply PickL.cons; rfl))) fun K1 hK1 => ?_
          refine qf_mkS 3 (ints [1, 1, 1, 1, 1]) rfl (by kernel_rfl) rfl (fun b61 => ?_)
          skip
          refine qf_mkS 3 (ints [0, 0, 0, 0, 1]) rfl (by kernel_rfl) rfl (fun b62 => ?_)
          skip
          refine qf_callv (val := .tuple #[.agg #[.int .i64 (0), .int .i64 (20), .int .i64 (5)], .int .i64 (0)]) tabOk rfl rfl rfl rfl (fun w hs => ?_) ?_
          · have := follow_ca w 0 w.heap.size 0 w.heap.size cs twoR ruA _ _ [1, 1, 1, 1, 1] [0, 0, 0, 0, 1] (ho.at hs (by repeat first | exact .head _ | refine .tail _ ?_)) two_small (Blk.rdI (c := 5) (hs.blk (b := b61) (by repeat first | exact .head _ | refine .tail _ ?_))) (Blk.rdI (c := 5) (hs.blk (b := b62) (by repeat first | exact .head _ | refine .tail _ ?_))) (by decide) (by decide); rw [aw_fol] at this; exact this
          (refine qf_pure tabOk rfl rfl rfl ?_; (iterate 2 refine qf_ext tabOk rfl rfl rfl ?_); refine qf_setA tabOk rfl rfl rfl rfl rfl (by repeat constructor) rfl ?_; refine qf_pure tabOk rfl rfl rfl ?_; refine qf_nil ?_)
          skip
          exact hK1 _ _ (qt_nil (hK2 b19 _ _ ⟨rfl, rfl, rfl, rfl, rfl, rfl, rfl, rfl, rfl, rfl, trivial⟩ (by repeat (first | exact Sp.nil | exact Sp.refl _ | refine Sp.cons (by repeat constructor) ?_))))
        · skip
          refine qt_seg (by repeat (first | exact PickL.nil | (apply PickL.cons; rfl))) fun K1 hK1 => ?_
          refine qf_mkS 3 (ints [0, 0, 0, 0, 1]) rfl (by kernel_rfl) rfl (fun b62 => ?_)
          skip
          refine qf_mkS 3 (ints [1, 1, 1, 1, 1]) rfl (by kernel_rfl) rfl (fun b61 => ?_)
          skip
          refine qf_callv (val := .tuple #[.agg #[.int .i64 (0), .int .i64 (20), .int .i64 (5)], .int .i64 (0)]) tabOk rfl rfl rfl rfl (fun w hs => ?_) ?_
          · have := follow_ca w 0 w.heap.size 0 w.heap.size cs twoR ruA _ _ [1, 1, 1, 1, 1] [0, 0, 0, 0, 1] (ho.at hs (by repeat first | exact .head _ | refine .tail _ ?_)) two_small (Blk.rdI (c := 5) (hs.blk (b := b61) (by repeat first | exact .head _ | refine .tail _ ?_))) (Blk.rdI (c := 5) (hs.blk (b := b62) (by repeat first | exact .head _ | refine .tail _ ?_))) (by decide) (by decide); rw [aw_fol] at this; exact this
          (refine qf_pure tabOk rfl rfl rfl ?_; (iterate 2 refine qf_ext tabOk rfl rfl rfl ?_); refine qf_setA tabOk rfl rfl rfl rfl rfl (by repeat constructor) rfl ?_; refine qf_pure tabOk rfl rfl rfl ?_; refine qf_nil ?_)
          skip
          exact hK1 _ _ (qt_nil (hK2 b19 _ _ ⟨rfl, rfl, rfl, rfl, rfl, rfl, rfl, rfl, rfl, rfl, trivial⟩ (by repeat (first | exact Sp.nil | exact Sp.refl _ | refine Sp.cons (by repeat constructor) ?_))))
    · skip
      refine qt_seg (by repeat (first | exact PickL.nil | (apply PickL.cons; rfl))) fun K1 hK1 => ?_
      refine qf_mkS 3 (ints [1, 1, 1, 1, 1]) rfl (by kernel_rfl) rfl (fun b61 => ?_)
      (refine qf_nil ?_)
      refine hK1 _ _ ?_
      refine qt_alt ?_ (qt_alt ?_ ?_)
      · skip
        refine qt_seg (by repeat (first | exact PickL.nil | (apply PickL.cons; rfl))) fun K1 hK1 => ?_
        refine qf_call (β := List Ck × List Value) tabOk [] _ M0 rfl rfl rfl rfl (Sp.refl _) (fun _ h => h.elim) (fun w' hs => two_ca w') ?_
        rintro ⟨L, cs⟩ _ ⟨rfl, ho⟩
        (refine qf_loadAB tabOk rfl rfl rfl (by repeat first | exact .head _ | refine .tail _ ?_) (by rfl) (by rfl) ?_; refine qf_nil ?_)
        refine hK1 _ _ ?_
        refine qt_alt ?_ ?_
        · skip
          refine qt_seg (by repeat (first | exact PickL.nil | (apply PickL.cons; rfl))) fun K1 hK1 => ?_
          refine qf_mkS 3 (ints [0, 0, 0, 0, 1]) rfl (by kernel_rfl) rfl (fun b62 => ?_)
          (refine qf_nil ?_)
          refine hK1 _ _ ?_
          refine qt_alt ?_ ?_
          · skip
            refine qt_seg (by repeat (first | exact PickL.nil | (apply PickL.cons; rfl))) fun K1 hK1 => ?_
            refine qf_callv (val := .tuple #[.agg #[.int .i64 (0), .int .i64 (20), .int .i64 (5)], .int .i64 (0)]) tabOk rfl rfl rfl rfl (fun w hs => ?_) ?_
            · have := follow_ca w 0 w.heap.size 0 w.heap.size cs twoR ruA _ _ [1, 1, 1, 1, 1] [0, 0, 0, 0, 1] (ho.at hs (by repeat first | exact .head _ | refine .tail _ ?_)) two_small (Blk.rdI (c := 5) (hs.blk (b := b61) (by repeat first | exact .head _ | refine .tail _ ?_))) (Blk.rdI (c := 5) (hs.blk (b := b62) (by repeat first | exact .head _ | refine .tail _ ?_))) (by decide) (by decide); rw [aw_fol] at this; exact this
            (refine qf_pure tabOk rfl rfl rfl ?_; (iterate 2 refine qf_ext tabOk rfl rfl rfl ?_))
            refine qf_alloc zero55 rfl (fun b19 => ?_)
            (refine qf_setA tabOk rfl rfl rfl rfl rfl (by repeat constructor) rfl ?_; refine qf_pure tabOk rfl rfl rfl ?_; refine qf_nil ?_)
            skip
            exact hK1 _ _ (qt_nil (hK2 b19 _ _ ⟨rfl, rfl, rfl, rfl, rfl, rfl, rfl, rfl, rfl, rfl, trivial⟩ (by repeat (first | exact Sp.nil | exact Sp.refl _ | refine Sp.cons (by repeat constructor) ?_))))
          · skip
            refine qt_seg (by repeat (first | exact PickL.nil | (apply PickL.cons; rfl))) fun K1 hK1 => ?_
            refine qf_alloc zero55 rfl (fun b19 => ?_)
            skip
            refine qf_callv (val := .tuple #[.agg #[.int .i64 (0), .int .i64 (20), .int .i64 (5)], .int .i64 (0)]) tabOk rfl rfl rfl rfl (fun w hs => ?_) ?_
            · have := follow_ca w 0 w.heap.size 0 w.heap.size cs twoR ruA _ _ [1, 1, 1, 1, 1] [0, 0, 0, 0, 1] (ho.at hs (by repeat first | exact .head _ | refine .tail _ ?_)) two_small (Blk.rdI (c := 5) (hs.blk (b := b61) (by repeat first | exact .head _ | refine .tail _ ?_))) (Blk.rdI (c := 5) (hs.blk (b := b62) (by repeat first | exact .head _ | refine .tail _ ?_))) (by decide) (by decide); rw [aw_fol] at this; exact this
            (refine qf_pure tabOk rfl rfl rfl ?_; (iterate 2 refine qf_ext tabOk rfl rfl rfl ?_); refine qf_setA tabOk rfl rfl rfl rfl rfl (by repeat constructor) rfl ?_; refine qf_pure tabOk rfl rfl rfl ?_; refine qf_nil ?_)
            skip
            exact hK1 _ _ (qt_nil (hK2 b19 _ _ ⟨rfl, rfl, rfl, rfl, rfl, rfl, rfl, rfl, rfl, rfl, trivial⟩ (by repeat (first | exact Sp.nil | exact Sp.refl _ | refine Sp.cons (by repeat constructor) ?_))))
        · skip
          refine qt_seg (by repeat (first | exact PickL.nil | (apply PickL.cons; rfl))) fun K1 hK1 => ?_
          refine qf_alloc zero55 rfl (fun b19 => ?_)
          skip
          refine qf_mkS 3 (ints [0, 0, 0, 0, 1]) rfl (by kernel_rfl) rfl (fun b62 => ?_)
          skip
          refine qf_callv (val := .tuple #[.agg #[.int .i64 (0), .int .i64 (20), .int .i64 (5)], .int .i64 (0)]) tabOk rfl rfl rfl rfl (fun w hs => ?_) ?_
          · have := follow_ca w 0 w.heap.size 0 w.heap.size cs twoR ruA _ _ [1, 1, 1, 1, 1] [0, 0, 0, 0, 1] (ho.at hs (by repeat first | exact .head _ | refine .tail _ ?_)) two_small (Blk.rdI (c := 5) (hs.blk (b := b61) (by repeat first | exact .head _ | refine .tail _ ?_))) (Blk.rdI (c := 5) (hs.blk (b := b62) (by repeat first | exact .head _ | refine .tail _ ?_))) (by decide) (by decide); rw [aw_fol] at this; exact this
          (refine qf_pure tabOk rfl rfl rfl ?_; (iterate 2 refine qf_ext tabOk rfl rfl rfl ?_); refine qf_setA tabOk rfl rfl rfl rfl rfl (by repeat constructor) rfl ?_; refine qf_pure tabOk rfl rfl rfl ?_; refine qf_nil ?_)
          skip
          exact hK1 _ _ (qt_nil (hK2 b19 _ _ ⟨rfl, rfl, rfl, rfl, rfl, rfl, rfl, rfl, rfl, rfl, trivial⟩ (by repeat (first | exact Sp.nil | exact Sp.refl _ | refine Sp.cons (by repeat constructor) ?_))))
      · skip
        refine qt_seg (by repeat (first | exact PickL.nil | (apply PickL.cons; rfl))) fun K1 hK1 => ?_
        refine qf_mkS 3 (ints [0, 0, 0, 0, 1]) rfl (by kernel_rfl) rfl (fun b62 => ?_)
        (refine qf_nil ?_)
        refine hK1 _ _ ?_
        refine qt_alt ?_ ?_
        · skip
          refine qt_seg (by repeat (first | exact PickL.nil | (apply PickL.cons; rfl))) fun K1 hK1 => ?_
          refine qf_call (β := List Ck × List Value) tabOk [] _ M0 rfl rfl rfl rfl (Sp.refl _) (fun _ h => h.elim) (fun w' hs => two_ca w') ?_
          rintro ⟨L, cs⟩ _ ⟨rfl, ho⟩
          (refine qf_loadAB tabOk rfl rfl rfl (by repeat first | exact .head _ | refine .tail _ ?_) (by rfl) (by rfl) ?_; refine qf_nil ?_)
          refine hK1 _ _ ?_
          refine qt_alt ?_ ?_
          · skip
            refine qt_seg (by repeat (first | exact PickL.nil | (apply PickL.cons; rfl))) fun K1 hK1 => ?_
            refine qf_callv (val := .tuple #[.agg #[.int .i64 (0), .int .i64 (20), .int .i64 (5)], .int .i64 (0)]) tabOk rfl rfl rfl rfl (fun w hs => ?_) ?_
            · have := follow_ca w 0 w.heap.size 0 w.heap.size cs twoR ruA _ _ [1, 1, 1, 1, 1] [0, 0, 0, 0, 1] (ho.at hs (by repeat first | exact .head _ | refine .tail _ ?_)) two_small (Blk.rdI (c := 5) (hs.blk (b := b61) (by repeat first | exact .head _ | refine .tail _ ?_))) (Blk.rdI (c := 5) (hs.blk (b := b62) (by repeat first | exact .head _ | refine .tail _ ?_))) (by decide) (by decide); rw [aw_fol] at this; exact this
            (refine qf_pure tabOk rfl rfl rfl ?_; (iterate 2 refine qf_ext tabOk rfl rfl rfl ?_))
            refine qf_alloc zero55 rfl (fun b19 => ?_)
            (refine qf_setA tabOk rfl rfl rfl rfl rfl (by repeat constructor) rfl ?_; refine qf_pure tabOk rfl rfl rfl ?_; refine qf_nil ?_)
            skip
            exact hK1 _ _ (qt_nil (hK2 b19 _ _ ⟨rfl, rfl, rfl, rfl, rfl, rfl, rfl, rfl, rfl, rfl, trivial⟩ (by repeat (first | exact Sp.nil | exact Sp.refl _ | refine Sp.cons (by repeat constructor) ?_))))
          · skip
            refine qt_seg (by repeat (first | exact PickL.nil | (apply PickL.cons; rfl))) fun K1 hK1 => ?_
            refine qf_alloc zero55 rfl (fun b19 => ?_)
            skip
            refine qf_callv (val := .tuple #[.agg #[.int .i64 (0), .int .i64 (20), .int .i64 (5)], .int .i64 (0)]) tabOk rfl rfl rfl rfl (fun w hs => ?_) ?_
            · have := follow_ca w 0 w.heap.size 0 w.heap.size cs twoR ruA _ _ [1, 1, 1, 1, 1] [0, 0, 0, 0, 1] (ho.at hs (by repeat first | exact .head _ | refine .tail _ ?_)) two_small (Blk.rdI (c := 5) (hs.blk (b := b61) (by repeat first | exact .head _ | refine .tail _ ?_))) (Blk.rdI (c := 5) (hs.blk (b := b62) (by repeat first | exact .head _ | refine .tail _ ?_))) (by decide) (by decide); rw [aw_fol] at this; exact this
            (refine qf_pure tabOk rfl rfl rfl ?_; (iterate 2 refine qf_ext tabOk rfl rfl rfl ?_); refine qf_setA tabOk rfl rfl rfl rfl rfl (by repeat constructor) rfl ?_; refine qf_pure tabOk rfl rfl rfl ?_; refine qf_nil ?_)
            skip
            exact hK1 _ _ (qt_nil (hK2 b19 _ _ ⟨rfl, rfl, rfl, rfl, rfl, rfl, rfl, rfl, rfl, rfl, trivial⟩ (by repeat (first | exact Sp.nil | exact Sp.refl _ | refine Sp.cons (by repeat constructor) ?_))))
        · skip
          refine qt_seg (by repeat (first | exact PickL.nil | (apply PickL.cons; rfl))) fun K1 hK1 => ?_
          refine qf_alloc zero55 rfl (fun b19 => ?_)
          skip
          refine qf_call (β := List Ck × List Value) tabOk [] _ M0 rfl rfl rfl rfl (Sp.refl _) (fun _ h => h.elim) (fun w' hs => two_ca w') ?_
          rintro ⟨L, cs⟩ _ ⟨rfl, ho⟩
          (refine qf_loadAB tabOk rfl rfl rfl (by repeat first | exact .head _ | refine .tail _ ?_) (by rfl) (by rfl) ?_)
          refine qf_callv (val := .tuple #[.agg #[.int .i64 (0), .int .i64 (20), .int .i64 (5)], .int .i64 (0)]) tabOk rfl rfl rfl rfl (fun w hs => ?_) ?_
          · have := follow_ca w 0 w.heap.size 0 w.heap.size cs twoR ruA _ _ [1, 1, 1, 1, 1] [0, 0, 0, 0, 1] (ho.at hs (by repeat first | exact .head _ | refine .tail _ ?_)) two_small (Blk.rdI (c := 5) (hs.blk (b := b61) (by repeat first | exact .head _ | refine .tail _ ?_))) (Blk.rdI (c := 5) (hs.blk (b := b62) (by repeat first | exact .head _ | refine .tail _ ?_))) (by decide) (by decide); rw [aw_fol] at this; exact this
          (refine qf_pure tabOk rfl rfl rfl ?_; (iterate 2 refine qf_ext tabOk rfl rfl rfl ?_); refine qf_setA tabOk rfl rfl rfl rfl rfl (by repeat constructor) rfl ?_; refine qf_pure tabOk rfl rfl rfl ?_; refine qf_nil ?_)
          skip
          exact hK1 _ _ (qt_nil (hK2 b19 _ _ ⟨rfl, rfl, rfl, rfl, rfl, rfl, rfl, rfl, rfl, rfl, trivial⟩ (by repeat (first | exact Sp.nil | exact Sp.refl _ | refine Sp.cons (by repeat constructor) ?_))))
      · skip
        refine qt_seg (by repeat (first | exact PickL.nil | (apply PickL.cons; rfl))) fun K1 hK1 => ?_
        refine qf_alloc zero55 rfl (fun b19 => ?_)
        (refine qf_nil ?_)
        refine hK1 _ _ ?_
        refine qt_alt ?_ ?_
        · skip
          refine qt_seg (by repeat (first | exact PickL.nil | (apply PickL.cons; rfl))) fun K1 hK1 => ?_
          refine qf_call (β := List Ck × List Value) tabOk [] _ M0 rfl rfl rfl rfl (Sp.refl _) (fun _ h => h.elim) (fun w' hs => two_ca w') ?_
          rintro ⟨L, cs⟩ _ ⟨rfl, ho⟩
          (refine qf_loadAB tabOk rfl rfl rfl (by repeat first | exact .head _ | refine .tail _ ?_) (by rfl) (by rfl) ?_)
          refine qf_mkS 3 (ints [0, 0, 0, 0, 1]) rfl (by kernel_rfl) rfl (fun b62 => ?_)
          skip
          refine qf_callv (val := .tuple #[.agg #[.int .i64 (0), .int .i64 (20), .int .i64 (5)], .int .i64 (0)]) tabOk rfl rfl rfl rfl (fun w hs => ?_) ?_
          · have := follow_ca w 0 w.heap.size 0 w.heap.size cs twoR ruA _ _ [1, 1, 1, 1, 1] [0, 0, 0, 0, 1] (ho.at hs (by repeat first | exact .head _ | refine .tail _ ?_)) two_small (Blk.rdI (c := 5) (hs.blk (b := b61) (by repeat first | exact .head _ | refine .tail _ ?_))) (Blk.rdI (c := 5) (hs.blk (b := b62) (by repeat first | exact .head _ | refine .tail _ ?_))) (by decide) (by decide); rw [aw_fol] at this; exact this
          (refine qf_pure tabOk rfl rfl rfl ?_; (iterate 2 refine qf_ext tabOk rfl rfl rfl ?_); refine qf_setA tabOk rfl rfl rfl rfl rfl (by repeat constructor) rfl ?_; refine qf_pure tabOk rfl rfl rfl ?_; refine qf_nil ?_)
          skip
          exact hK1 _ _ (qt_nil (hK2 b19 _ _ ⟨rfl, rfl, rfl, rfl, rfl, rfl, rfl, rfl, rfl, rfl, trivial⟩ (by repeat (first | exact Sp.nil | exact Sp.refl _ | refine Sp.cons (by repeat constructor) ?_))))
        · skip
          refine qt_seg (by repeat (first | exact PickL.nil | (apply PickL.cons; rfl))) fun K1 hK1 => ?_
          refine qf_mkS 3 (ints [0, 0, 0, 0, 1]) rfl (by kernel_rfl) rfl (fun b62 => ?_)
          skip
          refine qf_call (β := List Ck × List Value) tabOk [] _ M0 rfl rfl rfl rfl (Sp.refl _) (fun _ h => h.elim) (fun w' hs => two_ca w') ?_
          rintro ⟨L, cs⟩ _ ⟨rfl, ho⟩
          (refine qf_loadAB tabOk rfl rfl rfl (by repeat first | exact .head _ | refine .tail _ ?_) (by rfl) (by rfl) ?_)
          refine qf_callv (val := .tuple #[.agg #[.int .i64 (0), .int .i64 (20), .int .i64 (5)], .int .i64 (0)]) tabOk rfl rfl rfl rfl (fun w hs => ?_) ?_
          · have := follow_ca w 0 w.heap.size 0 w.heap.size cs twoR ruA _ _ [1, 1, 1, 1, 1] [0, 0, 0, 0, 1] (ho.at hs (by repeat first | exact .head _ | refine .tail _ ?_)) two_small (Blk.rdI (c := 5) (hs.blk (b := b61) (by repeat first | exact .head _ | refine .tail _ ?_))) (Blk.rdI (c := 5) (hs.blk (b := b62) (by repeat first | exact .head _ | refine .tail _ ?_))) (by decide) (by decide); rw [aw_fol] at this; exact this
          (refine qf_pure tabOk rfl rfl rfl ?_; (iterate 2 refine qf_ext tabOk rfl rfl rfl ?_); refine qf_setA tabOk rfl rfl rfl rfl rfl (by repeat constructor) rfl ?_; refine qf_pure tabOk rfl rfl rfl ?_; refine qf_nil ?_)
          skip
          exact hK1 _ _ (qt_nil (hK2 b19 _ _ ⟨rfl, rfl, rfl, rfl, rfl, rfl, rfl, rfl, rfl, rfl, trivial⟩ (by repeat (first | exact Sp.nil | exact Sp.refl _ | refine Sp.cons (by repeat constructor) ?_))))
    · skip
      refine qt_seg (by repeat (first | exact PickL.nil | (apply PickL.cons; rfl))) fun K1 hK1 => ?_
      refine qf_mkS 3 (ints [0, 0, 0, 0, 1]) rfl (by kernel_rfl) rfl (fun b62 => ?_)
      (refine qf_nil ?_)
      refine hK1 _ _ ?_
      refine qt_alt ?_ (qt_alt ?_ ?_)
      · skip
        refine qt_seg (by repeat (first | exact PickL.nil | (apply PickL.cons; rfl))) fun K1 hK1 => ?_
        refine qf_call (β := List Ck × List Value) tabOk [] _ M0 rfl rfl rfl rfl (Sp.refl _) (fun _ h => h.elim) (fun w' hs => two_ca w') ?_
        rintro ⟨L, cs⟩ _ ⟨rfl, ho⟩
        (refine qf_loadAB tabOk rfl rfl rfl (by repeat first | exact .head _ | refine .tail _ ?_) (by rfl) (by rfl) ?_; refine qf_nil ?_)
        refine hK1 _ _ ?_
        refine qt_alt ?_ ?_
        · skip
          refine qt_seg (by repeat (first | exact PickL.nil | (apply PickL.cons; rfl))) fun K1 hK1 => ?_
          refine qf_mkS 3 (ints [1, 1, 1, 1, 1]) rfl (by kernel_rfl) rfl (fun b61 => ?_)
          (refine qf_nil ?_)
          refine hK1 _ _ ?_
          refine qt_alt ?_ ?_
          · skip
            refine qt_seg (by repeat (first | exact PickL.nil | (apply PickL.cons; rfl))) fun K1 hK1 => ?_
            refine qf_callv (val := .tuple #[.agg #[.int .i64 (0), .int .i64 (20), .int .i64 (5)], .int .i64 (0)]) tabOk rfl rfl rfl rfl (fun w hs => ?_) ?_
            · have := follow_ca w 0 w.heap.size 0 w.heap.size cs twoR ruA _ _ [1, 1, 1, 1, 1] [0, 0, 0, 0, 1] (ho.at hs (by repeat first | exact .head _ | refine .tail _ ?_)) two_small (Blk.rdI (c := 5) (hs.blk (b := b61) (by repeat first | exact .head _ | refine .tail _ ?_))) (Blk.rdI (c := 5) (hs.blk (b := b62) (by repeat first | exact .head _ | refine .tail _ ?_))) (by decide) (by decide); rw [aw_fol] at this; exact this
            (refine qf_pure tabOk rfl rfl rfl ?_; (iterate 2 refine qf_ext tabOk rfl rfl rfl ?_))
            refine qf_alloc zero55 rfl (fun b19 => ?_)
            (refine qf_setA tabOk rfl rfl rfl rfl rfl (by repeat constructor) rfl ?_; refine qf_pure tabOk rfl rfl rfl ?_; refine qf_nil ?_)
            skip
            exact hK1 _ _ (qt_nil (hK2 b19 _ _ ⟨rfl, rfl, rfl, rfl, rfl, rfl, rfl, rfl, rfl, rfl, trivial⟩ (by repeat (first | exact Sp.nil | exact Sp.refl _ | refine Sp.cons (by repeat constructor) ?_))))
          · skip
            refine qt_seg (by repeat (first | exact PickL.nil | (apply PickL.cons; rfl))) fun K1 hK1 => ?_
            refine qf_alloc zero55 rfl (fun b19 => ?_)
            skip
            refine qf_callv (val := .tuple #[.agg #[.int .i64 (0), .int .i64 (20), .int .i64 (5)], .int .i64 (0)]) tabOk rfl rfl rfl rfl (fun w hs => ?_) ?_
            · have := follow_ca w 0 w.heap.size 0 w.heap.size cs twoR ruA _ _ [1, 1, 1, 1, 1] [0, 0, 0, 0, 1] (ho.at hs (by repeat first | exact .head _ | refine .tail _ ?_)) two_small (Blk.rdI (c := 5) (hs.blk (b := b61) (by repeat first | exact .head _ | refine .tail _ ?_))) (Blk.rdI (c := 5) (hs.blk (b := b62) (by repeat first | exact .head _ | refine .tail _ ?_))) (by decide) (by decide); rw [aw_fol] at this; exact this
            (refine qf_pure tabOk rfl rfl rfl ?_; (iterate 2 refine qf_ext tabOk rfl rfl rfl ?_); refine qf_setA tabOk rfl rfl rfl rfl rfl (by repeat constructor) rfl ?_; refine qf_pure tabOk rfl rfl rfl ?_; refine qf_nil ?_)
            skip
            exact hK1 _ _ (qt_nil (hK2 b19 _ _ ⟨rfl, rfl, rfl, rfl, rfl, rfl, rfl, rfl, rfl, rfl, trivial⟩ (by repeat (first | exact Sp.nil | exact Sp.refl _ | refine Sp.cons (by repeat constructor) ?_))))
        · skip
          refine qt_seg (by repeat (first | exact PickL.nil | (apply PickL.cons; rfl))) fun K1 hK1 => ?_
          refine qf_alloc zero55 rfl (fun b19 => ?_)
          skip
          refine qf_mkS 3 (ints [1, 1, 1, 1, 1]) rfl (by kernel_rfl) rfl (fun b61 => ?_)
          skip
          refine qf_callv (val := .tuple #[.agg #[.int .i64 (0), .int .i64 (20), .int .i64 (5)], .int .i64 (0)]) tabOk rfl rfl rfl rfl (fun w hs => ?_) ?_
          · have := follow_ca w 0 w.heap.size 0 w.heap.size cs twoR ruA _ _ [1, 1, 1, 1, 1] [0, 0, 0, 0, 1] (ho.at hs (by repeat first | exact .head _ | refine .tail _ ?_)) two_small (Blk.rdI (c := 5) (hs.blk (b := b61) (by repeat first | exact .head _ | refine .tail _ ?_))) (Blk.rdI (c := 5) (hs.blk (b := b62) (by repeat first | exact .head _ | refine .tail _ ?_))) (by decide) (by decide); rw [aw_fol] at this; exact this
          (refine qf_pure tabOk rfl rfl rfl ?_; (iterate 2 refine qf_ext tabOk rfl rfl rfl ?_); refine qf_setA tabOk rfl rfl rfl rfl rfl (by repeat constructor) rfl ?_; refine qf_pure tabOk rfl rfl rfl ?_; refine qf_nil ?_)
          skip
          exact hK1 _ _ (qt_nil (hK2 b19 _ _ ⟨rfl, rfl, rfl, rfl, rfl, rfl, rfl, rfl, rfl, rfl, trivial⟩ (by repeat (first | exact Sp.nil | exact Sp.refl _ | refine Sp.cons (by repeat constructor) ?_))))
      · skip
        refine qt_seg (by repeat (first | exact PickL.nil | (apply PickL.cons; rfl))) fun K1 hK1 => ?_
        refine qf_mkS 3 (ints [1, 1, 1, 1, 1]) rfl (by kernel_rfl) rfl (fun b61 => ?_)
        (refine qf_nil ?_)
        refine hK1 _ _ ?_
        refine qt_alt ?_ ?_
        · skip
          refine qt_seg (by repeat (first | exact PickL.nil | (apply PickL.cons; rfl))) fun K1 hK1 => ?_
          refine qf_call (β := List Ck × List Value) tabOk [] _ M0 rfl rfl rfl rfl (Sp.refl _) (fun _ h => h.elim) (fun w' hs => two_ca w') ?_
          rintro ⟨L, cs⟩ _ ⟨rfl, ho⟩
          (refine qf_loadAB tabOk rfl rfl rfl (by repeat first | exact .head _ | refine .tail _ ?_) (by rfl) (by rfl) ?_; refine qf_nil ?_)
          refine hK1 _ _ ?_
          refine qt_alt ?_ ?_
          · skip
            refine qt_seg (by repeat (first | exact PickL.nil | (apply PickL.cons; rfl))) fun K1 hK1 => ?_
            refine qf_callv (val := .tuple #[.agg #[.int .i64 (0), .int .i64 (20), .int .i64 (5)], .int .i64 (0)]) tabOk rfl rfl rfl rfl (fun w hs => ?_) ?_
            · have := follow_ca w 0 w.heap.size 0 w.heap.size cs twoR ruA _ _ [1, 1, 1, 1, 1] [0, 0, 0, 0, 1] (ho.at hs (by repeat first | exact .head _ | refine .tail _ ?_)) two_small (Blk.rdI (c := 5) (hs.blk (b := b61) (by repeat first | exact .head _ | refine .tail _ ?_))) (Blk.rdI (c := 5) (hs.blk (b := b62) (by repeat first | exact .head _ | refine .tail _ ?_))) (by decide) (by decide); rw [aw_fol] at this; exact this
            (refine qf_pure tabOk rfl rfl rfl ?_; (iterate 2 refine qf_ext tabOk rfl rfl rfl ?_))
            refine qf_alloc zero55 rfl (fun b19 => ?_)
            (refine qf_setA tabOk rfl rfl rfl rfl rfl (by repeat constructor) rfl ?_; refine qf_pure tabOk rfl rfl rfl ?_; refine qf_nil ?_)
            skip
            exact hK1 _ _ (qt_nil (hK2 b19 _ _ ⟨rfl, rfl, rfl, rfl, rfl, rfl, rfl, rfl, rfl, rfl, trivial⟩ (by repeat (first | exact Sp.nil | exact Sp.refl _ | refine Sp.cons (by repeat constructor) ?_))))
          · skip
            refine qt_seg (by repeat (first | exact PickL.nil | (apply PickL.cons; rfl))) fun K1 hK1 => ?_
            refine qf_alloc zero55 rfl (fun b19 => ?_)
            skip
            refine qf_callv (val := .tuple #[.agg #[.int .i64 (0), .int .i64 (20), .int .i64 (5)], .int .i64 (0)]) tabOk rfl rfl rfl rfl (fun w hs => ?_) ?_
            · have := follow_ca w 0 w.heap.size 0 w.heap.size cs twoR ruA _ _ [1, 1, 1, 1, 1] [0, 0, 0, 0, 1] (ho.at hs (by repeat first | exact .head _ | refine .tail _ ?_)) two_small (Blk.rdI (c := 5) (hs.blk (b := b61) (by repeat first | exact .head _ | refine .tail _ ?_))) (Blk.rdI (c := 5) (hs.blk (b := b62) (by repeat first | exact .head _ | refine .tail _ ?_))) (by decide) (by decide); rw [aw_fol] at this; exact this
            (refine qf_pure tabOk rfl rfl rfl ?_; (iterate 2 refine qf_ext tabOk rfl rfl rfl ?_); refine qf_setA tabOk rfl rfl rfl rfl rfl (by repeat constructor) rfl ?_; refine qf_pure tabOk rfl rfl rfl ?_; refine qf_nil ?_)
            skip
            exact hK1 _ _ (qt_nil (hK2 b19 _ _ ⟨rfl, rfl, rfl, rfl, rfl, rfl, rfl, rfl, rfl, rfl, trivial⟩ (by repeat (first | exact Sp.nil | exact Sp.refl _ | refine Sp.cons (by repeat constructor) ?_))))
        · skip
          refine qt_seg (by repeat (first | exact PickL.nil | (apply PickL.cons; rfl))) fun K1 hK1 => ?_
          refine qf_alloc zero55 rfl (fun b19 => ?_)
          skip
          refine qf_call (β := List Ck × List Value) tabOk [] _ M0 rfl rfl rfl rfl (Sp.refl _) (fun _ h => h.elim) (fun w' hs => two_ca w') ?_
          rintro ⟨L, cs⟩ _ ⟨rfl, ho⟩
          (refine qf_loadAB tabOk rfl rfl rfl (by repeat first | exact .head _ | refine .tail _ ?_) (by rfl) (by rfl) ?_)
          refine qf_callv (val := .tuple #[.agg #[.int .i64 (0), .int .i64 (20), .int .i64 (5)], .int .i64 (0)]) tabOk rfl rfl rfl rfl (fun w hs => ?_) ?_
          · have := follow_ca w 0 w.heap.size 0 w.heap.size cs twoR ruA _ _ [1, 1, 1, 1, 1] [0, 0, 0, 0, 1] (ho.at hs (by repeat first | exact .head _ | refine .tail _ ?_)) two_small (Blk.rdI (c := 5) (hs.blk (b := b61) (by repeat first | exact .head _ | refine .tail _ ?_))) (Blk.rdI (c := 5) (hs.blk (b := b62) (by repeat first | exact .head _ | refine .tail _ ?_))) (by decide) (by decide); rw [aw_fol] at this; exact this
          (refine qf_pure tabOk rfl rfl rfl ?_; (iterate 2 refine qf_ext tabOk rfl rfl rfl ?_); refine qf_setA tabOk rfl rfl rfl rfl rfl (by repeat constructor) rfl ?_; refine qf_pure tabOk rfl rfl rfl ?_; refine qf_nil ?_)
          skip
          exact hK1 _ _ (qt_nil (hK2 b19 _ _ ⟨rfl, rfl, rfl, rfl, rfl, rfl, rfl, rfl, rfl, rfl, trivial⟩ (by repeat (first | exact Sp.nil | exact Sp.refl _ | refine Sp.cons (by repeat constructor) ?_))))
      · skip
        refine qt_seg (by repeat (first | exact PickL.nil | (apply PickL.cons; rfl))) fun K1 hK1 => ?_
        refine qf_alloc zero55 rfl (fun b19 => ?_)
        (refine qf_nil ?_)
        refine hK1 _ _ ?_
        refine qt_alt ?_ ?_
        · skip
          refine qt_seg (by repeat (first | exact PickL.nil | (apply PickL.cons; rfl))) fun K1 hK1 => ?_
          refine qf_call (β := List Ck × List Value) tabOk [] _ M0 rfl rfl rfl rfl (Sp.refl _) (fun _ h => h.elim) (fun w' hs => two_ca w') ?_
          rintro ⟨L, cs⟩ _ ⟨rfl, ho⟩
          (refine qf_loadAB tabOk rfl rfl rfl (by repeat first | exact .head _ | refine .tail _ ?_) (by rfl) (by rfl) ?_)
          refine qf_mkS 3 (ints [1, 1, 1, 1, 1]) rfl (by kernel_rfl) rfl (fun b61 => ?_)
          skip
          refine qf_callv (val := .tuple #[.agg #[.int .i64 (0), .int .i64 (20), .int .i64 (5)], .int .i64 (0)]) tabOk rfl rfl rfl rfl (fun w hs => ?_) ?_
          · have := follow_ca w 0 w.heap.size 0 w.heap.size cs twoR ruA _ _ [1, 1, 1, 1, 1] [0, 0, 0, 0, 1] (ho.at hs (by repeat first | exact .head _ | refine .tail _ ?_)) two_small (Blk.rdI (c := 5) (hs.blk (b := b61) (by repeat first | exact .head _ | refine .tail _ ?_))) (Blk.rdI (c := 5) (hs.blk (b := b62) (by repeat first | exact .head _ | refine .tail _ ?_))) (by decide) (by decide); rw [aw_fol] at this; exact this
          (refine qf_pure tabOk rfl rfl rfl ?_; (iterate 2 refine qf_ext tabOk rfl rfl rfl ?_); refine qf_setA tabOk rfl rfl rfl rfl rfl (by repeat constructor) rfl ?_; refine qf_pure tabOk rfl rfl rfl ?_; refine qf_nil ?_)
          skip
          exact hK1 _ _ (qt_nil (hK2 b19 _ _ ⟨rfl, rfl, rfl, rfl, rfl, rfl, rfl, rfl, rfl, rfl, trivial⟩ (by repeat (first | exact Sp.nil | exact Sp.refl _ | refine Sp.cons (by repeat constructor) ?_))))
        · skip
          refine qt_seg (by repeat (first | exact PickL.nil | (apply PickL.cons; rfl))) fun K1 hK1 => ?_
          refine qf_mkS 3 (ints [1, 1, 1, 1, 1]) rfl (by kernel_rfl) rfl (fun b61 => ?_)
          skip
          refine qf_call (β := List Ck × List Value) tabOk [] _ M0 rfl rfl rfl rfl (Sp.refl _) (fun _ h => h.elim) (fun w' hs => two_ca w') ?_
          rintro ⟨L, cs⟩ _ ⟨rfl, ho⟩
          (refine qf_loadAB tabOk rfl rfl rfl (by repeat first | exact .head _ | refine .tail _ ?_) (by rfl) (by rfl) ?_)
          refine qf_callv (val := .tuple #[.agg #[.int .i64 (0), .int .i64 (20), .int .i64 (5)], .int .i64 (0)]) tabOk rfl rfl rfl rfl (fun w hs => ?_) ?_
          · have := follow_ca w 0 w.heap.size 0 w.heap.size cs twoR ruA _ _ [1, 1, 1, 1, 1] [0, 0, 0, 0, 1] (ho.at hs (by repeat first | exact .head _ | refine .tail _ ?_)) two_small (Blk.rdI (c := 5) (hs.blk (b := b61) (by repeat first | exact .head _ | refine .tail _ ?_))) (Blk.rdI (c := 5) (hs.blk (b := b62) (by repeat first | exact .head _ | refine .tail _ ?_))) (by decide) (by decide); rw [aw_fol] at this; exact this
          (refine qf_pure tabOk rfl rfl rfl ?_; (iterate 2 refine qf_ext tabOk rfl rfl rfl ?_); refine qf_setA tabOk rfl rfl rfl rfl rfl (by repeat constructor) rfl ?_; refine qf_pure tabOk rfl rfl rfl ?_; refine qf_nil ?_)
          skip
          exact hK1 _ _ (qt_nil (hK2 b19 _ _ ⟨rfl, rfl, rfl, rfl, rfl, rfl, rfl, rfl, rfl, rfl, trivial⟩ (by repeat (first | exact Sp.nil | exact Sp.refl _ | refine Sp.cons (by repeat constructor) ?_))))
    · skip
      refine qt_seg (by repeat (first | exact PickL.nil | (apply PickL.cons; rfl))) fun K1 hK1 => ?_
      refine qf_alloc zero55 rfl (fun b19 => ?_)
      (refine qf_nil ?_)
      refine hK1 _ _ ?_
      refine qt_alt ?_ (qt_alt ?_ ?_)
      · skip
        refine qt_seg (by repeat (first | exact PickL.nil | (apply PickL.cons; rfl))) fun K1 hK1 => ?_
        refine qf_call (β := List Ck × List Value) tabOk [] _ M0 rfl rfl rfl rfl (Sp.refl _) (fun _ h => h.elim) (fun w' hs => two_ca w') ?_
        rintro ⟨L, cs⟩ _ ⟨rfl, ho⟩
        (refine qf_loadAB tabOk rfl rfl rfl (by repeat first | exact .head _ | refine .tail _ ?_) (by rfl) (by rfl) ?_; refine qf_nil ?_)
        refine hK1 _ _ ?_
        refine qt_alt ?_ ?_
        · skip
          refine qt_seg (by repeat (first | exact PickL.nil | (apply PickL.cons; rfl))) fun K1 hK1 => ?_
          refine qf_mkS 3 (ints [1, 1, 1, 1, 1]) rfl (by kernel_rfl) rfl (fun b61 => ?_)
          skip
          refine qf_mkS 3 (ints [0, 0, 0, 0, 1]) rfl (by kernel_rfl) rfl (fun b62 => ?_)
          skip
          refine qf_callv (val := .tuple #[.agg #[.int .i64 (0), .int .i64 (20), .int .i64 (5)], .int .i64 (0)]) tabOk rfl rfl rfl rfl (fun w hs => ?_) ?_
          · have := follow_ca w 0 w.heap.size 0 w.heap.size cs twoR ruA _ _ [1, 1, 1, 1, 1] [0, 0, 0, 0, 1] (ho.at hs (by repeat first | exact .head _ | refine .tail _ ?_)) two_small (Blk.rdI (c := 5) (hs.blk (b := b61) (by repeat first | exact .head _ | refine .tail _ ?_))) (Blk.rdI (c := 5) (hs.blk (b := b62) (by repeat first | exact .head _ | refine .tail _ ?_))) (by decide) (by decide); rw [aw_fol] at this; exact this
          (refine qf_pure tabOk rfl rfl rfl ?_; (iterate 2 refine qf_ext tabOk rfl rfl rfl ?_); refine qf_setA tabOk rfl rfl rfl rfl rfl (by repeat constructor) rfl ?_; refine qf_pure tabOk rfl rfl rfl ?_; refine qf_nil ?_)
          skip
          exact hK1 _ _ (qt_nil (hK2 b19 _ _ ⟨rfl, rfl, rfl, rfl, rfl, rfl, rfl, rfl, rfl, rfl, trivial⟩ (by repeat (first | exact Sp.nil | exact Sp.refl _ | refine Sp.cons (by repeat constructor) ?_))))
        · skip
          refine qt_seg (by repeat (first | exact PickL.nil | (apply PickL.cons; rfl))) fun K1 hK1 => ?_
          refine qf_mkS 3 (ints [0, 0, 0, 0, 1]) rfl (by kernel_rfl) rfl (fun b62 => ?_)
          skip
          refine qf_mkS 3 (ints [1, 1, 1, 1, 1]) rfl (by kernel_rfl) rfl (fun b61 => ?_)
          skip
          refine qf_callv (val := .tuple #[.agg #[.int .i64 (0), .int .i64 (20), .int .i64 (5)], .int .i64 (0)]) tabOk rfl rfl rfl rfl (fun w hs => ?_) ?_
          · have := follow_ca w 0 w.heap.size 0 w.heap.size cs twoR ruA _ _ [1, 1, 1, 1, 1] [0, 0, 0, 0, 1] (ho.at hs (by repeat first | exact .head _ | refine .tail _ ?_)) two_small (Blk.rdI (c := 5) (hs.blk (b := b61) (by repeat first | exact .head _ | refine .tail _ ?_))) (Blk.rdI (c := 5) (hs.blk (b := b62) (by repeat first | exact .head _ | refine .tail _ ?_))) (by decide) (by decide); rw [aw_fol] at this; exact this
          (refine qf_pure tabOk rfl rfl rfl ?_; (iterate 2 refine qf_ext tabOk rfl rfl rfl ?_); refine qf_setA tabOk rfl rfl rfl rfl rfl (by repeat constructor) rfl ?_; refine qf_pure tabOk rfl rfl rfl ?_; refine qf_nil ?_)
          skip
          exact hK1 _ _ (qt_nil (hK2 b19 _ _ ⟨rfl, rfl, rfl, rfl, rfl, rfl, rfl, rfl, rfl, rfl, trivial⟩ (by repeat (first | exact Sp.nil | exact Sp.refl _ | refine Sp.cons (by repeat constructor) ?_))))
      · skip
        refine qt_seg (by repeat (first | exact PickL.nil | (apply PickL.cons; rfl))) fun K1 hK1 => ?_
        refine qf_mkS 3 (ints [1, 1, 1, 1, 1]) rfl (by kernel_rfl) rfl (fun b61 => ?_)
        (refine qf_nil ?_)
        refine hK1 _ _ ?_
        refine qt_alt ?_ ?_
        · skip
          refine qt_seg (by repeat (first | exact PickL.nil | (apply PickL.cons; rfl))) fun K1 hK1 => ?_
          refine qf_call (β := List Ck × List Value) tabOk [] _ M0 rfl rfl rfl rfl (Sp.refl _) (fun _ h => h.elim) (fun w' hs => two_ca w') ?_
          rintro ⟨L, cs⟩ _ ⟨rfl, ho⟩
          (refine qf_loadAB tabOk rfl rfl rfl (by repeat first | exact .head _ | refine .tail _ ?_) (by rfl) (by rfl) ?_)
          refine qf_mkS 3 (ints [0, 0, 0, 0, 1]) rfl (by kernel_rfl) rfl (fun b62 => ?_)
          skip
          refine qf_callv (val := .tuple #[.agg #[.int .i64 (0), .int .i64 (20), .int .i64 (5)], .int .i64 (0)]) tabOk rfl rfl rfl rfl (fun w hs => ?_) ?_
          · have := follow_ca w 0 w.heap.size 0 w.heap.size cs twoR ruA _ _ [1, 1, 1, 1, 1] [0, 0, 0, 0, 1] (ho.at hs (by repeat first | exact .head _ | refine .tail _ ?_)) two_small (Blk.rdI (c := 5) (hs.blk (b := b61) (by repeat first | exact .head _ | refine .tail _ ?_))) (Blk.rdI (c := 5) (hs.blk (b := b62) (by repeat first | exact .head _ | refine .tail _ ?_))) (by decide) (by decide); rw [aw_fol] at this; exact this
          (refine qf_pure tabOk rfl rfl rfl ?_; (iterate 2 refine qf_ext tabOk rfl rfl rfl ?_); refine qf_setA tabOk rfl rfl rfl rfl rfl (by repeat constructor) rfl ?_; refine qf_pure tabOk rfl rfl rfl ?_; refine qf_nil ?_)
          skip
          exact hK1 _ _ (qt_nil (hK2 b19 _ _ ⟨rfl, rfl, rfl, rfl, rfl, rfl, rfl, rfl, rfl, rfl, trivial⟩ (by repeat (first | exact Sp.nil | exact Sp.refl _ | refine Sp.cons (by repeat constructor) ?_))))
        · skip
          refine qt_seg (by repeat (first | exact PickL.nil | (apply PickL.cons; rfl))) fun K1 hK1 => ?_
          refine qf_mkS 3 (ints [0, 0, 0, 0, 1]) rfl (by kernel_rfl) rfl (fun b62 => ?_)
          skip
          refine qf_call (β := List Ck × List Value) tabOk [] _ M0 rfl rfl rfl rfl (Sp.refl _) (fun _ h => h.elim) (fun w' hs => two_ca w') ?_
          rintro ⟨L, cs⟩ _ ⟨rfl, ho⟩
          (refine qf_loadAB tabOk rfl rfl rfl (by repeat first | exact .head _ | refine .tail _ ?_) (by rfl) (by rfl) ?_)
          refine qf_callv (val := .tuple #[.agg #[.int .i64 (0), .int .i64 (20), .int .i64 (5)], .int .i64 (0)]) tabOk rfl rfl rfl rfl (fun w hs => ?_) ?_
          · have := follow_ca w 0 w.heap.size 0 w.heap.size cs twoR ruA _ _ [1, 1, 1, 1, 1] [0, 0, 0, 0, 1] (ho.at hs (by repeat first | exact .head _ | refine .tail _ ?_)) two_small (Blk.rdI (c := 5) (hs.blk (b := b61) (by repeat first | exact .head _ | refine .tail _ ?_))) (Blk.rdI (c := 5) (hs.blk (b := b62) (by repeat first | exact .head _ | refine .tail _ ?_))) (by decide) (by decide); rw [aw_fol] at this; exact this
          (refine qf_pure tabOk rfl rfl rfl ?_; (iterate 2 refine qf_ext tabOk rfl rfl rfl ?_); refine qf_setA tabOk rfl rfl rfl rfl rfl (by repeat constructor) rfl ?_; refine qf_pure tabOk rfl rfl rfl ?_; refine qf_nil ?_)
          skip
          exact hK1 _ _ (qt_nil (hK2 b19 _ _ ⟨rfl, rfl, rfl, rfl, rfl, rfl, rfl, rfl, rfl, rfl, trivial⟩ (by repeat (first | exact Sp.nil | exact Sp.refl _ | refine Sp.cons (by repeat constructor) ?_))))
      · skip
        refine qt_seg (by repeat (first | exact PickL.nil | (apply PickL.cons; rfl))) fun K1 hK1 => ?_
        refine qf_mkS 3 (ints [0, 0, 0, 0, 1]) rfl (by kernel_rfl) rfl (fun b62 => ?_)
        (refine qf_nil ?_)
        refine hK1 _ _ ?_
        refine qt_alt ?_ ?_
        · skip
          refine qt_seg (by repeat (first | exact PickL.nil | (apply PickL.cons; rfl))) fun K1 hK1 => ?_
          refine qf_call (β := List Ck × List Value) tabOk [] _ M0 rfl rfl rfl rfl (Sp.refl _) (fun _ h => h.elim) (fun w' hs => two_ca w') ?_
          rintro ⟨L, cs⟩ _ ⟨rfl, ho⟩
          (refine qf_loadAB tabOk rfl rfl rfl (by repeat first | exact .head _ | refine .tail _ ?_) (by rfl) (by rfl) ?_)
          refine qf_mkS 3 (ints [1, 1, 1, 1, 1]) rfl (by kernel_rfl) rfl (fun b61 => ?_)
          skip
          refine qf_callv (val := .tuple #[.agg #[.int .i64 (0), .int .i64 (20), .int .i64 (5)], .int .i64 (0)]) tabOk rfl rfl rfl rfl (fun w hs => ?_) ?_
          · have := follow_ca w 0 w.heap.size 0 w.heap.size cs twoR ruA _ _ [1, 1, 1, 1, 1] [0, 0, 0, 0, 1] (ho.at hs (by repeat first | exact .head _ | refine .tail _ ?_)) two_small (Blk.rdI (c := 5) (hs.blk (b := b61) (by repeat first | exact .head _ | refine .tail _ ?_))) (Blk.rdI (c := 5) (hs.blk (b := b62) (by repeat first | exact .head _ | refine .tail _ ?_))) (by decide) (by decide); rw [aw_fol] at this; exact this
          (refine qf_pure tabOk rfl rfl rfl ?_; (iterate 2 refine qf_ext tabOk rfl rfl rfl ?_); refine qf_setA tabOk rfl rfl rfl rfl rfl (by repeat constructor) rfl ?_; refine qf_pure tabOk rfl rfl rfl ?_; refine qf_nil ?_)
          skip
          exact hK1 _ _ (qt_nil (hK2 b19 _ _ ⟨rfl, rfl, rfl, rfl, rfl, rfl, rfl, rfl, rfl, rfl, trivial⟩ (by repeat (first | exact Sp.nil | exact Sp.refl _ | refine Sp.cons (by repeat constructor) ?_))))
        · skip
          refine qt_seg (by repeat (first | exact PickL.nil | (apply PickL.cons; rfl))) fun K1 hK1 => ?_
          refine qf_mkS 3 (ints [1, 1, 1, 1, 1]) rfl (by kernel_rfl) rfl (fun b61 => ?_)
          skip
          refine qf_call (β := List Ck × List Value) tabOk [] _ M0 rfl rfl rfl rfl (Sp.refl _) (fun _ h => h.elim) (fun w' hs => two_ca w') ?_
          rintro ⟨L, cs⟩ _ ⟨rfl, ho⟩
          (refine qf_loadAB tabOk rfl rfl rfl (by repeat first | exact .head _ | refine .tail _ ?_) (by rfl) (by rfl) ?_)
          refine qf_callv (val := .tuple #[.agg #[.int .i64 (0), .int .i64 (20), .int .i64 (5)], .int .i64 (0)]) tabOk rfl rfl rfl rfl (fun w hs => ?_) ?_
          · have := follow_ca w 0 w.heap.size 0 w.heap.size cs twoR ruA _ _ [1, 1, 1, 1, 1] [0, 0, 0, 0, 1] (ho.at hs (by repeat first | exact .head _ | refine .tail _ ?_)) two_small (Blk.rdI (c := 5) (hs.blk (b := b61) (by repeat first | exact .head _ | refine .tail _ ?_))) (Blk.rdI (c := 5) (hs.blk (b := b62) (by repeat first | exact .head _ | refine .tail _ ?_))) (by decide) (by decide); rw [aw_fol] at this; exact this
          (refine qf_pure tabOk rfl rfl rfl ?_; (iterate 2 refine qf_ext tabOk rfl rfl rfl ?_); refine qf_setA tabOk rfl rfl rfl rfl rfl (by repeat constructor) rfl ?_; refine qf_pure tabOk rfl rfl rfl ?_; refine qf_nil ?_)
          skip
          exact hK1 _ _ (qt_nil (hK2 b19 _ _ ⟨rfl, rfl, rfl, rfl, rfl, rfl, rfl, rfl, rfl, rfl, trivial⟩ (by repeat (first | exact Sp.nil | exact Sp.refl _ | refine Sp.cons (by repeat constructor) ?_))))
  intro b19
  (refine q_seq ?_; refine q_region ?_)
  refine ql_mk #[.int .i64 10, .int .i64 20] rfl (by kernel_rfl) rfl ?_
  refine ql_mk #[.int .i64 (-5), .int .i64 5] rfl (by kernel_rfl) rfl ?_
  refine ql_mkS 64 [.int .i64 10, .int .i64 20, .int .i64 (-5), .int .i64 5] rfl (by kernel_rfl) rfl (fun b71 => ?_)
  refine ql_mkS 3 (ints [3, 1]) rfl (by kernel_rfl) rfl (fun b72 => ?_)
  refine ql_callv (val := .tuple #[.agg #[.int .i64 25, .int .i64 65], .int .i64 0]) tabOk rfl rfl rfl rfl (fun w hs => ?_) ?_; exact by have := driftF_ca w 0 w.heap.size 0 w.heap.size _ _ [(10, 20), (-5, 5)] [3, 1] (Blk.rdS (c := 2) (hs.blk (b := b71) (by repeat first | exact .head _ | refine .tail _ ?_)) rfl) (by decide) (Blk.rdI (c := 2) (hs.blk (b := b72) (by repeat first | exact .head _ | refine .tail _ ?_))) (by decide); rw [aw_drift] at this; exact this
  (refine ql_pure tabOk rfl rfl ?_; (iterate 2 refine ql_ext tabOk rfl rfl rfl ?_))
  refine ql_alloc zero64 rfl (fun b20 => ?_)
  (refine ql_setA tabOk rfl rfl rfl rfl rfl (by repeat constructor) rfl ?_; refine ql_pure tabOk rfl rfl ?_; refine q_nil ?_; refine q_seq ?_; refine q_region ?_; (iterate 3 refine ql_pure tabOk rfl rfl ?_); refine ql_gyes rfl ?_; refine ql_pure tabOk rfl rfl ?_; refine ql_gyes rfl ?_; (iterate 3 refine ql_pure tabOk rfl rfl ?_); refine ql_gyes rfl ?_; refine ql_pure tabOk rfl rfl ?_; refine ql_gyes rfl ?_; (iterate 3 refine ql_pure tabOk rfl rfl ?_); refine ql_gyes rfl ?_; refine ql_pure tabOk rfl rfl ?_; refine ql_gyes rfl ?_; (iterate 3 refine ql_pure tabOk rfl rfl ?_); refine ql_gyes rfl ?_; refine ql_pure tabOk rfl rfl ?_; refine ql_gyes rfl ?_; (iterate 3 refine ql_pure tabOk rfl rfl ?_); refine ql_gyes rfl ?_; refine ql_pure tabOk rfl rfl ?_; refine ql_gyes rfl ?_; (iterate 3 refine ql_pure tabOk rfl rfl ?_); refine ql_gyes rfl ?_; refine ql_pure tabOk rfl rfl ?_; refine ql_gyes rfl ?_; refine ql_pure tabOk rfl rfl ?_; refine ql_gyes rfl ?_; (iterate 3 refine ql_pure tabOk rfl rfl ?_); refine ql_gyes rfl ?_; refine ql_loadAB tabOk rfl rfl rfl (by repeat first | exact .head _ | refine .tail _ ?_) (by rfl) (by rfl) ?_; refine ql_gyes rfl ?_)
  refine ql_mk #[.int .i64 10, .int .i64 1] rfl (by kernel_rfl) rfl ?_
  (refine ql_gyes rfl ?_)
  refine ql_eqF (xs := [.int .i64 10, .int .i64 1]) (ys := [.int .i64 10, .int .i64 1]) [some .i64, some .i64] rat_flat rfl rfl rfl rfl rfl ?_
  ((iterate 2 refine ql_pure tabOk rfl rfl ?_); refine ql_gyes rfl ?_; refine ql_loadAB tabOk rfl rfl rfl (by repeat first | exact .head _ | refine .tail _ ?_) (by rfl) (by rfl) ?_; refine ql_gyes rfl ?_)
  refine ql_mk #[.bool false, .int .i64 (-1)] rfl (by kernel_rfl) rfl ?_
  (refine ql_gyes rfl ?_)
  refine ql_eqF (xs := [.bool false, .int .i64 (-1)]) (ys := [.bool false, .int .i64 (-1)]) [none, some .i64] chc_flat rfl rfl rfl rfl rfl ?_
  ((iterate 2 refine ql_pure tabOk rfl rfl ?_); refine ql_gyes rfl ?_; refine ql_loadAB tabOk rfl rfl rfl (by repeat first | exact .head _ | refine .tail _ ?_) (by rfl) (by rfl) ?_; refine ql_gyes rfl ?_)
  refine ql_mk #[.bool true, .int .i64 0] rfl (by kernel_rfl) rfl ?_
  (refine ql_gyes rfl ?_)
  refine ql_eqF (xs := [.bool true, .int .i64 0]) (ys := [.bool true, .int .i64 0]) [none, some .i64] chc_flat rfl rfl rfl rfl rfl ?_
  ((iterate 2 refine ql_pure tabOk rfl rfl ?_); refine ql_gyes rfl ?_; refine ql_loadAB tabOk rfl rfl rfl (by repeat first | exact .head _ | refine .tail _ ?_) (by rfl) (by rfl) ?_; refine ql_gyes rfl ?_)
  refine ql_mk #[.int .i64 0, .int .i64 20, .int .i64 5] rfl (by kernel_rfl) rfl ?_
  (refine ql_gyes rfl ?_)
  refine ql_eqF (xs := [.int .i64 0, .int .i64 20, .int .i64 5]) (ys := [.int .i64 0, .int .i64 20, .int .i64 5]) [some .i64, some .i64, some .i64] ply_flat rfl rfl rfl rfl rfl ?_
  ((iterate 2 refine ql_pure tabOk rfl rfl ?_); refine ql_gyes rfl ?_; refine ql_loadAB tabOk rfl rfl rfl (by repeat first | exact .head _ | refine .tail _ ?_) (by rfl) (by rfl) ?_; refine ql_gyes rfl ?_)
  refine ql_mk #[.int .i64 25, .int .i64 65] rfl (by kernel_rfl) rfl ?_
  (refine ql_gyes rfl ?_)
  refine ql_eqF (xs := [.int .i64 25, .int .i64 65]) (ys := [.int .i64 25, .int .i64 65]) [some .i64, some .i64] spn_flat rfl rfl rfl rfl rfl ?_
  ((iterate 2 refine ql_pure tabOk rfl rfl ?_); refine q_nil ?_; refine q_ret ?_)
  refine q_fin tabOk rfl (by repeat (first | exact RVs.nil | apply RVs.tmp rfl | apply RVs.cellA rfl rfl (by repeat first | exact .head _ | refine .tail _ ?_) (by rfl) | apply RVs.cell1 rfl rfl (by repeat first | exact .head _ | refine .tail _ ?_))) fun w hs => ?_
  exact ⟨rfl, hs.chg0⟩

end Go.Proofs.Ytohlillcaadidaa

/- Walks: klisterkit's deck. Only the ranges of what it deals are told. -/
namespace Go.Proofs.Ytohlillcaadidaa
open Go Go.Eng
attribute [local irreducible] IntKind.wrap Int.tmod Int.tdiv

/-- The deck's own variable, after at most K cards. -/
def DkS (w : World) (b : Nat) (bs : Value) (K : Nat) : Prop :=
  ∃ next st, Blk w b [bs, .int .i64 next, .int .u32 st] 156 ∧ 0 ≤ next ∧ next ≤ K ∧ 0 ≤ st ∧ st < 4294967296
/-- Its bytes. -/
def DkB (w : World) (lo hi : Nat) (bs : Value) : Prop := ∃ nb cs, Rd w lo hi bs 1 nb cs ∧ (∀ c ∈ cs, ∃ x, c = .int .u8 x ∧ 0 ≤ x ∧ x < 256)
theorem DkB.keep {w w' : World} {lo hi : Nat} {bs : Value} (h : DkB w lo hi bs) (c : Chg [] w w') : DkB w' lo hi bs := by
  obtain ⟨nb, cs, h1, h2⟩ := h
  exact ⟨nb, cs, h1.keep c, h2⟩

set_option maxHeartbeats 1000000 in
theorem draw_ca (n : Int) (K : Nat) (hK : K < 4611686018427387904) (w : World) (b lo hi : Nat) (bs : Value) (hby : DkB w lo hi bs) (hlh : hi ≤ b) (hd : DkS w b bs K) :
    Ca Try.prog 41 [.pointer (some ⟨b, 0, none⟩), .int .i64 n] w fun v w' => ∃ r, v = .int .i64 r ∧ 0 ≤ r ∧ (r < n ∨ r = 0) ∧ Chg [b] w w' ∧ w'.heap.size = w.heap.size ∧ DkS w' b bs (K + 1) := by
  obtain ⟨nb, cs, hrd, hcs⟩ := hby
  obtain ⟨next, st, hb, hn0, hnK, hs0, hs1⟩ := hd
  have hd : DkS w b bs (K + 1) := ⟨next, st, hb, hn0, by omega, hs0, hs1⟩
  obtain ⟨a, cap, rfl, hsl⟩ := hrd.out
  refine ca_of Try.func41 rfl (by simp [Try.ntmps41]) ?_
  (refine y_seq ?_; refine y_region ?_; refine yl_pure tabOk rfl rfl ?_; (iterate 2 refine y_seq ?_); refine y_region ?_; (iterate 3 refine yl_pure tabOk rfl rfl ?_))
  refine yl_split rfl rfl (fun hc => ?_) (fun hc => ?_)
  · ((iterate 6 refine yl_guard_no rfl rfl rfl ?_); refine yl_pure tabOk rfl rfl ?_; refine y_cond_true rfl ?_; refine y_seq ?_; refine y_region ?_; refine yl_pure tabOk rfl rfl ?_; refine y_ret ?_)
    exact y_fin1 rfl rfl ⟨0, rfl, by omega, .inr rfl, Chg.refl _ _, rfl, hd⟩
  (refine yl_guard_yes rfl ?_; refine yl_pure tabOk rfl rfl ?_; refine yl_guard_yes rfl ?_; refine yl_pure tabOk rfl rfl ?_; refine yl_guard_yes rfl ?_; refine yl_pure tabOk rfl rfl ?_; refine yl_guard_yes rfl ?_; refine yl_loadB tabOk rfl rfl rfl (by assumption) (by rfl) ?_; refine yl_guard_yes rfl ?_; refine yl_pure tabOk rfl rfl ?_; refine yl_guard_yes rfl ?_; (iterate 2 refine yl_pure tabOk rfl rfl ?_); refine yl_nil ?_)
  have hn := of_decide_eq_false hc
  refine y_if rfl (fun hc => ?_) (fun hc => ?_)
  · (refine y_seq ?_; refine y_region ?_; refine yl_pure tabOk rfl rfl ?_; refine y_ret ?_)
    exact y_fin1 rfl rfl ⟨0, rfl, by omega, .inr rfl, Chg.refl _ _, rfl, hd⟩
  have hnb : 0 < nb := by omega
  obtain ⟨bb, off, rfl, hcell⟩ := hsl hnb
  (refine y_skip ?_; refine y_seq ?_)
  refine y_draw [] (by kernel_rfl) (by kernel_rfl) (fun w1 hc1 hs1 => ?_)
  have hb1 := hb.keep hc1
  ((iterate 3 refine yf_pure tabOk rfl rfl rfl ?_); refine yf_loadB tabOk rfl rfl rfl (by assumption) (by first | assumption | simp) (by rfl) ?_; (iterate 3 refine yf_pure tabOk rfl rfl rfl ?_); refine yf_loadB tabOk rfl rfl rfl (by assumption) (by first | assumption | simp) (by rfl) ?_; (iterate 3 refine yf_pure tabOk rfl rfl rfl ?_); refine yf_loadB tabOk rfl rfl rfl (by assumption) (by first | assumption | simp) (by rfl) ?_; refine yf_pure tabOk rfl rfl rfl ?_)
  have hlen : cs.length = nb := by have := hrd.1; omega
  have hm := tmod_pos hn0 (by omega : (0 : Int) < nb)
  refine yf_rem rfl rfl (by omega) rfl ?_
  refine yf_index tabOk rfl rfl rfl rfl rfl hm.1 hm.2 ?_
  obtain ⟨x, hx, hx0, hx1⟩ := hcs (cs[(next.tmod nb).toNat]'(by omega)) (List.getElem_mem _)
  refine yf_load1 tabOk rfl rfl rfl (fun w' hw' => ?_) (v := .int .u8 x) ?_
  · have h1 := ((hrd.keep hc1).keep hw').cell rfl (next.tmod nb).toNat (by omega)
    rw [Nat.mul_one, h1, List.getElem?_eq_getElem (by omega), hx]
  ((iterate 4 refine yf_pure tabOk rfl rfl rfl ?_); refine yf_loadB tabOk rfl rfl rfl (by assumption) (by first | assumption | simp) (by rfl) ?_; (iterate 3 refine yf_pure tabOk rfl rfl rfl ?_); refine yf_loadB tabOk rfl rfl rfl (by assumption) (by first | assumption | simp) (by rfl) ?_; refine yf_pure tabOk rfl rfl rfl ?_)
  refine yf_quo rfl rfl (by omega) rfl ?_
  ((iterate 3 refine yf_pure tabOk rfl rfl rfl ?_); refine y_seq ?_; refine y_region ?_; (iterate 3 refine yl_pure tabOk rfl rfl ?_); refine yl_loadB tabOk rfl rfl rfl (by assumption) (by rfl) ?_; (iterate 3 refine yl_pure tabOk rfl rfl ?_))
  refine yl_store1 tabOk rfl rfl rfl rfl (by assumption) (by simp) (fun w2 hc2 hs2 hb2 => ?_)
  (refine y_seq ?_; refine y_region ?_; (iterate 4 refine yl_pure tabOk rfl rfl ?_); refine yl_loadB tabOk rfl rfl rfl (by assumption) (by rfl) ?_; (iterate 7 refine yl_pure tabOk rfl rfl ?_))
  refine yl_rem rfl rfl (by omega) rfl ?_
  ((iterate 2 refine yl_pure tabOk rfl rfl ?_))
  refine yl_store1 tabOk rfl rfl rfl rfl (by assumption) (by simp) (fun w3 hc3 hs3 hb3 => ?_)
  have hc03 : Chg [b] w w3 := (hc1.nil.trans hc2).trans hc3
  generalize hq : IntKind.u32.wrap (IntKind.i64.wrap (next.tdiv nb)) = q at *
  clear hq
  generalize hz : Int.tmod _ 65519 = z at *
  have hz0 : 0 ≤ z ∧ z < 65519 := by rw [← hz]; exact tmod_pos (wu32_range _).1 (by omega)
  clear hz
  have hd3 : DkS w3 b (.slice (some ⟨bb, off, none⟩) nb cap) (K + 1) := by
    refine ⟨next + 1, z, ?_, by omega, by omega, hz0.1, by omega⟩
    rw [w64 (by omega) (by omega)] at hb3
    exact hb3
  have hfin : ∀ y : Int, ∃ r, Value.int .i64 ((IntKind.i64.wrap (IntKind.u32.wrap y)).tmod n) = .int .i64 r ∧ 0 ≤ r ∧ (r < n ∨ r = 0) ∧ Chg [b] w w3 ∧ w3.heap.size = w.heap.size ∧ DkS w3 b (.slice (some ⟨bb, off, none⟩) nb cap) (K + 1) := by
    intro y
    have h1 := wu32_range y
    have h2 : IntKind.i64.wrap (IntKind.u32.wrap y) = IntKind.u32.wrap y := w64 (by omega) (by omega)
    rw [h2]
    have h3 := tmod_pos h1.1 (by omega : (0 : Int) < n)
    exact ⟨_, rfl, h3.1, .inl h3.2, hc03, by omega, hd3⟩
  ((iterate 2 refine y_seq ?_); refine y_region ?_; (iterate 3 refine yl_pure tabOk rfl rfl ?_))
  refine yl_split rfl rfl (fun hc => ?_) (fun hc => ?_)
  · (refine yl_guard_yes rfl ?_; refine yl_pure tabOk rfl rfl ?_; refine yl_guard_yes rfl ?_; (iterate 2 refine yl_pure tabOk rfl rfl ?_); refine yl_nil ?_)
    refine y_if rfl (fun hc => ?_) (fun hc => ?_)
    · (refine y_seq ?_; refine y_region ?_; (iterate 3 refine yl_pure tabOk rfl rfl ?_))
      refine yl_rem rfl rfl (by omega) rfl ?_
      (refine yl_pure tabOk rfl rfl ?_; refine y_ret ?_)
      exact y_fin1 rfl rfl (hfin _)
    · (refine y_skip ?_; refine y_seq ?_; refine y_region ?_; (iterate 3 refine yl_pure tabOk rfl rfl ?_); refine yl_loadB tabOk rfl rfl rfl (by assumption) (by rfl) ?_; (iterate 5 refine yl_pure tabOk rfl rfl ?_))
      refine yl_rem rfl rfl (by omega) rfl ?_
      (refine yl_pure tabOk rfl rfl ?_; refine y_ret ?_)
      exact y_fin1 rfl rfl (hfin _)
  · ((iterate 2 refine yl_guard_no rfl rfl rfl ?_); refine yl_pure tabOk rfl rfl ?_; refine y_cond_false rfl ?_; refine y_skip ?_; refine y_seq ?_; refine y_region ?_; (iterate 3 refine yl_pure tabOk rfl rfl ?_); refine yl_loadB tabOk rfl rfl rfl (by assumption) (by rfl) ?_; (iterate 5 refine yl_pure tabOk rfl rfl ?_))
    refine yl_rem rfl rfl (by omega) rfl ?_
    (refine yl_pure tabOk rfl rfl ?_; refine y_ret ?_)
    exact y_fin1 rfl rfl (hfin _)
end Go.Proofs.Ytohlillcaadidaa

/- Walks: the deck as a piece of memory. -/
namespace Go.Proofs.Ytohlillcaadidaa
open Go Go.Eng

/-- A deck, after at most K cards. -/
def dkP (bs : Value) (b K : Nat) : Ck := .gn (fun x => x = b) (fun w => DkS w b bs K) (fun w w' N h hc hN => by
  obtain ⟨next, st, h1, h2⟩ := h
  exact ⟨next, st, (hc.block b h1.lt (hN b rfl)).trans h1, h2⟩)

theorem drawP_ca (n : Int) (K : Nat) (hK : K < 4611686018427387904) (w : World) (b lo hi : Nat) (bs : Value) (hby : DkB w lo hi bs) (hlh : hi ≤ b) (hd : DkS w b bs K) :
    Ca Try.prog 41 [.pointer (some ⟨b, 0, none⟩), .int .i64 n] w fun v w' => ∃ x : Int, (v = .int .i64 x ∧ 0 ≤ x ∧ (x < n ∨ x = 0)) ∧ Sat w (fun x => x = b) [dkP bs b (K + 1)] w' :=
  (draw_ca n K hK w b lo hi bs hby hlh hd).mono fun v w' ⟨r, h1, h2, h3, h4, h5, h6⟩ =>
    ⟨r, ⟨h1, h2, h3⟩, ⟨h4.os, h4.tape, h4.output, h4.size, fun k hk hkb => h4.block k hk (by simpa using hkb)⟩, by simpa [dkP, Ck.p] using h6, .cons (by simp) .nil, fun c hc x hx => by
      obtain rfl : c = dkP bs b (K + 1) := by simpa using hc
      obtain rfl : x = b := hx
      obtain ⟨_, _, h7, _⟩ := h6
      exact ⟨h7.lt, .inl rfl⟩⟩

end Go.Proofs.Ytohlillcaadidaa

/- Walks: Between, on engine 2. -/
namespace Go.Proofs.Ytohlillcaadidaa
open Go Go.Eng

theorem dk_sat {w : World} {b K : Nat} {bs : Value} (hd : DkS w b bs K) : Sat w (fun x => x = b) [dkP bs b K] w :=
  ⟨ChgP.refl _ _, by simpa [dkP, Ck.p] using hd, .cons (by simp) .nil, fun c hc x hx => by
    obtain rfl : c = dkP bs b K := by simpa using hc
    obtain rfl : x = b := hx
    obtain ⟨_, _, h7, _⟩ := hd
    exact ⟨h7.lt, .inl rfl⟩⟩

theorem between_ca (l h : Int) (hl : -1000000 ≤ l) (hh : h ≤ 1000000) (hlh2 : l ≤ h) (K : Nat) (hK : K < 4611686018427387904) (w : World) (b lo hi : Nat) (bs : Value) (hby : DkB w lo hi bs) (hlh : hi ≤ b) (hd : DkS w b bs K) :
    Ca Try.prog 40 [.pointer (some ⟨b, 0, none⟩), .int .i64 l, .int .i64 h] w fun v w' => ∃ x : Int, (v = .int .i64 x ∧ l ≤ x ∧ x ≤ h) ∧ Sat w (fun x => x = b) [dkP bs b (K + 1)] w' := by
  refine q_of (dk_sat hd) Try.func40 rfl (by simp [Try.ntmps40]) ?_
  (refine q_seq ?_; refine q_region ?_; refine ql_pure tabOk rfl rfl ?_; refine q_nil ?_; refine q_seq ?_; refine q_region ?_; (iterate 4 refine ql_pure tabOk rfl rfl ?_); (iterate 2 refine ql_ar tabOk rfl rfl rfl rfl (by omega) (by omega) ?_))
  refine ql_call (β := Int) (ψ := fun x v => v = .int .i64 x ∧ 0 ≤ x ∧ (x < h - l + 1 ∨ x = 0)) (L' := fun _ => [dkP bs b (K + 1)]) tabOk [dkP bs b K] [] (fun x => x = b) rfl rfl rfl rfl (Sp.refl _) (fun x hx => ⟨_, .head _, hx⟩) (fun w' hs => drawP_ca (h - l + 1) K hK w' b lo hi bs (by
    obtain ⟨nb, cs, h1, h2⟩ := hby
    exact ⟨nb, cs, h1.chg (N := [b]) ⟨hs.chg.os, hs.chg.tape, hs.chg.output, hs.chg.size, fun k hk hkb => hs.chg.block k hk (by simpa using hkb)⟩ (fun k hk => .inr (by simp at hk; omega)), h2⟩) hlh (hs.all _ (.head _))) ?_
  rintro x _ ⟨rfl, hx0, hx1⟩
  (refine ql_ar tabOk rfl rfl rfl rfl (by omega) (by omega) ?_; refine ql_pure tabOk rfl rfl ?_; refine q_nil ?_; refine q_ret ?_)
  refine q_fin tabOk rfl (by repeat (first | exact RVs.nil | apply RVs.tmp rfl | apply RVs.cellA rfl rfl (by repeat first | exact .head _ | refine .tail _ ?_) (by rfl) | apply RVs.cell1 rfl rfl (by repeat first | exact .head _ | refine .tail _ ?_))) fun w hs => ?_
  exact ⟨_, ⟨rfl, by omega, by omega⟩, hs⟩

end Go.Proofs.Ytohlillcaadidaa

/- Walks: Of. -/
namespace Go.Proofs.Ytohlillcaadidaa
open Go Go.Eng

theorem of_ca (w : World) (a : Option Addr) (n c : Nat) : Ca Try.prog 37 [.slice a n c] w fun v w' => ∃ b : Nat, v = .pointer (some ⟨b, 0, none⟩) ∧ Sat w M0 [dkP (.slice a n c) b 0] w' := by
  refine q_of (Sat.nil w M0) Try.func37 rfl (by simp [Try.ntmps37]) ?_
  (refine q_seq ?_; refine q_region ?_; refine ql_pure tabOk rfl rfl ?_; refine q_nil ?_; refine q_seq ?_; refine q_region ?_; refine ql_pure tabOk rfl rfl ?_)
  refine ql_mk #[.slice a n c, .int .i64 0, .int .u32 17] rfl (by kernel_rfl) rfl ?_
  skip
  refine ql_box rfl rfl (fun b1 => ?_)
  (refine ql_pure tabOk rfl rfl ?_; refine q_nil ?_; refine q_ret ?_)
  refine q_fin tabOk rfl (by repeat (first | exact RVs.nil | apply RVs.tmp rfl | apply RVs.cellA rfl rfl (by repeat first | exact .head _ | refine .tail _ ?_) (by rfl) | apply RVs.cell1 rfl rfl (by repeat first | exact .head _ | refine .tail _ ?_))) fun w hs => ?_
  refine ⟨b1, rfl, ⟨hs.chg, fun d hd => ?_, .cons (by simp) .nil, fun d hd x hx => ?_⟩⟩
  · obtain rfl : d = dkP (.slice a n c) b1 0 := by simpa using hd
    exact ⟨0, 17, hs.all _ (.head _), by omega, by omega, by omega, by omega⟩
  · obtain rfl : d = dkP (.slice a n c) b1 0 := by simpa using hd
    obtain rfl : x = b1 := hx
    exact hs.bd _ (.head _) x rfl

end Go.Proofs.Ytohlillcaadidaa

/- Walks: shares. -/
namespace Go.Proofs.Ytohlillcaadidaa
open Go Go.Eng

theorem DkB.keepP {w w' : World} {lo hi b : Nat} {bs : Value} (h : DkB w lo hi bs) (hlh : hi ≤ b) (hc : ChgP (fun x => x = b) w w') : DkB w' lo hi bs := by
  obtain ⟨nb, cs, h1, h2⟩ := h
  exact ⟨nb, cs, h1.chg (N := [b]) ⟨hc.os, hc.tape, hc.output, hc.size, fun k hk hkb => hc.block k hk (by simpa using hkb)⟩ (fun k hk => .inr (by simp at hk; omega)), h2⟩
theorem sum_set1 : ∀ (l : List Int) (i : Nat) (h : i < l.length), (l.set i (l[i] + 1)).sum = l.sum + 1
  | x :: l, 0, _ => by simp; omega
  | x :: l, i + 1, h => by
    have := sum_set1 l i (by simpa using h)
    simp at this ⊢
    omega
theorem le_sum : ∀ (l : List Int), (∀ x ∈ l, 0 ≤ x) → ∀ x ∈ l, x ≤ l.sum
  | y :: l, h, x, hx => by
    have h0 := h y List.mem_cons_self
    have hs := sum_nonneg' l (fun z hz => h z (List.mem_cons_of_mem _ hz))
    rcases List.mem_cons.1 hx with rfl | hx
    · simp; omega
    · have := le_sum l (fun z hz => h z (List.mem_cons_of_mem _ hz)) x hx
      simp; omega

set_option maxHeartbeats 1000000 in
theorem shared_ca (s t : Nat) (hs1 : 1 ≤ s) (hs2 : s ≤ 1000) (ht : t ≤ 1000) (K : Nat) (hK : K < 1000000) (w : World) (b lo hi : Nat) (bs : Value) (hby : DkB w lo hi bs) (hlh : hi ≤ b) (hd : DkS w b bs K) :
    Ca Try.prog 102 [.pointer (some ⟨b, 0, none⟩), .int .i64 s, .int .i64 t] w fun v w' => ∃ x : Nat × List Int, (v = .slice (some ⟨x.1, 0, none⟩) s s ∧ x.2.length = s ∧ (∀ y ∈ x.2, 0 ≤ y) ∧ x.2.sum = t) ∧ Sat w (fun x => x = b) [.pt x.1 (ints x.2) 3, dkP bs b (K + t)] w' := by
  refine q_of (dk_sat hd) Try.func102 rfl (by simp [Try.ntmps0]) ?_
  (refine q_seq ?_; refine q_region ?_; refine ql_pure tabOk rfl rfl ?_; refine q_nil ?_; refine q_seq ?_; refine q_region ?_; refine ql_pure tabOk rfl rfl ?_)
  refine ql_makeI (et := 3) (m := s) slI rfl rfl rfl (by omega) (fun x => ?_)
  (refine ql_pure tabOk rfl rfl ?_; refine q_nil ?_; (iterate 2 refine q_seq ?_); refine q_region ?_; (iterate 2 refine ql_pure tabOk rfl rfl ?_); refine q_nil ?_; refine q_block ?_)
  refine q_loop (σ := Nat × List Int) (fun q => q.1 ≤ t ∧ q.2.length = s ∧ (∀ y ∈ q.2, 0 ≤ y) ∧ q.2.sum = q.1) (fun q => t - q.1) (fun q => [(0, .pointer (some ⟨b, 0, none⟩)), (1, .int .i64 s), (7, .slice (some ⟨x, 0, none⟩) s s), (10, .int .i64 t), (11, .int .i64 q.1)])
    (fun q => [.pt x (ints q.2) 3, dkP bs b (K + q.1)]) (0, List.replicate s 0) ⟨by omega, by simp, by simp, by simp⟩ ⟨rfl, rfl, rfl, rfl, rfl, trivial⟩ (by repeat (first | exact Sp.nil | exact Sp.refl _ | refine Sp.cons (by repeat constructor) ?_)) ?_
  rintro ⟨k, l⟩ ⟨hk, hl, hl0, hls⟩ K2 hK2
  simp only at hk hl hl0 hls
  (refine q_seq ?_; refine q_region ?_; refine ql_pure tabOk rfl rfl ?_; refine q_nil ?_; refine q_seq ?_)
  refine q_if rfl (fun hc => ?_) (fun hc => ?_)
  · have hk : k < t := by simp only at hc; omega
    (refine q_skip ?_; refine q_seq ?_; refine q_block ?_; refine q_region ?_; (iterate 3 refine ql_pure tabOk rfl rfl ?_))
    refine ql_call (β := Int) (ψ := fun y v => v = .int .i64 y ∧ 0 ≤ y ∧ (y < s ∨ y = 0)) (L' := fun _ => [dkP bs b (K + k + 1)]) tabOk [dkP bs b (K + k)] [.pt x (ints l) 3] (fun x => x = b) rfl rfl rfl rfl (by repeat (first | exact Sp.nil | exact Sp.refl _ | refine Sp.cons (by repeat constructor) ?_)) (fun x hx => ⟨_, .head _, hx⟩) (fun w' hs => drawP_ca s (K + k) (by omega) w' b lo hi bs (hby.keepP hlh hs.chg) hlh (hs.all _ (.head _))) ?_
    rintro y _ ⟨rfl, hy0, hy1⟩
    obtain ⟨i, rfl⟩ := Int.eq_ofNat_of_zero_le hy0
    have hi1 : i < l.length := by omega
    have hli := hl0 l[i] (List.getElem_mem hi1)
    have hlu := le_sum l hl0 l[i] (List.getElem_mem hi1)
    skip
    refine ql_index tabOk rfl rfl rfl rfl rfl (by omega) (by omega) ?_
    refine ql_loadI tabOk (i) rfl rfl rfl (by repeat first | exact .head _ | refine .tail _ ?_) (by first | rfl | omega | simp) hi1 ?_
    (refine ql_ar tabOk rfl rfl rfl rfl (by omega) (by omega) ?_)
    refine ql_index tabOk rfl rfl rfl rfl rfl (by omega) (by omega) ?_
    refine ql_storeI tabOk (i) rfl rfl rfl (by repeat constructor) (by first | rfl | omega | simp) hi1 ?_
    (refine q_nil ?_; refine q_blk ?_; refine q_region ?_; refine ql_ar tabOk rfl rfl rfl rfl (by omega) (by omega) ?_; refine ql_pure tabOk rfl rfl ?_; refine q_nil ?_)
    refine hK2 (k + 1, l.set i (l[i] + 1)) _ _ ⟨by simp only; omega, by simp [hl], fun y hy => ?_, by simp only [sum_set1]; omega⟩ (by simp only; omega) ⟨rfl, rfl, rfl, rfl, rfl, trivial⟩ (by repeat (first | exact Sp.nil | exact Sp.refl _ | refine Sp.cons (by repeat constructor) ?_))
    rcases List.mem_or_eq_of_mem_set hy with hy | rfl
    · exact hl0 y hy
    · omega
  · obtain rfl : k = t := by simp only at hc; omega
    (refine q_exit _ rfl ?_; refine q_seq ?_; refine q_region ?_; (iterate 2 refine ql_pure tabOk rfl rfl ?_); refine q_nil ?_; refine q_ret ?_)
    refine q_fin tabOk rfl (by repeat (first | exact RVs.nil | apply RVs.tmp rfl | apply RVs.cellA rfl rfl (by repeat first | exact .head _ | refine .tail _ ?_) (by rfl) | apply RVs.cell1 rfl rfl (by repeat first | exact .head _ | refine .tail _ ?_))) fun w hs => ?_
    exact ⟨(x, l), ⟨rfl, hl, hl0, hls⟩, hs⟩

end Go.Proofs.Ytohlillcaadidaa

/- Walks: Fold. -/
namespace Go.Proofs.Ytohlillcaadidaa
open Go Go.Eng

theorem tmod_lt {a b : Int} (hb : 0 < b) : -b < a.tmod b ∧ a.tmod b < b := by
  refine ⟨?_, Int.tmod_lt_of_pos a hb⟩
  have h1 := Int.tmod_lt_of_pos (-a) hb
  rw [Int.neg_tmod] at h1
  omega

theorem fold_ca (v n : Int) (hn0 : 0 < n) (hn1 : n < 1000000) (w : World) : Ca Try.prog 47 [.int .i64 v, .int .i64 n] w fun r w' => (∃ x, r = .int .i64 x ∧ 0 ≤ x ∧ x < n) ∧ w' = w := by
  refine ca_of Try.func47 rfl (by simp [Try.ntmps47]) ?_
  (refine y_seq ?_; refine y_region ?_; refine yl_pure tabOk rfl rfl ?_; (iterate 2 refine y_seq ?_); refine y_region ?_; (iterate 2 refine yl_pure tabOk rfl rfl ?_); refine yl_nil ?_)
  refine y_if rfl (fun hc => ?_) (fun hc => ?_)
  · omega
  (refine y_skip ?_; refine y_seq ?_; refine y_region ?_; (iterate 2 refine yl_pure tabOk rfl rfl ?_))
  refine yl_rem rfl rfl (by omega) rfl ?_
  ((iterate 3 refine yl_pure tabOk rfl rfl ?_))
  refine yl_rem rfl rfl (by omega) rfl ?_
  have h1 := tmod_lt (a := v) hn0
  rw [w64 (x := v.tmod n + n) (by omega) (by omega)]
  have h2 := tmod_pos (a := v.tmod n + n) (by omega) hn0
  (refine yl_pure tabOk rfl rfl ?_; refine y_ret ?_)
  exact y_fin1 rfl rfl ⟨⟨_, rfl, h2.1, h2.2⟩, rfl⟩

end Go.Proofs.Ytohlillcaadidaa

/- The engine, part B13: changing an element of a slice of our own. -/
namespace Go.Eng
open Go Go.RowKit

section
variable {P : Program} {T : Tab}
variable {ro : Cx} {n : Nat} {F : Fin} {w0 : World} {M : Nat → Prop} {k : List It} {ops : Array Oper} {rest : List Oper} {e : Env} {H Hq : List Ck}

theorem own_some {w : World} {et sz m : Nat} {v : Value} {xs : List Value} (h : w.ownsRow 0 et sz v m xs) (hm : 0 < m) : ∃ g c, v = .slice (some ⟨g, 0, none⟩) m c := by
  rcases h.2 with ⟨rfl, rfl⟩ | ⟨g, cap, cur, rfl, _⟩
  · omega
  · exact ⟨_, _, rfl⟩
theorem Sat.ownSome {w : World} {et sz m : Nat} {v : Value} {xs : List Value} (h : Sat w0 M H w) (hc : Ck.ow v et sz m xs ∈ H) (hm : 0 < m) : ∃ g c, v = .slice (some ⟨g, 0, none⟩) m c := own_some (h.all _ hc) hm

theorem ql_storeW (hT : T.Ok P) {t : Nat} {x y : Operand} {g off m c et : Nat} {xs : List Value} {u : Value} {H' : List Ck} {ty : TypeId} {pos : String} {af : Array Edge} (i : Nat)
    (hx : opv e x = some (.pointer (some ⟨g, off, none⟩))) (hy : opv e y = some u) (h1 : has T.one t = true) (hv : oneV u = true)
    (hr : Rp H (.ow (.slice (some ⟨g, 0, none⟩) m c) et 1 m xs) (.ow (.slice (some ⟨g, 0, none⟩) m c) et 1 m (xs.set i u)) H') (ho : off = i) (hi : i < xs.length)
    (h : QL P ro n F w0 M k ops rest e H') : QL P ro n F w0 M k ops (⟨none, .store t x y, ty, pos, af, none⟩ :: rest) e H := .mk fun w hs => by
  subst ho
  obtain ⟨hl, h2⟩ : w.ownsRow 0 et 1 (.slice (some ⟨g, 0, none⟩) m c) m xs := hs.mem hr.mem
  rcases h2 with ⟨hv', _⟩ | ⟨g', cap, cur, hv', hg, hh, hnc, hcm, hcs, ht⟩
  · cases hv'
  cases hv'
  have hb : Blk w g cur.toList et := by simpa [Blk] using hh
  have hcl : off < cur.toList.length := by
    have := congrArg List.length ht
    simp at this
    simp
    omega
  refine yl_store1 hT hx hy h1 hv hb hcl (fun w' hc _ hb' => h.h w' (hs.rep hr hc (fun k hk => ?_) ?_ (fun b hb2 => ?_)))
  · obtain rfl : k = g := by simpa using hk
    rfl
  · refine ⟨by simpa using hl, .inr ⟨g, c, (cur.toList.set off u).toArray, rfl, hg, by simpa [Blk] using hb', hnc, hcm, by simpa using hcs, ?_⟩⟩
    simp only [List.toList_toArray]
    rw [List.take_set, ht]
  · have : b = g := by simpa [Ck.D, Value.ownBlock] using hb2.symm
    subst this
    exact ⟨.inl rfl, hb'.lt⟩

/-- A region that draws; what its first c operations read (Hq1) is not changed by them, and they stand ahead of all that changes Hm2. -/
theorem q_drawS2 {id : Nat} {l : List Oper} (c : Nat) (Hq1 Hm1 Hq2 Hm2 : List Ck) (hH1 : Sp H (Hm1 ++ Hq1)) (hH2 : Sp Hq1 (Hm2 ++ Hq2)) (hm : P.follows .mixedOrders = true) (hB : flB l.toArray = true)
    (hbs : flagB l.toArray (List.replicate c true ++ List.replicate (l.length - c) false) = true)
    (h : ∀ K1 : Act → World → Prop, (∀ e' H' Hm', Sp H' (Hm' ++ Hq2) → QF P ro n F w0 M k l.toArray Hq2 (l.drop c) e' Hm' → Q P ro n F w0 M (.k K1 :: k) e' H') → QF P ro n F w0 M (.k K1 :: k) l.toArray Hq1 (l.take c) e Hm1) :
    Q P ro n F w0 M (.code (.region id l.toArray true) :: k) e H := .mk fun w hs a hf hd => by
  have hs0 : Sat w0 M H { w with drawn := w.drawn + 1 } := hs.keep (Chg.drew (N := []) w)
  have hs1 : Sat w0 M Hq1 { w with drawn := w.drawn + 1 } := (hs0.sp hH1).right
  have h12 : ∀ w, Sat w0 M Hq1 w → Sat w0 M Hq2 w := fun w hw => (hw.sp hH2).right
  let bs := List.replicate c true ++ List.replicate (l.length - c) false
  refine wpIn_region_fl2 hm (flB_spec hB) (K := fun a w => S P ro.ro F k .normal a w) (Cq := flagC (Sat w0 M Hq1) (Sat w0 M Hq2) bs) (Ce := flagC (Sat w0 M Hq1) (Sat w0 M Hq2) bs)
    (fun i j oi oj => flagB_spec hbs h12 i j oi oj) (fun i => ?_) (fun _ _ h => h) ?_
  · unfold flagC
    cases bs.getD i false
    · exact h12 _ hs1
    · exact hs1
  · have h2 := wpFlB_eq (P := P) (ops := l.toArray) (C1 := Sat w0 M Hq1) (C2 := Sat w0 M Hq2) (bs := bs) (K := fun a w => S P ro.ro F k .normal a w) l 0 (by simp)
    rw [show List.range l.toArray.size = List.range' 0 l.length from by simp [List.range_eq_range'], h2]
    refine yb_seg (P := P) (ro := ro) (n := n) (F := F) (k := k) (C1 := Sat w0 M Hq1) (C2 := Sat w0 M Hq2) (bs := bs) (l := l) true c (by simp [bs]) (by simp [bs]) (fun K1 hK1 => ?_) a hf hd
    have h3 := h K1 (fun e' H' Hm' hsp hq => .mk fun w' hw' a' hf' hd' => ?_)
    · exact h3.h _ (hs0.sp hH1)
    · refine hK1 e' w' (fun a2 hf2 hd2 => ?_) a' hf' hd'
      have h4 : bs.drop c = List.replicate (l.length - c) false := by simp [bs]
      rw [h4]
      exact wpFlB_false _ _ (by simp) a2 w' (hq w' (hw'.sp hsp) a2 hf2 hd2)
end
end Go.Eng

/- Walks: Made. -/
namespace Go.Proofs.Ytohlillcaadidaa
open Go Go.Eng

/-- What Made makes. -/
structure MadeR (states clicks side : Nat) (r : Rg) : Prop where
  right : r.Right
  small : r.Small
  states : r.drifts.length ≤ states
  clicks : r.clicks ≤ clicks
  group : r.group.length ≤ 2 * side + 1
  radius : r.radius ≤ 12
  unit : r.unit ≤ 5
  total : r.total ≤ 6
  drift : ∀ x ∈ r.drifts, -15 ≤ x ∧ x ≤ 15
  gsum : r.group.sum ≤ 4 * r.group.length + 1
  weight : ∀ x ∈ r.group, x ≤ 5

theorem DkS.mono {w : World} {b K K' : Nat} {bs : Value} (h : DkS w b bs K) (hk : K ≤ K') : DkS w b bs K' := by
  obtain ⟨next, st, h1, h2, h3, h4⟩ := h
  exact ⟨next, st, h1, h2, by omega, h4⟩
theorem Sat.dk {w0 w : World} {M : Nat → Prop} {R : List Ck} {b K K' : Nat} {bs : Value} (h : Sat w0 M (dkP bs b K :: R) w) (hk : K ≤ K') : Sat w0 M (dkP bs b K' :: R) w := h.turn (fun _ h => h) (fun h => DkS.mono h hk)

theorem own_rdI {w : World} {t n : Nat} {v : Value} {l : List Int} (h : w.ownsRow 0 t 1 v n (ints l)) (hn : n = l.length) : RdI w 0 w.heap.size v l := by
  subst hn
  exact RdI.of (own_rd h)
theorem rows_rd' {w : World} {v : Value} {xs : List (Nat × List Int)} {n : Nat} (hu : (un (rowsK xs)).p w) (h1 : w.ownsRow 0 22 1 v n (rowsV xs)) : RdII w 0 w.heap.size v (xs.map (·.2)) := by
  have hn : n = (rowsV xs).length := by have := h1.1; omega
  refine ⟨rowsV xs, RdE.one (by rw [← hn]; exact own_rd h1) (fun e he => by obtain ⟨p, _, rfl⟩ := List.mem_map.1 he; rfl), by simp [rowsV], fun i hi hi' => ?_⟩
  have hi2 : i < xs.length := by simpa using hi'
  have h2 : Blk w xs[i].1 (ints xs[i].2) 3 := hu.1 (.pt xs[i].1 (ints xs[i].2) 3) (List.mem_map.2 ⟨xs[i], List.getElem_mem hi2, rfl⟩)
  simp only [rowsV, List.getElem_map]
  exact RdE.wide (RdI.of (Blk.rd h2 (by simp) _)) (Nat.zero_le _) h2.lt

abbrev madeB (b9 : Nat) (a b c d : Int) (g h f n : Value) : Ck := .pt b9 [.int .i64 a, .int .i64 b, .int .i64 c, .int .i64 d, g, h, f, n] 25

set_option maxHeartbeats 4000000 in
theorem made_ca (states clicks side : Nat) (h1 : 1 ≤ states) (h2 : states ≤ 5) (h3 : clicks ≤ 6) (h4 : side ≤ 4) (K : Nat) (hK : K < 100000) (w : World) (b lo hi : Nat) (bs : Value) (hby : DkB w lo hi bs) (hlh : hi ≤ b) (hd : DkS w b bs K) :
    Ca Try.prog 38 [.pointer (some ⟨b, 0, none⟩), .int .i64 states, .int .i64 clicks, .int .i64 side] w fun v w' => ∃ x : List Ck × List Value × Rg, (v = .agg x.2.1.toArray ∧ OwnR x.1 x.2.1 x.2.2 ∧ MadeR states clicks side x.2.2) ∧ Sat w (fun x => x = b) [un x.1, dkP bs b (K + 100)] w' := by
  refine q_of (dk_sat hd) Try.func38 rfl (by simp [Try.ntmps38]) ?_
  (refine q_seq ?_; refine q_region ?_)
  refine ql_alloc zero25 rfl (fun b8 => ?_)
  (refine q_nil ?_; refine q_seq ?_; refine q_region ?_; refine ql_pure tabOk rfl rfl ?_)
  refine ql_call (β := Int) (ψ := fun x v => v = .int .i64 x ∧ 1 ≤ x ∧ x ≤ 12) (L' := fun _ => [dkP bs b (K + 1)]) tabOk [dkP bs b K] _ (fun x => x = b) rfl rfl rfl rfl (Sp.cons (by repeat constructor) (Sp.refl _)) (fun x hx => ⟨_, .head _, hx⟩) (fun w' hs => between_ca 1 12 (by omega) (by omega) (by omega) K (by omega) w' b lo hi bs (hby.keepP hlh hs.chg) hlh (hs.all _ (.head _))) ?_
  rintro rad _ ⟨rfl, hrad⟩
  (refine ql_pure tabOk rfl rfl ?_)
  refine ql_call (β := Int) (ψ := fun x v => v = .int .i64 x ∧ 1 ≤ x ∧ x ≤ 5) (L' := fun _ => [dkP bs b (K + 2)]) tabOk [dkP bs b (K + 1)] _ (fun x => x = b) rfl rfl rfl rfl (Sp.cons (by repeat constructor) (Sp.refl _)) (fun x hx => ⟨_, .head _, hx⟩) (fun w' hs => between_ca 1 5 (by omega) (by omega) (by omega) (K + 1) (by omega) w' b lo hi bs (hby.keepP hlh hs.chg) hlh (hs.all _ (.head _))) ?_
  rintro unt _ ⟨rfl, hunt⟩
  ((iterate 2 refine ql_pure tabOk rfl rfl ?_); refine ql_ar tabOk rfl rfl rfl rfl (by omega) (by omega) ?_)
  refine ql_call (β := Int) (ψ := fun x v => v = .int .i64 x ∧ 0 ≤ x ∧ (x < (clicks : Int) + 1 ∨ x = 0)) (L' := fun _ => [dkP bs b (K + 3)]) tabOk [dkP bs b (K + 2)] _ (fun x => x = b) rfl rfl rfl rfl (Sp.cons (by repeat constructor) (Sp.refl _)) (fun x hx => ⟨_, .head _, hx⟩) (fun w' hs => drawP_ca ((clicks : Int) + 1) (K + 2) (by omega) w' b lo hi bs (hby.keepP hlh hs.chg) hlh (hs.all _ (.head _))) ?_
  rintro clk _ ⟨rfl, hclk⟩
  (refine ql_pure tabOk rfl rfl ?_)
  refine ql_call (β := Int) (ψ := fun x v => v = .int .i64 x ∧ 1 ≤ x ∧ x ≤ 6) (L' := fun _ => [dkP bs b (K + 4)]) tabOk [dkP bs b (K + 3)] _ (fun x => x = b) rfl rfl rfl rfl (Sp.cons (by repeat constructor) (Sp.refl _)) (fun x hx => ⟨_, .head _, hx⟩) (fun w' hs => between_ca 1 6 (by omega) (by omega) (by omega) (K + 3) (by omega) w' b lo hi bs (hby.keepP hlh hs.chg) hlh (hs.all _ (.head _))) ?_
  rintro tot _ ⟨rfl, htot⟩
  skip
  refine ql_mk #[.int .i64 rad, .int .i64 unt, .int .i64 clk, .int .i64 tot, .slice none 0 0, .slice none 0 0, .slice none 0 0, .slice none 0 0] rfl (by kernel_rfl) rfl ?_
  refine ql_alloc zero25 rfl (fun b9 => ?_)
  (refine ql_setA tabOk rfl rfl rfl rfl rfl (by repeat constructor) rfl ?_; refine q_nil ?_; (iterate 2 refine q_seq ?_); refine q_region ?_; (iterate 2 refine ql_pure tabOk rfl rfl ?_); refine ql_ar tabOk rfl rfl rfl rfl (by omega) (by omega) ?_)
  refine ql_call (β := Int) (ψ := fun x v => v = .int .i64 x ∧ 0 ≤ x ∧ (x < (side : Int) + 1 ∨ x = 0)) (L' := fun _ => [dkP bs b (K + 5)]) tabOk [dkP bs b (K + 4)] _ (fun x => x = b) rfl rfl rfl rfl (Sp.cons (by repeat constructor) (Sp.refl _)) (fun x hx => ⟨_, .head _, hx⟩) (fun w' hs => drawP_ca ((side : Int) + 1) (K + 4) (by omega) w' b lo hi bs (hby.keepP hlh hs.chg) hlh (hs.all _ (.head _))) ?_
  rintro sd _ ⟨rfl, hsd⟩
  obtain ⟨gn, hgn⟩ : ∃ gn : Nat, 2 * sd + 1 = (gn : Int) := ⟨(2 * sd + 1).toNat, by omega⟩
  ((iterate 2 refine ql_ar tabOk rfl rfl rfl rfl (by omega) (by omega) ?_); refine ql_pure tabOk rfl rfl ?_; refine q_nil ?_; refine q_block ?_)
  rw [hgn]
  have hgn2 : gn ≤ 9 := by omega
  refine q_conv (H' := [.ow (.slice none 0 0) 3 1 0 (ints []), dkP bs b (K + 5 + 0), madeB b9 rad unt clk tot (.slice none 0 0) (.slice none 0 0) (.slice none 0 0) (.slice none 0 0), .pt b8 [.int .i64 0, .int .i64 0, .int .i64 0, .int .i64 0, .slice none 0 0, .slice none 0 0, .slice none 0 0, .slice none 0 0] 25]) (fun w' hs => Sat.ownil (hs.sp (by repeat (first | exact Sp.nil | exact Sp.refl _ | refine Sp.cons (by repeat constructor) ?_))) _ _) ?_
  refine q_loop (σ := Nat × Value × List Int) (fun s => s.1 ≤ gn ∧ s.2.2.length = s.1 ∧ ∀ y ∈ s.2.2, 0 ≤ y ∧ y ≤ 4) (fun s => gn - s.1) (fun s => [(0, .pointer (some ⟨b, 0, none⟩)), (1, .int .i64 states), (8, .pointer (some ⟨b8, 0, none⟩)), (9, .pointer (some ⟨b9, 0, none⟩)), (26, .int .i64 gn), (27, .int .i64 s.1)])
    (fun s => [.ow s.2.1 3 1 s.1 (ints s.2.2), dkP bs b (K + 5 + s.1), madeB b9 rad unt clk tot s.2.1 (.slice none 0 0) (.slice none 0 0) (.slice none 0 0), .pt b8 [.int .i64 0, .int .i64 0, .int .i64 0, .int .i64 0, .slice none 0 0, .slice none 0 0, .slice none 0 0, .slice none 0 0] 25]) (0, .slice none 0 0, []) ⟨by omega, rfl, by simp⟩ ⟨rfl, rfl, rfl, rfl, rfl, rfl, trivial⟩ (Sp.refl _) ?_
  rintro ⟨k, gv, l⟩ ⟨hk, hl, hlb⟩ K2 hK2
  simp only at hk hl hlb
  (refine q_seq ?_; refine q_region ?_; refine ql_pure tabOk rfl rfl ?_; refine q_nil ?_; refine q_seq ?_)
  refine q_if rfl (fun hc => ?_) (fun hc => ?_)
  · have hk2 : k < gn := by simp only at hc; omega
    clear hc
    (refine q_skip ?_; refine q_seq ?_; refine q_block ?_)
    refine q_drawS2 5 _ [dkP bs b (K + 5 + k)] [.pt b8 [.int .i64 0, .int .i64 0, .int .i64 0, .int .i64 0, .slice none 0 0, .slice none 0 0, .slice none 0 0, .slice none 0 0] 25] [madeB b9 rad unt clk tot gv (.slice none 0 0) (.slice none 0 0) (.slice none 0 0), .ow gv 3 1 k (ints l)] (Sp.cons (by repeat constructor) (Sp.refl _)) (Sp.cons (by repeat constructor) (Sp.cons (by repeat constructor) (by repeat (first | exact Sp.nil | exact Sp.refl _ | refine Sp.cons (by repeat constructor) ?_)))) (by kernel_rfl) (by kernel_rfl) (by kernel_rfl) fun K1 hK1 => ?_
    (refine qf_pure tabOk rfl rfl rfl ?_; refine qf_loadB tabOk rfl rfl rfl (by repeat first | exact .head _ | refine .tail _ ?_) (by rfl) ?_; refine qf_pure tabOk rfl rfl rfl ?_)
    refine qf_call (β := Int) (ψ := fun x v => v = .int .i64 x ∧ 0 ≤ x ∧ (x < 5 ∨ x = 0)) (L' := fun x => [dkP bs b (K + 5 + k + 1)]) tabOk [dkP bs b (K + 5 + k)] _ (fun x => x = b) rfl rfl rfl rfl (Sp.cons (by repeat constructor) (Sp.refl _)) (fun x hx => ⟨_, .head _, hx⟩) (fun w' hs => drawP_ca 5 (K + 5 + k) (by omega) w' b lo hi bs (hby.keepP hlh hs.chg) hlh (hs.all _ (.head _))) ?_
    rintro y _ ⟨rfl, hy⟩
    skip
    refine qf_mkS 3 [.int .i64 y] rfl (by kernel_rfl) rfl (fun bn => ?_)
    (refine qf_nil ?_)
    refine hK1 _ _ [.pt bn [.int .i64 y] 3, dkP bs b (K + 5 + k + 1), madeB b9 rad unt clk tot gv (.slice none 0 0) (.slice none 0 0) (.slice none 0 0), .ow gv 3 1 k (ints l)] (Sp.cons (by repeat constructor) (Sp.cons (by repeat constructor) (Sp.cons (by repeat constructor) (Sp.cons (by repeat constructor) (by repeat (first | exact Sp.nil | exact Sp.refl _ | refine Sp.cons (by repeat constructor) ?_)))))) ?_
    refine qf_append (q := 1) slI rfl rfl rfl (fun v' => by repeat constructor) (fun w' hs => ⟨_, _, Blk.rd (hs.blk (b := bn) (by repeat first | exact .head _ | refine .tail _ ?_)) rfl 1⟩) (by simp [oneV]) (by omega) (by omega) (fun va' => ?_)
    refine qf_fact (fun w hs => hs.slice (v := va') (by repeat first | exact .head _ | refine .tail _ ?_)) ?_
    rintro ⟨a1, m1, c1, rfl⟩
    (refine qf_pure tabOk rfl rfl rfl ?_; refine qf_st4 tabOk rfl rfl rfl rfl (by repeat constructor) ?_; refine qf_nil ?_; refine q_blk ?_; refine q_region ?_; refine ql_ar tabOk rfl rfl rfl rfl (by omega) (by omega) ?_; refine ql_pure tabOk rfl rfl ?_; refine q_nil ?_)
    have e1 : ints (l ++ [y]) = ints l ++ [.int .i64 y] := by simp [ints]
    refine hK2 (k + 1, .slice a1 m1 c1, l ++ [y]) _ _ ⟨by simp only; omega, by simp [hl], fun z hz => ?_⟩ (by simp only; omega) ⟨rfl, rfl, rfl, rfl, rfl, rfl, trivial⟩ (by rw [e1]; repeat (first | exact Sp.nil | exact Sp.refl _ | refine Sp.cons (by repeat constructor) ?_))
    rcases List.mem_append.1 hz with hz | hz
    · exact hlb z hz
    · rw [List.mem_singleton.1 hz]; omega
  obtain rfl : k = gn := by simp only at hc; omega
  clear hc
  have hgl : k / 2 < l.length := by omega
  have hgi := hlb l[k / 2] (List.getElem_mem hgl)
  dsimp only
  refine q_fact (fun w hs => hs.ownSome (v := gv) (by repeat first | exact .head _ | refine .tail _ ?_) (by omega)) ?_
  rintro ⟨gb, gc, rfl⟩
  (refine q_exit _ rfl ?_; refine q_seq ?_; refine q_region ?_; refine ql_pure tabOk rfl rfl ?_; refine ql_loadB tabOk rfl rfl rfl (by repeat first | exact .head _ | refine .tail _ ?_) (by rfl) ?_; refine ql_pure tabOk rfl rfl ?_; refine ql_loadB tabOk rfl rfl rfl (by repeat first | exact .head _ | refine .tail _ ?_) (by rfl) ?_; refine ql_pure tabOk rfl rfl ?_; refine ql_quoN rfl rfl rfl (by omega) (by omega) (by omega) ?_)
  refine ql_index tabOk rfl rfl rfl rfl rfl (by omega) (by omega) ?_
  refine ql_load1 (v := .int .i64 l[k / 2]) tabOk rfl rfl rfl (fun w hs => (RdI.at (hs.rdI (v := .slice (some ⟨gb, 0, none⟩) k gc) (l := l) (by repeat first | exact .head _ | refine .tail _ ?_) hl.symm) (k / 2) hgl)) ?_
  (refine ql_ar tabOk rfl rfl rfl rfl (by omega) (by omega) ?_)
  refine ql_index tabOk rfl rfl rfl rfl rfl (by omega) (by omega) ?_
  refine ql_storeW tabOk (k / 2) rfl rfl rfl rfl (by repeat constructor) (by first | rfl | omega | simp) (by simpa using hgl) ?_
  (refine q_nil ?_; (iterate 2 refine q_seq ?_); refine q_region ?_; (iterate 2 refine ql_pure tabOk rfl rfl ?_))
  have hk0 : 1 ≤ k := by omega
  obtain ⟨gl, hgle⟩ : ∃ gl, gl = l.set (k / 2) (l[k / 2] + 1) := ⟨_, rfl⟩
  have hgl1 : gl.length = k := by rw [hgle]; simp [hl]
  have hgs := sum_set1 l (k / 2) hgl
  rw [← hgle] at hgs
  have hgb : ∀ y ∈ gl, 0 ≤ y ∧ y ≤ 5 := fun y hy => by
    rw [hgle] at hy
    rcases List.mem_or_eq_of_mem_set hy with hy | rfl
    · have := hlb y hy; omega
    · omega
  have hls := sum_bd (c := 4) l (fun y hy => by have := hlb y hy; omega)
  have hln := sum_nonneg' l (fun y hy => (hlb y hy).1)
  have e0 : (ints l).set (k / 2) (.int .i64 (l[k / 2] + 1)) = ints gl := by rw [hgle]; simp [ints]
  rw [e0]
  clear e0 hgle
  refine ql_call (β := Int) (ψ := fun x v => v = .int .i64 x ∧ 1 ≤ x ∧ x ≤ states) (L' := fun _ => [dkP bs b (K + 5 + k + 1)]) tabOk [dkP bs b (K + 5 + k)] _ (fun x => x = b) rfl rfl rfl rfl (Sp.cons (by repeat constructor) (Sp.refl _)) (fun x hx => ⟨_, .head _, hx⟩) (fun w' hs => between_ca 1 states (by omega) (by omega) (by omega) (K + 5 + k) (by omega) w' b lo hi bs (hby.keepP hlh hs.chg) hlh (hs.all _ (.head _))) ?_
  rintro dn _ ⟨rfl, hdn⟩
  obtain ⟨dn, rfl⟩ := Int.eq_ofNat_of_zero_le (show 0 ≤ dn by omega)
  (refine ql_pure tabOk rfl rfl ?_; refine q_nil ?_; refine q_block ?_)
  refine q_conv (H' := [.ow (.slice none 0 0) 3 1 0 (ints []), dkP bs b (K + 5 + k + 1 + 0), madeB b9 rad unt clk tot (.slice (some ⟨gb, 0, none⟩) k gc) (.slice none 0 0) (.slice none 0 0) (.slice none 0 0), .ow (.slice (some ⟨gb, 0, none⟩) k gc) 3 1 k (ints gl), .pt b8 [.int .i64 0, .int .i64 0, .int .i64 0, .int .i64 0, .slice none 0 0, .slice none 0 0, .slice none 0 0, .slice none 0 0] 25]) (fun w' hs => Sat.ownil (hs.sp (by repeat (first | exact Sp.nil | exact Sp.refl _ | refine Sp.cons (by repeat constructor) ?_))) _ _) ?_
  refine q_loop (σ := Nat × Value × List Int) (fun s => s.1 ≤ dn ∧ s.2.2.length = s.1 ∧ ∀ y ∈ s.2.2, -15 ≤ y ∧ y ≤ 15) (fun s => dn - s.1) (fun s => [(0, .pointer (some ⟨b, 0, none⟩)), (8, .pointer (some ⟨b8, 0, none⟩)), (9, .pointer (some ⟨b9, 0, none⟩)), (49, .int .i64 dn), (50, .int .i64 s.1)])
    (fun s => [.ow s.2.1 3 1 s.1 (ints s.2.2), dkP bs b (K + 5 + k + 1 + s.1), madeB b9 rad unt clk tot (.slice (some ⟨gb, 0, none⟩) k gc) s.2.1 (.slice none 0 0) (.slice none 0 0), .ow (.slice (some ⟨gb, 0, none⟩) k gc) 3 1 k (ints gl), .pt b8 [.int .i64 0, .int .i64 0, .int .i64 0, .int .i64 0, .slice none 0 0, .slice none 0 0, .slice none 0 0, .slice none 0 0] 25]) (0, .slice none 0 0, []) ⟨by omega, rfl, by simp⟩ ⟨rfl, rfl, rfl, rfl, rfl, trivial⟩ (Sp.refl _) ?_
  rintro ⟨d, dv, dl⟩ ⟨hd', hdl, hdb⟩ K2 hK2
  simp only at hd' hdl hdb
  dsimp only
  (refine q_seq ?_; refine q_region ?_; refine ql_pure tabOk rfl rfl ?_; refine q_nil ?_; refine q_seq ?_)
  refine q_if rfl (fun hc => ?_) (fun hc => ?_)
  · have hd2 : d < dn := by omega
    clear hc
    (refine q_skip ?_; refine q_seq ?_; refine q_block ?_)
    refine q_drawS2 5 _ [dkP bs b (K + 5 + k + 1 + d)] [.ow (.slice (some ⟨gb, 0, none⟩) k gc) 3 1 k (ints gl), .pt b8 [.int .i64 0, .int .i64 0, .int .i64 0, .int .i64 0, .slice none 0 0, .slice none 0 0, .slice none 0 0, .slice none 0 0] 25] [madeB b9 rad unt clk tot (.slice (some ⟨gb, 0, none⟩) k gc) dv (.slice none 0 0) (.slice none 0 0), .ow dv 3 1 d (ints dl)] (Sp.cons (by repeat constructor) (Sp.refl _)) (Sp.cons (by repeat constructor) (Sp.cons (by repeat constructor) (by repeat (first | exact Sp.nil | exact Sp.refl _ | refine Sp.cons (by repeat constructor) ?_)))) (by kernel_rfl) (by kernel_rfl) (by kernel_rfl) fun K1 hK1 => ?_
    (refine qf_pure tabOk rfl rfl rfl ?_; refine qf_loadB tabOk rfl rfl rfl (by repeat first | exact .head _ | refine .tail _ ?_) (by rfl) ?_; refine qf_pure tabOk rfl rfl rfl ?_)
    refine qf_call (β := Int) (ψ := fun x v => v = .int .i64 x ∧ -15 ≤ x ∧ x ≤ 15) (L' := fun _ => [dkP bs b (K + 5 + k + 1 + d + 1)]) tabOk [dkP bs b (K + 5 + k + 1 + d)] _ (fun x => x = b) rfl rfl rfl rfl (Sp.cons (by repeat constructor) (Sp.refl _)) (fun x hx => ⟨_, .head _, hx⟩) (fun w' hs => between_ca (-15) 15 (by omega) (by omega) (by omega) (K + 5 + k + 1 + d) (by omega) w' b lo hi bs (hby.keepP hlh hs.chg) hlh (hs.all _ (.head _))) ?_
    rintro y _ ⟨rfl, hy⟩
    skip
    refine qf_mkS 3 [.int .i64 y] rfl (by kernel_rfl) rfl (fun bn => ?_)
    (refine qf_nil ?_)
    refine hK1 _ _ [.pt bn [.int .i64 y] 3, dkP bs b (K + 5 + k + 1 + d + 1), madeB b9 rad unt clk tot (.slice (some ⟨gb, 0, none⟩) k gc) dv (.slice none 0 0) (.slice none 0 0), .ow dv 3 1 d (ints dl)] (Sp.cons (by repeat constructor) (Sp.cons (by repeat constructor) (Sp.cons (by repeat constructor) (Sp.cons (by repeat constructor) (by repeat (first | exact Sp.nil | exact Sp.refl _ | refine Sp.cons (by repeat constructor) ?_)))))) ?_
    refine qf_append (q := 1) slI rfl rfl rfl (fun v' => by repeat constructor) (fun w' hs => ⟨_, _, Blk.rd (hs.blk (b := bn) (by repeat first | exact .head _ | refine .tail _ ?_)) rfl 1⟩) (by simp [oneV]) (by omega) (by omega) (fun va' => ?_)
    refine qf_fact (fun w hs => hs.slice (v := va') (by repeat first | exact .head _ | refine .tail _ ?_)) ?_
    rintro ⟨a1, m1, c1, rfl⟩
    (refine qf_pure tabOk rfl rfl rfl ?_; refine qf_st5 tabOk rfl rfl rfl rfl (by repeat constructor) ?_; refine qf_nil ?_; refine q_blk ?_; refine q_region ?_; refine ql_ar tabOk rfl rfl rfl rfl (by omega) (by omega) ?_; refine ql_pure tabOk rfl rfl ?_; refine q_nil ?_)
    have e1 : ints (dl ++ [y]) = ints dl ++ [.int .i64 y] := by simp [ints]
    refine hK2 (d + 1, .slice a1 m1 c1, dl ++ [y]) _ _ ⟨by simp only; omega, by simp [hdl], fun z hz => ?_⟩ (by simp only; omega) ⟨rfl, rfl, rfl, rfl, rfl, trivial⟩ (by rw [e1]; repeat (first | exact Sp.nil | exact Sp.refl _ | refine Sp.cons (by repeat constructor) ?_))
    rcases List.mem_append.1 hz with hz | hz
    · exact hdb z hz
    · rw [List.mem_singleton.1 hz]; omega
  obtain rfl : d = dn := by omega
  clear hc
  refine q_fact (fun w hs => hs.ownSome (v := dv) (by repeat first | exact .head _ | refine .tail _ ?_) (by omega)) ?_
  rintro ⟨db, dc, rfl⟩
  obtain ⟨T, rfl⟩ := Int.eq_ofNat_of_zero_le (show 0 ≤ tot by omega)
  (refine q_exit _ rfl ?_; refine q_seq ?_; refine q_region ?_; (iterate 2 refine ql_pure tabOk rfl rfl ?_); refine ql_loadB tabOk rfl rfl rfl (by repeat first | exact .head _ | refine .tail _ ?_) (by rfl) ?_; (iterate 2 refine ql_pure tabOk rfl rfl ?_); refine ql_loadB tabOk rfl rfl rfl (by repeat first | exact .head _ | refine .tail _ ?_) (by rfl) ?_)
  refine ql_call (β := Nat × List Int) (ψ := fun x v => v = .slice (some ⟨x.1, 0, none⟩) d d ∧ x.2.length = d ∧ (∀ y ∈ x.2, 0 ≤ y) ∧ x.2.sum = T) (L' := fun x => [.pt x.1 (ints x.2) 3, dkP bs b (K + 5 + k + 1 + d + T)]) tabOk [dkP bs b (K + 5 + k + 1 + d)] _ (fun x => x = b) rfl rfl rfl rfl (Sp.cons (by repeat constructor) (Sp.refl _)) (fun x hx => ⟨_, .head _, hx⟩) (fun w' hs => shared_ca d T (by omega) (by omega) (by omega) (K + 5 + k + 1 + d) (by omega) w' b lo hi bs (hby.keepP hlh hs.chg) hlh (hs.all _ (.head _))) ?_
  rintro ⟨fb, fl⟩ _ ⟨rfl, hfl, hfn, hfs⟩
  simp only at hfl hfn hfs
  (refine ql_pure tabOk rfl rfl ?_; refine ql_st6 tabOk rfl rfl rfl rfl (by repeat constructor) ?_; refine q_nil ?_; (iterate 2 refine q_seq ?_); refine q_region ?_; refine ql_pure tabOk rfl rfl ?_; refine ql_loadB tabOk rfl rfl rfl (by repeat first | exact .head _ | refine .tail _ ?_) (by rfl) ?_; (iterate 2 refine ql_pure tabOk rfl rfl ?_); refine q_nil ?_; refine q_block ?_)
  refine q_conv (H' := [un (rowsK []), .ow (.slice none 0 0) 22 1 0 (rowsV []), dkP bs b (K + 40 + 6 * 0), madeB b9 rad unt clk T (.slice (some ⟨gb, 0, none⟩) k gc) (.slice (some ⟨db, 0, none⟩) d dc) (.slice (some ⟨fb, 0, none⟩) d d) (.slice none 0 0), .pt fb (ints fl) 3, .ow (.slice (some ⟨db, 0, none⟩) d dc) 3 1 d (ints dl), .ow (.slice (some ⟨gb, 0, none⟩) k gc) 3 1 k (ints gl), .pt b8 [.int .i64 0, .int .i64 0, .int .i64 0, .int .i64 0, .slice none 0 0, .slice none 0 0, .slice none 0 0, .slice none 0 0] 25]) (fun w' hs => by
    have h1 : Sat w (fun x => x = b) (dkP bs b (K + 5 + k + 1 + d + T) :: [madeB b9 rad unt clk T (.slice (some ⟨gb, 0, none⟩) k gc) (.slice (some ⟨db, 0, none⟩) d dc) (.slice (some ⟨fb, 0, none⟩) d d) (.slice none 0 0), .pt fb (ints fl) 3, .ow (.slice (some ⟨db, 0, none⟩) d dc) 3 1 d (ints dl), .ow (.slice (some ⟨gb, 0, none⟩) k gc) 3 1 k (ints gl), .pt b8 [.int .i64 0, .int .i64 0, .int .i64 0, .int .i64 0, .slice none 0 0, .slice none 0 0, .slice none 0 0, .slice none 0 0] 25]) w' := hs.sp (by repeat (first | exact Sp.nil | exact Sp.refl _ | refine Sp.cons (by repeat constructor) ?_))
    exact Sat.un_nil (Sat.ownil (Sat.dk h1 (by omega)) _ _)) ?_
  refine q_loop (σ := Nat × Value × List (Nat × List Int)) (fun s => s.1 ≤ d ∧ s.2.2.length = s.1 ∧ ∀ y ∈ s.2.2, y.2.length = d ∧ (∀ z ∈ y.2, 0 ≤ z) ∧ y.2.sum = T) (fun s => d - s.1) (fun s => [(0, .pointer (some ⟨b, 0, none⟩)), (8, .pointer (some ⟨b8, 0, none⟩)), (9, .pointer (some ⟨b9, 0, none⟩)), (70, .int .i64 d), (71, .int .i64 s.1)])
    (fun s => [un (rowsK s.2.2), .ow s.2.1 22 1 s.1 (rowsV s.2.2), dkP bs b (K + 40 + 6 * s.1), madeB b9 rad unt clk T (.slice (some ⟨gb, 0, none⟩) k gc) (.slice (some ⟨db, 0, none⟩) d dc) (.slice (some ⟨fb, 0, none⟩) d d) s.2.1, .pt fb (ints fl) 3, .ow (.slice (some ⟨db, 0, none⟩) d dc) 3 1 d (ints dl), .ow (.slice (some ⟨gb, 0, none⟩) k gc) 3 1 k (ints gl), .pt b8 [.int .i64 0, .int .i64 0, .int .i64 0, .int .i64 0, .slice none 0 0, .slice none 0 0, .slice none 0 0, .slice none 0 0] 25]) (0, .slice none 0 0, []) ⟨by omega, rfl, by simp⟩ ⟨rfl, rfl, rfl, rfl, rfl, trivial⟩ (Sp.refl _) ?_
  rintro ⟨m, nv, xs⟩ ⟨hm, hxl, hxb⟩ K2 hK2
  simp only at hm hxl hxb
  dsimp only
  (refine q_seq ?_; refine q_region ?_; refine ql_pure tabOk rfl rfl ?_; refine q_nil ?_; refine q_seq ?_)
  refine q_if rfl (fun hc => ?_) (fun hc => ?_)
  · have hm2 : m < d := by omega
    clear hc
    (refine q_skip ?_; refine q_seq ?_; refine q_block ?_)
    refine q_drawS2 10 _ [dkP bs b (K + 40 + 6 * m)] [un (rowsK xs), .pt fb (ints fl) 3, .ow (.slice (some ⟨db, 0, none⟩) d dc) 3 1 d (ints dl), .ow (.slice (some ⟨gb, 0, none⟩) k gc) 3 1 k (ints gl), .pt b8 [.int .i64 0, .int .i64 0, .int .i64 0, .int .i64 0, .slice none 0 0, .slice none 0 0, .slice none 0 0, .slice none 0 0] 25] [madeB b9 rad unt clk T (.slice (some ⟨gb, 0, none⟩) k gc) (.slice (some ⟨db, 0, none⟩) d dc) (.slice (some ⟨fb, 0, none⟩) d d) nv, .ow nv 22 1 m (rowsV xs)] (Sp.cons (by repeat constructor) (Sp.refl _)) (Sp.cons (by repeat constructor) (Sp.cons (by repeat constructor) (by repeat (first | exact Sp.nil | exact Sp.refl _ | refine Sp.cons (by repeat constructor) ?_)))) (by kernel_rfl) (by kernel_rfl) (by kernel_rfl) fun K1 hK1 => ?_
    (refine qf_pure tabOk rfl rfl rfl ?_; refine qf_loadB tabOk rfl rfl rfl (by repeat first | exact .head _ | refine .tail _ ?_) (by rfl) ?_; (iterate 2 refine qf_pure tabOk rfl rfl rfl ?_); refine qf_loadB tabOk rfl rfl rfl (by repeat first | exact .head _ | refine .tail _ ?_) (by rfl) ?_; (iterate 2 refine qf_pure tabOk rfl rfl rfl ?_); refine qf_loadB tabOk rfl rfl rfl (by repeat first | exact .head _ | refine .tail _ ?_) (by rfl) ?_)
    refine qf_call (β := Nat × List Int) (ψ := fun x v => v = .slice (some ⟨x.1, 0, none⟩) d d ∧ x.2.length = d ∧ (∀ y ∈ x.2, 0 ≤ y) ∧ x.2.sum = T) (L' := fun x => [.pt x.1 (ints x.2) 3, dkP bs b (K + 40 + 6 * m + T)]) tabOk [dkP bs b (K + 40 + 6 * m)] _ (fun x => x = b) rfl rfl rfl rfl (Sp.cons (by repeat constructor) (Sp.refl _)) (fun x hx => ⟨_, .head _, hx⟩) (fun w' hs => shared_ca d T (by omega) (by omega) (by omega) (K + 40 + 6 * m) (by omega) w' b lo hi bs (hby.keepP hlh hs.chg) hlh (hs.all _ (.head _))) ?_
    rintro ⟨x, rl⟩ _ ⟨rfl, hrl, hrn, hrs⟩
    simp only at hrl hrn hrs
    skip
    refine qf_mkS 22 [.slice (some ⟨x, 0, none⟩) d d] rfl (by kernel_rfl) rfl (fun bn => ?_)
    (refine qf_nil ?_)
    refine hK1 _ _ [.pt bn [.slice (some ⟨x, 0, none⟩) d d] 22, .pt x (ints rl) 3, dkP bs b (K + 40 + 6 * m + T), madeB b9 rad unt clk T (.slice (some ⟨gb, 0, none⟩) k gc) (.slice (some ⟨db, 0, none⟩) d dc) (.slice (some ⟨fb, 0, none⟩) d d) nv, .ow nv 22 1 m (rowsV xs)] (Sp.cons (by repeat constructor) (Sp.cons (by repeat constructor) (Sp.cons (by repeat constructor) (Sp.cons (by repeat constructor) (Sp.cons (by repeat constructor) (by repeat (first | exact Sp.nil | exact Sp.refl _ | refine Sp.cons (by repeat constructor) ?_))))))) ?_
    refine qf_append (q := 1) slII rfl rfl rfl (fun v' => by repeat constructor) (fun w' hs => ⟨_, _, Blk.rd (hs.blk (b := bn) (by repeat first | exact .head _ | refine .tail _ ?_)) rfl 1⟩) (by simp [oneV]) (by omega) (by omega) (fun va' => ?_)
    refine qf_fact (fun w hs => hs.slice (v := va') (by repeat first | exact .head _ | refine .tail _ ?_)) ?_
    rintro ⟨a1, m1, c1, rfl⟩
    (refine qf_pure tabOk rfl rfl rfl ?_; refine qf_st7 tabOk rfl rfl rfl rfl (by repeat constructor) ?_; refine qf_nil ?_; refine q_blk ?_; refine q_region ?_; refine ql_ar tabOk rfl rfl rfl rfl (by omega) (by omega) ?_; refine ql_pure tabOk rfl rfl ?_; refine q_nil ?_)
    have e1 : rowsV (xs ++ [(x, rl)]) = rowsV xs ++ [.slice (some ⟨x, 0, none⟩) d d] := by simp [rowsV, hrl]
    have e2 : rowsK (xs ++ [(x, rl)]) = rowsK xs ++ [.pt x (ints rl) 3] := by simp [rowsK]
    refine q_conv (H' := [un (rowsK (xs ++ [(x, rl)])), .ow (.slice a1 m1 c1) 22 1 (m + 1) (rowsV (xs ++ [(x, rl)])), dkP bs b (K + 40 + 6 * (m + 1)), madeB b9 rad unt clk T (.slice (some ⟨gb, 0, none⟩) k gc) (.slice (some ⟨db, 0, none⟩) d dc) (.slice (some ⟨fb, 0, none⟩) d d) (.slice a1 m1 c1), .pt fb (ints fl) 3, .ow (.slice (some ⟨db, 0, none⟩) d dc) 3 1 d (ints dl), .ow (.slice (some ⟨gb, 0, none⟩) k gc) 3 1 k (ints gl), .pt b8 [.int .i64 0, .int .i64 0, .int .i64 0, .int .i64 0, .slice none 0 0, .slice none 0 0, .slice none 0 0, .slice none 0 0] 25]) (fun w' hs => by
      rw [e1, e2]
      have h1 : Sat w (fun x => x = b) (dkP bs b (K + 40 + 6 * m + T) :: .pt x (ints rl) 3 :: un (rowsK xs) :: [.ow (.slice a1 m1 c1) 22 1 (m + 1) (rowsV xs ++ [.slice (some ⟨x, 0, none⟩) d d]), madeB b9 rad unt clk T (.slice (some ⟨gb, 0, none⟩) k gc) (.slice (some ⟨db, 0, none⟩) d dc) (.slice (some ⟨fb, 0, none⟩) d d) (.slice a1 m1 c1), .pt fb (ints fl) 3, .ow (.slice (some ⟨db, 0, none⟩) d dc) 3 1 d (ints dl), .ow (.slice (some ⟨gb, 0, none⟩) k gc) 3 1 k (ints gl), .pt b8 [.int .i64 0, .int .i64 0, .int .i64 0, .int .i64 0, .slice none 0 0, .slice none 0 0, .slice none 0 0, .slice none 0 0] 25]) w' := hs.sp (by repeat (first | exact Sp.nil | exact Sp.refl _ | refine Sp.cons (by repeat constructor) ?_))
      have h2 := Sat.dk h1 (K' := K + 40 + 6 * (m + 1)) (by omega)
      have h3 : Sat w (fun x => x = b) (.pt x (ints rl) 3 :: un (rowsK xs) :: [.ow (.slice a1 m1 c1) 22 1 (m + 1) (rowsV xs ++ [.slice (some ⟨x, 0, none⟩) d d]), dkP bs b (K + 40 + 6 * (m + 1)), madeB b9 rad unt clk T (.slice (some ⟨gb, 0, none⟩) k gc) (.slice (some ⟨db, 0, none⟩) d dc) (.slice (some ⟨fb, 0, none⟩) d d) (.slice a1 m1 c1), .pt fb (ints fl) 3, .ow (.slice (some ⟨db, 0, none⟩) d dc) 3 1 d (ints dl), .ow (.slice (some ⟨gb, 0, none⟩) k gc) 3 1 k (ints gl), .pt b8 [.int .i64 0, .int .i64 0, .int .i64 0, .int .i64 0, .slice none 0 0, .slice none 0 0, .slice none 0 0, .slice none 0 0] 25]) w' := h2.sp (by repeat (first | exact Sp.nil | exact Sp.refl _ | refine Sp.cons (by repeat constructor) ?_))
      exact h3.un_in.un_perm (List.perm_append_singleton _ _).symm) ?_
    refine hK2 (m + 1, .slice a1 m1 c1, xs ++ [(x, rl)]) _ _ ⟨by simp only; omega, by simp [hxl], fun z hz => ?_⟩ (by simp only; omega) ⟨rfl, rfl, rfl, rfl, rfl, trivial⟩ (Sp.refl _)
    rcases List.mem_append.1 hz with hz | hz
    · exact hxb z hz
    · rw [List.mem_singleton.1 hz]; exact ⟨hrl, hrn, hrs⟩
  obtain rfl : m = d := by omega
  clear hc
  refine q_fact (fun w hs => hs.ownSome (v := nv) (by repeat first | exact .head _ | refine .tail _ ?_) (by omega)) ?_
  rintro ⟨nb, nc, rfl⟩
  (refine q_exit _ rfl ?_; refine q_seq ?_; refine q_region ?_; refine ql_loadAB tabOk rfl rfl rfl (by repeat first | exact .head _ | refine .tail _ ?_) (by rfl) (by rfl) ?_; refine ql_setA tabOk rfl rfl rfl rfl rfl (by repeat constructor) rfl ?_; refine q_nil ?_; refine q_ret ?_)
  refine q_fin tabOk rfl (by repeat (first | exact RVs.nil | apply RVs.tmp rfl | apply RVs.cellA rfl rfl (by repeat first | exact .head _ | refine .tail _ ?_) (by rfl) | apply RVs.cell1 rfl rfl (by repeat first | exact .head _ | refine .tail _ ?_))) fun w hs => ?_
  obtain ⟨sn, rfl⟩ := Int.eq_ofNat_of_zero_le (show 0 ≤ sd by omega)
  have hdl' : dl.length = m := hdl
  have hms : ∀ (q : List Int), (∀ y ∈ q, 0 ≤ y) → q.sum = (T : Int) → ∀ y ∈ q, 0 ≤ y ∧ y ≤ (T : Int) := fun q h1 h2 y hy => ⟨h1 y hy, by have := le_sum q h1 y hy; omega⟩
  refine ⟨([un (rowsK xs), .ow (.slice (some ⟨nb, 0, none⟩) m nc) 22 1 m (rowsV xs), .pt fb (ints fl) 3, .ow (.slice (some ⟨db, 0, none⟩) m dc) 3 1 m (ints dl), .ow (.slice (some ⟨gb, 0, none⟩) k gc) 3 1 k (ints gl)], _, ⟨rad, unt, clk, T, gl, dl, fl, xs.map (·.2)⟩), ⟨rfl, ?_, ?_⟩, ?_⟩
  · intro w' h
    have g1 := h _ (.head _)
    have g2 := h _ (.tail _ (.head _))
    have g3 := h _ (.tail _ (.tail _ (.head _)))
    have g4 := h _ (.tail _ (.tail _ (.tail _ (.head _))))
    have g5 := h _ (.tail _ (.tail _ (.tail _ (.tail _ (.head _)))))
    refine ⟨0, w'.heap.size, some ⟨gb, 0, none⟩, gc, some ⟨db, 0, none⟩, dc, some ⟨fb, 0, none⟩, m, some ⟨nb, 0, none⟩, nc, ?_, ?_, ?_, ?_, ?_⟩
    · simp only [hgl1, hdl', hfl, List.length_map, hxl]
      rfl
    · simp only [hgl1]; exact own_rdI g5 hgl1.symm
    · simp only [hdl']; exact own_rdI g4 hdl'.symm
    · have g3' : Blk w' fb (ints fl) _ := g3
      exact Blk.rdI g3'
    · have := rows_rd' g1 g2
      simpa only [List.length_map, hxl] using this
  · have hmm : ∀ q ∈ xs.map (·.2), q.length = m ∧ (∀ z ∈ q, 0 ≤ z) ∧ q.sum = (T : Int) := fun q hq => by
      obtain ⟨y, hy, rfl⟩ := List.mem_map.1 hq
      exact hxb y hy
    have r1 : k % 2 = 1 := by omega
    have r2 : (gl.length : Int) = 2 * sn + 1 := by omega
    refine ⟨⟨by simp only; omega, by simp only; omega, by simp only; omega, by simp only; omega, by simp only; omega, by simp only; omega, by simp only [List.length_map]; omega, fun q hq => by simp only; rw [(hmm q hq).1, hdl'], by simp only; omega, by simp only; omega, by simp only; omega, by simp only; omega, fun y hy => by have := hdb y hy; omega, fun y hy => by have := hgb y hy; omega, hms fl hfn hfs, fun q hq => hms q (hmm q hq).2.1 (hmm q hq).2.2, by simp only; omega, hfs, fun q hq => (hmm q hq).2.2⟩,
      ⟨by simp only; omega, by simp only; omega, by simp only; omega, by simp only [List.length_map]; omega, fun q hq => by rw [(hmm q hq).1]; omega⟩, by simp only; omega, by simp only; omega, by simp only; omega, by simp only; omega, by simp only; omega, by simp only; omega, hdb, by simp only; omega, fun y hy => (hgb y hy).2⟩
  · have h1 : Sat _ (fun x => x = b) (dkP bs b (K + 40 + 6 * m) :: [un (rowsK xs), .ow (.slice (some ⟨nb, 0, none⟩) m nc) 22 1 m (rowsV xs), .pt fb (ints fl) 3, .ow (.slice (some ⟨db, 0, none⟩) m dc) 3 1 m (ints dl), .ow (.slice (some ⟨gb, 0, none⟩) k gc) 3 1 k (ints gl)]) _ := hs.sp (by repeat (first | exact Sp.nil | exact Sp.refl _ | refine Sp.cons (by repeat constructor) ?_))
    have h2 := Sat.dk h1 (K' := K + 100) (by omega)
    have h3 : Sat _ (fun x => x = b) ([un (rowsK xs), .ow (.slice (some ⟨nb, 0, none⟩) m nc) 22 1 m (rowsV xs), .pt fb (ints fl) 3, .ow (.slice (some ⟨db, 0, none⟩) m dc) 3 1 m (ints dl), .ow (.slice (some ⟨gb, 0, none⟩) k gc) 3 1 k (ints gl)] ++ [dkP bs b (K + 100)]) _ := h2.sp (by repeat (first | exact Sp.nil | exact Sp.refl _ | refine Sp.cons (by repeat constructor) ?_))
    exact Sat.un_iff.2 h3

end Go.Proofs.Ytohlillcaadidaa

/- Walks: draws of a deck that was made of bytes that came in. -/
namespace Go.Proofs.Ytohlillcaadidaa
open Go Go.Eng

section
variable {K b : Nat} {bs : Value} {w0 w : World} {R : List Ck}
theorem dk_new (hs : Sat w0 M0 (dkP bs b K :: R) w) : w0.heap.size ≤ b := (hs.bd _ (.head _) b rfl).2.resolve_left (fun h => h)
theorem btw0 {l h : Int} (hby : DkB w0 0 w0.heap.size bs) (hs : Sat w0 M0 (dkP bs b K :: R) w) (hl : -1000000 ≤ l) (hh : h ≤ 1000000) (hlh : l ≤ h) (hK : K < 1000000) :
    Ca Try.prog 40 [.pointer (some ⟨b, 0, none⟩), .int .i64 l, .int .i64 h] w fun v w' => ∃ x : Int, (v = .int .i64 x ∧ l ≤ x ∧ x ≤ h) ∧ Sat w (fun x => x = b) [dkP bs b (K + 1)] w' :=
  between_ca l h hl hh hlh K (by omega) w b 0 w0.heap.size _ (hby.keep hs.chg0) (dk_new hs) (hs.all _ (.head _))
theorem drw0 {n : Int} (hby : DkB w0 0 w0.heap.size bs) (hs : Sat w0 M0 (dkP bs b K :: R) w) (hn : 1 ≤ n) (hK : K < 1000000) :
    Ca Try.prog 41 [.pointer (some ⟨b, 0, none⟩), .int .i64 n] w fun v w' => ∃ x : Int, (v = .int .i64 x ∧ 0 ≤ x ∧ x ≤ n - 1) ∧ Sat w (fun x => x = b) [dkP bs b (K + 1)] w' :=
  (drawP_ca n K (by omega) w b 0 w0.heap.size _ (hby.keep hs.chg0) (dk_new hs) (hs.all _ (.head _))).mono fun v w' ⟨x, ⟨h1, h2, h3⟩, h4⟩ => ⟨x, ⟨h1, h2, by omega⟩, h4⟩
theorem made0 {states clicks side : Nat} (hby : DkB w0 0 w0.heap.size bs) (hs : Sat w0 M0 (dkP bs b K :: R) w) (h1 : 1 ≤ states) (h2 : states ≤ 5) (h3 : clicks ≤ 6) (h4 : side ≤ 4) (hK : K < 100000) :
    Ca Try.prog 38 [.pointer (some ⟨b, 0, none⟩), .int .i64 states, .int .i64 clicks, .int .i64 side] w fun v w' => ∃ x : List Ck × List Value × Rg, (v = .agg x.2.1.toArray ∧ OwnR x.1 x.2.1 x.2.2 ∧ MadeR states clicks side x.2.2) ∧ Sat w (fun x => x = b) [un x.1, dkP bs b (K + 100)] w' :=
  made_ca states clicks side h1 h2 h3 h4 K hK w b 0 w0.heap.size _ (hby.keep hs.chg0) (dk_new hs) (hs.all _ (.head _))
end
end Go.Proofs.Ytohlillcaadidaa

/- The plain law of WindRead: what flags read. -/
namespace Go.Proofs.Ytohlillcaadidaa
open Go Go.Eng

/-- A flag: its span, what is read of it, its weight. -/
abbrev Flg := Int × Int × Int × Int
def flP (t : Flg) : Int × Int := (t.1, t.2.1)
def loP (t : Flg) : Int × Int := (t.1, t.1)
def hiP (t : Flg) : Int × Int := (t.2.1, t.2.1)
def soP (t : Flg) : Int × Int := (t.2.2.1, t.2.2.1)
def FlgOk (t : Flg) : Prop := -60 ≤ t.1 ∧ t.1 ≤ t.2.1 ∧ t.2.1 ≤ 69 ∧ t.1 ≤ t.2.2.1 ∧ t.2.2.1 ≤ t.2.1 ∧ 0 ≤ t.2.2.2 ∧ t.2.2.2 ≤ 9
abbrev weF (t : Flg) : Int := t.2.2.2
def itS (its : List Flg) (g : Flg → Int) : Int := sumR (fun i => weF (its.getD i (0, 0, 0, 0)) * g (its.getD i (0, 0, 0, 0))) its.length
theorem getD_map {α β : Type} (f : α → β) (l : List α) (z : α) (i : Nat) : (l.map f).getD i (f z) = f (l.getD i z) := by
  simp only [List.getD_eq_getElem?_getD, List.getElem?_map]
  cases l[i]? <;> rfl
theorem drift_its (its : List Flg) (f : Flg → Int × Int) (h1 : 1 ≤ its.length) (h6 : its.length ≤ 6) (hok : ∀ t ∈ its, FlgOk t) (hf0 : f (0, 0, 0, 0) = (0, 0)) (hf : ∀ t, FlgOk t → spB 1000 (f t) = true) :
    driftV (its.map f) (its.map weF) = ((itS its (fun t => (f t).1), itS its (fun t => (f t).2)), 0) := by
  unfold driftV
  have e1 : inB ((its.map f).length : Int) 1 6 = true := inB_iff.2 (by simp; omega)
  have e2 : ((its.map weF).length : Int) = (its.map f).length := by simp
  have e3 : (its.map f).all (spB 1000) = true := by
    rw [List.all_map]
    exact List.all_eq_true.2 fun t ht => hf t (hok t ht)
  have e4 : (its.map weF).all (fun n => inB n 0 100) = true := by
    rw [List.all_map]
    exact List.all_eq_true.2 fun t ht => inB_iff.2 (by obtain ⟨_, _, _, _, _, h6, h7⟩ := hok t ht; show 0 ≤ t.2.2.2 ∧ t.2.2.2 ≤ 100; omega)
  rw [e1, e3, e4, if_neg (by decide), if_neg (by simp), if_neg (by decide), if_neg (by decide)]
  have g1 : ∀ i, (its.map weF).getD i 0 = weF (its.getD i (0, 0, 0, 0)) := fun i => getD_map weF its (0, 0, 0, 0) i
  have g2 : ∀ i, (its.map f).getD i (0, 0) = f (its.getD i (0, 0, 0, 0)) := fun i => by have := getD_map f its (0, 0, 0, 0) i; rw [hf0] at this; exact this
  simp only [drLo, drHi, g1, g2, itS, List.length_map]
theorem itS_le (its : List Flg) (g h : Flg → Int) (hok : ∀ t ∈ its, FlgOk t) (hgh : ∀ t, FlgOk t → g t ≤ h t) : itS its g ≤ itS its h := by
  unfold itS
  refine sumR_mono _ _ _ (fun i hi => ?_)
  have hm : its.getD i (0, 0, 0, 0) = its[i] := by simp [hi]
  have ho := hok its[i] (List.getElem_mem hi)
  rw [hm]
  have h0 : 0 ≤ weF its[i] := by simp only [FlgOk] at ho; exact ho.2.2.2.2.2.1
  exact Int.mul_le_mul_of_nonneg_left (hgh _ ho) h0
theorem flP_ok {t : Flg} (h : FlgOk t) : spB 1000 (flP t) = true := by
  obtain ⟨a, b, x, e⟩ := t
  obtain ⟨h1, h2, h3, h4, h5, h6, h7⟩ := h
  simp only at h1 h2 h3 h4 h5 h6 h7
  have g1 : a ≤ b := by omega
  have g2 : -1000 ≤ a := by omega
  have g3 : b ≤ 1000 := by omega
  show (decide (a ≤ b) && (decide (-1000 ≤ a) && decide (b ≤ 1000))) = true
  rw [decide_eq_true g1, decide_eq_true g2, decide_eq_true g3]
  rfl
theorem loP_ok {t : Flg} (h : FlgOk t) : spB 1000 (loP t) = true := by
  obtain ⟨a, b, x, e⟩ := t
  obtain ⟨h1, h2, h3, h4, h5, h6, h7⟩ := h
  simp only at h1 h2 h3 h4 h5 h6 h7
  have g1 : a ≤ a := by omega
  have g2 : -1000 ≤ a := by omega
  have g3 : a ≤ 1000 := by omega
  show (decide (a ≤ a) && (decide (-1000 ≤ a) && decide (a ≤ 1000))) = true
  rw [decide_eq_true g1, decide_eq_true g2, decide_eq_true g3]
  rfl
theorem hiP_ok {t : Flg} (h : FlgOk t) : spB 1000 (hiP t) = true := by
  obtain ⟨a, b, x, e⟩ := t
  obtain ⟨h1, h2, h3, h4, h5, h6, h7⟩ := h
  simp only at h1 h2 h3 h4 h5 h6 h7
  have g1 : b ≤ b := by omega
  have g2 : -1000 ≤ b := by omega
  have g3 : b ≤ 1000 := by omega
  show (decide (b ≤ b) && (decide (-1000 ≤ b) && decide (b ≤ 1000))) = true
  rw [decide_eq_true g1, decide_eq_true g2, decide_eq_true g3]
  rfl
theorem soP_ok {t : Flg} (h : FlgOk t) : spB 1000 (soP t) = true := by
  obtain ⟨a, b, x, e⟩ := t
  obtain ⟨h1, h2, h3, h4, h5, h6, h7⟩ := h
  simp only at h1 h2 h3 h4 h5 h6 h7
  have g1 : x ≤ x := by omega
  have g2 : -1000 ≤ x := by omega
  have g3 : x ≤ 1000 := by omega
  show (decide (x ≤ x) && (decide (-1000 ≤ x) && decide (x ≤ 1000))) = true
  rw [decide_eq_true g1, decide_eq_true g2, decide_eq_true g3]
  rfl
end Go.Proofs.Ytohlillcaadidaa

/- The plain laws of the wind, part 0. -/
namespace Go.Proofs.Ytohlillcaadidaa
open Go Go.Eng
theorem ratioV_scale (x y k : Int) (hk : 0 < k) : ratioV (x * k) (y * k) = ratioV x y := by
  unfold ratioV
  have e : ((Int.gcd (x * k) (y * k) : Nat) : Int) = (Int.gcd x y : Int) * k := by
    rw [Int.gcd_mul_right, Int.natCast_mul]
    congr 1
    omega
  rw [e, Int.mul_ediv_mul_of_pos_left _ _ hk, Int.mul_ediv_mul_of_pos_left _ _ hk]
theorem ratioV_eq {x y x' y' : Int} (hy : 0 < y) (hy' : 0 < y') (h : x * y' = x' * y) : ratioV x y = ratioV x' y' := by
  rw [← ratioV_scale x y y' hy', h, Int.mul_comm y y', ratioV_scale x' y' y hy]
theorem gcd_pos' (a : Int) {d : Int} (hd : 0 < d) : 0 < ((Int.gcd a d : Nat) : Int) := by
  have : Int.gcd a d ≠ 0 := by
    intro h
    have := (Int.gcd_eq_zero_iff.1 h).2
    omega
  omega
theorem ratioV_mul {a d : Int} (hd : 0 < d) : (ratioV a d).1 * d = a * (ratioV a d).2 := by
  unfold ratioV
  have h1 : ((Int.gcd a d : Nat) : Int) ∣ a := Int.gcd_dvd_left ..
  have h2 : ((Int.gcd a d : Nat) : Int) ∣ d := Int.gcd_dvd_right ..
  have h3 : a / ((Int.gcd a d : Nat) : Int) * d = a * d / ((Int.gcd a d : Nat) : Int) := by rw [Int.mul_comm, ← Int.mul_ediv_assoc d h1, Int.mul_comm]
  have h4 : a * (d / ((Int.gcd a d : Nat) : Int)) = a * d / ((Int.gcd a d : Nat) : Int) := by rw [Int.mul_ediv_assoc a h2]
  simp only
  rw [h3, h4]
theorem ratioV_pos {a d : Int} (ha : 0 ≤ a) (hd : 0 < d) : 0 ≤ (ratioV a d).1 ∧ (ratioV a d).1 ≤ a ∧ 1 ≤ (ratioV a d).2 ∧ (ratioV a d).2 ≤ d := by
  have hg := gcd_pos' a hd
  have h2 : ((Int.gcd a d : Nat) : Int) ∣ d := Int.gcd_dvd_right ..
  unfold ratioV
  refine ⟨Int.ediv_nonneg ha (by omega), Int.ediv_le_self _ ha, ?_, Int.ediv_le_self _ (by omega)⟩
  have := Int.le_of_dvd hd h2
  exact (Int.le_ediv_iff_mul_le hg).2 (by rw [Int.one_mul]; exact this)
/-- Fractions of one denominator. -/
theorem mul_lt_iff {a b c : Int} (hc : 0 < c) : a * c < b * c ↔ a < b := ⟨fun h => Int.lt_of_mul_lt_mul_right h (by omega), fun h => Int.mul_lt_mul_of_pos_right h hc⟩
theorem ratioV_lt {a b d : Int} (hd : 0 < d) (ha : 0 ≤ a) (hb : 0 ≤ b) : (ratioV a d).1 * (ratioV b d).2 < (ratioV b d).1 * (ratioV a d).2 ↔ a < b := by
  have h1 := ratioV_mul (a := a) hd
  have h2 := ratioV_mul (a := b) hd
  have p1 := ratioV_pos ha hd
  have p2 := ratioV_pos hb hd
  generalize ratioV a d = p at *
  generalize ratioV b d = q at *
  have hpp : 0 < p.2 * q.2 := Int.mul_pos (by omega) (by omega)
  rw [← mul_lt_iff (a := a) (b := b) (c := p.2 * q.2) hpp, ← mul_lt_iff (a := p.1 * q.2) (b := q.1 * p.2) hd]
  have e1 : p.1 * q.2 * d = a * (p.2 * q.2) := by rw [Int.mul_right_comm, h1, Int.mul_assoc]
  have e2 : q.1 * p.2 * d = b * (p.2 * q.2) := by rw [Int.mul_right_comm, h2, Int.mul_assoc, Int.mul_comm q.2]
  rw [e1, e2]
theorem less_ratio {a b d : Int} (hd : 0 < d) (ha : 0 ≤ a) (hb : 0 ≤ b) : lessB (ratioV a d) (ratioV b d) = (decide (a < b) && true) := by
  unfold lessB
  rw [decide_eq_decide.2 (ratioV_lt hd ha hb)]
theorem ratioV_inj {a b d : Int} (hd : 0 < d) (ha : 0 ≤ a) (hb : 0 ≤ b) (h : ratioV a d = ratioV b d) : a = b := by
  have h1 := ratioV_lt hd ha hb
  have h2 := ratioV_lt hd hb ha
  rw [h] at h1 h2
  omega
/-- The sum. -/
def plusV (a b : Int × Int) : Int × Int := ratioV (a.1 * b.2 + b.1 * a.2) (a.2 * b.2)
theorem plus_ratio {a d b e : Int} (hd : 0 < d) (he : 0 < e) (ha : 0 ≤ a) (hb : 0 ≤ b) : plusV (ratioV a d) (ratioV b e) = ratioV (a * e + b * d) (d * e) := by
  have h1 := ratioV_mul (a := a) hd
  have h2 := ratioV_mul (a := b) he
  have p1 := ratioV_pos ha hd
  have p2 := ratioV_pos hb he
  unfold plusV
  generalize ratioV a d = p at *
  generalize ratioV b e = q at *
  refine ratioV_eq (Int.mul_pos (by omega) (by omega)) (Int.mul_pos hd he) ?_
  rw [Int.add_mul, Int.add_mul]
  have e1 : p.1 * q.2 * (d * e) = (p.1 * d) * (q.2 * e) := by ac_rfl
  have e2 : q.1 * p.2 * (d * e) = (q.1 * e) * (p.2 * d) := by ac_rfl
  have e3 : a * e * (p.2 * q.2) = a * p.2 * (q.2 * e) := by ac_rfl
  have e4 : b * d * (p.2 * q.2) = b * q.2 * (p.2 * d) := by ac_rfl
  rw [e1, e2, e3, e4, h1, h2]

/-! The best click. -/
def kyC (c : Int) : Int := 2 * c.natAbs + if 0 < c then 1 else 0
theorem farL_key (C : Int) (far : Nat) : (∀ c ∈ farL C 0 far, c.natAbs = far) ∧ (farL C 0 far).Pairwise (fun a b => kyC a < kyC b) := by
  unfold farL
  split
  · subst_vars
    simp
  · rename_i h
    refine ⟨fun c hc => ?_, List.Pairwise.filter _ ?_⟩
    · have := (List.mem_filter.1 hc).1
      simp at this
      omega
    · simp [kyC]
      omega
theorem clickL_sorted (C : Int) : (clickL C 0).Pairwise (fun a b => kyC a < kyC b) := by
  unfold clickL clickP
  refine List.pairwise_flatMap.2 ⟨fun far _ => (farL_key C far).2, ?_⟩
  refine List.Pairwise.imp ?_ (List.pairwise_lt_range (n := (2 * C + 1).toNat))
  intro a b hab x hx y hy
  have h1 := (farL_key C a).1 x hx
  have h2 := (farL_key C b).1 y hy
  unfold kyC
  split <;> split <;> omega
theorem clickL_mem (C : Int) (hC : 0 ≤ C) (c : Int) : c ∈ clickL C 0 ↔ -C ≤ c ∧ c ≤ C := by
  constructor
  · intro h; exact inB_iff.1 (clickL_in C 0 (inB_iff.2 (by omega)) c h)
  · intro hc
    simp only [clickL, clickP, List.mem_flatMap, List.mem_range]
    refine ⟨c.natAbs, by omega, ?_⟩
    unfold farL
    split
    · simp; omega
    · refine List.mem_filter.2 ⟨?_, inB_iff.2 hc⟩
      simp
      omega
theorem best_first (q : Int → Int × Int) (f : Int → Int) : ∀ (l : List Int) (s : Int × (Int × Int)), s.2 = q s.1 → (∀ a b, (a = s.1 ∨ a ∈ l) → (b = s.1 ∨ b ∈ l) → lessB (q a) (q b) = (decide (f a < f b) && true)) →
    (l.foldl (bestStep q) s).2 = q (l.foldl (bestStep q) s).1 ∧ (((l.foldl (bestStep q) s).1 = s.1 ∧ ∀ c ∈ l, f s.1 ≤ f c) ∨ ∃ pre post, l = pre ++ (l.foldl (bestStep q) s).1 :: post ∧ f (l.foldl (bestStep q) s).1 < f s.1 ∧ (∀ c ∈ pre, f (l.foldl (bestStep q) s).1 < f c) ∧ ∀ c ∈ post, f (l.foldl (bestStep q) s).1 ≤ f c)
  | [], s, hs, _ => ⟨hs, .inl ⟨rfl, by simp⟩⟩
  | c :: l, s, hs, hq => by
    rw [List.foldl_cons]
    have hb : bestStep q s c = if f c < f s.1 then (c, q c) else s := by
      unfold bestStep
      rw [hs, hq _ _ (.inr List.mem_cons_self) (.inl rfl)]
      by_cases h : f c < f s.1 <;> simp [h]
    rw [hb]
    by_cases h : f c < f s.1
    · rw [if_pos h]
      obtain ⟨h1, h2⟩ := best_first q f l (c, q c) rfl (fun a b ha hb => hq a b (by rcases ha with rfl | ha; exact .inr List.mem_cons_self; exact .inr (List.mem_cons_of_mem _ ha)) (by rcases hb with rfl | hb; exact .inr List.mem_cons_self; exact .inr (List.mem_cons_of_mem _ hb)))
      refine ⟨h1, .inr ?_⟩
      rcases h2 with ⟨h3, h4⟩ | ⟨pre, post, h3, h4, h5, h6⟩
      · refine ⟨[], l, by rw [h3]; rfl, by rw [h3]; exact h, by simp, fun d hd => by rw [h3]; exact h4 d hd⟩
      · refine ⟨c :: pre, post, by rw [List.cons_append, ← h3], by simp only at h4; omega, fun d hd => ?_, h6⟩
        rcases List.mem_cons.1 hd with rfl | hd
        · exact h4
        · exact h5 d hd
    · rw [if_neg h]
      obtain ⟨h1, h2⟩ := best_first q f l s hs (fun a b ha hb => hq a b (ha.imp_right (List.mem_cons_of_mem _)) (hb.imp_right (List.mem_cons_of_mem _)))
      refine ⟨h1, ?_⟩
      rcases h2 with ⟨h3, h4⟩ | ⟨pre, post, h3, h4, h5, h6⟩
      · refine .inl ⟨h3, fun d hd => ?_⟩
        rcases List.mem_cons.1 hd with rfl | hd
        · omega
        · exact h4 d hd
      · refine .inr ⟨c :: pre, post, by rw [List.cons_append, ← h3], h4, fun d hd => ?_, h6⟩
        rcases List.mem_cons.1 hd with rfl | hd
        · omega
        · exact h5 d hd
/-- The best click: it has the least number, and of those with it, it is the first. -/
theorem best_law (q : Int → Int × Int) (f : Int → Int) (C : Int) (hC : 0 ≤ C) (hq : ∀ a b, -C ≤ a ∧ a ≤ C → -C ≤ b ∧ b ≤ C → lessB (q a) (q b) = (decide (f a < f b) && true)) :
    ∃ m, bestOf q (clickL C 0) = (m, q m) ∧ (-C ≤ m ∧ m ≤ C) ∧ (∀ c, -C ≤ c ∧ c ≤ C → f m ≤ f c) ∧ ∀ c, -C ≤ c ∧ c ≤ C → f c = f m → ¬ (c * c < m * m ∨ c = -m ∧ c < m) := by
  have h0 : (0 : Int) ∈ clickL C 0 := (clickL_mem C hC 0).2 (by omega)
  obtain ⟨h1, h2⟩ := best_first q f (clickL C 0) (0, q 0) rfl (fun a b ha hb => hq a b (by rcases ha with rfl | ha; simp only; omega; exact (clickL_mem C hC a).1 ha) (by rcases hb with rfl | hb; simp only; omega; exact (clickL_mem C hC b).1 hb))
  refine ⟨(bestOf q (clickL C 0)).1, Prod.ext rfl h1, ?_⟩
  have hky : ∀ c m : Int, (c * c < m * m ∨ c = -m ∧ c < m) → kyC c < kyC m := by
    intro c m h
    unfold kyC
    rcases h with h | ⟨rfl, h⟩
    · have : c.natAbs < m.natAbs := by
        refine Nat.lt_of_not_le fun hle => ?_
        have h1 := Nat.mul_le_mul hle hle
        have h2 : ((m.natAbs * m.natAbs : Nat) : Int) = m * m := Int.natAbs_mul_self
        have h3 : ((c.natAbs * c.natAbs : Nat) : Int) = c * c := Int.natAbs_mul_self
        omega
      split <;> split <;> omega
    · split <;> split <;> omega
  unfold bestOf
  generalize List.foldl (bestStep q) (0, q 0) (clickL C 0) = R at *
  rcases h2 with ⟨h3, h4⟩ | ⟨pre, post, h3, h4, h5, h6⟩
  · simp only at h3 h4
    rw [h3]
    refine ⟨by omega, fun c hc => h4 c ((clickL_mem C hC c).2 hc), fun c hc he hn => ?_⟩
    have := hky _ _ hn
    simp only [kyC] at this
    split at this <;> simp at this <;> omega
  · have hm : R.1 ∈ clickL C 0 := by rw [h3]; simp
    have hs := clickL_sorted C
    rw [h3] at hs
    have hpw := List.pairwise_append.1 hs
    refine ⟨(clickL_mem C hC _).1 hm, fun c hc => ?_, fun c hc he hn => ?_⟩
    · have := (clickL_mem C hC c).2 hc
      rw [h3] at this
      rcases List.mem_append.1 this with h | h
      · have := h5 c h; omega
      · rcases List.mem_cons.1 h with rfl | h
        · omega
        · exact h6 c h
    · have := (clickL_mem C hC c).2 hc
      have hk := hky _ _ hn
      rw [h3] at this
      rcases List.mem_append.1 this with h | h
      · have := h5 c h; omega
      · rcases List.mem_cons.1 h with rfl | h
        · omega
        · have := (List.pairwise_cons.1 hpw.2.1).1 c h
          omega
end Go.Proofs.Ytohlillcaadidaa

/- The plain laws of the wind, part 1. -/
namespace Go.Proofs.Ytohlillcaadidaa
open Go Go.Eng
theorem afterP_getD (r : Rg) (ws : List Int) (t : Nat) (ht : t < 5) : ∀ k, (afterP r ws k).getD t 0 = sumR (fun s => ws.getD s 0 * (r.next.getD s []).getD t 0) k
  | 0 => by
    simp only [afterP, sumR, List.getD_eq_getElem?_getD, List.getElem?_replicate, ht, if_true, Option.getD_some]
  | k + 1 => by
    have h1 : t < (afterP r ws k).length := by rw [afterP_length]; exact ht
    have h2 : t < (addRow (afterP r ws k) (ws.getD k 0) (r.next.getD k [])).length := by rw [addRow_length]; exact h1
    rw [afterP, List.getD_eq_getElem?_getD, List.getElem?_eq_getElem h2, Option.getD_some, addRow_get _ _ _ _ h1, afterP_getD r ws t ht k]
    rfl
theorem next_out {r : Rg} (hr : r.Right) (s t : Nat) (ht : r.drifts.length ≤ t) : (r.next.getD s []).getD t 0 = 0 := by
  by_cases h : s < r.next.length
  · have h1 : r.next.getD s [] = r.next[s] := by simp [List.getD_eq_getElem?_getD, h]
    have h2 := hr.rows _ (List.getElem_mem h)
    rw [h1, List.getD_eq_getElem?_getD, List.getElem?_eq_none (by omega)]
    rfl
  · have h1 : r.next.getD s [] = [] := by simp [List.getD_eq_getElem?_getD, List.getElem?_eq_none (Nat.le_of_not_lt h)]
    rw [h1]
    rfl
theorem wts0_getD {r : Rg} (hr : r.Right) (t : Nat) : (wts r 0).getD t 0 = r.first.getD t 0 := by
  unfold wts
  simp only [List.getD_eq_getElem?_getD]
  by_cases h : t < r.first.length
  · rw [List.getElem?_append_left h]
  · rw [List.getElem?_append_right (by omega), List.getElem?_eq_none (Nat.le_of_not_lt h)]
    rw [List.getElem?_drop, List.getElem?_replicate]
    split <;> rfl
theorem wtsS_getD (r : Rg) (k t : Nat) (ht : t < 5) : (wts r (k + 1)).getD t 0 = sumR (fun s => (wts r k).getD s 0 * (r.next.getD s []).getD t 0) r.next.length := by
  rw [wts, afterS, afterP_getD r _ t ht]
theorem wts_out {r : Rg} (hr : r.Right) (k t : Nat) (ht : r.drifts.length ≤ t) : (wts r k).getD t 0 = 0 := by
  cases k with
  | zero =>
    rw [wts0_getD hr, List.getD_eq_getElem?_getD, List.getElem?_eq_none (by have := hr.first; omega)]
    rfl
  | succ k =>
    by_cases h5 : t < 5
    · rw [wtsS_getD r k t h5]
      exact sumR_zero _ _ (fun i _ => by rw [next_out hr i t ht, Int.mul_zero])
    · rw [List.getD_eq_getElem?_getD, List.getElem?_eq_none (by rw [wts_length r hr]; omega)]
      rfl
theorem sumR_cut (f : Nat → Int) {n m : Nat} (hnm : n ≤ m) (h : ∀ i, n ≤ i → i < m → f i = 0) : sumR f m = sumR f n := by
  induction m with
  | zero => obtain rfl : n = 0 := by omega
            rfl
  | succ m ih =>
    by_cases hm : n ≤ m
    · rw [sumR, ih hm (fun i h1 h2 => h i h1 (by omega)), h m hm (by omega)]
      omega
    · obtain rfl : n = m + 1 := by omega
      rfl
theorem wts_all {r : Rg} (hr : r.Right) (k : Nat) : sumR (fun s => (wts r k).getD s 0) r.drifts.length = (wts r k).sum := by
  rw [← sumR_getD (wts r k) 5 (by rw [wts_length r hr k]; exact Nat.le_refl _)]
  exact (sumR_cut _ hr.d2 (fun i h _ => wts_out hr k i h)).symm
theorem wts_one {r : Rg} (hr : r.Right) : ∀ k, sumR (fun s => (wts r k).getD s 0) r.drifts.length = r.total ^ (k + 1)
  | 0 => by
    have h1 : (fun s => (wts r 0).getD s 0) = fun s => r.first.getD s 0 := funext fun s => wts0_getD hr s
    rw [h1, sumR_getD r.first _ (by rw [hr.first]; exact Nat.le_refl _), hr.fsum, Int.pow_succ]
    simp
  | k + 1 => by
    rw [wts_all hr, wts, afterS, afterP_sum r hr (wts r k) _ (Nat.le_refl _), hr.next, wts_one hr k, Int.pow_succ r.total (k + 1)]
theorem wts_le {r : Rg} (hr : r.Right) (k s : Nat) : 0 ≤ (wts r k).getD s 0 ∧ (wts r k).getD s 0 ≤ r.total ^ (k + 1) := by
  refine ⟨wts_getD r hr k s, ?_⟩
  by_cases hs : s < r.drifts.length
  · rw [← wts_one hr k]
    have h1 := sumR_up (fun s => (wts r k).getD s 0) (fun i => wts_getD r hr k i) (show s + 1 ≤ r.drifts.length by omega)
    have h2 := sumR_nonneg (fun s => (wts r k).getD s 0) (fun i => wts_getD r hr k i) s
    rw [sumR] at h1
    omega
  · rw [wts_out hr k s (by omega)]
    have := (tot_bd r hr (k + 1)).1
    omega
end Go.Proofs.Ytohlillcaadidaa

/- The plain laws of the wind, part 2. -/
namespace Go.Proofs.Ytohlillcaadidaa
open Go Go.Eng
theorem ratioV_le {a d m : Int} (hd : 0 < d) (h : a ≤ m * d) (hp : 0 ≤ (ratioV a d).2) : (ratioV a d).1 ≤ m * (ratioV a d).2 := by
  have h1 := ratioV_mul (a := a) hd
  have h2 : a * (ratioV a d).2 ≤ m * d * (ratioV a d).2 := Int.mul_le_mul_of_nonneg_right h hp
  rw [← h1, Int.mul_right_comm] at h2
  exact Int.le_of_mul_le_mul_right h2 hd
/-- Numbers of a range that was made: total at most 6, group at most 37. -/
structure Rg.Low (r : Rg) : Prop where
  right : r.Right
  total : r.total ≤ 6
  gsum : r.group.sum ≤ 37
theorem totk {r : Rg} (h : r.Low) (k : Nat) : 1 ≤ r.total ^ k ∧ r.total ^ k ≤ 6 ^ k := by
    have ht := h.right.total
    have h6 := h.total
    induction k with
    | zero => simp
    | succ k ih =>
      rw [Int.pow_succ, Int.pow_succ]
      have h1 := mul_bd0 (show 0 ≤ r.total ^ k ∧ r.total ^ k ≤ 6 ^ k by omega) (show 0 ≤ r.total ∧ r.total ≤ 6 by omega)
      have h2 : 1 * 1 ≤ r.total ^ k * r.total := Int.mul_le_mul ih.1 ht.1 (by omega) (by omega)
      omega
theorem tot6 {r : Rg} (h : r.Low) (k : Nat) (hk : k ≤ 6) : 1 ≤ r.total ^ k ∧ r.total ^ k ≤ 46656 := by
  have h1 := totk h k
  have h2 : (6 : Int) ^ k ≤ 6 ^ 6 := by
    have := Nat.pow_le_pow_right (show 0 < 6 by omega) hk
    have e : ((6 ^ k : Nat) : Int) = (6 : Int) ^ k := by simp
    rw [← e]
    omega
  omega
theorem den6 {r : Rg} (h : r.Low) (k : Nat) (hk : k ≤ 6) : 1 ≤ r.total ^ k * r.group.sum ∧ r.total ^ k * r.group.sum ≤ 1726272 := by
  have h1 := tot6 h k hk
  have h2 := h.right.gsum
  have h3 := h.gsum
  have h4 := mul_bd0 (show 0 ≤ r.total ^ k ∧ r.total ^ k ≤ 46656 by omega) (show 0 ≤ r.group.sum ∧ r.group.sum ≤ 37 by omega)
  have h5 : 1 * 1 ≤ r.total ^ k * r.group.sum := Int.mul_le_mul h1.1 h2.1 (by omega) (by omega)
  omega
abbrev chW (r : Rg) (k s : Nat) : Int := (wts r k).getD s 0
abbrev chX (r : Rg) (k s : Nat) : Int × Int := ratioV (chW r k s) (r.total ^ (k + 1))
def bsum (r : Rg) (c : Int) (k j : Nat) : Int × Int := ratioV ((expP r c k).1 * r.total + mulN r c (wts r k) j) (r.total ^ (k + 1) * r.group.sum)
def bone (r : Rg) (k j : Nat) : Int × Int := ratioV (sumR (fun s => (wts r k).getD s 0) j) (r.total ^ (k + 1))
theorem bsum_zero {r : Rg} (h : r.Low) (c : Int) (k : Nat) : bsum r c k 0 = ratioV (expP r c k).1 (r.total ^ k * r.group.sum) := by
  have ht := h.right.total
  unfold bsum
  rw [show mulN r c (wts r k) 0 = 0 from rfl, Int.add_zero, Int.pow_succ, Int.mul_right_comm (r.total ^ k)]
  exact ratioV_scale _ _ _ (by omega)
theorem ratioV_0 {d : Int} (hd : 0 < d) : ratioV 0 d = (0, 1) := by
  unfold ratioV
  have : ((Int.gcd 0 d : Nat) : Int) = d := by simp; omega
  rw [this, Int.ediv_self (by omega)]
  simp
theorem ratioV_1 {d : Int} (hd : 0 < d) : ratioV d d = (1, 1) := by
  unfold ratioV
  have : ((Int.gcd d d : Nat) : Int) = d := by simp; omega
  rw [this, Int.ediv_self (by omega)]
theorem bsum_00 {r : Rg} (h : r.Low) (c : Int) : bsum r c 0 0 = (0, 1) := by
  rw [bsum_zero h]
  have h1 := den6 h 0 (by omega)
  exact ratioV_0 (by omega)
theorem bsum_row {r : Rg} (h : r.Low) (c : Int) (k : Nat) (hk : k < 5) : bsum r c k r.drifts.length = bsum r c (k + 1) 0 := by
  rw [bsum_zero h, expP_succ r c k hk]
  rfl
theorem bsum_5 {r : Rg} (h : r.Low) (c : Int) : bsum r c 5 0 = expV r c := by
  rw [bsum_zero h]
  rfl
theorem bsum_num {r : Rg} (h : r.Low) (c : Int) (k j : Nat) (hk : k < 5 ∨ k = 5 ∧ j = 0) (hj : j ≤ 5) : 0 ≤ (expP r c k).1 * r.total + mulN r c (wts r k) j ∧ (expP r c k).1 * r.total + mulN r c (wts r k) j ≤ 12000000 := by
  have h1 := expP_bd r h.right c k (by omega)
  have h2 := mulN_bd r h.right c k j hj
  have h3 := den6 h k (by omega)
  have h4 := den6 h (k + 1) (by omega)
  have ht := h.right.total
  have h6 := h.total
  have h7 : 0 ≤ r.total ^ k * r.group.sum * k := Int.mul_nonneg (by omega) (by omega)
  have h5 : (expP r c k).1 * r.total ≤ r.total ^ k * r.group.sum * k * r.total := Int.mul_le_mul_of_nonneg_right h1.2.1 (by omega)
  have e : r.total ^ k * r.group.sum * k * r.total = r.total ^ (k + 1) * r.group.sum * k := by rw [Int.pow_succ]; ac_rfl
  have h8 : r.total ^ (k + 1) * r.group.sum * k ≤ 1726272 * 5 := by
    have := mul_bd0 (show 0 ≤ r.total ^ (k + 1) * r.group.sum ∧ r.total ^ (k + 1) * r.group.sum ≤ 1726272 by omega) (show 0 ≤ (k : Int) ∧ (k : Int) ≤ 5 by omega)
    omega
  have h9 : 0 ≤ (expP r c k).1 * r.total := Int.mul_nonneg h1.1 (by omega)
  omega
theorem bsum_bd {r : Rg} (h : r.Low) (c : Int) (k j : Nat) (hk : k < 5 ∨ k = 5 ∧ j = 0) (hj : j ≤ 5) : 0 ≤ (bsum r c k j).1 ∧ (bsum r c k j).1 ≤ 12000000 ∧ 1 ≤ (bsum r c k j).2 ∧ (bsum r c k j).2 ≤ 1726272 := by
  have h1 := bsum_num h c k j hk hj
  have h2 := den6 h (k + 1) (by omega)
  have h3 := ratioV_pos h1.1 (d := r.total ^ (k + 1) * r.group.sum) (by omega)
  unfold bsum
  omega
theorem chX_bd {r : Rg} (h : r.Low) (k s : Nat) (hk : k < 5) : 0 ≤ (chX r k s).1 ∧ (chX r k s).1 ≤ 1 * (chX r k s).2 ∧ 1 ≤ (chX r k s).2 ∧ (chX r k s).2 ≤ 46656 := by
  have h1 : 0 ≤ chW r k s ∧ chW r k s ≤ r.total ^ (k + 1) := wts_le h.right k s
  have h2 := tot6 h (k + 1) (by omega)
  have h3 := ratioV_pos h1.1 (d := r.total ^ (k + 1)) (by omega)
  have h4 := ratioV_le (m := 1) (a := chW r k s) (d := r.total ^ (k + 1)) (by omega) (by omega) (by omega)
  exact ⟨h3.1, h4, h3.2.2.1, Int.le_trans h3.2.2.2 h2.2⟩
theorem bone_bd {r : Rg} (h : r.Low) (k j : Nat) (hk : k < 5) (hj : j ≤ r.drifts.length) : 0 ≤ (bone r k j).1 ∧ (bone r k j).1 ≤ 46656 ∧ 1 ≤ (bone r k j).2 ∧ (bone r k j).2 ≤ 46656 := by
  have h1 := sumR_up (fun s => (wts r k).getD s 0) (fun i => wts_getD r h.right k i) hj
  have h2 := sumR_nonneg (fun s => (wts r k).getD s 0) (fun i => wts_getD r h.right k i) j
  have h3 := wts_one h.right k
  have h4 := tot6 h (k + 1) (by omega)
  have h5 := ratioV_pos h2 (d := r.total ^ (k + 1)) (by omega)
  unfold bone
  omega
theorem bone_0 {r : Rg} (h : r.Low) (k : Nat) (hk : k < 5) : bone r k 0 = (0, 1) := by
  have h4 := tot6 h (k + 1) (by omega)
  exact ratioV_0 (by omega)
theorem bone_all {r : Rg} (h : r.Low) (k : Nat) (hk : k < 5) : bone r k r.drifts.length = (1, 1) := by
  have h4 := tot6 h (k + 1) (by omega)
  unfold bone
  rw [wts_one h.right]
  exact ratioV_1 (by omega)
theorem bone_step {r : Rg} (h : r.Low) (k j : Nat) (hk : k < 5) : plusV (bone r k j) (chX r k j) = bone r k (j + 1) := by
  have h2 := sumR_nonneg (fun s => (wts r k).getD s 0) (fun i => wts_getD r h.right k i) j
  have h4 := tot6 h (k + 1) (by omega)
  unfold bone
  rw [plus_ratio (by omega) (by omega) h2 (wts_le h.right k j).1, ← Int.add_mul]
  exact ratioV_scale _ _ _ (by omega)
abbrev hitX (r : Rg) (s : Nat) (c : Int) : Int × Int := ratioV (r.group.sum - missS r (r.drifts.getD s 0) c) r.group.sum
theorem hitX_bd {r : Rg} (h : r.Low) (s : Nat) (c : Int) : 0 ≤ (hitX r s c).1 ∧ (hitX r s c).1 ≤ 1 * (hitX r s c).2 ∧ 1 ≤ (hitX r s c).2 ∧ (hitX r s c).2 ≤ 37 := by
  have h1 := missS_bd r h.right (r.drifts.getD s 0) c
  have h2 := h.right.gsum
  have h3 := h.gsum
  have h4 := ratioV_pos (a := r.group.sum - missS r (r.drifts.getD s 0) c) (d := r.group.sum) (by omega) (by omega)
  have h5 := ratioV_le (m := 1) (a := r.group.sum - missS r (r.drifts.getD s 0) c) (d := r.group.sum) (by omega) (by omega) (by omega)
  exact ⟨h4.1, h5, h4.2.2.1, Int.le_trans h4.2.2.2 h3⟩
/-- The chance of a state times that of a miss. -/
theorem miss_at {r : Rg} (h : r.Low) (k s : Nat) (c : Int) (hk : k < 5) : plusV (0, 1) ((chX r k s).1 * ((hitX r s c).2 - (hitX r s c).1), (chX r k s).2 * (hitX r s c).2) = ratioV (chW r k s * missS r (r.drifts.getD s 0) c) (r.total ^ (k + 1) * r.group.sum) := by
  have h2 := h.right.gsum
  have h4 := tot6 h (k + 1) (by omega)
  have p1 := chX_bd h k s hk
  have p2 := hitX_bd h s c
  have m1 : (chX r k s).1 * r.total ^ (k + 1) = chW r k s * (chX r k s).2 := ratioV_mul (by omega)
  have m2 : (hitX r s c).1 * r.group.sum = (r.group.sum - missS r (r.drifts.getD s 0) c) * (hitX r s c).2 := ratioV_mul (by omega)
  unfold plusV
  simp only [Int.zero_mul, Int.zero_add, Int.mul_one, Int.one_mul]
  refine ratioV_eq (Int.mul_pos (by omega) (by omega)) (Int.mul_pos (by omega) (by omega)) ?_
  generalize chX r k s = x at *
  generalize hitX r s c = y at *
  have e1 : (y.2 - y.1) * r.group.sum = missS r (r.drifts.getD s 0) c * y.2 := by
    rw [Int.sub_mul, m2, Int.sub_mul, Int.mul_comm y.2]
    omega
  have e2 : x.1 * (y.2 - y.1) * (r.total ^ (k + 1) * r.group.sum) = (x.1 * r.total ^ (k + 1)) * ((y.2 - y.1) * r.group.sum) := by ac_rfl
  rw [e2, m1, e1]
  ac_rfl
theorem miss_bd {r : Rg} (h : r.Low) (k s : Nat) (c : Int) (hk : k < 5) : 0 ≤ (chX r k s).1 * ((hitX r s c).2 - (hitX r s c).1) ∧ (chX r k s).1 * ((hitX r s c).2 - (hitX r s c).1) ≤ 46656 * 37 ∧ 1 ≤ (chX r k s).2 * (hitX r s c).2 ∧ (chX r k s).2 * (hitX r s c).2 ≤ 46656 * 37 := by
  have p1 := chX_bd h k s hk
  have p2 := hitX_bd h s c
  generalize chX r k s = x at *
  generalize hitX r s c = y at *
  have h1 := mul_bd0 (show 0 ≤ x.1 ∧ x.1 ≤ 46656 by omega) (show 0 ≤ y.2 - y.1 ∧ y.2 - y.1 ≤ 37 by omega)
  have h2 := mul_bd0 (show 0 ≤ x.2 ∧ x.2 ≤ 46656 by omega) (show 0 ≤ y.2 ∧ y.2 ≤ 37 by omega)
  have h3 : 0 < x.2 * y.2 := Int.mul_pos (by omega) (by omega)
  omega
theorem mulN_suc (r : Rg) (c : Int) (k j : Nat) : mulN r c (wts r k) (j + 1) = mulN r c (wts r k) j + chW r k j * missS r (r.drifts.getD j 0) c := rfl
theorem bsum_step {r : Rg} (h : r.Low) (c : Int) (k j : Nat) (hk : k < 5) (hj : j ≤ 5) : plusV (bsum r c k j) (ratioV (chW r k j * missS r (r.drifts.getD j 0) c) (r.total ^ (k + 1) * r.group.sum)) = bsum r c k (j + 1) := by
  have h1 := bsum_num h c k j (.inl hk) hj
  have h2 := den6 h (k + 1) (by omega)
  have h3 := Int.mul_nonneg (wts_le h.right k j).1 (missS_bd r h.right (r.drifts.getD j 0) c).1
  unfold bsum
  rw [plus_ratio (by omega) (by omega) h1.1 h3, ← Int.add_mul, mulN_suc, ← Int.add_assoc]
  exact ratioV_scale _ _ _ (by omega)
theorem expV_bd {r : Rg} (h : r.Low) (c : Int) : 0 ≤ (expV r c).1 ∧ (expV r c).1 ≤ 5 * (expV r c).2 ∧ 1 ≤ (expV r c).2 ∧ (expV r c).2 ≤ 287712 := by
  have h1 := expP_bd r h.right c 5 (by omega)
  have h2 := den6 h 5 (by omega)
  have h3 := h.right.gsum
  have h5 : r.total ^ 5 * r.group.sum ≤ 287712 := by
    have a : r.total ^ 5 ≤ 6 ^ 5 := (totk h 5).2
    have b := tot6 h 5 (by omega)
    have := mul_bd0 (show 0 ≤ r.total ^ 5 ∧ r.total ^ 5 ≤ 7776 by omega) (show 0 ≤ r.group.sum ∧ r.group.sum ≤ 37 by have := h.gsum; omega)
    omega
  have h6 := ratioV_pos h1.1 (d := r.total ^ 5 * r.group.sum) (by omega)
  have h7 := ratioV_le (m := 5) (a := (expP r c 5).1) (d := r.total ^ 5 * r.group.sum) (by omega) (by rw [Int.mul_comm]; exact h1.2.1) (by omega)
  unfold expV
  exact ⟨h6.1, h7, by omega, by omega⟩
theorem expV_less {r : Rg} (h : r.Low) (a b : Int) : lessB (expV r a) (expV r b) = (decide ((expP r a 5).1 < (expP r b 5).1) && true) :=
  less_ratio (by have := den6 h 5 (by omega); omega) (expP_bd r h.right a 5 (by omega)).1 (expP_bd r h.right b 5 (by omega)).1
theorem expV_inj {r : Rg} (h : r.Low) {a b : Int} (he : expV r a = expV r b) : (expP r a 5).1 = (expP r b 5).1 :=
  ratioV_inj (by have := den6 h 5 (by omega); omega) (expP_bd r h.right a 5 (by omega)).1 (expP_bd r h.right b 5 (by omega)).1 he
/-- The best click. -/
theorem best_of {r : Rg} (h : r.Low) : ∃ m, bestV r = (m, expV r m, 0) ∧ (-r.clicks ≤ m ∧ m ≤ r.clicks) ∧ (∀ c, -r.clicks ≤ c ∧ c ≤ r.clicks → (expP r m 5).1 ≤ (expP r c 5).1) ∧
    ∀ c, -r.clicks ≤ c ∧ c ≤ r.clicks → (expP r c 5).1 = (expP r m 5).1 → ¬ (c * c < m * m ∨ c = -m ∧ c < m) := by
  obtain ⟨m, h1, h2, h3, h4⟩ := best_law (expV r) (fun c => (expP r c 5).1) r.clicks h.right.clicks.1 (fun a b _ _ => expV_less h a b)
  refine ⟨m, ?_, h2, h3, h4⟩
  have hc := (right_check r).2 h.right
  unfold bestV
  rw [hc, h1]
  rfl
end Go.Proofs.Ytohlillcaadidaa

/- The plain laws of the wind, part 3. -/
namespace Go.Proofs.Ytohlillcaadidaa
open Go Go.Eng
/-! Fractions, part by part. -/
theorem quo_lt {a d b e : Int} (hd : 0 < d) (he : 0 < e) (h : a / d < b / e) : a * e < b * d := by
  have h1 : a < d * (a / d + 1) := by rw [Int.mul_comm]; exact Int.lt_ediv_add_one_mul_self a hd
  have h2 : d * (a / d + 1) ≤ d * (b / e) := Int.mul_le_mul_of_nonneg_left (by omega) (by omega)
  have h3 : b / e * e ≤ b := Int.ediv_mul_le b (by omega)
  have h4 : a * e < d * (b / e) * e := Int.mul_lt_mul_of_pos_right (by omega) he
  have h5 : b / e * e * d ≤ b * d := Int.mul_le_mul_of_nonneg_right h3 (by omega)
  have h6 : d * (b / e) * e = b / e * e * d := by ac_rfl
  omega
theorem quo_ne {a d b e : Int} (hd : 0 < d) (he : 0 < e) (h : a / d ≠ b / e) : a / d < b / e ↔ a * e < b * d := by
  constructor
  · exact quo_lt hd he
  · intro h1
    rcases Int.lt_or_gt_of_ne h with h2 | h2
    · exact h2
    · have := quo_lt he hd h2
      omega
theorem quo_eq {a d b e : Int} (h : a / d = b / e) : a * e < b * d ↔ a % d * e < b % e * d := by
  have h1 := Int.mul_ediv_add_emod a d
  have h2 := Int.mul_ediv_add_emod b e
  have e1 : a * e = d * (a / d) * e + a % d * e := by rw [← Int.add_mul, h1]
  have e2 : b * d = e * (b / e) * d + b % e * d := by rw [← Int.add_mul, h2]
  have e3 : d * (a / d) * e = e * (b / e) * d := by rw [h]; ac_rfl
  rw [e1, e2, e3]
  omega
/-- One fraction is less than another one. -/
def overB (a b : Int × Int) : Bool := decide (a.1 * b.2 < b.1 * a.2) && true
theorem over_0 {x y u v : Int} (hx : 0 ≤ x) (hy : 0 < y) (hu : 0 ≤ u) (hv : 0 < v) (h : x = 0 ∨ u = 0) : x * v < u * y ↔ x = 0 ∧ 0 < u := by
  rcases h with rfl | rfl
  · constructor
    · intro h
      refine ⟨rfl, ?_⟩
      rcases Int.lt_or_eq_of_le hu with h1 | rfl
      · exact h1
      · omega
    · rintro ⟨_, h⟩
      have := Int.mul_pos h hy
      omega
  · constructor
    · intro h
      have := Int.mul_nonneg hx (show 0 ≤ v by omega)
      omega
    · rintro ⟨_, h⟩
      omega
end Go.Proofs.Ytohlillcaadidaa
