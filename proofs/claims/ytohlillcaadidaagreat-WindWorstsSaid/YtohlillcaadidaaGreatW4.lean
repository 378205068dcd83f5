/- My texts Q8, Q9, Q10, U0, U1, D1, D2, D3, D4, D5, D6, B13, D7, D8, R1, X0, Y0, X1, X2, X3, X4, X5, X6, X7, X8, X9, X10, X11, Y1, E2, E3, B14, B15, H0, H1, H2, H3, E4, E5, E6, H4, H5, H6, M0, E7, joined: a claim takes at most 60 files. -/
import Derived.Test.YtohlillcaadidaaGreatW3

/- Walks: Proves. -/
namespace Go.Proofs.YtohlillcaadidaaGreat
open Go Go.Eng

/-- The place of a situation in its list. -/
def idxP (r : Rg) (p : Ru) (x : Plc) : Nat := ((x.1 * (p.waits + 1).toNat + x.2.1) * r.drifts.length + x.2.2.1) * (2 * r.clicks + 1).toNat + (x.2.2.2 + r.clicks).toNat
theorem idx_flat (m c : Nat) : ∀ n, (List.range n).flatMap (fun i => (List.range m).map (fun j => (c + i) * m + j)) = (List.range (n * m)).map (fun j => c * m + j)
  | 0 => by simp
  | n + 1 => by
    rw [rangeF_succ, idx_flat m c n, Nat.succ_mul, List.range_add, List.map_append, List.map_map]
    congr 1
    refine List.map_congr_left fun j _ => ?_
    simp only [Function.comp, Nat.add_mul]
    omega
theorem pl3_idx (r : Rg) (p : Ru) (sh wt st : Nat) : (pl3 r sh wt st).map (idxP r p) = (List.range (2 * r.clicks + 1).toNat).map (fun j => ((sh * (p.waits + 1).toNat + wt) * r.drifts.length + st) * (2 * r.clicks + 1).toNat + j) := by
  rw [pl3, List.map_flatMap]
  have : ∀ i, (pl4 r sh wt st i).map (idxP r p) = [((sh * (p.waits + 1).toNat + wt) * r.drifts.length + st) * (2 * r.clicks + 1).toNat + i] := fun i => by
    simp only [pl4, idxP, List.map_cons, List.map_nil]
    congr 2
    omega
  simp only [this]
  exact List.map_eq_flatMap.symm
theorem pl2_idx (r : Rg) (p : Ru) (sh wt : Nat) : (pl2 r sh wt).map (idxP r p) = (List.range (r.drifts.length * (2 * r.clicks + 1).toNat)).map (fun j => (sh * (p.waits + 1).toNat + wt) * (r.drifts.length * (2 * r.clicks + 1).toNat) + j) := by
  rw [pl2, List.map_flatMap]
  simp only [pl3_idx]
  rw [idx_flat]
  simp only [Nat.mul_assoc]
theorem pl1_idx (r : Rg) (p : Ru) (sh : Nat) : (pl1 r p sh).map (idxP r p) = (List.range ((p.waits + 1).toNat * (r.drifts.length * (2 * r.clicks + 1).toNat))).map (fun j => sh * ((p.waits + 1).toNat * (r.drifts.length * (2 * r.clicks + 1).toNat)) + j) := by
  rw [pl1, List.map_flatMap]
  simp only [pl2_idx]
  rw [idx_flat]
  simp only [Nat.mul_assoc]
theorem plcL_idx (r : Rg) (p : Ru) : (plcL r p).map (idxP r p) = List.range (plcL r p).length := by
  rw [plcL_length, plcL, List.map_flatMap]
  simp only [pl1_idx]
  have := idx_flat ((p.waits + 1).toNat * (r.drifts.length * (2 * r.clicks + 1).toNat)) 0 5
  simp only [Nat.zero_add, Nat.zero_mul] at this
  rw [this]
  simp
theorem idx_at (r : Rg) (p : Ru) {pre post : List Plc} {x : Plc} (h : plcL r p = pre ++ x :: post) : idxP r p x = pre.length := by
  have h1 := plcL_idx r p
  have h2 : ((plcL r p).map (idxP r p))[pre.length]? = (List.range (plcL r p).length)[pre.length]? := by rw [h1]
  rw [h] at h2
  simpa using h2

/-- Values that are given. -/
def gV (r : Rg) (p : Ru) (l : List Int) (sh wt st : Nat) (cl : Int) : Int := l.getD (idxP r p (sh, wt, st, cl)) 0
/-- Some of the given values, and none beyond the bound. -/
def GoodW (r : Rg) (p : Ru) (l : List Int) (pre : List Plc) (vf : Vf) : Prop := (∀ sh wt st cl, (sh, wt, st, cl) ∈ pre → vf sh wt st cl = some (gV r p l sh wt st cl)) ∧ ∀ a b c d v, vf a b c d = some v → 0 ≤ v ∧ v ≤ 1000000000000000
theorem GoodW.put {r : Rg} {p : Ru} {l : List Int} {pre post : List Plc} {vf : Vf} {sh wt st : Nat} {cl : Int} (h : GoodW r p l pre vf) (hx : plcL r p = pre ++ (sh, wt, st, cl) :: post) (hl : l.length = (plcL r p).length) (hb : ∀ v ∈ l, 0 ≤ v ∧ v ≤ 1000000000000000) :
    ∃ h : pre.length < l.length, GoodW r p l (pre ++ [(sh, wt, st, cl)]) (updF vf sh wt st cl l[pre.length]) := by
  have hk : pre.length < l.length := by rw [hl, hx]; simp
  have hi := idx_at r p hx
  have hg : gV r p l sh wt st cl = l[pre.length] := by unfold gV; rw [hi]; simp [hk]
  refine ⟨hk, fun a b c d hm => ?_, fun a b c d v hv => ?_⟩
  · unfold updF
    split
    · rename_i hq
      obtain ⟨h1, h2, h3, rfl⟩ := hq
      obtain rfl : a = sh := by omega
      obtain rfl : b = wt := by omega
      obtain rfl : c = st := by omega
      rw [hg]
    · rename_i hq
      rcases List.mem_append.1 hm with hm | hm
      · exact h.1 _ _ _ _ hm
      · rw [List.mem_singleton] at hm
        cases hm
        exact absurd ⟨rfl, rfl, rfl, rfl⟩ hq
  · unfold updF at hv
    split at hv
    · cases hv
      exact hb _ (List.getElem_mem hk)
    · exact h.2 _ _ _ _ _ hv
theorem GoodW.fine {r : Rg} {p : Ru} {l : List Int} {pre : List Plc} {vf : Vf} (h : GoodW r p l pre vf) (sh wt : Nat) : FineV r vf sh wt := by
  intro t c ht hc
  cases hv : vf sh wt t c with
  | none =>
    have : gvF vf sh wt t c = 0 := by unfold gvF; rw [hv]; rfl
    rw [this]; omega
  | some v =>
    have : gvF vf sh wt t c = v := by unfold gvF; rw [hv]; rfl
    rw [this]
    exact h.2 _ _ _ _ _ hv

abbrev prL (bm b10 : Nat) (s : Vf × Nat) : List Ck := [mpV bm s.1, .pt b10 [.int .i64 s.2] 3]

set_option maxHeartbeats 2000000 in
theorem proves2_ca (w : World) (bp bd bm b5 b8 b10 : Nat) (p : Ru) (tp t5 t8 : TypeId) (lo hi : Nat) (vs : Value) (l : List Int) (s : Vf × Nat) (sh wt st cl : Int) (hk : s.2 < l.length) (hlen : l.length ≤ 1000000)
    (hsat : Sat w (DL (prL bm b10 s)) (prL bm b10 s) w)
    (hb5 : ∀ w', ChgP (DL (prL bm b10 s)) w w' → Blk w' b5 [vs] t5)
    (hb8 : ∀ w', ChgP (DL (prL bm b10 s)) w w' → Blk w' b8 [.pointer (some ⟨bp, 0, none⟩)] t8)
    (hplb : ∀ w', ChgP (DL (prL bm b10 s)) w w' → Blk w' bp [.pointer (some ⟨bd, 0, none⟩), .int .i64 p.miss, .int .i64 p.click, .int .i64 p.wait, .int .i64 p.waits, .map (some bm)] tp)
    (hval : ∀ w', ChgP (DL (prL bm b10 s)) w w' → RdI w' lo hi vs l) :
    Ca Tryz.prog 92 [plcV sh wt st cl, .pointer (some ⟨b5, 0, none⟩), .pointer (some ⟨b10, 0, none⟩), .pointer (some ⟨b8, 0, none⟩)] w fun _ w' => Sat w (DL (prL bm b10 s)) (prL bm b10 (updF s.1 sh wt st cl l[s.2], s.2 + 1)) w' := by
  obtain ⟨vf, k⟩ := s
  simp only at hk
  obtain ⟨a, cap, rfl, hsd⟩ := (hval w (ChgP.refl _ _)).outI
  obtain ⟨bv, ov, rfl⟩ := hsd (by omega)
  refine q_of (H := prL bm b10 (vf, k)) hsat Tryz.func92 rfl (by simp [Tryz.ntmps92]) ?_
  (refine q_seq ?_; refine q_region ?_)
  refine ql_box rfl rfl (fun b4 => ?_)
  (refine q_nil ?_; refine q_seq ?_)
  refine q_draw _ [mpV bm vf] (Sp.cons (by repeat constructor) (Sp.refl _)) (by kernel_rfl) (by kernel_rfl) ?_
  (refine qf_loadG tabOk rfl rfl rfl (by assumption) (by rfl) ?_; (iterate 2 refine qf_pure tabOk rfl rfl rfl ?_); refine qf_loadG tabOk rfl rfl rfl (by assumption) (by rfl) ?_; refine qf_loadAB tabOk rfl rfl rfl (by repeat first | exact .head _ | refine .tail _ ?_) (by rfl) (by rfl) ?_; refine qf_loadG tabOk rfl rfl rfl (by assumption) (by rfl) ?_; refine qf_loadB tabOk rfl rfl rfl (by repeat first | exact .head _ | refine .tail _ ?_) (by rfl) ?_)
  (refine qf_index tabOk rfl rfl rfl rfl rfl (by omega) (by omega) ?_; refine qf_load1 tabOk rfl rfl rfl (fun w hs => RdI.at (hval w hs.chg) k hk) ?_)
  skip
  refine qf_mapUpd plc_key plc_map rfl rfl rfl (plcV_key _ _ _ _) (by repeat constructor) ?_
  (refine qf_nil ?_; refine q_region ?_; refine ql_loadB tabOk rfl rfl rfl (by repeat first | exact .head _ | refine .tail _ ?_) (by rfl) ?_; refine ql_ar tabOk rfl rfl rfl rfl (by omega) (by omega) ?_; refine ql_set tabOk rfl rfl rfl rfl (by repeat constructor) ?_; refine q_nil ?_)
  refine q_end tabOk rfl (by repeat (first | exact RVs.nil | apply RVs.tmp rfl | apply RVs.cellA rfl rfl (by repeat first | exact .head _ | refine .tail _ ?_) (by rfl) | apply RVs.cell1 rfl rfl (by repeat first | exact .head _ | refine .tail _ ?_))) fun w hs => ?_
  have h1 := (hs.sp (H' := _ :: [.pt b10 [.int .i64 (k + 1)] 3]) (Sp.cons (by repeat constructor) (by repeat (first | exact Sp.nil | exact Sp.refl _ | refine Sp.cons (by repeat constructor) ?_)))).mapC (updF_lift vf sh wt st cl _)
  exact h1

/-- A given value is not above what the best choice costs. -/
def holdV (r : Rg) (p : Ru) (g : Nat → Nat → Nat → Int → Int) (x : Plc) : Bool := decide (g x.1 x.2.1 x.2.2.1 x.2.2.2 ≤ (chV r p (g (x.1 + 1) x.2.1) (g x.1 (x.2.1 - 1)) x.1 x.2.1 x.2.2.1 x.2.2.2).2) && true

set_option maxHeartbeats 2000000 in
theorem proves3_ca (w : World) (bp bd bm b8 b11 : Nat) (r : Rg) (p : Ru) (hr : r.Right) (hp : p.Right) (t8 : TypeId) (l : List Int) (vf : Vf) (b : Bool) (sh wt st : Nat) (cl : Int) (hmem : (sh, wt, st, cl) ∈ plcL r p) (hW : GoodW r p l (plcL r p) vf)
    (hsat : Sat w (· = b11) [.pt b11 [.bool b] 4] w)
    (hb8 : ∀ w', ChgP (· = b11) w w' → Blk w' b8 [.pointer (some ⟨bp, 0, none⟩)] t8)
    (hpl : ∀ w', ChgP (· = b11) w w' → PlAt w' bp bd bm r p)
    (hm : ∀ w', ChgP (· = b11) w w' → MapAt w' bm (keyF k4) eqV (liftF vf)) :
    Ca Tryz.prog 93 [plcV sh wt st cl, .pointer (some ⟨b8, 0, none⟩), .pointer (some ⟨b11, 0, none⟩)] w fun _ w' => Sat w (· = b11) [.pt b11 [.bool (b && holdV r p (gV r p l) (sh, wt, st, cl))] 4] w' := by
  have h1 := hpl w (ChgP.refl _ _)
  obtain ⟨tp, hplb, hdk⟩ := h1; have hdk0 := hdk; obtain ⟨cs, bt, hblk, lo, hi, ag, cg, ad, cd, af, cf, an, cn, rfl, hg, hdr, hf, hn⟩ := hdk
  obtain ⟨h5, hwt, hst, hcl⟩ := (plcL_mem r p sh wt st cl).1 hmem
  have hw3 : wt ≤ 3 := by have := hp.waits; omega
  have hplb : ∀ w', ChgP (· = b11) w w' → Blk w' bp [.pointer (some ⟨bd, 0, none⟩), .int .i64 p.miss, .int .i64 p.click, .int .i64 p.wait, .int .i64 p.waits, .map (some bm)] tp := fun w' c => by
    obtain ⟨t', h1', _⟩ := hpl w' c
    have e := c.block bp hplb.lt (fun h => by
      subst h
      have := hsat.blk (b := bp) (.head _)
      unfold Blk at this hplb
      rw [this] at hplb
      simp at hplb)
    exact e.trans hplb
  have hch : chV r p (gvF vf (sh + 1) wt) (gvF vf sh (wt - 1)) sh wt st cl = chV r p (gV r p l (sh + 1) wt) (gV r p l sh (wt - 1)) sh wt st cl := by
    refine chV_congr r p _ _ _ _ sh wt st cl hcl (fun h4 t c ht hc => ?_) (fun h0 t ht => ?_)
    · show (vf ((sh + 1 : Nat) : Int) wt t c).getD 0 = _
      rw [hW.1 (sh + 1) wt t c ((plcL_mem r p _ _ _ _).2 ⟨by omega, hwt, ht, hc⟩)]; rfl
    · show (vf sh ((wt - 1 : Nat) : Int) t cl).getD 0 = _
      rw [hW.1 sh (wt - 1) t cl ((plcL_mem r p _ _ _ _).2 ⟨by omega, by omega, ht, hcl⟩)]; rfl
  have hvx := hW.1 sh wt st cl hmem
  obtain ⟨cv, hcv⟩ : ∃ cv, cv = chV r p (gV r p l (sh + 1) wt) (gV r p l sh (wt - 1)) sh wt st cl := ⟨_, rfl⟩
  have hhold : holdV r p (gV r p l) (sh, wt, st, cl) = decide (gV r p l sh wt st cl ≤ cv.2) := by rw [hcv]; unfold holdV; simp
  rw [hhold]
  rw [← hcv] at hch
  refine q_of (H := [.pt b11 [.bool b] 4]) hsat Tryz.func93 rfl (by simp [Tryz.ntmps93]) ?_
  (refine q_seq ?_; refine q_region ?_)
  refine ql_box rfl rfl (fun b3 => ?_)
  (refine q_nil ?_; refine q_seq ?_; refine q_region ?_; refine ql_loadG tabOk rfl rfl rfl (by assumption) (by rfl) ?_; refine ql_loadAB tabOk rfl rfl rfl (by repeat first | exact .head _ | refine .tail _ ?_) (by rfl) (by rfl) ?_)
  refine ql_callv (val := .tuple #[.agg #[.bool cv.1.1, .int .i64 cv.1.2], .int .i64 cv.2]) tabOk rfl rfl rfl rfl (fun w hs => ?_) ?_; exact by have := choose_ca w bp bd bm r p vf sh wt st cl (hpl w hs.chg) (hm w hs.chg) hr hp (by omega) hw3 hst hcl (fun _ => hW.fine _ _) (fun _ => hW.fine _ _); rw [hch] at this; exact this
  (refine ql_pure tabOk rfl rfl ?_; (iterate 2 refine ql_ext tabOk rfl rfl rfl ?_))
  refine ql_alloc zero74 rfl (fun b4 => ?_)
  (refine ql_setA tabOk rfl rfl rfl rfl rfl (by repeat constructor) rfl ?_; refine ql_pure tabOk rfl rfl ?_; refine q_nil ?_)
  cases b with
  | false =>
    refine q_drawS 11 _ [.pt b11 _ _] (Sp.cons (by repeat constructor) (Sp.refl _)) (by kernel_rfl) (by kernel_rfl) (by kernel_rfl) fun K1 hK1 => ?_
    (refine qf_loadB tabOk rfl rfl rfl (by repeat first | exact .head _ | refine .tail _ ?_) (by rfl) ?_; refine qf_pure tabOk rfl rfl rfl ?_; (iterate 8 refine qf_gno rfl rfl rfl ?_); refine qf_pure tabOk rfl rfl rfl ?_; refine qf_nil ?_)
    refine hK1 _ _ [.pt b11 _ _] (Sp.cons (by repeat constructor) ((by repeat (first | exact Sp.nil | exact Sp.refl _ | refine Sp.cons (by repeat constructor) ?_)))) ?_
    (refine qf_set tabOk rfl rfl rfl rfl (by repeat constructor) ?_; refine qf_nil ?_)
    refine q_end tabOk rfl (by repeat (first | exact RVs.nil | apply RVs.tmp rfl | apply RVs.cellA rfl rfl (by repeat first | exact .head _ | refine .tail _ ?_) (by rfl) | apply RVs.cell1 rfl rfl (by repeat first | exact .head _ | refine .tail _ ?_))) fun w hs => ?_
    exact hs.sp (by repeat (first | exact Sp.nil | exact Sp.refl _ | refine Sp.cons (by repeat constructor) ?_))
  | true =>
    refine q_drawS 11 _ [.pt b11 _ _] (Sp.cons (by repeat constructor) (Sp.refl _)) (by kernel_rfl) (by kernel_rfl) (by kernel_rfl) fun K1 hK1 => ?_
    (refine qf_loadB tabOk rfl rfl rfl (by repeat first | exact .head _ | refine .tail _ ?_) (by rfl) ?_; refine qf_pure tabOk rfl rfl rfl ?_; refine qf_gyes rfl ?_; refine qf_loadG tabOk rfl rfl rfl (by assumption) (by rfl) ?_; refine qf_gyes rfl ?_; refine qf_pure tabOk rfl rfl rfl ?_; refine qf_gyes rfl ?_; refine qf_pure tabOk rfl rfl rfl ?_; refine qf_gyes rfl ?_; refine qf_loadG tabOk rfl rfl rfl (by assumption) (by rfl) ?_; refine qf_gyes rfl ?_; refine qf_loadAB tabOk rfl rfl rfl (by repeat first | exact .head _ | refine .tail _ ?_) (by rfl) (by rfl) ?_; refine qf_gyes rfl ?_)
    refine qf_lookG (v := .int .i64 (gV r p l sh wt st cl)) plc_key plc_map zero_int rfl rfl rfl hm (plcV_key _ _ _ _) ((liftF_get vf sh wt st cl).trans (by rw [hvx]; rfl)) ?_
    (refine qf_gyes rfl ?_; refine qf_pure tabOk rfl rfl rfl ?_; refine qf_gyes rfl ?_; (iterate 2 refine qf_pure tabOk rfl rfl rfl ?_); refine qf_nil ?_)
    refine hK1 _ _ [.pt b11 _ _] (Sp.cons (by repeat constructor) ((by repeat (first | exact Sp.nil | exact Sp.refl _ | refine Sp.cons (by repeat constructor) ?_)))) ?_
    (refine qf_set tabOk rfl rfl rfl rfl (by repeat constructor) ?_; refine qf_nil ?_)
    refine q_end tabOk rfl (by repeat (first | exact RVs.nil | apply RVs.tmp rfl | apply RVs.cellA rfl rfl (by repeat first | exact .head _ | refine .tail _ ?_) (by rfl) | apply RVs.cell1 rfl rfl (by repeat first | exact .head _ | refine .tail _ ?_))) fun w hs => ?_
    exact hs.sp (by repeat (first | exact Sp.nil | exact Sp.refl _ | refine Sp.cons (by repeat constructor) ?_))

theorem DL_pt (b : Nat) (cs : List Value) (t : TypeId) : DL [.pt b cs t] = (· = b) := by
  funext x
  refine propext ⟨?_, ?_⟩
  · rintro ⟨c, hc, hb⟩
    rw [List.mem_singleton.1 hc] at hb
    exact hb
  · rintro rfl
    exact ⟨_, .head _, rfl⟩

/-- How many values there are. -/
def cntP (r : Rg) (p : Ru) : Int := 5 * (p.waits + 1) * r.drifts.length * (2 * r.clicks + 1)
theorem cntP_eq {r : Rg} {p : Ru} (hr : r.Right) (hp : p.Right) : cntP r p = ((plcL r p).length : Int) := by
  rw [plcL_length]
  have h1 := hr.clicks
  have h3 := hp.waits
  have e1 : (((p.waits + 1).toNat : Nat) : Int) = p.waits + 1 := by omega
  have e2 : (((2 * r.clicks + 1).toNat : Nat) : Int) = 2 * r.clicks + 1 := by omega
  simp only [Int.natCast_mul, e1, e2, cntP]
  simp [Int.mul_assoc]
theorem cntP_bd {r : Rg} {p : Ru} (hr : r.Right) (hp : p.Right) : (0 ≤ 5 * (p.waits + 1) * (r.drifts.length : Int) ∧ 5 * (p.waits + 1) * (r.drifts.length : Int) ≤ 100) ∧ 0 ≤ 5 * (p.waits + 1) * (r.drifts.length : Int) * (2 * r.clicks + 1) ∧ 5 * (p.waits + 1) * (r.drifts.length : Int) * (2 * r.clicks + 1) ≤ 1300 := by
  have h1 := hr.clicks
  have h2 := hr.d2
  have h3 := hp.waits
  have a := mul_bd0 (show 0 ≤ 5 * (p.waits + 1) ∧ 5 * (p.waits + 1) ≤ 20 by omega) (show 0 ≤ (r.drifts.length : Int) ∧ (r.drifts.length : Int) ≤ 5 by omega)
  have a' : 0 ≤ 5 * (p.waits + 1) * (r.drifts.length : Int) ∧ 5 * (p.waits + 1) * (r.drifts.length : Int) ≤ 100 := by omega
  have b := mul_bd0 a' (show 0 ≤ 2 * r.clicks + 1 ∧ 2 * r.clicks + 1 ≤ 13 by omega)
  exact ⟨a', by omega⟩
/-- What values prove. -/
def costV (r : Rg) (p : Ru) (g : Nat → Nat → Nat → Int → Int) : Int := sumR (fun s => r.first.getD s 0 * g 0 p.waits.toNat s 0) r.drifts.length
def proofV (r : Rg) (p : Ru) (l : List Int) : (Int × Int) × Int :=
  if rulesV r p ≠ 0 then ((0, 0), rulesV r p) else if (l.length : Int) ≠ cntP r p then ((0, 0), 2) else if !(l.all (fun n => inB n 0 1000000000000000)) then ((0, 0), 3)
  else if !((plcL r p).all (holdV r p (gV r p l))) then ((0, 0), 8) else (ratioV (costV r p (gV r p l)) (partsV r 0 p.waits.toNat * r.total), 0)

theorem prov1_p (w : World) (es : List Int) : PredAt Tryz.prog tab w (.func (.func 91) #[] #[]) (ints es) (pI 0 1000000000000000) := by
  refine ⟨_, _, _, rfl, rfl, fun w' hw' x hx => ?_⟩
  obtain ⟨y, hy, rfl⟩ := List.mem_map.1 hx
  refine q_of (Sat.nil w' M0) Tryz.func91 rfl (by simp [Tryz.ntmps91]) ?_
  (refine q_seq ?_; refine q_region ?_; refine ql_pure tabOk rfl rfl ?_; refine q_nil ?_; refine q_seq ?_; refine q_region ?_; refine ql_pure tabOk rfl rfl ?_)
  refine ql_callv tabOk rfl rfl rfl rfl (fun w hs => in_ca y 0 1000000000000000 w) ?_
  (refine ql_pure tabOk rfl rfl ?_; refine q_nil ?_; refine q_ret ?_)
  refine q_fin tabOk rfl (by repeat (first | exact RVs.nil | apply RVs.tmp rfl | apply RVs.cellA rfl rfl (by repeat first | exact .head _ | refine .tail _ ?_) (by rfl) | apply RVs.cell1 rfl rfl (by repeat first | exact .head _ | refine .tail _ ?_))) fun w hs => ?_
  exact ⟨rfl, hs.chg0⟩

set_option maxHeartbeats 4000000 in
theorem proves_ca (w : World) (l0 h1 : Nat) (cs : List Value) (r : Rg) (p : Ru) (v : Value) (l : List Int) (h : RgC w cs r) (hsm : r.Small) (hl : RdI w l0 h1 v l) (hlen : l.length ≤ 1000000) : Ca Tryz.prog 33 [.agg cs.toArray, .agg #[.int .i64 p.miss, .int .i64 p.click, .int .i64 p.wait, .int .i64 p.waits], v] w fun v w' =>
    v = .tuple #[rtV (proofV r p l).1, .int .i64 (proofV r p l).2] ∧ Chg [] w w' := by
  have h0 := h
  have s2 := hsm.drifts
  obtain ⟨lo, hi, ag, cg, ad, cd, af, cf, an, cn, rfl, hg, hdr, hf, hn⟩ := h
  obtain ⟨av, cv, rfl, hsd⟩ := hl.outI
  refine q_of (Sat.nil w M0) Tryz.func33 rfl (by simp [Tryz.ntmps33]) ?_
  (refine q_seq ?_; refine q_region ?_)
  refine ql_box rfl rfl (fun b3 => ?_)
  skip
  refine ql_box rfl rfl (fun b4 => ?_)
  skip
  refine ql_box rfl rfl (fun b5 => ?_)
  skip
  refine ql_alloc zero36 rfl (fun b6 => ?_)
  (refine ql_pure tabOk rfl rfl ?_; refine q_nil ?_; refine q_seq ?_; refine q_region ?_; (iterate 2 refine ql_loadAB tabOk rfl rfl rfl (by repeat first | exact .head _ | refine .tail _ ?_) (by rfl) (by rfl) ?_))
  by_cases hru : rulesV r p = 0
  · obtain ⟨hck, hp⟩ := (rules_iff r p).1 hru
    have hr := (right_check r).1 hck
    have hcnt := cntP_bd hr hp
    have hC := hr.clicks
    have hW := hp.waits
    refine ql_call (β := Nat × Nat × Nat) tabOk [] _ M0 rfl rfl rfl rfl (Sp.refl _) (fun _ h => h.elim) (fun w' hs => begun_ok w' _ r p (h0.keep hs.chg0) hsm hru) ?_
    rintro ⟨bp, bd, bm⟩ _ rfl
    (refine ql_pure tabOk rfl rfl ?_; (iterate 2 refine ql_ext tabOk rfl rfl rfl ?_))
    refine ql_alloc zero105 rfl (fun b8 => ?_)
    (refine ql_set tabOk rfl rfl rfl rfl (by repeat constructor) ?_; refine ql_pure tabOk rfl rfl ?_; refine q_nil ?_; refine q_seq ?_; refine q_block ?_; refine q_seq ?_; refine q_region ?_; (iterate 3 refine ql_pure tabOk rfl rfl ?_); refine q_nil ?_; refine q_cond_false rfl ?_; refine q_seq ?_; refine q_region ?_; refine ql_loadB tabOk rfl rfl rfl (by repeat first | exact .head _ | refine .tail _ ?_) (by rfl) ?_; (iterate 2 refine ql_pure tabOk rfl rfl ?_); refine ql_loadB tabOk rfl rfl rfl (by repeat first | exact .head _ | refine .tail _ ?_) (by rfl) ?_; (iterate 2 refine ql_ar tabOk rfl rfl rfl rfl (by omega) (by omega) ?_); refine ql_pure tabOk rfl rfl ?_; refine ql_loadB tabOk rfl rfl rfl (by repeat first | exact .head _ | refine .tail _ ?_) (by rfl) ?_; refine ql_pure tabOk rfl rfl ?_; refine ql_ar tabOk rfl rfl rfl rfl (by omega) (by omega) ?_; refine ql_pure tabOk rfl rfl ?_; refine ql_loadB tabOk rfl rfl rfl (by repeat first | exact .head _ | refine .tail _ ?_) (by rfl) ?_; (iterate 3 refine ql_ar tabOk rfl rfl rfl rfl (by omega) (by omega) ?_); (iterate 2 refine ql_pure tabOk rfl rfl ?_); refine q_nil ?_)
    by_cases hn : (l.length : Int) = cntP r p
    · rw [decide_eq_true (show (l.length : Int) = 5 * (p.waits + 1) * r.drifts.length * (2 * r.clicks + 1) from hn)]
      (refine q_cond_false rfl ?_; refine q_seq ?_; refine q_region ?_; refine ql_loadB tabOk rfl rfl rfl (by repeat first | exact .head _ | refine .tail _ ?_) (by rfl) ?_)
      refine ql_callv (val := .bool (l.all (fun n => inB n 0 1000000000000000))) tabOk rfl rfl rfl rfl (fun w hs => ?_) ?_; exact by have := all_int w l0 h1 _ _ (ints l) (pI 0 1000000000000000) (RdE.keep hl hs.chg0) (ints_one _) (by simp; omega) (prov1_p w l); rw [pI_all] at this; exact this
      ((iterate 2 refine ql_pure tabOk rfl rfl ?_); refine q_nil ?_)
      cases hall : l.all (fun n => inB n 0 1000000000000000) with
      | false =>
        (refine q_cond_true rfl ?_; refine q_seq ?_; refine q_region ?_)
        refine ql_mk #[.int .i64 0, .int .i64 0] rfl (by kernel_rfl) rfl ?_
        (refine ql_setA tabOk rfl rfl rfl rfl rfl (by repeat constructor) rfl ?_; refine ql_pure tabOk rfl rfl ?_; refine q_nil ?_; refine q_ret ?_)
        refine q_fin tabOk rfl (by repeat (first | exact RVs.nil | apply RVs.tmp rfl | apply RVs.cellA rfl rfl (by repeat first | exact .head _ | refine .tail _ ?_) (by rfl) | apply RVs.cell1 rfl rfl (by repeat first | exact .head _ | refine .tail _ ?_))) fun w hs => ?_
        refine ⟨?_, hs.chg0⟩
        have e : proofV r p l = ((0, 0), 3) := by unfold proofV; rw [if_neg (by simpa using hru), if_neg (by simpa using hn), hall]; rfl
        rw [e]; rfl
      | true =>
        (refine q_cond_false rfl ?_; refine q_skip ?_; refine q_blk ?_; refine q_seq ?_; refine q_region ?_)
        refine ql_alloc zero3 rfl (fun b10 => ?_)
        (refine ql_set tabOk rfl rfl rfl rfl (by repeat constructor) ?_; refine q_nil ?_; refine q_seq ?_; refine q_region ?_; refine ql_loadB tabOk rfl rfl rfl (by repeat first | exact .head _ | refine .tail _ ?_) (by rfl) ?_; refine ql_pure tabOk rfl rfl ?_)
        have hll : l.length = (plcL r p).length := by rw [cntP_eq hr hp] at hn; omega
        have hbnd : ∀ v ∈ l, 0 ≤ v ∧ v ≤ 1000000000000000 := fun v hv => inB_iff.1 (List.all_eq_true.1 hall v hv)
        refine ql_call (β := Vf × Nat) (ψ := fun s v => GoodW r p l (plcL r p) s.1) (L' := fun s => prL bm b10 s) tabOk
          (prL bm b10 ((fun _ _ _ _ => none), 0)) _ (DL (prL bm b10 ((fun _ _ _ _ => none), 0))) rfl rfl rfl rfl (Sp.cons (by repeat constructor) (Sp.cons (by repeat constructor) (Sp.refl _))) (fun b hb => hb) (fun w' hs => ?_) ?_
        · refine (situations_ca (σ := Vf × Nat) w' bp bd bm r p _ (fun s => prL bm b10 s) (fun pre s => s.2 = pre.length ∧ GoodW r p l pre s.1) ((fun _ _ _ _ => none), 0) _ _ _ (h0.keep hs.chg0) hr hp
            (fun w'' hc => hs.aside hc (x := .pt bp _ _) (by repeat first | exact .head _ | refine .tail _ ?_)) (fun w'' hc => hs.aside hc (x := .pt bd _ _) (by repeat first | exact .head _ | refine .tail _ ?_)) ⟨rfl, fun _ _ _ _ h => (by cases h), fun _ _ _ _ _ h => by cases h⟩ hs.self ?_).mono fun v w'' ⟨s', ⟨_, g⟩, g2⟩ => ⟨s', g, g2⟩
          rintro pre ⟨sh, wt, st, cl⟩ post ⟨vf1, k1⟩ w1 hx ⟨hI1, hI2⟩ hs1
          simp only at hI1 hI2
          subst hI1
          obtain ⟨hk, hput⟩ := hI2.put hx hll hbnd
          refine CaF.of tabOk rfl ((proves2_ca w1 bp bd bm b5 b8 b10 p _ _ _ l0 h1 _ l (vf1, pre.length) sh wt st cl hk hlen hs1.self' (fun w2 hc => hs.aside (hs1.later hc) (x := .pt b5 _ _) (by repeat first | exact .head _ | refine .tail _ ?_)) (fun w2 hc => hs.aside (hs1.later hc) (x := .pt b8 _ _) (by repeat first | exact .head _ | refine .tail _ ?_)) (fun w2 hc => hs.aside (hs1.later hc) (x := .pt bp _ _) (by repeat first | exact .head _ | refine .tail _ ?_)) (fun w2 hc => RdE.keep hl (hs.asideOld (hs1.later hc)))).mono ?_)
          rintro v w2 g
          exact ⟨(updF vf1 sh wt st cl l[pre.length], pre.length + 1), ⟨by simp, hput⟩, g⟩
        rintro ⟨vf, k1⟩ v hGW
        (refine q_nil ?_; refine q_seq ?_; refine q_region ?_)
        refine ql_alloc zero4 rfl (fun b11 => ?_)
        (refine ql_set tabOk rfl rfl rfl rfl (by repeat constructor) ?_; refine q_nil ?_; refine q_seq ?_; refine q_region ?_; refine ql_loadB tabOk rfl rfl rfl (by repeat first | exact .head _ | refine .tail _ ?_) (by rfl) ?_; refine ql_pure tabOk rfl rfl ?_)
        refine ql_call (β := Bool) (ψ := fun b v => b = (plcL r p).all (holdV r p (gV r p l))) (L' := fun b => [.pt b11 [.bool b] 4]) tabOk
          [.pt b11 [.bool true] 4] _ (DL [.pt b11 [.bool true] 4]) rfl rfl rfl rfl (Sp.cons (by repeat constructor) (Sp.refl _)) (fun b hb => hb) (fun w' hs => ?_) ?_
        · refine (situations_ca (σ := Bool) w' bp bd bm r p _ (fun b => [.pt b11 [.bool b] 4]) (fun pre b => b = pre.all (holdV r p (gV r p l))) true _ _ _ (h0.keep hs.chg0) hr hp
            (fun w'' hc => hs.aside hc (x := .pt bp _ _) (by repeat first | exact .head _ | refine .tail _ ?_)) (fun w'' hc => hs.aside hc (x := .pt bd _ _) (by repeat first | exact .head _ | refine .tail _ ?_)) rfl hs.self ?_).mono fun v w'' ⟨s', g, g2⟩ => ⟨s', g, g2⟩
          rintro pre ⟨sh, wt, st, cl⟩ post b w1 hx hI hs1
          have hlat : ∀ w2, ChgP (· = b11) w1 w2 → ChgP (DL [.pt b11 [.bool true] 4]) w' w2 := fun w2 hc => hs1.later (by rw [DL_pt]; exact hc)
          have hs1' := hs1.self'
          rw [DL_pt] at hs1'
          refine CaF.of tabOk rfl ((proves3_ca w1 bp bd bm b8 b11 r p hr hp _ l vf b sh wt st cl (by rw [hx]; simp) hGW hs1' (fun w2 hc => hs.aside (hlat w2 hc) (x := .pt b8 _ _) (by repeat first | exact .head _ | refine .tail _ ?_)) (fun w2 hc => ⟨_, hs.aside (hlat w2 hc) (x := .pt bp _ _) (by repeat first | exact .head _ | refine .tail _ ?_), _, _, hs.aside (hlat w2 hc) (x := .pt bd _ _) (by repeat first | exact .head _ | refine .tail _ ?_), h0.keep (hs.asideOld (hlat w2 hc))⟩) (fun w2 hc => hs.aside (hlat w2 hc) (x := mpV bm vf) (by repeat first | exact .head _ | refine .tail _ ?_))).mono ?_)
          rintro v w2 g
          exact ⟨b && holdV r p (gV r p l) (sh, wt, st, cl), by simp [hI, List.all_append], by rw [DL_pt]; exact g⟩
        rintro b v hb
        (refine q_nil ?_; (iterate 2 refine q_seq ?_); refine q_region ?_; refine ql_loadB tabOk rfl rfl rfl (by repeat first | exact .head _ | refine .tail _ ?_) (by rfl) ?_; refine ql_pure tabOk rfl rfl ?_; refine q_nil ?_)
        cases hhold : (plcL r p).all (holdV r p (gV r p l)) with
        | false =>
          rw [hhold] at hb
          subst hb
          (refine q_cond_true rfl ?_; refine q_seq ?_; refine q_region ?_)
          refine ql_mk #[.int .i64 0, .int .i64 0] rfl (by kernel_rfl) rfl ?_
          (refine ql_setA tabOk rfl rfl rfl rfl rfl (by repeat constructor) rfl ?_; refine ql_pure tabOk rfl rfl ?_; refine q_nil ?_; refine q_ret ?_)
          refine q_fin tabOk rfl (by repeat (first | exact RVs.nil | apply RVs.tmp rfl | apply RVs.cellA rfl rfl (by repeat first | exact .head _ | refine .tail _ ?_) (by rfl) | apply RVs.cell1 rfl rfl (by repeat first | exact .head _ | refine .tail _ ?_))) fun w hs => ?_
          refine ⟨?_, hs.chg0⟩
          have e : proofV r p l = ((0, 0), 8) := by unfold proofV; rw [if_neg (by simpa using hru), if_neg (by simpa using hn), hall, hhold]; rfl
          rw [e]; rfl
        | true =>
          rw [hhold] at hb
          subst hb
          (refine q_cond_false rfl ?_; refine q_skip ?_; refine q_seq ?_; refine q_region ?_; refine ql_pure tabOk rfl rfl ?_; refine ql_loadB tabOk rfl rfl rfl (by repeat first | exact .head _ | refine .tail _ ?_) (by rfl) ?_)
          refine ql_mk #[.int .i64 0, .int .i64 p.waits, .int .i64 0, .int .i64 0] rfl (by kernel_rfl) rfl ?_
          refine ql_alloc zero110 rfl (fun b12 => ?_)
          (refine ql_setA tabOk rfl rfl rfl rfl rfl (by repeat constructor) rfl ?_; refine q_nil ?_; refine q_seq ?_; refine q_region ?_; refine ql_loadB tabOk rfl rfl rfl (by repeat first | exact .head _ | refine .tail _ ?_) (by rfl) ?_; refine ql_loadAB tabOk rfl rfl rfl (by repeat first | exact .head _ | refine .tail _ ?_) (by rfl) (by rfl) ?_)
          have hwt : ((p.waits.toNat : Nat) : Int) = p.waits := by omega
          have hw3 : p.waits.toNat ≤ 3 := by omega
          refine ql_callv (val := .int .i64 (partsV r 0 p.waits.toNat)) tabOk rfl rfl rfl rfl (fun w hs => ?_) ?_; exact by have := parts_ca w bp bd bm r p 0 p.waits.toNat 0 0 ⟨_, hs.blk (b := bp) (by repeat first | exact .head _ | refine .tail _ ?_), _, _, hs.blk (b := bd) (by repeat first | exact .head _ | refine .tail _ ?_), h0.keep hs.chg0⟩ hr (by omega) hw3; rw [hwt] at this; exact this
          ((iterate 2 refine ql_pure tabOk rfl rfl ?_); refine q_nil ?_; (iterate 2 refine q_seq ?_); refine q_region ?_; refine ql_pure tabOk rfl rfl ?_; refine ql_loadB tabOk rfl rfl rfl (by repeat first | exact .head _ | refine .tail _ ?_) (by rfl) ?_; (iterate 2 refine ql_pure tabOk rfl rfl ?_); refine q_nil ?_; refine q_block ?_)
          have hpt := parts_bd r hr 0 p.waits.toNat hw3
          have hfl : r.first.length = r.drifts.length := hr.first
          have hD := hr.d2
          have hg0 : ∀ t, 0 ≤ gV r p l 0 p.waits.toNat t 0 ∧ gV r p l 0 p.waits.toNat t 0 ≤ 1000000000000000 := fun t => by
            unfold gV
            by_cases hq : idxP r p (0, p.waits.toNat, t, 0) < l.length
            · have := hbnd _ (List.getElem_mem hq)
              simpa [hq] using this
            · simp [List.getElem?_eq_none (by omega : l.length ≤ idxP r p (0, p.waits.toNat, t, 0))]
          have htt := hr.total
          have hf0 : ∀ t, 0 ≤ r.first.getD t 0 ∧ r.first.getD t 0 ≤ 12 := fun t => by
            by_cases hq : t < r.first.length
            · have := hr.chance _ (List.getElem_mem hq)
              simp [hq]; omega
            · simp [List.getElem?_eq_none (by omega : r.first.length ≤ t)]
          have hcost := fun k => sumR_bd (fun s => r.first.getD s 0 * gV r p l 0 p.waits.toNat s 0) (12 * 1000000000000000) k (fun i _ => mul_bd0 (hf0 i) (hg0 i))
          refine q_loop (σ := Nat × Int) (fun s => s.1 ≤ r.drifts.length) (fun s => r.drifts.length - s.1) (fun s => [(3, .pointer (some ⟨b3, 0, none⟩)), (6, .pointer (some ⟨b6, 0, none⟩)), (8, .pointer (some ⟨b8, 0, none⟩)), (12, .pointer (some ⟨b12, 0, none⟩)), (13, .int .i64 (partsV r 0 p.waits.toNat)), (14, .int .i64 (sumR (fun s => r.first.getD s 0 * gV r p l 0 p.waits.toNat s 0) s.1)), (67, .slice af r.first.length cf), (68, .int .i64 r.first.length), (69, .int .i64 s.1)])
            (fun s => [.pt b12 [.int .i64 0, .int .i64 p.waits, .int .i64 s.2, .int .i64 0] 110, mpV bm vf, .pt b8 [.pointer (some ⟨bp, 0, none⟩)] 105, .pt bp [.pointer (some ⟨bd, 0, none⟩), .int .i64 p.miss, .int .i64 p.click, .int .i64 p.wait, .int .i64 p.waits, .map (some bm)] 113, .pt b6 [.int .i64 0, .int .i64 0] 36, .pt b3 [.int .i64 r.radius, .int .i64 r.unit, .int .i64 r.clicks, .int .i64 r.total, .slice ag r.group.length cg, .slice ad r.drifts.length cd, .slice af r.first.length cf, .slice an r.next.length cn] 25]) (0, 0) (by simp) ⟨rfl, rfl, rfl, rfl, rfl, rfl, rfl, rfl, rfl, trivial⟩ (by repeat (first | exact Sp.nil | exact Sp.refl _ | refine Sp.cons (by repeat constructor) ?_)) ?_
          rintro ⟨k, s⟩ hk K hK
          simp only at hk
          have hck := hcost k
          have hck1 := hcost (k + 1)
          dsimp only
          (refine q_seq ?_; refine q_region ?_; refine ql_pure tabOk rfl rfl ?_; refine q_nil ?_; refine q_seq ?_)
          refine q_if rfl (fun hc => ?_) (fun hc => ?_)
          · have hk2 : k < r.first.length := by omega
            obtain ⟨af', cf', hsl, hfd⟩ := RdI.outI hf
            cases hsl
            obtain ⟨bf, off, rfl⟩ := hfd (by omega)
            have he : r.first.getD k 0 = r.first[k] := by simp [hk2]
            have hm2 := mul_bd0 (hf0 k) (hg0 k)
            have hsu : sumR (fun s => r.first.getD s 0 * gV r p l 0 p.waits.toNat s 0) (k + 1) = sumR (fun s => r.first.getD s 0 * gV r p l 0 p.waits.toNat s 0) k + r.first[k] * gV r p l 0 p.waits.toNat k 0 := by rw [sumR, he]
            rw [he] at hm2
            (refine q_skip ?_; refine q_seq ?_; refine q_block ?_; refine q_seq ?_; refine q_region ?_; refine ql_pure tabOk rfl rfl ?_)
            (refine ql_index tabOk rfl rfl rfl rfl rfl (by omega) (by omega) ?_; refine ql_load1 tabOk rfl rfl rfl (fun w hs => RdI.at (RdE.keep hf hs.chg0) k hk2) ?_)
            ((iterate 2 refine ql_pure tabOk rfl rfl ?_); refine q_nil ?_; refine q_seq ?_; refine q_region ?_; (iterate 2 refine ql_pure tabOk rfl rfl ?_); refine ql_st2 tabOk rfl rfl rfl rfl (by repeat constructor) ?_; refine q_nil ?_)
            refine q_draw _ [] (Sp.refl _) (by kernel_rfl) (by kernel_rfl) ?_
            ((iterate 2 refine qf_pure tabOk rfl rfl rfl ?_); refine qf_loadB tabOk rfl rfl rfl (by repeat first | exact .head _ | refine .tail _ ?_) (by rfl) ?_; (iterate 2 refine qf_pure tabOk rfl rfl rfl ?_); refine qf_loadB tabOk rfl rfl rfl (by repeat first | exact .head _ | refine .tail _ ?_) (by rfl) ?_; refine qf_loadAB tabOk rfl rfl rfl (by repeat first | exact .head _ | refine .tail _ ?_) (by rfl) (by rfl) ?_)
            have hvf : vf 0 p.waits k 0 = some (gV r p l 0 p.waits.toNat k 0) := by
              have := hGW.1 0 p.waits.toNat k 0 ((plcL_mem r p _ _ _ _).2 ⟨by omega, by omega, by omega, by omega⟩)
              rw [hwt] at this
              exact this
            refine qf_look (v := .int .i64 (gV r p l 0 p.waits.toNat k 0)) plc_key plc_map zero_int rfl rfl rfl (f := liftF vf) (by repeat first | exact .head _ | refine .tail _ ?_) (plcV_key _ _ _ _) ((liftF_get vf 0 p.waits k 0).trans (by rw [hvf]; rfl)) ?_
            ((iterate 2 refine qf_ar tabOk rfl rfl rfl rfl (by omega) (by omega) ?_); refine qf_pure tabOk rfl rfl rfl ?_; refine qf_nil ?_; refine q_blk ?_; refine q_region ?_; refine ql_ar tabOk rfl rfl rfl rfl (by omega) (by omega) ?_; refine ql_pure tabOk rfl rfl ?_; refine q_nil ?_)
            exact hK (k + 1, (k : Int)) _ _ (by simp only; omega) (by simp only; omega) ⟨rfl, rfl, rfl, rfl, rfl, lookI rfl hsu.symm, rfl, rfl, rfl, trivial⟩ (by repeat (first | exact Sp.nil | exact Sp.refl _ | refine Sp.cons (by repeat constructor) ?_))
          · obtain rfl : k = r.drifts.length := by omega
            have hcv : costV r p (gV r p l) = sumR (fun s => r.first.getD s 0 * gV r p l 0 p.waits.toNat s 0) r.drifts.length := rfl
            have hcb : 0 ≤ costV r p (gV r p l) ∧ costV r p (gV r p l) ≤ 12 * 1000000000000000 * (r.drifts.length : Int) := hcost r.drifts.length
            rw [← hcv]
            have hmul : 1 ≤ partsV r 0 p.waits.toNat * r.total ∧ partsV r 0 p.waits.toNat * r.total ≤ 42998169600 := by
              have a := mul_bd0 (show 0 ≤ partsV r 0 p.waits.toNat ∧ partsV r 0 p.waits.toNat ≤ 3583180800 by omega) (show 0 ≤ r.total ∧ r.total ≤ 12 by omega)
              have b : 1 * 1 ≤ partsV r 0 p.waits.toNat * r.total := Int.mul_le_mul hpt.1 htt.1 (by omega) (by omega)
              omega
            (refine q_exit _ rfl ?_; refine q_seq ?_; refine q_region ?_; (iterate 3 refine ql_pure tabOk rfl rfl ?_); refine ql_loadB tabOk rfl rfl rfl (by repeat first | exact .head _ | refine .tail _ ?_) (by rfl) ?_; refine ql_ar tabOk rfl rfl rfl rfl (by omega) (by omega) ?_)
            refine ql_callv (val := rtV (ratioV (costV r p (gV r p l)) (partsV r 0 p.waits.toNat * r.total))) tabOk rfl rfl rfl rfl (fun w hs => ?_) ?_; exact ratio_ca _ _ w (by omega) (by omega) (by omega) (by omega)
            (refine ql_setA tabOk rfl rfl rfl rfl rfl (by repeat constructor) rfl ?_; refine ql_pure tabOk rfl rfl ?_; refine q_nil ?_; refine q_ret ?_)
            refine q_fin tabOk rfl (by repeat (first | exact RVs.nil | apply RVs.tmp rfl | apply RVs.cellA rfl rfl (by repeat first | exact .head _ | refine .tail _ ?_) (by rfl) | apply RVs.cell1 rfl rfl (by repeat first | exact .head _ | refine .tail _ ?_))) fun w hs => ?_
            refine ⟨?_, hs.chg0⟩
            have e : proofV r p l = (ratioV (costV r p (gV r p l)) (partsV r 0 p.waits.toNat * r.total), 0) := by unfold proofV; rw [if_neg (by simpa using hru), if_neg (by simpa using hn), hall, hhold]; rfl
            rw [e]; rfl
    · rw [decide_eq_false (show ¬ (l.length : Int) = 5 * (p.waits + 1) * r.drifts.length * (2 * r.clicks + 1) from hn)]
      (refine q_cond_true rfl ?_; refine q_seq ?_; refine q_region ?_)
      refine ql_mk #[.int .i64 0, .int .i64 0] rfl (by kernel_rfl) rfl ?_
      (refine ql_setA tabOk rfl rfl rfl rfl rfl (by repeat constructor) rfl ?_; refine ql_pure tabOk rfl rfl ?_; refine q_nil ?_; refine q_ret ?_)
      refine q_fin tabOk rfl (by repeat (first | exact RVs.nil | apply RVs.tmp rfl | apply RVs.cellA rfl rfl (by repeat first | exact .head _ | refine .tail _ ?_) (by rfl) | apply RVs.cell1 rfl rfl (by repeat first | exact .head _ | refine .tail _ ?_))) fun w hs => ?_
      refine ⟨?_, hs.chg0⟩
      have e : proofV r p l = ((0, 0), 2) := by unfold proofV; rw [if_neg (by simpa using hru), if_pos hn]
      rw [e]; rfl
  · refine ql_callv (val := .tuple #[.pointer none, .int .i64 (rulesV r p)]) tabOk rfl rfl rfl rfl (fun w hs => ?_) ?_; exact begun_no w _ r p (h0.keep hs.chg0) hsm hru
    (refine ql_pure tabOk rfl rfl ?_; (iterate 2 refine ql_ext tabOk rfl rfl rfl ?_))
    refine ql_alloc zero105 rfl (fun b8 => ?_)
    (refine ql_set tabOk rfl rfl rfl rfl (by repeat constructor) ?_; refine ql_pure tabOk rfl rfl ?_; refine q_nil ?_; refine q_seq ?_; refine q_block ?_; refine q_seq ?_; refine q_region ?_; (iterate 3 refine ql_pure tabOk rfl rfl ?_); refine q_nil ?_)
    rw [decide_eq_false hru]
    (refine q_cond_true rfl ?_; refine q_seq ?_; refine q_region ?_)
    refine ql_mk #[.int .i64 0, .int .i64 0] rfl (by kernel_rfl) rfl ?_
    (refine ql_pure tabOk rfl rfl ?_; refine ql_setA tabOk rfl rfl rfl rfl rfl (by repeat constructor) rfl ?_; refine ql_pure tabOk rfl rfl ?_; refine q_nil ?_; refine q_ret ?_)
    refine q_fin tabOk rfl (by repeat (first | exact RVs.nil | apply RVs.tmp rfl | apply RVs.cellA rfl rfl (by repeat first | exact .head _ | refine .tail _ ?_) (by rfl) | apply RVs.cell1 rfl rfl (by repeat first | exact .head _ | refine .tail _ ?_))) fun w hs => ?_
    refine ⟨?_, hs.chg0⟩
    have e : proofV r p l = ((0, 0), rulesV r p) := by unfold proofV; rw [if_pos hru]
    rw [e]; rfl

end Go.Proofs.YtohlillcaadidaaGreat

/- Walks: Choose. -/
namespace Go.Proofs.YtohlillcaadidaaGreat
open Go Go.Eng

def chzV (c : Bool × Int) : Value := .agg #[.bool c.1, .int .i64 c.2]
/-- The best choice of a situation, or the error. -/
def chooseV (r : Rg) (p : Ru) (shot waits state click : Int) : (Bool × Int) × Int :=
  if rulesV r p ≠ 0 then ((false, 0), rulesV r p) else if !inB shot 0 4 then ((false, 0), 1) else if !inB state 0 ((r.drifts.length : Int) - 1) then ((false, 0), 1)
  else if !inB waits 0 p.waits then ((false, 0), 3) else if !inB click (-r.clicks) r.clicks then ((false, 0), 3) else ((choV r p shot.toNat waits.toNat state.toNat click).1, 0)

/-- The best choice, where the map holds all values. -/
theorem choose_full (w : World) (bp bd bm : Nat) (r : Rg) (p : Ru) (vf : Vf) (shot wt st : Nat) (cl : Int) (h : PlAt w bp bd bm r p) (hm : MapAt w bm (keyF k4) eqV (liftF vf)) (hr : r.Right) (hp : p.Right) (hgood : GoodV r p vf) (hfull : ∀ sh wt st cl, (sh, wt, st, cl) ∈ plcL r p → (vf sh wt st cl).isSome = true)
    (h5 : shot < 5) (hw : (wt : Int) ≤ p.waits) (hst : st < r.drifts.length) (hcl : -r.clicks ≤ cl ∧ cl ≤ r.clicks) :
    Ca Tryz.prog 94 [.pointer (some ⟨bp, 0, none⟩), plcV shot wt st cl] w fun v w' =>
      v = .tuple #[chzV (choV r p shot wt st cl).1, .int .i64 (choV r p shot wt st cl).2] ∧ Chg [] w w' := by
  have hw3 : wt ≤ 3 := by have := hp.waits; omega
  have hch : chV r p (gvF vf (shot + 1) wt) (gvF vf shot (wt - 1)) shot wt st cl = choV r p shot wt st cl := by
    unfold choV
    refine chV_congr r p _ _ _ _ shot wt st cl hcl (fun h4 t c ht hc => ?_) (fun h0 t ht => ?_)
    · show (vf ((shot + 1 : Nat) : Int) wt t c).getD 0 = _
      rw [hgood.at (hfull _ _ _ _ ((plcL_mem r p _ _ _ _).2 ⟨by omega, hw, ht, hc⟩))]; rfl
    · show (vf shot ((wt - 1 : Nat) : Int) t cl).getD 0 = _
      rw [hgood.at (hfull _ _ _ _ ((plcL_mem r p _ _ _ _).2 ⟨by omega, by omega, ht, hcl⟩))]; rfl
  have := choose_ca w bp bd bm r p vf shot wt st cl h hm hr hp (by omega) hw3 hst hcl (fun _ => good_fine2 hr hp hgood hw) (fun _ => good_fine2 hr hp hgood (by omega))
  rw [hch] at this
  exact this

set_option maxHeartbeats 4000000 in
theorem chooseF_ca (w : World) (cs : List Value) (r : Rg) (p : Ru) (shot waits state click : Int) (h : RgC w cs r) (hsm : r.Small) : Ca Tryz.prog 34 [.agg cs.toArray, .agg #[.int .i64 p.miss, .int .i64 p.click, .int .i64 p.wait, .int .i64 p.waits], .int .i64 shot, .int .i64 waits, .int .i64 state, .int .i64 click] w fun v w' =>
    v = .tuple #[chzV (chooseV r p shot waits state click).1, .int .i64 (chooseV r p shot waits state click).2] ∧ Chg [] w w' := by
  have h0 := h
  have s2 := hsm.drifts
  obtain ⟨lo, hi, ag, cg, ad, cd, af, cf, an, cn, rfl, hg, hdr, hf, hn⟩ := h
  refine q_of (Sat.nil w M0) Tryz.func34 rfl (by simp [Tryz.ntmps34]) ?_
  (refine q_seq ?_; refine q_region ?_)
  refine ql_box rfl rfl (fun b6 => ?_)
  skip
  refine ql_box rfl rfl (fun b7 => ?_)
  skip
  refine ql_alloc zero74 rfl (fun b12 => ?_)
  (refine ql_pure tabOk rfl rfl ?_; refine q_nil ?_; refine q_seq ?_; refine q_region ?_; (iterate 2 refine ql_loadAB tabOk rfl rfl rfl (by repeat first | exact .head _ | refine .tail _ ?_) (by rfl) (by rfl) ?_))
  by_cases hru : rulesV r p = 0
  · obtain ⟨hck, hp⟩ := (rules_iff r p).1 hru
    have hr := (right_check r).1 hck
    have hC := hr.clicks
    have hW := hp.waits
    refine ql_call (β := Nat × Nat × Nat) tabOk [] _ M0 rfl rfl rfl rfl (Sp.refl _) (fun _ h => h.elim) (fun w' hs => begun_ok w' _ r p (h0.keep hs.chg0) hsm hru) ?_
    rintro ⟨bp, bd, bm⟩ _ rfl
    (refine ql_pure tabOk rfl rfl ?_; (iterate 2 refine ql_ext tabOk rfl rfl rfl ?_); (iterate 2 refine ql_pure tabOk rfl rfl ?_); refine q_nil ?_; refine q_seq ?_; refine q_block ?_; refine q_seq ?_; refine q_region ?_; (iterate 3 refine ql_pure tabOk rfl rfl ?_); refine q_nil ?_; refine q_cond_false rfl ?_; refine q_seq ?_; refine q_region ?_; refine ql_pure tabOk rfl rfl ?_)
    refine ql_callv (val := .bool (inB shot 0 4)) tabOk rfl rfl rfl rfl (fun w hs => ?_) ?_; exact in_ca _ _ _ w
    ((iterate 2 refine ql_pure tabOk rfl rfl ?_))
    cases c1 : inB shot 0 4 with
    | false =>
      ((iterate 7 refine ql_gno rfl rfl rfl ?_); (iterate 2 refine ql_pure tabOk rfl rfl ?_); refine q_nil ?_; refine q_cond_true rfl ?_; refine q_seq ?_; refine q_region ?_)
      refine ql_mk #[.bool false, .int .i64 0] rfl (by kernel_rfl) rfl ?_
      (refine ql_setA tabOk rfl rfl rfl rfl rfl (by repeat constructor) rfl ?_; refine ql_pure tabOk rfl rfl ?_; refine q_nil ?_; refine q_ret ?_)
      refine q_fin tabOk rfl (by repeat (first | exact RVs.nil | apply RVs.tmp rfl | apply RVs.cellA rfl rfl (by repeat first | exact .head _ | refine .tail _ ?_) (by rfl) | apply RVs.cell1 rfl rfl (by repeat first | exact .head _ | refine .tail _ ?_))) fun w hs => ?_
      refine ⟨?_, hs.chg0⟩
      have e : chooseV r p shot waits state click = ((false, 0), 1) := by unfold chooseV; rw [if_neg (by simpa using hru), c1]; rfl
      rw [e]; rfl
    | true =>
      (refine ql_gyes rfl ?_; refine ql_pure tabOk rfl rfl ?_; refine ql_gyes rfl ?_; refine ql_pure tabOk rfl rfl ?_; refine ql_gyes rfl ?_; refine ql_loadB tabOk rfl rfl rfl (by repeat first | exact .head _ | refine .tail _ ?_) (by rfl) ?_; refine ql_gyes rfl ?_; refine ql_pure tabOk rfl rfl ?_; refine ql_gyes rfl ?_; refine ql_ar tabOk rfl rfl rfl rfl (by omega) (by omega) ?_; refine ql_gyes rfl ?_)
      refine ql_callv (val := .bool (inB state 0 ((r.drifts.length : Int) - 1))) tabOk rfl rfl rfl rfl (fun w hs => ?_) ?_; exact in_ca _ _ _ w
      (refine ql_gyes rfl ?_; (iterate 3 refine ql_pure tabOk rfl rfl ?_); refine q_nil ?_)
      cases c2 : inB state 0 ((r.drifts.length : Int) - 1) with
      | false =>
        (refine q_cond_true rfl ?_; refine q_seq ?_; refine q_region ?_)
        refine ql_mk #[.bool false, .int .i64 0] rfl (by kernel_rfl) rfl ?_
        (refine ql_setA tabOk rfl rfl rfl rfl rfl (by repeat constructor) rfl ?_; refine ql_pure tabOk rfl rfl ?_; refine q_nil ?_; refine q_ret ?_)
        refine q_fin tabOk rfl (by repeat (first | exact RVs.nil | apply RVs.tmp rfl | apply RVs.cellA rfl rfl (by repeat first | exact .head _ | refine .tail _ ?_) (by rfl) | apply RVs.cell1 rfl rfl (by repeat first | exact .head _ | refine .tail _ ?_))) fun w hs => ?_
        refine ⟨?_, hs.chg0⟩
        have e : chooseV r p shot waits state click = ((false, 0), 1) := by unfold chooseV; rw [if_neg (by simpa using hru), c1, c2]; rfl
        rw [e]; rfl
      | true =>
        (refine q_cond_false rfl ?_; refine q_seq ?_; refine q_region ?_; (iterate 2 refine ql_pure tabOk rfl rfl ?_); refine ql_loadB tabOk rfl rfl rfl (by repeat first | exact .head _ | refine .tail _ ?_) (by rfl) ?_)
        refine ql_callv (val := .bool (inB waits 0 p.waits)) tabOk rfl rfl rfl rfl (fun w hs => ?_) ?_; exact in_ca _ _ _ w
        ((iterate 2 refine ql_pure tabOk rfl rfl ?_))
        cases c3 : inB waits 0 p.waits with
        | false =>
          ((iterate 8 refine ql_gno rfl rfl rfl ?_); (iterate 2 refine ql_pure tabOk rfl rfl ?_); refine q_nil ?_; refine q_cond_true rfl ?_; refine q_seq ?_; refine q_region ?_)
          refine ql_mk #[.bool false, .int .i64 0] rfl (by kernel_rfl) rfl ?_
          (refine ql_setA tabOk rfl rfl rfl rfl rfl (by repeat constructor) rfl ?_; refine ql_pure tabOk rfl rfl ?_; refine q_nil ?_; refine q_ret ?_)
          refine q_fin tabOk rfl (by repeat (first | exact RVs.nil | apply RVs.tmp rfl | apply RVs.cellA rfl rfl (by repeat first | exact .head _ | refine .tail _ ?_) (by rfl) | apply RVs.cell1 rfl rfl (by repeat first | exact .head _ | refine .tail _ ?_))) fun w hs => ?_
          refine ⟨?_, hs.chg0⟩
          have e : chooseV r p shot waits state click = ((false, 0), 3) := by unfold chooseV; rw [if_neg (by simpa using hru), c1, c2, c3]; rfl
          rw [e]; rfl
        | true =>
          (refine ql_gyes rfl ?_; refine ql_pure tabOk rfl rfl ?_; refine ql_gyes rfl ?_; refine ql_pure tabOk rfl rfl ?_; refine ql_gyes rfl ?_; refine ql_loadB tabOk rfl rfl rfl (by repeat first | exact .head _ | refine .tail _ ?_) (by rfl) ?_; refine ql_gyes rfl ?_; refine ql_neg tabOk rfl rfl (by omega) (by omega) ?_; refine ql_gyes rfl ?_; refine ql_pure tabOk rfl rfl ?_; refine ql_gyes rfl ?_; refine ql_loadB tabOk rfl rfl rfl (by repeat first | exact .head _ | refine .tail _ ?_) (by rfl) ?_; refine ql_gyes rfl ?_)
          refine ql_callv (val := .bool (inB click (-r.clicks) r.clicks)) tabOk rfl rfl rfl rfl (fun w hs => ?_) ?_; exact in_ca _ _ _ w
          (refine ql_gyes rfl ?_; (iterate 3 refine ql_pure tabOk rfl rfl ?_); refine q_nil ?_)
          cases c4 : inB click (-r.clicks) r.clicks with
          | false =>
            (refine q_cond_true rfl ?_; refine q_seq ?_; refine q_region ?_)
            refine ql_mk #[.bool false, .int .i64 0] rfl (by kernel_rfl) rfl ?_
            (refine ql_setA tabOk rfl rfl rfl rfl rfl (by repeat constructor) rfl ?_; refine ql_pure tabOk rfl rfl ?_; refine q_nil ?_; refine q_ret ?_)
            refine q_fin tabOk rfl (by repeat (first | exact RVs.nil | apply RVs.tmp rfl | apply RVs.cellA rfl rfl (by repeat first | exact .head _ | refine .tail _ ?_) (by rfl) | apply RVs.cell1 rfl rfl (by repeat first | exact .head _ | refine .tail _ ?_))) fun w hs => ?_
            refine ⟨?_, hs.chg0⟩
            have e : chooseV r p shot waits state click = ((false, 0), 3) := by unfold chooseV; rw [if_neg (by simpa using hru), c1, c2, c3, c4]; rfl
            rw [e]; rfl
          | true =>
            have i1 := inB_iff.1 c1
            have i2 := inB_iff.1 c2
            have i3 := inB_iff.1 c3
            have i4 := inB_iff.1 c4
            (refine q_cond_false rfl ?_; refine q_skip ?_; refine q_blk ?_; refine q_seq ?_; refine q_region ?_; refine ql_pure tabOk rfl rfl ?_)
            refine ql_call (β := Vf) (ψ := fun vf' v => GoodV r p vf' ∧ ∀ sh wt st cl, (sh, wt, st, cl) ∈ plcL r p → (vf' sh wt st cl).isSome = true) (L' := fun vf' => [mpV bm vf']) tabOk
              [mpV bm (fun _ _ _ _ => none)] _ (· = bm) rfl rfl rfl rfl (Sp.cons (by repeat constructor) (Sp.refl _)) (fun b hb => ⟨_, .head _, hb⟩) (fun w' hs => (fill_ca w' bp bd bm r p hr hp (fun _ _ _ _ => none) ⟨_, hs.blk (b := bp) (by repeat first | exact .head _ | refine .tail _ ?_), _, _, hs.blk (b := bd) (by repeat first | exact .head _ | refine .tail _ ?_), h0.keep hs.chg0⟩ (hs.mem (show mpV bm (fun _ _ _ _ => none) ∈ _ from .head _)) (fun _ _ _ _ _ h => by cases h)).mono fun v w'' ⟨vf', _, g1, g2, g3⟩ => ⟨vf', ⟨g1, g2⟩, g3⟩) ?_
            rintro vf v ⟨hgood, hfull⟩
            (refine q_nil ?_; refine q_seq ?_; refine q_region ?_; (iterate 5 refine ql_pure tabOk rfl rfl ?_))
            refine ql_mk #[.int .i64 shot, .int .i64 waits, .int .i64 state, .int .i64 click] rfl (by kernel_rfl) rfl ?_
            skip
            refine ql_callv (val := .tuple #[.agg #[.bool (choV r p shot.toNat waits.toNat state.toNat click).1.1, .int .i64 (choV r p shot.toNat waits.toNat state.toNat click).1.2], .int .i64 (choV r p shot.toNat waits.toNat state.toNat click).2]) tabOk rfl rfl rfl rfl (fun w hs => ?_) ?_; exact by have := choose_full w bp bd bm r p vf shot.toNat waits.toNat state.toNat click ⟨_, hs.blk (b := bp) (by repeat first | exact .head _ | refine .tail _ ?_), _, _, hs.blk (b := bd) (by repeat first | exact .head _ | refine .tail _ ?_), h0.keep hs.chg0⟩ (hs.mem (show mpV bm vf ∈ _ from by repeat first | exact .head _ | refine .tail _ ?_)) hr hp hgood hfull (by omega) (by omega) (by omega) i4; rw [show ((shot.toNat : Nat) : Int) = shot by omega, show ((waits.toNat : Nat) : Int) = waits by omega, show ((state.toNat : Nat) : Int) = state by omega] at this; exact this
            (refine ql_pure tabOk rfl rfl ?_; (iterate 2 refine ql_ext tabOk rfl rfl rfl ?_))
            refine ql_alloc zero74 rfl (fun b16 => ?_)
            (refine ql_setA tabOk rfl rfl rfl rfl rfl (by repeat constructor) rfl ?_; refine ql_pure tabOk rfl rfl ?_; refine q_nil ?_; refine q_seq ?_; refine q_region ?_; refine ql_loadAB tabOk rfl rfl rfl (by repeat first | exact .head _ | refine .tail _ ?_) (by rfl) (by rfl) ?_; refine ql_setA tabOk rfl rfl rfl rfl rfl (by repeat constructor) rfl ?_; refine ql_pure tabOk rfl rfl ?_; refine q_nil ?_; refine q_ret ?_)
            refine q_fin tabOk rfl (by repeat (first | exact RVs.nil | apply RVs.tmp rfl | apply RVs.cellA rfl rfl (by repeat first | exact .head _ | refine .tail _ ?_) (by rfl) | apply RVs.cell1 rfl rfl (by repeat first | exact .head _ | refine .tail _ ?_))) fun w hs => ?_
            refine ⟨?_, hs.chg0⟩
            have e : chooseV r p shot waits state click = ((choV r p shot.toNat waits.toNat state.toNat click).1, 0) := by unfold chooseV; rw [if_neg (by simpa using hru), c1, c2, c3, c4]; rfl
            rw [e]; rfl
  · refine ql_callv (val := .tuple #[.pointer none, .int .i64 (rulesV r p)]) tabOk rfl rfl rfl rfl (fun w hs => ?_) ?_; exact begun_no w _ r p (h0.keep hs.chg0) hsm hru
    (refine ql_pure tabOk rfl rfl ?_; (iterate 2 refine ql_ext tabOk rfl rfl rfl ?_); (iterate 2 refine ql_pure tabOk rfl rfl ?_); refine q_nil ?_; refine q_seq ?_; refine q_block ?_; refine q_seq ?_; refine q_region ?_; (iterate 3 refine ql_pure tabOk rfl rfl ?_); refine q_nil ?_)
    rw [decide_eq_false hru]
    (refine q_cond_true rfl ?_; refine q_seq ?_; refine q_region ?_)
    refine ql_mk #[.bool false, .int .i64 0] rfl (by kernel_rfl) rfl ?_
    (refine ql_pure tabOk rfl rfl ?_; refine ql_setA tabOk rfl rfl rfl rfl rfl (by repeat constructor) rfl ?_; refine ql_pure tabOk rfl rfl ?_; refine q_nil ?_; refine q_ret ?_)
    refine q_fin tabOk rfl (by repeat (first | exact RVs.nil | apply RVs.tmp rfl | apply RVs.cellA rfl rfl (by repeat first | exact .head _ | refine .tail _ ?_) (by rfl) | apply RVs.cell1 rfl rfl (by repeat first | exact .head _ | refine .tail _ ?_))) fun w hs => ?_
    refine ⟨?_, hs.chg0⟩
    have e : chooseV r p shot waits state click = ((false, 0), rulesV r p) := by unfold chooseV; rw [if_pos hru]
    rw [e]; rfl

end Go.Proofs.YtohlillcaadidaaGreat

/- Walks: Follow. -/
namespace Go.Proofs.YtohlillcaadidaaGreat
open Go Go.Eng

/-- How far one is. -/
structure FS where
  shot : Nat
  wt : Int
  cl : Int
  misses : Int
  cost : Int
  steps : Int
def stepF (r : Rg) (p : Ru) (offs : List Int) (x : FS) (st : Int) : FS :=
  if x.shot = 5 then x else
  let c := (choV r p x.shot x.wt.toNat st.toNat x.cl).1
  if c.1 then { x with wt := x.wt - 1, cost := x.cost + p.wait, steps := x.steps + 1 }
  else if hitB r (r.drifts.getD st.toNat 0 + offs.getD x.shot 0 + c.2 * r.unit) then { x with shot := x.shot + 1, cl := c.2, cost := x.cost + p.click * max (c.2 - x.cl) (x.cl - c.2), steps := x.steps + 1 }
  else { x with shot := x.shot + 1, cl := c.2, misses := x.misses + 1, cost := x.cost + p.click * max (c.2 - x.cl) (x.cl - c.2) + p.miss, steps := x.steps + 1 }
def endF (r : Rg) (p : Ru) (states offs : List Int) : FS := states.foldl (stepF r p offs) ⟨0, p.waits, 0, 0, 0, 0⟩
/-- What comes of following the plan: misses, cost, steps; the error. -/
def followV (r : Rg) (p : Ru) (states offs : List Int) : (Int × Int × Int) × Int :=
  if rulesV r p ≠ 0 then ((0, 0, 0), rulesV r p) else if (offs.length : Int) ≠ 5 then ((0, 0, 0), 2) else if 5 + p.waits < (states.length : Int) then ((0, 0, 0), 2)
  else if !(states.all (fun n => inB n 0 ((r.drifts.length : Int) - 1))) then ((0, 0, 0), 1) else if !(offs.all (fun n => inB n (-((r.group.length : Int) / 2)) ((r.group.length : Int) / 2))) then ((0, 0, 0), 3)
  else if (endF r p states offs).shot < 5 then ((0, 0, 0), 6) else (((endF r p states offs).misses, (endF r p states offs).cost, (endF r p states offs).steps), 0)

theorem cho_wait {r : Rg} {p : Ru} {shot wt st : Nat} {cl : Int} (h : (choV r p shot wt st cl).1.1 = true) : 0 < wt ∧ (choV r p shot wt st cl).1.2 = 0 := by
  revert h
  unfold choV chV
  simp only
  split
  · split
    · intro _; exact ⟨by assumption, rfl⟩
    · intro h; cases h
  · intro h; cases h
theorem cho_click {r : Rg} {p : Ru} {shot wt st : Nat} {cl : Int} (hc : -r.clicks ≤ cl ∧ cl ≤ r.clicks) (h : (choV r p shot wt st cl).1.1 = false) : -r.clicks ≤ (choV r p shot wt st cl).1.2 ∧ (choV r p shot wt st cl).1.2 ≤ r.clicks := by
  have h2 := (chClick_spec r p (valV r p (shot + 1) wt) shot wt st cl hc).2.1
  revert h
  unfold choV chV
  simp only
  split
  · split
    · intro h; cases h
    · intro _; exact h2
  · intro _; exact h2

structure FOk (r : Rg) (p : Ru) (k : Nat) (x : FS) : Prop where
  shot : x.shot ≤ 5
  wt : 0 ≤ x.wt ∧ x.wt ≤ p.waits
  cl : -r.clicks ≤ x.cl ∧ x.cl ≤ r.clicks
  misses : 0 ≤ x.misses ∧ x.misses ≤ k
  cost : 0 ≤ x.cost ∧ x.cost ≤ 20000 * k
  steps : 0 ≤ x.steps ∧ x.steps ≤ k
theorem stepF_ok {r : Rg} {p : Ru} (hr : r.Right) (hp : p.Right) {offs : List Int} {k : Nat} {x : FS} (h : FOk r p k x) (st : Int) : FOk r p (k + 1) (stepF r p offs x st) := by
  have h1 := h.shot
  have h2 := h.wt
  have h3 := h.cl
  have h4 := h.misses
  have h5 := h.cost
  have h6 := h.steps
  have hC := hr.clicks
  have w1 := hp.wait
  have w2 := hp.miss
  unfold stepF
  split
  · exact ⟨h1, h2, h3, by omega, by omega, by omega⟩
  · rename_i hn
    simp only
    split
    · rename_i hw
      have := (cho_wait hw).1
      refine ⟨h1, ?_, h3, ?_, ?_, ?_⟩ <;> simp only <;> omega
    · rename_i hw
      have hcl := cho_click (r := r) (p := p) (shot := x.shot) (wt := x.wt.toNat) (st := st.toNat) h3 (by simpa using hw)
      have hfar := far_bd hC.2 h3 hcl
      have a1 := mul_bd0 hp.click hfar
      split <;> refine ⟨?_, ?_, hcl, ?_, ?_, ?_⟩ <;> simp only <;> omega
theorem takeF_ok {r : Rg} {p : Ru} (hr : r.Right) (hp : p.Right) (states offs : List Int) : ∀ k, k ≤ states.length → FOk r p k ((states.take k).foldl (stepF r p offs) ⟨0, p.waits, 0, 0, 0, 0⟩)
  | 0, _ => by
    have h1 := hr.clicks
    have h2' : 0 ≤ p.waits ∧ p.waits ≤ p.waits := ⟨hp.waits.1, Int.le_refl _⟩
    exact ⟨by simp, h2' , by simp; omega, by simp, by simp, by simp⟩
  | k + 1, h => by
    rw [List.take_succ_eq_append_getElem (by omega), List.foldl_append]
    exact stepF_ok hr hp (takeF_ok hr hp states offs k (by omega)) _
theorem stepF_5 {r : Rg} {p : Ru} {offs : List Int} (l : List Int) {x : FS} (h : x.shot = 5) : l.foldl (stepF r p offs) x = x := by
  induction l with
  | nil => rfl
  | cons a l ih => rw [List.foldl_cons, show stepF r p offs x a = x by unfold stepF; rw [if_pos h], ih]

theorem follow1_p (w : World) (b : Nat) (t : TypeId) (r : Rg) (cs : List Value) (es : List Int) (hb : Blk w b cs t) (a : Option Addr) (c : Nat) (hc : cs[5]? = some (.slice a r.drifts.length c)) (hs : r.drifts.length ≤ 1000000) : PredAt Tryz.prog tab w (.func (.func 96) #[] #[.pointer (some ⟨b, 0, none⟩)]) (ints es) (pI 0 ((r.drifts.length : Int) - 1)) := by
  refine ⟨_, _, _, rfl, rfl, fun w' hw' x hx => ?_⟩
  have hb' := hb.keep hw'
  obtain ⟨y, hy, rfl⟩ := List.mem_map.1 hx
  refine q_of (Sat.nil w' M0) Tryz.func96 rfl (by simp [Tryz.ntmps96]) ?_
  (refine q_seq ?_; refine q_region ?_; refine ql_pure tabOk rfl rfl ?_; refine q_nil ?_; refine q_seq ?_; refine q_region ?_; (iterate 2 refine ql_pure tabOk rfl rfl ?_))
  refine ql_loadP tabOk rfl rfl rfl hb' hc ?_
  (refine ql_pure tabOk rfl rfl ?_; refine ql_ar tabOk rfl rfl rfl rfl (by omega) (by omega) ?_)
  refine ql_callv tabOk rfl rfl rfl rfl (fun w hs => in_ca y 0 ((r.drifts.length : Int) - 1) w) ?_
  (refine ql_pure tabOk rfl rfl ?_; refine q_nil ?_; refine q_ret ?_)
  refine q_fin tabOk rfl (by repeat (first | exact RVs.nil | apply RVs.tmp rfl | apply RVs.cellA rfl rfl (by repeat first | exact .head _ | refine .tail _ ?_) (by rfl) | apply RVs.cell1 rfl rfl (by repeat first | exact .head _ | refine .tail _ ?_))) fun w hs => ?_
  exact ⟨rfl, hs.chg0⟩
theorem follow2_p (w : World) (b : Nat) (t : TypeId) (far : Int) (es : List Int) (hb : Blk w b [.int .i64 far] t) (hf : 0 ≤ far ∧ far ≤ 1000000) : PredAt Tryz.prog tab w (.func (.func 97) #[] #[.pointer (some ⟨b, 0, none⟩)]) (ints es) (pI (-far) far) := by
  refine ⟨_, _, _, rfl, rfl, fun w' hw' x hx => ?_⟩
  have hb' := hb.keep hw'
  obtain ⟨y, hy, rfl⟩ := List.mem_map.1 hx
  refine q_of (Sat.nil w' M0) Tryz.func97 rfl (by simp [Tryz.ntmps97]) ?_
  (refine q_seq ?_; refine q_region ?_; refine ql_pure tabOk rfl rfl ?_; refine q_nil ?_; refine q_seq ?_; refine q_region ?_; refine ql_pure tabOk rfl rfl ?_; refine ql_loadP tabOk rfl rfl rfl (by assumption) (by rfl) ?_; refine ql_neg tabOk rfl rfl (by omega) (by omega) ?_; refine ql_loadP tabOk rfl rfl rfl (by assumption) (by rfl) ?_)
  refine ql_callv tabOk rfl rfl rfl rfl (fun w hs => in_ca y (-far) far w) ?_
  (refine ql_pure tabOk rfl rfl ?_; refine q_nil ?_; refine q_ret ?_)
  refine q_fin tabOk rfl (by repeat (first | exact RVs.nil | apply RVs.tmp rfl | apply RVs.cellA rfl rfl (by repeat first | exact .head _ | refine .tail _ ?_) (by rfl) | apply RVs.cell1 rfl rfl (by repeat first | exact .head _ | refine .tail _ ?_))) fun w hs => ?_
  exact ⟨rfl, hs.chg0⟩

theorem chc_flat : flatB Tryz.prog 74 [none, some .i64] = true := by kernel_rfl

set_option maxHeartbeats 4000000 in
theorem follow_ca (w : World) (l0 h1 l2 h2 : Nat) (cs : List Value) (r : Rg) (p : Ru) (vs vo : Value) (states offs : List Int) (h : RgC w cs r) (hsm : r.Small) (hl : RdI w l0 h1 vs states) (hu : RdI w l2 h2 vo offs) (hlen : states.length ≤ 1000000) (hlen2 : offs.length ≤ 1000000) :
    Ca Tryz.prog 35 [.agg cs.toArray, .agg #[.int .i64 p.miss, .int .i64 p.click, .int .i64 p.wait, .int .i64 p.waits], vs, vo] w fun v w' =>
    v = .tuple #[.agg #[.int .i64 (followV r p states offs).1.1, .int .i64 (followV r p states offs).1.2.1, .int .i64 (followV r p states offs).1.2.2], .int .i64 (followV r p states offs).2] ∧ Chg [] w w' := by
  have h0 := h
  have s2 := hsm.drifts
  have s1 := hsm.group
  obtain ⟨lo, hi, ag, cg, ad, cd, af, cf, an, cn, rfl, hg, hdr, hf, hn⟩ := h
  obtain ⟨av, cv, rfl, hsd⟩ := hl.outI
  obtain ⟨ao, co, rfl, hod⟩ := hu.outI
  refine q_of (Sat.nil w M0) Tryz.func35 rfl (by simp [Tryz.ntmps35]) ?_
  (refine q_seq ?_; refine q_region ?_)
  refine ql_box rfl rfl (fun b4 => ?_)
  skip
  refine ql_box rfl rfl (fun b5 => ?_)
  skip
  refine ql_alloc zero78 rfl (fun b8 => ?_)
  (refine ql_pure tabOk rfl rfl ?_; refine q_nil ?_)
  refine q_scope (fun l a w h => h) ?_
  (refine q_seq ?_; refine q_region ?_; (iterate 2 refine ql_loadAB tabOk rfl rfl rfl (by repeat first | exact .head _ | refine .tail _ ?_) (by rfl) (by rfl) ?_))
  by_cases hru : rulesV r p = 0
  · obtain ⟨hck, hp⟩ := (rules_iff r p).1 hru
    have hr := (right_check r).1 hck
    have hC := hr.clicks
    have hW := hp.waits
    have hD := hr.d2
    refine ql_call (β := Nat × Nat × Nat) tabOk [] _ M0 rfl rfl rfl rfl (Sp.refl _) (fun _ h => h.elim) (fun w' hs => begun_ok w' _ r p (h0.keep hs.chg0) hsm hru) ?_
    rintro ⟨bp, bd, bm⟩ _ rfl
    (refine ql_pure tabOk rfl rfl ?_; (iterate 2 refine ql_ext tabOk rfl rfl rfl ?_); (iterate 2 refine ql_pure tabOk rfl rfl ?_); refine q_nil ?_; refine q_seq ?_; refine q_region ?_; refine ql_pure tabOk rfl rfl ?_; refine ql_loadB tabOk rfl rfl rfl (by repeat first | exact .head _ | refine .tail _ ?_) (by rfl) ?_; refine ql_pure tabOk rfl rfl ?_; refine ql_quoN rfl rfl rfl (by omega) (by omega) (by omega) ?_)
    refine ql_alloc zero3 rfl (fun b12 => ?_)
    (refine ql_set tabOk rfl rfl rfl rfl (by repeat constructor) ?_; refine q_nil ?_; refine q_seq ?_; refine q_block ?_; refine q_seq ?_; refine q_region ?_; (iterate 3 refine ql_pure tabOk rfl rfl ?_); refine q_nil ?_; refine q_cond_false rfl ?_; refine q_seq ?_; refine q_region ?_; (iterate 4 refine ql_pure tabOk rfl rfl ?_))
    by_cases ho : (offs.length : Int) = 5
    · rw [decide_eq_true ho]
      (refine ql_gyes rfl ?_; refine ql_pure tabOk rfl rfl ?_; refine ql_gyes rfl ?_; refine ql_pure tabOk rfl rfl ?_; refine ql_gyes rfl ?_; refine ql_pure tabOk rfl rfl ?_; refine ql_gyes rfl ?_; refine ql_loadB tabOk rfl rfl rfl (by repeat first | exact .head _ | refine .tail _ ?_) (by rfl) ?_; refine ql_gyes rfl ?_; refine ql_ar tabOk rfl rfl rfl rfl (by omega) (by omega) ?_; refine ql_gyes rfl ?_; (iterate 3 refine ql_pure tabOk rfl rfl ?_); refine q_nil ?_)
      by_cases hn : 5 + p.waits < (states.length : Int)
      · rw [decide_eq_true hn]
        (refine q_cond_true rfl ?_; refine q_seq ?_; refine q_region ?_)
        refine ql_mk #[.int .i64 0, .int .i64 0, .int .i64 0] rfl (by kernel_rfl) rfl ?_
        (refine ql_setA tabOk rfl rfl rfl rfl rfl (by repeat constructor) rfl ?_; refine ql_pure tabOk rfl rfl ?_; refine q_nil ?_; refine q_ret ?_)
        refine q_fin tabOk rfl (by repeat (first | exact RVs.nil | apply RVs.tmp rfl | apply RVs.cellA rfl rfl (by repeat first | exact .head _ | refine .tail _ ?_) (by rfl) | apply RVs.cell1 rfl rfl (by repeat first | exact .head _ | refine .tail _ ?_))) fun w hs => ?_
        refine ⟨?_, hs.chg0⟩
        have e : followV r p states offs = ((0, 0, 0), 2) := by unfold followV; rw [if_neg (by simpa using hru), if_neg (by simpa using ho), if_pos hn]
        rw [e]; rfl
      rw [decide_eq_false hn]
      (refine q_cond_false rfl ?_; refine q_seq ?_; refine q_region ?_; (iterate 2 refine ql_pure tabOk rfl rfl ?_))
      refine ql_callv (val := .bool (states.all (fun n => inB n 0 ((r.drifts.length : Int) - 1)))) tabOk rfl rfl rfl rfl (fun w hs => ?_) ?_; exact by have := all_int w l0 h1 _ _ (ints states) (pI 0 ((r.drifts.length : Int) - 1)) (RdE.keep hl hs.chg0) (ints_one _) (by simp; omega) (follow1_p w b4 _ r _ states (hs.blk (by repeat first | exact .head _ | refine .tail _ ?_)) ad cd rfl (by omega)); rw [pI_all] at this; exact this
      ((iterate 2 refine ql_pure tabOk rfl rfl ?_); refine q_nil ?_)
      cases hall : states.all (fun n => inB n 0 ((r.drifts.length : Int) - 1)) with
      | false =>
        (refine q_cond_true rfl ?_; refine q_seq ?_; refine q_region ?_)
        refine ql_mk #[.int .i64 0, .int .i64 0, .int .i64 0] rfl (by kernel_rfl) rfl ?_
        (refine ql_setA tabOk rfl rfl rfl rfl rfl (by repeat constructor) rfl ?_; refine ql_pure tabOk rfl rfl ?_; refine q_nil ?_; refine q_ret ?_)
        refine q_fin tabOk rfl (by repeat (first | exact RVs.nil | apply RVs.tmp rfl | apply RVs.cellA rfl rfl (by repeat first | exact .head _ | refine .tail _ ?_) (by rfl) | apply RVs.cell1 rfl rfl (by repeat first | exact .head _ | refine .tail _ ?_))) fun w hs => ?_
        refine ⟨?_, hs.chg0⟩
        have e : followV r p states offs = ((0, 0, 0), 1) := by unfold followV; rw [if_neg (by simpa using hru), if_neg (by simpa using ho), if_neg hn, hall]; rfl
        rw [e]; rfl
      | true =>
        (refine q_cond_false rfl ?_; refine q_seq ?_; refine q_region ?_; (iterate 2 refine ql_pure tabOk rfl rfl ?_))
        refine ql_callv (val := .bool (offs.all (fun n => inB n (-((r.group.length : Int) / 2)) ((r.group.length : Int) / 2)))) tabOk rfl rfl rfl rfl (fun w hs => ?_) ?_; exact by have := all_int w l2 h2 _ _ (ints offs) (pI (-((r.group.length : Int) / 2)) ((r.group.length : Int) / 2)) (RdE.keep hu hs.chg0) (ints_one _) (by simp; omega) (follow2_p w b12 _ _ offs (hs.blk (by repeat first | exact .head _ | refine .tail _ ?_)) (by omega)); rw [pI_all] at this; exact this
        ((iterate 2 refine ql_pure tabOk rfl rfl ?_); refine q_nil ?_)
        cases hall2 : offs.all (fun n => inB n (-((r.group.length : Int) / 2)) ((r.group.length : Int) / 2)) with
        | false =>
          (refine q_cond_true rfl ?_; refine q_seq ?_; refine q_region ?_)
          refine ql_mk #[.int .i64 0, .int .i64 0, .int .i64 0] rfl (by kernel_rfl) rfl ?_
          (refine ql_setA tabOk rfl rfl rfl rfl rfl (by repeat constructor) rfl ?_; refine ql_pure tabOk rfl rfl ?_; refine q_nil ?_; refine q_ret ?_)
          refine q_fin tabOk rfl (by repeat (first | exact RVs.nil | apply RVs.tmp rfl | apply RVs.cellA rfl rfl (by repeat first | exact .head _ | refine .tail _ ?_) (by rfl) | apply RVs.cell1 rfl rfl (by repeat first | exact .head _ | refine .tail _ ?_))) fun w hs => ?_
          refine ⟨?_, hs.chg0⟩
          have e : followV r p states offs = ((0, 0, 0), 3) := by unfold followV; rw [if_neg (by simpa using hru), if_neg (by simpa using ho), if_neg hn, hall, hall2]; rfl
          rw [e]; rfl
        | true =>
          (refine q_cond_false rfl ?_; refine q_skip ?_; refine q_blk ?_; refine q_seq ?_; refine q_region ?_; refine ql_pure tabOk rfl rfl ?_)
          refine ql_call (β := Vf) (ψ := fun vf' v => GoodV r p vf' ∧ ∀ sh wt st cl, (sh, wt, st, cl) ∈ plcL r p → (vf' sh wt st cl).isSome = true) (L' := fun vf' => [mpV bm vf']) tabOk
            [mpV bm (fun _ _ _ _ => none)] _ (· = bm) rfl rfl rfl rfl (Sp.cons (by repeat constructor) (Sp.refl _)) (fun b hb => ⟨_, .head _, hb⟩) (fun w' hs => (fill_ca w' bp bd bm r p hr hp (fun _ _ _ _ => none) ⟨_, hs.blk (b := bp) (by repeat first | exact .head _ | refine .tail _ ?_), _, _, hs.blk (b := bd) (by repeat first | exact .head _ | refine .tail _ ?_), h0.keep hs.chg0⟩ (hs.mem (show mpV bm (fun _ _ _ _ => none) ∈ _ from .head _)) (fun _ _ _ _ _ h => by cases h)).mono fun v w'' ⟨vf', _, g1, g2, g3⟩ => ⟨vf', ⟨g1, g2⟩, g3⟩) ?_
          rintro vf v ⟨hgood, hfull⟩
          (refine q_nil ?_; refine q_seq ?_; refine q_region ?_)
          refine ql_alloc zero78 rfl (fun b13 => ?_)
          (refine q_nil ?_; refine q_seq ?_; refine q_region ?_; refine ql_pure tabOk rfl rfl ?_; refine ql_loadB tabOk rfl rfl rfl (by repeat first | exact .head _ | refine .tail _ ?_) (by rfl) ?_)
          refine ql_mk #[.int .i64 0, .int .i64 p.waits, .int .i64 0, .int .i64 0] rfl (by kernel_rfl) rfl ?_
          refine ql_alloc zero110 rfl (fun b14 => ?_)
          (refine ql_setA tabOk rfl rfl rfl rfl rfl (by repeat constructor) rfl ?_; refine q_nil ?_; refine q_seq ?_; refine q_label ?_; (iterate 2 refine q_seq ?_); refine q_region ?_; (iterate 3 refine ql_pure tabOk rfl rfl ?_); refine q_nil ?_; refine q_block ?_)
          have hst5 : (states.length : Int) ≤ 8 := by omega
          refine q_loop (σ := Nat × Int × FS) (fun s => s.1 ≤ states.length ∧ s.2.2 = (states.take s.1).foldl (stepF r p offs) ⟨0, p.waits, 0, 0, 0, 0⟩) (fun s => states.length - s.1)
            (fun s => [(3, .slice ao offs.length co), (4, .pointer (some ⟨b4, 0, none⟩)), (5, .pointer (some ⟨b5, 0, none⟩)), (8, .pointer (some ⟨b8, 0, none⟩)), (10, .pointer (some ⟨bp, 0, none⟩)), (13, .pointer (some ⟨b13, 0, none⟩)), (14, .pointer (some ⟨b14, 0, none⟩)), (64, .slice av states.length cv), (65, .int .i64 states.length), (66, .int .i64 s.1)])
            (fun s => [.pt b14 [.int .i64 s.2.2.shot, .int .i64 s.2.2.wt, .int .i64 s.2.1, .int .i64 s.2.2.cl] 110, .pt b13 [.int .i64 s.2.2.misses, .int .i64 s.2.2.cost, .int .i64 s.2.2.steps] 78, mpV bm vf, .pt bp [.pointer (some ⟨bd, 0, none⟩), .int .i64 p.miss, .int .i64 p.click, .int .i64 p.wait, .int .i64 p.waits, .map (some bm)] 113,
              .pt bd [.int .i64 r.radius, .int .i64 r.unit, .int .i64 r.clicks, .int .i64 r.total, .slice ag r.group.length cg, .slice ad r.drifts.length cd, .slice af r.first.length cf, .slice an r.next.length cn] 141, .pt b8 [.int .i64 0, .int .i64 0, .int .i64 0] 78, .pt b5 [.int .i64 p.miss, .int .i64 p.click, .int .i64 p.wait, .int .i64 p.waits] 56,
              .pt b4 [.int .i64 r.radius, .int .i64 r.unit, .int .i64 r.clicks, .int .i64 r.total, .slice ag r.group.length cg, .slice ad r.drifts.length cd, .slice af r.first.length cf, .slice an r.next.length cn] 25]) (0, 0, ⟨0, p.waits, 0, 0, 0, 0⟩) ⟨by simp, rfl⟩ ⟨rfl, rfl, rfl, rfl, rfl, rfl, rfl, rfl, rfl, rfl, trivial⟩ (by repeat (first | exact Sp.nil | exact Sp.refl _ | refine Sp.cons (by repeat constructor) ?_)) ?_
          rintro ⟨k, z, sh, wt, cl, mi, co', st'⟩ ⟨hk, hx⟩ K hK
          simp only at hk hx
          have hfo := takeF_ok hr hp states offs k hk
          rw [← hx] at hfo
          have f1 := hfo.shot
          have f2 := hfo.wt
          have f3 := hfo.cl
          have f4 := hfo.misses
          have f5 := hfo.cost
          have f6 := hfo.steps
          simp only at f1 f2 f3 f4 f5 f6
          dsimp only
          (refine q_seq ?_; refine q_region ?_; refine ql_pure tabOk rfl rfl ?_; refine q_nil ?_; refine q_seq ?_)
          refine q_if rfl (fun hc => ?_) (fun hc => ?_)
          · have hk2 : k < states.length := by omega
            clear hc
            obtain ⟨av', cv', hsl, hvd⟩ := RdI.outI hl
            cases hsl
            obtain ⟨bv, ov, rfl⟩ := hvd (by omega)
            obtain ⟨ad', cd', hsl, hdd⟩ := RdI.outI hdr
            cases hsl
            obtain ⟨bdr, odr, rfl⟩ := hdd (by have := hr.d1; omega)
            obtain ⟨ao', co2, hsl, hod2⟩ := RdI.outI hu
            cases hsl
            obtain ⟨bo, oo, rfl⟩ := hod2 (by omega)
            have hsk := inB_iff.1 (List.all_eq_true.1 hall _ (List.getElem_mem hk2))
            obtain ⟨sn, hsn⟩ : ∃ sn : Nat, states[k] = (sn : Int) := ⟨states[k].toNat, by omega⟩
            have hsd2 : sn < r.drifts.length := by omega
            (refine q_skip ?_; refine q_seq ?_; refine q_block ?_; refine q_seq ?_; refine q_region ?_)
            (refine ql_index tabOk rfl rfl rfl rfl rfl (by omega) (by omega) ?_; refine ql_load1 tabOk rfl rfl rfl (fun w hs => RdI.at (RdE.keep hl hs.chg0) k hk2) ?_)
            (refine ql_pure tabOk rfl rfl ?_; refine q_nil ?_; (iterate 2 refine q_seq ?_); refine q_region ?_; refine ql_pure tabOk rfl rfl ?_; refine ql_loadB tabOk rfl rfl rfl (by repeat first | exact .head _ | refine .tail _ ?_) (by rfl) ?_; refine ql_pure tabOk rfl rfl ?_; refine q_nil ?_)
            by_cases h5 : sh = 5
            · rw [decide_eq_true (show (sh : Int) = 5 by omega)]
              have hend : endF r p states offs = ⟨sh, wt, cl, mi, co', st'⟩ := by
                unfold endF
                rw [← List.take_append_drop k states, List.foldl_append, ← hx]
                exact stepF_5 _ h5
              (refine q_cond_true rfl ?_; refine q_exit _ rfl ?_; (iterate 2 refine q_seq ?_); refine q_region ?_; refine ql_pure tabOk rfl rfl ?_; refine ql_loadB tabOk rfl rfl rfl (by repeat first | exact .head _ | refine .tail _ ?_) (by rfl) ?_; refine ql_pure tabOk rfl rfl ?_; refine q_nil ?_)
              refine q_if rfl (fun hc => ?_) (fun hc => ?_)
              · (refine q_seq ?_; refine q_region ?_)
                refine ql_mk #[.int .i64 0, .int .i64 0, .int .i64 0] rfl (by kernel_rfl) rfl ?_
                (refine ql_setA tabOk rfl rfl rfl rfl rfl (by repeat constructor) rfl ?_; refine ql_pure tabOk rfl rfl ?_; refine q_nil ?_; refine q_ret ?_)
                refine q_fin tabOk rfl (by repeat (first | exact RVs.nil | apply RVs.tmp rfl | apply RVs.cellA rfl rfl (by repeat first | exact .head _ | refine .tail _ ?_) (by rfl) | apply RVs.cell1 rfl rfl (by repeat first | exact .head _ | refine .tail _ ?_))) fun w hs => ?_
                refine ⟨?_, hs.chg0⟩
                have e : followV r p states offs = ((0, 0, 0), 6) := by unfold followV; rw [if_neg (by simpa using hru), if_neg (by simpa using ho), if_neg hn, hall, hall2, hend]; exact if_pos (by show sh < 5; omega)
                rw [e]; rfl
              · (refine q_skip ?_; refine q_seq ?_; refine q_region ?_; refine ql_loadAB tabOk rfl rfl rfl (by repeat first | exact .head _ | refine .tail _ ?_) (by rfl) (by rfl) ?_; refine ql_setA tabOk rfl rfl rfl rfl rfl (by repeat constructor) rfl ?_; refine ql_pure tabOk rfl rfl ?_; refine q_nil ?_; refine q_ret ?_)
                refine q_fin tabOk rfl (by repeat (first | exact RVs.nil | apply RVs.tmp rfl | apply RVs.cellA rfl rfl (by repeat first | exact .head _ | refine .tail _ ?_) (by rfl) | apply RVs.cell1 rfl rfl (by repeat first | exact .head _ | refine .tail _ ?_))) fun w hs => ?_
                refine ⟨?_, hs.chg0⟩
                have e : followV r p states offs = ((mi, co', st'), 0) := by unfold followV; rw [if_neg (by simpa using hru), if_neg (by simpa using ho), if_neg hn, hall, hall2, hend]; exact if_neg (by show ¬ sh < 5; omega)
                rw [e]; rfl
            rw [decide_eq_false (show ¬ (sh : Int) = 5 by omega)]
            obtain ⟨ch, hch⟩ : ∃ ch, ch = choV r p sh wt.toNat sn cl := ⟨_, rfl⟩
            have hstep : (states.take (k + 1)).foldl (stepF r p offs) ⟨0, p.waits, 0, 0, 0, 0⟩ = stepF r p offs ⟨sh, wt, cl, mi, co', st'⟩ (sn : Int) := by
              rw [List.take_succ_eq_append_getElem hk2, List.foldl_append, ← hx, hsn]
              rfl
            have hsh : sh < offs.length := by omega
            (refine q_cond_false rfl ?_; refine q_skip ?_; refine q_seq ?_; refine q_region ?_; (iterate 2 refine ql_pure tabOk rfl rfl ?_); refine ql_st2 tabOk rfl rfl rfl rfl (by repeat constructor) ?_; refine q_nil ?_; refine q_seq ?_; refine q_region ?_; refine ql_pure tabOk rfl rfl ?_; refine ql_loadAB tabOk rfl rfl rfl (by repeat first | exact .head _ | refine .tail _ ?_) (by rfl) (by rfl) ?_)
            rw [hsn]
            skip
            refine ql_callv (val := .tuple #[.agg #[.bool ch.1.1, .int .i64 ch.1.2], .int .i64 ch.2]) tabOk rfl rfl rfl rfl (fun w hs => ?_) ?_; exact by have := choose_full w bp bd bm r p vf sh wt.toNat sn cl ⟨_, hs.blk (b := bp) (by repeat first | exact .head _ | refine .tail _ ?_), _, _, hs.blk (b := bd) (by repeat first | exact .head _ | refine .tail _ ?_), h0.keep hs.chg0⟩ (hs.mem (show mpV bm vf ∈ _ from by repeat first | exact .head _ | refine .tail _ ?_)) hr hp hgood hfull (by omega) (by omega) hsd2 f3; rw [← hch, show ((wt.toNat : Nat) : Int) = wt by omega] at this; exact this
            (refine ql_pure tabOk rfl rfl ?_; (iterate 2 refine ql_ext tabOk rfl rfl rfl ?_))
            refine ql_alloc zero74 rfl (fun b17 => ?_)
            (refine ql_setA tabOk rfl rfl rfl rfl rfl (by repeat constructor) rfl ?_; refine ql_pure tabOk rfl rfl ?_; refine q_nil ?_; refine q_seq ?_; refine q_region ?_; refine ql_pure tabOk rfl rfl ?_; refine ql_loadB tabOk rfl rfl rfl (by repeat first | exact .head _ | refine .tail _ ?_) (by rfl) ?_; refine ql_ar tabOk rfl rfl rfl rfl (by omega) (by omega) ?_; refine ql_pure tabOk rfl rfl ?_; refine ql_st2 tabOk rfl rfl rfl rfl (by repeat constructor) ?_; refine q_nil ?_; (iterate 2 refine q_seq ?_); refine q_region ?_; refine ql_loadAB tabOk rfl rfl rfl (by repeat first | exact .head _ | refine .tail _ ?_) (by rfl) (by rfl) ?_)
            refine ql_mk #[.bool true, .int .i64 0] rfl (by kernel_rfl) rfl ?_
            refine ql_eqF (xs := [.bool ch.1.1, .int .i64 ch.1.2]) (ys := [.bool true, .int .i64 0]) [none, some .i64] chc_flat rfl rfl rfl rfl rfl ?_
            (refine q_nil ?_)
            cases hcw : ch.1.1 with
            | true =>
              have hw0 := cho_wait (by rw [← hch]; exact hcw)
              rw [← hch] at hw0
              rw [hw0.2]
              have e1 : stepF r p offs ⟨sh, wt, cl, mi, co', st'⟩ (sn : Int) = ⟨sh, wt - 1, cl, mi, co' + p.wait, st' + 1⟩ := by
                unfold stepF
                rw [if_neg h5]
                simp only [Int.toNat_natCast]
                rw [← hch, if_pos hcw]
              have w1 := hp.wait
              (refine q_cond_true rfl ?_; refine q_seq ?_; refine q_region ?_; refine ql_pure tabOk rfl rfl ?_; refine ql_loadB tabOk rfl rfl rfl (by repeat first | exact .head _ | refine .tail _ ?_) (by rfl) ?_; refine ql_ar tabOk rfl rfl rfl rfl (by omega) (by omega) ?_; refine ql_pure tabOk rfl rfl ?_; refine ql_st1 tabOk rfl rfl rfl rfl (by repeat constructor) ?_; refine q_nil ?_; refine q_seq ?_; refine q_region ?_; refine ql_pure tabOk rfl rfl ?_; refine ql_loadB tabOk rfl rfl rfl (by repeat first | exact .head _ | refine .tail _ ?_) (by rfl) ?_; refine ql_pure tabOk rfl rfl ?_; refine ql_loadB tabOk rfl rfl rfl (by repeat first | exact .head _ | refine .tail _ ?_) (by rfl) ?_; refine ql_ar tabOk rfl rfl rfl rfl (by omega) (by omega) ?_; refine ql_pure tabOk rfl rfl ?_; refine ql_st1 tabOk rfl rfl rfl rfl (by repeat constructor) ?_; refine q_nil ?_; refine q_exit _ rfl ?_; refine q_region ?_; refine ql_ar tabOk rfl rfl rfl rfl (by omega) (by omega) ?_; refine ql_pure tabOk rfl rfl ?_; refine q_nil ?_)
              exact hK (k + 1, sn, ⟨sh, wt - 1, cl, mi, co' + p.wait, st' + 1⟩) _ _ ⟨by simp only; omega, by simp only; rw [hstep, e1]⟩ (by simp only; omega) ⟨rfl, rfl, rfl, rfl, rfl, rfl, rfl, rfl, rfl, rfl, trivial⟩ (by repeat (first | exact Sp.nil | exact Sp.refl _ | refine Sp.cons (by repeat constructor) ?_))
            | false =>
              have hcl := cho_click (r := r) (p := p) (shot := sh) (wt := wt.toNat) (st := sn) f3 (by rw [← hch]; exact hcw)
              rw [← hch] at hcl
              have hfar := far_bd hC.2 f3 hcl
              have a1 := mul_bd0 hp.click hfar
              have hdb := hr.drift _ (List.getElem_mem hsd2)
              have hob := inB_iff.1 (List.all_eq_true.1 hall2 _ (List.getElem_mem hsh))
              have hg2 := hr.g2
              have hun := hr.unit
              have a2 := mul_bd (show -6 ≤ ch.1.2 ∧ ch.1.2 ≤ 6 by omega) (show -20 ≤ r.unit ∧ r.unit ≤ 20 by omega)
              have hgd : r.drifts.getD sn 0 = r.drifts[sn] := by simp [hsd2]
              have hgo : offs.getD sh 0 = offs[sh] := by simp [hsh]
              have w1 := hp.miss
              (refine q_cond_false rfl ?_; refine q_skip ?_; refine q_seq ?_; refine q_region ?_; refine ql_pure tabOk rfl rfl ?_; refine ql_loadB tabOk rfl rfl rfl (by repeat first | exact .head _ | refine .tail _ ?_) (by rfl) ?_; refine ql_pure tabOk rfl rfl ?_; refine ql_loadB tabOk rfl rfl rfl (by repeat first | exact .head _ | refine .tail _ ?_) (by rfl) ?_; refine ql_pure tabOk rfl rfl ?_; refine ql_loadB tabOk rfl rfl rfl (by repeat first | exact .head _ | refine .tail _ ?_) (by rfl) ?_; refine ql_pure tabOk rfl rfl ?_; refine ql_loadB tabOk rfl rfl rfl (by repeat first | exact .head _ | refine .tail _ ?_) (by rfl) ?_; refine ql_ar tabOk rfl rfl rfl rfl (by omega) (by omega) ?_; refine ql_pure tabOk rfl rfl ?_; refine ql_loadB tabOk rfl rfl rfl (by repeat first | exact .head _ | refine .tail _ ?_) (by rfl) ?_; refine ql_pure tabOk rfl rfl ?_; refine ql_loadB tabOk rfl rfl rfl (by repeat first | exact .head _ | refine .tail _ ?_) (by rfl) ?_; refine ql_ar tabOk rfl rfl rfl rfl (by omega) (by omega) ?_; refine ql_pure tabOk rfl rfl ?_; (iterate 2 refine ql_ar tabOk rfl rfl rfl rfl (by omega) (by omega) ?_); refine ql_pure tabOk rfl rfl ?_; refine ql_st1 tabOk rfl rfl rfl rfl (by repeat constructor) ?_; refine q_nil ?_; (iterate 2 refine q_seq ?_); refine q_region ?_; refine ql_pure tabOk rfl rfl ?_; refine ql_loadB tabOk rfl rfl rfl (by repeat first | exact .head _ | refine .tail _ ?_) (by rfl) ?_; refine ql_pure tabOk rfl rfl ?_; refine ql_st3 tabOk rfl rfl rfl rfl (by repeat constructor) ?_; refine q_nil ?_; refine q_seq ?_)
              refine q_draw _ [] (Sp.refl _) (by kernel_rfl) (by kernel_rfl) ?_
              ((iterate 3 refine qf_pure tabOk rfl rfl rfl ?_); refine qf_loadB tabOk rfl rfl rfl (by repeat first | exact .head _ | refine .tail _ ?_) (by rfl) ?_; refine qf_pure tabOk rfl rfl rfl ?_; refine qf_loadB tabOk rfl rfl rfl (by repeat first | exact .head _ | refine .tail _ ?_) (by rfl) ?_; refine qf_pure tabOk rfl rfl rfl ?_)
              (refine qf_index tabOk rfl rfl rfl rfl rfl (by omega) (by omega) ?_; refine qf_load1 tabOk rfl rfl rfl (fun w hs => RdI.at (RdE.keep hdr hs.chg0) sn hsd2) ?_)
              ((iterate 2 refine qf_pure tabOk rfl rfl rfl ?_); refine qf_loadB tabOk rfl rfl rfl (by repeat first | exact .head _ | refine .tail _ ?_) (by rfl) ?_)
              (refine qf_index tabOk rfl rfl rfl rfl rfl (by omega) (by omega) ?_; refine qf_load1 tabOk rfl rfl rfl (fun w hs => RdI.at (RdE.keep hu hs.chg0) sh hsh) ?_)
              (refine qf_ar tabOk rfl rfl rfl rfl (by omega) (by omega) ?_; refine qf_pure tabOk rfl rfl rfl ?_; refine qf_loadB tabOk rfl rfl rfl (by repeat first | exact .head _ | refine .tail _ ?_) (by rfl) ?_; refine qf_pure tabOk rfl rfl rfl ?_; refine qf_loadB tabOk rfl rfl rfl (by repeat first | exact .head _ | refine .tail _ ?_) (by rfl) ?_; (iterate 2 refine qf_ar tabOk rfl rfl rfl rfl (by omega) (by omega) ?_))
              refine qf_callv (val := .bool (hitB r (r.drifts[sn] + offs[sh] + ch.1.2 * r.unit))) tabOk rfl rfl rfl rfl (fun w hs => ?_) ?_; exact hits_ca w bd r _ ⟨_, _, hs.blk (b := bd) (by repeat first | exact .head _ | refine .tail _ ?_), h0.keep hs.chg0⟩ hr.radius
              (refine qf_pure tabOk rfl rfl rfl ?_; refine qf_nil ?_)
              cases hhit : hitB r (r.drifts[sn] + offs[sh] + ch.1.2 * r.unit) with
              | true =>
                have e1 : stepF r p offs ⟨sh, wt, cl, mi, co', st'⟩ (sn : Int) = ⟨sh + 1, wt, ch.1.2, mi, co' + p.click * max (ch.1.2 - cl) (cl - ch.1.2), st' + 1⟩ := by
                  unfold stepF
                  rw [if_neg h5]
                  simp only [Int.toNat_natCast]
                  rw [← hch, if_neg (by rw [hcw]; decide), hgd, hgo, if_pos hhit]
                (refine q_cond_false rfl ?_; refine q_skip ?_; refine q_region ?_; refine ql_pure tabOk rfl rfl ?_; refine ql_loadB tabOk rfl rfl rfl (by repeat first | exact .head _ | refine .tail _ ?_) (by rfl) ?_; refine ql_ar tabOk rfl rfl rfl rfl (by omega) (by omega) ?_; refine ql_pure tabOk rfl rfl ?_; refine ql_st0 tabOk rfl rfl rfl rfl (by repeat constructor) ?_; refine q_nil ?_; refine q_blk ?_; refine q_region ?_; refine ql_ar tabOk rfl rfl rfl rfl (by omega) (by omega) ?_; refine ql_pure tabOk rfl rfl ?_; refine q_nil ?_)
                exact hK (k + 1, sn, ⟨sh + 1, wt, ch.1.2, mi, co' + p.click * max (ch.1.2 - cl) (cl - ch.1.2), st' + 1⟩) _ _ ⟨by simp only; omega, by simp only; rw [hstep, e1]⟩ (by simp only; omega) ⟨rfl, rfl, rfl, rfl, rfl, rfl, rfl, rfl, rfl, rfl, trivial⟩ (by repeat (first | exact Sp.nil | exact Sp.refl _ | refine Sp.cons (by repeat constructor) ?_))
              | false =>
                have e1 : stepF r p offs ⟨sh, wt, cl, mi, co', st'⟩ (sn : Int) = ⟨sh + 1, wt, ch.1.2, mi + 1, co' + p.click * max (ch.1.2 - cl) (cl - ch.1.2) + p.miss, st' + 1⟩ := by
                  unfold stepF
                  rw [if_neg h5]
                  simp only [Int.toNat_natCast]
                  rw [← hch, if_neg (by rw [hcw]; decide), hgd, hgo, if_neg (by rw [hhit]; decide)]
                (refine q_cond_true rfl ?_; refine q_seq ?_; refine q_region ?_; refine ql_pure tabOk rfl rfl ?_; refine ql_loadB tabOk rfl rfl rfl (by repeat first | exact .head _ | refine .tail _ ?_) (by rfl) ?_; refine ql_ar tabOk rfl rfl rfl rfl (by omega) (by omega) ?_; refine ql_pure tabOk rfl rfl ?_; refine ql_st0 tabOk rfl rfl rfl rfl (by repeat constructor) ?_; refine q_nil ?_; refine q_region ?_; refine ql_pure tabOk rfl rfl ?_; refine ql_loadB tabOk rfl rfl rfl (by repeat first | exact .head _ | refine .tail _ ?_) (by rfl) ?_; refine ql_pure tabOk rfl rfl ?_; refine ql_loadB tabOk rfl rfl rfl (by repeat first | exact .head _ | refine .tail _ ?_) (by rfl) ?_; refine ql_ar tabOk rfl rfl rfl rfl (by omega) (by omega) ?_; refine ql_pure tabOk rfl rfl ?_; refine ql_st1 tabOk rfl rfl rfl rfl (by repeat constructor) ?_; refine q_nil ?_; refine q_region ?_; refine ql_pure tabOk rfl rfl ?_; refine ql_loadB tabOk rfl rfl rfl (by repeat first | exact .head _ | refine .tail _ ?_) (by rfl) ?_; refine ql_ar tabOk rfl rfl rfl rfl (by omega) (by omega) ?_; refine ql_pure tabOk rfl rfl ?_; refine ql_st0 tabOk rfl rfl rfl rfl (by repeat constructor) ?_; refine q_nil ?_; refine q_blk ?_; refine q_region ?_; refine ql_ar tabOk rfl rfl rfl rfl (by omega) (by omega) ?_; refine ql_pure tabOk rfl rfl ?_; refine q_nil ?_)
                exact hK (k + 1, sn, ⟨sh + 1, wt, ch.1.2, mi + 1, co' + p.click * max (ch.1.2 - cl) (cl - ch.1.2) + p.miss, st' + 1⟩) _ _ ⟨by simp only; omega, by simp only; rw [hstep, e1]⟩ (by simp only; omega) ⟨rfl, rfl, rfl, rfl, rfl, rfl, rfl, rfl, rfl, rfl, trivial⟩ (by repeat (first | exact Sp.nil | exact Sp.refl _ | refine Sp.cons (by repeat constructor) ?_))
          · obtain rfl : k = states.length := by omega
            have hend : endF r p states offs = ⟨sh, wt, cl, mi, co', st'⟩ := by
              rw [List.take_of_length_le (Nat.le_refl _)] at hx
              exact hx.symm
            clear hc
            (refine q_exit _ rfl ?_; (iterate 2 refine q_seq ?_); refine q_region ?_; refine ql_pure tabOk rfl rfl ?_; refine ql_loadB tabOk rfl rfl rfl (by repeat first | exact .head _ | refine .tail _ ?_) (by rfl) ?_; refine ql_pure tabOk rfl rfl ?_; refine q_nil ?_)
            refine q_if rfl (fun hc => ?_) (fun hc => ?_)
            · (refine q_seq ?_; refine q_region ?_)
              refine ql_mk #[.int .i64 0, .int .i64 0, .int .i64 0] rfl (by kernel_rfl) rfl ?_
              (refine ql_setA tabOk rfl rfl rfl rfl rfl (by repeat constructor) rfl ?_; refine ql_pure tabOk rfl rfl ?_; refine q_nil ?_; refine q_ret ?_)
              refine q_fin tabOk rfl (by repeat (first | exact RVs.nil | apply RVs.tmp rfl | apply RVs.cellA rfl rfl (by repeat first | exact .head _ | refine .tail _ ?_) (by rfl) | apply RVs.cell1 rfl rfl (by repeat first | exact .head _ | refine .tail _ ?_))) fun w hs => ?_
              refine ⟨?_, hs.chg0⟩
              have e : followV r p states offs = ((0, 0, 0), 6) := by unfold followV; rw [if_neg (by simpa using hru), if_neg (by simpa using ho), if_neg hn, hall, hall2, hend]; exact if_pos (by show sh < 5; omega)
              rw [e]; rfl
            · (refine q_skip ?_; refine q_seq ?_; refine q_region ?_; refine ql_loadAB tabOk rfl rfl rfl (by repeat first | exact .head _ | refine .tail _ ?_) (by rfl) (by rfl) ?_; refine ql_setA tabOk rfl rfl rfl rfl rfl (by repeat constructor) rfl ?_; refine ql_pure tabOk rfl rfl ?_; refine q_nil ?_; refine q_ret ?_)
              refine q_fin tabOk rfl (by repeat (first | exact RVs.nil | apply RVs.tmp rfl | apply RVs.cellA rfl rfl (by repeat first | exact .head _ | refine .tail _ ?_) (by rfl) | apply RVs.cell1 rfl rfl (by repeat first | exact .head _ | refine .tail _ ?_))) fun w hs => ?_
              refine ⟨?_, hs.chg0⟩
              have e : followV r p states offs = ((mi, co', st'), 0) := by unfold followV; rw [if_neg (by simpa using hru), if_neg (by simpa using ho), if_neg hn, hall, hall2, hend]; exact if_neg (by show ¬ sh < 5; omega)
              rw [e]; rfl
    · rw [decide_eq_false ho]
      ((iterate 6 refine ql_gno rfl rfl rfl ?_); (iterate 2 refine ql_pure tabOk rfl rfl ?_); refine q_nil ?_; refine q_cond_true rfl ?_; refine q_seq ?_; refine q_region ?_)
      refine ql_mk #[.int .i64 0, .int .i64 0, .int .i64 0] rfl (by kernel_rfl) rfl ?_
      (refine ql_setA tabOk rfl rfl rfl rfl rfl (by repeat constructor) rfl ?_; refine ql_pure tabOk rfl rfl ?_; refine q_nil ?_; refine q_ret ?_)
      refine q_fin tabOk rfl (by repeat (first | exact RVs.nil | apply RVs.tmp rfl | apply RVs.cellA rfl rfl (by repeat first | exact .head _ | refine .tail _ ?_) (by rfl) | apply RVs.cell1 rfl rfl (by repeat first | exact .head _ | refine .tail _ ?_))) fun w hs => ?_
      refine ⟨?_, hs.chg0⟩
      have e : followV r p states offs = ((0, 0, 0), 2) := by unfold followV; rw [if_neg (by simpa using hru), if_pos ho]
      rw [e]; rfl
  · refine ql_callv (val := .tuple #[.pointer none, .int .i64 (rulesV r p)]) tabOk rfl rfl rfl rfl (fun w hs => ?_) ?_; exact begun_no w _ r p (h0.keep hs.chg0) hsm hru
    (refine ql_pure tabOk rfl rfl ?_; (iterate 2 refine ql_ext tabOk rfl rfl rfl ?_); (iterate 2 refine ql_pure tabOk rfl rfl ?_); refine q_nil ?_; refine q_seq ?_; refine q_region ?_; refine ql_pure tabOk rfl rfl ?_; refine ql_loadB tabOk rfl rfl rfl (by repeat first | exact .head _ | refine .tail _ ?_) (by rfl) ?_; refine ql_pure tabOk rfl rfl ?_; refine ql_quoN rfl rfl rfl (by omega) (by omega) (by omega) ?_)
    refine ql_alloc zero3 rfl (fun b12 => ?_)
    (refine ql_set tabOk rfl rfl rfl rfl (by repeat constructor) ?_; refine q_nil ?_; refine q_seq ?_; refine q_block ?_; refine q_seq ?_; refine q_region ?_; (iterate 3 refine ql_pure tabOk rfl rfl ?_); refine q_nil ?_)
    rw [decide_eq_false hru]
    (refine q_cond_true rfl ?_; refine q_seq ?_; refine q_region ?_)
    refine ql_mk #[.int .i64 0, .int .i64 0, .int .i64 0] rfl (by kernel_rfl) rfl ?_
    (refine ql_pure tabOk rfl rfl ?_; refine ql_setA tabOk rfl rfl rfl rfl rfl (by repeat constructor) rfl ?_; refine ql_pure tabOk rfl rfl ?_; refine q_nil ?_; refine q_ret ?_)
    refine q_fin tabOk rfl (by repeat (first | exact RVs.nil | apply RVs.tmp rfl | apply RVs.cellA rfl rfl (by repeat first | exact .head _ | refine .tail _ ?_) (by rfl) | apply RVs.cell1 rfl rfl (by repeat first | exact .head _ | refine .tail _ ?_))) fun w hs => ?_
    refine ⟨?_, hs.chg0⟩
    have e : followV r p states offs = ((0, 0, 0), rulesV r p) := by unfold followV; rw [if_pos hru]
    rw [e]; rfl

end Go.Proofs.YtohlillcaadidaaGreat

/- Walks: Two, Winds. -/
namespace Go.Proofs.YtohlillcaadidaaGreat
open Go Go.Eng

theorem Blk.rdI {w : World} {b : Nat} {l : List Int} {t : TypeId} {c : Nat} (h : Blk w b (ints l) t) : RdI w 0 w.heap.size (.slice (some ⟨b, 0, none⟩) l.length c) l :=
  RdI.of ((Blk.rd h (by simp) c).wide (Nat.zero_le _) h.lt)
theorem RdII.of {w : World} {lo hi : Nat} {v : Value} {ll : List (List Int)} {vs : List Value} (h : Rd w lo hi v 1 vs.length vs) (h1 : vs.length = ll.length) (h2 : ∀ i (h : i < vs.length) (h' : i < ll.length), RdI w lo hi vs[i] ll[i]) (h3 : ∀ e ∈ vs, oneV e = true) : RdII w lo hi v ll :=
  ⟨vs, RdE.one h h3, h1, h2⟩

/-- Pieces that hold a range. -/
def OwnR (L : List Ck) (cs : List Value) (r : Rg) : Prop := ∀ w, (∀ c ∈ L, c.p w) → RgC w cs r
theorem OwnR.at {L : List Ck} {cs : List Value} {r : Rg} {w0 w : World} {M : Nat → Prop} {H : List Ck} (h : OwnR L cs r) (hs : Sat w0 M H w) (hm : un L ∈ H) : RgC w cs r := h w (hs.mem hm).1

/-- The range of example 1. -/
def twoR : Rg := ⟨2, 2, 1, 2, [1, 2, 1], [0, 3], [1, 1], [[2, 0], [0, 2]]⟩
abbrev twoC (b1 b2 b3 b6 : Nat) : List Value := [.int .i64 2, .int .i64 2, .int .i64 1, .int .i64 2, .slice (some ⟨b1, 0, none⟩) 3 3, .slice (some ⟨b2, 0, none⟩) 2 2, .slice (some ⟨b3, 0, none⟩) 2 2, .slice (some ⟨b6, 0, none⟩) 2 2]
abbrev twoL (n1 n2 n3 n4 : Int) (b1 b2 b3 b4 b5 b6 : Nat) : List Ck := [.pt b6 [.slice (some ⟨b4, 0, none⟩) 2 2, .slice (some ⟨b5, 0, none⟩) 2 2] 22, .pt b5 (ints [n3, n4]) 3, .pt b4 (ints [n1, n2]) 3, .pt b3 (ints [1, 1]) 3, .pt b2 (ints [0, 3]) 3, .pt b1 (ints [1, 2, 1]) 3]
theorem two_rg {w : World} {n1 n2 n3 n4 : Int} {b1 b2 b3 b4 b5 b6 : Nat} {t1 t2 t3 t4 t5 t6 : TypeId} (g1 : Blk w b1 (ints [1, 2, 1]) t1) (g2 : Blk w b2 (ints [0, 3]) t2) (g3 : Blk w b3 (ints [1, 1]) t3) (g4 : Blk w b4 (ints [n1, n2]) t4) (g5 : Blk w b5 (ints [n3, n4]) t5)
    (g6 : Blk w b6 [.slice (some ⟨b4, 0, none⟩) 2 2, .slice (some ⟨b5, 0, none⟩) 2 2] t6) : RgC w (twoC b1 b2 b3 b6) ⟨2, 2, 1, 2, [1, 2, 1], [0, 3], [1, 1], [[n1, n2], [n3, n4]]⟩ := by
  refine ⟨0, w.heap.size, _, _, _, _, _, _, _, _, rfl, Blk.rdI g1, Blk.rdI g2, Blk.rdI g3, ?_⟩
  refine RdII.of ((Blk.rd g6 rfl 2).wide (Nat.zero_le _) g6.lt) rfl (fun i hi hi' => ?_) (by simp [oneV])
  have : i = 0 ∨ i = 1 := by simp at hi; omega
  rcases this with rfl | rfl
  · exact Blk.rdI g4
  · exact Blk.rdI g5
theorem twoL_own (n1 n2 n3 n4 : Int) (b1 b2 b3 b4 b5 b6 : Nat) : OwnR (twoL n1 n2 n3 n4 b1 b2 b3 b4 b5 b6) (twoC b1 b2 b3 b6) ⟨2, 2, 1, 2, [1, 2, 1], [0, 3], [1, 1], [[n1, n2], [n3, n4]]⟩ := by
  intro w h
  have g6 : Blk w b6 _ _ := h _ (.head _)
  have g5 : Blk w b5 _ _ := h _ (.tail _ (.head _))
  have g4 : Blk w b4 _ _ := h _ (.tail _ (.tail _ (.head _)))
  have g3 : Blk w b3 _ _ := h _ (.tail _ (.tail _ (.tail _ (.head _))))
  have g2 : Blk w b2 _ _ := h _ (.tail _ (.tail _ (.tail _ (.tail _ (.head _)))))
  have g1 : Blk w b1 _ _ := h _ (.tail _ (.tail _ (.tail _ (.tail _ (.tail _ (.head _))))))
  exact two_rg g1 g2 g3 g4 g5 g6

theorem two_ca0 (w : World) : Ca Tryz.prog 21 [] w fun v w' => ∃ x : Nat × Nat × Nat × Nat × Nat × Nat, v = .agg (twoC x.1 x.2.1 x.2.2.1 x.2.2.2.2.2).toArray ∧ Sat w M0 (twoL 2 0 0 2 x.1 x.2.1 x.2.2.1 x.2.2.2.1 x.2.2.2.2.1 x.2.2.2.2.2) w' := by
  refine q_of (Sat.nil w M0) Tryz.func21 rfl (by simp [Tryz.ntmps21]) ?_
  (refine q_seq ?_; refine q_region ?_)
  refine ql_alloc zero25 rfl (fun b0 => ?_)
  (refine q_nil ?_; refine q_seq ?_; refine q_region ?_)
  refine ql_mkS 3 [.int .i64 1, .int .i64 2, .int .i64 1] rfl (by kernel_rfl) rfl (fun b1 => ?_)
  refine ql_mkS 3 [.int .i64 0, .int .i64 3] rfl (by kernel_rfl) rfl (fun b2 => ?_)
  refine ql_mkS 3 [.int .i64 1, .int .i64 1] rfl (by kernel_rfl) rfl (fun b3 => ?_)
  refine ql_mkS 3 [.int .i64 2, .int .i64 0] rfl (by kernel_rfl) rfl (fun b4 => ?_)
  refine ql_mkS 3 [.int .i64 0, .int .i64 2] rfl (by kernel_rfl) rfl (fun b5 => ?_)
  refine ql_mkS 22 [.slice (some ⟨b4, 0, none⟩) 2 2, .slice (some ⟨b5, 0, none⟩) 2 2] rfl (by kernel_rfl) rfl (fun b6 => ?_)
  refine ql_mk (twoC b1 b2 b3 b6).toArray rfl (by kernel_rfl) rfl ?_
  (refine ql_setA tabOk rfl rfl rfl rfl rfl (by repeat constructor) rfl ?_; refine q_nil ?_; refine q_ret ?_)
  refine q_fin tabOk rfl (by repeat (first | exact RVs.nil | apply RVs.tmp rfl | apply RVs.cellA rfl rfl (by repeat first | exact .head _ | refine .tail _ ?_) (by rfl) | apply RVs.cell1 rfl rfl (by repeat first | exact .head _ | refine .tail _ ?_))) fun w hs => ?_
  exact ⟨(b1, b2, b3, b4, b5, b6), rfl, hs.sp (by repeat (first | exact Sp.nil | exact Sp.refl _ | refine Sp.cons (by repeat constructor) ?_))⟩
theorem two_ca (w : World) : Ca Tryz.prog 21 [] w fun v w' => ∃ x : List Ck × List Value, (v = .agg x.2.toArray ∧ OwnR x.1 x.2 twoR) ∧ Sat w M0 [un x.1] w' :=
  (two_ca0 w).mono fun v w' ⟨(b1, b2, b3, b4, b5, b6), hv, hs⟩ => ⟨(_, _), ⟨hv, twoL_own 2 0 0 2 b1 b2 b3 b4 b5 b6⟩, Sat.un1.2 hs⟩

theorem winds_ca (lo hi : Int) (w : World) : Ca Tryz.prog 22 [.int .i64 lo, .int .i64 hi] w fun v w' => ∃ b : Nat, v = .slice (some ⟨b, 0, none⟩) 5 5 ∧ Sat w M0 [.pt b [.int .i64 lo, .int .i64 hi, .int .i64 lo, .int .i64 hi, .int .i64 lo, .int .i64 hi, .int .i64 lo, .int .i64 hi, .int .i64 lo, .int .i64 hi] 32] w' := by
  refine q_of (Sat.nil w M0) Tryz.func22 rfl (by simp [Tryz.ntmps22]) ?_
  (refine q_seq ?_; refine q_region ?_; refine ql_pure tabOk rfl rfl ?_; refine q_nil ?_; refine q_seq ?_; refine q_region ?_; (iterate 2 refine ql_pure tabOk rfl rfl ?_))
  refine ql_mk #[.int .i64 lo, .int .i64 hi] rfl (by kernel_rfl) rfl ?_
  refine ql_alloc zero32 rfl (fun b0 => ?_)
  (refine ql_setA tabOk rfl rfl rfl rfl rfl (by repeat constructor) rfl ?_; refine q_nil ?_; refine q_seq ?_; refine q_region ?_; (iterate 5 refine ql_loadAB tabOk rfl rfl rfl (by repeat first | exact .head _ | refine .tail _ ?_) (by rfl) (by rfl) ?_))
  refine ql_mkS 32 [.int .i64 lo, .int .i64 hi, .int .i64 lo, .int .i64 hi, .int .i64 lo, .int .i64 hi, .int .i64 lo, .int .i64 hi, .int .i64 lo, .int .i64 hi] rfl (by kernel_rfl) rfl (fun b => ?_)
  (refine ql_pure tabOk rfl rfl ?_; refine q_nil ?_; refine q_ret ?_)
  refine q_fin tabOk rfl (by repeat (first | exact RVs.nil | apply RVs.tmp rfl | apply RVs.cellA rfl rfl (by repeat first | exact .head _ | refine .tail _ ?_) (by rfl) | apply RVs.cell1 rfl rfl (by repeat first | exact .head _ | refine .tail _ ?_))) fun w hs => ?_
  exact ⟨b, rfl, hs.sp (by repeat (first | exact Sp.nil | exact Sp.refl _ | refine Sp.cons (by repeat constructor) ?_))⟩

end Go.Proofs.YtohlillcaadidaaGreat

/- Walks: awake. -/
namespace Go.Proofs.YtohlillcaadidaaGreat
open Go Go.Eng

def ruA : Ru := ⟨240, 20, 0, 0⟩
def ruB : Ru := ⟨240, 100, 30, 1⟩
def twoX : Rg := ⟨2, 2, 1, 2, [1, 2, 1], [0, 3], [1, 1], [[1, 1], [1, 1]]⟩
def winds03 : List (Int × Int) := [(0, 3), (0, 3), (0, 3), (0, 3), (0, 3)]
theorem two_small : twoR.Small := ⟨by decide, by decide, by decide, by decide, by decide⟩
theorem twoX_small : twoX.Small := ⟨by decide, by decide, by decide, by decide, by decide⟩
theorem aw_hit : hitV twoR 1 0 = ((1, 4), 0) := by decide +kernel
theorem aw_exp : expdV twoR 1 = ((25, 8), 0) := by decide +kernel
theorem aw_best : bestV twoR = (-1, (5, 8), 0) := by decide +kernel
theorem aw_rob : robV twoR winds03 = (-1, (5, 4), 0) := by decide +kernel
theorem aw_zero : zeroV twoR [4, 5, -1] = (0, 0) := by decide +kernel
theorem aw_rules : rulesV twoR ruA = 0 := by decide +kernel
theorem aw_drift : driftV [(10, 20), (-5, 5)] [3, 1] = ((25, 65), 0) := by decide +kernel
theorem aw_len : (plcL twoR ruA).length = 30 := by decide +kernel
theorem aw_ch : chooseV twoR ruA 0 0 1 0 = ((false, -1), 0) := by decide +kernel
theorem aw_chx : chooseV twoX ruB 4 1 1 0 = ((true, 0), 0) := by decide +kernel
theorem aw_fol : followV twoR ruA [1, 1, 1, 1, 1] [0, 0, 0, 0, 1] = ((0, 20, 5), 0) := by decide +kernel
theorem aw_prove : proofV twoR ruA ((plcL twoR ruA).map (valP twoR ruA)) = ((10, 1), 0) := by decide +kernel
theorem rat_flat : flatB Tryz.prog 36 [some .i64, some .i64] = true := by kernel_rfl
theorem spn_flat : flatB Tryz.prog 32 [some .i64, some .i64] = true := by kernel_rfl
theorem ply_flat : flatB Tryz.prog 78 [some .i64, some .i64, some .i64] = true := by kernel_rfl
theorem Blk.rdS {w : World} {b : Nat} {l : List (Int × Int)} {cs : List Value} {t : TypeId} {c : Nat} (h : Blk w b cs t) (hc : cs = cellsOf (l.map rtV)) : RdS w 0 w.heap.size (.slice (some ⟨b, 0, none⟩) l.length c) l := by
  refine ⟨?_, fun e he => ?_⟩
  · subst hc
    have hl : (cellsOf (l.map rtV)).length = (l.map rtV).length * 2 := cellsOf_length _ (fun e he => by obtain ⟨x, _, rfl⟩ := List.mem_map.1 he; rfl)
    refine ⟨hl, .inr ⟨b, 0, c, by simp, fun _ => ⟨Nat.zero_le _, h.lt, h.lt⟩, fun j _ => by rw [Blk.cell h]; simp⟩⟩
  · obtain ⟨x, _, rfl⟩ := List.mem_map.1 he
    rfl

set_option maxHeartbeats 4000000 in
theorem awake_ca (w : World) : Ca Tryz.prog 6 [] w fun v w' => v = .bool true ∧ Chg [] w w' := by
  refine q_of (Sat.nil w M0) Tryz.func6 rfl (by simp [Tryz.ntmps6]) ?_
  (refine q_seq ?_; refine q_region ?_; refine ql_pure tabOk rfl rfl ?_; refine q_nil ?_; refine q_seq ?_; refine q_region ?_)
  refine ql_call (β := List Ck × List Value) tabOk [] _ M0 rfl rfl rfl rfl (Sp.refl _) (fun _ h => h.elim) (fun w' hs => two_ca w') ?_
  rintro ⟨L1, cs1⟩ _ ⟨rfl, ho1⟩
  refine ql_callv (val := .tuple #[.agg #[.int .i64 (1), .int .i64 (4)], .int .i64 (0)]) tabOk rfl rfl rfl rfl (fun w hs => ?_) ?_; exact by have := hit_ca w cs1 twoR 1 0 (ho1.at hs (by repeat first | exact .head _ | refine .tail _ ?_)) two_small; rw [aw_hit] at this; exact this
  (refine ql_pure tabOk rfl rfl ?_; (iterate 2 refine ql_ext tabOk rfl rfl rfl ?_))
  refine ql_alloc zero36 rfl (fun b1 => ?_)
  (refine ql_setA tabOk rfl rfl rfl rfl rfl (by repeat constructor) rfl ?_; refine ql_pure tabOk rfl rfl ?_; refine q_nil ?_; refine q_seq ?_; refine q_region ?_)
  refine ql_call (β := List Ck × List Value) tabOk [] _ M0 rfl rfl rfl rfl (Sp.refl _) (fun _ h => h.elim) (fun w' hs => two_ca w') ?_
  rintro ⟨L2, cs2⟩ _ ⟨rfl, ho2⟩
  refine ql_callv (val := .tuple #[.agg #[.int .i64 (25), .int .i64 (8)], .int .i64 (0)]) tabOk rfl rfl rfl rfl (fun w hs => ?_) ?_; exact by have := expectedF_ca w cs2 twoR 1 (ho2.at hs (by repeat first | exact .head _ | refine .tail _ ?_)) two_small; rw [aw_exp] at this; exact this
  (refine ql_pure tabOk rfl rfl ?_; (iterate 2 refine ql_ext tabOk rfl rfl rfl ?_))
  refine ql_alloc zero36 rfl (fun b3 => ?_)
  (refine ql_setA tabOk rfl rfl rfl rfl rfl (by repeat constructor) rfl ?_; refine ql_pure tabOk rfl rfl ?_; refine q_nil ?_; refine q_seq ?_; refine q_region ?_)
  refine ql_call (β := List Ck × List Value) tabOk [] _ M0 rfl rfl rfl rfl (Sp.refl _) (fun _ h => h.elim) (fun w' hs => two_ca w') ?_
  rintro ⟨L3, cs3⟩ _ ⟨rfl, ho3⟩
  refine ql_callv (val := .tuple #[.int .i64 (-1), .agg #[.int .i64 (5), .int .i64 (8)], .int .i64 (0)]) tabOk rfl rfl rfl rfl (fun w hs => ?_) ?_; exact by have := bestF_ca w cs3 twoR (ho3.at hs (by repeat first | exact .head _ | refine .tail _ ?_)) two_small; rw [aw_best] at this; exact this
  (refine ql_pure tabOk rfl rfl ?_; (iterate 3 refine ql_ext tabOk rfl rfl rfl ?_))
  refine ql_alloc zero36 rfl (fun b6 => ?_)
  (refine ql_pure tabOk rfl rfl ?_; refine ql_setA tabOk rfl rfl rfl rfl rfl (by repeat constructor) rfl ?_; refine ql_pure tabOk rfl rfl ?_; refine q_nil ?_; refine q_seq ?_; refine q_region ?_)
  refine ql_call (β := List Ck × List Value) tabOk [] _ M0 rfl rfl rfl rfl (Sp.refl _) (fun _ h => h.elim) (fun w' hs => two_ca w') ?_
  rintro ⟨L4, cs4⟩ _ ⟨rfl, ho4⟩
  refine ql_call (β := Nat) tabOk [] _ M0 rfl rfl rfl rfl (Sp.refl _) (fun _ h => h.elim) (fun w' hs => winds_ca 0 3 w') ?_
  rintro bw _ rfl
  refine ql_callv (val := .tuple #[.int .i64 (-1), .agg #[.int .i64 (5), .int .i64 (4)], .int .i64 (0)]) tabOk rfl rfl rfl rfl (fun w hs => ?_) ?_; exact by have := robF_ca w 0 w.heap.size cs4 twoR _ winds03 (ho4.at hs (by repeat first | exact .head _ | refine .tail _ ?_)) two_small (Blk.rdS (c := 5) (hs.blk (b := bw) (by repeat first | exact .head _ | refine .tail _ ?_)) rfl) (by decide); rw [aw_rob] at this; exact this
  (refine ql_pure tabOk rfl rfl ?_; (iterate 3 refine ql_ext tabOk rfl rfl rfl ?_))
  refine ql_alloc zero36 rfl (fun b9 => ?_)
  (refine ql_pure tabOk rfl rfl ?_; refine ql_setA tabOk rfl rfl rfl rfl rfl (by repeat constructor) rfl ?_; refine ql_pure tabOk rfl rfl ?_; refine q_nil ?_; refine q_seq ?_; refine q_region ?_)
  refine ql_call (β := List Ck × List Value) tabOk [] _ M0 rfl rfl rfl rfl (Sp.refl _) (fun _ h => h.elim) (fun w' hs => two_ca w') ?_
  rintro ⟨L5, cs5⟩ _ ⟨rfl, ho5⟩
  refine ql_mkS 3 (ints [4, 5, -1]) rfl (by kernel_rfl) rfl (fun bz => ?_)
  refine ql_callv (val := .tuple #[.int .i64 (0), .int .i64 (0)]) tabOk rfl rfl rfl rfl (fun w hs => ?_) ?_; exact by have := zeroF_ca w 0 w.heap.size cs5 twoR _ [4, 5, -1] (ho5.at hs (by repeat first | exact .head _ | refine .tail _ ?_)) two_small (Blk.rdI (c := 3) (hs.blk (b := bz) (by repeat first | exact .head _ | refine .tail _ ?_))) (by decide); rw [aw_zero] at this; exact this
  (refine ql_pure tabOk rfl rfl ?_; (iterate 2 refine ql_ext tabOk rfl rfl rfl ?_); (iterate 2 refine ql_pure tabOk rfl rfl ?_); refine q_nil ?_; (iterate 2 refine q_seq ?_); refine q_region ?_; (iterate 3 refine ql_pure tabOk rfl rfl ?_); refine ql_gyes rfl ?_; refine ql_pure tabOk rfl rfl ?_; refine ql_gyes rfl ?_; (iterate 3 refine ql_pure tabOk rfl rfl ?_); refine ql_gyes rfl ?_; refine ql_pure tabOk rfl rfl ?_; refine ql_gyes rfl ?_; (iterate 3 refine ql_pure tabOk rfl rfl ?_); refine ql_gyes rfl ?_; refine ql_pure tabOk rfl rfl ?_; refine ql_gyes rfl ?_; (iterate 3 refine ql_pure tabOk rfl rfl ?_); refine ql_gyes rfl ?_; refine ql_pure tabOk rfl rfl ?_; refine ql_gyes rfl ?_; (iterate 3 refine ql_pure tabOk rfl rfl ?_); refine ql_gyes rfl ?_; refine ql_loadAB tabOk rfl rfl rfl (by repeat first | exact .head _ | refine .tail _ ?_) (by rfl) (by rfl) ?_; refine ql_gyes rfl ?_)
  refine ql_mk #[.int .i64 1, .int .i64 4] rfl (by kernel_rfl) rfl ?_
  (refine ql_gyes rfl ?_)
  refine ql_neF (xs := [.int .i64 1, .int .i64 4]) (ys := [.int .i64 1, .int .i64 4]) [some .i64, some .i64] rat_flat rfl rfl rfl rfl rfl ?_
  ((iterate 2 refine ql_pure tabOk rfl rfl ?_); refine ql_gyes rfl ?_; refine ql_loadAB tabOk rfl rfl rfl (by repeat first | exact .head _ | refine .tail _ ?_) (by rfl) (by rfl) ?_; refine ql_gyes rfl ?_)
  refine ql_mk #[.int .i64 25, .int .i64 8] rfl (by kernel_rfl) rfl ?_
  (refine ql_gyes rfl ?_)
  refine ql_neF (xs := [.int .i64 25, .int .i64 8]) (ys := [.int .i64 25, .int .i64 8]) [some .i64, some .i64] rat_flat rfl rfl rfl rfl rfl ?_
  ((iterate 2 refine ql_pure tabOk rfl rfl ?_); refine ql_gyes rfl ?_; refine ql_pure tabOk rfl rfl ?_; refine ql_gyes rfl ?_; (iterate 3 refine ql_pure tabOk rfl rfl ?_); refine ql_gyes rfl ?_; refine ql_loadAB tabOk rfl rfl rfl (by repeat first | exact .head _ | refine .tail _ ?_) (by rfl) (by rfl) ?_; refine ql_gyes rfl ?_)
  refine ql_mk #[.int .i64 5, .int .i64 8] rfl (by kernel_rfl) rfl ?_
  (refine ql_gyes rfl ?_)
  refine ql_neF (xs := [.int .i64 5, .int .i64 8]) (ys := [.int .i64 5, .int .i64 8]) [some .i64, some .i64] rat_flat rfl rfl rfl rfl rfl ?_
  ((iterate 2 refine ql_pure tabOk rfl rfl ?_); refine ql_gyes rfl ?_; refine ql_pure tabOk rfl rfl ?_; refine ql_gyes rfl ?_; (iterate 3 refine ql_pure tabOk rfl rfl ?_); refine ql_gyes rfl ?_; refine ql_loadAB tabOk rfl rfl rfl (by repeat first | exact .head _ | refine .tail _ ?_) (by rfl) (by rfl) ?_; refine ql_gyes rfl ?_)
  refine ql_mk #[.int .i64 5, .int .i64 4] rfl (by kernel_rfl) rfl ?_
  (refine ql_gyes rfl ?_)
  refine ql_neF (xs := [.int .i64 5, .int .i64 4]) (ys := [.int .i64 5, .int .i64 4]) [some .i64, some .i64] rat_flat rfl rfl rfl rfl rfl ?_
  ((iterate 2 refine ql_pure tabOk rfl rfl ?_); refine ql_gyes rfl ?_; refine ql_pure tabOk rfl rfl ?_; refine ql_gyes rfl ?_; (iterate 2 refine ql_pure tabOk rfl rfl ?_); refine q_nil ?_; refine q_cond_false rfl ?_; refine q_skip ?_; refine q_seq ?_; refine q_region ?_)
  refine ql_mk #[.int .i64 240, .int .i64 20, .int .i64 0, .int .i64 0] rfl (by kernel_rfl) rfl ?_
  refine ql_alloc zero56 rfl (fun b13 => ?_)
  (refine ql_setA tabOk rfl rfl rfl rfl rfl (by repeat constructor) rfl ?_; refine q_nil ?_; refine q_seq ?_)
  refine q_keep [(13, .pointer (some ⟨b13, 0, none⟩))] [.pt b13 [.int .i64 240, .int .i64 20, .int .i64 0, .int .i64 0] 56] ⟨rfl, trivial⟩ (by repeat (first | exact Sp.nil | exact Sp.refl _ | refine Sp.cons (by repeat constructor) ?_)) ?_
  refine q_draw _ [] (Sp.refl _) (by kernel_rfl) (by kernel_rfl) ?_
  skip
  refine qf_call (β := List Ck × List Value) tabOk [] _ M0 rfl rfl rfl rfl (Sp.refl _) (fun _ h => h.elim) (fun w' hs => two_ca w') ?_
  rintro ⟨L6, cs6⟩ _ ⟨rfl, ho6⟩
  (refine qf_loadAB tabOk rfl rfl rfl (by repeat first | exact .head _ | refine .tail _ ?_) (by rfl) (by rfl) ?_)
  refine qf_call (β := Value) tabOk [] _ M0 rfl rfl rfl rfl (Sp.refl _) (fun _ h => h.elim) (fun w' hs => by have := values_ok w' cs6 twoR ruA (ho6.at hs (by repeat first | exact .head _ | refine .tail _ ?_)) two_small aw_rules; rw [aw_len] at this; exact this) ?_
  rintro x14 _ rfl
  (refine qf_pure tabOk rfl rfl rfl ?_; (iterate 2 refine qf_ext tabOk rfl rfl rfl ?_); (iterate 2 refine qf_pure tabOk rfl rfl rfl ?_); refine qf_nil ?_; refine q_seq ?_)
  refine q_fact (fun w hs => hs.slice2 (v := x14) (by repeat first | exact .head _ | refine .tail _ ?_)) ?_
  rintro ⟨a14, c14, rfl⟩
  refine q_keep [(13, .pointer (some ⟨b13, 0, none⟩)), (14, .slice a14 30 c14), (2, .int .i64 0)] [.ow (.slice a14 30 c14) 3 1 30 (ints ((plcL twoR ruA).map (valP twoR ruA))), .pt b13 [.int .i64 240, .int .i64 20, .int .i64 0, .int .i64 0] 56] ⟨rfl, rfl, rfl, trivial⟩ (by repeat (first | exact Sp.nil | exact Sp.refl _ | refine Sp.cons (by repeat constructor) ?_)) ?_
  refine q_cut (σ := Nat) (fun b15 => [(13, .pointer (some ⟨b13, 0, none⟩)), (14, .slice a14 30 c14), (2, .int .i64 0), (4, .int .i64 0), (15, .pointer (some ⟨b15, 0, none⟩))]) (fun b15 => [.pt b15 [.int .i64 10, .int .i64 1] 36, .ow (.slice a14 30 c14) 3 1 30 (ints ((plcL twoR ruA).map (valP twoR ruA))), .pt b13 [.int .i64 240, .int .i64 20, .int .i64 0, .int .i64 0] 56]) ?_ (fun K2 hK2 => ?_)
  rotate_left
  · skip
    refine q_drawT (.alt (chainT [0, 1, 2] (.alt (chainT [3, 4, 5, 6, 7, 8, 9] (.nil)) (chainT [7, 3, 4, 5, 6, 8, 9] (.nil)))) (chainT [7, 0, 1, 2, 3, 4, 5, 6, 8, 9] (.nil))) _ [] (Sp.refl _) (by kernel_rfl) (by kernel_rfl) ?_
    refine qt_alt ?_ ?_
    · skip
      refine qt_seg (by repeat (first | exact PickL.nil | (apply PickL.cons; rfl))) fun K1 hK1 => ?_
      refine qf_call (β := List Ck × List Value) tabOk [] _ M0 rfl rfl rfl rfl (Sp.refl _) (fun _ h => h.elim) (fun w' hs => two_ca w') ?_
      rintro ⟨L, cs⟩ _ ⟨rfl, ho⟩
      (refine qf_loadAB tabOk rfl rfl rfl (by repeat first | exact .head _ | refine .tail _ ?_) (by rfl) (by rfl) ?_; refine qf_pure tabOk rfl rfl rfl ?_; refine qf_nil ?_)
      refine hK1 _ _ ?_
      refine qt_alt ?_ ?_
      · skip
        refine qt_seg (by repeat (first | exact PickL.nil | (apply PickL.cons; rfl))) fun K1 hK1 => ?_
        refine qf_callv (val := .tuple #[.agg #[.int .i64 (10), .int .i64 (1)], .int .i64 (0)]) tabOk rfl rfl rfl rfl (fun w hs => ?_) ?_
        · have := proves_ca w 0 w.heap.size cs twoR ruA _ _ (ho.at hs (by repeat first | exact .head _ | refine .tail _ ?_)) two_small (hs.rdI (v := .slice a14 30 c14) (l := (plcL twoR ruA).map (valP twoR ruA)) (by repeat first | exact .head _ | refine .tail _ ?_) (by rw [List.length_map, aw_len])) (by rw [List.length_map, aw_len]; decide); rw [aw_prove] at this; exact this
        (refine qf_pure tabOk rfl rfl rfl ?_; (iterate 2 refine qf_ext tabOk rfl rfl rfl ?_))
        refine qf_alloc zero36 rfl (fun b15 => ?_)
        (refine qf_setA tabOk rfl rfl rfl rfl rfl (by repeat constructor) rfl ?_; refine qf_pure tabOk rfl rfl rfl ?_; refine qf_nil ?_)
        skip
        exact hK1 _ _ (qt_nil (hK2 b15 _ _ ⟨rfl, rfl, rfl, rfl, rfl, trivial⟩ (by repeat (first | exact Sp.nil | exact Sp.refl _ | refine Sp.cons (by repeat constructor) ?_))))
      · skip
        refine qt_seg (by repeat (first | exact PickL.nil | (apply PickL.cons; rfl))) fun K1 hK1 => ?_
        refine qf_alloc zero36 rfl (fun b15 => ?_)
        skip
        refine qf_callv (val := .tuple #[.agg #[.int .i64 (10), .int .i64 (1)], .int .i64 (0)]) tabOk rfl rfl rfl rfl (fun w hs => ?_) ?_
        · have := proves_ca w 0 w.heap.size cs twoR ruA _ _ (ho.at hs (by repeat first | exact .head _ | refine .tail _ ?_)) two_small (hs.rdI (v := .slice a14 30 c14) (l := (plcL twoR ruA).map (valP twoR ruA)) (by repeat first | exact .head _ | refine .tail _ ?_) (by rw [List.length_map, aw_len])) (by rw [List.length_map, aw_len]; decide); rw [aw_prove] at this; exact this
        (refine qf_pure tabOk rfl rfl rfl ?_; (iterate 2 refine qf_ext tabOk rfl rfl rfl ?_); refine qf_setA tabOk rfl rfl rfl rfl rfl (by repeat constructor) rfl ?_; refine qf_pure tabOk rfl rfl rfl ?_; refine qf_nil ?_)
        skip
        exact hK1 _ _ (qt_nil (hK2 b15 _ _ ⟨rfl, rfl, rfl, rfl, rfl, trivial⟩ (by repeat (first | exact Sp.nil | exact Sp.refl _ | refine Sp.cons (by repeat constructor) ?_))))
    · skip
      refine qt_seg (by repeat (first | exact PickL.nil | (apply PickL.cons; rfl))) fun K1 hK1 => ?_
      refine qf_alloc zero36 rfl (fun b15 => ?_)
      skip
      refine qf_call (β := List Ck × List Value) tabOk [] _ M0 rfl rfl rfl rfl (Sp.refl _) (fun _ h => h.elim) (fun w' hs => two_ca w') ?_
      rintro ⟨L, cs⟩ _ ⟨rfl, ho⟩
      (refine qf_loadAB tabOk rfl rfl rfl (by repeat first | exact .head _ | refine .tail _ ?_) (by rfl) (by rfl) ?_; refine qf_pure tabOk rfl rfl rfl ?_)
      refine qf_callv (val := .tuple #[.agg #[.int .i64 (10), .int .i64 (1)], .int .i64 (0)]) tabOk rfl rfl rfl rfl (fun w hs => ?_) ?_
      · have := proves_ca w 0 w.heap.size cs twoR ruA _ _ (ho.at hs (by repeat first | exact .head _ | refine .tail _ ?_)) two_small (hs.rdI (v := .slice a14 30 c14) (l := (plcL twoR ruA).map (valP twoR ruA)) (by repeat first | exact .head _ | refine .tail _ ?_) (by rw [List.length_map, aw_len])) (by rw [List.length_map, aw_len]; decide); rw [aw_prove] at this; exact this
      (refine qf_pure tabOk rfl rfl rfl ?_; (iterate 2 refine qf_ext tabOk rfl rfl rfl ?_); refine qf_setA tabOk rfl rfl rfl rfl rfl (by repeat constructor) rfl ?_; refine qf_pure tabOk rfl rfl rfl ?_; refine qf_nil ?_)
      skip
      exact hK1 _ _ (qt_nil (hK2 b15 _ _ ⟨rfl, rfl, rfl, rfl, rfl, trivial⟩ (by repeat (first | exact Sp.nil | exact Sp.refl _ | refine Sp.cons (by repeat constructor) ?_))))
  intro b15
  (refine q_seq ?_)
  refine q_cut (σ := Nat) (fun b16 => [(13, .pointer (some ⟨b13, 0, none⟩)), (14, .slice a14 30 c14), (2, .int .i64 0), (4, .int .i64 0), (15, .pointer (some ⟨b15, 0, none⟩)), (16, .pointer (some ⟨b16, 0, none⟩)), (7, .int .i64 0)]) (fun b16 => [.pt b16 [.bool false, .int .i64 (-1)] 74, .pt b15 [.int .i64 10, .int .i64 1] 36, .ow (.slice a14 30 c14) 3 1 30 (ints ((plcL twoR ruA).map (valP twoR ruA))), .pt b13 [.int .i64 240, .int .i64 20, .int .i64 0, .int .i64 0] 56]) ?_ (fun K2 hK2 => ?_)
  rotate_left
  · skip
    refine q_drawT (.alt (chainT [0, 1] (.alt (chainT [2, 3, 4, 5, 6, 7, 8] (.nil)) (chainT [6, 2, 3, 4, 5, 7, 8] (.nil)))) (chainT [6, 0, 1, 2, 3, 4, 5, 7, 8] (.nil))) _ [] (Sp.refl _) (by kernel_rfl) (by kernel_rfl) ?_
    refine qt_alt ?_ ?_
    · skip
      refine qt_seg (by repeat (first | exact PickL.nil | (apply PickL.cons; rfl))) fun K1 hK1 => ?_
      refine qf_call (β := List Ck × List Value) tabOk [] _ M0 rfl rfl rfl rfl (Sp.refl _) (fun _ h => h.elim) (fun w' hs => two_ca w') ?_
      rintro ⟨L, cs⟩ _ ⟨rfl, ho⟩
      (refine qf_loadAB tabOk rfl rfl rfl (by repeat first | exact .head _ | refine .tail _ ?_) (by rfl) (by rfl) ?_; refine qf_nil ?_)
      refine hK1 _ _ ?_
      refine qt_alt ?_ ?_
      · skip
        refine qt_seg (by repeat (first | exact PickL.nil | (apply PickL.cons; rfl))) fun K1 hK1 => ?_
        refine qf_callv (val := .tuple #[.agg #[.bool false, .int .i64 (-1)], .int .i64 (0)]) tabOk rfl rfl rfl rfl (fun w hs => ?_) ?_
        · have := chooseF_ca w cs twoR ruA 0 0 1 0 (ho.at hs (by repeat first | exact .head _ | refine .tail _ ?_)) two_small; rw [aw_ch] at this; exact this
        (refine qf_pure tabOk rfl rfl rfl ?_; (iterate 2 refine qf_ext tabOk rfl rfl rfl ?_))
        refine qf_alloc zero74 rfl (fun b16 => ?_)
        (refine qf_setA tabOk rfl rfl rfl rfl rfl (by repeat constructor) rfl ?_; refine qf_pure tabOk rfl rfl rfl ?_; refine qf_nil ?_)
        skip
        exact hK1 _ _ (qt_nil (hK2 b16 _ _ ⟨rfl, rfl, rfl, rfl, rfl, rfl, rfl, trivial⟩ (by repeat (first | exact Sp.nil | exact Sp.refl _ | refine Sp.cons (by repeat constructor) ?_))))
      · skip
        refine qt_seg (by repeat (first | exact PickL.nil | (apply PickL.cons; rfl))) fun K1 hK1 => ?_
        refine qf_alloc zero74 rfl (fun b16 => ?_)
        skip
        refine qf_callv (val := .tuple #[.agg #[.bool false, .int .i64 (-1)], .int .i64 (0)]) tabOk rfl rfl rfl rfl (fun w hs => ?_) ?_
        · have := chooseF_ca w cs twoR ruA 0 0 1 0 (ho.at hs (by repeat first | exact .head _ | refine .tail _ ?_)) two_small; rw [aw_ch] at this; exact this
        (refine qf_pure tabOk rfl rfl rfl ?_; (iterate 2 refine qf_ext tabOk rfl rfl rfl ?_); refine qf_setA tabOk rfl rfl rfl rfl rfl (by repeat constructor) rfl ?_; refine qf_pure tabOk rfl rfl rfl ?_; refine qf_nil ?_)
        skip
        exact hK1 _ _ (qt_nil (hK2 b16 _ _ ⟨rfl, rfl, rfl, rfl, rfl, rfl, rfl, trivial⟩ (by repeat (first | exact Sp.nil | exact Sp.refl _ | refine Sp.cons (by repeat constructor) ?_))))
    · skip
      refine qt_seg (by repeat (first | exact PickL.nil | (apply PickL.cons; rfl))) fun K1 hK1 => ?_
      refine qf_alloc zero74 rfl (fun b16 => ?_)
      skip
      refine qf_call (β := List Ck × List Value) tabOk [] _ M0 rfl rfl rfl rfl (Sp.refl _) (fun _ h => h.elim) (fun w' hs => two_ca w') ?_
      rintro ⟨L, cs⟩ _ ⟨rfl, ho⟩
      (refine qf_loadAB tabOk rfl rfl rfl (by repeat first | exact .head _ | refine .tail _ ?_) (by rfl) (by rfl) ?_)
      refine qf_callv (val := .tuple #[.agg #[.bool false, .int .i64 (-1)], .int .i64 (0)]) tabOk rfl rfl rfl rfl (fun w hs => ?_) ?_
      · have := chooseF_ca w cs twoR ruA 0 0 1 0 (ho.at hs (by repeat first | exact .head _ | refine .tail _ ?_)) two_small; rw [aw_ch] at this; exact this
      (refine qf_pure tabOk rfl rfl rfl ?_; (iterate 2 refine qf_ext tabOk rfl rfl rfl ?_); refine qf_setA tabOk rfl rfl rfl rfl rfl (by repeat constructor) rfl ?_; refine qf_pure tabOk rfl rfl rfl ?_; refine qf_nil ?_)
      skip
      exact hK1 _ _ (qt_nil (hK2 b16 _ _ ⟨rfl, rfl, rfl, rfl, rfl, rfl, rfl, trivial⟩ (by repeat (first | exact Sp.nil | exact Sp.refl _ | refine Sp.cons (by repeat constructor) ?_))))
  intro b16
  (refine q_seq ?_; refine q_region ?_)
  refine ql_call (β := Nat × Nat × Nat × Nat × Nat × Nat) tabOk [] _ M0 rfl rfl rfl rfl (Sp.refl _) (fun _ h => h.elim) (fun w' hs => two_ca0 w') ?_
  rintro ⟨b41, b42, b43, b44, b45, b46⟩ _ rfl
  skip
  refine ql_alloc zero25 rfl (fun b17 => ?_)
  (refine ql_setA tabOk rfl rfl rfl rfl rfl (by repeat constructor) rfl ?_; refine q_nil ?_; refine q_seq ?_; refine q_region ?_)
  refine ql_mkS 3 (ints [1, 1]) rfl (by kernel_rfl) rfl (fun b51 => ?_)
  refine ql_mkS 3 (ints [1, 1]) rfl (by kernel_rfl) rfl (fun b52 => ?_)
  refine ql_mkS 22 [.slice (some ⟨b51, 0, none⟩) 2 2, .slice (some ⟨b52, 0, none⟩) 2 2] rfl (by kernel_rfl) rfl (fun b53 => ?_)
  (refine ql_pure tabOk rfl rfl ?_; refine ql_st7 tabOk rfl rfl rfl rfl (by repeat constructor) ?_; refine q_nil ?_; refine q_seq ?_; refine q_region ?_; refine ql_loadAB tabOk rfl rfl rfl (by repeat first | exact .head _ | refine .tail _ ?_) (by rfl) (by rfl) ?_)
  refine ql_mk #[.int .i64 240, .int .i64 100, .int .i64 30, .int .i64 1] rfl (by kernel_rfl) rfl ?_
  refine ql_callv (val := .tuple #[.agg #[.bool true, .int .i64 0], .int .i64 0]) tabOk rfl rfl rfl rfl (fun w hs => ?_) ?_; exact by have := chooseF_ca w (twoC b41 b42 b43 b53) twoX ruB 4 1 1 0 (two_rg (hs.blk (b := b41) (by repeat first | exact .head _ | refine .tail _ ?_)) (hs.blk (b := b42) (by repeat first | exact .head _ | refine .tail _ ?_)) (hs.blk (b := b43) (by repeat first | exact .head _ | refine .tail _ ?_)) (hs.blk (b := b51) (by repeat first | exact .head _ | refine .tail _ ?_)) (hs.blk (b := b52) (by repeat first | exact .head _ | refine .tail _ ?_)) (hs.blk (b := b53) (by repeat first | exact .head _ | refine .tail _ ?_))) twoX_small; rw [aw_chx] at this; exact this
  (refine ql_pure tabOk rfl rfl ?_; (iterate 2 refine ql_ext tabOk rfl rfl rfl ?_))
  refine ql_alloc zero74 rfl (fun b18 => ?_)
  (refine ql_setA tabOk rfl rfl rfl rfl rfl (by repeat constructor) rfl ?_; refine ql_pure tabOk rfl rfl ?_; refine q_nil ?_; refine q_seq ?_)
  refine q_cut (σ := Nat) (fun b19 => [(14, .slice a14 30 c14), (2, .int .i64 0), (4, .int .i64 0), (7, .int .i64 0), (10, .int .i64 0), (12, .int .i64 0), (15, .pointer (some ⟨b15, 0, none⟩)), (16, .pointer (some ⟨b16, 0, none⟩)), (18, .pointer (some ⟨b18, 0, none⟩)), (19, .pointer (some ⟨b19, 0, none⟩))]) (fun b19 => [.pt b19 [.int .i64 0, .int .i64 20, .int .i64 5] 78, .pt b18 [.bool true, .int .i64 0] 74, .pt b16 [.bool false, .int .i64 (-1)] 74, .pt b15 [.int .i64 10, .int .i64 1] 36]) ?_ (fun K2 hK2 => ?_)
  rotate_left
  · skip
    refine q_drawT (.alt (chainT [0, 1] (.alt (chainT [2] (.alt (chainT [3] (.alt (chainT [4, 5, 6, 7, 8, 9, 10] (.nil)) (chainT [8, 4, 5, 6, 7, 9, 10] (.nil)))) (chainT [8, 3, 4, 5, 6, 7, 9, 10] (.nil)))) (.alt (chainT [3] (.alt (chainT [2] (.alt (chainT [4, 5, 6, 7, 8, 9, 10] (.nil)) (chainT [8, 4, 5, 6, 7, 9, 10] (.nil)))) (chainT [8, 2, 4, 5, 6, 7, 9, 10] (.nil)))) (chainT [8] (.alt (chainT [2, 3, 4, 5, 6, 7, 9, 10] (.nil)) (chainT [3, 2, 4, 5, 6, 7, 9, 10] (.nil))))))) (.alt (chainT [2] (.alt (chainT [0, 1] (.alt (chainT [3] (.alt (chainT [4, 5, 6, 7, 8, 9, 10] (.nil)) (chainT [8, 4, 5, 6, 7, 9, 10] (.nil)))) (chainT [8, 3, 4, 5, 6, 7, 9, 10] (.nil)))) (.alt (chainT [3] (.alt (chainT [0, 1] (.alt (chainT [4, 5, 6, 7, 8, 9, 10] (.nil)) (chainT [8, 4, 5, 6, 7, 9, 10] (.nil)))) (chainT [8, 0, 1, 4, 5, 6, 7, 9, 10] (.nil)))) (chainT [8] (.alt (chainT [0, 1, 3, 4, 5, 6, 7, 9, 10] (.nil)) (chainT [3, 0, 1, 4, 5, 6, 7, 9, 10] (.nil))))))) (.alt (chainT [3] (.alt (chainT [0, 1] (.alt (chainT [2] (.alt (chainT [4, 5, 6, 7, 8, 9, 10] (.nil)) (chainT [8, 4, 5, 6, 7, 9, 10] (.nil)))) (chainT [8, 2, 4, 5, 6, 7, 9, 10] (.nil)))) (.alt (chainT [2] (.alt (chainT [0, 1] (.alt (chainT [4, 5, 6, 7, 8, 9, 10] (.nil)) (chainT [8, 4, 5, 6, 7, 9, 10] (.nil)))) (chainT [8, 0, 1, 4, 5, 6, 7, 9, 10] (.nil)))) (chainT [8] (.alt (chainT [0, 1, 2, 4, 5, 6, 7, 9, 10] (.nil)) (chainT [2, 0, 1, 4, 5, 6, 7, 9, 10] (.nil))))))) (chainT [8] (.alt (chainT [0, 1] (.alt (chainT [2, 3, 4, 5, 6, 7, 9, 10] (.nil)) (chainT [3, 2, 4, 5, 6, 7, 9, 10] (.nil)))) (.alt (chainT [2] (.alt (chainT [0, 1, 3, 4, 5, 6, 7, 9, 10] (.nil)) (chainT [3, 0, 1, 4, 5, 6, 7, 9, 10] (.nil)))) (chainT [3] (.alt (chainT [0, 1, 2, 4, 5, 6, 7, 9, 10] (.nil)) (chainT [2, 0, 1, 4, 5, 6, 7, 9, 10] (.nil)))))))))) _ [] (Sp.refl _) (by kernel_rfl) (by kernel_rfl) ?_
    refine qt_alt ?_ (qt_alt ?_ (qt_alt ?_ ?_))
    · skip
      refine qt_seg (by repeat (first | exact PickL.nil | (apply PickL.cons; rfl))) fun K1 hK1 => ?_
      refine qf_call (β := List Ck × List Value) tabOk [] _ M0 rfl rfl rfl rfl (Sp.refl _) (fun _ h => h.elim) (fun w' hs => two_ca w') ?_
      rintro ⟨L, cs⟩ _ ⟨rfl, ho⟩
      (refine qf_loadAB tabOk rfl rfl rfl (by repeat first | exact .head _ | refine .tail _ ?_) (by rfl) (by rfl) ?_; refine qf_nil ?_)
      refine hK1 _ _ ?_
      refine qt_alt ?_ (qt_alt ?_ ?_)
      · skip
        refine qt_seg (by repeat (first | exact PickL.nil | (apply PickL.cons; rfl))) fun K1 hK1 => ?_
        refine qf_mkS 3 (ints [1, 1, 1, 1, 1]) rfl (by kernel_rfl) rfl (fun b61 => ?_)
        (refine qf_nil ?_)
        refine hK1 _ _ ?_
        refine qt_alt ?_ ?_
        · skip
          refine qt_seg (by repeat (first | exact PickL.nil | (apply PickL.cons; rfl))) fun K1 hK1 => ?_
          refine qf_mkS 3 (ints [0, 0, 0, 0, 1]) rfl (by kernel_rfl) rfl (fun b62 => ?_)
          (refine qf_nil ?_)
          refine hK1 _ _ ?_
          refine qt_alt ?_ ?_
          · skip
            refine qt_seg (by repeat (first | exact PickL.nil | (apply PickL.cons; rfl))) fun K1 hK1 => ?_
            refine qf_callv (val := .tuple #[.agg #[.int .i64 (0), .int .i64 (20), .int .i64 (5)], .int .i64 (0)]) tabOk rfl rfl rfl rfl (fun w hs => ?_) ?_
            · have := follow_ca w 0 w.heap.size 0 w.heap.size cs twoR ruA _ _ [1, 1, 1, 1, 1] [0, 0, 0, 0, 1] (ho.at hs (by repeat first | exact .head _ | refine .tail _ ?_)) two_small (Blk.rdI (c := 5) (hs.blk (b := b61) (by repeat first | exact .head _ | refine .tail _ ?_))) (Blk.rdI (c := 5) (hs.blk (b := b62) (by repeat first | exact .head _ | refine .tail _ ?_))) (by decide) (by decide); rw [aw_fol] at this; exact this
            (refine qf_pure tabOk rfl rfl rfl ?_; (iterate 2 refine qf_ext tabOk rfl rfl rfl ?_))
            refine qf_alloc zero78 rfl (fun b19 => ?_)
            (refine qf_setA tabOk rfl rfl rfl rfl rfl (by repeat constructor) rfl ?_; refine qf_pure tabOk rfl rfl rfl ?_; refine qf_nil ?_)
            skip
            exact hK1 _ _ (qt_nil (hK2 b19 _ _ ⟨rfl, rfl, rfl, rfl, rfl, rfl, rfl, rfl, rfl, rfl, trivial⟩ (by repeat (first | exact Sp.nil | exact Sp.refl _ | refine Sp.cons (by repeat constructor) ?_))))
          · skip
            refine qt_seg (by repeat (first | exact PickL.nil | (apply PickL.cons; rfl))) fun K1 hK1 => ?_
            refine qf_alloc zero78 rfl (fun b19 => ?_)
            skip
            refine qf_callv (val := .tuple #[.agg #[.int .i64 (0), .int .i64 (20), .int .i64 (5)], .int .i64 (0)]) tabOk rfl rfl rfl rfl (fun w hs => ?_) ?_
            · have := follow_ca w 0 w.heap.size 0 w.heap.size cs twoR ruA _ _ [1, 1, 1, 1, 1] [0, 0, 0, 0, 1] (ho.at hs (by repeat first | exact .head _ | refine .tail _ ?_)) two_small (Blk.rdI (c := 5) (hs.blk (b := b61) (by repeat first | exact .head _ | refine .tail _ ?_))) (Blk.rdI (c := 5) (hs.blk (b := b62) (by repeat first | exact .head _ | refine .tail _ ?_))) (by decide) (by decide); rw [aw_fol] at this; exact this
            (refine qf_pure tabOk rfl rfl rfl ?_; (iterate 2 refine qf_ext tabOk rfl rfl rfl ?_); refine qf_setA tabOk rfl rfl rfl rfl rfl (by repeat constructor) rfl ?_; refine qf_pure tabOk rfl rfl rfl ?_; refine qf_nil ?_)
            skip
            exact hK1 _ _ (qt_nil (hK2 b19 _ _ ⟨rfl, rfl, rfl, rfl, rfl, rfl, rfl, rfl, rfl, rfl, trivial⟩ (by repeat (first | exact Sp.nil | exact Sp.refl _ | refine Sp.cons (by repeat constructor) ?_))))
        · skip
          refine qt_seg (by repeat (first | exact PickL.nil | (apply PickL.cons; rfl))) fun K1 hK1 => ?_
          refine qf_alloc zero78 rfl (fun b19 => ?_)
          skip
          refine qf_mkS 3 (ints [0, 0, 0, 0, 1]) rfl (by kernel_rfl) rfl (fun b62 => ?_)
          skip
          refine qf_callv (val := .tuple #[.agg #[.int .i64 (0), .int .i64 (20), .int .i64 (5)], .int .i64 (0)]) tabOk rfl rfl rfl rfl (fun w hs => ?_) ?_
          · have := follow_ca w 0 w.heap.size 0 w.heap.size cs twoR ruA _ _ [1, 1, 1, 1, 1] [0, 0, 0, 0, 1] (ho.at hs (by repeat first | exact .head _ | refine .tail _ ?_)) two_small (Blk.rdI (c := 5) (hs.blk (b := b61) (by repeat first | exact .head _ | refine .tail _ ?_))) (Blk.rdI (c := 5) (hs.blk (b := b62) (by repeat first | exact .head _ | refine .tail _ ?_))) (by decide) (by decide); rw [aw_fol] at this; exact this
          (refine qf_pure tabOk rfl rfl rfl ?_; (iterate 2 refine qf_ext tabOk rfl rfl rfl ?_); refine qf_setA tabOk rfl rfl rfl rfl rfl (by repeat constructor) rfl ?_; refine qf_pure tabOk rfl rfl rfl ?_; refine qf_nil ?_)
          skip
          exact hK1 _ _ (qt_nil (hK2 b19 _ _ ⟨rfl, rfl, rfl, rfl, rfl, rfl, rfl, rfl, rfl, rfl, trivial⟩ (by repeat (first | exact Sp.nil | exact Sp.refl _ | refine Sp.cons (by repeat constructor) ?_))))
      · skip
        refine qt_seg (by repeat (first | exact PickL.nil | (apply PickL.cons; rfl))) fun K1 hK1 => ?_
        refine qf_mkS 3 (ints [0, 0, 0, 0, 1]) rfl (by kernel_rfl) rfl (fun b62 => ?_)
        (refine qf_nil ?_)
        refine hK1 _ _ ?_
        refine qt_alt ?_ ?_
        · skip
          refine qt_seg (by repeat (first | exact PickL.nil | (apply PickL.cons; rfl))) fun K1 hK1 => ?_
          refine qf_mkS 3 (ints [1, 1, 1, 1, 1]) rfl (by kernel_rfl) rfl (fun b61 => ?_)
          (refine qf_nil ?_)
          refine hK1 _ _ ?_
          refine qt_alt ?_ ?_
          · skip
            refine qt_seg (by repeat (first | exact PickL.nil | (apply PickL.cons; rfl))) fun K1 hK1 => ?_
            refine qf_callv (val := .tuple #[.agg #[.int .i64 (0), .int .i64 (20), .int .i64 (5)], .int .i64 (0)]) tabOk rfl rfl rfl rfl (fun w hs => ?_) ?_
            · have := follow_ca w 0 w.heap.size 0 w.heap.size cs twoR ruA _ _ [1, 1, 1, 1, 1] [0, 0, 0, 0, 1] (ho.at hs (by repeat first | exact .head _ | refine .tail _ ?_)) two_small (Blk.rdI (c := 5) (hs.blk (b := b61) (by repeat first | exact .head _ | refine .tail _ ?_))) (Blk.rdI (c := 5) (hs.blk (b := b62) (by repeat first | exact .head _ | refine .tail _ ?_))) (by decide) (by decide); rw [aw_fol] at this; exact this
            (refine qf_pure tabOk rfl rfl rfl ?_; (iterate 2 refine qf_ext tabOk rfl rfl rfl ?_))
            refine qf_alloc zero78 rfl (fun b19 => ?_)
            (refine qf_setA tabOk rfl rfl rfl rfl rfl (by repeat constructor) rfl ?_; refine qf_pure tabOk rfl rfl rfl ?_; refine qf_nil ?_)
            skip
            exact hK1 _ _ (qt_nil (hK2 b19 _ _ ⟨rfl, rfl, rfl, rfl, rfl, rfl, rfl, rfl, rfl, rfl, trivial⟩ (by repeat (first | exact Sp.nil | exact Sp.refl _ | refine Sp.cons (by repeat constructor) ?_))))
          · skip
            refine qt_seg (by repeat (first | exact PickL.nil | (apply PickL.cons; rfl))) fun K1 hK1 => ?_
            refine qf_alloc zero78 rfl (fun b19 => ?_)
            skip
            refine qf_callv (val := .tuple #[.agg #[.int .i64 (0), .int .i64 (20), .int .i64 (5)], .int .i64 (0)]) tabOk rfl rfl rfl rfl (fun w hs => ?_) ?_
            · have := follow_ca w 0 w.heap.size 0 w.heap.size cs twoR ruA _ _ [1, 1, 1, 1, 1] [0, 0, 0, 0, 1] (ho.at hs (by repeat first | exact .head _ | refine .tail _ ?_)) two_small (Blk.rdI (c := 5) (hs.blk (b := b61) (by repeat first | exact .head _ | refine .tail _ ?_))) (Blk.rdI (c := 5) (hs.blk (b := b62) (by repeat first | exact .head _ | refine .tail _ ?_))) (by decide) (by decide); rw [aw_fol] at this; exact this
            (refine qf_pure tabOk rfl rfl rfl ?_; (iterate 2 refine qf_ext tabOk rfl rfl rfl ?_); refine qf_setA tabOk rfl rfl rfl rfl rfl (by repeat constructor) rfl ?_; refine qf_pure tabOk rfl rfl rfl ?_; refine qf_nil ?_)
            skip
            exact hK1 _ _ (qt_nil (hK2 b19 _ _ ⟨rfl, rfl, rfl, rfl, rfl, rfl, rfl, rfl, rfl, rfl, trivial⟩ (by repeat (first | exact Sp.nil | exact Sp.refl _ | refine Sp.cons (by repeat constructor) ?_))))
        · skip
          refine qt_seg (by repeat (first | exact PickL.nil | (apply PickL.cons; rfl))) fun K1 hK1 => ?_
          refine qf_alloc zero78 rfl (fun b19 => ?_)
          skip
          refine qf_mkS 3 (ints [1, 1, 1, 1, 1]) rfl (by kernel_rfl) rfl (fun b61 => ?_)
          skip
          refine qf_callv (val := .tuple #[.agg #[.int .i64 (0), .int .i64 (20), .int .i64 (5)], .int .i64 (0)]) tabOk rfl rfl rfl rfl (fun w hs => ?_) ?_
          · have := follow_ca w 0 w.heap.size 0 w.heap.size cs twoR ruA _ _ [1, 1, 1, 1, 1] [0, 0, 0, 0, 1] (ho.at hs (by repeat first | exact .head _ | refine .tail _ ?_)) two_small (Blk.rdI (c := 5) (hs.blk (b := b61) (by repeat first | exact .head _ | refine .tail _ ?_))) (Blk.rdI (c := 5) (hs.blk (b := b62) (by repeat first | exact .head _ | refine .tail _ ?_))) (by decide) (by decide); rw [aw_fol] at this; exact this
          (refine qf_pure tabOk rfl rfl rfl ?_; (iterate 2 refine qf_ext tabOk rfl rfl rfl ?_); refine qf_setA tabOk rfl rfl rfl rfl rfl (by repeat constructor) rfl ?_; refine qf_pure tabOk rfl rfl rfl ?_; refine qf_nil ?_)
          skip
          exact hK1 _ _ (qt_nil (hK2 b19 _ _ ⟨rfl, rfl, rfl, rfl, rfl, rfl, rfl, rfl, rfl, rfl, trivial⟩ (by repeat (first | exact Sp.nil | exact Sp.refl _ | refine Sp.cons (by repeat constructor) ?_))))
      · skip
        refine qt_seg (by repeat (first | exact PickL.nil | (apply PickL.cons; rfl))) fun K1 hK1 => ?_
        refine qf_alloc zero78 rfl (fun b19 => ?_)
        (refine qf_nil ?_)
        refine hK1 _ _ ?_
        refine qt_alt ?_ ?_
        · skip
          refine qt_seg (by repeat (first | exact PickL.nil | (apply PickL.cons; rfl))) fun K1 hK1 => ?_
          refine qf_mkS 3 (ints [1, 1, 1, 1, 1]) rfl (by kernel_rfl) rfl (fun b61 => ?_)
          skip
          refine qf_mkS 3 (ints [0, 0, 0, 0, 1]) rfl (by kernel_rfl) rfl (fun b62 => ?_)
          skip
          refine qf_callv (val := .tuple #[.agg #[.int .i64 (0), .int .i64 (20), .int .i64 (5)], .int .i64 (0)]) tabOk rfl rfl rfl rfl (fun w hs => ?_) ?_
          · have := follow_ca w 0 w.heap.size 0 w.heap.size cs twoR ruA _ _ [1, 1, 1, 1, 1] [0, 0, 0, 0, 1] (ho.at hs (by repeat first | exact .head _ | refine .tail _ ?_)) two_small (Blk.rdI (c := 5) (hs.blk (b := b61) (by repeat first | exact .head _ | refine .tail _ ?_))) (Blk.rdI (c := 5) (hs.blk (b := b62) (by repeat first | exact .head _ | refine .tail _ ?_))) (by decide) (by decide); rw [aw_fol] at this; exact this
          (refine qf_pure tabOk rfl rfl rfl ?_; (iterate 2 refine qf_ext tabOk rfl rfl rfl ?_); refine qf_setA tabOk rfl rfl rfl rfl rfl (by repeat constructor) rfl ?_; refine qf_pure tabOk rfl rfl rfl ?_; refine qf_nil ?_)
          skip
          exact hK1 _ _ (qt_nil (hK2 b19 _ _ ⟨rfl, rfl, rfl, rfl, rfl, rfl, rfl, rfl, rfl, rfl, trivial⟩ (by repeat (first | exact Sp.nil | exact Sp.refl _ | refine Sp.cons (by repeat constructor) ?_))))
        · skip
          refine qt_seg (by repeat (first | exact PickL.nil | (apply PickL.cons; rfl))) fun K1 hK1 => ?_
          refine qf_mkS 3 (ints [0, 0, 0, 0, 1]) rfl (by kernel_rfl) rfl (fun b62 => ?_)
          skip
          refine qf_mkS 3 (ints [1, 1, 1, 1, 1]) rfl (by kernel_rfl) rfl (fun b61 => ?_)
          skip
          refine qf_callv (val := .tuple #[.agg #[.int .i64 (0), .int .i64 (20), .int .i64 (5)], .int .i64 (0)]) tabOk rfl rfl rfl rfl (fun w hs => ?_) ?_
          · have := follow_ca w 0 w.heap.size 0 w.heap.size cs twoR ruA _ _ [1, 1, 1, 1, 1] [0, 0, 0, 0, 1] (ho.at hs (by repeat first | exact .head _ | refine .tail _ ?_)) two_small (Blk.rdI (c := 5) (hs.blk (b := b61) (by repeat first | exact .head _ | refine .tail _ ?_))) (Blk.rdI (c := 5) (hs.blk (b := b62) (by repeat first | exact .head _ | refine .tail _ ?_))) (by decide) (by decide); rw [aw_fol] at this; exact this
          (refine qf_pure tabOk rfl rfl rfl ?_; (iterate 2 refine qf_ext tabOk rfl rfl rfl ?_); refine qf_setA tabOk rfl rfl rfl rfl rfl (by repeat constructor) rfl ?_; refine qf_pure tabOk rfl rfl rfl ?_; refine qf_nil ?_)
          skip
          exact hK1 _ _ (qt_nil (hK2 b19 _ _ ⟨rfl, rfl, rfl, rfl, rfl, rfl, rfl, rfl, rfl, rfl, trivial⟩ (by repeat (first | exact Sp.nil | exact Sp.refl _ | refine Sp.cons (by repeat constructor) ?_))))
    · skip
      refine qt_seg (by repeat (first | exact PickL.nil | (apply PickL.cons; rfl))) fun K1 hK1 => ?_
      refine qf_mkS 3 (ints [1, 1, 1, 1, 1]) rfl (by kernel_rfl) rfl (fun b61 => ?_)
      (refine qf_nil ?_)
      refine hK1 _ _ ?_
      refine qt_alt ?_ (qt_alt ?_ ?_)
      · skip
        refine qt_seg (by repeat (first | exact PickL.nil | (apply PickL.cons; rfl))) fun K1 hK1 => ?_
        refine qf_call (β := List Ck × List Value) tabOk [] _ M0 rfl rfl rfl rfl (Sp.refl _) (fun _ h => h.elim) (fun w' hs => two_ca w') ?_
        rintro ⟨L, cs⟩ _ ⟨rfl, ho⟩
        (refine qf_loadAB tabOk rfl rfl rfl (by repeat first | exact .head _ | refine .tail _ ?_) (by rfl) (by rfl) ?_; refine qf_nil ?_)
        refine hK1 _ _ ?_
        refine qt_alt ?_ ?_
        · skip
          refine qt_seg (by repeat (first | exact PickL.nil | (apply PickL.cons; rfl))) fun K1 hK1 => ?_
          refine qf_mkS 3 (ints [0, 0, 0, 0, 1]) rfl (by kernel_rfl) rfl (fun b62 => ?_)
          (refine qf_nil ?_)
          refine hK1 _ _ ?_
          refine qt_alt ?_ ?_
          · skip
            refine qt_seg (by repeat (first | exact PickL.nil | (apply PickL.cons; rfl))) fun K1 hK1 => ?_
            refine qf_callv (val := .tuple #[.agg #[.int .i64 (0), .int .i64 (20), .int .i64 (5)], .int .i64 (0)]) tabOk rfl rfl rfl rfl (fun w hs => ?_) ?_
            · have := follow_ca w 0 w.heap.size 0 w.heap.size cs twoR ruA _ _ [1, 1, 1, 1, 1] [0, 0, 0, 0, 1] (ho.at hs (by repeat first | exact .head _ | refine .tail _ ?_)) two_small (Blk.rdI (c := 5) (hs.blk (b := b61) (by repeat first | exact .head _ | refine .tail _ ?_))) (Blk.rdI (c := 5) (hs.blk (b := b62) (by repeat first | exact .head _ | refine .tail _ ?_))) (by decide) (by decide); rw [aw_fol] at this; exact this
            (refine qf_pure tabOk rfl rfl rfl ?_; (iterate 2 refine qf_ext tabOk rfl rfl rfl ?_))
            refine qf_alloc zero78 rfl (fun b19 => ?_)
            (refine qf_setA tabOk rfl rfl rfl rfl rfl (by repeat constructor) rfl ?_; refine qf_pure tabOk rfl rfl rfl ?_; refine qf_nil ?_)
            skip
            exact hK1 _ _ (qt_nil (hK2 b19 _ _ ⟨rfl, rfl, rfl, rfl, rfl, rfl, rfl, rfl, rfl, rfl, trivial⟩ (by repeat (first | exact Sp.nil | exact Sp.refl _ | refine Sp.cons (by repeat constructor) ?_))))
          · skip
            refine qt_seg (by repeat (first | exact PickL.nil | (apply PickL.cons; rfl))) fun K1 hK1 => ?_
            refine qf_alloc zero78 rfl (fun b19 => ?_)
            skip
            refine qf_callv (val := .tuple #[.agg #[.int .i64 (0), .int .i64 (20), .int .i64 (5)], .int .i64 (0)]) tabOk rfl rfl rfl rfl (fun w hs => ?_) ?_
            · have := follow_ca w 0 w.heap.size 0 w.heap.size cs twoR ruA _ _ [1, 1, 1, 1, 1] [0, 0, 0, 0, 1] (ho.at hs (by repeat first | exact .head _ | refine .tail _ ?_)) two_small (Blk.rdI (c := 5) (hs.blk (b := b61) (by repeat first | exact .head _ | refine .tail _ ?_))) (Blk.rdI (c := 5) (hs.blk (b := b62) (by repeat first | exact .head _ | refine .tail _ ?_))) (by decide) (by decide); rw [aw_fol] at this; exact this
            (refine qf_pure tabOk rfl rfl rfl ?_; (iterate 2 refine qf_ext tabOk rfl rfl rfl ?_); refine qf_setA tabOk rfl rfl rfl rfl rfl (by repeat constructor) rfl ?_; refine qf_pure tabOk rfl rfl rfl ?_; refine qf_nil ?_)
            skip
            exact hK1 _ _ (qt_nil (hK2 b19 _ _ ⟨rfl, rfl, rfl, rfl, rfl, rfl, rfl, rfl, rfl, rfl, trivial⟩ (by repeat (first | exact Sp.nil | exact Sp.refl _ | refine Sp.cons (by repeat constructor) ?_))))
        · skip
          refine qt_seg (by repeat (first | exact PickL.nil | (apply PickL.cons; rfl))) fun K1 hK1 => ?_
          refine qf_alloc zero78 rfl (fun b19 => ?_)
          skip
          refine qf_mkS 3 (ints [0, 0, 0, 0, 1]) rfl (by kernel_rfl) rfl (fun b62 => ?_)
          skip
          refine qf_callv (val := .tuple #[.agg #[.int .i64 (0), .int .i64 (20), .int .i64 (5)], .int .i64 (0)]) tabOk rfl rfl rfl rfl (fun w hs => ?_) ?_
          · have := follow_ca w 0 w.heap.size 0 w.heap.size cs twoR ruA _ _ [1, 1, 1, 1, 1] [0, 0, 0, 0, 1] (ho.at hs (by repeat first | exact .head _ | refine .tail _ ?_)) two_small (Blk.rdI (c := 5) (hs.blk (b := b61) (by repeat first | exact .head _ | refine .tail _ ?_))) (Blk.rdI (c := 5) (hs.blk (b := b62) (by repeat first | exact .head _ | refine .tail _ ?_))) (by decide) (by decide); rw [aw_fol] at this; exact this
          (refine qf_pure tabOk rfl rfl rfl ?_; (iterate 2 refine qf_ext tabOk rfl rfl rfl ?_); refine qf_setA tabOk rfl rfl rfl rfl rfl (by repeat constructor) rfl ?_; refine qf_pure tabOk rfl rfl rfl ?_; refine qf_nil ?_)
          skip
          exact hK1 _ _ (qt_nil (hK2 b19 _ _ ⟨rfl, rfl, rfl, rfl, rfl, rfl, rfl, rfl, rfl, rfl, trivial⟩ (by repeat (first | exact Sp.nil | exact Sp.refl _ | refine Sp.cons (by repeat constructor) ?_))))
      · skip
        refine qt_seg (by repeat (first | exact PickL.nil | (apply PickL.cons; rfl))) fun K1 hK1 => ?_
        refine qf_mkS 3 (ints [0, 0, 0, 0, 1]) rfl (by kernel_rfl) rfl (fun b62 => ?_)
        (refine qf_nil ?_)
        refine hK1 _ _ ?_
        refine qt_alt ?_ ?_
        · skip
          refine qt_seg (by repeat (first | exact PickL.nil | (apply PickL.cons; rfl))) fun K1 hK1 => ?_
          refine qf_call (β := List Ck × List Value) tabOk [] _ M0 rfl rfl rfl rfl (Sp.refl _) (fun _ h => h.elim) (fun w' hs => two_ca w') ?_
          rintro ⟨L, cs⟩ _ ⟨rfl, ho⟩
          (refine qf_loadAB tabOk rfl rfl rfl (by repeat first | exact .head _ | refine .tail _ ?_) (by rfl) (by rfl) ?_; refine qf_nil ?_)
          refine hK1 _ _ ?_
          refine qt_alt ?_ ?_
          · skip
            refine qt_seg (by repeat (first | exact PickL.nil | (apply PickL.cons; rfl))) fun K1 hK1 => ?_
            refine qf_callv (val := .tuple #[.agg #[.int .i64 (0), .int .i64 (20), .int .i64 (5)], .int .i64 (0)]) tabOk rfl rfl rfl rfl (fun w hs => ?_) ?_
            · have := follow_ca w 0 w.heap.size 0 w.heap.size cs twoR ruA _ _ [1, 1, 1, 1, 1] [0, 0, 0, 0, 1] (ho.at hs (by repeat first | exact .head _ | refine .tail _ ?_)) two_small (Blk.rdI (c := 5) (hs.blk (b := b61) (by repeat first | exact .head _ | refine .tail _ ?_))) (Blk.rdI (c := 5) (hs.blk (b := b62) (by repeat first | exact .head _ | refine .tail _ ?_))) (by decide) (by decide); rw [aw_fol] at this; exact this
            (refine qf_pure tabOk rfl rfl rfl ?_; (iterate 2 refine qf_ext tabOk rfl rfl rfl ?_))
            refine qf_alloc zero78 rfl (fun b19 => ?_)
            (refine qf_setA tabOk rfl rfl rfl rfl rfl (by repeat constructor) rfl ?_; refine qf_pure tabOk rfl rfl rfl ?_; refine qf_nil ?_)
            skip
            exact hK1 _ _ (qt_nil (hK2 b19 _ _ ⟨rfl, rfl, rfl, rfl, rfl, rfl, rfl, rfl, rfl, rfl, trivial⟩ (by repeat (first | exact Sp.nil | exact Sp.refl _ | refine Sp.cons (by repeat constructor) ?_))))
          · skip
            refine qt_seg (by repeat (first | exact PickL.nil | (apply PickL.cons; rfl))) fun K1 hK1 => ?_
            refine qf_alloc zero78 rfl (fun b19 => ?_)
            skip
            refine qf_callv (val := .tuple #[.agg #[.int .i64 (0), .int .i64 (20), .int .i64 (5)], .int .i64 (0)]) tabOk rfl rfl rfl rfl (fun w hs => ?_) ?_
            · have := follow_ca w 0 w.heap.size 0 w.heap.size cs twoR ruA _ _ [1, 1, 1, 1, 1] [0, 0, 0, 0, 1] (ho.at hs (by repeat first | exact .head _ | refine .tail _ ?_)) two_small (Blk.rdI (c := 5) (hs.blk (b := b61) (by repeat first | exact .head _ | refine .tail _ ?_))) (Blk.rdI (c := 5) (hs.blk (b := b62) (by repeat first | exact .head _ | refine .tail _ ?_))) (by decide) (by decide); rw [aw_fol] at this; exact this
            (refine qf_pure tabOk rfl rfl rfl ?_; (iterate 2 refine qf_ext tabOk rfl rfl rfl ?_); refine qf_setA tabOk rfl rfl rfl rfl rfl (by repeat constructor) rfl ?_; refine qf_pure tabOk rfl rfl rfl ?_; refine qf_nil ?_)
            skip
            exact hK1 _ _ (qt_nil (hK2 b19 _ _ ⟨rfl, rfl, rfl, rfl, rfl, rfl, rfl, rfl, rfl, rfl, trivial⟩ (by repeat (first | exact Sp.nil | exact Sp.refl _ | refine Sp.cons (by repeat constructor) ?_))))
        · skip
          refine qt_seg (by repeat (first | exact PickL.nil | (apply PickL.cons; rfl))) fun K1 hK1 => ?_
          refine qf_alloc zero78 rfl (fun b19 => ?_)
          skip
          refine qf_call (β := List Ck × List Value) tabOk [] _ M0 rfl rfl rfl rfl (Sp.refl _) (fun _ h => h.elim) (fun w' hs => two_ca w') ?_
          rintro ⟨L, cs⟩ _ ⟨rfl, ho⟩
          (refine qf_loadAB tabOk rfl rfl rfl (by repeat first | exact .head _ | refine .tail _ ?_) (by rfl) (by rfl) ?_)
          refine qf_callv (val := .tuple #[.agg #[.int .i64 (0), .int .i64 (20), .int .i64 (5)], .int .i64 (0)]) tabOk rfl rfl rfl rfl (fun w hs => ?_) ?_
          · have := follow_ca w 0 w.heap.size 0 w.heap.size cs twoR ruA _ _ [1, 1, 1, 1, 1] [0, 0, 0, 0, 1] (ho.at hs (by repeat first | exact .head _ | refine .tail _ ?_)) two_small (Blk.rdI (c := 5) (hs.blk (b := b61) (by repeat first | exact .head _ | refine .tail _ ?_))) (Blk.rdI (c := 5) (hs.blk (b := b62) (by repeat first | exact .head _ | refine .tail _ ?_))) (by decide) (by decide); rw [aw_fol] at this; exact this
          (refine qf_pure tabOk rfl rfl rfl ?_; (iterate 2 refine qf_ext tabOk rfl rfl rfl ?_); refine qf_setA tabOk rfl rfl rfl rfl rfl (by repeat constructor) rfl ?_; refine qf_pure tabOk rfl rfl rfl ?_; refine qf_nil ?_)
          skip
          exact hK1 _ _ (qt_nil (hK2 b19 _ _ ⟨rfl, rfl, rfl, rfl, rfl, rfl, rfl, rfl, rfl, rfl, trivial⟩ (by repeat (first | exact Sp.nil | exact Sp.refl _ | refine Sp.cons (by repeat constructor) ?_))))
      · skip
        refine qt_seg (by repeat (first | exact PickL.nil | (apply PickL.cons; rfl))) fun K1 hK1 => ?_
        refine qf_alloc zero78 rfl (fun b19 => ?_)
        (refine qf_nil ?_)
        refine hK1 _ _ ?_
        refine qt_alt ?_ ?_
        · skip
          refine qt_seg (by repeat (first | exact PickL.nil | (apply PickL.cons; rfl))) fun K1 hK1 => ?_
          refine qf_call (β := List Ck × List Value) tabOk [] _ M0 rfl rfl rfl rfl (Sp.refl _) (fun _ h => h.elim) (fun w' hs => two_ca w') ?_
          rintro ⟨L, cs⟩ _ ⟨rfl, ho⟩
          (refine qf_loadAB tabOk rfl rfl rfl (by repeat first | exact .head _ | refine .tail _ ?_) (by rfl) (by rfl) ?_)
          refine qf_mkS 3 (ints [0, 0, 0, 0, 1]) rfl (by kernel_rfl) rfl (fun b62 => ?_)
          skip
          refine qf_callv (val := .tuple #[.agg #[.int .i64 (0), .int .i64 (20), .int .i64 (5)], .int .i64 (0)]) tabOk rfl rfl rfl rfl (fun w hs => ?_) ?_
          · have := follow_ca w 0 w.heap.size 0 w.heap.size cs twoR ruA _ _ [1, 1, 1, 1, 1] [0, 0, 0, 0, 1] (ho.at hs (by repeat first | exact .head _ | refine .tail _ ?_)) two_small (Blk.rdI (c := 5) (hs.blk (b := b61) (by repeat first | exact .head _ | refine .tail _ ?_))) (Blk.rdI (c := 5) (hs.blk (b := b62) (by repeat first | exact .head _ | refine .tail _ ?_))) (by decide) (by decide); rw [aw_fol] at this; exact this
          (refine qf_pure tabOk rfl rfl rfl ?_; (iterate 2 refine qf_ext tabOk rfl rfl rfl ?_); refine qf_setA tabOk rfl rfl rfl rfl rfl (by repeat constructor) rfl ?_; refine qf_pure tabOk rfl rfl rfl ?_; refine qf_nil ?_)
          skip
          exact hK1 _ _ (qt_nil (hK2 b19 _ _ ⟨rfl, rfl, rfl, rfl, rfl, rfl, rfl, rfl, rfl, rfl, trivial⟩ (by repeat (first | exact Sp.nil | exact Sp.refl _ | refine Sp.cons (by repeat constructor) ?_))))
        · skip
          refine qt_seg (by repeat (first | exact PickL.nil | (apply PickL.cons; rfl))) fun K1 hK1 => ?_
          refine qf_mkS 3 (ints [0, 0, 0, 0, 1]) rfl (by kernel_rfl) rfl (fun b62 => ?_)
          skip
          refine qf_call (β := List Ck × List Value) tabOk [] _ M0 rfl rfl rfl rfl (Sp.refl _) (fun _ h => h.elim) (fun w' hs => two_ca w') ?_
          rintro ⟨L, cs⟩ _ ⟨rfl, ho⟩
          (refine qf_loadAB tabOk rfl rfl rfl (by repeat first | exact .head _ | refine .tail _ ?_) (by rfl) (by rfl) ?_)
          refine qf_callv (val := .tuple #[.agg #[.int .i64 (0), .int .i64 (20), .int .i64 (5)], .int .i64 (0)]) tabOk rfl rfl rfl rfl (fun w hs => ?_) ?_
          · have := follow_ca w 0 w.heap.size 0 w.heap.size cs twoR ruA _ _ [1, 1, 1, 1, 1] [0, 0, 0, 0, 1] (ho.at hs (by repeat first | exact .head _ | refine .tail _ ?_)) two_small (Blk.rdI (c := 5) (hs.blk (b := b61) (by repeat first | exact .head _ | refine .tail _ ?_))) (Blk.rdI (c := 5) (hs.blk (b := b62) (by repeat first | exact .head _ | refine .tail _ ?_))) (by decide) (by decide); rw [aw_fol] at this; exact this
          (refine qf_pure tabOk rfl rfl rfl ?_; (iterate 2 refine qf_ext tabOk rfl rfl rfl ?_); refine qf_setA tabOk rfl rfl rfl rfl rfl (by repeat constructor) rfl ?_; refine qf_pure tabOk rfl rfl rfl ?_; refine qf_nil ?_)
          skip
          exact hK1 _ _ (qt_nil (hK2 b19 _ _ ⟨rfl, rfl, rfl, rfl, rfl, rfl, rfl, rfl, rfl, rfl, trivial⟩ (by repeat (first | exact Sp.nil | exact Sp.refl _ | refine Sp.cons (by repeat constructor) ?_))))
    · skip
      refine qt_seg (by repeat (first | exact PickL.nil | (apply PickL.cons; rfl))) fun K1 hK1 => ?_
      refine qf_mkS 3 (ints [0, 0, 0, 0, 1]) rfl (by kernel_rfl) rfl (fun b62 => ?_)
      (refine qf_nil ?_)
      refine hK1 _ _ ?_
      refine qt_alt ?_ (qt_alt ?_ ?_)
      · skip
        refine qt_seg (by repeat (first | exact PickL.nil | (apply PickL.cons; rfl))) fun K1 hK1 => ?_
        refine qf_call (β := List Ck × List Value) tabOk [] _ M0 rfl rfl rfl rfl (Sp.refl _) (fun _ h => h.elim) (fun w' hs => two_ca w') ?_
        rintro ⟨L, cs⟩ _ ⟨rfl, ho⟩
        (refine qf_loadAB tabOk rfl rfl rfl (by repeat first | exact .head _ | refine .tail _ ?_) (by rfl) (by rfl) ?_; refine qf_nil ?_)
        refine hK1 _ _ ?_
        refine qt_alt ?_ ?_
        · skip
          refine qt_seg (by repeat (first | exact PickL.nil | (apply PickL.cons; rfl))) fun K1 hK1 => ?_
          refine qf_mkS 3 (ints [1, 1, 1, 1, 1]) rfl (by kernel_rfl) rfl (fun b61 => ?_)
          (refine qf_nil ?_)
          refine hK1 _ _ ?_
          refine qt_alt ?_ ?_
          · skip
            refine qt_seg (by repeat (first | exact PickL.nil | (apply PickL.cons; rfl))) fun K1 hK1 => ?_
            refine qf_callv (val := .tuple #[.agg #[.int .i64 (0), .int .i64 (20), .int .i64 (5)], .int .i64 (0)]) tabOk rfl rfl rfl rfl (fun w hs => ?_) ?_
            · have := follow_ca w 0 w.heap.size 0 w.heap.size cs twoR ruA _ _ [1, 1, 1, 1, 1] [0, 0, 0, 0, 1] (ho.at hs (by repeat first | exact .head _ | refine .tail _ ?_)) two_small (Blk.rdI (c := 5) (hs.blk (b := b61) (by repeat first | exact .head _ | refine .tail _ ?_))) (Blk.rdI (c := 5) (hs.blk (b := b62) (by repeat first | exact .head _ | refine .tail _ ?_))) (by decide) (by decide); rw [aw_fol] at this; exact this
            (refine qf_pure tabOk rfl rfl rfl ?_; (iterate 2 refine qf_ext tabOk rfl rfl rfl ?_))
            refine qf_alloc zero78 rfl (fun b19 => ?_)
            (refine qf_setA tabOk rfl rfl rfl rfl rfl (by repeat constructor) rfl ?_; refine qf_pure tabOk rfl rfl rfl ?_; refine qf_nil ?_)
            skip
            exact hK1 _ _ (qt_nil (hK2 b19 _ _ ⟨rfl, rfl, rfl, rfl, rfl, rfl, rfl, rfl, rfl, rfl, trivial⟩ (by repeat (first | exact Sp.nil | exact Sp.refl _ | refine Sp.cons (by repeat constructor) ?_))))
          · skip
            refine qt_seg (by repeat (first | exact PickL.nil | (apply PickL.cons; rfl))) fun K1 hK1 => ?_
            refine qf_alloc zero78 rfl (fun b19 => ?_)
            skip
            refine qf_callv (val := .tuple #[.agg #[.int .i64 (0), .int .i64 (20), .int .i64 (5)], .int .i64 (0)]) tabOk rfl rfl rfl rfl (fun w hs => ?_) ?_
            · have := follow_ca w 0 w.heap.size 0 w.heap.size cs twoR ruA _ _ [1, 1, 1, 1, 1] [0, 0, 0, 0, 1] (ho.at hs (by repeat first | exact .head _ | refine .tail _ ?_)) two_small (Blk.rdI (c := 5) (hs.blk (b := b61) (by repeat first | exact .head _ | refine .tail _ ?_))) (Blk.rdI (c := 5) (hs.blk (b := b62) (by repeat first | exact .head _ | refine .tail _ ?_))) (by decide) (by decide); rw [aw_fol] at this; exact this
            (refine qf_pure tabOk rfl rfl rfl ?_; (iterate 2 refine qf_ext tabOk rfl rfl rfl ?_); refine qf_setA tabOk rfl rfl rfl rfl rfl (by repeat constructor) rfl ?_; refine qf_pure tabOk rfl rfl rfl ?_; refine qf_nil ?_)
            skip
            exact hK1 _ _ (qt_nil (hK2 b19 _ _ ⟨rfl, rfl, rfl, rfl, rfl, rfl, rfl, rfl, rfl, rfl, trivial⟩ (by repeat (first | exact Sp.nil | exact Sp.refl _ | refine Sp.cons (by repeat constructor) ?_))))
        · skip
          refine qt_seg (by repeat (first | exact PickL.nil | (apply PickL.cons; rfl))) fun K1 hK1 => ?_
          refine qf_alloc zero78 rfl (fun b19 => ?_)
          skip
          refine qf_mkS 3 (ints [1, 1, 1, 1, 1]) rfl (by kernel_rfl) rfl (fun b61 => ?_)
          skip
          refine qf_callv (val := .tuple #[.agg #[.int .i64 (0), .int .i64 (20), .int .i64 (5)], .int .i64 (0)]) tabOk rfl rfl rfl rfl (fun w hs => ?_) ?_
          · have := follow_ca w 0 w.heap.size 0 w.heap.size cs twoR ruA _ _ [1, 1, 1, 1, 1] [0, 0, 0, 0, 1] (ho.at hs (by repeat first | exact .head _ | refine .tail _ ?_)) two_small (Blk.rdI (c := 5) (hs.blk (b := b61) (by repeat first | exact .head _ | refine .tail _ ?_))) (Blk.rdI (c := 5) (hs.blk (b := b62) (by repeat first | exact .head _ | refine .tail _ ?_))) (by decide) (by decide); rw [aw_fol] at this; exact this
          (refine qf_pure tabOk rfl rfl rfl ?_; (iterate 2 refine qf_ext tabOk rfl rfl rfl ?_); refine qf_setA tabOk rfl rfl rfl rfl rfl (by repeat constructor) rfl ?_; refine qf_pure tabOk rfl rfl rfl ?_; refine qf_nil ?_)
          skip
          exact hK1 _ _ (qt_nil (hK2 b19 _ _ ⟨rfl, rfl, rfl, rfl, rfl, rfl, rfl, rfl, rfl, rfl, trivial⟩ (by repeat (first | exact Sp.nil | exact Sp.refl _ | refine Sp.cons (by repeat constructor) ?_))))
      · skip
        refine qt_seg (by repeat (first | exact PickL.nil | (apply PickL.cons; rfl))) fun K1 hK1 => ?_
        refine qf_mkS 3 (ints [1, 1, 1, 1, 1]) rfl (by kernel_rfl) rfl (fun b61 => ?_)
        (refine qf_nil ?_)
        refine hK1 _ _ ?_
        refine qt_alt ?_ ?_
        · skip
          refine qt_seg (by repeat (first | exact PickL.nil | (apply PickL.cons; rfl))) fun K1 hK1 => ?_
          refine qf_call (β := List Ck × List Value) tabOk [] _ M0 rfl rfl rfl rfl (Sp.refl _) (fun _ h => h.elim) (fun w' hs => two_ca w') ?_
          rintro ⟨L, cs⟩ _ ⟨rfl, ho⟩
          (refine qf_loadAB tabOk rfl rfl rfl (by repeat first | exact .head _ | refine .tail _ ?_) (by rfl) (by rfl) ?_; refine qf_nil ?_)
          refine hK1 _ _ ?_
          refine qt_alt ?_ ?_
          · skip
            refine qt_seg (by repeat (first | exact PickL.nil | (apply PickL.cons; rfl))) fun K1 hK1 => ?_
            refine qf_callv (val := .tuple #[.agg #[.int .i64 (0), .int .i64 (20), .int .i64 (5)], .int .i64 (0)]) tabOk rfl rfl rfl rfl (fun w hs => ?_) ?_
            · have := follow_ca w 0 w.heap.size 0 w.heap.size cs twoR ruA _ _ [1, 1, 1, 1, 1] [0, 0, 0, 0, 1] (ho.at hs (by repeat first | exact .head _ | refine .tail _ ?_)) two_small (Blk.rdI (c := 5) (hs.blk (b := b61) (by repeat first | exact .head _ | refine .tail _ ?_))) (Blk.rdI (c := 5) (hs.blk (b := b62) (by repeat first | exact .head _ | refine .tail _ ?_))) (by decide) (by decide); rw [aw_fol] at this; exact this
            (refine qf_pure tabOk rfl rfl rfl ?_; (iterate 2 refine qf_ext tabOk rfl rfl rfl ?_))
            refine qf_alloc zero78 rfl (fun b19 => ?_)
            (refine qf_setA tabOk rfl rfl rfl rfl rfl (by repeat constructor) rfl ?_; refine qf_pure tabOk rfl rfl rfl ?_; refine qf_nil ?_)
            skip
            exact hK1 _ _ (qt_nil (hK2 b19 _ _ ⟨rfl, rfl, rfl, rfl, rfl, rfl, rfl, rfl, rfl, rfl, trivial⟩ (by repeat (first | exact Sp.nil | exact Sp.refl _ | refine Sp.cons (by repeat constructor) ?_))))
          · skip
            refine qt_seg (by repeat (first | exact PickL.nil | (apply PickL.cons; rfl))) fun K1 hK1 => ?_
            refine qf_alloc zero78 rfl (fun b19 => ?_)
            skip
            refine qf_callv (val := .tuple #[.agg #[.int .i64 (0), .int .i64 (20), .int .i64 (5)], .int .i64 (0)]) tabOk rfl rfl rfl rfl (fun w hs => ?_) ?_
            · have := follow_ca w 0 w.heap.size 0 w.heap.size cs twoR ruA _ _ [1, 1, 1, 1, 1] [0, 0, 0, 0, 1] (ho.at hs (by repeat first | exact .head _ | refine .tail _ ?_)) two_small (Blk.rdI (c := 5) (hs.blk (b := b61) (by repeat first | exact .head _ | refine .tail _ ?_))) (Blk.rdI (c := 5) (hs.blk (b := b62) (by repeat first | exact .head _ | refine .tail _ ?_))) (by decide) (by decide); rw [aw_fol] at this; exact this
            (refine qf_pure tabOk rfl rfl rfl ?_; (iterate 2 refine qf_ext tabOk rfl rfl rfl ?_); refine qf_setA tabOk rfl rfl rfl rfl rfl (by repeat constructor) rfl ?_; refine qf_pure tabOk rfl rfl rfl ?_; refine qf_nil ?_)
            skip
            exact hK1 _ _ (qt_nil (hK2 b19 _ _ ⟨rfl, rfl, rfl, rfl, rfl, rfl, rfl, rfl, rfl, rfl, trivial⟩ (by repeat (first | exact Sp.nil | exact Sp.refl _ | refine Sp.cons (by repeat constructor) ?_))))
        · skip
          refine qt_seg (by repeat (first | exact PickL.nil | (apply PickL.cons; rfl))) fun K1 hK1 => ?_
          refine qf_alloc zero78 rfl (fun b19 => ?_)
          skip
          refine qf_call (β := List Ck × List Value) tabOk [] _ M0 rfl rfl rfl rfl (Sp.refl _) (fun _ h => h.elim) (fun w' hs => two_ca w') ?_
          rintro ⟨L, cs⟩ _ ⟨rfl, ho⟩
          (refine qf_loadAB tabOk rfl rfl rfl (by repeat first | exact .head _ | refine .tail _ ?_) (by rfl) (by rfl) ?_)
          refine qf_callv (val := .tuple #[.agg #[.int .i64 (0), .int .i64 (20), .int .i64 (5)], .int .i64 (0)]) tabOk rfl rfl rfl rfl (fun w hs => ?_) ?_
          · have := follow_ca w 0 w.heap.size 0 w.heap.size cs twoR ruA _ _ [1, 1, 1, 1, 1] [0, 0, 0, 0, 1] (ho.at hs (by repeat first | exact .head _ | refine .tail _ ?_)) two_small (Blk.rdI (c := 5) (hs.blk (b := b61) (by repeat first | exact .head _ | refine .tail _ ?_))) (Blk.rdI (c := 5) (hs.blk (b := b62) (by repeat first | exact .head _ | refine .tail _ ?_))) (by decide) (by decide); rw [aw_fol] at this; exact this
          (refine qf_pure tabOk rfl rfl rfl ?_; (iterate 2 refine qf_ext tabOk rfl rfl rfl ?_); refine qf_setA tabOk rfl rfl rfl rfl rfl (by repeat constructor) rfl ?_; refine qf_pure tabOk rfl rfl rfl ?_; refine qf_nil ?_)
          skip
          exact hK1 _ _ (qt_nil (hK2 b19 _ _ ⟨rfl, rfl, rfl, rfl, rfl, rfl, rfl, rfl, rfl, rfl, trivial⟩ (by repeat (first | exact Sp.nil | exact Sp.refl _ | refine Sp.cons (by repeat constructor) ?_))))
      · skip
        refine qt_seg (by repeat (first | exact PickL.nil | (apply PickL.cons; rfl))) fun K1 hK1 => ?_
        refine qf_alloc zero78 rfl (fun b19 => ?_)
        (refine qf_nil ?_)
        refine hK1 _ _ ?_
        refine qt_alt ?_ ?_
        · skip
          refine qt_seg (by repeat (first | exact PickL.nil | (apply PickL.cons; rfl))) fun K1 hK1 => ?_
          refine qf_call (β := List Ck × List Value) tabOk [] _ M0 rfl rfl rfl rfl (Sp.refl _) (fun _ h => h.elim) (fun w' hs => two_ca w') ?_
          rintro ⟨L, cs⟩ _ ⟨rfl, ho⟩
          (refine qf_loadAB tabOk rfl rfl rfl (by repeat first | exact .head _ | refine .tail _ ?_) (by rfl) (by rfl) ?_)
          refine qf_mkS 3 (ints [1, 1, 1, 1, 1]) rfl (by kernel_rfl) rfl (fun b61 => ?_)
          skip
          refine qf_callv (val := .tuple #[.agg #[.int .i64 (0), .int .i64 (20), .int .i64 (5)], .int .i64 (0)]) tabOk rfl rfl rfl rfl (fun w hs => ?_) ?_
          · have := follow_ca w 0 w.heap.size 0 w.heap.size cs twoR ruA _ _ [1, 1, 1, 1, 1] [0, 0, 0, 0, 1] (ho.at hs (by repeat first | exact .head _ | refine .tail _ ?_)) two_small (Blk.rdI (c := 5) (hs.blk (b := b61) (by repeat first | exact .head _ | refine .tail _ ?_))) (Blk.rdI (c := 5) (hs.blk (b := b62) (by repeat first | exact .head _ | refine .tail _ ?_))) (by decide) (by decide); rw [aw_fol] at this; exact this
          (refine qf_pure tabOk rfl rfl rfl ?_; (iterate 2 refine qf_ext tabOk rfl rfl rfl ?_); refine qf_setA tabOk rfl rfl rfl rfl rfl (by repeat constructor) rfl ?_; refine qf_pure tabOk rfl rfl rfl ?_; refine qf_nil ?_)
          skip
          exact hK1 _ _ (qt_nil (hK2 b19 _ _ ⟨rfl, rfl, rfl, rfl, rfl, rfl, rfl, rfl, rfl, rfl, trivial⟩ (by repeat (first | exact Sp.nil | exact Sp.refl _ | refine Sp.cons (by repeat constructor) ?_))))
        · skip
          refine qt_seg (by repeat (first | exact PickL.nil | (apply PickL.cons; rfl))) fun K1 hK1 => ?_
          refine qf_mkS 3 (ints [1, 1, 1, 1, 1]) rfl (by kernel_rfl) rfl (fun b61 => ?_)
          skip
          refine qf_call (β := List Ck × List Value) tabOk [] _ M0 rfl rfl rfl rfl (Sp.refl _) (fun _ h => h.elim) (fun w' hs => two_ca w') ?_
          rintro ⟨L, cs⟩ _ ⟨rfl, ho⟩
          (refine qf_loadAB tabOk rfl rfl rfl (by repeat first | exact .head _ | refine .tail _ ?_) (by rfl) (by rfl) ?_)
          refine qf_callv (val := .tuple #[.agg #[.int .i64 (0), .int .i64 (20), .int .i64 (5)], .int .i64 (0)]) tabOk rfl rfl rfl rfl (fun w hs => ?_) ?_
          · have := follow_ca w 0 w.heap.size 0 w.heap.size cs twoR ruA _ _ [1, 1, 1, 1, 1] [0, 0, 0, 0, 1] (ho.at hs (by repeat first | exact .head _ | refine .tail _ ?_)) two_small (Blk.rdI (c := 5) (hs.blk (b := b61) (by repeat first | exact .head _ | refine .tail _ ?_))) (Blk.rdI (c := 5) (hs.blk (b := b62) (by repeat first | exact .head _ | refine .tail _ ?_))) (by decide) (by decide); rw [aw_fol] at this; exact this
          (refine qf_pure tabOk rfl rfl rfl ?_; (iterate 2 refine qf_ext tabOk rfl rfl rfl ?_); refine qf_setA tabOk rfl rfl rfl rfl rfl (by repeat constructor) rfl ?_; refine qf_pure tabOk rfl rfl rfl ?_; refine qf_nil ?_)
          skip
          exact hK1 _ _ (qt_nil (hK2 b19 _ _ ⟨rfl, rfl, rfl, rfl, rfl, rfl, rfl, rfl, rfl, rfl, trivial⟩ (by repeat (first | exact Sp.nil | exact Sp.refl _ | refine Sp.cons (by repeat constructor) ?_))))
    · skip
      refine qt_seg (by repeat (first | exact PickL.nil | (apply PickL.cons; rfl))) fun K1 hK1 => ?_
      refine qf_alloc zero78 rfl (fun b19 => ?_)
      (refine qf_nil ?_)
      refine hK1 _ _ ?_
      refine qt_alt ?_ (qt_alt ?_ ?_)
      · skip
        refine qt_seg (by repeat (first | exact PickL.nil | (apply PickL.cons; rfl))) fun K1 hK1 => ?_
        refine qf_call (β := List Ck × List Value) tabOk [] _ M0 rfl rfl rfl rfl (Sp.refl _) (fun _ h => h.elim) (fun w' hs => two_ca w') ?_
        rintro ⟨L, cs⟩ _ ⟨rfl, ho⟩
        (refine qf_loadAB tabOk rfl rfl rfl (by repeat first | exact .head _ | refine .tail _ ?_) (by rfl) (by rfl) ?_; refine qf_nil ?_)
        refine hK1 _ _ ?_
        refine qt_alt ?_ ?_
        · skip
          refine qt_seg (by repeat (first | exact PickL.nil | (apply PickL.cons; rfl))) fun K1 hK1 => ?_
          refine qf_mkS 3 (ints [1, 1, 1, 1, 1]) rfl (by kernel_rfl) rfl (fun b61 => ?_)
          skip
          refine qf_mkS 3 (ints [0, 0, 0, 0, 1]) rfl (by kernel_rfl) rfl (fun b62 => ?_)
          skip
          refine qf_callv (val := .tuple #[.agg #[.int .i64 (0), .int .i64 (20), .int .i64 (5)], .int .i64 (0)]) tabOk rfl rfl rfl rfl (fun w hs => ?_) ?_
          · have := follow_ca w 0 w.heap.size 0 w.heap.size cs twoR ruA _ _ [1, 1, 1, 1, 1] [0, 0, 0, 0, 1] (ho.at hs (by repeat first | exact .head _ | refine .tail _ ?_)) two_small (Blk.rdI (c := 5) (hs.blk (b := b61) (by repeat first | exact .head _ | refine .tail _ ?_))) (Blk.rdI (c := 5) (hs.blk (b := b62) (by repeat first | exact .head _ | refine .tail _ ?_))) (by decide) (by decide); rw [aw_fol] at this; exact this
          (refine qf_pure tabOk rfl rfl rfl ?_; (iterate 2 refine qf_ext tabOk rfl rfl rfl ?_); refine qf_setA tabOk rfl rfl rfl rfl rfl (by repeat constructor) rfl ?_; refine qf_pure tabOk rfl rfl rfl ?_; refine qf_nil ?_)
          skip
          exact hK1 _ _ (qt_nil (hK2 b19 _ _ ⟨rfl, rfl, rfl, rfl, rfl, rfl, rfl, rfl, rfl, rfl, trivial⟩ (by repeat (first | exact Sp.nil | exact Sp.refl _ | refine Sp.cons (by repeat constructor) ?_))))
        · skip
          refine qt_seg (by repeat (first | exact PickL.nil | (apply PickL.cons; rfl))) fun K1 hK1 => ?_
          refine qf_mkS 3 (ints [0, 0, 0, 0, 1]) rfl (by kernel_rfl) rfl (fun b62 => ?_)
          skip
          refine qf_mkS 3 (ints [1, 1, 1, 1, 1]) rfl (by kernel_rfl) rfl (fun b61 => ?_)
          skip
          refine qf_callv (val := .tuple #[.agg #[.int .i64 (0), .int .i64 (20), .int .i64 (5)], .int .i64 (0)]) tabOk rfl rfl rfl rfl (fun w hs => ?_) ?_
          · have := follow_ca w 0 w.heap.size 0 w.heap.size cs twoR ruA _ _ [1, 1, 1, 1, 1] [0, 0, 0, 0, 1] (ho.at hs (by repeat first | exact .head _ | refine .tail _ ?_)) two_small (Blk.rdI (c := 5) (hs.blk (b := b61) (by repeat first | exact .head _ | refine .tail _ ?_))) (Blk.rdI (c := 5) (hs.blk (b := b62) (by repeat first | exact .head _ | refine .tail _ ?_))) (by decide) (by decide); rw [aw_fol] at this; exact this
          (refine qf_pure tabOk rfl rfl rfl ?_; (iterate 2 refine qf_ext tabOk rfl rfl rfl ?_); refine qf_setA tabOk rfl rfl rfl rfl rfl (by repeat constructor) rfl ?_; refine qf_pure tabOk rfl rfl rfl ?_; refine qf_nil ?_)
          skip
          exact hK1 _ _ (qt_nil (hK2 b19 _ _ ⟨rfl, rfl, rfl, rfl, rfl, rfl, rfl, rfl, rfl, rfl, trivial⟩ (by repeat (first | exact Sp.nil | exact Sp.refl _ | refine Sp.cons (by repeat constructor) ?_))))
      · skip
        refine qt_seg (by repeat (first | exact PickL.nil | (apply PickL.cons; rfl))) fun K1 hK1 => ?_
        refine qf_mkS 3 (ints [1, 1, 1, 1, 1]) rfl (by kernel_rfl) rfl (fun b61 => ?_)
        (refine qf_nil ?_)
        refine hK1 _ _ ?_
        refine qt_alt ?_ ?_
        · skip
          refine qt_seg (by repeat (first | exact PickL.nil | (apply PickL.cons; rfl))) fun K1 hK1 => ?_
          refine qf_call (β := List Ck × List Value) tabOk [] _ M0 rfl rfl rfl rfl (Sp.refl _) (fun _ h => h.elim) (fun w' hs => two_ca w') ?_
          rintro ⟨L, cs⟩ _ ⟨rfl, ho⟩
          (refine qf_loadAB tabOk rfl rfl rfl (by repeat first | exact .head _ | refine .tail _ ?_) (by rfl) (by rfl) ?_)
          refine qf_mkS 3 (ints [0, 0, 0, 0, 1]) rfl (by kernel_rfl) rfl (fun b62 => ?_)
          skip
          refine qf_callv (val := .tuple #[.agg #[.int .i64 (0), .int .i64 (20), .int .i64 (5)], .int .i64 (0)]) tabOk rfl rfl rfl rfl (fun w hs => ?_) ?_
          · have := follow_ca w 0 w.heap.size 0 w.heap.size cs twoR ruA _ _ [1, 1, 1, 1, 1] [0, 0, 0, 0, 1] (ho.at hs (by repeat first | exact .head _ | refine .tail _ ?_)) two_small (Blk.rdI (c := 5) (hs.blk (b := b61) (by repeat first | exact .head _ | refine .tail _ ?_))) (Blk.rdI (c := 5) (hs.blk (b := b62) (by repeat first | exact .head _ | refine .tail _ ?_))) (by decide) (by decide); rw [aw_fol] at this; exact this
          (refine qf_pure tabOk rfl rfl rfl ?_; (iterate 2 refine qf_ext tabOk rfl rfl rfl ?_); refine qf_setA tabOk rfl rfl rfl rfl rfl (by repeat constructor) rfl ?_; refine qf_pure tabOk rfl rfl rfl ?_; refine qf_nil ?_)
          skip
          exact hK1 _ _ (qt_nil (hK2 b19 _ _ ⟨rfl, rfl, rfl, rfl, rfl, rfl, rfl, rfl, rfl, rfl, trivial⟩ (by repeat (first | exact Sp.nil | exact Sp.refl _ | refine Sp.cons (by repeat constructor) ?_))))
        · skip
          refine qt_seg (by repeat (first | exact PickL.nil | (apply PickL.cons; rfl))) fun K1 hK1 => ?_
          refine qf_mkS 3 (ints [0, 0, 0, 0, 1]) rfl (by kernel_rfl) rfl (fun b62 => ?_)
          skip
          refine qf_call (β := List Ck × List Value) tabOk [] _ M0 rfl rfl rfl rfl (Sp.refl _) (fun _ h => h.elim) (fun w' hs => two_ca w') ?_
          rintro ⟨L, cs⟩ _ ⟨rfl, ho⟩
          (refine qf_loadAB tabOk rfl rfl rfl (by repeat first | exact .head _ | refine .tail _ ?_) (by rfl) (by rfl) ?_)
          refine qf_callv (val := .tuple #[.agg #[.int .i64 (0), .int .i64 (20), .int .i64 (5)], .int .i64 (0)]) tabOk rfl rfl rfl rfl (fun w hs => ?_) ?_
          · have := follow_ca w 0 w.heap.size 0 w.heap.size cs twoR ruA _ _ [1, 1, 1, 1, 1] [0, 0, 0, 0, 1] (ho.at hs (by repeat first | exact .head _ | refine .tail _ ?_)) two_small (Blk.rdI (c := 5) (hs.blk (b := b61) (by repeat first | exact .head _ | refine .tail _ ?_))) (Blk.rdI (c := 5) (hs.blk (b := b62) (by repeat first | exact .head _ | refine .tail _ ?_))) (by decide) (by decide); rw [aw_fol] at this; exact this
          (refine qf_pure tabOk rfl rfl rfl ?_; (iterate 2 refine qf_ext tabOk rfl rfl rfl ?_); refine qf_setA tabOk rfl rfl rfl rfl rfl (by repeat constructor) rfl ?_; refine qf_pure tabOk rfl rfl rfl ?_; refine qf_nil ?_)
          skip
          exact hK1 _ _ (qt_nil (hK2 b19 _ _ ⟨rfl, rfl, rfl, rfl, rfl, rfl, rfl, rfl, rfl, rfl, trivial⟩ (by repeat (first | exact Sp.nil | exact Sp.refl _ | refine Sp.cons (by repeat constructor) ?_))))
      · skip
        refine qt_seg (by repeat (first | exact PickL.nil | (apply PickL.cons; rfl))) fun K1 hK1 => ?_
        refine qf_mkS 3 (ints [0, 0, 0, 0, 1]) rfl (by kernel_rfl) rfl (fun b62 => ?_)
        (refine qf_nil ?_)
        refine hK1 _ _ ?_
        refine qt_alt ?_ ?_
        · skip
          refine qt_seg (by repeat (first | exact PickL.nil | (apply PickL.cons; rfl))) fun K1 hK1 => ?_
          refine qf_call (β := List Ck × List Value) tabOk [] _ M0 rfl rfl rfl rfl (Sp.refl _) (fun _ h => h.elim) (fun w' hs => two_ca w') ?_
          rintro ⟨L, cs⟩ _ ⟨rfl, ho⟩
          (refine qf_loadAB tabOk rfl rfl rfl (by repeat first | exact .head _ | refine .tail _ ?_) (by rfl) (by rfl) ?_)
          refine qf_mkS 3 (ints [1, 1, 1, 1, 1]) rfl (by kernel_rfl) rfl (fun b61 => ?_)
          skip
          refine qf_callv (val := .tuple #[.agg #[.int .i64 (0), .int .i64 (20), .int .i64 (5)], .int .i64 (0)]) tabOk rfl rfl rfl rfl (fun w hs => ?_) ?_
          · have := follow_ca w 0 w.heap.size 0 w.heap.size cs twoR ruA _ _ [1, 1, 1, 1, 1] [0, 0, 0, 0, 1] (ho.at hs (by repeat first | exact .head _ | refine .tail _ ?_)) two_small (Blk.rdI (c := 5) (hs.blk (b := b61) (by repeat first | exact .head _ | refine .tail _ ?_))) (Blk.rdI (c := 5) (hs.blk (b := b62) (by repeat first | exact .head _ | refine .tail _ ?_))) (by decide) (by decide); rw [aw_fol] at this; exact this
          (refine qf_pure tabOk rfl rfl rfl ?_; (iterate 2 refine qf_ext tabOk rfl rfl rfl ?_); refine qf_setA tabOk rfl rfl rfl rfl rfl (by repeat constructor) rfl ?_; refine qf_pure tabOk rfl rfl rfl ?_; refine qf_nil ?_)
          skip
          exact hK1 _ _ (qt_nil (hK2 b19 _ _ ⟨rfl, rfl, rfl, rfl, rfl, rfl, rfl, rfl, rfl, rfl, trivial⟩ (by repeat (first | exact Sp.nil | exact Sp.refl _ | refine Sp.cons (by repeat constructor) ?_))))
        · skip
          refine qt_seg (by repeat (first | exact PickL.nil | (apply PickL.cons; rfl))) fun K1 hK1 => ?_
          refine qf_mkS 3 (ints [1, 1, 1, 1, 1]) rfl (by kernel_rfl) rfl (fun b61 => ?_)
          skip
          refine qf_call (β := List Ck × List Value) tabOk [] _ M0 rfl rfl rfl rfl (Sp.refl _) (fun _ h => h.elim) (fun w' hs => two_ca w') ?_
          rintro ⟨L, cs⟩ _ ⟨rfl, ho⟩
          (refine qf_loadAB tabOk rfl rfl rfl (by repeat first | exact .head _ | refine .tail _ ?_) (by rfl) (by rfl) ?_)
          refine qf_callv (val := .tuple #[.agg #[.int .i64 (0), .int .i64 (20), .int .i64 (5)], .int .i64 (0)]) tabOk rfl rfl rfl rfl (fun w hs => ?_) ?_
          · have := follow_ca w 0 w.heap.size 0 w.heap.size cs twoR ruA _ _ [1, 1, 1, 1, 1] [0, 0, 0, 0, 1] (ho.at hs (by repeat first | exact .head _ | refine .tail _ ?_)) two_small (Blk.rdI (c := 5) (hs.blk (b := b61) (by repeat first | exact .head _ | refine .tail _ ?_))) (Blk.rdI (c := 5) (hs.blk (b := b62) (by repeat first | exact .head _ | refine .tail _ ?_))) (by decide) (by decide); rw [aw_fol] at this; exact this
          (refine qf_pure tabOk rfl rfl rfl ?_; (iterate 2 refine qf_ext tabOk rfl rfl rfl ?_); refine qf_setA tabOk rfl rfl rfl rfl rfl (by repeat constructor) rfl ?_; refine qf_pure tabOk rfl rfl rfl ?_; refine qf_nil ?_)
          skip
          exact hK1 _ _ (qt_nil (hK2 b19 _ _ ⟨rfl, rfl, rfl, rfl, rfl, rfl, rfl, rfl, rfl, rfl, trivial⟩ (by repeat (first | exact Sp.nil | exact Sp.refl _ | refine Sp.cons (by repeat constructor) ?_))))
  intro b19
  (refine q_seq ?_; refine q_region ?_)
  refine ql_mk #[.int .i64 10, .int .i64 20] rfl (by kernel_rfl) rfl ?_
  refine ql_mk #[.int .i64 (-5), .int .i64 5] rfl (by kernel_rfl) rfl ?_
  refine ql_mkS 32 [.int .i64 10, .int .i64 20, .int .i64 (-5), .int .i64 5] rfl (by kernel_rfl) rfl (fun b71 => ?_)
  refine ql_mkS 3 (ints [3, 1]) rfl (by kernel_rfl) rfl (fun b72 => ?_)
  refine ql_callv (val := .tuple #[.agg #[.int .i64 25, .int .i64 65], .int .i64 0]) tabOk rfl rfl rfl rfl (fun w hs => ?_) ?_; exact by have := driftF_ca w 0 w.heap.size 0 w.heap.size _ _ [(10, 20), (-5, 5)] [3, 1] (Blk.rdS (c := 2) (hs.blk (b := b71) (by repeat first | exact .head _ | refine .tail _ ?_)) rfl) (by decide) (Blk.rdI (c := 2) (hs.blk (b := b72) (by repeat first | exact .head _ | refine .tail _ ?_))) (by decide); rw [aw_drift] at this; exact this
  (refine ql_pure tabOk rfl rfl ?_; (iterate 2 refine ql_ext tabOk rfl rfl rfl ?_))
  refine ql_alloc zero32 rfl (fun b20 => ?_)
  (refine ql_setA tabOk rfl rfl rfl rfl rfl (by repeat constructor) rfl ?_; refine ql_pure tabOk rfl rfl ?_; refine q_nil ?_; refine q_seq ?_; refine q_region ?_; (iterate 3 refine ql_pure tabOk rfl rfl ?_); refine ql_gyes rfl ?_; refine ql_pure tabOk rfl rfl ?_; refine ql_gyes rfl ?_; (iterate 3 refine ql_pure tabOk rfl rfl ?_); refine ql_gyes rfl ?_; refine ql_pure tabOk rfl rfl ?_; refine ql_gyes rfl ?_; (iterate 3 refine ql_pure tabOk rfl rfl ?_); refine ql_gyes rfl ?_; refine ql_pure tabOk rfl rfl ?_; refine ql_gyes rfl ?_; (iterate 3 refine ql_pure tabOk rfl rfl ?_); refine ql_gyes rfl ?_; refine ql_pure tabOk rfl rfl ?_; refine ql_gyes rfl ?_; (iterate 3 refine ql_pure tabOk rfl rfl ?_); refine ql_gyes rfl ?_; refine ql_pure tabOk rfl rfl ?_; refine ql_gyes rfl ?_; (iterate 3 refine ql_pure tabOk rfl rfl ?_); refine ql_gyes rfl ?_; refine ql_pure tabOk rfl rfl ?_; refine ql_gyes rfl ?_; refine ql_pure tabOk rfl rfl ?_; refine ql_gyes rfl ?_; (iterate 3 refine ql_pure tabOk rfl rfl ?_); refine ql_gyes rfl ?_; refine ql_loadAB tabOk rfl rfl rfl (by repeat first | exact .head _ | refine .tail _ ?_) (by rfl) (by rfl) ?_; refine ql_gyes rfl ?_)
  refine ql_mk #[.int .i64 10, .int .i64 1] rfl (by kernel_rfl) rfl ?_
  (refine ql_gyes rfl ?_)
  refine ql_eqF (xs := [.int .i64 10, .int .i64 1]) (ys := [.int .i64 10, .int .i64 1]) [some .i64, some .i64] rat_flat rfl rfl rfl rfl rfl ?_
  ((iterate 2 refine ql_pure tabOk rfl rfl ?_); refine ql_gyes rfl ?_; refine ql_loadAB tabOk rfl rfl rfl (by repeat first | exact .head _ | refine .tail _ ?_) (by rfl) (by rfl) ?_; refine ql_gyes rfl ?_)
  refine ql_mk #[.bool false, .int .i64 (-1)] rfl (by kernel_rfl) rfl ?_
  (refine ql_gyes rfl ?_)
  refine ql_eqF (xs := [.bool false, .int .i64 (-1)]) (ys := [.bool false, .int .i64 (-1)]) [none, some .i64] chc_flat rfl rfl rfl rfl rfl ?_
  ((iterate 2 refine ql_pure tabOk rfl rfl ?_); refine ql_gyes rfl ?_; refine ql_loadAB tabOk rfl rfl rfl (by repeat first | exact .head _ | refine .tail _ ?_) (by rfl) (by rfl) ?_; refine ql_gyes rfl ?_)
  refine ql_mk #[.bool true, .int .i64 0] rfl (by kernel_rfl) rfl ?_
  (refine ql_gyes rfl ?_)
  refine ql_eqF (xs := [.bool true, .int .i64 0]) (ys := [.bool true, .int .i64 0]) [none, some .i64] chc_flat rfl rfl rfl rfl rfl ?_
  ((iterate 2 refine ql_pure tabOk rfl rfl ?_); refine ql_gyes rfl ?_; refine ql_loadAB tabOk rfl rfl rfl (by repeat first | exact .head _ | refine .tail _ ?_) (by rfl) (by rfl) ?_; refine ql_gyes rfl ?_)
  refine ql_mk #[.int .i64 0, .int .i64 20, .int .i64 5] rfl (by kernel_rfl) rfl ?_
  (refine ql_gyes rfl ?_)
  refine ql_eqF (xs := [.int .i64 0, .int .i64 20, .int .i64 5]) (ys := [.int .i64 0, .int .i64 20, .int .i64 5]) [some .i64, some .i64, some .i64] ply_flat rfl rfl rfl rfl rfl ?_
  ((iterate 2 refine ql_pure tabOk rfl rfl ?_); refine ql_gyes rfl ?_; refine ql_loadAB tabOk rfl rfl rfl (by repeat first | exact .head _ | refine .tail _ ?_) (by rfl) (by rfl) ?_; refine ql_gyes rfl ?_)
  refine ql_mk #[.int .i64 25, .int .i64 65] rfl (by kernel_rfl) rfl ?_
  (refine ql_gyes rfl ?_)
  refine ql_eqF (xs := [.int .i64 25, .int .i64 65]) (ys := [.int .i64 25, .int .i64 65]) [some .i64, some .i64] spn_flat rfl rfl rfl rfl rfl ?_
  ((iterate 2 refine ql_pure tabOk rfl rfl ?_); refine q_nil ?_; refine q_ret ?_)
  refine q_fin tabOk rfl (by repeat (first | exact RVs.nil | apply RVs.tmp rfl | apply RVs.cellA rfl rfl (by repeat first | exact .head _ | refine .tail _ ?_) (by rfl) | apply RVs.cell1 rfl rfl (by repeat first | exact .head _ | refine .tail _ ?_))) fun w hs => ?_
  exact ⟨rfl, hs.chg0⟩

end Go.Proofs.YtohlillcaadidaaGreat

/- Walks: klisterkit's deck. Only the ranges of what it deals are told. -/
namespace Go.Proofs.YtohlillcaadidaaGreat
open Go Go.Eng
attribute [local irreducible] IntKind.wrap Int.tmod Int.tdiv

/-- Its bytes. -/
def DkB (w : World) (lo hi : Nat) (bs : Value) : Prop := ∃ nb cs, Rd w lo hi bs 1 nb cs ∧ (∀ c ∈ cs, ∃ x, c = .int .u8 x ∧ 0 ≤ x ∧ x < 256)
theorem DkB.keep {w w' : World} {lo hi : Nat} {bs : Value} (h : DkB w lo hi bs) (c : Chg [] w w') : DkB w' lo hi bs := by
  obtain ⟨nb, cs, h1, h2⟩ := h
  exact ⟨nb, cs, h1.keep c, h2⟩

end Go.Proofs.YtohlillcaadidaaGreat

/- Walks: the deck as a piece of memory. -/
namespace Go.Proofs.YtohlillcaadidaaGreat
open Go Go.Eng

end Go.Proofs.YtohlillcaadidaaGreat

/- Walks: Between, on engine 2. -/
namespace Go.Proofs.YtohlillcaadidaaGreat
open Go Go.Eng

end Go.Proofs.YtohlillcaadidaaGreat

/- Walks: Of. -/
namespace Go.Proofs.YtohlillcaadidaaGreat
open Go Go.Eng

end Go.Proofs.YtohlillcaadidaaGreat

/- Walks: shares. -/
namespace Go.Proofs.YtohlillcaadidaaGreat
open Go Go.Eng

end Go.Proofs.YtohlillcaadidaaGreat

/- Walks: Fold. -/
namespace Go.Proofs.YtohlillcaadidaaGreat
open Go Go.Eng

end Go.Proofs.YtohlillcaadidaaGreat

/- The engine, part B13: changing an element of a slice of our own. -/
namespace Go.Eng
open Go Go.RowKit

section
variable {P : Program} {T : Tab}
variable {ro : Cx} {n : Nat} {F : Fin} {w0 : World} {M : Nat → Prop} {k : List It} {ops : Array Oper} {rest : List Oper} {e : Env} {H Hq : List Ck}

/-- A region that draws; what its first c operations read (Hq1) is not changed by them, and they stand ahead of all that changes Hm2. -/
theorem q_drawS2 {id : Nat} {l : List Oper} (c : Nat) (Hq1 Hm1 Hq2 Hm2 : List Ck) (hH1 : Sp H (Hm1 ++ Hq1)) (hH2 : Sp Hq1 (Hm2 ++ Hq2)) (hm : P.follows .mixedOrders = true) (hB : flB l.toArray = true)
    (hbs : flagB l.toArray (List.replicate c true ++ List.replicate (l.length - c) false) = true)
    (h : ∀ K1 : Act → World → Prop, (∀ e' H' Hm', Sp H' (Hm' ++ Hq2) → QF P ro n F w0 M k l.toArray Hq2 (l.drop c) e' Hm' → Q P ro n F w0 M (.k K1 :: k) e' H') → QF P ro n F w0 M (.k K1 :: k) l.toArray Hq1 (l.take c) e Hm1) :
    Q P ro n F w0 M (.code (.region id l.toArray true) :: k) e H := .mk fun w hs a hf hd => by
  have hs0 : Sat w0 M H { w with drawn := w.drawn + 1 } := hs.keep (Chg.drew (N := []) w)
  have hs1 : Sat w0 M Hq1 { w with drawn := w.drawn + 1 } := (hs0.sp hH1).right
  have h12 : ∀ w, Sat w0 M Hq1 w → Sat w0 M Hq2 w := fun w hw => (hw.sp hH2).right
  let bs := List.replicate c true ++ List.replicate (l.length - c) false
  refine wpIn_region_fl2 hm (flB_spec hB) (K := fun a w => S P ro.ro F k .normal a w) (Cq := flagC (Sat w0 M Hq1) (Sat w0 M Hq2) bs) (Ce := flagC (Sat w0 M Hq1) (Sat w0 M Hq2) bs)
    (fun i j oi oj => flagB_spec hbs h12 i j oi oj) (fun i => ?_) (fun _ _ h => h) ?_
  · unfold flagC
    cases bs.getD i false
    · exact h12 _ hs1
    · exact hs1
  · have h2 := wpFlB_eq (P := P) (ops := l.toArray) (C1 := Sat w0 M Hq1) (C2 := Sat w0 M Hq2) (bs := bs) (K := fun a w => S P ro.ro F k .normal a w) l 0 (by simp)
    rw [show List.range l.toArray.size = List.range' 0 l.length from by simp [List.range_eq_range'], h2]
    refine yb_seg (P := P) (ro := ro) (n := n) (F := F) (k := k) (C1 := Sat w0 M Hq1) (C2 := Sat w0 M Hq2) (bs := bs) (l := l) true c (by simp [bs]) (by simp [bs]) (fun K1 hK1 => ?_) a hf hd
    have h3 := h K1 (fun e' H' Hm' hsp hq => .mk fun w' hw' a' hf' hd' => ?_)
    · exact h3.h _ (hs0.sp hH1)
    · refine hK1 e' w' (fun a2 hf2 hd2 => ?_) a' hf' hd'
      have h4 : bs.drop c = List.replicate (l.length - c) false := by simp [bs]
      rw [h4]
      exact wpFlB_false _ _ (by simp) a2 w' (hq w' (hw'.sp hsp) a2 hf2 hd2)
end
end Go.Eng

/- Walks: Made. -/
namespace Go.Proofs.YtohlillcaadidaaGreat
open Go Go.Eng

/-- What Made makes. -/
structure MadeR (states clicks side : Nat) (r : Rg) : Prop where
  right : r.Right
  small : r.Small
  states : r.drifts.length ≤ states
  clicks : r.clicks ≤ clicks
  group : r.group.length ≤ 2 * side + 1
  radius : r.radius ≤ 12
  unit : r.unit ≤ 5
  total : r.total ≤ 6
  drift : ∀ x ∈ r.drifts, -15 ≤ x ∧ x ≤ 15
  gsum : r.group.sum ≤ 4 * r.group.length + 1
  weight : ∀ x ∈ r.group, x ≤ 5

theorem own_rdI {w : World} {t n : Nat} {v : Value} {l : List Int} (h : w.ownsRow 0 t 1 v n (ints l)) (hn : n = l.length) : RdI w 0 w.heap.size v l := by
  subst hn
  exact RdI.of (own_rd h)
abbrev madeB (b9 : Nat) (a b c d : Int) (g h f n : Value) : Ck := .pt b9 [.int .i64 a, .int .i64 b, .int .i64 c, .int .i64 d, g, h, f, n] 25

end Go.Proofs.YtohlillcaadidaaGreat

/- Walks: draws of a deck that was made of bytes that came in. -/
namespace Go.Proofs.YtohlillcaadidaaGreat
open Go Go.Eng

section
variable {K b : Nat} {bs : Value} {w0 w : World} {R : List Ck}
end
end Go.Proofs.YtohlillcaadidaaGreat

/- The plain law of WindRead: what flags read. -/
namespace Go.Proofs.YtohlillcaadidaaGreat
open Go Go.Eng

/-- A flag: its span, what is read of it, its weight. -/
abbrev Flg := Int × Int × Int × Int
def flP (t : Flg) : Int × Int := (t.1, t.2.1)
def loP (t : Flg) : Int × Int := (t.1, t.1)
def hiP (t : Flg) : Int × Int := (t.2.1, t.2.1)
def soP (t : Flg) : Int × Int := (t.2.2.1, t.2.2.1)
def FlgOk (t : Flg) : Prop := -60 ≤ t.1 ∧ t.1 ≤ t.2.1 ∧ t.2.1 ≤ 69 ∧ t.1 ≤ t.2.2.1 ∧ t.2.2.1 ≤ t.2.1 ∧ 0 ≤ t.2.2.2 ∧ t.2.2.2 ≤ 9
abbrev weF (t : Flg) : Int := t.2.2.2
def itS (its : List Flg) (g : Flg → Int) : Int := sumR (fun i => weF (its.getD i (0, 0, 0, 0)) * g (its.getD i (0, 0, 0, 0))) its.length
end Go.Proofs.YtohlillcaadidaaGreat

/- The plain laws of the wind, part 0. -/
namespace Go.Proofs.YtohlillcaadidaaGreat
open Go Go.Eng
theorem gcd_pos' (a : Int) {d : Int} (hd : 0 < d) : 0 < ((Int.gcd a d : Nat) : Int) := by
  have : Int.gcd a d ≠ 0 := by
    intro h
    have := (Int.gcd_eq_zero_iff.1 h).2
    omega
  omega
theorem ratioV_mul {a d : Int} (hd : 0 < d) : (ratioV a d).1 * d = a * (ratioV a d).2 := by
  unfold ratioV
  have h1 : ((Int.gcd a d : Nat) : Int) ∣ a := Int.gcd_dvd_left ..
  have h2 : ((Int.gcd a d : Nat) : Int) ∣ d := Int.gcd_dvd_right ..
  have h3 : a / ((Int.gcd a d : Nat) : Int) * d = a * d / ((Int.gcd a d : Nat) : Int) := by rw [Int.mul_comm, ← Int.mul_ediv_assoc d h1, Int.mul_comm]
  have h4 : a * (d / ((Int.gcd a d : Nat) : Int)) = a * d / ((Int.gcd a d : Nat) : Int) := by rw [Int.mul_ediv_assoc a h2]
  simp only
  rw [h3, h4]
theorem ratioV_pos {a d : Int} (ha : 0 ≤ a) (hd : 0 < d) : 0 ≤ (ratioV a d).1 ∧ (ratioV a d).1 ≤ a ∧ 1 ≤ (ratioV a d).2 ∧ (ratioV a d).2 ≤ d := by
  have hg := gcd_pos' a hd
  have h2 : ((Int.gcd a d : Nat) : Int) ∣ d := Int.gcd_dvd_right ..
  unfold ratioV
  refine ⟨Int.ediv_nonneg ha (by omega), Int.ediv_le_self _ ha, ?_, Int.ediv_le_self _ (by omega)⟩
  have := Int.le_of_dvd hd h2
  exact (Int.le_ediv_iff_mul_le hg).2 (by rw [Int.one_mul]; exact this)
/-- Fractions of one denominator. -/
theorem mul_lt_iff {a b c : Int} (hc : 0 < c) : a * c < b * c ↔ a < b := ⟨fun h => Int.lt_of_mul_lt_mul_right h (by omega), fun h => Int.mul_lt_mul_of_pos_right h hc⟩
theorem ratioV_lt {a b d : Int} (hd : 0 < d) (ha : 0 ≤ a) (hb : 0 ≤ b) : (ratioV a d).1 * (ratioV b d).2 < (ratioV b d).1 * (ratioV a d).2 ↔ a < b := by
  have h1 := ratioV_mul (a := a) hd
  have h2 := ratioV_mul (a := b) hd
  have p1 := ratioV_pos ha hd
  have p2 := ratioV_pos hb hd
  generalize ratioV a d = p at *
  generalize ratioV b d = q at *
  have hpp : 0 < p.2 * q.2 := Int.mul_pos (by omega) (by omega)
  rw [← mul_lt_iff (a := a) (b := b) (c := p.2 * q.2) hpp, ← mul_lt_iff (a := p.1 * q.2) (b := q.1 * p.2) hd]
  have e1 : p.1 * q.2 * d = a * (p.2 * q.2) := by rw [Int.mul_right_comm, h1, Int.mul_assoc]
  have e2 : q.1 * p.2 * d = b * (p.2 * q.2) := by rw [Int.mul_right_comm, h2, Int.mul_assoc, Int.mul_comm q.2]
  rw [e1, e2]
theorem less_ratio {a b d : Int} (hd : 0 < d) (ha : 0 ≤ a) (hb : 0 ≤ b) : lessB (ratioV a d) (ratioV b d) = (decide (a < b) && true) := by
  unfold lessB
  rw [decide_eq_decide.2 (ratioV_lt hd ha hb)]
/-- The sum. -/
def plusV (a b : Int × Int) : Int × Int := ratioV (a.1 * b.2 + b.1 * a.2) (a.2 * b.2)
/-! The best click. -/
def kyC (c : Int) : Int := 2 * c.natAbs + if 0 < c then 1 else 0
theorem farL_key (C : Int) (far : Nat) : (∀ c ∈ farL C 0 far, c.natAbs = far) ∧ (farL C 0 far).Pairwise (fun a b => kyC a < kyC b) := by
  unfold farL
  split
  · subst_vars
    simp
  · rename_i h
    refine ⟨fun c hc => ?_, List.Pairwise.filter _ ?_⟩
    · have := (List.mem_filter.1 hc).1
      simp at this
      omega
    · simp [kyC]
      omega
theorem clickL_sorted (C : Int) : (clickL C 0).Pairwise (fun a b => kyC a < kyC b) := by
  unfold clickL clickP
  refine List.pairwise_flatMap.2 ⟨fun far _ => (farL_key C far).2, ?_⟩
  refine List.Pairwise.imp ?_ (List.pairwise_lt_range (n := (2 * C + 1).toNat))
  intro a b hab x hx y hy
  have h1 := (farL_key C a).1 x hx
  have h2 := (farL_key C b).1 y hy
  unfold kyC
  split <;> split <;> omega
theorem clickL_mem (C : Int) (hC : 0 ≤ C) (c : Int) : c ∈ clickL C 0 ↔ -C ≤ c ∧ c ≤ C := by
  constructor
  · intro h; exact inB_iff.1 (clickL_in C 0 (inB_iff.2 (by omega)) c h)
  · intro hc
    simp only [clickL, clickP, List.mem_flatMap, List.mem_range]
    refine ⟨c.natAbs, by omega, ?_⟩
    unfold farL
    split
    · simp; omega
    · refine List.mem_filter.2 ⟨?_, inB_iff.2 hc⟩
      simp
      omega
theorem best_first (q : Int → Int × Int) (f : Int → Int) : ∀ (l : List Int) (s : Int × (Int × Int)), s.2 = q s.1 → (∀ a b, (a = s.1 ∨ a ∈ l) → (b = s.1 ∨ b ∈ l) → lessB (q a) (q b) = (decide (f a < f b) && true)) →
    (l.foldl (bestStep q) s).2 = q (l.foldl (bestStep q) s).1 ∧ (((l.foldl (bestStep q) s).1 = s.1 ∧ ∀ c ∈ l, f s.1 ≤ f c) ∨ ∃ pre post, l = pre ++ (l.foldl (bestStep q) s).1 :: post ∧ f (l.foldl (bestStep q) s).1 < f s.1 ∧ (∀ c ∈ pre, f (l.foldl (bestStep q) s).1 < f c) ∧ ∀ c ∈ post, f (l.foldl (bestStep q) s).1 ≤ f c)
  | [], s, hs, _ => ⟨hs, .inl ⟨rfl, by simp⟩⟩
  | c :: l, s, hs, hq => by
    rw [List.foldl_cons]
    have hb : bestStep q s c = if f c < f s.1 then (c, q c) else s := by
      unfold bestStep
      rw [hs, hq _ _ (.inr List.mem_cons_self) (.inl rfl)]
      by_cases h : f c < f s.1 <;> simp [h]
    rw [hb]
    by_cases h : f c < f s.1
    · rw [if_pos h]
      obtain ⟨h1, h2⟩ := best_first q f l (c, q c) rfl (fun a b ha hb => hq a b (by rcases ha with rfl | ha; exact .inr List.mem_cons_self; exact .inr (List.mem_cons_of_mem _ ha)) (by rcases hb with rfl | hb; exact .inr List.mem_cons_self; exact .inr (List.mem_cons_of_mem _ hb)))
      refine ⟨h1, .inr ?_⟩
      rcases h2 with ⟨h3, h4⟩ | ⟨pre, post, h3, h4, h5, h6⟩
      · refine ⟨[], l, by rw [h3]; rfl, by rw [h3]; exact h, by simp, fun d hd => by rw [h3]; exact h4 d hd⟩
      · refine ⟨c :: pre, post, by rw [List.cons_append, ← h3], by simp only at h4; omega, fun d hd => ?_, h6⟩
        rcases List.mem_cons.1 hd with rfl | hd
        · exact h4
        · exact h5 d hd
    · rw [if_neg h]
      obtain ⟨h1, h2⟩ := best_first q f l s hs (fun a b ha hb => hq a b (ha.imp_right (List.mem_cons_of_mem _)) (hb.imp_right (List.mem_cons_of_mem _)))
      refine ⟨h1, ?_⟩
      rcases h2 with ⟨h3, h4⟩ | ⟨pre, post, h3, h4, h5, h6⟩
      · refine .inl ⟨h3, fun d hd => ?_⟩
        rcases List.mem_cons.1 hd with rfl | hd
        · omega
        · exact h4 d hd
      · refine .inr ⟨c :: pre, post, by rw [List.cons_append, ← h3], h4, fun d hd => ?_, h6⟩
        rcases List.mem_cons.1 hd with rfl | hd
        · omega
        · exact h5 d hd
/-- The best click: it has the least number, and of those with it, it is the first. -/
theorem best_law (q : Int → Int × Int) (f : Int → Int) (C : Int) (hC : 0 ≤ C) (hq : ∀ a b, -C ≤ a ∧ a ≤ C → -C ≤ b ∧ b ≤ C → lessB (q a) (q b) = (decide (f a < f b) && true)) :
    ∃ m, bestOf q (clickL C 0) = (m, q m) ∧ (-C ≤ m ∧ m ≤ C) ∧ (∀ c, -C ≤ c ∧ c ≤ C → f m ≤ f c) ∧ ∀ c, -C ≤ c ∧ c ≤ C → f c = f m → ¬ (c * c < m * m ∨ c = -m ∧ c < m) := by
  have h0 : (0 : Int) ∈ clickL C 0 := (clickL_mem C hC 0).2 (by omega)
  obtain ⟨h1, h2⟩ := best_first q f (clickL C 0) (0, q 0) rfl (fun a b ha hb => hq a b (by rcases ha with rfl | ha; simp only; omega; exact (clickL_mem C hC a).1 ha) (by rcases hb with rfl | hb; simp only; omega; exact (clickL_mem C hC b).1 hb))
  refine ⟨(bestOf q (clickL C 0)).1, Prod.ext rfl h1, ?_⟩
  have hky : ∀ c m : Int, (c * c < m * m ∨ c = -m ∧ c < m) → kyC c < kyC m := by
    intro c m h
    unfold kyC
    rcases h with h | ⟨rfl, h⟩
    · have : c.natAbs < m.natAbs := by
        refine Nat.lt_of_not_le fun hle => ?_
        have h1 := Nat.mul_le_mul hle hle
        have h2 : ((m.natAbs * m.natAbs : Nat) : Int) = m * m := Int.natAbs_mul_self
        have h3 : ((c.natAbs * c.natAbs : Nat) : Int) = c * c := Int.natAbs_mul_self
        omega
      split <;> split <;> omega
    · split <;> split <;> omega
  unfold bestOf
  generalize List.foldl (bestStep q) (0, q 0) (clickL C 0) = R at *
  rcases h2 with ⟨h3, h4⟩ | ⟨pre, post, h3, h4, h5, h6⟩
  · simp only at h3 h4
    rw [h3]
    refine ⟨by omega, fun c hc => h4 c ((clickL_mem C hC c).2 hc), fun c hc he hn => ?_⟩
    have := hky _ _ hn
    simp only [kyC] at this
    split at this <;> simp at this <;> omega
  · have hm : R.1 ∈ clickL C 0 := by rw [h3]; simp
    have hs := clickL_sorted C
    rw [h3] at hs
    have hpw := List.pairwise_append.1 hs
    refine ⟨(clickL_mem C hC _).1 hm, fun c hc => ?_, fun c hc he hn => ?_⟩
    · have := (clickL_mem C hC c).2 hc
      rw [h3] at this
      rcases List.mem_append.1 this with h | h
      · have := h5 c h; omega
      · rcases List.mem_cons.1 h with rfl | h
        · omega
        · exact h6 c h
    · have := (clickL_mem C hC c).2 hc
      have hk := hky _ _ hn
      rw [h3] at this
      rcases List.mem_append.1 this with h | h
      · have := h5 c h; omega
      · rcases List.mem_cons.1 h with rfl | h
        · omega
        · have := (List.pairwise_cons.1 hpw.2.1).1 c h
          omega
end Go.Proofs.YtohlillcaadidaaGreat

/- The plain laws of the reference: the best of some clicks. -/
namespace Go.Proofs.YtohlillcaadidaaGreat
open Go Go.Eng

theorem sq_lt (c d : Int) : c * c < d * d ↔ c.natAbs < d.natAbs := by
  have h1 : ((c.natAbs * c.natAbs : Nat) : Int) = c * c := Int.natAbs_mul_self
  have h2 : ((d.natAbs * d.natAbs : Nat) : Int) = d * d := Int.natAbs_mul_self
  rw [← h1, ← h2]
  constructor
  · intro h
    refine Nat.lt_of_not_le fun hle => ?_
    have := Nat.mul_le_mul hle hle
    omega
  · intro h
    have := Nat.mul_lt_mul_of_lt_of_lt h h
    omega
theorem sq_eq (c d : Int) : c * c = d * d ↔ c.natAbs = d.natAbs := by
  have h1 := sq_lt c d
  have h2 := sq_lt d c
  omega
/-! Of some fractions. -/
/-- What comes before: the lesser one, then the nearer one, then the lesser click. -/
def beatsB (a : Int × Int) (c : Int) (b : Int × Int) (d : Int) : Bool :=
  if a.1 * b.2 = b.1 * a.2 then (if c * c = d * d then decide (c < d) && true else decide (c * c < d * d) && true) else decide (a.1 * b.2 < b.1 * a.2) && true
def pickI (C : Int) (bad : List (Int × Int)) : Nat → Nat
  | 0 => 0
  | k + 1 => if beatsB (bad.getD (k + 1) (0, 1)) (((k + 1 : Nat) : Int) - C) (bad.getD (pickI C bad k) (0, 1)) ((pickI C bad k : Int) - C) then k + 1 else pickI C bad k
theorem pickI_le (C : Int) (bad : List (Int × Int)) : ∀ k, pickI C bad k ≤ k
  | 0 => Nat.le_refl _
  | k + 1 => by
    have := pickI_le C bad k
    rw [pickI]
    split <;> omega
def Bef (f : Int → Int) (c d : Int) : Prop := f c < f d ∨ f c = f d ∧ (c * c < d * d ∨ c * c = d * d ∧ c < d)
theorem beats_bef {q : Int → Int × Int} {f : Int → Int} {c d : Int} (h1 : lessB (q c) (q d) = (decide (f c < f d) && true)) (h2 : lessB (q d) (q c) = (decide (f d < f c) && true)) : beatsB (q c) c (q d) d = true ↔ Bef f c d := by
  unfold beatsB Bef
  simp only [lessB, Bool.and_true, decide_eq_decide] at h1 h2
  generalize (q c).1 * (q d).2 = x at *
  generalize (q d).1 * (q c).2 = y at *
  generalize c * c = u
  generalize d * d = v
  split
  · split <;> simp <;> omega
  · simp; omega
theorem allC_at (C : Int) (q : Int → Int × Int) (j : Nat) (hj : (j : Int) ≤ 2 * C) : ((allC C).map q).getD j (0, 1) = q ((j : Int) - C) := by
  have h : j < (2 * C + 1).toNat := by omega
  simp [allC, List.getD_eq_getElem?_getD, h]
theorem pick_best {q : Int → Int × Int} {f : Int → Int} {C : Int} (hC : 0 ≤ C) (hq : ∀ a b, -C ≤ a ∧ a ≤ C → -C ≤ b ∧ b ≤ C → lessB (q a) (q b) = (decide (f a < f b) && true)) :
    ∀ k : Nat, (k : Int) ≤ 2 * C → ∀ j, j ≤ k → ¬ Bef f ((j : Int) - C) ((pickI C ((allC C).map q) k : Int) - C)
  | 0, _, j, hj => by
    obtain rfl : j = 0 := by omega
    unfold Bef pickI
    omega
  | k + 1, hk, j, hj => by
    have ih := pick_best hC hq k (by omega)
    have hle := pickI_le C ((allC C).map q) k
    have hb := beats_bef (q := q) (f := f) (c := ((k + 1 : Nat) : Int) - C) (d := (pickI C ((allC C).map q) k : Int) - C) (hq _ _ (by omega) (by omega)) (hq _ _ (by omega) (by omega))
    rw [pickI, allC_at C q (k + 1) hk, allC_at C q _ (by omega)]
    generalize pickI C ((allC C).map q) k = i at *
    have hj2 := ih j
    by_cases h : beatsB (q (((k + 1 : Nat) : Int) - C)) (((k + 1 : Nat) : Int) - C) (q ((i : Int) - C)) ((i : Int) - C) = true
    · rw [if_pos h]
      have h2 := hb.1 h
      by_cases hjk : j = k + 1
      · subst hjk
        unfold Bef
        omega
      · intro h3
        refine hj2 (by omega) ?_
        unfold Bef at h2 h3 ⊢
        generalize ((j : Int) - C) * ((j : Int) - C) = u at *
        generalize (((k + 1 : Nat) : Int) - C) * (((k + 1 : Nat) : Int) - C) = v at *
        generalize ((i : Int) - C) * ((i : Int) - C) = x at *
        generalize f ((j : Int) - C) = fu at *
        generalize f (((k + 1 : Nat) : Int) - C) = fv at *
        generalize f ((i : Int) - C) = fx at *
        omega
    · rw [if_neg h]
      by_cases hjk : j = k + 1
      · subst hjk
        exact fun h3 => h (hb.2 h3)
      · exact hj2 (by omega)
/-- The reference picks the same click. -/
theorem pick_law (q : Int → Int × Int) (f : Int → Int) (C : Int) (hC : 0 ≤ C) (hq : ∀ a b, -C ≤ a ∧ a ≤ C → -C ≤ b ∧ b ≤ C → lessB (q a) (q b) = (decide (f a < f b) && true)) :
    ∃ m, bestOf q (clickL C 0) = (m, q m) ∧ (-C ≤ m ∧ m ≤ C) ∧ (pickI C ((allC C).map q) (2 * C).toNat : Int) = m + C := by
  obtain ⟨m, h1, h2, h3, h4⟩ := best_law q f C hC hq
  refine ⟨m, h1, h2, ?_⟩
  have hp := pick_best hC hq (2 * C).toNat (by omega)
  have hle := pickI_le C ((allC C).map q) (2 * C).toNat
  generalize pickI C ((allC C).map q) (2 * C).toNat = i at *
  have h5 := hp (m + C).toNat (by omega)
  rw [show (((m + C).toNat : Nat) : Int) - C = m by omega] at h5
  obtain ⟨x, hx⟩ : ∃ x, x = (i : Int) - C := ⟨_, rfl⟩
  rw [← hx] at h5
  have h6 := h3 x (by omega)
  have h7 := h4 x (by omega)
  unfold Bef at h5
  have e1 := sq_lt x m
  have e2 := sq_eq m x
  have e3 := sq_lt m x
  generalize x * x = u at *
  generalize m * m = v at *
  omega

/-! Of some numbers. -/
def kyN (n c : Int) : Int := kyC (c - n)
/-- The reference's choice among clicks. -/
def rcStep (r : Rg) (p : Ru) (g : Nat → Int → Int) (shot wt st : Nat) (cl : Int) (s : Int × Int) (c : Int) : Int × Int :=
  if shootV r p g shot wt st cl c < s.2 ∨ shootV r p g shot wt st cl c = s.2 ∧ kyN cl c < kyN cl s.1 then (c, shootV r p g shot wt st cl c) else s
def rcP (r : Rg) (p : Ru) (g : Nat → Int → Int) (shot wt st : Nat) (cl : Int) (k : Nat) : Int × Int := ((allC r.clicks).take k).foldl (rcStep r p g shot wt st cl) (cl, shootV r p g shot wt st cl cl)
end Go.Proofs.YtohlillcaadidaaGreat

/- The plain laws of the wind, part 1. -/
namespace Go.Proofs.YtohlillcaadidaaGreat
open Go Go.Eng
end Go.Proofs.YtohlillcaadidaaGreat

/- The plain laws of the wind, part 2. -/
namespace Go.Proofs.YtohlillcaadidaaGreat
open Go Go.Eng
/-- Numbers of a range that was made: total at most 6, group at most 37. -/
structure Rg.Low (r : Rg) : Prop where
  right : r.Right
  total : r.total ≤ 6
  gsum : r.group.sum ≤ 37
abbrev chW (r : Rg) (k s : Nat) : Int := (wts r k).getD s 0
abbrev chX (r : Rg) (k s : Nat) : Int × Int := ratioV (chW r k s) (r.total ^ (k + 1))
def bsum (r : Rg) (c : Int) (k j : Nat) : Int × Int := ratioV ((expP r c k).1 * r.total + mulN r c (wts r k) j) (r.total ^ (k + 1) * r.group.sum)
def bone (r : Rg) (k j : Nat) : Int × Int := ratioV (sumR (fun s => (wts r k).getD s 0) j) (r.total ^ (k + 1))
abbrev hitX (r : Rg) (s : Nat) (c : Int) : Int × Int := ratioV (r.group.sum - missS r (r.drifts.getD s 0) c) r.group.sum
end Go.Proofs.YtohlillcaadidaaGreat

/- The plain laws of the wind, part 3. -/
namespace Go.Proofs.YtohlillcaadidaaGreat
open Go Go.Eng
/-! Fractions, part by part. -/
/-- One fraction is less than another one. -/
def overB (a b : Int × Int) : Bool := decide (a.1 * b.2 < b.1 * a.2) && true
end Go.Proofs.YtohlillcaadidaaGreat

/- The plain laws of the wind, part 4. -/
namespace Go.Proofs.YtohlillcaadidaaGreat
open Go Go.Eng
/-- One range and rules do no worse than others. -/
structure SimR (r r' : Rg) (p p' : Ru) (e : Nat) : Prop where
  drifts : r'.drifts.length = r.drifts.length
  next : r'.next = r.next
  total : r'.total = r.total
  gsum : r'.group.sum = r.group.sum
  clicks : r.clicks ≤ r'.clicks
  miss : ∀ st c, st < r.drifts.length → missS r' (r'.drifts.getD st 0) c ≤ missS r (r.drifts.getD st 0) c
  pm : 0 ≤ p'.miss ∧ p'.miss ≤ p.miss
  pc : p'.click ≤ p.click
  pw : p'.wait ≤ p.wait
  waits : p.waits + e ≤ p'.waits
end Go.Proofs.YtohlillcaadidaaGreat

/- The plain laws of the wind, part 5. -/
namespace Go.Proofs.YtohlillcaadidaaGreat
open Go Go.Eng
/-! The values. -/
abbrev valsL (r : Rg) (p : Ru) : List Int := (plcL r p).map (valP r p)
def costP (r : Rg) (p : Ru) : Int := sumR (fun s => r.first.getD s 0 * valV r p 0 p.waits.toNat s 0) r.drifts.length
def denP (r : Rg) (p : Ru) : Int := partsV r 0 p.waits.toNat * r.total
def planV (r : Rg) (p : Ru) : Int × Int := ratioV (costP r p) (denP r p)
end Go.Proofs.YtohlillcaadidaaGreat

/- The plain laws of the wind, part 6. -/
namespace Go.Proofs.YtohlillcaadidaaGreat
open Go Go.Eng
/-! Values that hold prove no more. -/
/-! One click for all shots. -/
/-- The misses that follow, if all shots are shot with a click; m shots are left. -/
def tailM (r : Rg) (c : Int) : Nat → Nat → Int
  | 0, _ => 0
  | m + 1, st => missS r (r.drifts.getD st 0) c * r.total ^ m + folS r (tailM r c m) st
/-- What it costs to shoot all with one click, as a fraction. -/
def clickV (r : Rg) (p : Ru) (c : Int) : Int × Int := (p.click * max c (-c) * (expV r c).2 + p.miss * (expV r c).1, (expV r c).2)
end Go.Proofs.YtohlillcaadidaaGreat

/- The plain laws of the wind, part 7. -/
namespace Go.Proofs.YtohlillcaadidaaGreat
open Go Go.Eng
/-! The worst case. -/
theorem worstO_in (r : Rg) (c : Int) (s : Int × Int) (h : s.1 ≤ s.2) : s.1 ≤ worstO r c s ∧ worstO r c s ≤ s.2 := by
  have h2 := wP_bd r c s.1 (s.2 - s.1 + 1).toNat
  unfold worstO
  omega
theorem worstL_getD (r : Rg) (ws : List (Int × Int)) (c : Int) (i : Nat) (hi : i < ws.length) : (worstL r ws c).getD i 0 = worstO r c (ws.getD i (0, 0)) := by
  simp [worstL, List.getD_eq_getElem?_getD, hi]
theorem ws_mem {ws : List (Int × Int)} {i : Nat} (hi : i < ws.length) : ws.getD i (0, 0) ∈ ws := by
  rw [List.getD_eq_getElem?_getD, List.getElem?_eq_getElem hi, Option.getD_some]
  exact List.getElem_mem hi
abbrev facN (r : Rg) (l : List Int) (c : Int) : Int := facS r l c 5
theorem facedV_5 (r : Rg) {l : List Int} (hl : l.length = 5) (c : Int) : facedV r l c = ratioV (facN r l c) r.group.sum := by
  unfold facedV
  rw [hl]
theorem facN_bd {r : Rg} (hr : r.Right) (l : List Int) (c : Int) : 0 ≤ facN r l c ∧ facN r l c ≤ 5 * r.group.sum := by
  have h1 := sumR_mono (fun _ => 0) (fun i => missS r (l.getD i 0) c) 5 (fun i _ => (missS_bd r hr _ _).1)
  have h2 := sumR_mono (fun i => missS r (l.getD i 0) c) (fun _ => r.group.sum) 5 (fun i _ => (missS_bd r hr _ _).2)
  rw [sumR_zero _ _ (fun _ _ => rfl)] at h1
  refine ⟨h1, Int.le_trans h2 ?_⟩
  simp only [sumR]
  omega
theorem fac_less {r : Rg} (hr : r.Right) (l l' : List Int) (c c' : Int) : lessB (ratioV (facN r l c) r.group.sum) (ratioV (facN r l' c') r.group.sum) = (decide (facN r l c < facN r l' c') && true) :=
  less_ratio (by have := hr.gsum; omega) (facN_bd hr l c).1 (facN_bd hr l' c').1
theorem robQ_eq (r : Rg) {ws : List (Int × Int)} (hw : WindOk ws) (c : Int) : robQ r ws c = ratioV (facN r (worstL r ws c) c) r.group.sum :=
  facedV_5 r (by rw [worstL_length, hw.len]) c
/-- The robust click. -/
theorem rob_of {r : Rg} (hr : r.Right) {ws : List (Int × Int)} (hw : WindOk ws) : ∃ m, robV r ws = (m, robQ r ws m, 0) ∧ (-r.clicks ≤ m ∧ m ≤ r.clicks) ∧ (∀ c, -r.clicks ≤ c ∧ c ≤ r.clicks → facN r (worstL r ws m) m ≤ facN r (worstL r ws c) c) ∧
    ∀ c, -r.clicks ≤ c ∧ c ≤ r.clicks → facN r (worstL r ws c) c = facN r (worstL r ws m) m → ¬ (c * c < m * m ∨ c = -m ∧ c < m) := by
  obtain ⟨m, h1, h2, h3, h4⟩ := best_law (robQ r ws) (fun c => facN r (worstL r ws c) c) r.clicks hr.clicks.1 (fun a b _ _ => by rw [robQ_eq r hw, robQ_eq r hw]; exact fac_less hr _ _ _ _)
  refine ⟨m, ?_, h2, h3, h4⟩
  have hb : blownV r ws = 0 := (blown_iff r ws).2 ⟨(right_check r).2 hr, hw⟩
  unfold robV
  rw [hb, h1]
  rfl
/-- What witnesses show: the least of them. -/
theorem shows_of {r : Rg} (hr : r.Right) {ws : List (Int × Int)} (hw : WindOk ws) (wl : List (List Int)) (hlen : (wl.length : Int) = 2 * r.clicks + 1) (h5 : ∀ l ∈ wl, l.length = 5) (hin : ∀ l ∈ wl, ∀ i, i < 5 → (ws.getD i (0, 0)).1 ≤ l.getD i 0 ∧ l.getD i 0 ≤ (ws.getD i (0, 0)).2) :
    ∃ m, showsV r ws wl = (ratioV (facN r (wl.getD (m + r.clicks).toNat []) m) r.group.sum, 0) ∧ (-r.clicks ≤ m ∧ m ≤ r.clicks) ∧ ∀ c, -r.clicks ≤ c ∧ c ≤ r.clicks → facN r (wl.getD (m + r.clicks).toNat []) m ≤ facN r (wl.getD (c + r.clicks).toNat []) c := by
  have hmem : ∀ c, -r.clicks ≤ c ∧ c ≤ r.clicks → wl.getD (c + r.clicks).toNat [] ∈ wl := fun c hc => by
    have : (c + r.clicks).toNat < wl.length := by omega
    rw [List.getD_eq_getElem?_getD, List.getElem?_eq_getElem this, Option.getD_some]
    exact List.getElem_mem this
  have hq : ∀ c, -r.clicks ≤ c ∧ c ≤ r.clicks → shQ r wl c = ratioV (facN r (wl.getD (c + r.clicks).toNat []) c) r.group.sum := fun c hc => facedV_5 r (h5 _ (hmem c hc)) c
  obtain ⟨m, h1, h2, h3, _⟩ := best_law (shQ r wl) (fun c => facN r (wl.getD (c + r.clicks).toNat []) c) r.clicks hr.clicks.1 (fun a b ha hb => by rw [hq a ha, hq b hb]; exact fac_less hr _ _ _ _)
  refine ⟨m, ?_, h2, h3⟩
  have hb : blownV r ws = 0 := (blown_iff r ws).2 ⟨(right_check r).2 hr, hw⟩
  have e1 : wl.all shB = true := List.all_eq_true.2 fun l hl => by simp [shB, h5 l hl]
  have e2 : wl.all (witB ws) = true := List.all_eq_true.2 fun l hl => witB_of fun i hi => inB_iff.2 (hin l hl i (by rw [h5 l hl] at hi; exact hi))
  unfold showsV
  rw [hb, e1, e2, h1, ← hq m h2]
  simp [hlen]
/-! What is more. -/
end Go.Proofs.YtohlillcaadidaaGreat

/- The plain laws of the wind, part 8. -/
namespace Go.Proofs.YtohlillcaadidaaGreat
open Go Go.Eng
/-! Left and right. -/
structure Turned (r r' : Rg) : Prop where
  n : r'.drifts.length = r.drifts.length
  next : r'.next = r.next
  first : r'.first = r.first
  total : r'.total = r.total
  gsum : r'.group.sum = r.group.sum
  clicks : r'.clicks = r.clicks
  miss : ∀ st c, st < r.drifts.length → missS r' (r'.drifts.getD st 0) (-c) = missS r (r.drifts.getD st 0) c
theorem Turned.symm {r r' : Rg} (h : Turned r r') : Turned r' r :=
  ⟨h.n.symm, h.next.symm, h.first.symm, h.total.symm, h.gsum.symm, h.clicks.symm, fun st c hs => by
    have := h.miss st (-c) (by rw [← h.n]; exact hs)
    rw [Int.neg_neg] at this
    exact this.symm⟩
def turnR (r : Rg) : Rg := { r with group := r.group.reverse, drifts := r.drifts.map (fun d => d * -1) }
/-! Turned winds. -/
def turnW (ws : List (Int × Int)) : List (Int × Int) := ws.map fun s => (-s.2, -s.1)
/-! States numbered otherwise. -/
structure Named (r r' : Rg) (σ : Nat → Nat) : Prop where
  n : r'.drifts.length = r.drifts.length
  nn : r'.next.length = r.next.length
  total : r'.total = r.total
  gsum : r'.group = r.group
  clicks : r'.clicks = r.clicks
  radius : r'.radius = r.radius
  unit : r'.unit = r.unit
  perm : ((List.range r.drifts.length).map σ).Perm (List.range r.drifts.length)
  drift : ∀ s, s < r.drifts.length → r'.drifts.getD (σ s) 0 = r.drifts.getD s 0
  first : ∀ s, s < r.drifts.length → r'.first.getD (σ s) 0 = r.first.getD s 0
  next : ∀ s t, s < r.drifts.length → t < r.drifts.length → (r'.next.getD (σ s) []).getD (σ t) 0 = (r.next.getD s []).getD t 0
theorem Named.lt {r r' : Rg} {σ : Nat → Nat} (h : Named r r' σ) {s : Nat} (hs : s < r.drifts.length) : σ s < r.drifts.length :=
  List.mem_range.1 (h.perm.mem_iff.1 (List.mem_map.2 ⟨s, List.mem_range.2 hs, rfl⟩))
end Go.Proofs.YtohlillcaadidaaGreat

/- The plain laws of the wind, part 9. -/
namespace Go.Proofs.YtohlillcaadidaaGreat
open Go Go.Eng
/-! A wind that never changes. -/
structure OneSt (r : Rg) : Prop where
  right : r.Right
  one : r.drifts.length = 1
abbrev mis0 (r : Rg) (c : Int) : Int := missS r (r.drifts.getD 0 0) c
/-- The winds of that drift. -/
abbrev calmW (r : Rg) : List (Int × Int) := List.replicate 5 (r.drifts.getD 0 0, r.drifts.getD 0 0)
end Go.Proofs.YtohlillcaadidaaGreat

/- The plain laws of the wind, part 10: plays. -/
namespace Go.Proofs.YtohlillcaadidaaGreat
open Go Go.Eng
/-! What comes of following the plan, over all courses of the wind. -/
/-- What it costs from a situation on, if all shots are that far off. -/
def dCost (r : Rg) (p : Ru) (far : Int) : Nat → Nat → Int → List Nat → Int
  | _, _, _, [] => 0
  | k, w, cl, st :: l =>
    if k = 5 then 0 else if (choV r p k w st cl).1.1 = true then p.wait + dCost r p far k (w - 1) cl l
    else p.click * max ((choV r p k w st cl).1.2 - cl) (cl - (choV r p k w st cl).1.2) + (if hitB r (r.drifts.getD st 0 + far + (choV r p k w st cl).1.2 * r.unit) then 0 else p.miss) + dCost r p far (k + 1) w (choV r p k w st cl).1.2 l
abbrev offL (far : Int) : List Int := List.replicate 5 far
/-- What is known on the way. -/
structure FIn (r : Rg) (p : Ru) (k : Nat) (x : FS) : Prop where
  ok : FOk r p k x
  at_ : x.shot = 5 ∨ (x.shot : Int) + (p.waits - x.wt) = k
  steps : x.steps = x.shot + (p.waits - x.wt)
  misses : x.misses ≤ x.shot
  cost : p.miss * x.misses ≤ x.cost
/-- Sums over courses that go on from a state. -/
def cSum (r : Rg) : Nat → Nat → (List Nat → Int) → Int
  | 0, _, f => f []
  | n + 1, st, f => folS r (fun t => cSum r n t (fun l => f (t :: l))) st
/-- How far an offset is off. -/
abbrev farO (r : Rg) (o : Nat) : Int := (o : Int) - (r.group.length : Int) / 2
abbrev wtO (r : Rg) (o : Nat) : Int := r.group.getD o 0
end Go.Proofs.YtohlillcaadidaaGreat

/- The plain laws of the wind, part 11: all courses. -/
namespace Go.Proofs.YtohlillcaadidaaGreat
open Go Go.Eng
/-! Courses of the wind, as bits. -/
def bitsL : Nat → Nat → List Nat
  | 0, _ => []
  | L + 1, i => (i % 2) :: bitsL L (i / 2)
def chN (r : Rg) : Nat → List Nat → Int
  | _, [] => 1
  | st, t :: l => (r.next.getD st []).getD t 0 * chN r t l
def chF (r : Rg) : List Nat → Int
  | [] => 1
  | s :: l => r.first.getD s 0 * chN r s l
/-- What a course adds, with the first m offsets. -/
def corS (r : Rg) (p : Ru) (i m : Nat) : Int := sumR (fun o => chF r (bitsL (5 + p.waits.toNat) i) * wtO r o * dCost r p (farO r o) 0 p.waits.toNat 0 (bitsL (5 + p.waits.toNat) i)) m
def allS (r : Rg) (p : Ru) (i : Nat) : Int := sumR (fun j => corS r p j r.group.length) i
end Go.Proofs.YtohlillcaadidaaGreat

/- The plain laws of the reference: courses of the wind by their numbers. -/
namespace Go.Proofs.YtohlillcaadidaaGreat
open Go Go.Eng

/-- A digit of a course's number: the state at that shot. -/
def dig (n c i : Nat) : Nat := c / n ^ i % n
/-- The weight of a course, up to a shot. -/
def crW (r : Rg) (c : Nat) : Nat → Int
  | 0 => 1
  | 1 => r.first.getD (dig r.drifts.length c 0) 0
  | k + 2 => crW r c (k + 1) * (r.next.getD (dig r.drifts.length c k) []).getD (dig r.drifts.length c (k + 1)) 0
/-- A sum over all courses of so many shots. -/
def crS (r : Rg) (k : Nat) (φ : Nat → Int) : Int := sumR (fun c => crW r c (k + 1) * φ c) (r.drifts.length ^ (k + 1))
/-- The states at a shot, each with its weight. -/
def wS (r : Rg) (k : Nat) (g : Nat → Int) : Int := sumR (fun s => (wts r k).getD s 0 * g s) r.drifts.length
end Go.Proofs.YtohlillcaadidaaGreat

/- Walks of the reference: courses of the wind. -/
namespace Go.Proofs.YtohlillcaadidaaGreat
open Go Go.Eng

/-- The states of a course, as far as they are computed. -/
def digP (n c k : Nat) : List Int := (List.range 5).map fun i => if i < k then ((dig n c i : Nat) : Int) else 0
end Go.Proofs.YtohlillcaadidaaGreat

/- Walks of the reference: misses to be expected. -/
namespace Go.Proofs.YtohlillcaadidaaGreat
open Go Go.Eng

/-- The misses of a course, at the first shots. -/
def crM (r : Rg) (click : Int) (c i : Nat) : Int := sumR (fun i => missS r (r.drifts.getD (dig r.drifts.length c i) 0) click) i
/-- The misses of the first courses. -/
def crE (r : Rg) (click : Int) (c : Nat) : Int := sumR (fun c => crW r c 5 * crM r click c 5) c
end Go.Proofs.YtohlillcaadidaaGreat

/- The engine, part B14: a subtree of orders walked once for all the ways that lead there. -/
namespace Go.Eng
open Go Go.RowKit

section
variable {P : Program} {ro : Cx} {n : Nat} {F : Fin} {w0 : World} {M : Nat → Prop} {k : List It} {ops : Array Oper} {e : Env} {H Hq : List Ck}
theorem qt_let {σ : Type} (t : OT) {t0 : OT} (env : σ → Env) (pc : σ → List Ck) (main : ∀ s, QT P ro n F w0 M k ops Hq t (env s) (pc s))
    (use : (∀ s e' H', Sub (env s) e' → Sp H' (pc s) → QT P ro n F w0 M k ops Hq t e' H') → QT P ro n F w0 M k ops Hq t0 e H) : QT P ro n F w0 M k ops Hq t0 e H :=
  use (fun s _ _ he hH => ⟨fun w hs a hf hd => (main s).h w (hs.sp (Sp.app hH Hq)) a (hf.sub he) hd⟩)
end
end Go.Eng

/- The engine, part B15: comparisons that are decided at once. -/
namespace Go.Eng
open Go Go.RowKit

section
variable {P : Program} {T : Tab} {ro : Cx} {n : Nat} {F : Fin} {w0 : World} {M : Nat → Prop} {k : List It} {ops : Array Oper} {rest : List Oper} {e : Env} {H Hq : List Ck}
theorem bin_lssF {a b : Int} (h : ¬ a < b) : binV .lss .i64 a b = some (.bool false) := by simp [binV]; omega
theorem ql_lssF (hT : T.Ok P) {d : Nat} {t t' : Nat} {x y : Operand} {a b : Int} {ty : TypeId} {pos : String} {af : Array Edge} (hx : opv e x = some (.int .i64 a)) (hy : opv e y = some (.int .i64 b)) (hd : Nat.blt d n = true) (hp : ¬ a < b)
    (h : QL P ro n F w0 M k ops rest ((d, .bool false) :: e) H) : QL P ro n F w0 M k ops (⟨some d, .binOp .lss t x y t', ty, pos, af, none⟩ :: rest) e H := ql_pure hT ((evp_arith hx hy).trans (bin_lssF hp)) hd h
theorem bin_gtrF {a b : Int} (h : ¬ b < a) : binV .gtr .i64 a b = some (.bool false) := by simp [binV]; omega
theorem ql_gtrF (hT : T.Ok P) {d : Nat} {t t' : Nat} {x y : Operand} {a b : Int} {ty : TypeId} {pos : String} {af : Array Edge} (hx : opv e x = some (.int .i64 a)) (hy : opv e y = some (.int .i64 b)) (hd : Nat.blt d n = true) (hp : ¬ b < a)
    (h : QL P ro n F w0 M k ops rest ((d, .bool false) :: e) H) : QL P ro n F w0 M k ops (⟨some d, .binOp .gtr t x y t', ty, pos, af, none⟩ :: rest) e H := ql_pure hT ((evp_arith hx hy).trans (bin_gtrF hp)) hd h
theorem bin_eqlT {a b : Int} (h : a = b) : binV .eql .i64 a b = some (.bool true) := by simp [binV]; omega
theorem ql_eqlT (hT : T.Ok P) {d : Nat} {t t' : Nat} {x y : Operand} {a b : Int} {ty : TypeId} {pos : String} {af : Array Edge} (hx : opv e x = some (.int .i64 a)) (hy : opv e y = some (.int .i64 b)) (hd : Nat.blt d n = true) (hp : a = b)
    (h : QL P ro n F w0 M k ops rest ((d, .bool true) :: e) H) : QL P ro n F w0 M k ops (⟨some d, .binOp .eql t x y t', ty, pos, af, none⟩ :: rest) e H := ql_pure hT ((evp_arith hx hy).trans (bin_eqlT hp)) hd h
theorem bin_neqT {a b : Int} (h : a ≠ b) : binV .neq .i64 a b = some (.bool true) := by simp [binV]; omega
theorem ql_neqT (hT : T.Ok P) {d : Nat} {t t' : Nat} {x y : Operand} {a b : Int} {ty : TypeId} {pos : String} {af : Array Edge} (hx : opv e x = some (.int .i64 a)) (hy : opv e y = some (.int .i64 b)) (hd : Nat.blt d n = true) (hp : a ≠ b)
    (h : QL P ro n F w0 M k ops rest ((d, .bool true) :: e) H) : QL P ro n F w0 M k ops (⟨some d, .binOp .neq t x y t', ty, pos, af, none⟩ :: rest) e H := ql_pure hT ((evp_arith hx hy).trans (bin_neqT hp)) hd h
theorem bin_neqF {a b : Int} (h : a = b) : binV .neq .i64 a b = some (.bool false) := by simp [binV]; omega
theorem ql_neqF (hT : T.Ok P) {d : Nat} {t t' : Nat} {x y : Operand} {a b : Int} {ty : TypeId} {pos : String} {af : Array Edge} (hx : opv e x = some (.int .i64 a)) (hy : opv e y = some (.int .i64 b)) (hd : Nat.blt d n = true) (hp : a = b)
    (h : QL P ro n F w0 M k ops rest ((d, .bool false) :: e) H) : QL P ro n F w0 M k ops (⟨some d, .binOp .neq t x y t', ty, pos, af, none⟩ :: rest) e H := ql_pure hT ((evp_arith hx hy).trans (bin_neqF hp)) hd h
theorem qf_neqF (hT : T.Ok P) {d : Nat} {t t' : Nat} {x y : Operand} {a b : Int} {ty : TypeId} {pos : String} {af : Array Edge} (hx : opv e x = some (.int .i64 a)) (hy : opv e y = some (.int .i64 b)) (hd : Nat.blt d n = true) (hp : a = b)
    (h : QF P ro n F w0 M k ops Hq rest ((d, .bool false) :: e) H) : QF P ro n F w0 M k ops Hq (⟨some d, .binOp .neq t x y t', ty, pos, af, none⟩ :: rest) e H := qf_pure hT ((evp_arith hx hy).trans (bin_neqF hp)) rfl hd h
end
end Go.Eng

/- Walks: the law's fractions. -/
namespace Go.Proofs.YtohlillcaadidaaGreat
open Go Go.Eng

end Go.Proofs.YtohlillcaadidaaGreat

/- Walks: lists of spans of our own; ranges of our own; rules and winds that are dealt; what impacts hit. -/
namespace Go.Proofs.YtohlillcaadidaaGreat
open Go Go.Eng

def spC (l : List (Int × Int)) : List Value := l.flatMap fun x => [.int .i64 x.1, .int .i64 x.2]
theorem cells_sp (l : List (Int × Int)) : cellsOf (l.map rtV) = spC l := by
  induction l with
  | nil => rfl
  | cons x l ih => simp only [List.map_cons, cellsOf, spC, List.flatMap_cons] at ih ⊢; rw [ih]; rfl
theorem Sat.rdSp {w0 w : World} {M : Nat → Prop} {H : List Ck} {v : Value} {l : List (Int × Int)} {t k : Nat} (h : Sat w0 M H w) (hc : Ck.ow v t 2 k (spC l) ∈ H) (hk : k = l.length) : RdS w 0 w.heap.size v l := by
  refine RdE.ofOwn (base := 0) (t := t) ?_ (fun e he => by obtain ⟨x, _, rfl⟩ := List.mem_map.1 he; rfl)
  rw [cells_sp, List.length_map, ← hk]
  exact h.all _ hc
theorem slSP : SlT Tryz.prog 26 32 2 16 (.agg #[.int .i64 0, .int .i64 0]) := ⟨by kernel_rfl, by kernel_rfl, by kernel_rfl, by decide⟩
theorem Blk.rdSp {w : World} {b : Nat} {x y : Int} {t : TypeId} (h : Blk w b [.int .i64 x, .int .i64 y] t) : Rd w b (b + 1) (.slice (some ⟨b, 0, none⟩) 1 1) 2 1 [.int .i64 x, .int .i64 y] :=
  ⟨rfl, .inr ⟨b, 0, 1, rfl, fun _ => ⟨Nat.le_refl _, Nat.lt_succ_self _, h.lt⟩, fun j _ => by rw [Blk.cell h]; simp⟩⟩

/-- The form of a range's cells. -/
def FormR (cs : List Value) (r : Rg) : Prop := ∃ ag cg ad cd af cf an cn, cs = [.int .i64 r.radius, .int .i64 r.unit, .int .i64 r.clicks, .int .i64 r.total, .slice ag r.group.length cg, .slice ad r.drifts.length cd, .slice af r.first.length cf, .slice an r.next.length cn]
theorem OwnR.form {L : List Ck} {cs : List Value} {r : Rg} {w0 w : World} {M : Nat → Prop} {H : List Ck} (h : OwnR L cs r) (hs : Sat w0 M H w) (hm : un L ∈ H) : FormR cs r := by
  obtain ⟨lo, hi, ag, cg, ad, cd, af, cf, an, cn, h1, _⟩ := h.at hs hm
  exact ⟨ag, cg, ad, cd, af, cf, an, cn, h1⟩
/-- Winds that were dealt. -/
def BlownW (ws : List (Int × Int)) : Prop := ws.length = 5 ∧ ∀ s ∈ ws, -15 ≤ s.1 ∧ s.1 ≤ 10 ∧ s.1 ≤ s.2 ∧ s.2 ≤ s.1 + 8
theorem BlownW.ok {ws : List (Int × Int)} (h : BlownW ws) : WindOk ws := ⟨h.1, fun s hs => by have := h.2 s hs; omega⟩
/-! What impacts hit. -/
def hitN (r : Rg) (l : List Int) (c : Int) (n : Nat) : Int := sumR (fun i => if hitB r (l.getD i 0 + c * r.unit) then 1 else 0) n
end Go.Proofs.YtohlillcaadidaaGreat

/- Walks: what right ranges answer; planned. -/
namespace Go.Proofs.YtohlillcaadidaaGreat
open Go Go.Eng

/-- The drifts of a range. -/
theorem RgC.dr {w : World} {r : Rg} {ag ad af an : Option Addr} {cg cd cf cn : Nat} (h : RgC w [.int .i64 r.radius, .int .i64 r.unit, .int .i64 r.clicks, .int .i64 r.total, .slice ag r.group.length cg, .slice ad r.drifts.length cd, .slice af r.first.length cf, .slice an r.next.length cn] r) :
    ∃ lo hi, RdI w lo hi (.slice ad r.drifts.length cd) r.drifts := by
  obtain ⟨lo, hi, ag', cg', ad', cd', af', cf', an', cn', he, _, h2, _⟩ := h
  simp only [List.cons.injEq, Value.slice.injEq] at he
  obtain ⟨_, _, _, _, _, ⟨rfl, _, rfl⟩, _⟩ := he
  exact ⟨lo, hi, h2⟩
end Go.Proofs.YtohlillcaadidaaGreat

/- Walks: Chances. -/
namespace Go.Proofs.YtohlillcaadidaaGreat
open Go Go.Eng

/-! Chances -/
theorem slR : SlT Tryz.prog 100 36 2 16 (.agg #[.int .i64 0, .int .i64 0]) := ⟨by kernel_rfl, by kernel_rfl, by kernel_rfl, by decide⟩
def rowX (r : Rg) (k : Nat) : List (Int × Int) := (List.range r.drifts.length).map (chX r k)
def chK (r : Rg) (vs : List Value) : List Ck := vs.zipIdx.map fun p => .ow p.1 36 2 r.drifts.length (spC (rowX r p.2))
end Go.Proofs.YtohlillcaadidaaGreat

/- Walks of the reference: chances, hits, the best click. -/
namespace Go.Proofs.YtohlillcaadidaaGreat
open Go Go.Eng

theorem beats_ca (w : World) (a b : Int × Int) (c d : Int) (ha : Fine a) (hb : Fine b) (hc : -1000 ≤ c ∧ c ≤ 1000) (hd : -1000 ≤ d ∧ d ≤ 1000) :
    Ca Tryz.prog 104 [rtV a, .int .i64 c, rtV b, .int .i64 d] w fun v w' => v = .bool (beatsB a c b d) ∧ Chg [] w w' := by
  obtain ⟨a1, a2⟩ := a
  obtain ⟨b1, b2⟩ := b
  obtain ⟨h1, h2, h3, h4⟩ := ha
  obtain ⟨g1, g2, g3, g4⟩ := hb
  simp only at h1 h2 h3 h4 g1 g2 g3 g4
  have m1 := mul_bd0 (A := 1000000000) (B := 1000000000) ⟨h1, h2⟩ (show 0 ≤ b2 ∧ b2 ≤ 1000000000 by omega)
  have m2 := mul_bd0 (A := 1000000000) (B := 1000000000) ⟨g1, g2⟩ (show 0 ≤ a2 ∧ a2 ≤ 1000000000 by omega)
  have m3 := mul_bd hc hc
  have m4 := mul_bd hd hd
  refine q_of (Sat.nil w M0) Tryz.func104 rfl (by simp [Tryz.ntmps104]) ?_
  unfold rtV
  dsimp only
  (refine q_seq ?_; refine q_region ?_)
  refine ql_box rfl rfl (fun p4 => ?_)
  refine ql_box rfl rfl (fun p6 => ?_)
  (refine ql_pure tabOk rfl rfl ?_; refine q_nil ?_; (iterate 2 refine q_seq ?_); refine q_region ?_; refine ql_pure tabOk rfl rfl ?_; refine ql_loadB tabOk rfl rfl rfl (by repeat first | exact .head _ | refine .tail _ ?_) (by rfl) ?_; refine ql_pure tabOk rfl rfl ?_; refine ql_loadB tabOk rfl rfl rfl (by repeat first | exact .head _ | refine .tail _ ?_) (by rfl) ?_; refine ql_ar tabOk rfl rfl rfl rfl (by omega) (by omega) ?_; refine ql_pure tabOk rfl rfl ?_; refine ql_loadB tabOk rfl rfl rfl (by repeat first | exact .head _ | refine .tail _ ?_) (by rfl) ?_; refine ql_pure tabOk rfl rfl ?_; refine ql_loadB tabOk rfl rfl rfl (by repeat first | exact .head _ | refine .tail _ ?_) (by rfl) ?_; refine ql_ar tabOk rfl rfl rfl rfl (by omega) (by omega) ?_; refine ql_pure tabOk rfl rfl ?_; refine q_nil ?_)
  refine q_ifn rfl (fun hc => ?_) (fun hc => ?_)
  · (refine q_seq ?_; refine q_region ?_; refine ql_pure tabOk rfl rfl ?_; refine ql_loadB tabOk rfl rfl rfl (by repeat first | exact .head _ | refine .tail _ ?_) (by rfl) ?_; refine ql_pure tabOk rfl rfl ?_; refine ql_loadB tabOk rfl rfl rfl (by repeat first | exact .head _ | refine .tail _ ?_) (by rfl) ?_; refine ql_ar tabOk rfl rfl rfl rfl (by omega) (by omega) ?_; refine ql_pure tabOk rfl rfl ?_; refine ql_loadB tabOk rfl rfl rfl (by repeat first | exact .head _ | refine .tail _ ?_) (by rfl) ?_; refine ql_pure tabOk rfl rfl ?_; refine ql_loadB tabOk rfl rfl rfl (by repeat first | exact .head _ | refine .tail _ ?_) (by rfl) ?_; refine ql_ar tabOk rfl rfl rfl rfl (by omega) (by omega) ?_; (iterate 2 refine ql_pure tabOk rfl rfl ?_); refine q_nil ?_; refine q_ret ?_)
    refine q_fin tabOk rfl (by repeat (first | exact RVs.nil | apply RVs.tmp rfl | apply RVs.cellA rfl rfl (by repeat first | exact .head _ | refine .tail _ ?_) (by rfl) | apply RVs.cell1 rfl rfl (by repeat first | exact .head _ | refine .tail _ ?_))) fun w hs => ?_
    exact ⟨by rw [beatsB, if_neg hc]; simp only [Bool.and_true]; rfl, hs.chg0⟩
  have e1 : a1 * b2 = b1 * a2 := by omega
  (refine q_skip ?_; (iterate 2 refine q_seq ?_); refine q_region ?_; (iterate 2 refine ql_pure tabOk rfl rfl ?_); refine ql_ar tabOk rfl rfl rfl rfl (by omega) (by omega) ?_; (iterate 2 refine ql_pure tabOk rfl rfl ?_); refine ql_ar tabOk rfl rfl rfl rfl (by omega) (by omega) ?_; refine ql_pure tabOk rfl rfl ?_; refine q_nil ?_)
  refine q_ifn rfl (fun hc => ?_) (fun hc => ?_)
  · (refine q_seq ?_; refine q_region ?_; (iterate 2 refine ql_pure tabOk rfl rfl ?_); refine ql_ar tabOk rfl rfl rfl rfl (by omega) (by omega) ?_; (iterate 2 refine ql_pure tabOk rfl rfl ?_); refine ql_ar tabOk rfl rfl rfl rfl (by omega) (by omega) ?_; (iterate 2 refine ql_pure tabOk rfl rfl ?_); refine q_nil ?_; refine q_ret ?_)
    refine q_fin tabOk rfl (by repeat (first | exact RVs.nil | apply RVs.tmp rfl | apply RVs.cellA rfl rfl (by repeat first | exact .head _ | refine .tail _ ?_) (by rfl) | apply RVs.cell1 rfl rfl (by repeat first | exact .head _ | refine .tail _ ?_))) fun w hs => ?_
    exact ⟨by rw [beatsB, if_pos e1, if_neg hc]; simp only [Bool.and_true]; rfl, hs.chg0⟩
  have e2 : c * c = d * d := by omega
  (refine q_skip ?_; refine q_seq ?_; refine q_region ?_; (iterate 4 refine ql_pure tabOk rfl rfl ?_); refine q_nil ?_; refine q_ret ?_)
  refine q_fin tabOk rfl (by repeat (first | exact RVs.nil | apply RVs.tmp rfl | apply RVs.cellA rfl rfl (by repeat first | exact .head _ | refine .tail _ ?_) (by rfl) | apply RVs.cell1 rfl rfl (by repeat first | exact .head _ | refine .tail _ ?_))) fun w hs => ?_
  exact ⟨by rw [beatsB, if_pos e1, if_pos e2]; simp only [Bool.and_true]; rfl, hs.chg0⟩
end Go.Proofs.YtohlillcaadidaaGreat

/- Walks of the reference: the best of all clicks; chances. -/
namespace Go.Proofs.YtohlillcaadidaaGreat
open Go Go.Eng

theorem pick_ca (w : World) (l0 h1 : Nat) (cs : List Value) (r : Rg) (v : Value) (l : List (Int × Int)) (h : RgC w cs r) (hC : 0 ≤ r.clicks ∧ r.clicks ≤ 6) (hl : RdS w l0 h1 v l) (hl1 : 1 ≤ l.length) (hl2 : l.length ≤ 100) (hfi : ∀ x ∈ l, Fine x) :
    Ca Tryz.prog 51 [.agg cs.toArray, v] w fun v w' => v = .tuple #[.int .i64 ((pickI r.clicks l (l.length - 1) : Int) - r.clicks), rtV (l.getD (pickI r.clicks l (l.length - 1)) (0, 1))] ∧ Chg [] w w' := by
  have h0 := h
  obtain ⟨lo, hi, ag, cg, ad, cd, af, cf, an, cn, rfl, hg, hdr, hf, hn⟩ := h
  obtain ⟨a, cap, rfl, hsl⟩ := RdS.outI hl
  obtain ⟨b, off, rfl⟩ := hsl (by omega)
  refine q_of (Sat.nil w M0) Tryz.func51 rfl (by simp [Tryz.ntmps51]) ?_
  (refine q_seq ?_; refine q_region ?_)
  refine ql_box rfl rfl (fun b2 => ?_)
  (refine ql_pure tabOk rfl rfl ?_)
  refine ql_alloc zero36 rfl (fun b5 => ?_)
  (refine q_nil ?_; refine q_seq ?_; refine q_region ?_; refine ql_pure tabOk rfl rfl ?_; refine q_nil ?_; (iterate 2 refine q_seq ?_); refine q_region ?_; refine ql_pure tabOk rfl rfl ?_; refine q_nil ?_; refine q_block ?_)
  refine q_loop (σ := Nat) (fun j => j + 1 ≤ l.length) (fun j => l.length - j) (fun j => [(1, .slice (some ⟨b, off, none⟩) l.length cap), (2, .pointer (some ⟨b2, 0, none⟩)), (5, .pointer (some ⟨b5, 0, none⟩)), (6, .int .i64 (pickI r.clicks l j : Int)), (7, .int .i64 ((j + 1 : Nat) : Int))])
    (fun j => [.pt b5 [.int .i64 0, .int .i64 0] 36, .pt b2 [.int .i64 r.radius, .int .i64 r.unit, .int .i64 r.clicks, .int .i64 r.total, .slice ag r.group.length cg, .slice ad r.drifts.length cd, .slice af r.first.length cf, .slice an r.next.length cn] 34]) 0 (by omega) ⟨rfl, rfl, rfl, rfl, rfl, trivial⟩ (by repeat (first | exact Sp.nil | exact Sp.refl _ | refine Sp.cons (by repeat constructor) ?_)) ?_
  intro j hj K hK
  have hle := pickI_le r.clicks l j
  have hps : pickI r.clicks l (j + 1) = if beatsB (l.getD (j + 1) (0, 1)) (((j + 1 : Nat) : Int) - r.clicks) (l.getD (pickI r.clicks l j) (0, 1)) ((pickI r.clicks l j : Int) - r.clicks) then j + 1 else pickI r.clicks l j := rfl
  have hej : pickI r.clicks l (l.length - 1) = pickI r.clicks l (l.length - 1) := rfl
  obtain ⟨m, hm⟩ : ∃ m, m = pickI r.clicks l j := ⟨_, rfl⟩
  rw [← hm] at hle hps ⊢
  have hml : m < l.length := by omega
  have hgm : l.getD m (0, 1) = l[m] := by simp [List.getD_eq_getElem?_getD, hml]
  ((iterate 2 refine q_seq ?_); refine q_region ?_; (iterate 4 refine ql_pure tabOk rfl rfl ?_); refine q_nil ?_)
  refine q_if rfl (fun hc => ?_) (fun hc => ?_)
  · have hj2 : j + 1 < l.length := by omega
    clear hc
    have hgj : l.getD (j + 1) (0, 1) = l[j + 1] := by simp [List.getD_eq_getElem?_getD, hj2]
    have f1 := hfi _ (List.getElem_mem hj2)
    have f2 := hfi _ (List.getElem_mem hml)
    rw [hgm, hgj] at hps
    (refine q_skip ?_; refine q_seq ?_; refine q_block ?_; refine q_seq ?_)
    refine q_draw _ [] (Sp.refl _) (by kernel_rfl) (by kernel_rfl) ?_
    ((iterate 2 refine qf_pure tabOk rfl rfl rfl ?_))
    (refine qf_index tabOk rfl rfl rfl rfl rfl (by omega) (by omega) ?_; refine qf_loadA tabOk rfl rfl rfl rfl (fun w hs => RdS.at (RdE.keep hl hs.chg0) (j + 1) hj2) ?_)
    ((iterate 2 refine qf_pure tabOk rfl rfl rfl ?_); refine qf_loadB tabOk rfl rfl rfl (by repeat first | exact .head _ | refine .tail _ ?_) (by rfl) ?_; refine qf_ar tabOk rfl rfl rfl rfl (by omega) (by omega) ?_; (iterate 2 refine qf_pure tabOk rfl rfl rfl ?_))
    (refine qf_index tabOk rfl rfl rfl rfl rfl (by omega) (by omega) ?_; refine qf_loadA tabOk rfl rfl rfl rfl (fun w hs => RdS.at (RdE.keep hl hs.chg0) m hml) ?_)
    ((iterate 2 refine qf_pure tabOk rfl rfl rfl ?_); refine qf_loadB tabOk rfl rfl rfl (by repeat first | exact .head _ | refine .tail _ ?_) (by rfl) ?_; refine qf_ar tabOk rfl rfl rfl rfl (by omega) (by omega) ?_)
    refine qf_callv (val := .bool (beatsB l[j + 1] (((j + 1 : Nat) : Int) - r.clicks) l[m] ((m : Int) - r.clicks))) tabOk rfl rfl rfl rfl (fun w hs => ?_) ?_; exact beats_ca w l[j + 1] l[m] _ _ f1 f2 (by omega) (by omega)
    (refine qf_nil ?_)
    cases hb : beatsB l[j + 1] (((j + 1 : Nat) : Int) - r.clicks) l[m] ((m : Int) - r.clicks) with
    | true =>
      rw [hb, if_pos rfl] at hps
      (refine q_cond_true rfl ?_; refine q_region ?_; (iterate 2 refine ql_pure tabOk rfl rfl ?_); refine q_nil ?_; refine q_blk ?_; refine q_region ?_; refine ql_pure tabOk rfl rfl ?_; refine ql_ar tabOk rfl rfl rfl rfl (by omega) (by omega) ?_; refine ql_pure tabOk rfl rfl ?_; refine q_nil ?_)
      exact hK (j + 1) _ _ (by omega) (by omega) ⟨rfl, rfl, rfl, by rw [hps]; rfl, rfl, trivial⟩ (by repeat (first | exact Sp.nil | exact Sp.refl _ | refine Sp.cons (by repeat constructor) ?_))
    | false =>
      rw [hb, if_neg (by simp)] at hps
      (refine q_cond_false rfl ?_; refine q_skip ?_; refine q_blk ?_; refine q_region ?_; refine ql_pure tabOk rfl rfl ?_; refine ql_ar tabOk rfl rfl rfl rfl (by omega) (by omega) ?_; refine ql_pure tabOk rfl rfl ?_; refine q_nil ?_)
      exact hK (j + 1) _ _ (by omega) (by omega) ⟨rfl, rfl, rfl, by rw [hps]; rfl, rfl, trivial⟩ (by repeat (first | exact Sp.nil | exact Sp.refl _ | refine Sp.cons (by repeat constructor) ?_))
  · obtain rfl : j = l.length - 1 := by omega
    clear hc hK
    (refine q_exit _ rfl ?_; refine q_seq ?_)
    refine q_draw _ [.pt b5 _ _] (Sp.cons (by repeat constructor) (Sp.refl _)) (by kernel_rfl) (by kernel_rfl) ?_
    ((iterate 2 refine qf_pure tabOk rfl rfl rfl ?_); refine qf_loadB tabOk rfl rfl rfl (by repeat first | exact .head _ | refine .tail _ ?_) (by rfl) ?_; refine qf_ar tabOk rfl rfl rfl rfl (by omega) (by omega) ?_; (iterate 2 refine qf_pure tabOk rfl rfl rfl ?_))
    (refine qf_index tabOk rfl rfl rfl rfl rfl (by omega) (by omega) ?_; refine qf_loadA tabOk rfl rfl rfl rfl (fun w hs => RdS.at (RdE.keep hl hs.chg0) m hml) ?_)
    (refine qf_pure tabOk rfl rfl rfl ?_; refine qf_setA tabOk rfl rfl rfl rfl rfl (by repeat constructor) rfl ?_; refine qf_nil ?_; refine q_ret ?_)
    refine q_fin tabOk rfl (by repeat (first | exact RVs.nil | apply RVs.tmp rfl | apply RVs.cellA rfl rfl (by repeat first | exact .head _ | refine .tail _ ?_) (by rfl) | apply RVs.cell1 rfl rfl (by repeat first | exact .head _ | refine .tail _ ?_))) fun w hs => ?_
    exact ⟨by rw [← hm, hgm]; rfl, hs.chg0⟩

theorem allC_len (C : Int) : (allC C).length = (2 * C + 1).toNat := by simp [allC]
theorem allC_take (C : Int) (j : Nat) (hj : j < (2 * C + 1).toNat) : (allC C).take (j + 1) = (allC C).take j ++ [(j : Int) - C] := by
  rw [List.take_succ_eq_append_getElem (by rw [allC_len]; exact hj)]
  simp [allC]

end Go.Proofs.YtohlillcaadidaaGreat

/- Walks of the reference: chances of states. -/
namespace Go.Proofs.YtohlillcaadidaaGreat
open Go Go.Eng

/-- The sums of the chances: of courses below c, and of course c at its first i shots. -/
def sumC (r : Rg) (c s i : Nat) : Int := sumR (fun c => crW r c 5 * if dig r.drifts.length c i = s then 1 else 0) c
def sumP (r : Rg) (c i : Nat) : List Int := (List.range 25).map fun j => sumC r (if j / 5 < i then c + 1 else c) (j % 5) (j / 5)
end Go.Proofs.YtohlillcaadidaaGreat

/- Walks: copies of lists. -/
namespace Go.Proofs.YtohlillcaadidaaGreat
open Go Go.Eng

theorem cloneI_ca (w : World) (lo hi : Nat) (v : Value) (l : List Int) (h : RdI w lo hi v l) (hlen : l.length ≤ 1000000) :
    Ca Tryz.prog 37 [v] w fun r w' => ∃ x : Value, r = x ∧ Sat w M0 [.ow x 3 1 l.length (ints l)] w' := by
  refine q_of (Sat.nil w M0) Tryz.func37 rfl (by simp [Tryz.ntmps37]) ?_
  (refine q_seq ?_; refine q_region ?_; refine ql_pure tabOk rfl rfl ?_; refine q_nil ?_; refine q_seq ?_; refine q_region ?_; refine ql_pure tabOk rfl rfl ?_)
  refine ql_conv (H' := [.ow (.slice none 0 0) 3 1 0 []]) (fun w' hs => Sat.ownil hs _ _) ?_
  refine ql_append (q := l.length) (news := ints l) slI rfl rfl rfl (fun v' => by repeat constructor) (fun w' hs => ⟨lo, hi, RdI.row (RdE.keep h hs.chg0)⟩) (fun c hc => by obtain ⟨y, _, rfl⟩ := List.mem_map.1 hc; rfl) (by omega) (by omega) (fun x => ?_)
  (refine ql_pure tabOk rfl rfl ?_; refine q_nil ?_; refine q_ret ?_)
  refine q_fin tabOk rfl (by repeat (first | exact RVs.nil | apply RVs.tmp rfl | apply RVs.cellA rfl rfl (by repeat first | exact .head _ | refine .tail _ ?_) (by rfl) | apply RVs.cell1 rfl rfl (by repeat first | exact .head _ | refine .tail _ ?_))) fun w hs => ?_
  exact ⟨x, rfl, by simpa using hs⟩
theorem RdS.row {w : World} {lo hi : Nat} {v : Value} {l : List (Int × Int)} (h : RdS w lo hi v l) : Rd w lo hi v 2 l.length (spC l) := by
  have := h.rd
  rw [cells_sp, List.length_map] at this
  exact this
theorem cloneS_ca (w : World) (lo hi : Nat) (v : Value) (l : List (Int × Int)) (h : RdS w lo hi v l) (hlen : l.length ≤ 1000000) :
    Ca Tryz.prog 8 [v] w fun r w' => ∃ x : Value, r = x ∧ Sat w M0 [.ow x 32 2 l.length (spC l)] w' := by
  refine q_of (Sat.nil w M0) Tryz.func8 rfl (by simp [Tryz.ntmps8]) ?_
  (refine q_seq ?_; refine q_region ?_; refine ql_pure tabOk rfl rfl ?_; refine q_nil ?_; refine q_seq ?_; refine q_region ?_; refine ql_pure tabOk rfl rfl ?_)
  refine ql_conv (H' := [.ow (.slice none 0 0) 32 2 0 []]) (fun w' hs => Sat.ownil hs _ _) ?_
  refine ql_append (q := l.length) (news := spC l) slSP rfl rfl rfl (fun v' => by repeat constructor) (fun w' hs => ⟨lo, hi, RdS.row (RdE.keep h hs.chg0)⟩) (fun c hc => by obtain ⟨y, _, hy⟩ := List.mem_flatMap.1 hc; simp at hy; rcases hy with rfl | rfl <;> rfl) (by omega) (by omega) (fun x => ?_)
  (refine ql_pure tabOk rfl rfl ?_; refine q_nil ?_; refine q_ret ?_)
  refine q_fin tabOk rfl (by repeat (first | exact RVs.nil | apply RVs.tmp rfl | apply RVs.cellA rfl rfl (by repeat first | exact .head _ | refine .tail _ ?_) (by rfl) | apply RVs.cell1 rfl rfl (by repeat first | exact .head _ | refine .tail _ ?_))) fun w hs => ?_
  exact ⟨x, rfl, by simpa using hs⟩
end Go.Proofs.YtohlillcaadidaaGreat

/- Walks: copies of ranges. -/
namespace Go.Proofs.YtohlillcaadidaaGreat
open Go Go.Eng

/-- Rows of our own. -/
def rowsO (xs : List (Value × List Int)) : List Ck := xs.map fun p => .ow p.1 3 1 p.2.length (ints p.2)
theorem own_one' {w : World} {t sz m : Nat} {v : Value} {xs : List Value} (h : w.ownsRow 0 t sz v m xs) : oneV v = true := by
  obtain ⟨a, n, c, rfl⟩ := own_slice h
  rfl
theorem rowsO_rd {w : World} {v : Value} {xs : List (Value × List Int)} {n : Nat} (hu : (un (rowsO xs)).p w) (h1 : w.ownsRow 0 22 1 v n (xs.map (·.1))) : RdII w 0 w.heap.size v (xs.map (·.2)) := by
  have hn : n = (xs.map (·.1)).length := by have := h1.1; omega
  have hp : ∀ p ∈ xs, w.ownsRow 0 3 1 p.1 p.2.length (ints p.2) := fun p hp => hu.1 (.ow p.1 3 1 p.2.length (ints p.2)) (List.mem_map.2 ⟨p, hp, rfl⟩)
  refine ⟨xs.map (·.1), RdE.one (by rw [← hn]; exact own_rd h1) (fun e he => by obtain ⟨p, hm, rfl⟩ := List.mem_map.1 he; exact own_one' (hp p hm)), by simp, fun i hi hi' => ?_⟩
  have hi2 : i < xs.length := by simpa using hi
  simp only [List.getElem_map]
  exact own_rdI (hp _ (List.getElem_mem hi2)) rfl

set_option maxHeartbeats 1000000 in
theorem cloneAll_ca (w : World) (lo hi : Nat) (v : Value) (ll : List (List Int)) (h : RdII w lo hi v ll) (hlen : ll.length ≤ 1000) (hl : ∀ l ∈ ll, l.length ≤ 1000000) :
    Ca Tryz.prog 9 [v] w fun r w' => ∃ x : Value × List (Value × List Int), (r = x.1 ∧ x.2.map (·.2) = ll) ∧ Sat w M0 [un (rowsO x.2), .ow x.1 22 1 ll.length (x.2.map (·.1))] w' := by
  obtain ⟨a, cap, rfl, hs0⟩ := h.outI
  refine q_of (Sat.nil w M0) Tryz.func9 rfl (by simp [Tryz.ntmps9]) ?_
  (refine q_seq ?_; refine q_region ?_; refine ql_pure tabOk rfl rfl ?_; refine q_nil ?_; refine q_seq ?_; refine q_region ?_; refine ql_pure tabOk rfl rfl ?_; refine q_nil ?_; (iterate 2 refine q_seq ?_); refine q_region ?_; (iterate 3 refine ql_pure tabOk rfl rfl ?_); refine q_nil ?_; refine q_block ?_)
  refine q_conv (H' := [un (rowsO []), .ow (.slice none 0 0) 22 1 0 (([] : List (Value × List Int)).map (·.1))]) (fun w' hs => Sat.un_nil (Sat.ownil hs _ _)) ?_
  refine q_loop (σ := Value × List (Value × List Int)) (fun s => s.2.length ≤ ll.length ∧ s.2.map (·.2) = ll.take s.2.length) (fun s => ll.length - s.2.length) (fun s => [(3, s.1), (6, .slice a ll.length cap), (7, .int .i64 ll.length), (8, .int .i64 s.2.length)])
    (fun s => [un (rowsO s.2), .ow s.1 22 1 s.2.length (s.2.map (·.1))]) (.slice none 0 0, []) ⟨by simp, by simp⟩ ⟨rfl, rfl, rfl, rfl, trivial⟩ (Sp.refl _) ?_
  rintro ⟨va, xs⟩ ⟨hk, hxs⟩ K hK
  simp only at hk hxs
  dsimp only
  (refine q_seq ?_; refine q_region ?_; refine ql_pure tabOk rfl rfl ?_; refine q_nil ?_; refine q_seq ?_)
  refine q_if rfl (fun hc => ?_) (fun hc => ?_)
  · have hk2 : xs.length < ll.length := by omega
    clear hc
    obtain ⟨b, off, rfl⟩ := hs0 (by omega)
    obtain ⟨ar, cr, hr1, hr2⟩ := h.row xs.length hk2
    (refine q_skip ?_; refine q_seq ?_; refine q_block ?_; refine q_seq ?_; refine q_region ?_)
    refine ql_index tabOk rfl rfl rfl rfl rfl (by omega) (by omega) ?_
    refine ql_load1 tabOk rfl rfl rfl (fun w hs => hr2 w hs.chg0) ?_
    (refine ql_pure tabOk rfl rfl ?_; refine q_nil ?_; refine q_region ?_; (iterate 2 refine ql_pure tabOk rfl rfl ?_))
    refine ql_call (β := Value) (ψ := fun x v => v = x) (L' := fun x => [.ow x 3 1 ll[xs.length].length (ints ll[xs.length])]) tabOk [] _ M0 rfl rfl rfl rfl (Sp.refl _) (fun _ h => h.elim) (fun w' hs => cloneI_ca w' lo hi _ ll[xs.length] (RdE.keep hr1 hs.chg0) (hl _ (List.getElem_mem hk2))) ?_
    rintro _ y rfl
    skip
    refine ql_fact (fun w hs => hs.slice2 (v := y) (by repeat first | exact .head _ | refine .tail _ ?_)) ?_
    rintro ⟨ay, cy, rfl⟩
    refine ql_mkS 22 [.slice ay ll[xs.length].length cy] rfl (by kernel_rfl) rfl (fun bn => ?_)
    skip
    refine ql_append (q := 1) slII rfl rfl rfl (fun v' => by repeat constructor) (fun w' hs => ⟨_, _, Blk.rd (hs.blk (b := bn) (by repeat first | exact .head _ | refine .tail _ ?_)) rfl 1⟩) (by simp [oneV]) (by omega) (by omega) (fun va' => ?_)
    (refine ql_pure tabOk rfl rfl ?_; refine q_nil ?_; refine q_blk ?_; refine q_region ?_; refine ql_ar tabOk rfl rfl rfl rfl (by omega) (by omega) ?_; refine ql_pure tabOk rfl rfl ?_; refine q_nil ?_)
    refine q_conv (H' := [un (rowsO (xs ++ [(Value.slice ay ll[xs.length].length cy, ll[xs.length])])), .ow va' 22 1 (xs ++ [(Value.slice ay ll[xs.length].length cy, ll[xs.length])]).length ((xs ++ [(Value.slice ay ll[xs.length].length cy, ll[xs.length])]).map (·.1))]) (fun w' hs => by
      have h1 : Sat w M0 [.ow (.slice ay ll[xs.length].length cy) 3 1 ll[xs.length].length (ints ll[xs.length]), un (rowsO xs), .ow va' 22 1 (xs.length + 1) (xs.map (·.1) ++ [.slice ay ll[xs.length].length cy])] w' := hs.sp (by repeat (first | exact Sp.nil | exact Sp.refl _ | refine Sp.cons (by repeat constructor) ?_))
      have h2 := h1.un_in.un_perm (L' := rowsO (xs ++ [(Value.slice ay ll[xs.length].length cy, ll[xs.length])])) (by unfold rowsO; rw [List.map_append]; exact (List.perm_append_comm (l₁ := [_])))
      simpa using h2) ?_
    have e1 : ll.take (xs.length + 1) = ll.take xs.length ++ [ll[xs.length]] := List.take_succ_eq_append_getElem hk2
    have hlen1 : (xs ++ [(Value.slice ay ll[xs.length].length cy, ll[xs.length])]).length = xs.length + 1 := by simp
    refine hK (va', xs ++ [(Value.slice ay ll[xs.length].length cy, ll[xs.length])]) _ _ ⟨by simp only [hlen1]; omega, by simp only [hlen1, e1, List.map_append, hxs]; rfl⟩ (by simp only [hlen1]; omega) ⟨rfl, rfl, rfl, lookI rfl (by simp only [hlen1]; omega), trivial⟩ (Sp.refl _)
  · have hkl : xs.length = ll.length := by omega
    (refine q_exit _ rfl ?_; refine q_seq ?_; refine q_region ?_; (iterate 2 refine ql_pure tabOk rfl rfl ?_); refine q_nil ?_; refine q_ret ?_)
    refine q_fin tabOk rfl (by repeat (first | exact RVs.nil | apply RVs.tmp rfl | apply RVs.cellA rfl rfl (by repeat first | exact .head _ | refine .tail _ ?_) (by rfl) | apply RVs.cell1 rfl rfl (by repeat first | exact .head _ | refine .tail _ ?_))) fun w hs => ?_
    refine ⟨(va, xs), ⟨rfl, by simp only; rw [hxs, hkl, List.take_length]⟩, ?_⟩
    have := hs
    rw [hkl] at this
    exact this

/-- The parts of a copy. -/
def cpK (r : Rg) (vg vd vf vn : Value) (xs : List (Value × List Int)) : List Ck :=
  [.ow vg 3 1 r.group.length (ints r.group), .ow vd 3 1 r.drifts.length (ints r.drifts), .ow vf 3 1 r.first.length (ints r.first), .ow vn 22 1 r.next.length (xs.map (·.1)), un (rowsO xs)]
theorem cp_rg {w : World} {r : Rg} {vg vd vf vn : Value} {xs : List (Value × List Int)} (hx : xs.map (·.2) = r.next) (h : ∀ c ∈ cpK r vg vd vf vn xs, c.p w) : RgC w [.int .i64 r.radius, .int .i64 r.unit, .int .i64 r.clicks, .int .i64 r.total, vg, vd, vf, vn] r := by
  have h1 : w.ownsRow 0 3 1 vg r.group.length (ints r.group) := h _ (.head _)
  have h2 : w.ownsRow 0 3 1 vd r.drifts.length (ints r.drifts) := h _ (.tail _ (.head _))
  have h3 : w.ownsRow 0 3 1 vf r.first.length (ints r.first) := h _ (.tail _ (.tail _ (.head _)))
  have h4 : w.ownsRow 0 22 1 vn r.next.length (xs.map (·.1)) := h _ (.tail _ (.tail _ (.tail _ (.head _))))
  have h5 : (un (rowsO xs)).p w := h _ (.tail _ (.tail _ (.tail _ (.tail _ (.head _)))))
  have k1 := own_rdI h1 rfl
  have k2 := own_rdI h2 rfl
  have k3 := own_rdI h3 rfl
  have k4 := rowsO_rd h5 h4
  rw [hx] at k4
  obtain ⟨a1, c1, rfl, _⟩ := RdI.outI k1
  obtain ⟨a2, c2, rfl, _⟩ := RdI.outI k2
  obtain ⟨a3, c3, rfl, _⟩ := RdI.outI k3
  obtain ⟨a4, c4, rfl, _⟩ := RdII.outI k4
  exact ⟨0, w.heap.size, a1, c1, a2, c2, a3, c3, a4, c4, rfl, k1, k2, k3, k4⟩
set_option maxRecDepth 20000 in
set_option maxHeartbeats 2000000 in
theorem cloneR_ca0 (w : World) (cs : List Value) (r : Rg) (h : RgC w cs r) (hsm : r.Small) :
    Ca Tryz.prog 7 [.agg cs.toArray] w fun v w' => ∃ x : Value × Value × Value × Value × List (Value × List Int), (v = .agg #[.int .i64 r.radius, .int .i64 r.unit, .int .i64 r.clicks, .int .i64 r.total, x.1, x.2.1, x.2.2.1, x.2.2.2.1] ∧ x.2.2.2.2.map (·.2) = r.next) ∧ Sat w M0 (cpK r x.1 x.2.1 x.2.2.1 x.2.2.2.1 x.2.2.2.2) w' := by
  have h0 := h
  have s1 := hsm.group
  have s2 := hsm.drifts
  have s3 := hsm.first
  have s4 := hsm.next
  have s5 := hsm.rows
  obtain ⟨lo, hi, ag, cg, ad, cd, af, cf, an, cn, rfl, hg, hdr, hf, hn⟩ := h
  refine q_of (Sat.nil w M0) Tryz.func7 rfl (by simp [Tryz.ntmps7]) ?_
  (refine q_seq ?_; refine q_region ?_)
  refine ql_box rfl rfl (fun b1 => ?_)
  skip
  refine ql_alloc zero25 rfl (fun b2 => ?_)
  (refine q_nil ?_; refine q_seq ?_)
  refine q_drawS2 12 _ [] [.pt b2 [.int .i64 0, .int .i64 0, .int .i64 0, .int .i64 0, .slice none 0 0, .slice none 0 0, .slice none 0 0, .slice none 0 0] 25] [.pt b1 [.int .i64 r.radius, .int .i64 r.unit, .int .i64 r.clicks, .int .i64 r.total, .slice ag r.group.length cg, .slice ad r.drifts.length cd, .slice af r.first.length cf, .slice an r.next.length cn] 25] (Sp.refl _) (Sp.cons (by repeat constructor) (by repeat (first | exact Sp.nil | exact Sp.refl _ | refine Sp.cons (by repeat constructor) ?_))) (by kernel_rfl) (by kernel_rfl) (by kernel_rfl) fun K1 hK1 => ?_
  (refine qf_pure tabOk rfl rfl rfl ?_; refine qf_loadB tabOk rfl rfl rfl (by repeat first | exact .head _ | refine .tail _ ?_) (by rfl) ?_)
  refine qf_call (β := Value) tabOk [] _ M0 rfl rfl rfl rfl (Sp.refl _) (fun _ h => h.elim) (fun w' hs => cloneI_ca w' lo hi _ r.group (RdE.keep hg hs.chg0) (by omega)) ?_
  rintro _ vg rfl
  (refine qf_pure tabOk rfl rfl rfl ?_; refine qf_loadB tabOk rfl rfl rfl (by repeat first | exact .head _ | refine .tail _ ?_) (by rfl) ?_)
  refine qf_call (β := Value) tabOk [] _ M0 rfl rfl rfl rfl (Sp.refl _) (fun _ h => h.elim) (fun w' hs => cloneI_ca w' lo hi _ r.drifts (RdE.keep hdr hs.chg0) (by omega)) ?_
  rintro _ vd rfl
  (refine qf_pure tabOk rfl rfl rfl ?_; refine qf_loadB tabOk rfl rfl rfl (by repeat first | exact .head _ | refine .tail _ ?_) (by rfl) ?_)
  refine qf_call (β := Value) tabOk [] _ M0 rfl rfl rfl rfl (Sp.refl _) (fun _ h => h.elim) (fun w' hs => cloneI_ca w' lo hi _ r.first (RdE.keep hf hs.chg0) (by omega)) ?_
  rintro _ vf rfl
  (refine qf_pure tabOk rfl rfl rfl ?_; refine qf_loadB tabOk rfl rfl rfl (by repeat first | exact .head _ | refine .tail _ ?_) (by rfl) ?_)
  refine qf_call (β := Value × List (Value × List Int)) (ψ := fun x v => v = x.1 ∧ x.2.map (·.2) = r.next) tabOk [] _ M0 rfl rfl rfl rfl (Sp.refl _) (fun _ h => h.elim) (fun w' hs => cloneAll_ca w' lo hi _ r.next (hn.keep hs.chg0) (by omega) (fun l hl => by have := s5 l hl; omega)) ?_
  rintro ⟨_, xs⟩ vn ⟨rfl, hxs⟩
  dsimp only at hxs ⊢
  (refine qf_nil ?_)
  refine hK1 _ _ [.pt b1 [.int .i64 r.radius, .int .i64 r.unit, .int .i64 r.clicks, .int .i64 r.total, .slice ag r.group.length cg, .slice ad r.drifts.length cd, .slice af r.first.length cf, .slice an r.next.length cn] 25, .ow vg 3 1 r.group.length (ints r.group), .ow vd 3 1 r.drifts.length (ints r.drifts), .ow vf 3 1 r.first.length (ints r.first), .ow vn 22 1 r.next.length (xs.map (·.1)), un (rowsO xs)] (Sp.cons (by repeat constructor) (Sp.cons (by repeat constructor) (Sp.cons (by repeat constructor) (Sp.cons (by repeat constructor) (Sp.cons (by repeat constructor) (Sp.cons (by repeat constructor) (by repeat (first | exact Sp.nil | exact Sp.refl _ | refine Sp.cons (by repeat constructor) ?_)))))))) ?_
  refine qf_fact (fun w hs => hs.slice (v := vg) (by repeat first | exact .head _ | refine .tail _ ?_)) ?_
  rintro ⟨a1, m1, c1, rfl⟩
  refine qf_fact (fun w hs => hs.slice (v := vd) (by repeat first | exact .head _ | refine .tail _ ?_)) ?_
  rintro ⟨a2, m2, c2, rfl⟩
  refine qf_fact (fun w hs => hs.slice (v := vf) (by repeat first | exact .head _ | refine .tail _ ?_)) ?_
  rintro ⟨a3, m3, c3, rfl⟩
  refine qf_fact (fun w hs => hs.slice (v := vn) (by repeat first | exact .head _ | refine .tail _ ?_)) ?_
  rintro ⟨a4, m4, c4, rfl⟩
  (refine qf_pure tabOk rfl rfl rfl ?_; refine qf_st4 tabOk rfl rfl rfl rfl (by repeat constructor) ?_; refine qf_pure tabOk rfl rfl rfl ?_; refine qf_st5 tabOk rfl rfl rfl rfl (by repeat constructor) ?_; refine qf_pure tabOk rfl rfl rfl ?_; refine qf_st6 tabOk rfl rfl rfl rfl (by repeat constructor) ?_; refine qf_pure tabOk rfl rfl rfl ?_; refine qf_st7 tabOk rfl rfl rfl rfl (by repeat constructor) ?_; refine qf_nil ?_; refine q_seq ?_; refine q_region ?_; refine ql_loadAB tabOk rfl rfl rfl (by repeat first | exact .head _ | refine .tail _ ?_) (by rfl) (by rfl) ?_; refine ql_setA tabOk rfl rfl rfl rfl rfl (by repeat constructor) rfl ?_; refine q_nil ?_; refine q_ret ?_)
  refine q_fin tabOk rfl (by repeat (first | exact RVs.nil | apply RVs.tmp rfl | apply RVs.cellA rfl rfl (by repeat first | exact .head _ | refine .tail _ ?_) (by rfl) | apply RVs.cell1 rfl rfl (by repeat first | exact .head _ | refine .tail _ ?_))) fun w hs => ?_
  exact ⟨(_, _, _, _, xs), ⟨rfl, hxs⟩, hs.sp (by repeat (first | exact Sp.nil | exact Sp.refl _ | refine Sp.cons (by repeat constructor) ?_))⟩
end Go.Proofs.YtohlillcaadidaaGreat

/- Walks: lists of spans that are changed; a copy of a range as one piece. -/
namespace Go.Proofs.YtohlillcaadidaaGreat
open Go Go.Eng

/-- A copy of a range: where its lists lie. -/
structure Cp (r : Rg) where
  a1 : Option Addr
  c1 : Nat
  a2 : Option Addr
  c2 : Nat
  a3 : Option Addr
  c3 : Nat
  a4 : Option Addr
  c4 : Nat
  xs : List (Value × List Int)
  hx : xs.map (·.2) = r.next
def Cp.K {r : Rg} (x : Cp r) : List Ck := cpK r (.slice x.a1 r.group.length x.c1) (.slice x.a2 r.drifts.length x.c2) (.slice x.a3 r.first.length x.c3) (.slice x.a4 r.next.length x.c4) x.xs
theorem cloneR_cp (w : World) (cs : List Value) (r : Rg) (h : RgC w cs r) (hsm : r.Small) :
    Ca Tryz.prog 7 [.agg cs.toArray] w fun v w' => ∃ x : Cp r, v = .agg #[.int .i64 r.radius, .int .i64 r.unit, .int .i64 r.clicks, .int .i64 r.total, .slice x.a1 r.group.length x.c1, .slice x.a2 r.drifts.length x.c2, .slice x.a3 r.first.length x.c3, .slice x.a4 r.next.length x.c4] ∧ Sat w M0 [un x.K] w' :=
  (cloneR_ca0 w cs r h hsm).mono fun v w' ⟨(vg, vd, vf, vn, xs), ⟨hv, hx⟩, hs⟩ => by
    dsimp only at hv hx hs
    obtain ⟨a1, c1, rfl⟩ := hs.slice2 (v := vg) (e := 3) (sz := 1) (n := r.group.length) (.head _)
    obtain ⟨a2, c2, rfl⟩ := hs.slice2 (v := vd) (e := 3) (sz := 1) (n := r.drifts.length) (.tail _ (.head _))
    obtain ⟨a3, c3, rfl⟩ := hs.slice2 (v := vf) (e := 3) (sz := 1) (n := r.first.length) (.tail _ (.tail _ (.head _)))
    obtain ⟨a4, c4, rfl⟩ := hs.slice2 (v := vn) (e := 22) (sz := 1) (n := r.next.length) (.tail _ (.tail _ (.tail _ (.head _))))
    exact ⟨⟨a1, c1, a2, c2, a3, c3, a4, c4, xs, hx⟩, hv, Sat.un1.2 hs⟩
/-- Other numbers, the same lists. -/
theorem Cp.at2 {r : Rg} (x : Cp r) (r' : Rg) (hg : r'.group = r.group) (hd : r'.drifts = r.drifts) (hf : r'.first = r.first) (hn : r'.next = r.next) {w0 w : World} {M : Nat → Prop} {H : List Ck} (hs : Sat w0 M H w) (hm : un x.K ∈ H) :
    RgC w [.int .i64 r'.radius, .int .i64 r'.unit, .int .i64 r'.clicks, .int .i64 r'.total, .slice x.a1 r.group.length x.c1, .slice x.a2 r.drifts.length x.c2, .slice x.a3 r.first.length x.c3, .slice x.a4 r.next.length x.c4] r' := by
  refine cp_rg (xs := x.xs) (by rw [hn]; exact x.hx) (fun c hc => (hs.mem hm).1 c ?_)
  unfold Cp.K
  unfold cpK at hc ⊢
  rw [hg, hd, hf, hn] at hc
  exact hc

/-! Spans that are changed in place. -/
end Go.Proofs.YtohlillcaadidaaGreat

/- Walks: lists compared that are equal; ranges that are too long. -/
namespace Go.Proofs.YtohlillcaadidaaGreat
open Go Go.Eng

set_option maxHeartbeats 1000000 in
theorem eqI_ca (w : World) (lo hi lo2 hi2 : Nat) (v u : Value) (l : List Int) (h1 : RdI w lo hi v l) (h2 : RdI w lo2 hi2 u l) (hlen : l.length ≤ 1000000) :
    Ca Tryz.prog 55 [v, u] w fun r w' => r = .bool true ∧ Chg [] w w' := by
  obtain ⟨a, ca, rfl, hsa⟩ := RdI.outI h1
  obtain ⟨b, cb, rfl, hsb⟩ := RdI.outI h2
  refine q_of (Sat.nil w M0) Tryz.func55 rfl (by simp [Tryz.ntmps55]) ?_
  (refine q_seq ?_; refine q_region ?_; refine ql_pure tabOk rfl rfl ?_; refine q_nil ?_; (iterate 2 refine q_seq ?_); refine q_region ?_; (iterate 4 refine ql_pure tabOk rfl rfl ?_); refine ql_neqF tabOk rfl rfl rfl (by omega) ?_; refine q_nil ?_; refine q_cond_false rfl ?_; refine q_skip ?_; (iterate 2 refine q_seq ?_); refine q_region ?_; (iterate 3 refine ql_pure tabOk rfl rfl ?_); refine q_nil ?_; refine q_block ?_)
  refine q_loop (σ := Nat) (fun s => s ≤ l.length) (fun s => l.length - s) (fun s => [(0, .slice a l.length ca), (1, .slice b l.length cb), (12, .int .i64 l.length), (13, .int .i64 s)]) (fun _ => []) 0 (by omega) ⟨rfl, rfl, rfl, rfl, trivial⟩ (by repeat (first | exact Sp.nil | exact Sp.refl _ | refine Sp.cons (by repeat constructor) ?_)) ?_
  intro i hi K hK
  (refine q_seq ?_; refine q_region ?_; refine ql_pure tabOk rfl rfl ?_; refine q_nil ?_; refine q_seq ?_)
  refine q_if rfl (fun hc => ?_) (fun hc => ?_)
  · have hi2 : i < l.length := by omega
    clear hc
    obtain ⟨ba, oa, rfl⟩ := hsa (by omega)
    obtain ⟨bb, ob, rfl⟩ := hsb (by omega)
    (refine q_skip ?_; refine q_seq ?_; refine q_block ?_; refine q_seq ?_; refine q_region ?_; (iterate 2 refine ql_pure tabOk rfl rfl ?_); refine q_nil ?_; refine q_seq ?_)
    refine q_draw _ [] (Sp.refl _) (by kernel_rfl) (by kernel_rfl) ?_
    ((iterate 2 refine qf_pure tabOk rfl rfl rfl ?_))
    (refine qf_index tabOk rfl rfl rfl rfl rfl (by omega) (by omega) ?_; refine qf_load1 tabOk rfl rfl rfl (fun w hs => RdI.at (RdE.keep h1 hs.chg0) i hi2) ?_)
    ((iterate 2 refine qf_pure tabOk rfl rfl rfl ?_))
    (refine qf_index tabOk rfl rfl rfl rfl rfl (by omega) (by omega) ?_; refine qf_load1 tabOk rfl rfl rfl (fun w hs => RdI.at (RdE.keep h2 hs.chg0) i hi2) ?_)
    (refine qf_neqF tabOk rfl rfl rfl (by omega) ?_; refine qf_nil ?_; refine q_cond_false rfl ?_; refine q_skip ?_; refine q_blk ?_; refine q_region ?_; refine ql_ar tabOk rfl rfl rfl rfl (by omega) (by omega) ?_; refine ql_pure tabOk rfl rfl ?_; refine q_nil ?_)
    exact hK (i + 1) _ _ (by omega) (by omega) ⟨rfl, rfl, rfl, rfl, trivial⟩ (by repeat (first | exact Sp.nil | exact Sp.refl _ | refine Sp.cons (by repeat constructor) ?_))
  · (refine q_exit _ rfl ?_; refine q_seq ?_; refine q_region ?_; refine ql_pure tabOk rfl rfl ?_; refine q_nil ?_; refine q_ret ?_)
    refine q_fin tabOk rfl (by repeat (first | exact RVs.nil | apply RVs.tmp rfl | apply RVs.cellA rfl rfl (by repeat first | exact .head _ | refine .tail _ ?_) (by rfl) | apply RVs.cell1 rfl rfl (by repeat first | exact .head _ | refine .tail _ ?_))) fun w hs => ?_
    exact ⟨rfl, hs.chg0⟩

set_option maxHeartbeats 1000000 in
theorem eqII_ca (w : World) (lo hi lo2 hi2 : Nat) (v u : Value) (ll : List (List Int)) (h1 : RdII w lo hi v ll) (h2 : RdII w lo2 hi2 u ll) (hlen : ll.length ≤ 1000000) (hrow : ∀ l ∈ ll, l.length ≤ 1000000) :
    Ca Tryz.prog 20 [v, u] w fun r w' => r = .bool true ∧ Chg [] w w' := by
  obtain ⟨a, ca, rfl, hsa⟩ := RdII.outI h1
  obtain ⟨b, cb, rfl, hsb⟩ := RdII.outI h2
  refine q_of (Sat.nil w M0) Tryz.func20 rfl (by simp [Tryz.ntmps20]) ?_
  (refine q_seq ?_; refine q_region ?_; refine ql_pure tabOk rfl rfl ?_; refine q_nil ?_; (iterate 2 refine q_seq ?_); refine q_region ?_; (iterate 4 refine ql_pure tabOk rfl rfl ?_); refine ql_neqF tabOk rfl rfl rfl (by omega) ?_; refine q_nil ?_; refine q_cond_false rfl ?_; refine q_skip ?_; (iterate 2 refine q_seq ?_); refine q_region ?_; (iterate 3 refine ql_pure tabOk rfl rfl ?_); refine q_nil ?_; refine q_block ?_)
  refine q_loop (σ := Nat) (fun s => s ≤ ll.length) (fun s => ll.length - s) (fun s => [(0, .slice a ll.length ca), (1, .slice b ll.length cb), (12, .int .i64 ll.length), (13, .int .i64 s)]) (fun _ => []) 0 (by omega) ⟨rfl, rfl, rfl, rfl, trivial⟩ (by repeat (first | exact Sp.nil | exact Sp.refl _ | refine Sp.cons (by repeat constructor) ?_)) ?_
  intro i hi K hK
  (refine q_seq ?_; refine q_region ?_; refine ql_pure tabOk rfl rfl ?_; refine q_nil ?_; refine q_seq ?_)
  refine q_if rfl (fun hc => ?_) (fun hc => ?_)
  · have hi2 : i < ll.length := by omega
    clear hc
    obtain ⟨ba, oa, rfl⟩ := hsa (by omega)
    obtain ⟨bb, ob, rfl⟩ := hsb (by omega)
    obtain ⟨ar, cr, hr1, hc1⟩ := h1.row i hi2
    obtain ⟨br, dr, hr2, hc2⟩ := h2.row i hi2
    have hrl := hrow _ (List.getElem_mem hi2)
    (refine q_skip ?_; refine q_seq ?_; refine q_block ?_; refine q_seq ?_; refine q_region ?_; (iterate 2 refine ql_pure tabOk rfl rfl ?_); refine q_nil ?_; refine q_seq ?_)
    refine q_draw _ [] (Sp.refl _) (by kernel_rfl) (by kernel_rfl) ?_
    ((iterate 2 refine qf_pure tabOk rfl rfl rfl ?_))
    refine qf_index tabOk rfl rfl rfl rfl rfl (by omega) (by omega) ?_
    refine qf_load1 (v := .slice ar ll[i].length cr) tabOk rfl rfl rfl (fun w' hs => hc1 w' hs.chg0) ?_
    ((iterate 2 refine qf_pure tabOk rfl rfl rfl ?_))
    refine qf_index tabOk rfl rfl rfl rfl rfl (by omega) (by omega) ?_
    refine qf_load1 (v := .slice br ll[i].length dr) tabOk rfl rfl rfl (fun w' hs => hc2 w' hs.chg0) ?_
    skip
    refine qf_callv (val := .bool true) tabOk rfl rfl rfl rfl (fun w hs => ?_) ?_; exact eqI_ca w _ _ _ _ _ _ ll[i] (RdE.keep hr1 hs.chg0) (RdE.keep hr2 hs.chg0) hrl
    (refine qf_pure tabOk rfl rfl rfl ?_; refine qf_nil ?_; refine q_cond_false rfl ?_; refine q_skip ?_; refine q_blk ?_; refine q_region ?_; refine ql_ar tabOk rfl rfl rfl rfl (by omega) (by omega) ?_; refine ql_pure tabOk rfl rfl ?_; refine q_nil ?_)
    exact hK (i + 1) _ _ (by omega) (by omega) ⟨rfl, rfl, rfl, rfl, trivial⟩ (by repeat (first | exact Sp.nil | exact Sp.refl _ | refine Sp.cons (by repeat constructor) ?_))
  · (refine q_exit _ rfl ?_; refine q_seq ?_; refine q_region ?_; refine ql_pure tabOk rfl rfl ?_; refine q_nil ?_; refine q_ret ?_)
    refine q_fin tabOk rfl (by repeat (first | exact RVs.nil | apply RVs.tmp rfl | apply RVs.cellA rfl rfl (by repeat first | exact .head _ | refine .tail _ ?_) (by rfl) | apply RVs.cell1 rfl rfl (by repeat first | exact .head _ | refine .tail _ ?_))) fun w hs => ?_
    exact ⟨rfl, hs.chg0⟩

/-- Lists of fractions that can be read. -/
def RdSS (w : World) (lo hi : Nat) (v : Value) (ll : List (List (Int × Int))) : Prop :=
  ∃ vs, RdE w lo hi v 1 vs ∧ vs.length = ll.length ∧ ∀ i (h : i < vs.length) (h' : i < ll.length), RdS w lo hi vs[i] ll[i]
theorem RdSS.outI {w : World} {lo hi : Nat} {v : Value} {ll : List (List (Int × Int))} (h : RdSS w lo hi v ll) : ∃ a cap, v = .slice a ll.length cap ∧ (0 < ll.length → ∃ b off, a = some ⟨b, off, none⟩) := by
  obtain ⟨vs, h1, h2, _⟩ := h
  rw [← h2]
  exact h1.out
theorem RdSS.row {w : World} {lo hi : Nat} {b off len cap : Nat} {ll : List (List (Int × Int))} (h : RdSS w lo hi (.slice (some ⟨b, off, none⟩) len cap) ll) (i : Nat) (hi' : i < ll.length) :
    ∃ a c, RdS w lo hi (.slice a ll[i].length c) ll[i] ∧ ∀ w', Chg [] w w' → w'.cell? ⟨b, off + i * 1, none⟩ = some (.slice a ll[i].length c) := by
  obtain ⟨vs, h1, h2, h3⟩ := h
  have h4 := h3 i (by omega) hi'
  obtain ⟨a, c, hv, _⟩ := RdS.outI h4
  refine ⟨a, c, hv ▸ h4, fun w' hw => ?_⟩
  rw [← hv]
  exact (h1.keep hw).cell1 i (by omega) (by rw [hv]; rfl)
theorem RdSS.keep {w w' : World} {lo hi : Nat} {v : Value} {ll : List (List (Int × Int))} (h : RdSS w lo hi v ll) (c : Chg [] w w') : RdSS w' lo hi v ll := by
  obtain ⟨vs, h1, h2, h3⟩ := h
  exact ⟨vs, h1.keep c, h2, fun i h h' => RdE.keep (h3 i h h') c⟩

/-- A range is longer than what is looked at. -/
theorem long_ca (w : World) (cs : List Value) (r : Rg) (h : RgC w cs r) (hl : r.next.length ≤ maxLen) :
    Ca Tryz.prog 5 [.agg cs.toArray] w fun v w' => ∃ b : Bool, (v = .bool b ∧ (b = false → r.Small)) ∧ Sat w M0 [] w' := by
  obtain ⟨lo, hi, ag, cg, ad, cd, af, cf, an, cn, rfl, hg, hdr, hf, hn⟩ := h
  obtain ⟨_, _, hsl, hsn⟩ := RdII.outI hn
  cases hsl
  simp only [maxLen] at hl
  refine q_of (Sat.nil w M0) Tryz.func5 rfl (by simp [Tryz.ntmps5]) ?_
  (refine q_seq ?_; refine q_region ?_)
  refine ql_box rfl rfl (fun b1 => ?_)
  (refine ql_pure tabOk rfl rfl ?_; refine q_nil ?_; (iterate 2 refine q_seq ?_); refine q_region ?_; refine ql_pure tabOk rfl rfl ?_; refine ql_loadB tabOk rfl rfl rfl (by repeat first | exact .head _ | refine .tail _ ?_) (by rfl) ?_; (iterate 2 refine ql_pure tabOk rfl rfl ?_); refine q_nil ?_; refine q_block ?_)
  refine q_loop (σ := Nat) (fun k => k ≤ r.next.length ∧ ∀ l ∈ r.next.take k, l.length ≤ 7) (fun k => r.next.length - k) (fun k => [(1, .pointer (some ⟨b1, 0, none⟩)), (6, .slice an r.next.length cn), (7, .int .i64 r.next.length), (8, .int .i64 k)])
    (fun _ => [.pt b1 [.int .i64 r.radius, .int .i64 r.unit, .int .i64 r.clicks, .int .i64 r.total, .slice ag r.group.length cg, .slice ad r.drifts.length cd, .slice af r.first.length cf, .slice an r.next.length cn] 25]) 0 ⟨by omega, by simp⟩ ⟨rfl, rfl, rfl, rfl, trivial⟩ (by repeat (first | exact Sp.nil | exact Sp.refl _ | refine Sp.cons (by repeat constructor) ?_)) ?_
  rintro k ⟨hk, hall⟩ K hK
  (refine q_seq ?_; refine q_region ?_; refine ql_pure tabOk rfl rfl ?_; refine q_nil ?_; refine q_seq ?_)
  refine q_if rfl (fun hc => ?_) (fun hc => ?_)
  · have hk2 : k < r.next.length := by omega
    clear hc
    obtain ⟨bs, off, rfl⟩ := hsn (by omega)
    obtain ⟨ar, cr, hrow, hcell⟩ := hn.row k hk2
    (refine q_skip ?_; refine q_seq ?_; refine q_block ?_; refine q_seq ?_; refine q_region ?_)
    refine ql_index tabOk rfl rfl rfl rfl rfl (by omega) (by omega) ?_
    refine ql_load1 (v := .slice ar r.next[k].length cr) tabOk rfl rfl rfl (fun w' hs => hcell w' hs.chg0) ?_
    (refine ql_pure tabOk rfl rfl ?_; refine q_nil ?_; refine q_seq ?_; refine q_region ?_; (iterate 3 refine ql_pure tabOk rfl rfl ?_); refine q_nil ?_)
    refine q_if rfl (fun hc => ?_) (fun hc => ?_)
    · (refine q_seq ?_; refine q_region ?_; refine ql_pure tabOk rfl rfl ?_; refine q_nil ?_; refine q_ret ?_)
      refine q_fin tabOk rfl (by repeat (first | exact RVs.nil | apply RVs.tmp rfl | apply RVs.cellA rfl rfl (by repeat first | exact .head _ | refine .tail _ ?_) (by rfl) | apply RVs.cell1 rfl rfl (by repeat first | exact .head _ | refine .tail _ ?_))) fun w hs => ?_
      exact ⟨true, ⟨rfl, fun h => by cases h⟩, hs.keep (Chg.refl _ _) |>.sp .nil⟩
    · (refine q_skip ?_; refine q_blk ?_; refine q_region ?_; refine ql_ar tabOk rfl rfl rfl rfl (by omega) (by omega) ?_; refine ql_pure tabOk rfl rfl ?_; refine q_nil ?_)
      exact hK (k + 1) _ _ ⟨by omega, fun l hm => by
        rw [List.take_succ_eq_append_getElem hk2] at hm
        rcases List.mem_append.1 hm with hm | hm
        · exact hall l hm
        · simp at hm
          subst hm
          omega⟩ (by omega) ⟨rfl, rfl, rfl, rfl, trivial⟩ (by repeat (first | exact Sp.nil | exact Sp.refl _ | refine Sp.cons (by repeat constructor) ?_))
  obtain rfl : k = r.next.length := by omega
  clear hc hK
  rw [List.take_length] at hall
  (refine q_exit _ rfl ?_; refine q_seq ?_; refine q_region ?_; refine ql_pure tabOk rfl rfl ?_; refine ql_loadB tabOk rfl rfl rfl (by repeat first | exact .head _ | refine .tail _ ?_) (by rfl) ?_; (iterate 3 refine ql_pure tabOk rfl rfl ?_))
  refine ql_split rfl rfl (fun hc => ?_) (fun hc => ?_)
  · ((iterate 4 refine ql_gno rfl rfl rfl ?_); (iterate 2 refine ql_pure tabOk rfl rfl ?_); (iterate 4 refine ql_gno rfl rfl rfl ?_); (iterate 2 refine ql_pure tabOk rfl rfl ?_); (iterate 4 refine ql_gno rfl rfl rfl ?_); (iterate 2 refine ql_pure tabOk rfl rfl ?_); refine q_nil ?_; refine q_ret ?_)
    refine q_fin tabOk rfl (by repeat (first | exact RVs.nil | apply RVs.tmp rfl | apply RVs.cellA rfl rfl (by repeat first | exact .head _ | refine .tail _ ?_) (by rfl) | apply RVs.cell1 rfl rfl (by repeat first | exact .head _ | refine .tail _ ?_))) fun w hs => ?_
    exact ⟨true, ⟨rfl, fun h => by cases h⟩, hs.sp .nil⟩
  have c1 := of_decide_eq_false hc
  clear hc
  (refine ql_gyes rfl ?_; refine ql_pure tabOk rfl rfl ?_; refine ql_gyes rfl ?_; refine ql_loadB tabOk rfl rfl rfl (by repeat first | exact .head _ | refine .tail _ ?_) (by rfl) ?_; refine ql_gyes rfl ?_; refine ql_pure tabOk rfl rfl ?_; refine ql_gyes rfl ?_; (iterate 3 refine ql_pure tabOk rfl rfl ?_))
  refine ql_split rfl rfl (fun hc => ?_) (fun hc => ?_)
  · ((iterate 4 refine ql_gno rfl rfl rfl ?_); (iterate 2 refine ql_pure tabOk rfl rfl ?_); (iterate 4 refine ql_gno rfl rfl rfl ?_); (iterate 2 refine ql_pure tabOk rfl rfl ?_); refine q_nil ?_; refine q_ret ?_)
    refine q_fin tabOk rfl (by repeat (first | exact RVs.nil | apply RVs.tmp rfl | apply RVs.cellA rfl rfl (by repeat first | exact .head _ | refine .tail _ ?_) (by rfl) | apply RVs.cell1 rfl rfl (by repeat first | exact .head _ | refine .tail _ ?_))) fun w hs => ?_
    exact ⟨true, ⟨rfl, fun h => by cases h⟩, hs.sp .nil⟩
  have c2 := of_decide_eq_false hc
  clear hc
  (refine ql_gyes rfl ?_; refine ql_pure tabOk rfl rfl ?_; refine ql_gyes rfl ?_; refine ql_loadB tabOk rfl rfl rfl (by repeat first | exact .head _ | refine .tail _ ?_) (by rfl) ?_; refine ql_gyes rfl ?_; refine ql_pure tabOk rfl rfl ?_; refine ql_gyes rfl ?_; (iterate 3 refine ql_pure tabOk rfl rfl ?_))
  refine ql_split rfl rfl (fun hc => ?_) (fun hc => ?_)
  · ((iterate 4 refine ql_gno rfl rfl rfl ?_); (iterate 2 refine ql_pure tabOk rfl rfl ?_); refine q_nil ?_; refine q_ret ?_)
    refine q_fin tabOk rfl (by repeat (first | exact RVs.nil | apply RVs.tmp rfl | apply RVs.cellA rfl rfl (by repeat first | exact .head _ | refine .tail _ ?_) (by rfl) | apply RVs.cell1 rfl rfl (by repeat first | exact .head _ | refine .tail _ ?_))) fun w hs => ?_
    exact ⟨true, ⟨rfl, fun h => by cases h⟩, hs.sp .nil⟩
  have c3 := of_decide_eq_false hc
  clear hc
  (refine ql_gyes rfl ?_; refine ql_pure tabOk rfl rfl ?_; refine ql_gyes rfl ?_; refine ql_loadB tabOk rfl rfl rfl (by repeat first | exact .head _ | refine .tail _ ?_) (by rfl) ?_; refine ql_gyes rfl ?_; refine ql_pure tabOk rfl rfl ?_; refine ql_gyes rfl ?_; (iterate 3 refine ql_pure tabOk rfl rfl ?_); refine q_nil ?_; refine q_ret ?_)
  refine q_fin tabOk rfl (by repeat (first | exact RVs.nil | apply RVs.tmp rfl | apply RVs.cellA rfl rfl (by repeat first | exact .head _ | refine .tail _ ?_) (by rfl) | apply RVs.cell1 rfl rfl (by repeat first | exact .head _ | refine .tail _ ?_))) fun w hs => ?_
  refine ⟨_, ⟨rfl, fun h => ?_⟩, hs.sp .nil⟩
  have c4 := of_decide_eq_false h
  exact ⟨by omega, by omega, by omega, by omega, hall⟩

theorem same_ca (w : World) (cs cs2 : List Value) (r : Rg) (h : RgC w cs r) (h2 : RgC w cs2 r) (hsm : r.Small) :
    Ca Tryz.prog 18 [.agg cs.toArray, .agg cs2.toArray] w fun v w' => v = .bool true ∧ Chg [] w w' := by
  have s1 := hsm.group
  have s2 := hsm.drifts
  have s3 := hsm.first
  have s4 := hsm.next
  have s5 := hsm.rows
  obtain ⟨lo, hi, ag, cg, ad, cd, af, cf, an, cn, rfl, hg, hdr, hf, hn⟩ := h
  obtain ⟨lo2, hi2, ag2, cg2, ad2, cd2, af2, cf2, an2, cn2, rfl, hg2, hdr2, hf2, hn2⟩ := h2
  refine q_of (Sat.nil w M0) Tryz.func18 rfl (by simp [Tryz.ntmps18]) ?_
  (refine q_seq ?_; refine q_region ?_)
  refine ql_box rfl rfl (fun b2 => ?_)
  refine ql_box rfl rfl (fun b3 => ?_)
  (refine ql_pure tabOk rfl rfl ?_; refine q_nil ?_; refine q_seq ?_; refine q_region ?_; refine ql_pure tabOk rfl rfl ?_; refine ql_loadB tabOk rfl rfl rfl (by repeat first | exact .head _ | refine .tail _ ?_) (by rfl) ?_; refine ql_pure tabOk rfl rfl ?_; refine ql_loadB tabOk rfl rfl rfl (by repeat first | exact .head _ | refine .tail _ ?_) (by rfl) ?_; refine ql_eqlT tabOk rfl rfl rfl (by omega) ?_; refine ql_pure tabOk rfl rfl ?_; refine ql_gyes rfl ?_; refine ql_pure tabOk rfl rfl ?_; refine ql_gyes rfl ?_; refine ql_loadB tabOk rfl rfl rfl (by repeat first | exact .head _ | refine .tail _ ?_) (by rfl) ?_; refine ql_gyes rfl ?_; refine ql_pure tabOk rfl rfl ?_; refine ql_gyes rfl ?_; refine ql_loadB tabOk rfl rfl rfl (by repeat first | exact .head _ | refine .tail _ ?_) (by rfl) ?_; refine ql_gyes rfl ?_; refine ql_eqlT tabOk rfl rfl rfl (by omega) ?_; (iterate 2 refine ql_pure tabOk rfl rfl ?_); refine ql_gyes rfl ?_; refine ql_pure tabOk rfl rfl ?_; refine ql_gyes rfl ?_; refine ql_loadB tabOk rfl rfl rfl (by repeat first | exact .head _ | refine .tail _ ?_) (by rfl) ?_; refine ql_gyes rfl ?_; refine ql_pure tabOk rfl rfl ?_; refine ql_gyes rfl ?_; refine ql_loadB tabOk rfl rfl rfl (by repeat first | exact .head _ | refine .tail _ ?_) (by rfl) ?_; refine ql_gyes rfl ?_; refine ql_eqlT tabOk rfl rfl rfl (by omega) ?_; (iterate 2 refine ql_pure tabOk rfl rfl ?_); refine ql_gyes rfl ?_; refine ql_pure tabOk rfl rfl ?_; refine ql_gyes rfl ?_; refine ql_loadB tabOk rfl rfl rfl (by repeat first | exact .head _ | refine .tail _ ?_) (by rfl) ?_; refine ql_gyes rfl ?_; refine ql_pure tabOk rfl rfl ?_; refine ql_gyes rfl ?_; refine ql_loadB tabOk rfl rfl rfl (by repeat first | exact .head _ | refine .tail _ ?_) (by rfl) ?_; refine ql_gyes rfl ?_; refine ql_eqlT tabOk rfl rfl rfl (by omega) ?_; (iterate 2 refine ql_pure tabOk rfl rfl ?_); refine ql_gyes rfl ?_; refine ql_pure tabOk rfl rfl ?_; refine ql_gyes rfl ?_; refine ql_loadB tabOk rfl rfl rfl (by repeat first | exact .head _ | refine .tail _ ?_) (by rfl) ?_; refine ql_gyes rfl ?_; refine ql_pure tabOk rfl rfl ?_; refine ql_gyes rfl ?_; refine ql_loadB tabOk rfl rfl rfl (by repeat first | exact .head _ | refine .tail _ ?_) (by rfl) ?_; refine ql_gyes rfl ?_)
  refine ql_callv (val := .bool true) tabOk rfl rfl rfl rfl (fun w hs => ?_) ?_; exact eqI_ca w _ _ _ _ _ _ r.group (RdE.keep hg hs.chg0) (RdE.keep hg2 hs.chg0) (by omega)
  ((iterate 2 refine ql_pure tabOk rfl rfl ?_); refine ql_gyes rfl ?_; refine ql_pure tabOk rfl rfl ?_; refine ql_gyes rfl ?_; refine ql_loadB tabOk rfl rfl rfl (by repeat first | exact .head _ | refine .tail _ ?_) (by rfl) ?_; refine ql_gyes rfl ?_; refine ql_pure tabOk rfl rfl ?_; refine ql_gyes rfl ?_; refine ql_loadB tabOk rfl rfl rfl (by repeat first | exact .head _ | refine .tail _ ?_) (by rfl) ?_; refine ql_gyes rfl ?_)
  refine ql_callv (val := .bool true) tabOk rfl rfl rfl rfl (fun w hs => ?_) ?_; exact eqI_ca w _ _ _ _ _ _ r.drifts (RdE.keep hdr hs.chg0) (RdE.keep hdr2 hs.chg0) (by omega)
  ((iterate 2 refine ql_pure tabOk rfl rfl ?_); refine ql_gyes rfl ?_; refine ql_pure tabOk rfl rfl ?_; refine ql_gyes rfl ?_; refine ql_loadB tabOk rfl rfl rfl (by repeat first | exact .head _ | refine .tail _ ?_) (by rfl) ?_; refine ql_gyes rfl ?_; refine ql_pure tabOk rfl rfl ?_; refine ql_gyes rfl ?_; refine ql_loadB tabOk rfl rfl rfl (by repeat first | exact .head _ | refine .tail _ ?_) (by rfl) ?_; refine ql_gyes rfl ?_)
  refine ql_callv (val := .bool true) tabOk rfl rfl rfl rfl (fun w hs => ?_) ?_; exact eqI_ca w _ _ _ _ _ _ r.first (RdE.keep hf hs.chg0) (RdE.keep hf2 hs.chg0) (by omega)
  ((iterate 2 refine ql_pure tabOk rfl rfl ?_); refine ql_gyes rfl ?_; refine ql_pure tabOk rfl rfl ?_; refine ql_gyes rfl ?_; refine ql_loadB tabOk rfl rfl rfl (by repeat first | exact .head _ | refine .tail _ ?_) (by rfl) ?_; refine ql_gyes rfl ?_; refine ql_pure tabOk rfl rfl ?_; refine ql_gyes rfl ?_; refine ql_loadB tabOk rfl rfl rfl (by repeat first | exact .head _ | refine .tail _ ?_) (by rfl) ?_; refine ql_gyes rfl ?_)
  refine ql_callv (val := .bool true) tabOk rfl rfl rfl rfl (fun w hs => ?_) ?_; exact eqII_ca w _ _ _ _ _ _ r.next (hn.keep hs.chg0) (hn2.keep hs.chg0) (by omega) (fun l hl => by have := s5 l hl; omega)
  ((iterate 2 refine ql_pure tabOk rfl rfl ?_); refine q_nil ?_; refine q_ret ?_)
  refine q_fin tabOk rfl (by repeat (first | exact RVs.nil | apply RVs.tmp rfl | apply RVs.cellA rfl rfl (by repeat first | exact .head _ | refine .tail _ ?_) (by rfl) | apply RVs.cell1 rfl rfl (by repeat first | exact .head _ | refine .tail _ ?_))) fun w hs => ?_
  exact ⟨rfl, hs.chg0⟩
end Go.Proofs.YtohlillcaadidaaGreat

/- Walks of the reference: flags and impacts. -/
namespace Go.Proofs.YtohlillcaadidaaGreat
open Go Go.Eng

theorem spB_iff {m : Int} {s : Int × Int} : spB m s = true ↔ s.1 ≤ s.2 ∧ -m ≤ s.1 ∧ s.2 ≤ m := by simp [spB]
end Go.Proofs.YtohlillcaadidaaGreat
