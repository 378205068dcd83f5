/- My texts H5, H6, M0, M1, joined: a claim takes at most 60 files. -/
import Derived.Test.YtohlillcaadidaaW4

/- Walks: copies of ranges. -/
namespace Go.Proofs.Ytohlillcaadidaa
open Go Go.Eng

/-- Rows of our own. -/
def rowsO (xs : List (Value × List Int)) : List Ck := xs.map fun p => .ow p.1 3 1 p.2.length (ints p.2)
theorem own_one' {w : World} {t sz m : Nat} {v : Value} {xs : List Value} (h : w.ownsRow 0 t sz v m xs) : oneV v = true := by
  obtain ⟨a, n, c, rfl⟩ := own_slice h
  rfl
theorem rowsO_rd {w : World} {v : Value} {xs : List (Value × List Int)} {n : Nat} (hu : (un (rowsO xs)).p w) (h1 : w.ownsRow 0 22 1 v n (xs.map (·.1))) : RdII w 0 w.heap.size v (xs.map (·.2)) := by
  have hn : n = (xs.map (·.1)).length := by have := h1.1; omega
  have hp : ∀ p ∈ xs, w.ownsRow 0 3 1 p.1 p.2.length (ints p.2) := fun p hp => hu.1 (.ow p.1 3 1 p.2.length (ints p.2)) (List.mem_map.2 ⟨p, hp, rfl⟩)
  refine ⟨xs.map (·.1), RdE.one (by rw [← hn]; exact own_rd h1) (fun e he => by obtain ⟨p, hm, rfl⟩ := List.mem_map.1 he; exact own_one' (hp p hm)), by simp, fun i hi hi' => ?_⟩
  have hi2 : i < xs.length := by simpa using hi
  simp only [List.getElem_map]
  exact own_rdI (hp _ (List.getElem_mem hi2)) rfl

set_option maxHeartbeats 1000000 in
theorem cloneAll_ca (w : World) (lo hi : Nat) (v : Value) (ll : List (List Int)) (h : RdII w lo hi v ll) (hlen : ll.length ≤ 1000) (hl : ∀ l ∈ ll, l.length ≤ 1000000) :
    Ca Try.prog 69 [v] w fun r w' => ∃ x : Value × List (Value × List Int), (r = x.1 ∧ x.2.map (·.2) = ll) ∧ Sat w M0 [un (rowsO x.2), .ow x.1 22 1 ll.length (x.2.map (·.1))] w' := by
  obtain ⟨a, cap, rfl, hs0⟩ := h.outI
  refine q_of (Sat.nil w M0) Try.func69 rfl (by simp [Try.ntmps69]) ?_
  (refine q_seq ?_; refine q_region ?_; refine ql_pure tabOk rfl rfl ?_; refine q_nil ?_; refine q_seq ?_; refine q_region ?_; refine ql_pure tabOk rfl rfl ?_; refine q_nil ?_; (iterate 2 refine q_seq ?_); refine q_region ?_; (iterate 3 refine ql_pure tabOk rfl rfl ?_); refine q_nil ?_; refine q_block ?_)
  refine q_conv (H' := [un (rowsO []), .ow (.slice none 0 0) 22 1 0 (([] : List (Value × List Int)).map (·.1))]) (fun w' hs => Sat.un_nil (Sat.ownil hs _ _)) ?_
  refine q_loop (σ := Value × List (Value × List Int)) (fun s => s.2.length ≤ ll.length ∧ s.2.map (·.2) = ll.take s.2.length) (fun s => ll.length - s.2.length) (fun s => [(3, s.1), (6, .slice a ll.length cap), (7, .int .i64 ll.length), (8, .int .i64 s.2.length)])
    (fun s => [un (rowsO s.2), .ow s.1 22 1 s.2.length (s.2.map (·.1))]) (.slice none 0 0, []) ⟨by simp, by simp⟩ ⟨rfl, rfl, rfl, rfl, trivial⟩ (Sp.refl _) ?_
  rintro ⟨va, xs⟩ ⟨hk, hxs⟩ K hK
  simp only at hk hxs
  dsimp only
  (refine q_seq ?_; refine q_region ?_; refine ql_pure tabOk rfl rfl ?_; refine q_nil ?_; refine q_seq ?_)
  refine q_if rfl (fun hc => ?_) (fun hc => ?_)
  · have hk2 : xs.length < ll.length := by omega
    clear hc
    obtain ⟨b, off, rfl⟩ := hs0 (by omega)
    obtain ⟨ar, cr, hr1, hr2⟩ := h.row xs.length hk2
    (refine q_skip ?_; refine q_seq ?_; refine q_block ?_; refine q_seq ?_; refine q_region ?_)
    refine ql_index tabOk rfl rfl rfl rfl rfl (by omega) (by omega) ?_
    refine ql_load1 tabOk rfl rfl rfl (fun w hs => hr2 w hs.chg0) ?_
    (refine ql_pure tabOk rfl rfl ?_; refine q_nil ?_; refine q_region ?_; (iterate 2 refine ql_pure tabOk rfl rfl ?_))
    refine ql_call (β := Value) (ψ := fun x v => v = x) (L' := fun x => [.ow x 3 1 ll[xs.length].length (ints ll[xs.length])]) tabOk [] _ M0 rfl rfl rfl rfl (Sp.refl _) (fun _ h => h.elim) (fun w' hs => cloneI_ca w' lo hi _ ll[xs.length] (RdE.keep hr1 hs.chg0) (hl _ (List.getElem_mem hk2))) ?_
    rintro _ y rfl
    skip
    refine ql_fact (fun w hs => hs.slice2 (v := y) (by repeat first | exact .head _ | refine .tail _ ?_)) ?_
    rintro ⟨ay, cy, rfl⟩
    refine ql_mkS 22 [.slice ay ll[xs.length].length cy] rfl (by kernel_rfl) rfl (fun bn => ?_)
    skip
    refine ql_append (q := 1) slII rfl rfl rfl (fun v' => by repeat constructor) (fun w' hs => ⟨_, _, Blk.rd (hs.blk (b := bn) (by repeat first | exact .head _ | refine .tail _ ?_)) rfl 1⟩) (by simp [oneV]) (by omega) (by omega) (fun va' => ?_)
    (refine ql_pure tabOk rfl rfl ?_; refine q_nil ?_; refine q_blk ?_; refine q_region ?_; refine ql_ar tabOk rfl rfl rfl rfl (by omega) (by omega) ?_; refine ql_pure tabOk rfl rfl ?_; refine q_nil ?_)
    refine q_conv (H' := [un (rowsO (xs ++ [(Value.slice ay ll[xs.length].length cy, ll[xs.length])])), .ow va' 22 1 (xs ++ [(Value.slice ay ll[xs.length].length cy, ll[xs.length])]).length ((xs ++ [(Value.slice ay ll[xs.length].length cy, ll[xs.length])]).map (·.1))]) (fun w' hs => by
      have h1 : Sat w M0 [.ow (.slice ay ll[xs.length].length cy) 3 1 ll[xs.length].length (ints ll[xs.length]), un (rowsO xs), .ow va' 22 1 (xs.length + 1) (xs.map (·.1) ++ [.slice ay ll[xs.length].length cy])] w' := hs.sp (by repeat (first | exact Sp.nil | exact Sp.refl _ | refine Sp.cons (by repeat constructor) ?_))
      have h2 := h1.un_in.un_perm (L' := rowsO (xs ++ [(Value.slice ay ll[xs.length].length cy, ll[xs.length])])) (by unfold rowsO; rw [List.map_append]; exact (List.perm_append_comm (l₁ := [_])))
      simpa using h2) ?_
    have e1 : ll.take (xs.length + 1) = ll.take xs.length ++ [ll[xs.length]] := List.take_succ_eq_append_getElem hk2
    have hlen1 : (xs ++ [(Value.slice ay ll[xs.length].length cy, ll[xs.length])]).length = xs.length + 1 := by simp
    refine hK (va', xs ++ [(Value.slice ay ll[xs.length].length cy, ll[xs.length])]) _ _ ⟨by simp only [hlen1]; omega, by simp only [hlen1, e1, List.map_append, hxs]; rfl⟩ (by simp only [hlen1]; omega) ⟨rfl, rfl, rfl, lookI rfl (by simp only [hlen1]; omega), trivial⟩ (Sp.refl _)
  · have hkl : xs.length = ll.length := by omega
    (refine q_exit _ rfl ?_; refine q_seq ?_; refine q_region ?_; (iterate 2 refine ql_pure tabOk rfl rfl ?_); refine q_nil ?_; refine q_ret ?_)
    refine q_fin tabOk rfl (by repeat (first | exact RVs.nil | apply RVs.tmp rfl | apply RVs.cellA rfl rfl (by repeat first | exact .head _ | refine .tail _ ?_) (by rfl) | apply RVs.cell1 rfl rfl (by repeat first | exact .head _ | refine .tail _ ?_))) fun w hs => ?_
    refine ⟨(va, xs), ⟨rfl, by simp only; rw [hxs, hkl, List.take_length]⟩, ?_⟩
    have := hs
    rw [hkl] at this
    exact this

/-- The parts of a copy. -/
def cpK (r : Rg) (vg vd vf vn : Value) (xs : List (Value × List Int)) : List Ck :=
  [.ow vg 3 1 r.group.length (ints r.group), .ow vd 3 1 r.drifts.length (ints r.drifts), .ow vf 3 1 r.first.length (ints r.first), .ow vn 22 1 r.next.length (xs.map (·.1)), un (rowsO xs)]
theorem cp_rg {w : World} {r : Rg} {vg vd vf vn : Value} {xs : List (Value × List Int)} (hx : xs.map (·.2) = r.next) (h : ∀ c ∈ cpK r vg vd vf vn xs, c.p w) : RgC w [.int .i64 r.radius, .int .i64 r.unit, .int .i64 r.clicks, .int .i64 r.total, vg, vd, vf, vn] r := by
  have h1 : w.ownsRow 0 3 1 vg r.group.length (ints r.group) := h _ (.head _)
  have h2 : w.ownsRow 0 3 1 vd r.drifts.length (ints r.drifts) := h _ (.tail _ (.head _))
  have h3 : w.ownsRow 0 3 1 vf r.first.length (ints r.first) := h _ (.tail _ (.tail _ (.head _)))
  have h4 : w.ownsRow 0 22 1 vn r.next.length (xs.map (·.1)) := h _ (.tail _ (.tail _ (.tail _ (.head _))))
  have h5 : (un (rowsO xs)).p w := h _ (.tail _ (.tail _ (.tail _ (.tail _ (.head _)))))
  have k1 := own_rdI h1 rfl
  have k2 := own_rdI h2 rfl
  have k3 := own_rdI h3 rfl
  have k4 := rowsO_rd h5 h4
  rw [hx] at k4
  obtain ⟨a1, c1, rfl, _⟩ := RdI.outI k1
  obtain ⟨a2, c2, rfl, _⟩ := RdI.outI k2
  obtain ⟨a3, c3, rfl, _⟩ := RdI.outI k3
  obtain ⟨a4, c4, rfl, _⟩ := RdII.outI k4
  exact ⟨0, w.heap.size, a1, c1, a2, c2, a3, c3, a4, c4, rfl, k1, k2, k3, k4⟩
set_option maxRecDepth 20000 in
set_option maxHeartbeats 2000000 in
theorem cloneR_ca0 (w : World) (cs : List Value) (r : Rg) (h : RgC w cs r) (hsm : r.Small) :
    Ca Try.prog 17 [.agg cs.toArray] w fun v w' => ∃ x : Value × Value × Value × Value × List (Value × List Int), (v = .agg #[.int .i64 r.radius, .int .i64 r.unit, .int .i64 r.clicks, .int .i64 r.total, x.1, x.2.1, x.2.2.1, x.2.2.2.1] ∧ x.2.2.2.2.map (·.2) = r.next) ∧ Sat w M0 (cpK r x.1 x.2.1 x.2.2.1 x.2.2.2.1 x.2.2.2.2) w' := by
  have h0 := h
  have s1 := hsm.group
  have s2 := hsm.drifts
  have s3 := hsm.first
  have s4 := hsm.next
  have s5 := hsm.rows
  obtain ⟨lo, hi, ag, cg, ad, cd, af, cf, an, cn, rfl, hg, hdr, hf, hn⟩ := h
  refine q_of (Sat.nil w M0) Try.func17 rfl (by simp [Try.ntmps17]) ?_
  (refine q_seq ?_; refine q_region ?_)
  refine ql_box rfl rfl (fun b1 => ?_)
  skip
  refine ql_alloc zero25 rfl (fun b2 => ?_)
  (refine q_nil ?_; refine q_seq ?_)
  refine q_drawS2 12 _ [] [.pt b2 [.int .i64 0, .int .i64 0, .int .i64 0, .int .i64 0, .slice none 0 0, .slice none 0 0, .slice none 0 0, .slice none 0 0] 25] [.pt b1 [.int .i64 r.radius, .int .i64 r.unit, .int .i64 r.clicks, .int .i64 r.total, .slice ag r.group.length cg, .slice ad r.drifts.length cd, .slice af r.first.length cf, .slice an r.next.length cn] 25] (Sp.refl _) (Sp.cons (by repeat constructor) (by repeat (first | exact Sp.nil | exact Sp.refl _ | refine Sp.cons (by repeat constructor) ?_))) (by kernel_rfl) (by kernel_rfl) (by kernel_rfl) fun K1 hK1 => ?_
  (refine qf_pure tabOk rfl rfl rfl ?_; refine qf_loadB tabOk rfl rfl rfl (by repeat first | exact .head _ | refine .tail _ ?_) (by rfl) ?_)
  refine qf_call (β := Value) tabOk [] _ M0 rfl rfl rfl rfl (Sp.refl _) (fun _ h => h.elim) (fun w' hs => cloneI_ca w' lo hi _ r.group (RdE.keep hg hs.chg0) (by omega)) ?_
  rintro _ vg rfl
  (refine qf_pure tabOk rfl rfl rfl ?_; refine qf_loadB tabOk rfl rfl rfl (by repeat first | exact .head _ | refine .tail _ ?_) (by rfl) ?_)
  refine qf_call (β := Value) tabOk [] _ M0 rfl rfl rfl rfl (Sp.refl _) (fun _ h => h.elim) (fun w' hs => cloneI_ca w' lo hi _ r.drifts (RdE.keep hdr hs.chg0) (by omega)) ?_
  rintro _ vd rfl
  (refine qf_pure tabOk rfl rfl rfl ?_; refine qf_loadB tabOk rfl rfl rfl (by repeat first | exact .head _ | refine .tail _ ?_) (by rfl) ?_)
  refine qf_call (β := Value) tabOk [] _ M0 rfl rfl rfl rfl (Sp.refl _) (fun _ h => h.elim) (fun w' hs => cloneI_ca w' lo hi _ r.first (RdE.keep hf hs.chg0) (by omega)) ?_
  rintro _ vf rfl
  (refine qf_pure tabOk rfl rfl rfl ?_; refine qf_loadB tabOk rfl rfl rfl (by repeat first | exact .head _ | refine .tail _ ?_) (by rfl) ?_)
  refine qf_call (β := Value × List (Value × List Int)) (ψ := fun x v => v = x.1 ∧ x.2.map (·.2) = r.next) tabOk [] _ M0 rfl rfl rfl rfl (Sp.refl _) (fun _ h => h.elim) (fun w' hs => cloneAll_ca w' lo hi _ r.next (hn.keep hs.chg0) (by omega) (fun l hl => by have := s5 l hl; omega)) ?_
  rintro ⟨_, xs⟩ vn ⟨rfl, hxs⟩
  dsimp only at hxs ⊢
  (refine qf_nil ?_)
  refine hK1 _ _ [.pt b1 [.int .i64 r.radius, .int .i64 r.unit, .int .i64 r.clicks, .int .i64 r.total, .slice ag r.group.length cg, .slice ad r.drifts.length cd, .slice af r.first.length cf, .slice an r.next.length cn] 25, .ow vg 3 1 r.group.length (ints r.group), .ow vd 3 1 r.drifts.length (ints r.drifts), .ow vf 3 1 r.first.length (ints r.first), .ow vn 22 1 r.next.length (xs.map (·.1)), un (rowsO xs)] (Sp.cons (by repeat constructor) (Sp.cons (by repeat constructor) (Sp.cons (by repeat constructor) (Sp.cons (by repeat constructor) (Sp.cons (by repeat constructor) (Sp.cons (by repeat constructor) (by repeat (first | exact Sp.nil | exact Sp.refl _ | refine Sp.cons (by repeat constructor) ?_)))))))) ?_
  refine qf_fact (fun w hs => hs.slice (v := vg) (by repeat first | exact .head _ | refine .tail _ ?_)) ?_
  rintro ⟨a1, m1, c1, rfl⟩
  refine qf_fact (fun w hs => hs.slice (v := vd) (by repeat first | exact .head _ | refine .tail _ ?_)) ?_
  rintro ⟨a2, m2, c2, rfl⟩
  refine qf_fact (fun w hs => hs.slice (v := vf) (by repeat first | exact .head _ | refine .tail _ ?_)) ?_
  rintro ⟨a3, m3, c3, rfl⟩
  refine qf_fact (fun w hs => hs.slice (v := vn) (by repeat first | exact .head _ | refine .tail _ ?_)) ?_
  rintro ⟨a4, m4, c4, rfl⟩
  (refine qf_pure tabOk rfl rfl rfl ?_; refine qf_st4 tabOk rfl rfl rfl rfl (by repeat constructor) ?_; refine qf_pure tabOk rfl rfl rfl ?_; refine qf_st5 tabOk rfl rfl rfl rfl (by repeat constructor) ?_; refine qf_pure tabOk rfl rfl rfl ?_; refine qf_st6 tabOk rfl rfl rfl rfl (by repeat constructor) ?_; refine qf_pure tabOk rfl rfl rfl ?_; refine qf_st7 tabOk rfl rfl rfl rfl (by repeat constructor) ?_; refine qf_nil ?_; refine q_seq ?_; refine q_region ?_; refine ql_loadAB tabOk rfl rfl rfl (by repeat first | exact .head _ | refine .tail _ ?_) (by rfl) (by rfl) ?_; refine ql_setA tabOk rfl rfl rfl rfl rfl (by repeat constructor) rfl ?_; refine q_nil ?_; refine q_ret ?_)
  refine q_fin tabOk rfl (by repeat (first | exact RVs.nil | apply RVs.tmp rfl | apply RVs.cellA rfl rfl (by repeat first | exact .head _ | refine .tail _ ?_) (by rfl) | apply RVs.cell1 rfl rfl (by repeat first | exact .head _ | refine .tail _ ?_))) fun w hs => ?_
  exact ⟨(_, _, _, _, xs), ⟨rfl, hxs⟩, hs.sp (by repeat (first | exact Sp.nil | exact Sp.refl _ | refine Sp.cons (by repeat constructor) ?_))⟩
end Go.Proofs.Ytohlillcaadidaa

/- Walks: lists of spans that are changed; a copy of a range as one piece. -/
namespace Go.Proofs.Ytohlillcaadidaa
open Go Go.Eng

/-- A copy of a range: where its lists lie. -/
structure Cp (r : Rg) where
  a1 : Option Addr
  c1 : Nat
  a2 : Option Addr
  c2 : Nat
  a3 : Option Addr
  c3 : Nat
  a4 : Option Addr
  c4 : Nat
  xs : List (Value × List Int)
  hx : xs.map (·.2) = r.next
def Cp.K {r : Rg} (x : Cp r) : List Ck := cpK r (.slice x.a1 r.group.length x.c1) (.slice x.a2 r.drifts.length x.c2) (.slice x.a3 r.first.length x.c3) (.slice x.a4 r.next.length x.c4) x.xs
theorem cloneR_cp (w : World) (cs : List Value) (r : Rg) (h : RgC w cs r) (hsm : r.Small) :
    Ca Try.prog 17 [.agg cs.toArray] w fun v w' => ∃ x : Cp r, v = .agg #[.int .i64 r.radius, .int .i64 r.unit, .int .i64 r.clicks, .int .i64 r.total, .slice x.a1 r.group.length x.c1, .slice x.a2 r.drifts.length x.c2, .slice x.a3 r.first.length x.c3, .slice x.a4 r.next.length x.c4] ∧ Sat w M0 [un x.K] w' :=
  (cloneR_ca0 w cs r h hsm).mono fun v w' ⟨(vg, vd, vf, vn, xs), ⟨hv, hx⟩, hs⟩ => by
    dsimp only at hv hx hs
    obtain ⟨a1, c1, rfl⟩ := hs.slice2 (v := vg) (e := 3) (sz := 1) (n := r.group.length) (.head _)
    obtain ⟨a2, c2, rfl⟩ := hs.slice2 (v := vd) (e := 3) (sz := 1) (n := r.drifts.length) (.tail _ (.head _))
    obtain ⟨a3, c3, rfl⟩ := hs.slice2 (v := vf) (e := 3) (sz := 1) (n := r.first.length) (.tail _ (.tail _ (.head _)))
    obtain ⟨a4, c4, rfl⟩ := hs.slice2 (v := vn) (e := 22) (sz := 1) (n := r.next.length) (.tail _ (.tail _ (.tail _ (.head _))))
    exact ⟨⟨a1, c1, a2, c2, a3, c3, a4, c4, xs, hx⟩, hv, Sat.un1.2 hs⟩
/-- Other numbers, the same lists. -/
theorem Cp.at2 {r : Rg} (x : Cp r) (r' : Rg) (hg : r'.group = r.group) (hd : r'.drifts = r.drifts) (hf : r'.first = r.first) (hn : r'.next = r.next) {w0 w : World} {M : Nat → Prop} {H : List Ck} (hs : Sat w0 M H w) (hm : un x.K ∈ H) :
    RgC w [.int .i64 r'.radius, .int .i64 r'.unit, .int .i64 r'.clicks, .int .i64 r'.total, .slice x.a1 r.group.length x.c1, .slice x.a2 r.drifts.length x.c2, .slice x.a3 r.first.length x.c3, .slice x.a4 r.next.length x.c4] r' := by
  refine cp_rg (xs := x.xs) (by rw [hn]; exact x.hx) (fun c hc => (hs.mem hm).1 c ?_)
  unfold Cp.K
  unfold cpK at hc ⊢
  rw [hg, hd, hf, hn] at hc
  exact hc

/-! Spans that are changed in place. -/
end Go.Proofs.Ytohlillcaadidaa

/- Walks: lists compared that are equal; ranges that are too long. -/
namespace Go.Proofs.Ytohlillcaadidaa
open Go Go.Eng

set_option maxHeartbeats 1000000 in
theorem eqI_ca (w : World) (lo hi lo2 hi2 : Nat) (v u : Value) (l : List Int) (h1 : RdI w lo hi v l) (h2 : RdI w lo2 hi2 u l) (hlen : l.length ≤ 1000000) :
    Ca Try.prog 23 [v, u] w fun r w' => r = .bool true ∧ Chg [] w w' := by
  obtain ⟨a, ca, rfl, hsa⟩ := RdI.outI h1
  obtain ⟨b, cb, rfl, hsb⟩ := RdI.outI h2
  refine q_of (Sat.nil w M0) Try.func23 rfl (by simp [Try.ntmps23]) ?_
  (refine q_seq ?_; refine q_region ?_; refine ql_pure tabOk rfl rfl ?_; refine q_nil ?_; (iterate 2 refine q_seq ?_); refine q_region ?_; (iterate 4 refine ql_pure tabOk rfl rfl ?_); refine ql_neqF tabOk rfl rfl rfl (by omega) ?_; refine q_nil ?_; refine q_cond_false rfl ?_; refine q_skip ?_; (iterate 2 refine q_seq ?_); refine q_region ?_; (iterate 3 refine ql_pure tabOk rfl rfl ?_); refine q_nil ?_; refine q_block ?_)
  refine q_loop (σ := Nat) (fun s => s ≤ l.length) (fun s => l.length - s) (fun s => [(0, .slice a l.length ca), (1, .slice b l.length cb), (12, .int .i64 l.length), (13, .int .i64 s)]) (fun _ => []) 0 (by omega) ⟨rfl, rfl, rfl, rfl, trivial⟩ (by repeat (first | exact Sp.nil | exact Sp.refl _ | refine Sp.cons (by repeat constructor) ?_)) ?_
  intro i hi K hK
  (refine q_seq ?_; refine q_region ?_; refine ql_pure tabOk rfl rfl ?_; refine q_nil ?_; refine q_seq ?_)
  refine q_if rfl (fun hc => ?_) (fun hc => ?_)
  · have hi2 : i < l.length := by omega
    clear hc
    obtain ⟨ba, oa, rfl⟩ := hsa (by omega)
    obtain ⟨bb, ob, rfl⟩ := hsb (by omega)
    (refine q_skip ?_; refine q_seq ?_; refine q_block ?_; refine q_seq ?_; refine q_region ?_; (iterate 2 refine ql_pure tabOk rfl rfl ?_); refine q_nil ?_; refine q_seq ?_)
    refine q_draw _ [] (Sp.refl _) (by kernel_rfl) (by kernel_rfl) ?_
    ((iterate 2 refine qf_pure tabOk rfl rfl rfl ?_))
    (refine qf_index tabOk rfl rfl rfl rfl rfl (by omega) (by omega) ?_; refine qf_load1 tabOk rfl rfl rfl (fun w hs => RdI.at (RdE.keep h1 hs.chg0) i hi2) ?_)
    ((iterate 2 refine qf_pure tabOk rfl rfl rfl ?_))
    (refine qf_index tabOk rfl rfl rfl rfl rfl (by omega) (by omega) ?_; refine qf_load1 tabOk rfl rfl rfl (fun w hs => RdI.at (RdE.keep h2 hs.chg0) i hi2) ?_)
    (refine qf_neqF tabOk rfl rfl rfl (by omega) ?_; refine qf_nil ?_; refine q_cond_false rfl ?_; refine q_skip ?_; refine q_blk ?_; refine q_region ?_; refine ql_ar tabOk rfl rfl rfl rfl (by omega) (by omega) ?_; refine ql_pure tabOk rfl rfl ?_; refine q_nil ?_)
    exact hK (i + 1) _ _ (by omega) (by omega) ⟨rfl, rfl, rfl, rfl, trivial⟩ (by repeat (first | exact Sp.nil | exact Sp.refl _ | refine Sp.cons (by repeat constructor) ?_))
  · (refine q_exit _ rfl ?_; refine q_seq ?_; refine q_region ?_; refine ql_pure tabOk rfl rfl ?_; refine q_nil ?_; refine q_ret ?_)
    refine q_fin tabOk rfl (by repeat (first | exact RVs.nil | apply RVs.tmp rfl | apply RVs.cellA rfl rfl (by repeat first | exact .head _ | refine .tail _ ?_) (by rfl) | apply RVs.cell1 rfl rfl (by repeat first | exact .head _ | refine .tail _ ?_))) fun w hs => ?_
    exact ⟨rfl, hs.chg0⟩

set_option maxHeartbeats 1000000 in
theorem eqII_ca (w : World) (lo hi lo2 hi2 : Nat) (v u : Value) (ll : List (List Int)) (h1 : RdII w lo hi v ll) (h2 : RdII w lo2 hi2 u ll) (hlen : ll.length ≤ 1000000) (hrow : ∀ l ∈ ll, l.length ≤ 1000000) :
    Ca Try.prog 90 [v, u] w fun r w' => r = .bool true ∧ Chg [] w w' := by
  obtain ⟨a, ca, rfl, hsa⟩ := RdII.outI h1
  obtain ⟨b, cb, rfl, hsb⟩ := RdII.outI h2
  refine q_of (Sat.nil w M0) Try.func90 rfl (by simp [Try.ntmps90]) ?_
  (refine q_seq ?_; refine q_region ?_; refine ql_pure tabOk rfl rfl ?_; refine q_nil ?_; (iterate 2 refine q_seq ?_); refine q_region ?_; (iterate 4 refine ql_pure tabOk rfl rfl ?_); refine ql_neqF tabOk rfl rfl rfl (by omega) ?_; refine q_nil ?_; refine q_cond_false rfl ?_; refine q_skip ?_; (iterate 2 refine q_seq ?_); refine q_region ?_; (iterate 3 refine ql_pure tabOk rfl rfl ?_); refine q_nil ?_; refine q_block ?_)
  refine q_loop (σ := Nat) (fun s => s ≤ ll.length) (fun s => ll.length - s) (fun s => [(0, .slice a ll.length ca), (1, .slice b ll.length cb), (12, .int .i64 ll.length), (13, .int .i64 s)]) (fun _ => []) 0 (by omega) ⟨rfl, rfl, rfl, rfl, trivial⟩ (by repeat (first | exact Sp.nil | exact Sp.refl _ | refine Sp.cons (by repeat constructor) ?_)) ?_
  intro i hi K hK
  (refine q_seq ?_; refine q_region ?_; refine ql_pure tabOk rfl rfl ?_; refine q_nil ?_; refine q_seq ?_)
  refine q_if rfl (fun hc => ?_) (fun hc => ?_)
  · have hi2 : i < ll.length := by omega
    clear hc
    obtain ⟨ba, oa, rfl⟩ := hsa (by omega)
    obtain ⟨bb, ob, rfl⟩ := hsb (by omega)
    obtain ⟨ar, cr, hr1, hc1⟩ := h1.row i hi2
    obtain ⟨br, dr, hr2, hc2⟩ := h2.row i hi2
    have hrl := hrow _ (List.getElem_mem hi2)
    (refine q_skip ?_; refine q_seq ?_; refine q_block ?_; refine q_seq ?_; refine q_region ?_; (iterate 2 refine ql_pure tabOk rfl rfl ?_); refine q_nil ?_; refine q_seq ?_)
    refine q_draw _ [] (Sp.refl _) (by kernel_rfl) (by kernel_rfl) ?_
    ((iterate 2 refine qf_pure tabOk rfl rfl rfl ?_))
    refine qf_index tabOk rfl rfl rfl rfl rfl (by omega) (by omega) ?_
    refine qf_load1 (v := .slice ar ll[i].length cr) tabOk rfl rfl rfl (fun w' hs => hc1 w' hs.chg0) ?_
    ((iterate 2 refine qf_pure tabOk rfl rfl rfl ?_))
    refine qf_index tabOk rfl rfl rfl rfl rfl (by omega) (by omega) ?_
    refine qf_load1 (v := .slice br ll[i].length dr) tabOk rfl rfl rfl (fun w' hs => hc2 w' hs.chg0) ?_
    skip
    refine qf_callv (val := .bool true) tabOk rfl rfl rfl rfl (fun w hs => ?_) ?_; exact eqI_ca w _ _ _ _ _ _ ll[i] (RdE.keep hr1 hs.chg0) (RdE.keep hr2 hs.chg0) hrl
    (refine qf_pure tabOk rfl rfl rfl ?_; refine qf_nil ?_; refine q_cond_false rfl ?_; refine q_skip ?_; refine q_blk ?_; refine q_region ?_; refine ql_ar tabOk rfl rfl rfl rfl (by omega) (by omega) ?_; refine ql_pure tabOk rfl rfl ?_; refine q_nil ?_)
    exact hK (i + 1) _ _ (by omega) (by omega) ⟨rfl, rfl, rfl, rfl, trivial⟩ (by repeat (first | exact Sp.nil | exact Sp.refl _ | refine Sp.cons (by repeat constructor) ?_))
  · (refine q_exit _ rfl ?_; refine q_seq ?_; refine q_region ?_; refine ql_pure tabOk rfl rfl ?_; refine q_nil ?_; refine q_ret ?_)
    refine q_fin tabOk rfl (by repeat (first | exact RVs.nil | apply RVs.tmp rfl | apply RVs.cellA rfl rfl (by repeat first | exact .head _ | refine .tail _ ?_) (by rfl) | apply RVs.cell1 rfl rfl (by repeat first | exact .head _ | refine .tail _ ?_))) fun w hs => ?_
    exact ⟨rfl, hs.chg0⟩

set_option maxHeartbeats 1000000 in
theorem eqR_ca (w : World) (lo hi lo2 hi2 : Nat) (v u : Value) (l : List (Int × Int)) (h1 : RdS w lo hi v l) (h2 : RdS w lo2 hi2 u l) (hlen : l.length ≤ 1000000) :
    Ca Try.prog 119 [v, u] w fun r w' => r = .bool true ∧ Chg [] w w' := by
  obtain ⟨a, ca, rfl, hsa⟩ := RdS.outI h1
  obtain ⟨b, cb, rfl, hsb⟩ := RdS.outI h2
  refine q_of (Sat.nil w M0) Try.func119 rfl (by simp [Try.ntmps119]) ?_
  (refine q_seq ?_; refine q_region ?_; refine ql_pure tabOk rfl rfl ?_; refine q_nil ?_; (iterate 2 refine q_seq ?_); refine q_region ?_; (iterate 4 refine ql_pure tabOk rfl rfl ?_); refine ql_neqF tabOk rfl rfl rfl (by omega) ?_; refine q_nil ?_; refine q_cond_false rfl ?_; refine q_skip ?_; (iterate 2 refine q_seq ?_); refine q_region ?_; (iterate 3 refine ql_pure tabOk rfl rfl ?_); refine q_nil ?_; refine q_block ?_)
  refine q_loop (σ := Nat) (fun s => s ≤ l.length) (fun s => l.length - s) (fun s => [(0, .slice a l.length ca), (1, .slice b l.length cb), (12, .int .i64 l.length), (13, .int .i64 s)]) (fun _ => []) 0 (by omega) ⟨rfl, rfl, rfl, rfl, trivial⟩ (by repeat (first | exact Sp.nil | exact Sp.refl _ | refine Sp.cons (by repeat constructor) ?_)) ?_
  intro i hi K hK
  (refine q_seq ?_; refine q_region ?_; refine ql_pure tabOk rfl rfl ?_; refine q_nil ?_; refine q_seq ?_)
  refine q_if rfl (fun hc => ?_) (fun hc => ?_)
  · have hi2 : i < l.length := by omega
    clear hc
    obtain ⟨ba, oa, rfl⟩ := hsa (by omega)
    obtain ⟨bb, ob, rfl⟩ := hsb (by omega)
    (refine q_skip ?_; refine q_seq ?_; refine q_block ?_; refine q_seq ?_; refine q_region ?_; (iterate 2 refine ql_pure tabOk rfl rfl ?_); refine q_nil ?_; refine q_seq ?_)
    refine q_draw _ [] (Sp.refl _) (by kernel_rfl) (by kernel_rfl) ?_
    ((iterate 2 refine qf_pure tabOk rfl rfl rfl ?_))
    (refine qf_index tabOk rfl rfl rfl rfl rfl (by omega) (by omega) ?_; refine qf_loadA tabOk rfl rfl rfl rfl (fun w hs => RdS.at (RdE.keep h1 hs.chg0) i hi2) ?_)
    ((iterate 2 refine qf_pure tabOk rfl rfl rfl ?_))
    (refine qf_index tabOk rfl rfl rfl rfl rfl (by omega) (by omega) ?_; refine qf_loadA tabOk rfl rfl rfl rfl (fun w hs => RdS.at (RdE.keep h2 hs.chg0) i hi2) ?_)
    skip
    refine qf_neF [some .i64, some .i64] rat_flat rfl rfl rfl rfl rfl ?_
    rw [eqL_refl]
    (refine qf_nil ?_; refine q_cond_false rfl ?_; refine q_skip ?_; refine q_blk ?_; refine q_region ?_; refine ql_ar tabOk rfl rfl rfl rfl (by omega) (by omega) ?_; refine ql_pure tabOk rfl rfl ?_; refine q_nil ?_)
    exact hK (i + 1) _ _ (by omega) (by omega) ⟨rfl, rfl, rfl, rfl, trivial⟩ (by repeat (first | exact Sp.nil | exact Sp.refl _ | refine Sp.cons (by repeat constructor) ?_))
  · (refine q_exit _ rfl ?_; refine q_seq ?_; refine q_region ?_; refine ql_pure tabOk rfl rfl ?_; refine q_nil ?_; refine q_ret ?_)
    refine q_fin tabOk rfl (by repeat (first | exact RVs.nil | apply RVs.tmp rfl | apply RVs.cellA rfl rfl (by repeat first | exact .head _ | refine .tail _ ?_) (by rfl) | apply RVs.cell1 rfl rfl (by repeat first | exact .head _ | refine .tail _ ?_))) fun w hs => ?_
    exact ⟨rfl, hs.chg0⟩

/-- Lists of fractions that can be read. -/
def RdSS (w : World) (lo hi : Nat) (v : Value) (ll : List (List (Int × Int))) : Prop :=
  ∃ vs, RdE w lo hi v 1 vs ∧ vs.length = ll.length ∧ ∀ i (h : i < vs.length) (h' : i < ll.length), RdS w lo hi vs[i] ll[i]
theorem RdSS.outI {w : World} {lo hi : Nat} {v : Value} {ll : List (List (Int × Int))} (h : RdSS w lo hi v ll) : ∃ a cap, v = .slice a ll.length cap ∧ (0 < ll.length → ∃ b off, a = some ⟨b, off, none⟩) := by
  obtain ⟨vs, h1, h2, _⟩ := h
  rw [← h2]
  exact h1.out
theorem RdSS.row {w : World} {lo hi : Nat} {b off len cap : Nat} {ll : List (List (Int × Int))} (h : RdSS w lo hi (.slice (some ⟨b, off, none⟩) len cap) ll) (i : Nat) (hi' : i < ll.length) :
    ∃ a c, RdS w lo hi (.slice a ll[i].length c) ll[i] ∧ ∀ w', Chg [] w w' → w'.cell? ⟨b, off + i * 1, none⟩ = some (.slice a ll[i].length c) := by
  obtain ⟨vs, h1, h2, h3⟩ := h
  have h4 := h3 i (by omega) hi'
  obtain ⟨a, c, hv, _⟩ := RdS.outI h4
  refine ⟨a, c, hv ▸ h4, fun w' hw => ?_⟩
  rw [← hv]
  exact (h1.keep hw).cell1 i (by omega) (by rw [hv]; rfl)
theorem RdSS.keep {w w' : World} {lo hi : Nat} {v : Value} {ll : List (List (Int × Int))} (h : RdSS w lo hi v ll) (c : Chg [] w w') : RdSS w' lo hi v ll := by
  obtain ⟨vs, h1, h2, h3⟩ := h
  exact ⟨vs, h1.keep c, h2, fun i h h' => RdE.keep (h3 i h h') c⟩

set_option maxHeartbeats 1000000 in
theorem eqRR_ca (w : World) (lo hi lo2 hi2 : Nat) (v u : Value) (ll : List (List (Int × Int))) (h1 : RdSS w lo hi v ll) (h2 : RdSS w lo2 hi2 u ll) (hlen : ll.length ≤ 1000000) (hrow : ∀ l ∈ ll, l.length ≤ 1000000) :
    Ca Try.prog 56 [v, u] w fun r w' => r = .bool true ∧ Chg [] w w' := by
  obtain ⟨a, ca, rfl, hsa⟩ := RdSS.outI h1
  obtain ⟨b, cb, rfl, hsb⟩ := RdSS.outI h2
  refine q_of (Sat.nil w M0) Try.func56 rfl (by simp [Try.ntmps56]) ?_
  (refine q_seq ?_; refine q_region ?_; refine ql_pure tabOk rfl rfl ?_; refine q_nil ?_; (iterate 2 refine q_seq ?_); refine q_region ?_; (iterate 4 refine ql_pure tabOk rfl rfl ?_); refine ql_neqF tabOk rfl rfl rfl (by omega) ?_; refine q_nil ?_; refine q_cond_false rfl ?_; refine q_skip ?_; (iterate 2 refine q_seq ?_); refine q_region ?_; (iterate 3 refine ql_pure tabOk rfl rfl ?_); refine q_nil ?_; refine q_block ?_)
  refine q_loop (σ := Nat) (fun s => s ≤ ll.length) (fun s => ll.length - s) (fun s => [(0, .slice a ll.length ca), (1, .slice b ll.length cb), (12, .int .i64 ll.length), (13, .int .i64 s)]) (fun _ => []) 0 (by omega) ⟨rfl, rfl, rfl, rfl, trivial⟩ (by repeat (first | exact Sp.nil | exact Sp.refl _ | refine Sp.cons (by repeat constructor) ?_)) ?_
  intro i hi K hK
  (refine q_seq ?_; refine q_region ?_; refine ql_pure tabOk rfl rfl ?_; refine q_nil ?_; refine q_seq ?_)
  refine q_if rfl (fun hc => ?_) (fun hc => ?_)
  · have hi2 : i < ll.length := by omega
    clear hc
    obtain ⟨ba, oa, rfl⟩ := hsa (by omega)
    obtain ⟨bb, ob, rfl⟩ := hsb (by omega)
    obtain ⟨ar, cr, hr1, hc1⟩ := h1.row i hi2
    obtain ⟨br, dr, hr2, hc2⟩ := h2.row i hi2
    have hrl := hrow _ (List.getElem_mem hi2)
    (refine q_skip ?_; refine q_seq ?_; refine q_block ?_; refine q_seq ?_; refine q_region ?_; (iterate 2 refine ql_pure tabOk rfl rfl ?_); refine q_nil ?_; refine q_seq ?_)
    refine q_draw _ [] (Sp.refl _) (by kernel_rfl) (by kernel_rfl) ?_
    ((iterate 2 refine qf_pure tabOk rfl rfl rfl ?_))
    refine qf_index tabOk rfl rfl rfl rfl rfl (by omega) (by omega) ?_
    refine qf_load1 (v := .slice ar ll[i].length cr) tabOk rfl rfl rfl (fun w' hs => hc1 w' hs.chg0) ?_
    ((iterate 2 refine qf_pure tabOk rfl rfl rfl ?_))
    refine qf_index tabOk rfl rfl rfl rfl rfl (by omega) (by omega) ?_
    refine qf_load1 (v := .slice br ll[i].length dr) tabOk rfl rfl rfl (fun w' hs => hc2 w' hs.chg0) ?_
    skip
    refine qf_callv (val := .bool true) tabOk rfl rfl rfl rfl (fun w hs => ?_) ?_; exact eqR_ca w _ _ _ _ _ _ ll[i] (RdE.keep hr1 hs.chg0) (RdE.keep hr2 hs.chg0) hrl
    (refine qf_pure tabOk rfl rfl rfl ?_; refine qf_nil ?_; refine q_cond_false rfl ?_; refine q_skip ?_; refine q_blk ?_; refine q_region ?_; refine ql_ar tabOk rfl rfl rfl rfl (by omega) (by omega) ?_; refine ql_pure tabOk rfl rfl ?_; refine q_nil ?_)
    exact hK (i + 1) _ _ (by omega) (by omega) ⟨rfl, rfl, rfl, rfl, trivial⟩ (by repeat (first | exact Sp.nil | exact Sp.refl _ | refine Sp.cons (by repeat constructor) ?_))
  · (refine q_exit _ rfl ?_; refine q_seq ?_; refine q_region ?_; refine ql_pure tabOk rfl rfl ?_; refine q_nil ?_; refine q_ret ?_)
    refine q_fin tabOk rfl (by repeat (first | exact RVs.nil | apply RVs.tmp rfl | apply RVs.cellA rfl rfl (by repeat first | exact .head _ | refine .tail _ ?_) (by rfl) | apply RVs.cell1 rfl rfl (by repeat first | exact .head _ | refine .tail _ ?_))) fun w hs => ?_
    exact ⟨rfl, hs.chg0⟩

/-- A range is longer than what is looked at. -/
theorem long_ca (w : World) (cs : List Value) (r : Rg) (h : RgC w cs r) (hl : r.next.length ≤ maxLen) :
    Ca Try.prog 15 [.agg cs.toArray] w fun v w' => ∃ b : Bool, (v = .bool b ∧ (b = false → r.Small)) ∧ Sat w M0 [] w' := by
  obtain ⟨lo, hi, ag, cg, ad, cd, af, cf, an, cn, rfl, hg, hdr, hf, hn⟩ := h
  obtain ⟨_, _, hsl, hsn⟩ := RdII.outI hn
  cases hsl
  simp only [maxLen] at hl
  refine q_of (Sat.nil w M0) Try.func15 rfl (by simp [Try.ntmps15]) ?_
  (refine q_seq ?_; refine q_region ?_)
  refine ql_box rfl rfl (fun b1 => ?_)
  (refine ql_pure tabOk rfl rfl ?_; refine q_nil ?_; (iterate 2 refine q_seq ?_); refine q_region ?_; refine ql_pure tabOk rfl rfl ?_; refine ql_loadB tabOk rfl rfl rfl (by repeat first | exact .head _ | refine .tail _ ?_) (by rfl) ?_; (iterate 2 refine ql_pure tabOk rfl rfl ?_); refine q_nil ?_; refine q_block ?_)
  refine q_loop (σ := Nat) (fun k => k ≤ r.next.length ∧ ∀ l ∈ r.next.take k, l.length ≤ 7) (fun k => r.next.length - k) (fun k => [(1, .pointer (some ⟨b1, 0, none⟩)), (6, .slice an r.next.length cn), (7, .int .i64 r.next.length), (8, .int .i64 k)])
    (fun _ => [.pt b1 [.int .i64 r.radius, .int .i64 r.unit, .int .i64 r.clicks, .int .i64 r.total, .slice ag r.group.length cg, .slice ad r.drifts.length cd, .slice af r.first.length cf, .slice an r.next.length cn] 25]) 0 ⟨by omega, by simp⟩ ⟨rfl, rfl, rfl, rfl, trivial⟩ (by repeat (first | exact Sp.nil | exact Sp.refl _ | refine Sp.cons (by repeat constructor) ?_)) ?_
  rintro k ⟨hk, hall⟩ K hK
  (refine q_seq ?_; refine q_region ?_; refine ql_pure tabOk rfl rfl ?_; refine q_nil ?_; refine q_seq ?_)
  refine q_if rfl (fun hc => ?_) (fun hc => ?_)
  · have hk2 : k < r.next.length := by omega
    clear hc
    obtain ⟨bs, off, rfl⟩ := hsn (by omega)
    obtain ⟨ar, cr, hrow, hcell⟩ := hn.row k hk2
    (refine q_skip ?_; refine q_seq ?_; refine q_block ?_; refine q_seq ?_; refine q_region ?_)
    refine ql_index tabOk rfl rfl rfl rfl rfl (by omega) (by omega) ?_
    refine ql_load1 (v := .slice ar r.next[k].length cr) tabOk rfl rfl rfl (fun w' hs => hcell w' hs.chg0) ?_
    (refine ql_pure tabOk rfl rfl ?_; refine q_nil ?_; refine q_seq ?_; refine q_region ?_; (iterate 3 refine ql_pure tabOk rfl rfl ?_); refine q_nil ?_)
    refine q_if rfl (fun hc => ?_) (fun hc => ?_)
    · (refine q_seq ?_; refine q_region ?_; refine ql_pure tabOk rfl rfl ?_; refine q_nil ?_; refine q_ret ?_)
      refine q_fin tabOk rfl (by repeat (first | exact RVs.nil | apply RVs.tmp rfl | apply RVs.cellA rfl rfl (by repeat first | exact .head _ | refine .tail _ ?_) (by rfl) | apply RVs.cell1 rfl rfl (by repeat first | exact .head _ | refine .tail _ ?_))) fun w hs => ?_
      exact ⟨true, ⟨rfl, fun h => by cases h⟩, hs.keep (Chg.refl _ _) |>.sp .nil⟩
    · (refine q_skip ?_; refine q_blk ?_; refine q_region ?_; refine ql_ar tabOk rfl rfl rfl rfl (by omega) (by omega) ?_; refine ql_pure tabOk rfl rfl ?_; refine q_nil ?_)
      exact hK (k + 1) _ _ ⟨by omega, fun l hm => by
        rw [List.take_succ_eq_append_getElem hk2] at hm
        rcases List.mem_append.1 hm with hm | hm
        · exact hall l hm
        · simp at hm
          subst hm
          omega⟩ (by omega) ⟨rfl, rfl, rfl, rfl, trivial⟩ (by repeat (first | exact Sp.nil | exact Sp.refl _ | refine Sp.cons (by repeat constructor) ?_))
  obtain rfl : k = r.next.length := by omega
  clear hc hK
  rw [List.take_length] at hall
  (refine q_exit _ rfl ?_; refine q_seq ?_; refine q_region ?_; refine ql_pure tabOk rfl rfl ?_; refine ql_loadB tabOk rfl rfl rfl (by repeat first | exact .head _ | refine .tail _ ?_) (by rfl) ?_; (iterate 3 refine ql_pure tabOk rfl rfl ?_))
  refine ql_split rfl rfl (fun hc => ?_) (fun hc => ?_)
  · ((iterate 4 refine ql_gno rfl rfl rfl ?_); (iterate 2 refine ql_pure tabOk rfl rfl ?_); (iterate 4 refine ql_gno rfl rfl rfl ?_); (iterate 2 refine ql_pure tabOk rfl rfl ?_); (iterate 4 refine ql_gno rfl rfl rfl ?_); (iterate 2 refine ql_pure tabOk rfl rfl ?_); refine q_nil ?_; refine q_ret ?_)
    refine q_fin tabOk rfl (by repeat (first | exact RVs.nil | apply RVs.tmp rfl | apply RVs.cellA rfl rfl (by repeat first | exact .head _ | refine .tail _ ?_) (by rfl) | apply RVs.cell1 rfl rfl (by repeat first | exact .head _ | refine .tail _ ?_))) fun w hs => ?_
    exact ⟨true, ⟨rfl, fun h => by cases h⟩, hs.sp .nil⟩
  have c1 := of_decide_eq_false hc
  clear hc
  (refine ql_gyes rfl ?_; refine ql_pure tabOk rfl rfl ?_; refine ql_gyes rfl ?_; refine ql_loadB tabOk rfl rfl rfl (by repeat first | exact .head _ | refine .tail _ ?_) (by rfl) ?_; refine ql_gyes rfl ?_; refine ql_pure tabOk rfl rfl ?_; refine ql_gyes rfl ?_; (iterate 3 refine ql_pure tabOk rfl rfl ?_))
  refine ql_split rfl rfl (fun hc => ?_) (fun hc => ?_)
  · ((iterate 4 refine ql_gno rfl rfl rfl ?_); (iterate 2 refine ql_pure tabOk rfl rfl ?_); (iterate 4 refine ql_gno rfl rfl rfl ?_); (iterate 2 refine ql_pure tabOk rfl rfl ?_); refine q_nil ?_; refine q_ret ?_)
    refine q_fin tabOk rfl (by repeat (first | exact RVs.nil | apply RVs.tmp rfl | apply RVs.cellA rfl rfl (by repeat first | exact .head _ | refine .tail _ ?_) (by rfl) | apply RVs.cell1 rfl rfl (by repeat first | exact .head _ | refine .tail _ ?_))) fun w hs => ?_
    exact ⟨true, ⟨rfl, fun h => by cases h⟩, hs.sp .nil⟩
  have c2 := of_decide_eq_false hc
  clear hc
  (refine ql_gyes rfl ?_; refine ql_pure tabOk rfl rfl ?_; refine ql_gyes rfl ?_; refine ql_loadB tabOk rfl rfl rfl (by repeat first | exact .head _ | refine .tail _ ?_) (by rfl) ?_; refine ql_gyes rfl ?_; refine ql_pure tabOk rfl rfl ?_; refine ql_gyes rfl ?_; (iterate 3 refine ql_pure tabOk rfl rfl ?_))
  refine ql_split rfl rfl (fun hc => ?_) (fun hc => ?_)
  · ((iterate 4 refine ql_gno rfl rfl rfl ?_); (iterate 2 refine ql_pure tabOk rfl rfl ?_); refine q_nil ?_; refine q_ret ?_)
    refine q_fin tabOk rfl (by repeat (first | exact RVs.nil | apply RVs.tmp rfl | apply RVs.cellA rfl rfl (by repeat first | exact .head _ | refine .tail _ ?_) (by rfl) | apply RVs.cell1 rfl rfl (by repeat first | exact .head _ | refine .tail _ ?_))) fun w hs => ?_
    exact ⟨true, ⟨rfl, fun h => by cases h⟩, hs.sp .nil⟩
  have c3 := of_decide_eq_false hc
  clear hc
  (refine ql_gyes rfl ?_; refine ql_pure tabOk rfl rfl ?_; refine ql_gyes rfl ?_; refine ql_loadB tabOk rfl rfl rfl (by repeat first | exact .head _ | refine .tail _ ?_) (by rfl) ?_; refine ql_gyes rfl ?_; refine ql_pure tabOk rfl rfl ?_; refine ql_gyes rfl ?_; (iterate 3 refine ql_pure tabOk rfl rfl ?_); refine q_nil ?_; refine q_ret ?_)
  refine q_fin tabOk rfl (by repeat (first | exact RVs.nil | apply RVs.tmp rfl | apply RVs.cellA rfl rfl (by repeat first | exact .head _ | refine .tail _ ?_) (by rfl) | apply RVs.cell1 rfl rfl (by repeat first | exact .head _ | refine .tail _ ?_))) fun w hs => ?_
  refine ⟨_, ⟨rfl, fun h => ?_⟩, hs.sp .nil⟩
  have c4 := of_decide_eq_false h
  exact ⟨by omega, by omega, by omega, by omega, hall⟩

theorem same_ca (w : World) (cs cs2 : List Value) (r : Rg) (h : RgC w cs r) (h2 : RgC w cs2 r) (hsm : r.Small) :
    Ca Try.prog 28 [.agg cs.toArray, .agg cs2.toArray] w fun v w' => v = .bool true ∧ Chg [] w w' := by
  have s1 := hsm.group
  have s2 := hsm.drifts
  have s3 := hsm.first
  have s4 := hsm.next
  have s5 := hsm.rows
  obtain ⟨lo, hi, ag, cg, ad, cd, af, cf, an, cn, rfl, hg, hdr, hf, hn⟩ := h
  obtain ⟨lo2, hi2, ag2, cg2, ad2, cd2, af2, cf2, an2, cn2, rfl, hg2, hdr2, hf2, hn2⟩ := h2
  refine q_of (Sat.nil w M0) Try.func28 rfl (by simp [Try.ntmps28]) ?_
  (refine q_seq ?_; refine q_region ?_)
  refine ql_box rfl rfl (fun b2 => ?_)
  refine ql_box rfl rfl (fun b3 => ?_)
  (refine ql_pure tabOk rfl rfl ?_; refine q_nil ?_; refine q_seq ?_; refine q_region ?_; refine ql_pure tabOk rfl rfl ?_; refine ql_loadB tabOk rfl rfl rfl (by repeat first | exact .head _ | refine .tail _ ?_) (by rfl) ?_; refine ql_pure tabOk rfl rfl ?_; refine ql_loadB tabOk rfl rfl rfl (by repeat first | exact .head _ | refine .tail _ ?_) (by rfl) ?_; refine ql_eqlT tabOk rfl rfl rfl (by omega) ?_; refine ql_pure tabOk rfl rfl ?_; refine ql_gyes rfl ?_; refine ql_pure tabOk rfl rfl ?_; refine ql_gyes rfl ?_; refine ql_loadB tabOk rfl rfl rfl (by repeat first | exact .head _ | refine .tail _ ?_) (by rfl) ?_; refine ql_gyes rfl ?_; refine ql_pure tabOk rfl rfl ?_; refine ql_gyes rfl ?_; refine ql_loadB tabOk rfl rfl rfl (by repeat first | exact .head _ | refine .tail _ ?_) (by rfl) ?_; refine ql_gyes rfl ?_; refine ql_eqlT tabOk rfl rfl rfl (by omega) ?_; (iterate 2 refine ql_pure tabOk rfl rfl ?_); refine ql_gyes rfl ?_; refine ql_pure tabOk rfl rfl ?_; refine ql_gyes rfl ?_; refine ql_loadB tabOk rfl rfl rfl (by repeat first | exact .head _ | refine .tail _ ?_) (by rfl) ?_; refine ql_gyes rfl ?_; refine ql_pure tabOk rfl rfl ?_; refine ql_gyes rfl ?_; refine ql_loadB tabOk rfl rfl rfl (by repeat first | exact .head _ | refine .tail _ ?_) (by rfl) ?_; refine ql_gyes rfl ?_; refine ql_eqlT tabOk rfl rfl rfl (by omega) ?_; (iterate 2 refine ql_pure tabOk rfl rfl ?_); refine ql_gyes rfl ?_; refine ql_pure tabOk rfl rfl ?_; refine ql_gyes rfl ?_; refine ql_loadB tabOk rfl rfl rfl (by repeat first | exact .head _ | refine .tail _ ?_) (by rfl) ?_; refine ql_gyes rfl ?_; refine ql_pure tabOk rfl rfl ?_; refine ql_gyes rfl ?_; refine ql_loadB tabOk rfl rfl rfl (by repeat first | exact .head _ | refine .tail _ ?_) (by rfl) ?_; refine ql_gyes rfl ?_; refine ql_eqlT tabOk rfl rfl rfl (by omega) ?_; (iterate 2 refine ql_pure tabOk rfl rfl ?_); refine ql_gyes rfl ?_; refine ql_pure tabOk rfl rfl ?_; refine ql_gyes rfl ?_; refine ql_loadB tabOk rfl rfl rfl (by repeat first | exact .head _ | refine .tail _ ?_) (by rfl) ?_; refine ql_gyes rfl ?_; refine ql_pure tabOk rfl rfl ?_; refine ql_gyes rfl ?_; refine ql_loadB tabOk rfl rfl rfl (by repeat first | exact .head _ | refine .tail _ ?_) (by rfl) ?_; refine ql_gyes rfl ?_)
  refine ql_callv (val := .bool true) tabOk rfl rfl rfl rfl (fun w hs => ?_) ?_; exact eqI_ca w _ _ _ _ _ _ r.group (RdE.keep hg hs.chg0) (RdE.keep hg2 hs.chg0) (by omega)
  ((iterate 2 refine ql_pure tabOk rfl rfl ?_); refine ql_gyes rfl ?_; refine ql_pure tabOk rfl rfl ?_; refine ql_gyes rfl ?_; refine ql_loadB tabOk rfl rfl rfl (by repeat first | exact .head _ | refine .tail _ ?_) (by rfl) ?_; refine ql_gyes rfl ?_; refine ql_pure tabOk rfl rfl ?_; refine ql_gyes rfl ?_; refine ql_loadB tabOk rfl rfl rfl (by repeat first | exact .head _ | refine .tail _ ?_) (by rfl) ?_; refine ql_gyes rfl ?_)
  refine ql_callv (val := .bool true) tabOk rfl rfl rfl rfl (fun w hs => ?_) ?_; exact eqI_ca w _ _ _ _ _ _ r.drifts (RdE.keep hdr hs.chg0) (RdE.keep hdr2 hs.chg0) (by omega)
  ((iterate 2 refine ql_pure tabOk rfl rfl ?_); refine ql_gyes rfl ?_; refine ql_pure tabOk rfl rfl ?_; refine ql_gyes rfl ?_; refine ql_loadB tabOk rfl rfl rfl (by repeat first | exact .head _ | refine .tail _ ?_) (by rfl) ?_; refine ql_gyes rfl ?_; refine ql_pure tabOk rfl rfl ?_; refine ql_gyes rfl ?_; refine ql_loadB tabOk rfl rfl rfl (by repeat first | exact .head _ | refine .tail _ ?_) (by rfl) ?_; refine ql_gyes rfl ?_)
  refine ql_callv (val := .bool true) tabOk rfl rfl rfl rfl (fun w hs => ?_) ?_; exact eqI_ca w _ _ _ _ _ _ r.first (RdE.keep hf hs.chg0) (RdE.keep hf2 hs.chg0) (by omega)
  ((iterate 2 refine ql_pure tabOk rfl rfl ?_); refine ql_gyes rfl ?_; refine ql_pure tabOk rfl rfl ?_; refine ql_gyes rfl ?_; refine ql_loadB tabOk rfl rfl rfl (by repeat first | exact .head _ | refine .tail _ ?_) (by rfl) ?_; refine ql_gyes rfl ?_; refine ql_pure tabOk rfl rfl ?_; refine ql_gyes rfl ?_; refine ql_loadB tabOk rfl rfl rfl (by repeat first | exact .head _ | refine .tail _ ?_) (by rfl) ?_; refine ql_gyes rfl ?_)
  refine ql_callv (val := .bool true) tabOk rfl rfl rfl rfl (fun w hs => ?_) ?_; exact eqII_ca w _ _ _ _ _ _ r.next (hn.keep hs.chg0) (hn2.keep hs.chg0) (by omega) (fun l hl => by have := s5 l hl; omega)
  ((iterate 2 refine ql_pure tabOk rfl rfl ?_); refine q_nil ?_; refine q_ret ?_)
  refine q_fin tabOk rfl (by repeat (first | exact RVs.nil | apply RVs.tmp rfl | apply RVs.cellA rfl rfl (by repeat first | exact .head _ | refine .tail _ ?_) (by rfl) | apply RVs.cell1 rfl rfl (by repeat first | exact .head _ | refine .tail _ ?_))) fun w hs => ?_
  exact ⟨rfl, hs.chg0⟩
end Go.Proofs.Ytohlillcaadidaa

/- The walk of WindChances. -/
namespace Go.Proofs.Ytohlillcaadidaa
open Go Go.Eng

theorem chances_no (w : World) (cs : List Value) (r : Rg) (h : RgC w cs r) (hsm : r.Small) (hck : checkV r ≠ 0) :
    Ca Try.prog 54 [.agg cs.toArray] w fun v w' => v = .tuple #[.slice none 0 0, .int .i64 (checkV r)] ∧ Chg [] w w' := by
  have h0 := h
  obtain ⟨lo, hi, ag, cg, ad, cd, af, cf, an, cn, rfl, hg, hdr, hf, hn⟩ := h
  refine q_ofM (Sat.nil w M0) Try.func54 rfl (by simp [Try.ntmps54]) ?_
  (refine q_seq ?_; refine q_region ?_)
  refine ql_box rfl rfl (fun b1 => ?_)
  ((iterate 2 refine ql_pure tabOk rfl rfl ?_); refine q_nil ?_; refine q_seq ?_; refine q_region ?_; refine ql_loadAB tabOk rfl rfl rfl (by repeat first | exact .head _ | refine .tail _ ?_) (by rfl) (by rfl) ?_)
  refine ql_callv (val := .tuple #[.pointer none, .int .i64 (checkV r)]) tabOk rfl rfl rfl rfl (fun w hs => ?_) ?_; exact opened_no w _ r (h0.keep hs.chg0) hsm hck
  (refine ql_pure tabOk rfl rfl ?_; (iterate 2 refine ql_ext tabOk rfl rfl rfl ?_))
  refine ql_alloc zero123 rfl (fun b4 => ?_)
  (refine ql_set tabOk rfl rfl rfl rfl (by repeat constructor) ?_; refine ql_pure tabOk rfl rfl ?_; refine q_nil ?_; (iterate 2 refine q_seq ?_); refine q_region ?_; refine ql_pure tabOk rfl rfl ?_; refine ql_neqT tabOk rfl rfl rfl (by omega) ?_; refine q_nil ?_; refine q_cond_true rfl ?_; refine q_seq ?_; refine q_region ?_; (iterate 3 refine ql_pure tabOk rfl rfl ?_); refine q_nil ?_; refine q_ret ?_)
  refine q_finM tabOk rfl (by repeat (first | exact RVs.nil | apply RVs.tmp rfl | apply RVs.cellA rfl rfl (by repeat first | exact .head _ | refine .tail _ ?_) (by rfl) | apply RVs.cell1 rfl rfl (by repeat first | exact .head _ | refine .tail _ ?_))) fun w hs => ?_
  exact ⟨rfl, hs.chg0⟩
/-- The chances of the states; none if the range is not right. -/
def chRows (r : Rg) : List (List (Int × Int)) := if checkV r = 0 then (List.range 5).map (rowX r) else []
theorem rdSS_nil (w : World) (hi : Nat) : RdSS w 0 hi (.slice none 0 0) [] := ⟨[], RdE.one ⟨rfl, .inl ⟨.inl rfl, rfl⟩⟩ (by simp), rfl, fun i h => absurd h (by simp)⟩
theorem chK_rd2 {w : World} {r : Rg} {v : Value} {vs : List Value} (h5 : vs.length = 5) (hu : (un (chK r vs)).p w) (ho : w.ownsRow 0 105 1 v 5 vs) : RdSS w 0 w.heap.size v ((List.range 5).map (rowX r)) := by
  have hel : ∀ i (hi : i < vs.length), w.ownsRow 0 42 2 vs[i] r.drifts.length (spC (rowX r i)) := fun i hi => by
    refine hu.1 (.ow vs[i] 42 2 r.drifts.length (spC (rowX r i))) ?_
    unfold chK
    exact List.mem_map.2 ⟨(vs[i], i), by rw [List.mem_zipIdx_iff_getElem?]; simp [hi], rfl⟩
  refine ⟨vs, ?_, by simp [h5], fun i hi hi' => ?_⟩
  · have h1 := ho
    rw [← h5] at h1
    exact RdE.one (own_rd h1) (fun e he => by obtain ⟨i, hi, rfl⟩ := List.getElem_of_mem he; exact own_one' (hel i hi))
  · have h4 : RdS w 0 w.heap.size vs[i] (rowX r i) := by
      refine ⟨?_, fun e he => by obtain ⟨x, _, rfl⟩ := List.mem_map.1 he; rfl⟩
      have h5 := own_rd (hel i hi)
      rw [cells_sp]
      have e : ((rowX r i).map rtV).length = r.drifts.length := by simp [rowX]
      rw [e]
      exact h5
    simpa using h4
theorem chances_u (w : World) (cs : List Value) (r : Rg) (h : RgC w cs r) (hsm : r.Small) :
    Ca Try.prog 54 [.agg cs.toArray] w fun v w' => ∃ x : Value × List Ck, (v = .tuple #[x.1, .int .i64 (checkV r)] ∧ ∀ w'', (∀ c ∈ x.2, c.p w'') → RdSS w'' 0 w''.heap.size x.1 (chRows r)) ∧ Sat w M0 [un x.2] w' := by
  by_cases hck : checkV r = 0
  · refine (chances_r w cs r h hsm ((right_check r).1 hck)).mono fun v w' ⟨x, ⟨h1, h2⟩, h3⟩ => ⟨(x.1, [un (chK r x.2), .ow x.1 105 1 5 x.2]), ⟨by rw [h1, hck], fun w'' hp => ?_⟩, Sat.un1.2 h3⟩
    unfold chRows
    rw [if_pos hck]
    exact chK_rd2 h2 (hp _ (by simp)) (hp (.ow x.1 105 1 5 x.2) (by simp))
  · refine (chances_no w cs r h hsm hck).mono fun v w' ⟨h1, h2⟩ => ⟨(.slice none 0 0, []), ⟨h1, fun w'' _ => ?_⟩, Sat.un1.2 ((Sat.nil w M0).keep h2)⟩
    unfold chRows
    rw [if_neg hck]
    exact rdSS_nil _ _
theorem rchances_u (w : World) (cs : List Value) (r : Rg) (h : RgC w cs r) (hsm : r.Small) :
    Ca Try.prog 55 [.agg cs.toArray] w fun v w' => ∃ x : Value × List Ck, (v = .tuple #[x.1, .int .i64 (checkV r)] ∧ ∀ w'', (∀ c ∈ x.2, c.p w'') → RdSS w'' 0 w''.heap.size x.1 (chRows r)) ∧ Sat w M0 [un x.2] w' := by
  by_cases hck : checkV r = 0
  · refine (rchances_ok w cs r h hsm ((right_check r).1 hck)).mono fun v w' ⟨x, ⟨h1, h2⟩, h3⟩ => ⟨(x.1, [un (chK r x.2), .ow x.1 105 1 5 x.2]), ⟨by rw [h1, hck], fun w'' hp => ?_⟩, Sat.un1.2 h3⟩
    unfold chRows
    rw [if_pos hck]
    exact chK_rd2 h2 (hp _ (by simp)) (hp (.ow x.1 105 1 5 x.2) (by simp))
  · refine (rchances_no w cs r h hsm hck).mono fun v w' ⟨h1, h2⟩ => ⟨(.slice none 0 0, []), ⟨h1, fun w'' _ => ?_⟩, Sat.un1.2 ((Sat.nil w M0).keep h2)⟩
    unfold chRows
    rw [if_neg hck]
    exact rdSS_nil _ _
theorem chRows_len (r : Rg) : (chRows r).length ≤ 5 := by
  unfold chRows
  split <;> simp
theorem chRows_row (r : Rg) (hsm : r.Small) : ∀ l ∈ chRows r, l.length ≤ 1000000 := by
  have := hsm.drifts
  unfold chRows
  split
  · intro l hl
    obtain ⟨k, _, rfl⟩ := List.mem_map.1 hl
    simp [rowX]
    omega
  · simp

set_option maxRecDepth 40000 in
set_option maxHeartbeats 16000000 in
theorem windChances_ca (w : World) (cs : List Value) (r : Rg) (state click : Int) (h : RgC w cs r) (hl : r.next.length ≤ maxLen) :
    Ca Try.prog 10 [.agg cs.toArray, .int .i64 state, .int .i64 click] w fun r w' => r = .bool true ∧ Chg [] w w' := by
  have h0 := h
  obtain ⟨lo, hi, ag, cg, ad, cd, af, cf, an, cn, rfl, hg, hdr, hf, hn⟩ := h
  refine q_of (Sat.nil w M0) Try.func10 rfl (by simp [Try.ntmps10]) ?_
  (refine q_seq ?_; refine q_region ?_)
  refine ql_box rfl rfl (fun b3 => ?_)
  (refine ql_pure tabOk rfl rfl ?_; refine q_nil ?_; (iterate 2 refine q_seq ?_); refine q_region ?_; refine ql_loadAB tabOk rfl rfl rfl (by repeat first | exact .head _ | refine .tail _ ?_) (by rfl) (by rfl) ?_)
  refine ql_call (β := Bool) tabOk [] _ M0 rfl rfl rfl rfl (Sp.refl _) (fun _ h => h.elim) (fun w' hs => long_ca w' _ r (h0.keep hs.chg0) hl) ?_
  rintro b _ ⟨rfl, hsm⟩
  (refine q_nil ?_)
  cases b with
  | true =>
    (refine q_cond_true rfl ?_; refine q_seq ?_; refine q_region ?_)
    refine ql_callv (val := .bool true) tabOk rfl rfl rfl rfl (fun w hs => ?_) ?_; exact awake_ca w
    (refine ql_pure tabOk rfl rfl ?_; refine q_nil ?_; refine q_ret ?_)
    refine q_fin tabOk rfl (by repeat (first | exact RVs.nil | apply RVs.tmp rfl | apply RVs.cellA rfl rfl (by repeat first | exact .head _ | refine .tail _ ?_) (by rfl) | apply RVs.cell1 rfl rfl (by repeat first | exact .head _ | refine .tail _ ?_))) fun w hs => ?_
    exact ⟨rfl, hs.chg0⟩
  | false =>
  replace hsm := hsm rfl
  (refine q_cond_false rfl ?_; refine q_skip ?_; refine q_seq ?_)
  refine q_cut (σ := Nat × Nat × Cp r × Cp r) (fun ⟨b7, b8, x1, x2⟩ => [(1, .int .i64 state), (2, .int .i64 click), (3, .pointer (some ⟨b3, 0, none⟩)), (7, .pointer (some ⟨b7, 0, none⟩)), (8, .pointer (some ⟨b8, 0, none⟩))]) (fun ⟨b7, b8, x1, x2⟩ => [.pt b7 [.int .i64 r.radius, .int .i64 r.unit, .int .i64 r.clicks, .int .i64 r.total, .slice x1.a1 r.group.length x1.c1, .slice x1.a2 r.drifts.length x1.c2, .slice x1.a3 r.first.length x1.c3, .slice x1.a4 r.next.length x1.c4] 25, .pt b8 [.int .i64 r.radius, .int .i64 r.unit, .int .i64 r.clicks, .int .i64 r.total, .slice x2.a1 r.group.length x2.c1, .slice x2.a2 r.drifts.length x2.c2, .slice x2.a3 r.first.length x2.c3, .slice x2.a4 r.next.length x2.c4] 32, un x1.K, un x2.K, .pt b3 [.int .i64 r.radius, .int .i64 r.unit, .int .i64 r.clicks, .int .i64 r.total, .slice ag r.group.length cg, .slice ad r.drifts.length cd, .slice af r.first.length cf, .slice an r.next.length cn] 25]) ?_ (fun K2 hK2 => ?_)
  rotate_left
  · skip
    refine q_drawT (.alt (chainT [0, 1] (.alt (chainT [2, 3] (.alt (chainT [4] (chainT [5] (chainT [6] (chainT [7] (.nil))))) (chainT [5] (chainT [4] (chainT [6] (chainT [7] (.nil))))))) (.alt (chainT [4] (.alt (chainT [2, 3] (chainT [5] (chainT [6] (chainT [7] (.nil))))) (chainT [5] (chainT [2, 3] (chainT [6] (chainT [7] (.nil))))))) (chainT [5] (.alt (chainT [2, 3] (chainT [4] (chainT [6] (chainT [7] (.nil))))) (chainT [4] (chainT [2, 3] (chainT [6] (chainT [7] (.nil)))))))))) (.alt (chainT [4] (.alt (chainT [0, 1] (.alt (chainT [2, 3] (chainT [5] (chainT [6] (chainT [7] (.nil))))) (chainT [5] (chainT [2, 3] (chainT [6] (chainT [7] (.nil))))))) (chainT [5] (chainT [0, 1] (chainT [2, 3] (chainT [6] (chainT [7] (.nil)))))))) (chainT [5] (.alt (chainT [0, 1] (.alt (chainT [2, 3] (chainT [4] (chainT [6] (chainT [7] (.nil))))) (chainT [4] (chainT [2, 3] (chainT [6] (chainT [7] (.nil))))))) (chainT [4] (chainT [0, 1] (chainT [2, 3] (chainT [6] (chainT [7] (.nil)))))))))) _ [] (Sp.refl _) (by kernel_rfl) (by kernel_rfl) ?_
    refine qt_let (σ := Cp r × Cp r × Nat × Nat × Unit) (.nil) (fun ⟨x1, x2, b7, b8, ()⟩ => [(1, .int .i64 state), (2, .int .i64 click), (3, .pointer (some ⟨b3, 0, none⟩)), (21, .agg #[.int .i64 r.radius, .int .i64 r.unit, .int .i64 r.clicks, .int .i64 r.total, .slice x1.a1 r.group.length x1.c1, .slice x1.a2 r.drifts.length x1.c2, .slice x1.a3 r.first.length x1.c3, .slice x1.a4 r.next.length x1.c4]), (23, .agg #[.int .i64 r.radius, .int .i64 r.unit, .int .i64 r.clicks, .int .i64 r.total, .slice x2.a1 r.group.length x2.c1, .slice x2.a2 r.drifts.length x2.c2, .slice x2.a3 r.first.length x2.c3, .slice x2.a4 r.next.length x2.c4]), (7, .pointer (some ⟨b7, 0, none⟩)), (8, .pointer (some ⟨b8, 0, none⟩))]) (fun ⟨x1, x2, b7, b8, ()⟩ => [un x1.K, un x2.K, .pt b7 [.int .i64 r.radius, .int .i64 r.unit, .int .i64 r.clicks, .int .i64 r.total, .slice x1.a1 r.group.length x1.c1, .slice x1.a2 r.drifts.length x1.c2, .slice x1.a3 r.first.length x1.c3, .slice x1.a4 r.next.length x1.c4] 25, .pt b8 [.int .i64 r.radius, .int .i64 r.unit, .int .i64 r.clicks, .int .i64 r.total, .slice x2.a1 r.group.length x2.c1, .slice x2.a2 r.drifts.length x2.c2, .slice x2.a3 r.first.length x2.c3, .slice x2.a4 r.next.length x2.c4] 32]) ?_ (fun hS1_3_4_5_6_7 => ?_)
    · rintro ⟨x1, x2, b7, b8, _⟩
      exact qt_nil (hK2 (b7, b8, x1, x2) _ _ ⟨rfl, rfl, rfl, rfl, rfl, trivial⟩ (by repeat (first | exact Sp.nil | exact Sp.refl _ | refine Sp.cons (by repeat constructor) ?_)))
    refine qt_let (σ := Cp r × Cp r × Nat × Nat × Unit) (chainT [7] (.nil)) (fun ⟨x1, x2, b7, b8, ()⟩ => [(1, .int .i64 state), (2, .int .i64 click), (3, .pointer (some ⟨b3, 0, none⟩)), (21, .agg #[.int .i64 r.radius, .int .i64 r.unit, .int .i64 r.clicks, .int .i64 r.total, .slice x1.a1 r.group.length x1.c1, .slice x1.a2 r.drifts.length x1.c2, .slice x1.a3 r.first.length x1.c3, .slice x1.a4 r.next.length x1.c4]), (23, .agg #[.int .i64 r.radius, .int .i64 r.unit, .int .i64 r.clicks, .int .i64 r.total, .slice x2.a1 r.group.length x2.c1, .slice x2.a2 r.drifts.length x2.c2, .slice x2.a3 r.first.length x2.c3, .slice x2.a4 r.next.length x2.c4]), (7, .pointer (some ⟨b7, 0, none⟩)), (8, .pointer (some ⟨b8, 0, none⟩))]) (fun ⟨x1, x2, b7, b8, ()⟩ => [un x1.K, un x2.K, .pt b7 [.int .i64 r.radius, .int .i64 r.unit, .int .i64 r.clicks, .int .i64 r.total, .slice x1.a1 r.group.length x1.c1, .slice x1.a2 r.drifts.length x1.c2, .slice x1.a3 r.first.length x1.c3, .slice x1.a4 r.next.length x1.c4] 25, .pt b8 [.int .i64 0, .int .i64 0, .int .i64 0, .int .i64 0, .slice none 0 0, .slice none 0 0, .slice none 0 0, .slice none 0 0] 32]) ?_ (fun hS1_3_4_5_6 => ?_)
    · rintro ⟨x1, x2, b7, b8, _⟩
      refine qt_seg (by repeat (first | exact PickL.nil | (apply PickL.cons; rfl))) fun K1 hK1 => ?_
      (refine qf_setA tabOk rfl rfl rfl rfl rfl (by repeat constructor) rfl ?_; refine qf_nil ?_)
      skip
      exact hK1 _ _ (hS1_3_4_5_6_7 ⟨x1, x2, b7, b8, ()⟩ _ _ ⟨rfl, rfl, rfl, rfl, rfl, rfl, rfl, trivial⟩ (by repeat (first | exact Sp.nil | exact Sp.refl _ | refine Sp.cons (by repeat constructor) ?_)))
    refine qt_let (σ := Cp r × Cp r × Nat × Nat × Unit) (chainT [6] (chainT [7] (.nil))) (fun ⟨x1, x2, b7, b8, ()⟩ => [(1, .int .i64 state), (2, .int .i64 click), (3, .pointer (some ⟨b3, 0, none⟩)), (21, .agg #[.int .i64 r.radius, .int .i64 r.unit, .int .i64 r.clicks, .int .i64 r.total, .slice x1.a1 r.group.length x1.c1, .slice x1.a2 r.drifts.length x1.c2, .slice x1.a3 r.first.length x1.c3, .slice x1.a4 r.next.length x1.c4]), (23, .agg #[.int .i64 r.radius, .int .i64 r.unit, .int .i64 r.clicks, .int .i64 r.total, .slice x2.a1 r.group.length x2.c1, .slice x2.a2 r.drifts.length x2.c2, .slice x2.a3 r.first.length x2.c3, .slice x2.a4 r.next.length x2.c4]), (7, .pointer (some ⟨b7, 0, none⟩)), (8, .pointer (some ⟨b8, 0, none⟩))]) (fun ⟨x1, x2, b7, b8, ()⟩ => [un x1.K, un x2.K, .pt b7 [.int .i64 0, .int .i64 0, .int .i64 0, .int .i64 0, .slice none 0 0, .slice none 0 0, .slice none 0 0, .slice none 0 0] 25, .pt b8 [.int .i64 0, .int .i64 0, .int .i64 0, .int .i64 0, .slice none 0 0, .slice none 0 0, .slice none 0 0, .slice none 0 0] 32]) ?_ (fun hS1_3_4_5 => ?_)
    · rintro ⟨x1, x2, b7, b8, _⟩
      refine qt_seg (by repeat (first | exact PickL.nil | (apply PickL.cons; rfl))) fun K1 hK1 => ?_
      (refine qf_setA tabOk rfl rfl rfl rfl rfl (by repeat constructor) rfl ?_; refine qf_nil ?_)
      skip
      exact hK1 _ _ (hS1_3_4_5_6 ⟨x1, x2, b7, b8, ()⟩ _ _ ⟨rfl, rfl, rfl, rfl, rfl, rfl, rfl, trivial⟩ (by repeat (first | exact Sp.nil | exact Sp.refl _ | refine Sp.cons (by repeat constructor) ?_)))
    refine qt_let (σ := Cp r × Cp r × Nat × Unit) (chainT [5] (chainT [6] (chainT [7] (.nil)))) (fun ⟨x1, x2, b7, ()⟩ => [(1, .int .i64 state), (2, .int .i64 click), (3, .pointer (some ⟨b3, 0, none⟩)), (21, .agg #[.int .i64 r.radius, .int .i64 r.unit, .int .i64 r.clicks, .int .i64 r.total, .slice x1.a1 r.group.length x1.c1, .slice x1.a2 r.drifts.length x1.c2, .slice x1.a3 r.first.length x1.c3, .slice x1.a4 r.next.length x1.c4]), (23, .agg #[.int .i64 r.radius, .int .i64 r.unit, .int .i64 r.clicks, .int .i64 r.total, .slice x2.a1 r.group.length x2.c1, .slice x2.a2 r.drifts.length x2.c2, .slice x2.a3 r.first.length x2.c3, .slice x2.a4 r.next.length x2.c4]), (7, .pointer (some ⟨b7, 0, none⟩))]) (fun ⟨x1, x2, b7, ()⟩ => [un x1.K, un x2.K, .pt b7 [.int .i64 0, .int .i64 0, .int .i64 0, .int .i64 0, .slice none 0 0, .slice none 0 0, .slice none 0 0, .slice none 0 0] 25]) ?_ (fun hS1_3_4 => ?_)
    · rintro ⟨x1, x2, b7, _⟩
      refine qt_seg (by repeat (first | exact PickL.nil | (apply PickL.cons; rfl))) fun K1 hK1 => ?_
      skip
      refine qf_alloc zero32 rfl (fun b8 => ?_)
      (refine qf_nil ?_)
      exact hK1 _ _ (hS1_3_4_5 ⟨x1, x2, b7, b8, ()⟩ _ _ ⟨rfl, rfl, rfl, rfl, rfl, rfl, rfl, trivial⟩ (by repeat (first | exact Sp.nil | exact Sp.refl _ | refine Sp.cons (by repeat constructor) ?_)))
    refine qt_let (σ := Cp r × Cp r × Nat × Unit) (chainT [4] (chainT [6] (chainT [7] (.nil)))) (fun ⟨x1, x2, b8, ()⟩ => [(1, .int .i64 state), (2, .int .i64 click), (3, .pointer (some ⟨b3, 0, none⟩)), (21, .agg #[.int .i64 r.radius, .int .i64 r.unit, .int .i64 r.clicks, .int .i64 r.total, .slice x1.a1 r.group.length x1.c1, .slice x1.a2 r.drifts.length x1.c2, .slice x1.a3 r.first.length x1.c3, .slice x1.a4 r.next.length x1.c4]), (23, .agg #[.int .i64 r.radius, .int .i64 r.unit, .int .i64 r.clicks, .int .i64 r.total, .slice x2.a1 r.group.length x2.c1, .slice x2.a2 r.drifts.length x2.c2, .slice x2.a3 r.first.length x2.c3, .slice x2.a4 r.next.length x2.c4]), (8, .pointer (some ⟨b8, 0, none⟩))]) (fun ⟨x1, x2, b8, ()⟩ => [un x1.K, un x2.K, .pt b8 [.int .i64 0, .int .i64 0, .int .i64 0, .int .i64 0, .slice none 0 0, .slice none 0 0, .slice none 0 0, .slice none 0 0] 32]) ?_ (fun hS1_3_5 => ?_)
    · rintro ⟨x1, x2, b8, _⟩
      refine qt_seg (by repeat (first | exact PickL.nil | (apply PickL.cons; rfl))) fun K1 hK1 => ?_
      skip
      refine qf_alloc zero25 rfl (fun b7 => ?_)
      (refine qf_nil ?_)
      exact hK1 _ _ (hS1_3_4_5 ⟨x1, x2, b7, b8, ()⟩ _ _ ⟨rfl, rfl, rfl, rfl, rfl, rfl, rfl, trivial⟩ (by repeat (first | exact Sp.nil | exact Sp.refl _ | refine Sp.cons (by repeat constructor) ?_)))
    refine qt_let (σ := Cp r × Nat × Nat × Unit) (chainT [2, 3] (chainT [6] (chainT [7] (.nil)))) (fun ⟨x1, b7, b8, ()⟩ => [(1, .int .i64 state), (2, .int .i64 click), (3, .pointer (some ⟨b3, 0, none⟩)), (21, .agg #[.int .i64 r.radius, .int .i64 r.unit, .int .i64 r.clicks, .int .i64 r.total, .slice x1.a1 r.group.length x1.c1, .slice x1.a2 r.drifts.length x1.c2, .slice x1.a3 r.first.length x1.c3, .slice x1.a4 r.next.length x1.c4]), (7, .pointer (some ⟨b7, 0, none⟩)), (8, .pointer (some ⟨b8, 0, none⟩))]) (fun ⟨x1, b7, b8, ()⟩ => [un x1.K, .pt b7 [.int .i64 0, .int .i64 0, .int .i64 0, .int .i64 0, .slice none 0 0, .slice none 0 0, .slice none 0 0, .slice none 0 0] 25, .pt b8 [.int .i64 0, .int .i64 0, .int .i64 0, .int .i64 0, .slice none 0 0, .slice none 0 0, .slice none 0 0, .slice none 0 0] 32]) ?_ (fun hS1_4_5 => ?_)
    · rintro ⟨x1, b7, b8, _⟩
      refine qt_seg (by repeat (first | exact PickL.nil | (apply PickL.cons; rfl))) fun K1 hK1 => ?_
      (refine qf_loadAB tabOk rfl rfl rfl (by repeat first | exact .head _ | refine .tail _ ?_) (by rfl) (by rfl) ?_)
      refine qf_call (β := Cp r) tabOk [] _ M0 rfl rfl rfl rfl (Sp.refl _) (fun _ h => h.elim) (fun w' hs => cloneR_cp w' _ r (h0.keep hs.chg0) hsm) ?_
      rintro x2 _ rfl
      (refine qf_nil ?_)
      exact hK1 _ _ (hS1_3_4_5 ⟨x1, x2, b7, b8, ()⟩ _ _ ⟨rfl, rfl, rfl, rfl, rfl, rfl, rfl, trivial⟩ (by repeat (first | exact Sp.nil | exact Sp.refl _ | refine Sp.cons (by repeat constructor) ?_)))
    refine qt_let (σ := Cp r × Cp r × Unit) (.alt (chainT [4] (chainT [5] (chainT [6] (chainT [7] (.nil))))) (chainT [5] (chainT [4] (chainT [6] (chainT [7] (.nil)))))) (fun ⟨x1, x2, ()⟩ => [(1, .int .i64 state), (2, .int .i64 click), (3, .pointer (some ⟨b3, 0, none⟩)), (21, .agg #[.int .i64 r.radius, .int .i64 r.unit, .int .i64 r.clicks, .int .i64 r.total, .slice x1.a1 r.group.length x1.c1, .slice x1.a2 r.drifts.length x1.c2, .slice x1.a3 r.first.length x1.c3, .slice x1.a4 r.next.length x1.c4]), (23, .agg #[.int .i64 r.radius, .int .i64 r.unit, .int .i64 r.clicks, .int .i64 r.total, .slice x2.a1 r.group.length x2.c1, .slice x2.a2 r.drifts.length x2.c2, .slice x2.a3 r.first.length x2.c3, .slice x2.a4 r.next.length x2.c4])]) (fun ⟨x1, x2, ()⟩ => [un x1.K, un x2.K]) ?_ (fun hS1_3 => ?_)
    · rintro ⟨x1, x2, _⟩
      refine qt_alt ?_ ?_
      · skip
        refine qt_seg (by repeat (first | exact PickL.nil | (apply PickL.cons; rfl))) fun K1 hK1 => ?_
        skip
        refine qf_alloc zero25 rfl (fun b7 => ?_)
        (refine qf_nil ?_)
        exact hK1 _ _ (hS1_3_4 ⟨x1, x2, b7, ()⟩ _ _ ⟨rfl, rfl, rfl, rfl, rfl, rfl, trivial⟩ (by repeat (first | exact Sp.nil | exact Sp.refl _ | refine Sp.cons (by repeat constructor) ?_)))
      · skip
        refine qt_seg (by repeat (first | exact PickL.nil | (apply PickL.cons; rfl))) fun K1 hK1 => ?_
        skip
        refine qf_alloc zero32 rfl (fun b8 => ?_)
        (refine qf_nil ?_)
        exact hK1 _ _ (hS1_3_5 ⟨x1, x2, b8, ()⟩ _ _ ⟨rfl, rfl, rfl, rfl, rfl, rfl, trivial⟩ (by repeat (first | exact Sp.nil | exact Sp.refl _ | refine Sp.cons (by repeat constructor) ?_)))
    refine qt_let (σ := Cp r × Nat × Unit) (.alt (chainT [2, 3] (chainT [5] (chainT [6] (chainT [7] (.nil))))) (chainT [5] (chainT [2, 3] (chainT [6] (chainT [7] (.nil)))))) (fun ⟨x1, b7, ()⟩ => [(1, .int .i64 state), (2, .int .i64 click), (3, .pointer (some ⟨b3, 0, none⟩)), (21, .agg #[.int .i64 r.radius, .int .i64 r.unit, .int .i64 r.clicks, .int .i64 r.total, .slice x1.a1 r.group.length x1.c1, .slice x1.a2 r.drifts.length x1.c2, .slice x1.a3 r.first.length x1.c3, .slice x1.a4 r.next.length x1.c4]), (7, .pointer (some ⟨b7, 0, none⟩))]) (fun ⟨x1, b7, ()⟩ => [un x1.K, .pt b7 [.int .i64 0, .int .i64 0, .int .i64 0, .int .i64 0, .slice none 0 0, .slice none 0 0, .slice none 0 0, .slice none 0 0] 25]) ?_ (fun hS1_4 => ?_)
    · rintro ⟨x1, b7, _⟩
      refine qt_alt ?_ ?_
      · skip
        refine qt_seg (by repeat (first | exact PickL.nil | (apply PickL.cons; rfl))) fun K1 hK1 => ?_
        (refine qf_loadAB tabOk rfl rfl rfl (by repeat first | exact .head _ | refine .tail _ ?_) (by rfl) (by rfl) ?_)
        refine qf_call (β := Cp r) tabOk [] _ M0 rfl rfl rfl rfl (Sp.refl _) (fun _ h => h.elim) (fun w' hs => cloneR_cp w' _ r (h0.keep hs.chg0) hsm) ?_
        rintro x2 _ rfl
        (refine qf_nil ?_)
        exact hK1 _ _ (hS1_3_4 ⟨x1, x2, b7, ()⟩ _ _ ⟨rfl, rfl, rfl, rfl, rfl, rfl, trivial⟩ (by repeat (first | exact Sp.nil | exact Sp.refl _ | refine Sp.cons (by repeat constructor) ?_)))
      · skip
        refine qt_seg (by repeat (first | exact PickL.nil | (apply PickL.cons; rfl))) fun K1 hK1 => ?_
        skip
        refine qf_alloc zero32 rfl (fun b8 => ?_)
        (refine qf_nil ?_)
        exact hK1 _ _ (hS1_4_5 ⟨x1, b7, b8, ()⟩ _ _ ⟨rfl, rfl, rfl, rfl, rfl, rfl, trivial⟩ (by repeat (first | exact Sp.nil | exact Sp.refl _ | refine Sp.cons (by repeat constructor) ?_)))
    refine qt_let (σ := Cp r × Nat × Unit) (.alt (chainT [2, 3] (chainT [4] (chainT [6] (chainT [7] (.nil))))) (chainT [4] (chainT [2, 3] (chainT [6] (chainT [7] (.nil)))))) (fun ⟨x1, b8, ()⟩ => [(1, .int .i64 state), (2, .int .i64 click), (3, .pointer (some ⟨b3, 0, none⟩)), (21, .agg #[.int .i64 r.radius, .int .i64 r.unit, .int .i64 r.clicks, .int .i64 r.total, .slice x1.a1 r.group.length x1.c1, .slice x1.a2 r.drifts.length x1.c2, .slice x1.a3 r.first.length x1.c3, .slice x1.a4 r.next.length x1.c4]), (8, .pointer (some ⟨b8, 0, none⟩))]) (fun ⟨x1, b8, ()⟩ => [un x1.K, .pt b8 [.int .i64 0, .int .i64 0, .int .i64 0, .int .i64 0, .slice none 0 0, .slice none 0 0, .slice none 0 0, .slice none 0 0] 32]) ?_ (fun hS1_5 => ?_)
    · rintro ⟨x1, b8, _⟩
      refine qt_alt ?_ ?_
      · skip
        refine qt_seg (by repeat (first | exact PickL.nil | (apply PickL.cons; rfl))) fun K1 hK1 => ?_
        (refine qf_loadAB tabOk rfl rfl rfl (by repeat first | exact .head _ | refine .tail _ ?_) (by rfl) (by rfl) ?_)
        refine qf_call (β := Cp r) tabOk [] _ M0 rfl rfl rfl rfl (Sp.refl _) (fun _ h => h.elim) (fun w' hs => cloneR_cp w' _ r (h0.keep hs.chg0) hsm) ?_
        rintro x2 _ rfl
        (refine qf_nil ?_)
        exact hK1 _ _ (hS1_3_5 ⟨x1, x2, b8, ()⟩ _ _ ⟨rfl, rfl, rfl, rfl, rfl, rfl, trivial⟩ (by repeat (first | exact Sp.nil | exact Sp.refl _ | refine Sp.cons (by repeat constructor) ?_)))
      · skip
        refine qt_seg (by repeat (first | exact PickL.nil | (apply PickL.cons; rfl))) fun K1 hK1 => ?_
        skip
        refine qf_alloc zero25 rfl (fun b7 => ?_)
        (refine qf_nil ?_)
        exact hK1 _ _ (hS1_4_5 ⟨x1, b7, b8, ()⟩ _ _ ⟨rfl, rfl, rfl, rfl, rfl, rfl, trivial⟩ (by repeat (first | exact Sp.nil | exact Sp.refl _ | refine Sp.cons (by repeat constructor) ?_)))
    refine qt_let (σ := Nat × Nat × Unit) (chainT [0, 1] (chainT [2, 3] (chainT [6] (chainT [7] (.nil))))) (fun ⟨b7, b8, ()⟩ => [(1, .int .i64 state), (2, .int .i64 click), (3, .pointer (some ⟨b3, 0, none⟩)), (7, .pointer (some ⟨b7, 0, none⟩)), (8, .pointer (some ⟨b8, 0, none⟩))]) (fun ⟨b7, b8, ()⟩ => [.pt b7 [.int .i64 0, .int .i64 0, .int .i64 0, .int .i64 0, .slice none 0 0, .slice none 0 0, .slice none 0 0, .slice none 0 0] 25, .pt b8 [.int .i64 0, .int .i64 0, .int .i64 0, .int .i64 0, .slice none 0 0, .slice none 0 0, .slice none 0 0, .slice none 0 0] 32]) ?_ (fun hS4_5 => ?_)
    · rintro ⟨b7, b8, _⟩
      refine qt_seg (by repeat (first | exact PickL.nil | (apply PickL.cons; rfl))) fun K1 hK1 => ?_
      (refine qf_loadAB tabOk rfl rfl rfl (by repeat first | exact .head _ | refine .tail _ ?_) (by rfl) (by rfl) ?_)
      refine qf_call (β := Cp r) tabOk [] _ M0 rfl rfl rfl rfl (Sp.refl _) (fun _ h => h.elim) (fun w' hs => cloneR_cp w' _ r (h0.keep hs.chg0) hsm) ?_
      rintro x1 _ rfl
      (refine qf_nil ?_)
      exact hK1 _ _ (hS1_4_5 ⟨x1, b7, b8, ()⟩ _ _ ⟨rfl, rfl, rfl, rfl, rfl, rfl, trivial⟩ (by repeat (first | exact Sp.nil | exact Sp.refl _ | refine Sp.cons (by repeat constructor) ?_)))
    refine qt_let (σ := Cp r × Unit) (.alt (chainT [2, 3] (.alt (chainT [4] (chainT [5] (chainT [6] (chainT [7] (.nil))))) (chainT [5] (chainT [4] (chainT [6] (chainT [7] (.nil))))))) (.alt (chainT [4] (.alt (chainT [2, 3] (chainT [5] (chainT [6] (chainT [7] (.nil))))) (chainT [5] (chainT [2, 3] (chainT [6] (chainT [7] (.nil))))))) (chainT [5] (.alt (chainT [2, 3] (chainT [4] (chainT [6] (chainT [7] (.nil))))) (chainT [4] (chainT [2, 3] (chainT [6] (chainT [7] (.nil))))))))) (fun ⟨x1, ()⟩ => [(1, .int .i64 state), (2, .int .i64 click), (3, .pointer (some ⟨b3, 0, none⟩)), (21, .agg #[.int .i64 r.radius, .int .i64 r.unit, .int .i64 r.clicks, .int .i64 r.total, .slice x1.a1 r.group.length x1.c1, .slice x1.a2 r.drifts.length x1.c2, .slice x1.a3 r.first.length x1.c3, .slice x1.a4 r.next.length x1.c4])]) (fun ⟨x1, ()⟩ => [un x1.K]) ?_ (fun hS1 => ?_)
    · rintro ⟨x1, _⟩
      refine qt_alt ?_ (qt_alt ?_ ?_)
      · skip
        refine qt_seg (by repeat (first | exact PickL.nil | (apply PickL.cons; rfl))) fun K1 hK1 => ?_
        (refine qf_loadAB tabOk rfl rfl rfl (by repeat first | exact .head _ | refine .tail _ ?_) (by rfl) (by rfl) ?_)
        refine qf_call (β := Cp r) tabOk [] _ M0 rfl rfl rfl rfl (Sp.refl _) (fun _ h => h.elim) (fun w' hs => cloneR_cp w' _ r (h0.keep hs.chg0) hsm) ?_
        rintro x2 _ rfl
        (refine qf_nil ?_)
        exact hK1 _ _ (hS1_3 ⟨x1, x2, ()⟩ _ _ ⟨rfl, rfl, rfl, rfl, rfl, trivial⟩ (by repeat (first | exact Sp.nil | exact Sp.refl _ | refine Sp.cons (by repeat constructor) ?_)))
      · skip
        refine qt_seg (by repeat (first | exact PickL.nil | (apply PickL.cons; rfl))) fun K1 hK1 => ?_
        skip
        refine qf_alloc zero25 rfl (fun b7 => ?_)
        (refine qf_nil ?_)
        exact hK1 _ _ (hS1_4 ⟨x1, b7, ()⟩ _ _ ⟨rfl, rfl, rfl, rfl, rfl, trivial⟩ (by repeat (first | exact Sp.nil | exact Sp.refl _ | refine Sp.cons (by repeat constructor) ?_)))
      · skip
        refine qt_seg (by repeat (first | exact PickL.nil | (apply PickL.cons; rfl))) fun K1 hK1 => ?_
        skip
        refine qf_alloc zero32 rfl (fun b8 => ?_)
        (refine qf_nil ?_)
        exact hK1 _ _ (hS1_5 ⟨x1, b8, ()⟩ _ _ ⟨rfl, rfl, rfl, rfl, rfl, trivial⟩ (by repeat (first | exact Sp.nil | exact Sp.refl _ | refine Sp.cons (by repeat constructor) ?_)))
    refine qt_let (σ := Nat × Unit) (.alt (chainT [0, 1] (.alt (chainT [2, 3] (chainT [5] (chainT [6] (chainT [7] (.nil))))) (chainT [5] (chainT [2, 3] (chainT [6] (chainT [7] (.nil))))))) (chainT [5] (chainT [0, 1] (chainT [2, 3] (chainT [6] (chainT [7] (.nil))))))) (fun ⟨b7, ()⟩ => [(1, .int .i64 state), (2, .int .i64 click), (3, .pointer (some ⟨b3, 0, none⟩)), (7, .pointer (some ⟨b7, 0, none⟩))]) (fun ⟨b7, ()⟩ => [.pt b7 [.int .i64 0, .int .i64 0, .int .i64 0, .int .i64 0, .slice none 0 0, .slice none 0 0, .slice none 0 0, .slice none 0 0] 25]) ?_ (fun hS4 => ?_)
    · rintro ⟨b7, _⟩
      refine qt_alt ?_ ?_
      · skip
        refine qt_seg (by repeat (first | exact PickL.nil | (apply PickL.cons; rfl))) fun K1 hK1 => ?_
        (refine qf_loadAB tabOk rfl rfl rfl (by repeat first | exact .head _ | refine .tail _ ?_) (by rfl) (by rfl) ?_)
        refine qf_call (β := Cp r) tabOk [] _ M0 rfl rfl rfl rfl (Sp.refl _) (fun _ h => h.elim) (fun w' hs => cloneR_cp w' _ r (h0.keep hs.chg0) hsm) ?_
        rintro x1 _ rfl
        (refine qf_nil ?_)
        exact hK1 _ _ (hS1_4 ⟨x1, b7, ()⟩ _ _ ⟨rfl, rfl, rfl, rfl, rfl, trivial⟩ (by repeat (first | exact Sp.nil | exact Sp.refl _ | refine Sp.cons (by repeat constructor) ?_)))
      · skip
        refine qt_seg (by repeat (first | exact PickL.nil | (apply PickL.cons; rfl))) fun K1 hK1 => ?_
        skip
        refine qf_alloc zero32 rfl (fun b8 => ?_)
        (refine qf_nil ?_)
        exact hK1 _ _ (hS4_5 ⟨b7, b8, ()⟩ _ _ ⟨rfl, rfl, rfl, rfl, rfl, trivial⟩ (by repeat (first | exact Sp.nil | exact Sp.refl _ | refine Sp.cons (by repeat constructor) ?_)))
    refine qt_let (σ := Nat × Unit) (.alt (chainT [0, 1] (.alt (chainT [2, 3] (chainT [4] (chainT [6] (chainT [7] (.nil))))) (chainT [4] (chainT [2, 3] (chainT [6] (chainT [7] (.nil))))))) (chainT [4] (chainT [0, 1] (chainT [2, 3] (chainT [6] (chainT [7] (.nil))))))) (fun ⟨b8, ()⟩ => [(1, .int .i64 state), (2, .int .i64 click), (3, .pointer (some ⟨b3, 0, none⟩)), (8, .pointer (some ⟨b8, 0, none⟩))]) (fun ⟨b8, ()⟩ => [.pt b8 [.int .i64 0, .int .i64 0, .int .i64 0, .int .i64 0, .slice none 0 0, .slice none 0 0, .slice none 0 0, .slice none 0 0] 32]) ?_ (fun hS5 => ?_)
    · rintro ⟨b8, _⟩
      refine qt_alt ?_ ?_
      · skip
        refine qt_seg (by repeat (first | exact PickL.nil | (apply PickL.cons; rfl))) fun K1 hK1 => ?_
        (refine qf_loadAB tabOk rfl rfl rfl (by repeat first | exact .head _ | refine .tail _ ?_) (by rfl) (by rfl) ?_)
        refine qf_call (β := Cp r) tabOk [] _ M0 rfl rfl rfl rfl (Sp.refl _) (fun _ h => h.elim) (fun w' hs => cloneR_cp w' _ r (h0.keep hs.chg0) hsm) ?_
        rintro x1 _ rfl
        (refine qf_nil ?_)
        exact hK1 _ _ (hS1_5 ⟨x1, b8, ()⟩ _ _ ⟨rfl, rfl, rfl, rfl, rfl, trivial⟩ (by repeat (first | exact Sp.nil | exact Sp.refl _ | refine Sp.cons (by repeat constructor) ?_)))
      · skip
        refine qt_seg (by repeat (first | exact PickL.nil | (apply PickL.cons; rfl))) fun K1 hK1 => ?_
        skip
        refine qf_alloc zero25 rfl (fun b7 => ?_)
        (refine qf_nil ?_)
        exact hK1 _ _ (hS4_5 ⟨b7, b8, ()⟩ _ _ ⟨rfl, rfl, rfl, rfl, rfl, trivial⟩ (by repeat (first | exact Sp.nil | exact Sp.refl _ | refine Sp.cons (by repeat constructor) ?_)))
    refine qt_alt ?_ (qt_alt ?_ ?_)
    · skip
      refine qt_seg (by repeat (first | exact PickL.nil | (apply PickL.cons; rfl))) fun K1 hK1 => ?_
      (refine qf_loadAB tabOk rfl rfl rfl (by repeat first | exact .head _ | refine .tail _ ?_) (by rfl) (by rfl) ?_)
      refine qf_call (β := Cp r) tabOk [] _ M0 rfl rfl rfl rfl (Sp.refl _) (fun _ h => h.elim) (fun w' hs => cloneR_cp w' _ r (h0.keep hs.chg0) hsm) ?_
      rintro x1 _ rfl
      (refine qf_nil ?_)
      exact hK1 _ _ (hS1 ⟨x1, ()⟩ _ _ ⟨rfl, rfl, rfl, rfl, trivial⟩ (by repeat (first | exact Sp.nil | exact Sp.refl _ | refine Sp.cons (by repeat constructor) ?_)))
    · skip
      refine qt_seg (by repeat (first | exact PickL.nil | (apply PickL.cons; rfl))) fun K1 hK1 => ?_
      skip
      refine qf_alloc zero25 rfl (fun b7 => ?_)
      (refine qf_nil ?_)
      exact hK1 _ _ (hS4 ⟨b7, ()⟩ _ _ ⟨rfl, rfl, rfl, rfl, trivial⟩ (by repeat (first | exact Sp.nil | exact Sp.refl _ | refine Sp.cons (by repeat constructor) ?_)))
    · skip
      refine qt_seg (by repeat (first | exact PickL.nil | (apply PickL.cons; rfl))) fun K1 hK1 => ?_
      skip
      refine qf_alloc zero32 rfl (fun b8 => ?_)
      (refine qf_nil ?_)
      exact hK1 _ _ (hS5 ⟨b8, ()⟩ _ _ ⟨rfl, rfl, rfl, rfl, trivial⟩ (by repeat (first | exact Sp.nil | exact Sp.refl _ | refine Sp.cons (by repeat constructor) ?_)))
  rintro ⟨b7, b8, x1, x2⟩
  dsimp only
  ((iterate 2 refine q_seq ?_))
  refine q_draw _ [] (Sp.refl _) (by kernel_rfl) (by kernel_rfl) ?_
  (refine qf_loadAB tabOk rfl rfl rfl (by repeat first | exact .head _ | refine .tail _ ?_) (by rfl) (by rfl) ?_)
  refine qf_callv (val := .int .i64 (checkV r)) tabOk rfl rfl rfl rfl (fun w hs => ?_) ?_; exact check_ca w _ r (Cp.at2 x1 r rfl rfl rfl rfl hs (by repeat first | exact .head _ | refine .tail _ ?_)) hsm
  (refine qf_loadAB tabOk rfl rfl rfl (by repeat first | exact .head _ | refine .tail _ ?_) (by rfl) (by rfl) ?_)
  refine qf_callv (val := .int .i64 (checkV r)) tabOk rfl rfl rfl rfl (fun w hs => ?_) ?_; exact rcheck_ca w _ r (Cp.at2 x2 r rfl rfl rfl rfl hs (by repeat first | exact .head _ | refine .tail _ ?_)) hsm
  (refine qf_neqF tabOk rfl rfl rfl (by omega) ?_; refine qf_nil ?_; refine q_cond_false rfl ?_; refine q_skip ?_; refine q_seq ?_; refine q_region ?_; refine ql_loadAB tabOk rfl rfl rfl (by repeat first | exact .head _ | refine .tail _ ?_) (by rfl) (by rfl) ?_)
  refine ql_call (β := Value × List Ck) (L' := fun x => [un x.2]) tabOk [] _ M0 rfl rfl rfl rfl (Sp.refl _) (fun _ h => h.elim) (fun w' hs => chances_u w' _ r (Cp.at2 x1 r rfl rfl rfl rfl hs (by repeat first | exact .head _ | refine .tail _ ?_)) hsm) ?_
  rintro ⟨va, K1⟩ _ ⟨rfl, hva⟩
  dsimp only at hva ⊢
  (refine ql_pure tabOk rfl rfl ?_; (iterate 2 refine ql_ext tabOk rfl rfl rfl ?_); (iterate 2 refine ql_pure tabOk rfl rfl ?_); refine q_nil ?_; refine q_seq ?_; refine q_region ?_; refine ql_loadAB tabOk rfl rfl rfl (by repeat first | exact .head _ | refine .tail _ ?_) (by rfl) (by rfl) ?_)
  refine ql_call (β := Value × List Ck) (L' := fun x => [un x.2]) tabOk [] _ M0 rfl rfl rfl rfl (Sp.refl _) (fun _ h => h.elim) (fun w' hs => rchances_u w' _ r (Cp.at2 x2 r rfl rfl rfl rfl hs (by repeat first | exact .head _ | refine .tail _ ?_)) hsm) ?_
  rintro ⟨vb, K2⟩ _ ⟨rfl, hvb⟩
  dsimp only at hvb ⊢
  (refine ql_pure tabOk rfl rfl ?_; (iterate 2 refine ql_ext tabOk rfl rfl rfl ?_); (iterate 2 refine ql_pure tabOk rfl rfl ?_); refine q_nil ?_; (iterate 2 refine q_seq ?_); refine q_region ?_; (iterate 2 refine ql_pure tabOk rfl rfl ?_); refine ql_neqF tabOk rfl rfl rfl (by omega) ?_; refine ql_pure tabOk rfl rfl ?_; refine ql_gyes rfl ?_; refine ql_pure tabOk rfl rfl ?_; refine ql_gyes rfl ?_; refine ql_pure tabOk rfl rfl ?_; refine ql_gyes rfl ?_)
  refine ql_callv (val := .bool true) tabOk rfl rfl rfl rfl (fun w hs => ?_) ?_; exact eqRR_ca w _ _ _ _ va vb (chRows r) (hva w (fun c hc => hs.un_mem (L := K1) (by repeat first | exact .head _ | refine .tail _ ?_) hc)) (hvb w (fun c hc => hs.un_mem (L := K2) (by repeat first | exact .head _ | refine .tail _ ?_) hc)) (by have := chRows_len r; omega) (chRows_row r hsm)
  (refine ql_gyes rfl ?_; (iterate 2 refine ql_pure tabOk rfl rfl ?_); refine q_nil ?_; refine q_cond_false rfl ?_; refine q_skip ?_; refine q_seq ?_; refine q_region ?_; refine ql_loadAB tabOk rfl rfl rfl (by repeat first | exact .head _ | refine .tail _ ?_) (by rfl) (by rfl) ?_; (iterate 2 refine ql_pure tabOk rfl rfl ?_))
  refine ql_callv (val := .tuple #[.agg #[.int .i64 (hitV r state click).1.1, .int .i64 (hitV r state click).1.2], .int .i64 (hitV r state click).2]) tabOk rfl rfl rfl rfl (fun w hs => ?_) ?_; exact hit_ca w _ r state click (Cp.at2 x1 r rfl rfl rfl rfl hs (by repeat first | exact .head _ | refine .tail _ ?_)) hsm
  (refine ql_pure tabOk rfl rfl ?_; (iterate 2 refine ql_ext tabOk rfl rfl rfl ?_))
  refine ql_alloc zero42 rfl (fun b13 => ?_)
  (refine ql_setA tabOk rfl rfl rfl rfl rfl (by repeat constructor) rfl ?_; refine ql_pure tabOk rfl rfl ?_; refine q_nil ?_; refine q_seq ?_; refine q_region ?_; refine ql_loadAB tabOk rfl rfl rfl (by repeat first | exact .head _ | refine .tail _ ?_) (by rfl) (by rfl) ?_; (iterate 2 refine ql_pure tabOk rfl rfl ?_))
  refine ql_callv (val := .tuple #[.agg #[.int .i64 (hitV r state click).1.1, .int .i64 (hitV r state click).1.2], .int .i64 (hitV r state click).2]) tabOk rfl rfl rfl rfl (fun w hs => ?_) ?_; exact rhit_ca w _ r state click (Cp.at2 x2 r rfl rfl rfl rfl hs (by repeat first | exact .head _ | refine .tail _ ?_)) hsm
  (refine ql_pure tabOk rfl rfl ?_; (iterate 2 refine ql_ext tabOk rfl rfl rfl ?_))
  refine ql_alloc zero42 rfl (fun b14 => ?_)
  (refine ql_setA tabOk rfl rfl rfl rfl rfl (by repeat constructor) rfl ?_; refine ql_pure tabOk rfl rfl ?_; refine q_nil ?_; (iterate 2 refine q_seq ?_); refine q_region ?_; (iterate 2 refine ql_pure tabOk rfl rfl ?_); refine ql_neqF tabOk rfl rfl rfl (by omega) ?_; refine ql_pure tabOk rfl rfl ?_; refine ql_gyes rfl ?_; refine ql_loadAB tabOk rfl rfl rfl (by repeat first | exact .head _ | refine .tail _ ?_) (by rfl) (by rfl) ?_; refine ql_gyes rfl ?_; refine ql_loadAB tabOk rfl rfl rfl (by repeat first | exact .head _ | refine .tail _ ?_) (by rfl) (by rfl) ?_; refine ql_gyes rfl ?_)
  refine ql_neF [some .i64, some .i64] rat_flat rfl rfl rfl rfl rfl ?_; rw [eqL_refl]
  (refine ql_pure tabOk rfl rfl ?_; refine q_nil ?_; refine q_cond_false rfl ?_; refine q_skip ?_; refine q_seq ?_; refine q_region ?_; refine ql_loadAB tabOk rfl rfl rfl (by repeat first | exact .head _ | refine .tail _ ?_) (by rfl) (by rfl) ?_; refine ql_pure tabOk rfl rfl ?_)
  refine ql_callv (val := .tuple #[.agg #[.int .i64 (expdV r click).1.1, .int .i64 (expdV r click).1.2], .int .i64 (expdV r click).2]) tabOk rfl rfl rfl rfl (fun w hs => ?_) ?_; exact expectedF_ca w _ r click (Cp.at2 x1 r rfl rfl rfl rfl hs (by repeat first | exact .head _ | refine .tail _ ?_)) hsm
  (refine ql_pure tabOk rfl rfl ?_; (iterate 2 refine ql_ext tabOk rfl rfl rfl ?_); refine ql_setA tabOk rfl rfl rfl rfl rfl (by repeat constructor) rfl ?_; refine ql_pure tabOk rfl rfl ?_; refine q_nil ?_; refine q_seq ?_; refine q_region ?_; refine ql_loadAB tabOk rfl rfl rfl (by repeat first | exact .head _ | refine .tail _ ?_) (by rfl) (by rfl) ?_; refine ql_pure tabOk rfl rfl ?_)
  refine ql_callv (val := .tuple #[.agg #[.int .i64 (expdV r click).1.1, .int .i64 (expdV r click).1.2], .int .i64 (expdV r click).2]) tabOk rfl rfl rfl rfl (fun w hs => ?_) ?_; exact rexpectedF_ca w _ r click (Cp.at2 x2 r rfl rfl rfl rfl hs (by repeat first | exact .head _ | refine .tail _ ?_)) hsm
  (refine ql_pure tabOk rfl rfl ?_; (iterate 2 refine ql_ext tabOk rfl rfl rfl ?_); refine ql_setA tabOk rfl rfl rfl rfl rfl (by repeat constructor) rfl ?_; refine ql_pure tabOk rfl rfl ?_; refine q_nil ?_; (iterate 2 refine q_seq ?_); refine q_region ?_; (iterate 2 refine ql_pure tabOk rfl rfl ?_); refine ql_neqF tabOk rfl rfl rfl (by omega) ?_; refine ql_pure tabOk rfl rfl ?_; refine ql_gyes rfl ?_; refine ql_loadAB tabOk rfl rfl rfl (by repeat first | exact .head _ | refine .tail _ ?_) (by rfl) (by rfl) ?_; refine ql_gyes rfl ?_; refine ql_loadAB tabOk rfl rfl rfl (by repeat first | exact .head _ | refine .tail _ ?_) (by rfl) (by rfl) ?_; refine ql_gyes rfl ?_)
  refine ql_neF [some .i64, some .i64] rat_flat rfl rfl rfl rfl rfl ?_; rw [eqL_refl]
  (refine ql_pure tabOk rfl rfl ?_; refine q_nil ?_; refine q_cond_false rfl ?_; refine q_skip ?_; refine q_seq ?_; refine q_region ?_; refine ql_loadAB tabOk rfl rfl rfl (by repeat first | exact .head _ | refine .tail _ ?_) (by rfl) (by rfl) ?_)
  refine ql_callv (val := .tuple #[.int .i64 (bestV r).1, .agg #[.int .i64 (bestV r).2.1.1, .int .i64 (bestV r).2.1.2], .int .i64 (bestV r).2.2]) tabOk rfl rfl rfl rfl (fun w hs => ?_) ?_; exact bestF_ca w _ r (Cp.at2 x1 r rfl rfl rfl rfl hs (by repeat first | exact .head _ | refine .tail _ ?_)) hsm
  (refine ql_pure tabOk rfl rfl ?_; (iterate 3 refine ql_ext tabOk rfl rfl rfl ?_); refine ql_pure tabOk rfl rfl ?_; refine ql_setA tabOk rfl rfl rfl rfl rfl (by repeat constructor) rfl ?_; refine ql_pure tabOk rfl rfl ?_; refine q_nil ?_; refine q_seq ?_; refine q_region ?_; refine ql_loadAB tabOk rfl rfl rfl (by repeat first | exact .head _ | refine .tail _ ?_) (by rfl) (by rfl) ?_)
  refine ql_callv (val := .tuple #[.int .i64 (bestV r).1, .agg #[.int .i64 (bestV r).2.1.1, .int .i64 (bestV r).2.1.2], .int .i64 (bestV r).2.2]) tabOk rfl rfl rfl rfl (fun w hs => ?_) ?_; exact rbest_ca w _ r (Cp.at2 x2 r rfl rfl rfl rfl hs (by repeat first | exact .head _ | refine .tail _ ?_)) hsm
  (refine ql_pure tabOk rfl rfl ?_; (iterate 3 refine ql_ext tabOk rfl rfl rfl ?_); refine ql_pure tabOk rfl rfl ?_; refine ql_setA tabOk rfl rfl rfl rfl rfl (by repeat constructor) rfl ?_; refine ql_pure tabOk rfl rfl ?_; refine q_nil ?_; refine q_seq ?_; refine q_region ?_; (iterate 2 refine ql_pure tabOk rfl rfl ?_); refine ql_eqlT tabOk rfl rfl rfl (by omega) ?_; refine ql_pure tabOk rfl rfl ?_; refine ql_gyes rfl ?_; refine ql_pure tabOk rfl rfl ?_; refine ql_gyes rfl ?_; refine ql_pure tabOk rfl rfl ?_; refine ql_gyes rfl ?_; refine ql_eqlT tabOk rfl rfl rfl (by omega) ?_; (iterate 2 refine ql_pure tabOk rfl rfl ?_); refine ql_gyes rfl ?_; refine ql_loadAB tabOk rfl rfl rfl (by repeat first | exact .head _ | refine .tail _ ?_) (by rfl) (by rfl) ?_; refine ql_gyes rfl ?_; refine ql_loadAB tabOk rfl rfl rfl (by repeat first | exact .head _ | refine .tail _ ?_) (by rfl) (by rfl) ?_; refine ql_gyes rfl ?_)
  refine ql_eqF [some .i64, some .i64] rat_flat rfl rfl rfl rfl rfl ?_; rw [eqL_refl]
  ((iterate 2 refine ql_pure tabOk rfl rfl ?_); refine ql_gyes rfl ?_; refine ql_loadAB tabOk rfl rfl rfl (by repeat first | exact .head _ | refine .tail _ ?_) (by rfl) (by rfl) ?_; refine ql_gyes rfl ?_; refine ql_loadAB tabOk rfl rfl rfl (by repeat first | exact .head _ | refine .tail _ ?_) (by rfl) (by rfl) ?_; refine ql_gyes rfl ?_)
  refine ql_callv (val := .bool true) tabOk rfl rfl rfl rfl (fun w hs => ?_) ?_; exact same_ca w _ _ r (Cp.at2 x1 r rfl rfl rfl rfl hs (by repeat first | exact .head _ | refine .tail _ ?_)) (h0.keep hs.chg0) hsm
  ((iterate 2 refine ql_pure tabOk rfl rfl ?_); refine ql_gyes rfl ?_)
  refine ql_callv (val := .bool true) tabOk rfl rfl rfl rfl (fun w hs => ?_) ?_; exact awake_ca w
  ((iterate 2 refine ql_pure tabOk rfl rfl ?_); refine q_nil ?_; refine q_ret ?_)
  refine q_fin tabOk rfl (by repeat (first | exact RVs.nil | apply RVs.tmp rfl | apply RVs.cellA rfl rfl (by repeat first | exact .head _ | refine .tail _ ?_) (by rfl) | apply RVs.cell1 rfl rfl (by repeat first | exact .head _ | refine .tail _ ?_))) fun w hs => ?_
  exact ⟨rfl, hs.chg0⟩
end Go.Proofs.Ytohlillcaadidaa
