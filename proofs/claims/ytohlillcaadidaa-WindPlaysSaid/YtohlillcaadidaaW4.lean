/- My texts Q10, U0, U1, D1, D2, D3, D4, D5, D6, B13, D7, D8, R1, X0, Y0, X1, X2, X3, X4, X5, X6, X7, X8, X9, X10, X11, Y1, E2, E3, B14, B15, H0, H1, H2, H3, E4, E5, E6, H4, H5, H6, M0, Y2, E8, E9, E10, joined: a claim takes at most 60 files. -/
import Derived.Test.YtohlillcaadidaaW3

/- Walks: Follow. -/
namespace Go.Proofs.Ytohlillcaadidaa
open Go Go.Eng

/-- How far one is. -/
structure FS where
  shot : Nat
  wt : Int
  cl : Int
  misses : Int
  cost : Int
  steps : Int
def stepF (r : Rg) (p : Ru) (offs : List Int) (x : FS) (st : Int) : FS :=
  if x.shot = 5 then x else
  let c := (choV r p x.shot x.wt.toNat st.toNat x.cl).1
  if c.1 then { x with wt := x.wt - 1, cost := x.cost + p.wait, steps := x.steps + 1 }
  else if hitB r (r.drifts.getD st.toNat 0 + offs.getD x.shot 0 + c.2 * r.unit) then { x with shot := x.shot + 1, cl := c.2, cost := x.cost + p.click * max (c.2 - x.cl) (x.cl - c.2), steps := x.steps + 1 }
  else { x with shot := x.shot + 1, cl := c.2, misses := x.misses + 1, cost := x.cost + p.click * max (c.2 - x.cl) (x.cl - c.2) + p.miss, steps := x.steps + 1 }
def endF (r : Rg) (p : Ru) (states offs : List Int) : FS := states.foldl (stepF r p offs) ⟨0, p.waits, 0, 0, 0, 0⟩
/-- What comes of following the plan: misses, cost, steps; the error. -/
def followV (r : Rg) (p : Ru) (states offs : List Int) : (Int × Int × Int) × Int :=
  if rulesV r p ≠ 0 then ((0, 0, 0), rulesV r p) else if (offs.length : Int) ≠ 5 then ((0, 0, 0), 2) else if 5 + p.waits < (states.length : Int) then ((0, 0, 0), 2)
  else if !(states.all (fun n => inB n 0 ((r.drifts.length : Int) - 1))) then ((0, 0, 0), 1) else if !(offs.all (fun n => inB n (-((r.group.length : Int) / 2)) ((r.group.length : Int) / 2))) then ((0, 0, 0), 3)
  else if (endF r p states offs).shot < 5 then ((0, 0, 0), 6) else (((endF r p states offs).misses, (endF r p states offs).cost, (endF r p states offs).steps), 0)

theorem cho_wait {r : Rg} {p : Ru} {shot wt st : Nat} {cl : Int} (h : (choV r p shot wt st cl).1.1 = true) : 0 < wt ∧ (choV r p shot wt st cl).1.2 = 0 := by
  revert h
  unfold choV chV
  simp only
  split
  · split
    · intro _; exact ⟨by assumption, rfl⟩
    · intro h; cases h
  · intro h; cases h
theorem cho_click {r : Rg} {p : Ru} {shot wt st : Nat} {cl : Int} (hc : -r.clicks ≤ cl ∧ cl ≤ r.clicks) (h : (choV r p shot wt st cl).1.1 = false) : -r.clicks ≤ (choV r p shot wt st cl).1.2 ∧ (choV r p shot wt st cl).1.2 ≤ r.clicks := by
  have h2 := (chClick_spec r p (valV r p (shot + 1) wt) shot wt st cl hc).2.1
  revert h
  unfold choV chV
  simp only
  split
  · split
    · intro h; cases h
    · intro _; exact h2
  · intro _; exact h2

structure FOk (r : Rg) (p : Ru) (k : Nat) (x : FS) : Prop where
  shot : x.shot ≤ 5
  wt : 0 ≤ x.wt ∧ x.wt ≤ p.waits
  cl : -r.clicks ≤ x.cl ∧ x.cl ≤ r.clicks
  misses : 0 ≤ x.misses ∧ x.misses ≤ k
  cost : 0 ≤ x.cost ∧ x.cost ≤ 20000 * k
  steps : 0 ≤ x.steps ∧ x.steps ≤ k
theorem stepF_ok {r : Rg} {p : Ru} (hr : r.Right) (hp : p.Right) {offs : List Int} {k : Nat} {x : FS} (h : FOk r p k x) (st : Int) : FOk r p (k + 1) (stepF r p offs x st) := by
  have h1 := h.shot
  have h2 := h.wt
  have h3 := h.cl
  have h4 := h.misses
  have h5 := h.cost
  have h6 := h.steps
  have hC := hr.clicks
  have w1 := hp.wait
  have w2 := hp.miss
  unfold stepF
  split
  · exact ⟨h1, h2, h3, by omega, by omega, by omega⟩
  · rename_i hn
    simp only
    split
    · rename_i hw
      have := (cho_wait hw).1
      refine ⟨h1, ?_, h3, ?_, ?_, ?_⟩ <;> simp only <;> omega
    · rename_i hw
      have hcl := cho_click (r := r) (p := p) (shot := x.shot) (wt := x.wt.toNat) (st := st.toNat) h3 (by simpa using hw)
      have hfar := far_bd hC.2 h3 hcl
      have a1 := mul_bd0 hp.click hfar
      split <;> refine ⟨?_, ?_, hcl, ?_, ?_, ?_⟩ <;> simp only <;> omega
theorem takeF_ok {r : Rg} {p : Ru} (hr : r.Right) (hp : p.Right) (states offs : List Int) : ∀ k, k ≤ states.length → FOk r p k ((states.take k).foldl (stepF r p offs) ⟨0, p.waits, 0, 0, 0, 0⟩)
  | 0, _ => by
    have h1 := hr.clicks
    have h2' : 0 ≤ p.waits ∧ p.waits ≤ p.waits := ⟨hp.waits.1, Int.le_refl _⟩
    exact ⟨by simp, h2' , by simp; omega, by simp, by simp, by simp⟩
  | k + 1, h => by
    rw [List.take_succ_eq_append_getElem (by omega), List.foldl_append]
    exact stepF_ok hr hp (takeF_ok hr hp states offs k (by omega)) _
theorem stepF_5 {r : Rg} {p : Ru} {offs : List Int} (l : List Int) {x : FS} (h : x.shot = 5) : l.foldl (stepF r p offs) x = x := by
  induction l with
  | nil => rfl
  | cons a l ih => rw [List.foldl_cons, show stepF r p offs x a = x by unfold stepF; rw [if_pos h], ih]

theorem follow1_p (w : World) (b : Nat) (t : TypeId) (r : Rg) (cs : List Value) (es : List Int) (hb : Blk w b cs t) (a : Option Addr) (c : Nat) (hc : cs[5]? = some (.slice a r.drifts.length c)) (hs : r.drifts.length ≤ 1000000) : PredAt Try.prog tab w (.func (.func 91) #[] #[.pointer (some ⟨b, 0, none⟩)]) (ints es) (pI 0 ((r.drifts.length : Int) - 1)) := by
  refine ⟨_, _, _, rfl, rfl, fun w' hw' x hx => ?_⟩
  have hb' := hb.keep hw'
  obtain ⟨y, hy, rfl⟩ := List.mem_map.1 hx
  refine q_of (Sat.nil w' M0) Try.func91 rfl (by simp [Try.ntmps91]) ?_
  (refine q_seq ?_; refine q_region ?_; refine ql_pure tabOk rfl rfl ?_; refine q_nil ?_; refine q_seq ?_; refine q_region ?_; (iterate 2 refine ql_pure tabOk rfl rfl ?_))
  refine ql_loadP tabOk rfl rfl rfl hb' hc ?_
  (refine ql_pure tabOk rfl rfl ?_; refine ql_ar tabOk rfl rfl rfl rfl (by omega) (by omega) ?_)
  refine ql_callv tabOk rfl rfl rfl rfl (fun w hs => in_ca y 0 ((r.drifts.length : Int) - 1) w) ?_
  (refine ql_pure tabOk rfl rfl ?_; refine q_nil ?_; refine q_ret ?_)
  refine q_fin tabOk rfl (by repeat (first | exact RVs.nil | apply RVs.tmp rfl | apply RVs.cellA rfl rfl (by repeat first | exact .head _ | refine .tail _ ?_) (by rfl) | apply RVs.cell1 rfl rfl (by repeat first | exact .head _ | refine .tail _ ?_))) fun w hs => ?_
  exact ⟨rfl, hs.chg0⟩
theorem follow2_p (w : World) (b : Nat) (t : TypeId) (far : Int) (es : List Int) (hb : Blk w b [.int .i64 far] t) (hf : 0 ≤ far ∧ far ≤ 1000000) : PredAt Try.prog tab w (.func (.func 92) #[] #[.pointer (some ⟨b, 0, none⟩)]) (ints es) (pI (-far) far) := by
  refine ⟨_, _, _, rfl, rfl, fun w' hw' x hx => ?_⟩
  have hb' := hb.keep hw'
  obtain ⟨y, hy, rfl⟩ := List.mem_map.1 hx
  refine q_of (Sat.nil w' M0) Try.func92 rfl (by simp [Try.ntmps92]) ?_
  (refine q_seq ?_; refine q_region ?_; refine ql_pure tabOk rfl rfl ?_; refine q_nil ?_; refine q_seq ?_; refine q_region ?_; refine ql_pure tabOk rfl rfl ?_; refine ql_loadP tabOk rfl rfl rfl (by assumption) (by rfl) ?_; refine ql_neg tabOk rfl rfl (by omega) (by omega) ?_; refine ql_loadP tabOk rfl rfl rfl (by assumption) (by rfl) ?_)
  refine ql_callv tabOk rfl rfl rfl rfl (fun w hs => in_ca y (-far) far w) ?_
  (refine ql_pure tabOk rfl rfl ?_; refine q_nil ?_; refine q_ret ?_)
  refine q_fin tabOk rfl (by repeat (first | exact RVs.nil | apply RVs.tmp rfl | apply RVs.cellA rfl rfl (by repeat first | exact .head _ | refine .tail _ ?_) (by rfl) | apply RVs.cell1 rfl rfl (by repeat first | exact .head _ | refine .tail _ ?_))) fun w hs => ?_
  exact ⟨rfl, hs.chg0⟩

theorem chc_flat : flatB Try.prog 47 [none, some .i64] = true := by kernel_rfl

set_option maxHeartbeats 4000000 in
theorem follow_ca (w : World) (l0 h1 l2 h2 : Nat) (cs : List Value) (r : Rg) (p : Ru) (vs vo : Value) (states offs : List Int) (h : RgC w cs r) (hsm : r.Small) (hl : RdI w l0 h1 vs states) (hu : RdI w l2 h2 vo offs) (hlen : states.length ≤ 1000000) (hlen2 : offs.length ≤ 1000000) :
    Ca Try.prog 29 [.agg cs.toArray, .agg #[.int .i64 p.miss, .int .i64 p.click, .int .i64 p.wait, .int .i64 p.waits], vs, vo] w fun v w' =>
    v = .tuple #[.agg #[.int .i64 (followV r p states offs).1.1, .int .i64 (followV r p states offs).1.2.1, .int .i64 (followV r p states offs).1.2.2], .int .i64 (followV r p states offs).2] ∧ Chg [] w w' := by
  have h0 := h
  have s2 := hsm.drifts
  have s1 := hsm.group
  obtain ⟨lo, hi, ag, cg, ad, cd, af, cf, an, cn, rfl, hg, hdr, hf, hn⟩ := h
  obtain ⟨av, cv, rfl, hsd⟩ := hl.outI
  obtain ⟨ao, co, rfl, hod⟩ := hu.outI
  refine q_of (Sat.nil w M0) Try.func29 rfl (by simp [Try.ntmps29]) ?_
  (refine q_seq ?_; refine q_region ?_)
  refine ql_box rfl rfl (fun b4 => ?_)
  skip
  refine ql_box rfl rfl (fun b5 => ?_)
  skip
  refine ql_alloc zero55 rfl (fun b8 => ?_)
  (refine ql_pure tabOk rfl rfl ?_; refine q_nil ?_)
  refine q_scope (fun l a w h => h) ?_
  (refine q_seq ?_; refine q_region ?_; (iterate 2 refine ql_loadAB tabOk rfl rfl rfl (by repeat first | exact .head _ | refine .tail _ ?_) (by rfl) (by rfl) ?_))
  by_cases hru : rulesV r p = 0
  · obtain ⟨hck, hp⟩ := (rules_iff r p).1 hru
    have hr := (right_check r).1 hck
    have hC := hr.clicks
    have hW := hp.waits
    have hD := hr.d2
    refine ql_call (β := Nat × Nat × Nat) tabOk [] _ M0 rfl rfl rfl rfl (Sp.refl _) (fun _ h => h.elim) (fun w' hs => begun_ok w' _ r p (h0.keep hs.chg0) hsm hru) ?_
    rintro ⟨bp, bd, bm⟩ _ rfl
    (refine ql_pure tabOk rfl rfl ?_; (iterate 2 refine ql_ext tabOk rfl rfl rfl ?_); (iterate 2 refine ql_pure tabOk rfl rfl ?_); refine q_nil ?_; refine q_seq ?_; refine q_region ?_; refine ql_pure tabOk rfl rfl ?_; refine ql_loadB tabOk rfl rfl rfl (by repeat first | exact .head _ | refine .tail _ ?_) (by rfl) ?_; refine ql_pure tabOk rfl rfl ?_; refine ql_quoN rfl rfl rfl (by omega) (by omega) (by omega) ?_)
    refine ql_alloc zero3 rfl (fun b12 => ?_)
    (refine ql_set tabOk rfl rfl rfl rfl (by repeat constructor) ?_; refine q_nil ?_; refine q_seq ?_; refine q_block ?_; refine q_seq ?_; refine q_region ?_; (iterate 3 refine ql_pure tabOk rfl rfl ?_); refine q_nil ?_; refine q_cond_false rfl ?_; refine q_seq ?_; refine q_region ?_; (iterate 4 refine ql_pure tabOk rfl rfl ?_))
    by_cases ho : (offs.length : Int) = 5
    · rw [decide_eq_true ho]
      (refine ql_gyes rfl ?_; refine ql_pure tabOk rfl rfl ?_; refine ql_gyes rfl ?_; refine ql_pure tabOk rfl rfl ?_; refine ql_gyes rfl ?_; refine ql_pure tabOk rfl rfl ?_; refine ql_gyes rfl ?_; refine ql_loadB tabOk rfl rfl rfl (by repeat first | exact .head _ | refine .tail _ ?_) (by rfl) ?_; refine ql_gyes rfl ?_; refine ql_ar tabOk rfl rfl rfl rfl (by omega) (by omega) ?_; refine ql_gyes rfl ?_; (iterate 3 refine ql_pure tabOk rfl rfl ?_); refine q_nil ?_)
      by_cases hn : 5 + p.waits < (states.length : Int)
      · rw [decide_eq_true hn]
        (refine q_cond_true rfl ?_; refine q_seq ?_; refine q_region ?_)
        refine ql_mk #[.int .i64 0, .int .i64 0, .int .i64 0] rfl (by kernel_rfl) rfl ?_
        (refine ql_setA tabOk rfl rfl rfl rfl rfl (by repeat constructor) rfl ?_; refine ql_pure tabOk rfl rfl ?_; refine q_nil ?_; refine q_ret ?_)
        refine q_fin tabOk rfl (by repeat (first | exact RVs.nil | apply RVs.tmp rfl | apply RVs.cellA rfl rfl (by repeat first | exact .head _ | refine .tail _ ?_) (by rfl) | apply RVs.cell1 rfl rfl (by repeat first | exact .head _ | refine .tail _ ?_))) fun w hs => ?_
        refine ⟨?_, hs.chg0⟩
        have e : followV r p states offs = ((0, 0, 0), 2) := by unfold followV; rw [if_neg (by simpa using hru), if_neg (by simpa using ho), if_pos hn]
        rw [e]; rfl
      rw [decide_eq_false hn]
      (refine q_cond_false rfl ?_; refine q_seq ?_; refine q_region ?_; (iterate 2 refine ql_pure tabOk rfl rfl ?_))
      refine ql_callv (val := .bool (states.all (fun n => inB n 0 ((r.drifts.length : Int) - 1)))) tabOk rfl rfl rfl rfl (fun w hs => ?_) ?_; exact by have := all_int w l0 h1 _ _ (ints states) (pI 0 ((r.drifts.length : Int) - 1)) (RdE.keep hl hs.chg0) (ints_one _) (by simp; omega) (follow1_p w b4 _ r _ states (hs.blk (by repeat first | exact .head _ | refine .tail _ ?_)) ad cd rfl (by omega)); rw [pI_all] at this; exact this
      ((iterate 2 refine ql_pure tabOk rfl rfl ?_); refine q_nil ?_)
      cases hall : states.all (fun n => inB n 0 ((r.drifts.length : Int) - 1)) with
      | false =>
        (refine q_cond_true rfl ?_; refine q_seq ?_; refine q_region ?_)
        refine ql_mk #[.int .i64 0, .int .i64 0, .int .i64 0] rfl (by kernel_rfl) rfl ?_
        (refine ql_setA tabOk rfl rfl rfl rfl rfl (by repeat constructor) rfl ?_; refine ql_pure tabOk rfl rfl ?_; refine q_nil ?_; refine q_ret ?_)
        refine q_fin tabOk rfl (by repeat (first | exact RVs.nil | apply RVs.tmp rfl | apply RVs.cellA rfl rfl (by repeat first | exact .head _ | refine .tail _ ?_) (by rfl) | apply RVs.cell1 rfl rfl (by repeat first | exact .head _ | refine .tail _ ?_))) fun w hs => ?_
        refine ⟨?_, hs.chg0⟩
        have e : followV r p states offs = ((0, 0, 0), 1) := by unfold followV; rw [if_neg (by simpa using hru), if_neg (by simpa using ho), if_neg hn, hall]; rfl
        rw [e]; rfl
      | true =>
        (refine q_cond_false rfl ?_; refine q_seq ?_; refine q_region ?_; (iterate 2 refine ql_pure tabOk rfl rfl ?_))
        refine ql_callv (val := .bool (offs.all (fun n => inB n (-((r.group.length : Int) / 2)) ((r.group.length : Int) / 2)))) tabOk rfl rfl rfl rfl (fun w hs => ?_) ?_; exact by have := all_int w l2 h2 _ _ (ints offs) (pI (-((r.group.length : Int) / 2)) ((r.group.length : Int) / 2)) (RdE.keep hu hs.chg0) (ints_one _) (by simp; omega) (follow2_p w b12 _ _ offs (hs.blk (by repeat first | exact .head _ | refine .tail _ ?_)) (by omega)); rw [pI_all] at this; exact this
        ((iterate 2 refine ql_pure tabOk rfl rfl ?_); refine q_nil ?_)
        cases hall2 : offs.all (fun n => inB n (-((r.group.length : Int) / 2)) ((r.group.length : Int) / 2)) with
        | false =>
          (refine q_cond_true rfl ?_; refine q_seq ?_; refine q_region ?_)
          refine ql_mk #[.int .i64 0, .int .i64 0, .int .i64 0] rfl (by kernel_rfl) rfl ?_
          (refine ql_setA tabOk rfl rfl rfl rfl rfl (by repeat constructor) rfl ?_; refine ql_pure tabOk rfl rfl ?_; refine q_nil ?_; refine q_ret ?_)
          refine q_fin tabOk rfl (by repeat (first | exact RVs.nil | apply RVs.tmp rfl | apply RVs.cellA rfl rfl (by repeat first | exact .head _ | refine .tail _ ?_) (by rfl) | apply RVs.cell1 rfl rfl (by repeat first | exact .head _ | refine .tail _ ?_))) fun w hs => ?_
          refine ⟨?_, hs.chg0⟩
          have e : followV r p states offs = ((0, 0, 0), 3) := by unfold followV; rw [if_neg (by simpa using hru), if_neg (by simpa using ho), if_neg hn, hall, hall2]; rfl
          rw [e]; rfl
        | true =>
          (refine q_cond_false rfl ?_; refine q_skip ?_; refine q_blk ?_; refine q_seq ?_; refine q_region ?_; refine ql_pure tabOk rfl rfl ?_)
          refine ql_call (β := Vf) (ψ := fun vf' v => GoodV r p vf' ∧ ∀ sh wt st cl, (sh, wt, st, cl) ∈ plcL r p → (vf' sh wt st cl).isSome = true) (L' := fun vf' => [mpV bm vf']) tabOk
            [mpV bm (fun _ _ _ _ => none)] _ (· = bm) rfl rfl rfl rfl (Sp.cons (by repeat constructor) (Sp.refl _)) (fun b hb => ⟨_, .head _, hb⟩) (fun w' hs => (fill_ca w' bp bd bm r p hr hp (fun _ _ _ _ => none) ⟨_, hs.blk (b := bp) (by repeat first | exact .head _ | refine .tail _ ?_), _, _, hs.blk (b := bd) (by repeat first | exact .head _ | refine .tail _ ?_), h0.keep hs.chg0⟩ (hs.mem (show mpV bm (fun _ _ _ _ => none) ∈ _ from .head _)) (fun _ _ _ _ _ h => by cases h)).mono fun v w'' ⟨vf', _, g1, g2, g3⟩ => ⟨vf', ⟨g1, g2⟩, g3⟩) ?_
          rintro vf v ⟨hgood, hfull⟩
          (refine q_nil ?_; refine q_seq ?_; refine q_region ?_)
          refine ql_alloc zero55 rfl (fun b13 => ?_)
          (refine q_nil ?_; refine q_seq ?_; refine q_region ?_; refine ql_pure tabOk rfl rfl ?_; refine ql_loadB tabOk rfl rfl rfl (by repeat first | exact .head _ | refine .tail _ ?_) (by rfl) ?_)
          refine ql_mk #[.int .i64 0, .int .i64 p.waits, .int .i64 0, .int .i64 0] rfl (by kernel_rfl) rfl ?_
          refine ql_alloc zero122 rfl (fun b14 => ?_)
          (refine ql_setA tabOk rfl rfl rfl rfl rfl (by repeat constructor) rfl ?_; refine q_nil ?_; refine q_seq ?_; refine q_label ?_; (iterate 2 refine q_seq ?_); refine q_region ?_; (iterate 3 refine ql_pure tabOk rfl rfl ?_); refine q_nil ?_; refine q_block ?_)
          have hst5 : (states.length : Int) ≤ 8 := by omega
          refine q_loop (σ := Nat × Int × FS) (fun s => s.1 ≤ states.length ∧ s.2.2 = (states.take s.1).foldl (stepF r p offs) ⟨0, p.waits, 0, 0, 0, 0⟩) (fun s => states.length - s.1)
            (fun s => [(3, .slice ao offs.length co), (4, .pointer (some ⟨b4, 0, none⟩)), (5, .pointer (some ⟨b5, 0, none⟩)), (8, .pointer (some ⟨b8, 0, none⟩)), (10, .pointer (some ⟨bp, 0, none⟩)), (13, .pointer (some ⟨b13, 0, none⟩)), (14, .pointer (some ⟨b14, 0, none⟩)), (64, .slice av states.length cv), (65, .int .i64 states.length), (66, .int .i64 s.1)])
            (fun s => [.pt b14 [.int .i64 s.2.2.shot, .int .i64 s.2.2.wt, .int .i64 s.2.1, .int .i64 s.2.2.cl] 122, .pt b13 [.int .i64 s.2.2.misses, .int .i64 s.2.2.cost, .int .i64 s.2.2.steps] 55, mpV bm vf, .pt bp [.pointer (some ⟨bd, 0, none⟩), .int .i64 p.miss, .int .i64 p.click, .int .i64 p.wait, .int .i64 p.waits, .map (some bm)] 126,
              .pt bd [.int .i64 r.radius, .int .i64 r.unit, .int .i64 r.clicks, .int .i64 r.total, .slice ag r.group.length cg, .slice ad r.drifts.length cd, .slice af r.first.length cf, .slice an r.next.length cn] 149, .pt b8 [.int .i64 0, .int .i64 0, .int .i64 0] 55, .pt b5 [.int .i64 p.miss, .int .i64 p.click, .int .i64 p.wait, .int .i64 p.waits] 27,
              .pt b4 [.int .i64 r.radius, .int .i64 r.unit, .int .i64 r.clicks, .int .i64 r.total, .slice ag r.group.length cg, .slice ad r.drifts.length cd, .slice af r.first.length cf, .slice an r.next.length cn] 25]) (0, 0, ⟨0, p.waits, 0, 0, 0, 0⟩) ⟨by simp, rfl⟩ ⟨rfl, rfl, rfl, rfl, rfl, rfl, rfl, rfl, rfl, rfl, trivial⟩ (by repeat (first | exact Sp.nil | exact Sp.refl _ | refine Sp.cons (by repeat constructor) ?_)) ?_
          rintro ⟨k, z, sh, wt, cl, mi, co', st'⟩ ⟨hk, hx⟩ K hK
          simp only at hk hx
          have hfo := takeF_ok hr hp states offs k hk
          rw [← hx] at hfo
          have f1 := hfo.shot
          have f2 := hfo.wt
          have f3 := hfo.cl
          have f4 := hfo.misses
          have f5 := hfo.cost
          have f6 := hfo.steps
          simp only at f1 f2 f3 f4 f5 f6
          dsimp only
          (refine q_seq ?_; refine q_region ?_; refine ql_pure tabOk rfl rfl ?_; refine q_nil ?_; refine q_seq ?_)
          refine q_if rfl (fun hc => ?_) (fun hc => ?_)
          · have hk2 : k < states.length := by omega
            clear hc
            obtain ⟨av', cv', hsl, hvd⟩ := RdI.outI hl
            cases hsl
            obtain ⟨bv, ov, rfl⟩ := hvd (by omega)
            obtain ⟨ad', cd', hsl, hdd⟩ := RdI.outI hdr
            cases hsl
            obtain ⟨bdr, odr, rfl⟩ := hdd (by have := hr.d1; omega)
            obtain ⟨ao', co2, hsl, hod2⟩ := RdI.outI hu
            cases hsl
            obtain ⟨bo, oo, rfl⟩ := hod2 (by omega)
            have hsk := inB_iff.1 (List.all_eq_true.1 hall _ (List.getElem_mem hk2))
            obtain ⟨sn, hsn⟩ : ∃ sn : Nat, states[k] = (sn : Int) := ⟨states[k].toNat, by omega⟩
            have hsd2 : sn < r.drifts.length := by omega
            (refine q_skip ?_; refine q_seq ?_; refine q_block ?_; refine q_seq ?_; refine q_region ?_)
            (refine ql_index tabOk rfl rfl rfl rfl rfl (by omega) (by omega) ?_; refine ql_load1 tabOk rfl rfl rfl (fun w hs => RdI.at (RdE.keep hl hs.chg0) k hk2) ?_)
            (refine ql_pure tabOk rfl rfl ?_; refine q_nil ?_; (iterate 2 refine q_seq ?_); refine q_region ?_; refine ql_pure tabOk rfl rfl ?_; refine ql_loadB tabOk rfl rfl rfl (by repeat first | exact .head _ | refine .tail _ ?_) (by rfl) ?_; refine ql_pure tabOk rfl rfl ?_; refine q_nil ?_)
            by_cases h5 : sh = 5
            · rw [decide_eq_true (show (sh : Int) = 5 by omega)]
              have hend : endF r p states offs = ⟨sh, wt, cl, mi, co', st'⟩ := by
                unfold endF
                rw [← List.take_append_drop k states, List.foldl_append, ← hx]
                exact stepF_5 _ h5
              (refine q_cond_true rfl ?_; refine q_exit _ rfl ?_; (iterate 2 refine q_seq ?_); refine q_region ?_; refine ql_pure tabOk rfl rfl ?_; refine ql_loadB tabOk rfl rfl rfl (by repeat first | exact .head _ | refine .tail _ ?_) (by rfl) ?_; refine ql_pure tabOk rfl rfl ?_; refine q_nil ?_)
              refine q_if rfl (fun hc => ?_) (fun hc => ?_)
              · (refine q_seq ?_; refine q_region ?_)
                refine ql_mk #[.int .i64 0, .int .i64 0, .int .i64 0] rfl (by kernel_rfl) rfl ?_
                (refine ql_setA tabOk rfl rfl rfl rfl rfl (by repeat constructor) rfl ?_; refine ql_pure tabOk rfl rfl ?_; refine q_nil ?_; refine q_ret ?_)
                refine q_fin tabOk rfl (by repeat (first | exact RVs.nil | apply RVs.tmp rfl | apply RVs.cellA rfl rfl (by repeat first | exact .head _ | refine .tail _ ?_) (by rfl) | apply RVs.cell1 rfl rfl (by repeat first | exact .head _ | refine .tail _ ?_))) fun w hs => ?_
                refine ⟨?_, hs.chg0⟩
                have e : followV r p states offs = ((0, 0, 0), 6) := by unfold followV; rw [if_neg (by simpa using hru), if_neg (by simpa using ho), if_neg hn, hall, hall2, hend]; exact if_pos (by show sh < 5; omega)
                rw [e]; rfl
              · (refine q_skip ?_; refine q_seq ?_; refine q_region ?_; refine ql_loadAB tabOk rfl rfl rfl (by repeat first | exact .head _ | refine .tail _ ?_) (by rfl) (by rfl) ?_; refine ql_setA tabOk rfl rfl rfl rfl rfl (by repeat constructor) rfl ?_; refine ql_pure tabOk rfl rfl ?_; refine q_nil ?_; refine q_ret ?_)
                refine q_fin tabOk rfl (by repeat (first | exact RVs.nil | apply RVs.tmp rfl | apply RVs.cellA rfl rfl (by repeat first | exact .head _ | refine .tail _ ?_) (by rfl) | apply RVs.cell1 rfl rfl (by repeat first | exact .head _ | refine .tail _ ?_))) fun w hs => ?_
                refine ⟨?_, hs.chg0⟩
                have e : followV r p states offs = ((mi, co', st'), 0) := by unfold followV; rw [if_neg (by simpa using hru), if_neg (by simpa using ho), if_neg hn, hall, hall2, hend]; exact if_neg (by show ¬ sh < 5; omega)
                rw [e]; rfl
            rw [decide_eq_false (show ¬ (sh : Int) = 5 by omega)]
            obtain ⟨ch, hch⟩ : ∃ ch, ch = choV r p sh wt.toNat sn cl := ⟨_, rfl⟩
            have hstep : (states.take (k + 1)).foldl (stepF r p offs) ⟨0, p.waits, 0, 0, 0, 0⟩ = stepF r p offs ⟨sh, wt, cl, mi, co', st'⟩ (sn : Int) := by
              rw [List.take_succ_eq_append_getElem hk2, List.foldl_append, ← hx, hsn]
              rfl
            have hsh : sh < offs.length := by omega
            (refine q_cond_false rfl ?_; refine q_skip ?_; refine q_seq ?_; refine q_region ?_; (iterate 2 refine ql_pure tabOk rfl rfl ?_); refine ql_st2 tabOk rfl rfl rfl rfl (by repeat constructor) ?_; refine q_nil ?_; refine q_seq ?_; refine q_region ?_; refine ql_pure tabOk rfl rfl ?_; refine ql_loadAB tabOk rfl rfl rfl (by repeat first | exact .head _ | refine .tail _ ?_) (by rfl) (by rfl) ?_)
            rw [hsn]
            skip
            refine ql_callv (val := .tuple #[.agg #[.bool ch.1.1, .int .i64 ch.1.2], .int .i64 ch.2]) tabOk rfl rfl rfl rfl (fun w hs => ?_) ?_; exact by have := choose_full w bp bd bm r p vf sh wt.toNat sn cl ⟨_, hs.blk (b := bp) (by repeat first | exact .head _ | refine .tail _ ?_), _, _, hs.blk (b := bd) (by repeat first | exact .head _ | refine .tail _ ?_), h0.keep hs.chg0⟩ (hs.mem (show mpV bm vf ∈ _ from by repeat first | exact .head _ | refine .tail _ ?_)) hr hp hgood hfull (by omega) (by omega) hsd2 f3; rw [← hch, show ((wt.toNat : Nat) : Int) = wt by omega] at this; exact this
            (refine ql_pure tabOk rfl rfl ?_; (iterate 2 refine ql_ext tabOk rfl rfl rfl ?_))
            refine ql_alloc zero47 rfl (fun b17 => ?_)
            (refine ql_setA tabOk rfl rfl rfl rfl rfl (by repeat constructor) rfl ?_; refine ql_pure tabOk rfl rfl ?_; refine q_nil ?_; refine q_seq ?_; refine q_region ?_; refine ql_pure tabOk rfl rfl ?_; refine ql_loadB tabOk rfl rfl rfl (by repeat first | exact .head _ | refine .tail _ ?_) (by rfl) ?_; refine ql_ar tabOk rfl rfl rfl rfl (by omega) (by omega) ?_; refine ql_pure tabOk rfl rfl ?_; refine ql_st2 tabOk rfl rfl rfl rfl (by repeat constructor) ?_; refine q_nil ?_; (iterate 2 refine q_seq ?_); refine q_region ?_; refine ql_loadAB tabOk rfl rfl rfl (by repeat first | exact .head _ | refine .tail _ ?_) (by rfl) (by rfl) ?_)
            refine ql_mk #[.bool true, .int .i64 0] rfl (by kernel_rfl) rfl ?_
            refine ql_eqF (xs := [.bool ch.1.1, .int .i64 ch.1.2]) (ys := [.bool true, .int .i64 0]) [none, some .i64] chc_flat rfl rfl rfl rfl rfl ?_
            (refine q_nil ?_)
            cases hcw : ch.1.1 with
            | true =>
              have hw0 := cho_wait (by rw [← hch]; exact hcw)
              rw [← hch] at hw0
              rw [hw0.2]
              have e1 : stepF r p offs ⟨sh, wt, cl, mi, co', st'⟩ (sn : Int) = ⟨sh, wt - 1, cl, mi, co' + p.wait, st' + 1⟩ := by
                unfold stepF
                rw [if_neg h5]
                simp only [Int.toNat_natCast]
                rw [← hch, if_pos hcw]
              have w1 := hp.wait
              (refine q_cond_true rfl ?_; refine q_seq ?_; refine q_region ?_; refine ql_pure tabOk rfl rfl ?_; refine ql_loadB tabOk rfl rfl rfl (by repeat first | exact .head _ | refine .tail _ ?_) (by rfl) ?_; refine ql_ar tabOk rfl rfl rfl rfl (by omega) (by omega) ?_; refine ql_pure tabOk rfl rfl ?_; refine ql_st1 tabOk rfl rfl rfl rfl (by repeat constructor) ?_; refine q_nil ?_; refine q_seq ?_; refine q_region ?_; refine ql_pure tabOk rfl rfl ?_; refine ql_loadB tabOk rfl rfl rfl (by repeat first | exact .head _ | refine .tail _ ?_) (by rfl) ?_; refine ql_pure tabOk rfl rfl ?_; refine ql_loadB tabOk rfl rfl rfl (by repeat first | exact .head _ | refine .tail _ ?_) (by rfl) ?_; refine ql_ar tabOk rfl rfl rfl rfl (by omega) (by omega) ?_; refine ql_pure tabOk rfl rfl ?_; refine ql_st1 tabOk rfl rfl rfl rfl (by repeat constructor) ?_; refine q_nil ?_; refine q_exit _ rfl ?_; refine q_region ?_; refine ql_ar tabOk rfl rfl rfl rfl (by omega) (by omega) ?_; refine ql_pure tabOk rfl rfl ?_; refine q_nil ?_)
              exact hK (k + 1, sn, ⟨sh, wt - 1, cl, mi, co' + p.wait, st' + 1⟩) _ _ ⟨by simp only; omega, by simp only; rw [hstep, e1]⟩ (by simp only; omega) ⟨rfl, rfl, rfl, rfl, rfl, rfl, rfl, rfl, rfl, rfl, trivial⟩ (by repeat (first | exact Sp.nil | exact Sp.refl _ | refine Sp.cons (by repeat constructor) ?_))
            | false =>
              have hcl := cho_click (r := r) (p := p) (shot := sh) (wt := wt.toNat) (st := sn) f3 (by rw [← hch]; exact hcw)
              rw [← hch] at hcl
              have hfar := far_bd hC.2 f3 hcl
              have a1 := mul_bd0 hp.click hfar
              have hdb := hr.drift _ (List.getElem_mem hsd2)
              have hob := inB_iff.1 (List.all_eq_true.1 hall2 _ (List.getElem_mem hsh))
              have hg2 := hr.g2
              have hun := hr.unit
              have a2 := mul_bd (show -6 ≤ ch.1.2 ∧ ch.1.2 ≤ 6 by omega) (show -20 ≤ r.unit ∧ r.unit ≤ 20 by omega)
              have hgd : r.drifts.getD sn 0 = r.drifts[sn] := by simp [hsd2]
              have hgo : offs.getD sh 0 = offs[sh] := by simp [hsh]
              have w1 := hp.miss
              (refine q_cond_false rfl ?_; refine q_skip ?_; refine q_seq ?_; refine q_region ?_; refine ql_pure tabOk rfl rfl ?_; refine ql_loadB tabOk rfl rfl rfl (by repeat first | exact .head _ | refine .tail _ ?_) (by rfl) ?_; refine ql_pure tabOk rfl rfl ?_; refine ql_loadB tabOk rfl rfl rfl (by repeat first | exact .head _ | refine .tail _ ?_) (by rfl) ?_; refine ql_pure tabOk rfl rfl ?_; refine ql_loadB tabOk rfl rfl rfl (by repeat first | exact .head _ | refine .tail _ ?_) (by rfl) ?_; refine ql_pure tabOk rfl rfl ?_; refine ql_loadB tabOk rfl rfl rfl (by repeat first | exact .head _ | refine .tail _ ?_) (by rfl) ?_; refine ql_ar tabOk rfl rfl rfl rfl (by omega) (by omega) ?_; refine ql_pure tabOk rfl rfl ?_; refine ql_loadB tabOk rfl rfl rfl (by repeat first | exact .head _ | refine .tail _ ?_) (by rfl) ?_; refine ql_pure tabOk rfl rfl ?_; refine ql_loadB tabOk rfl rfl rfl (by repeat first | exact .head _ | refine .tail _ ?_) (by rfl) ?_; refine ql_ar tabOk rfl rfl rfl rfl (by omega) (by omega) ?_; refine ql_pure tabOk rfl rfl ?_; (iterate 2 refine ql_ar tabOk rfl rfl rfl rfl (by omega) (by omega) ?_); refine ql_pure tabOk rfl rfl ?_; refine ql_st1 tabOk rfl rfl rfl rfl (by repeat constructor) ?_; refine q_nil ?_; (iterate 2 refine q_seq ?_); refine q_region ?_; refine ql_pure tabOk rfl rfl ?_; refine ql_loadB tabOk rfl rfl rfl (by repeat first | exact .head _ | refine .tail _ ?_) (by rfl) ?_; refine ql_pure tabOk rfl rfl ?_; refine ql_st3 tabOk rfl rfl rfl rfl (by repeat constructor) ?_; refine q_nil ?_; refine q_seq ?_)
              refine q_draw _ [] (Sp.refl _) (by kernel_rfl) (by kernel_rfl) ?_
              ((iterate 3 refine qf_pure tabOk rfl rfl rfl ?_); refine qf_loadB tabOk rfl rfl rfl (by repeat first | exact .head _ | refine .tail _ ?_) (by rfl) ?_; refine qf_pure tabOk rfl rfl rfl ?_; refine qf_loadB tabOk rfl rfl rfl (by repeat first | exact .head _ | refine .tail _ ?_) (by rfl) ?_; refine qf_pure tabOk rfl rfl rfl ?_)
              (refine qf_index tabOk rfl rfl rfl rfl rfl (by omega) (by omega) ?_; refine qf_load1 tabOk rfl rfl rfl (fun w hs => RdI.at (RdE.keep hdr hs.chg0) sn hsd2) ?_)
              ((iterate 2 refine qf_pure tabOk rfl rfl rfl ?_); refine qf_loadB tabOk rfl rfl rfl (by repeat first | exact .head _ | refine .tail _ ?_) (by rfl) ?_)
              (refine qf_index tabOk rfl rfl rfl rfl rfl (by omega) (by omega) ?_; refine qf_load1 tabOk rfl rfl rfl (fun w hs => RdI.at (RdE.keep hu hs.chg0) sh hsh) ?_)
              (refine qf_ar tabOk rfl rfl rfl rfl (by omega) (by omega) ?_; refine qf_pure tabOk rfl rfl rfl ?_; refine qf_loadB tabOk rfl rfl rfl (by repeat first | exact .head _ | refine .tail _ ?_) (by rfl) ?_; refine qf_pure tabOk rfl rfl rfl ?_; refine qf_loadB tabOk rfl rfl rfl (by repeat first | exact .head _ | refine .tail _ ?_) (by rfl) ?_; (iterate 2 refine qf_ar tabOk rfl rfl rfl rfl (by omega) (by omega) ?_))
              refine qf_callv (val := .bool (hitB r (r.drifts[sn] + offs[sh] + ch.1.2 * r.unit))) tabOk rfl rfl rfl rfl (fun w hs => ?_) ?_; exact hits_ca w bd r _ ⟨_, _, hs.blk (b := bd) (by repeat first | exact .head _ | refine .tail _ ?_), h0.keep hs.chg0⟩ hr.radius
              (refine qf_pure tabOk rfl rfl rfl ?_; refine qf_nil ?_)
              cases hhit : hitB r (r.drifts[sn] + offs[sh] + ch.1.2 * r.unit) with
              | true =>
                have e1 : stepF r p offs ⟨sh, wt, cl, mi, co', st'⟩ (sn : Int) = ⟨sh + 1, wt, ch.1.2, mi, co' + p.click * max (ch.1.2 - cl) (cl - ch.1.2), st' + 1⟩ := by
                  unfold stepF
                  rw [if_neg h5]
                  simp only [Int.toNat_natCast]
                  rw [← hch, if_neg (by rw [hcw]; decide), hgd, hgo, if_pos hhit]
                (refine q_cond_false rfl ?_; refine q_skip ?_; refine q_region ?_; refine ql_pure tabOk rfl rfl ?_; refine ql_loadB tabOk rfl rfl rfl (by repeat first | exact .head _ | refine .tail _ ?_) (by rfl) ?_; refine ql_ar tabOk rfl rfl rfl rfl (by omega) (by omega) ?_; refine ql_pure tabOk rfl rfl ?_; refine ql_st0 tabOk rfl rfl rfl rfl (by repeat constructor) ?_; refine q_nil ?_; refine q_blk ?_; refine q_region ?_; refine ql_ar tabOk rfl rfl rfl rfl (by omega) (by omega) ?_; refine ql_pure tabOk rfl rfl ?_; refine q_nil ?_)
                exact hK (k + 1, sn, ⟨sh + 1, wt, ch.1.2, mi, co' + p.click * max (ch.1.2 - cl) (cl - ch.1.2), st' + 1⟩) _ _ ⟨by simp only; omega, by simp only; rw [hstep, e1]⟩ (by simp only; omega) ⟨rfl, rfl, rfl, rfl, rfl, rfl, rfl, rfl, rfl, rfl, trivial⟩ (by repeat (first | exact Sp.nil | exact Sp.refl _ | refine Sp.cons (by repeat constructor) ?_))
              | false =>
                have e1 : stepF r p offs ⟨sh, wt, cl, mi, co', st'⟩ (sn : Int) = ⟨sh + 1, wt, ch.1.2, mi + 1, co' + p.click * max (ch.1.2 - cl) (cl - ch.1.2) + p.miss, st' + 1⟩ := by
                  unfold stepF
                  rw [if_neg h5]
                  simp only [Int.toNat_natCast]
                  rw [← hch, if_neg (by rw [hcw]; decide), hgd, hgo, if_neg (by rw [hhit]; decide)]
                (refine q_cond_true rfl ?_; refine q_seq ?_; refine q_region ?_; refine ql_pure tabOk rfl rfl ?_; refine ql_loadB tabOk rfl rfl rfl (by repeat first | exact .head _ | refine .tail _ ?_) (by rfl) ?_; refine ql_ar tabOk rfl rfl rfl rfl (by omega) (by omega) ?_; refine ql_pure tabOk rfl rfl ?_; refine ql_st0 tabOk rfl rfl rfl rfl (by repeat constructor) ?_; refine q_nil ?_; refine q_region ?_; refine ql_pure tabOk rfl rfl ?_; refine ql_loadB tabOk rfl rfl rfl (by repeat first | exact .head _ | refine .tail _ ?_) (by rfl) ?_; refine ql_pure tabOk rfl rfl ?_; refine ql_loadB tabOk rfl rfl rfl (by repeat first | exact .head _ | refine .tail _ ?_) (by rfl) ?_; refine ql_ar tabOk rfl rfl rfl rfl (by omega) (by omega) ?_; refine ql_pure tabOk rfl rfl ?_; refine ql_st1 tabOk rfl rfl rfl rfl (by repeat constructor) ?_; refine q_nil ?_; refine q_region ?_; refine ql_pure tabOk rfl rfl ?_; refine ql_loadB tabOk rfl rfl rfl (by repeat first | exact .head _ | refine .tail _ ?_) (by rfl) ?_; refine ql_ar tabOk rfl rfl rfl rfl (by omega) (by omega) ?_; refine ql_pure tabOk rfl rfl ?_; refine ql_st0 tabOk rfl rfl rfl rfl (by repeat constructor) ?_; refine q_nil ?_; refine q_blk ?_; refine q_region ?_; refine ql_ar tabOk rfl rfl rfl rfl (by omega) (by omega) ?_; refine ql_pure tabOk rfl rfl ?_; refine q_nil ?_)
                exact hK (k + 1, sn, ⟨sh + 1, wt, ch.1.2, mi + 1, co' + p.click * max (ch.1.2 - cl) (cl - ch.1.2) + p.miss, st' + 1⟩) _ _ ⟨by simp only; omega, by simp only; rw [hstep, e1]⟩ (by simp only; omega) ⟨rfl, rfl, rfl, rfl, rfl, rfl, rfl, rfl, rfl, rfl, trivial⟩ (by repeat (first | exact Sp.nil | exact Sp.refl _ | refine Sp.cons (by repeat constructor) ?_))
          · obtain rfl : k = states.length := by omega
            have hend : endF r p states offs = ⟨sh, wt, cl, mi, co', st'⟩ := by
              rw [List.take_of_length_le (Nat.le_refl _)] at hx
              exact hx.symm
            clear hc
            (refine q_exit _ rfl ?_; (iterate 2 refine q_seq ?_); refine q_region ?_; refine ql_pure tabOk rfl rfl ?_; refine ql_loadB tabOk rfl rfl rfl (by repeat first | exact .head _ | refine .tail _ ?_) (by rfl) ?_; refine ql_pure tabOk rfl rfl ?_; refine q_nil ?_)
            refine q_if rfl (fun hc => ?_) (fun hc => ?_)
            · (refine q_seq ?_; refine q_region ?_)
              refine ql_mk #[.int .i64 0, .int .i64 0, .int .i64 0] rfl (by kernel_rfl) rfl ?_
              (refine ql_setA tabOk rfl rfl rfl rfl rfl (by repeat constructor) rfl ?_; refine ql_pure tabOk rfl rfl ?_; refine q_nil ?_; refine q_ret ?_)
              refine q_fin tabOk rfl (by repeat (first | exact RVs.nil | apply RVs.tmp rfl | apply RVs.cellA rfl rfl (by repeat first | exact .head _ | refine .tail _ ?_) (by rfl) | apply RVs.cell1 rfl rfl (by repeat first | exact .head _ | refine .tail _ ?_))) fun w hs => ?_
              refine ⟨?_, hs.chg0⟩
              have e : followV r p states offs = ((0, 0, 0), 6) := by unfold followV; rw [if_neg (by simpa using hru), if_neg (by simpa using ho), if_neg hn, hall, hall2, hend]; exact if_pos (by show sh < 5; omega)
              rw [e]; rfl
            · (refine q_skip ?_; refine q_seq ?_; refine q_region ?_; refine ql_loadAB tabOk rfl rfl rfl (by repeat first | exact .head _ | refine .tail _ ?_) (by rfl) (by rfl) ?_; refine ql_setA tabOk rfl rfl rfl rfl rfl (by repeat constructor) rfl ?_; refine ql_pure tabOk rfl rfl ?_; refine q_nil ?_; refine q_ret ?_)
              refine q_fin tabOk rfl (by repeat (first | exact RVs.nil | apply RVs.tmp rfl | apply RVs.cellA rfl rfl (by repeat first | exact .head _ | refine .tail _ ?_) (by rfl) | apply RVs.cell1 rfl rfl (by repeat first | exact .head _ | refine .tail _ ?_))) fun w hs => ?_
              refine ⟨?_, hs.chg0⟩
              have e : followV r p states offs = ((mi, co', st'), 0) := by unfold followV; rw [if_neg (by simpa using hru), if_neg (by simpa using ho), if_neg hn, hall, hall2, hend]; exact if_neg (by show ¬ sh < 5; omega)
              rw [e]; rfl
    · rw [decide_eq_false ho]
      ((iterate 6 refine ql_gno rfl rfl rfl ?_); (iterate 2 refine ql_pure tabOk rfl rfl ?_); refine q_nil ?_; refine q_cond_true rfl ?_; refine q_seq ?_; refine q_region ?_)
      refine ql_mk #[.int .i64 0, .int .i64 0, .int .i64 0] rfl (by kernel_rfl) rfl ?_
      (refine ql_setA tabOk rfl rfl rfl rfl rfl (by repeat constructor) rfl ?_; refine ql_pure tabOk rfl rfl ?_; refine q_nil ?_; refine q_ret ?_)
      refine q_fin tabOk rfl (by repeat (first | exact RVs.nil | apply RVs.tmp rfl | apply RVs.cellA rfl rfl (by repeat first | exact .head _ | refine .tail _ ?_) (by rfl) | apply RVs.cell1 rfl rfl (by repeat first | exact .head _ | refine .tail _ ?_))) fun w hs => ?_
      refine ⟨?_, hs.chg0⟩
      have e : followV r p states offs = ((0, 0, 0), 2) := by unfold followV; rw [if_neg (by simpa using hru), if_pos ho]
      rw [e]; rfl
  · refine ql_callv (val := .tuple #[.pointer none, .int .i64 (rulesV r p)]) tabOk rfl rfl rfl rfl (fun w hs => ?_) ?_; exact begun_no w _ r p (h0.keep hs.chg0) hsm hru
    (refine ql_pure tabOk rfl rfl ?_; (iterate 2 refine ql_ext tabOk rfl rfl rfl ?_); (iterate 2 refine ql_pure tabOk rfl rfl ?_); refine q_nil ?_; refine q_seq ?_; refine q_region ?_; refine ql_pure tabOk rfl rfl ?_; refine ql_loadB tabOk rfl rfl rfl (by repeat first | exact .head _ | refine .tail _ ?_) (by rfl) ?_; refine ql_pure tabOk rfl rfl ?_; refine ql_quoN rfl rfl rfl (by omega) (by omega) (by omega) ?_)
    refine ql_alloc zero3 rfl (fun b12 => ?_)
    (refine ql_set tabOk rfl rfl rfl rfl (by repeat constructor) ?_; refine q_nil ?_; refine q_seq ?_; refine q_block ?_; refine q_seq ?_; refine q_region ?_; (iterate 3 refine ql_pure tabOk rfl rfl ?_); refine q_nil ?_)
    rw [decide_eq_false hru]
    (refine q_cond_true rfl ?_; refine q_seq ?_; refine q_region ?_)
    refine ql_mk #[.int .i64 0, .int .i64 0, .int .i64 0] rfl (by kernel_rfl) rfl ?_
    (refine ql_pure tabOk rfl rfl ?_; refine ql_setA tabOk rfl rfl rfl rfl rfl (by repeat constructor) rfl ?_; refine ql_pure tabOk rfl rfl ?_; refine q_nil ?_; refine q_ret ?_)
    refine q_fin tabOk rfl (by repeat (first | exact RVs.nil | apply RVs.tmp rfl | apply RVs.cellA rfl rfl (by repeat first | exact .head _ | refine .tail _ ?_) (by rfl) | apply RVs.cell1 rfl rfl (by repeat first | exact .head _ | refine .tail _ ?_))) fun w hs => ?_
    refine ⟨?_, hs.chg0⟩
    have e : followV r p states offs = ((0, 0, 0), rulesV r p) := by unfold followV; rw [if_pos hru]
    rw [e]; rfl

end Go.Proofs.Ytohlillcaadidaa

/- Walks: Two, Winds. -/
namespace Go.Proofs.Ytohlillcaadidaa
open Go Go.Eng

theorem Blk.rdI {w : World} {b : Nat} {l : List Int} {t : TypeId} {c : Nat} (h : Blk w b (ints l) t) : RdI w 0 w.heap.size (.slice (some ⟨b, 0, none⟩) l.length c) l :=
  RdI.of ((Blk.rd h (by simp) c).wide (Nat.zero_le _) h.lt)
theorem RdII.of {w : World} {lo hi : Nat} {v : Value} {ll : List (List Int)} {vs : List Value} (h : Rd w lo hi v 1 vs.length vs) (h1 : vs.length = ll.length) (h2 : ∀ i (h : i < vs.length) (h' : i < ll.length), RdI w lo hi vs[i] ll[i]) (h3 : ∀ e ∈ vs, oneV e = true) : RdII w lo hi v ll :=
  ⟨vs, RdE.one h h3, h1, h2⟩

/-- Pieces that hold a range. -/
def OwnR (L : List Ck) (cs : List Value) (r : Rg) : Prop := ∀ w, (∀ c ∈ L, c.p w) → RgC w cs r
theorem OwnR.at {L : List Ck} {cs : List Value} {r : Rg} {w0 w : World} {M : Nat → Prop} {H : List Ck} (h : OwnR L cs r) (hs : Sat w0 M H w) (hm : un L ∈ H) : RgC w cs r := h w (hs.mem hm).1

/-- The range of example 1. -/
def twoR : Rg := ⟨2, 2, 1, 2, [1, 2, 1], [0, 3], [1, 1], [[2, 0], [0, 2]]⟩
abbrev twoC (b1 b2 b3 b6 : Nat) : List Value := [.int .i64 2, .int .i64 2, .int .i64 1, .int .i64 2, .slice (some ⟨b1, 0, none⟩) 3 3, .slice (some ⟨b2, 0, none⟩) 2 2, .slice (some ⟨b3, 0, none⟩) 2 2, .slice (some ⟨b6, 0, none⟩) 2 2]
abbrev twoL (n1 n2 n3 n4 : Int) (b1 b2 b3 b4 b5 b6 : Nat) : List Ck := [.pt b6 [.slice (some ⟨b4, 0, none⟩) 2 2, .slice (some ⟨b5, 0, none⟩) 2 2] 22, .pt b5 (ints [n3, n4]) 3, .pt b4 (ints [n1, n2]) 3, .pt b3 (ints [1, 1]) 3, .pt b2 (ints [0, 3]) 3, .pt b1 (ints [1, 2, 1]) 3]
theorem two_rg {w : World} {n1 n2 n3 n4 : Int} {b1 b2 b3 b4 b5 b6 : Nat} {t1 t2 t3 t4 t5 t6 : TypeId} (g1 : Blk w b1 (ints [1, 2, 1]) t1) (g2 : Blk w b2 (ints [0, 3]) t2) (g3 : Blk w b3 (ints [1, 1]) t3) (g4 : Blk w b4 (ints [n1, n2]) t4) (g5 : Blk w b5 (ints [n3, n4]) t5)
    (g6 : Blk w b6 [.slice (some ⟨b4, 0, none⟩) 2 2, .slice (some ⟨b5, 0, none⟩) 2 2] t6) : RgC w (twoC b1 b2 b3 b6) ⟨2, 2, 1, 2, [1, 2, 1], [0, 3], [1, 1], [[n1, n2], [n3, n4]]⟩ := by
  refine ⟨0, w.heap.size, _, _, _, _, _, _, _, _, rfl, Blk.rdI g1, Blk.rdI g2, Blk.rdI g3, ?_⟩
  refine RdII.of ((Blk.rd g6 rfl 2).wide (Nat.zero_le _) g6.lt) rfl (fun i hi hi' => ?_) (by simp [oneV])
  have : i = 0 ∨ i = 1 := by simp at hi; omega
  rcases this with rfl | rfl
  · exact Blk.rdI g4
  · exact Blk.rdI g5
theorem twoL_own (n1 n2 n3 n4 : Int) (b1 b2 b3 b4 b5 b6 : Nat) : OwnR (twoL n1 n2 n3 n4 b1 b2 b3 b4 b5 b6) (twoC b1 b2 b3 b6) ⟨2, 2, 1, 2, [1, 2, 1], [0, 3], [1, 1], [[n1, n2], [n3, n4]]⟩ := by
  intro w h
  have g6 : Blk w b6 _ _ := h _ (.head _)
  have g5 : Blk w b5 _ _ := h _ (.tail _ (.head _))
  have g4 : Blk w b4 _ _ := h _ (.tail _ (.tail _ (.head _)))
  have g3 : Blk w b3 _ _ := h _ (.tail _ (.tail _ (.tail _ (.head _))))
  have g2 : Blk w b2 _ _ := h _ (.tail _ (.tail _ (.tail _ (.tail _ (.head _)))))
  have g1 : Blk w b1 _ _ := h _ (.tail _ (.tail _ (.tail _ (.tail _ (.tail _ (.head _))))))
  exact two_rg g1 g2 g3 g4 g5 g6

theorem two_ca0 (w : World) : Ca Try.prog 68 [] w fun v w' => ∃ x : Nat × Nat × Nat × Nat × Nat × Nat, v = .agg (twoC x.1 x.2.1 x.2.2.1 x.2.2.2.2.2).toArray ∧ Sat w M0 (twoL 2 0 0 2 x.1 x.2.1 x.2.2.1 x.2.2.2.1 x.2.2.2.2.1 x.2.2.2.2.2) w' := by
  refine q_of (Sat.nil w M0) Try.func68 rfl (by simp [Try.ntmps68]) ?_
  (refine q_seq ?_; refine q_region ?_)
  refine ql_alloc zero25 rfl (fun b0 => ?_)
  (refine q_nil ?_; refine q_seq ?_; refine q_region ?_)
  refine ql_mkS 3 [.int .i64 1, .int .i64 2, .int .i64 1] rfl (by kernel_rfl) rfl (fun b1 => ?_)
  refine ql_mkS 3 [.int .i64 0, .int .i64 3] rfl (by kernel_rfl) rfl (fun b2 => ?_)
  refine ql_mkS 3 [.int .i64 1, .int .i64 1] rfl (by kernel_rfl) rfl (fun b3 => ?_)
  refine ql_mkS 3 [.int .i64 2, .int .i64 0] rfl (by kernel_rfl) rfl (fun b4 => ?_)
  refine ql_mkS 3 [.int .i64 0, .int .i64 2] rfl (by kernel_rfl) rfl (fun b5 => ?_)
  refine ql_mkS 22 [.slice (some ⟨b4, 0, none⟩) 2 2, .slice (some ⟨b5, 0, none⟩) 2 2] rfl (by kernel_rfl) rfl (fun b6 => ?_)
  refine ql_mk (twoC b1 b2 b3 b6).toArray rfl (by kernel_rfl) rfl ?_
  (refine ql_setA tabOk rfl rfl rfl rfl rfl (by repeat constructor) rfl ?_; refine q_nil ?_; refine q_ret ?_)
  refine q_fin tabOk rfl (by repeat (first | exact RVs.nil | apply RVs.tmp rfl | apply RVs.cellA rfl rfl (by repeat first | exact .head _ | refine .tail _ ?_) (by rfl) | apply RVs.cell1 rfl rfl (by repeat first | exact .head _ | refine .tail _ ?_))) fun w hs => ?_
  exact ⟨(b1, b2, b3, b4, b5, b6), rfl, hs.sp (by repeat (first | exact Sp.nil | exact Sp.refl _ | refine Sp.cons (by repeat constructor) ?_))⟩
theorem two_ca (w : World) : Ca Try.prog 68 [] w fun v w' => ∃ x : List Ck × List Value, (v = .agg x.2.toArray ∧ OwnR x.1 x.2 twoR) ∧ Sat w M0 [un x.1] w' :=
  (two_ca0 w).mono fun v w' ⟨(b1, b2, b3, b4, b5, b6), hv, hs⟩ => ⟨(_, _), ⟨hv, twoL_own 2 0 0 2 b1 b2 b3 b4 b5 b6⟩, Sat.un1.2 hs⟩

theorem winds_ca (lo hi : Int) (w : World) : Ca Try.prog 65 [.int .i64 lo, .int .i64 hi] w fun v w' => ∃ b : Nat, v = .slice (some ⟨b, 0, none⟩) 5 5 ∧ Sat w M0 [.pt b [.int .i64 lo, .int .i64 hi, .int .i64 lo, .int .i64 hi, .int .i64 lo, .int .i64 hi, .int .i64 lo, .int .i64 hi, .int .i64 lo, .int .i64 hi] 64] w' := by
  refine q_of (Sat.nil w M0) Try.func65 rfl (by simp [Try.ntmps65]) ?_
  (refine q_seq ?_; refine q_region ?_; refine ql_pure tabOk rfl rfl ?_; refine q_nil ?_; refine q_seq ?_; refine q_region ?_; (iterate 2 refine ql_pure tabOk rfl rfl ?_))
  refine ql_mk #[.int .i64 lo, .int .i64 hi] rfl (by kernel_rfl) rfl ?_
  refine ql_alloc zero64 rfl (fun b0 => ?_)
  (refine ql_setA tabOk rfl rfl rfl rfl rfl (by repeat constructor) rfl ?_; refine q_nil ?_; refine q_seq ?_; refine q_region ?_; (iterate 5 refine ql_loadAB tabOk rfl rfl rfl (by repeat first | exact .head _ | refine .tail _ ?_) (by rfl) (by rfl) ?_))
  refine ql_mkS 64 [.int .i64 lo, .int .i64 hi, .int .i64 lo, .int .i64 hi, .int .i64 lo, .int .i64 hi, .int .i64 lo, .int .i64 hi, .int .i64 lo, .int .i64 hi] rfl (by kernel_rfl) rfl (fun b => ?_)
  (refine ql_pure tabOk rfl rfl ?_; refine q_nil ?_; refine q_ret ?_)
  refine q_fin tabOk rfl (by repeat (first | exact RVs.nil | apply RVs.tmp rfl | apply RVs.cellA rfl rfl (by repeat first | exact .head _ | refine .tail _ ?_) (by rfl) | apply RVs.cell1 rfl rfl (by repeat first | exact .head _ | refine .tail _ ?_))) fun w hs => ?_
  exact ⟨b, rfl, hs.sp (by repeat (first | exact Sp.nil | exact Sp.refl _ | refine Sp.cons (by repeat constructor) ?_))⟩

end Go.Proofs.Ytohlillcaadidaa

/- Walks: awake. -/
namespace Go.Proofs.Ytohlillcaadidaa
open Go Go.Eng

def ruA : Ru := ⟨240, 20, 0, 0⟩
def ruB : Ru := ⟨240, 100, 30, 1⟩
def twoX : Rg := ⟨2, 2, 1, 2, [1, 2, 1], [0, 3], [1, 1], [[1, 1], [1, 1]]⟩
def winds03 : List (Int × Int) := [(0, 3), (0, 3), (0, 3), (0, 3), (0, 3)]
theorem two_small : twoR.Small := ⟨by decide, by decide, by decide, by decide, by decide⟩
theorem twoX_small : twoX.Small := ⟨by decide, by decide, by decide, by decide, by decide⟩
theorem aw_hit : hitV twoR 1 0 = ((1, 4), 0) := by decide +kernel
theorem aw_exp : expdV twoR 1 = ((25, 8), 0) := by decide +kernel
theorem aw_best : bestV twoR = (-1, (5, 8), 0) := by decide +kernel
theorem aw_rob : robV twoR winds03 = (-1, (5, 4), 0) := by decide +kernel
theorem aw_zero : zeroV twoR [4, 5, -1] = (0, 0) := by decide +kernel
theorem aw_rules : rulesV twoR ruA = 0 := by decide +kernel
theorem aw_drift : driftV [(10, 20), (-5, 5)] [3, 1] = ((25, 65), 0) := by decide +kernel
theorem aw_len : (plcL twoR ruA).length = 30 := by decide +kernel
theorem aw_ch : chooseV twoR ruA 0 0 1 0 = ((false, -1), 0) := by decide +kernel
theorem aw_chx : chooseV twoX ruB 4 1 1 0 = ((true, 0), 0) := by decide +kernel
theorem aw_fol : followV twoR ruA [1, 1, 1, 1, 1] [0, 0, 0, 0, 1] = ((0, 20, 5), 0) := by decide +kernel
theorem aw_prove : proofV twoR ruA ((plcL twoR ruA).map (valP twoR ruA)) = ((10, 1), 0) := by decide +kernel
theorem rat_flat : flatB Try.prog 42 [some .i64, some .i64] = true := by kernel_rfl
theorem spn_flat : flatB Try.prog 64 [some .i64, some .i64] = true := by kernel_rfl
theorem ply_flat : flatB Try.prog 55 [some .i64, some .i64, some .i64] = true := by kernel_rfl
theorem Blk.rdS {w : World} {b : Nat} {l : List (Int × Int)} {cs : List Value} {t : TypeId} {c : Nat} (h : Blk w b cs t) (hc : cs = cellsOf (l.map rtV)) : RdS w 0 w.heap.size (.slice (some ⟨b, 0, none⟩) l.length c) l := by
  refine ⟨?_, fun e he => ?_⟩
  · subst hc
    have hl : (cellsOf (l.map rtV)).length = (l.map rtV).length * 2 := cellsOf_length _ (fun e he => by obtain ⟨x, _, rfl⟩ := List.mem_map.1 he; rfl)
    refine ⟨hl, .inr ⟨b, 0, c, by simp, fun _ => ⟨Nat.zero_le _, h.lt, h.lt⟩, fun j _ => by rw [Blk.cell h]; simp⟩⟩
  · obtain ⟨x, _, rfl⟩ := List.mem_map.1 he
    rfl

set_option maxHeartbeats 4000000 in
theorem awake_ca (w : World) : Ca Try.prog 16 [] w fun v w' => v = .bool true ∧ Chg [] w w' := by
  refine q_of (Sat.nil w M0) Try.func16 rfl (by simp [Try.ntmps16]) ?_
  (refine q_seq ?_; refine q_region ?_; refine ql_pure tabOk rfl rfl ?_; refine q_nil ?_; refine q_seq ?_; refine q_region ?_)
  refine ql_call (β := List Ck × List Value) tabOk [] _ M0 rfl rfl rfl rfl (Sp.refl _) (fun _ h => h.elim) (fun w' hs => two_ca w') ?_
  rintro ⟨L1, cs1⟩ _ ⟨rfl, ho1⟩
  refine ql_callv (val := .tuple #[.agg #[.int .i64 (1), .int .i64 (4)], .int .i64 (0)]) tabOk rfl rfl rfl rfl (fun w hs => ?_) ?_; exact by have := hit_ca w cs1 twoR 1 0 (ho1.at hs (by repeat first | exact .head _ | refine .tail _ ?_)) two_small; rw [aw_hit] at this; exact this
  (refine ql_pure tabOk rfl rfl ?_; (iterate 2 refine ql_ext tabOk rfl rfl rfl ?_))
  refine ql_alloc zero42 rfl (fun b1 => ?_)
  (refine ql_setA tabOk rfl rfl rfl rfl rfl (by repeat constructor) rfl ?_; refine ql_pure tabOk rfl rfl ?_; refine q_nil ?_; refine q_seq ?_; refine q_region ?_)
  refine ql_call (β := List Ck × List Value) tabOk [] _ M0 rfl rfl rfl rfl (Sp.refl _) (fun _ h => h.elim) (fun w' hs => two_ca w') ?_
  rintro ⟨L2, cs2⟩ _ ⟨rfl, ho2⟩
  refine ql_callv (val := .tuple #[.agg #[.int .i64 (25), .int .i64 (8)], .int .i64 (0)]) tabOk rfl rfl rfl rfl (fun w hs => ?_) ?_; exact by have := expectedF_ca w cs2 twoR 1 (ho2.at hs (by repeat first | exact .head _ | refine .tail _ ?_)) two_small; rw [aw_exp] at this; exact this
  (refine ql_pure tabOk rfl rfl ?_; (iterate 2 refine ql_ext tabOk rfl rfl rfl ?_))
  refine ql_alloc zero42 rfl (fun b3 => ?_)
  (refine ql_setA tabOk rfl rfl rfl rfl rfl (by repeat constructor) rfl ?_; refine ql_pure tabOk rfl rfl ?_; refine q_nil ?_; refine q_seq ?_; refine q_region ?_)
  refine ql_call (β := List Ck × List Value) tabOk [] _ M0 rfl rfl rfl rfl (Sp.refl _) (fun _ h => h.elim) (fun w' hs => two_ca w') ?_
  rintro ⟨L3, cs3⟩ _ ⟨rfl, ho3⟩
  refine ql_callv (val := .tuple #[.int .i64 (-1), .agg #[.int .i64 (5), .int .i64 (8)], .int .i64 (0)]) tabOk rfl rfl rfl rfl (fun w hs => ?_) ?_; exact by have := bestF_ca w cs3 twoR (ho3.at hs (by repeat first | exact .head _ | refine .tail _ ?_)) two_small; rw [aw_best] at this; exact this
  (refine ql_pure tabOk rfl rfl ?_; (iterate 3 refine ql_ext tabOk rfl rfl rfl ?_))
  refine ql_alloc zero42 rfl (fun b6 => ?_)
  (refine ql_pure tabOk rfl rfl ?_; refine ql_setA tabOk rfl rfl rfl rfl rfl (by repeat constructor) rfl ?_; refine ql_pure tabOk rfl rfl ?_; refine q_nil ?_; refine q_seq ?_; refine q_region ?_)
  refine ql_call (β := List Ck × List Value) tabOk [] _ M0 rfl rfl rfl rfl (Sp.refl _) (fun _ h => h.elim) (fun w' hs => two_ca w') ?_
  rintro ⟨L4, cs4⟩ _ ⟨rfl, ho4⟩
  refine ql_call (β := Nat) tabOk [] _ M0 rfl rfl rfl rfl (Sp.refl _) (fun _ h => h.elim) (fun w' hs => winds_ca 0 3 w') ?_
  rintro bw _ rfl
  refine ql_callv (val := .tuple #[.int .i64 (-1), .agg #[.int .i64 (5), .int .i64 (4)], .int .i64 (0)]) tabOk rfl rfl rfl rfl (fun w hs => ?_) ?_; exact by have := robF_ca w 0 w.heap.size cs4 twoR _ winds03 (ho4.at hs (by repeat first | exact .head _ | refine .tail _ ?_)) two_small (Blk.rdS (c := 5) (hs.blk (b := bw) (by repeat first | exact .head _ | refine .tail _ ?_)) rfl) (by decide); rw [aw_rob] at this; exact this
  (refine ql_pure tabOk rfl rfl ?_; (iterate 3 refine ql_ext tabOk rfl rfl rfl ?_))
  refine ql_alloc zero42 rfl (fun b9 => ?_)
  (refine ql_pure tabOk rfl rfl ?_; refine ql_setA tabOk rfl rfl rfl rfl rfl (by repeat constructor) rfl ?_; refine ql_pure tabOk rfl rfl ?_; refine q_nil ?_; refine q_seq ?_; refine q_region ?_)
  refine ql_call (β := List Ck × List Value) tabOk [] _ M0 rfl rfl rfl rfl (Sp.refl _) (fun _ h => h.elim) (fun w' hs => two_ca w') ?_
  rintro ⟨L5, cs5⟩ _ ⟨rfl, ho5⟩
  refine ql_mkS 3 (ints [4, 5, -1]) rfl (by kernel_rfl) rfl (fun bz => ?_)
  refine ql_callv (val := .tuple #[.int .i64 (0), .int .i64 (0)]) tabOk rfl rfl rfl rfl (fun w hs => ?_) ?_; exact by have := zeroF_ca w 0 w.heap.size cs5 twoR _ [4, 5, -1] (ho5.at hs (by repeat first | exact .head _ | refine .tail _ ?_)) two_small (Blk.rdI (c := 3) (hs.blk (b := bz) (by repeat first | exact .head _ | refine .tail _ ?_))) (by decide); rw [aw_zero] at this; exact this
  (refine ql_pure tabOk rfl rfl ?_; (iterate 2 refine ql_ext tabOk rfl rfl rfl ?_); (iterate 2 refine ql_pure tabOk rfl rfl ?_); refine q_nil ?_; (iterate 2 refine q_seq ?_); refine q_region ?_; (iterate 3 refine ql_pure tabOk rfl rfl ?_); refine ql_gyes rfl ?_; refine ql_pure tabOk rfl rfl ?_; refine ql_gyes rfl ?_; (iterate 3 refine ql_pure tabOk rfl rfl ?_); refine ql_gyes rfl ?_; refine ql_pure tabOk rfl rfl ?_; refine ql_gyes rfl ?_; (iterate 3 refine ql_pure tabOk rfl rfl ?_); refine ql_gyes rfl ?_; refine ql_pure tabOk rfl rfl ?_; refine ql_gyes rfl ?_; (iterate 3 refine ql_pure tabOk rfl rfl ?_); refine ql_gyes rfl ?_; refine ql_pure tabOk rfl rfl ?_; refine ql_gyes rfl ?_; (iterate 3 refine ql_pure tabOk rfl rfl ?_); refine ql_gyes rfl ?_; refine ql_loadAB tabOk rfl rfl rfl (by repeat first | exact .head _ | refine .tail _ ?_) (by rfl) (by rfl) ?_; refine ql_gyes rfl ?_)
  refine ql_mk #[.int .i64 1, .int .i64 4] rfl (by kernel_rfl) rfl ?_
  (refine ql_gyes rfl ?_)
  refine ql_neF (xs := [.int .i64 1, .int .i64 4]) (ys := [.int .i64 1, .int .i64 4]) [some .i64, some .i64] rat_flat rfl rfl rfl rfl rfl ?_
  ((iterate 2 refine ql_pure tabOk rfl rfl ?_); refine ql_gyes rfl ?_; refine ql_loadAB tabOk rfl rfl rfl (by repeat first | exact .head _ | refine .tail _ ?_) (by rfl) (by rfl) ?_; refine ql_gyes rfl ?_)
  refine ql_mk #[.int .i64 25, .int .i64 8] rfl (by kernel_rfl) rfl ?_
  (refine ql_gyes rfl ?_)
  refine ql_neF (xs := [.int .i64 25, .int .i64 8]) (ys := [.int .i64 25, .int .i64 8]) [some .i64, some .i64] rat_flat rfl rfl rfl rfl rfl ?_
  ((iterate 2 refine ql_pure tabOk rfl rfl ?_); refine ql_gyes rfl ?_; refine ql_pure tabOk rfl rfl ?_; refine ql_gyes rfl ?_; (iterate 3 refine ql_pure tabOk rfl rfl ?_); refine ql_gyes rfl ?_; refine ql_loadAB tabOk rfl rfl rfl (by repeat first | exact .head _ | refine .tail _ ?_) (by rfl) (by rfl) ?_; refine ql_gyes rfl ?_)
  refine ql_mk #[.int .i64 5, .int .i64 8] rfl (by kernel_rfl) rfl ?_
  (refine ql_gyes rfl ?_)
  refine ql_neF (xs := [.int .i64 5, .int .i64 8]) (ys := [.int .i64 5, .int .i64 8]) [some .i64, some .i64] rat_flat rfl rfl rfl rfl rfl ?_
  ((iterate 2 refine ql_pure tabOk rfl rfl ?_); refine ql_gyes rfl ?_; refine ql_pure tabOk rfl rfl ?_; refine ql_gyes rfl ?_; (iterate 3 refine ql_pure tabOk rfl rfl ?_); refine ql_gyes rfl ?_; refine ql_loadAB tabOk rfl rfl rfl (by repeat first | exact .head _ | refine .tail _ ?_) (by rfl) (by rfl) ?_; refine ql_gyes rfl ?_)
  refine ql_mk #[.int .i64 5, .int .i64 4] rfl (by kernel_rfl) rfl ?_
  (refine ql_gyes rfl ?_)
  refine ql_neF (xs := [.int .i64 5, .int .i64 4]) (ys := [.int .i64 5, .int .i64 4]) [some .i64, some .i64] rat_flat rfl rfl rfl rfl rfl ?_
  ((iterate 2 refine ql_pure tabOk rfl rfl ?_); refine ql_gyes rfl ?_; refine ql_pure tabOk rfl rfl ?_; refine ql_gyes rfl ?_; (iterate 2 refine ql_pure tabOk rfl rfl ?_); refine q_nil ?_; refine q_cond_false rfl ?_; refine q_skip ?_; refine q_seq ?_; refine q_region ?_)
  refine ql_mk #[.int .i64 240, .int .i64 20, .int .i64 0, .int .i64 0] rfl (by kernel_rfl) rfl ?_
  refine ql_alloc zero27 rfl (fun b13 => ?_)
  (refine ql_setA tabOk rfl rfl rfl rfl rfl (by repeat constructor) rfl ?_; refine q_nil ?_; refine q_seq ?_)
  refine q_keep [(13, .pointer (some ⟨b13, 0, none⟩))] [.pt b13 [.int .i64 240, .int .i64 20, .int .i64 0, .int .i64 0] 27] ⟨rfl, trivial⟩ (by repeat (first | exact Sp.nil | exact Sp.refl _ | refine Sp.cons (by repeat constructor) ?_)) ?_
  refine q_draw _ [] (Sp.refl _) (by kernel_rfl) (by kernel_rfl) ?_
  skip
  refine qf_call (β := List Ck × List Value) tabOk [] _ M0 rfl rfl rfl rfl (Sp.refl _) (fun _ h => h.elim) (fun w' hs => two_ca w') ?_
  rintro ⟨L6, cs6⟩ _ ⟨rfl, ho6⟩
  (refine qf_loadAB tabOk rfl rfl rfl (by repeat first | exact .head _ | refine .tail _ ?_) (by rfl) (by rfl) ?_)
  refine qf_call (β := Value) tabOk [] _ M0 rfl rfl rfl rfl (Sp.refl _) (fun _ h => h.elim) (fun w' hs => by have := values_ok w' cs6 twoR ruA (ho6.at hs (by repeat first | exact .head _ | refine .tail _ ?_)) two_small aw_rules; rw [aw_len] at this; exact this) ?_
  rintro x14 _ rfl
  (refine qf_pure tabOk rfl rfl rfl ?_; (iterate 2 refine qf_ext tabOk rfl rfl rfl ?_); (iterate 2 refine qf_pure tabOk rfl rfl rfl ?_); refine qf_nil ?_; refine q_seq ?_)
  refine q_fact (fun w hs => hs.slice2 (v := x14) (by repeat first | exact .head _ | refine .tail _ ?_)) ?_
  rintro ⟨a14, c14, rfl⟩
  refine q_keep [(13, .pointer (some ⟨b13, 0, none⟩)), (14, .slice a14 30 c14), (2, .int .i64 0)] [.ow (.slice a14 30 c14) 3 1 30 (ints ((plcL twoR ruA).map (valP twoR ruA))), .pt b13 [.int .i64 240, .int .i64 20, .int .i64 0, .int .i64 0] 27] ⟨rfl, rfl, rfl, trivial⟩ (by repeat (first | exact Sp.nil | exact Sp.refl _ | refine Sp.cons (by repeat constructor) ?_)) ?_
  refine q_cut (σ := Nat) (fun b15 => [(13, .pointer (some ⟨b13, 0, none⟩)), (14, .slice a14 30 c14), (2, .int .i64 0), (4, .int .i64 0), (15, .pointer (some ⟨b15, 0, none⟩))]) (fun b15 => [.pt b15 [.int .i64 10, .int .i64 1] 42, .ow (.slice a14 30 c14) 3 1 30 (ints ((plcL twoR ruA).map (valP twoR ruA))), .pt b13 [.int .i64 240, .int .i64 20, .int .i64 0, .int .i64 0] 27]) ?_ (fun K2 hK2 => ?_)
  rotate_left
  · skip
    refine q_drawT (.alt (chainT [0, 1, 2] (.alt (chainT [3, 4, 5, 6, 7, 8, 9] (.nil)) (chainT [7, 3, 4, 5, 6, 8, 9] (.nil)))) (chainT [7, 0, 1, 2, 3, 4, 5, 6, 8, 9] (.nil))) _ [] (Sp.refl _) (by kernel_rfl) (by kernel_rfl) ?_
    refine qt_alt ?_ ?_
    · skip
      refine qt_seg (by repeat (first | exact PickL.nil | (apply PickL.cons; rfl))) fun K1 hK1 => ?_
      refine qf_call (β := List Ck × List Value) tabOk [] _ M0 rfl rfl rfl rfl (Sp.refl _) (fun _ h => h.elim) (fun w' hs => two_ca w') ?_
      rintro ⟨L, cs⟩ _ ⟨rfl, ho⟩
      (refine qf_loadAB tabOk rfl rfl rfl (by repeat first | exact .head _ | refine .tail _ ?_) (by rfl) (by rfl) ?_; refine qf_pure tabOk rfl rfl rfl ?_; refine qf_nil ?_)
      refine hK1 _ _ ?_
      refine qt_alt ?_ ?_
      · skip
        refine qt_seg (by repeat (first | exact PickL.nil | (apply PickL.cons; rfl))) fun K1 hK1 => ?_
        refine qf_callv (val := .tuple #[.agg #[.int .i64 (10), .int .i64 (1)], .int .i64 (0)]) tabOk rfl rfl rfl rfl (fun w hs => ?_) ?_
        · have := proves_ca w 0 w.heap.size cs twoR ruA _ _ (ho.at hs (by repeat first | exact .head _ | refine .tail _ ?_)) two_small (hs.rdI (v := .slice a14 30 c14) (l := (plcL twoR ruA).map (valP twoR ruA)) (by repeat first | exact .head _ | refine .tail _ ?_) (by rw [List.length_map, aw_len])) (by rw [List.length_map, aw_len]; decide); rw [aw_prove] at this; exact this
        (refine qf_pure tabOk rfl rfl rfl ?_; (iterate 2 refine qf_ext tabOk rfl rfl rfl ?_))
        refine qf_alloc zero42 rfl (fun b15 => ?_)
        (refine qf_setA tabOk rfl rfl rfl rfl rfl (by repeat constructor) rfl ?_; refine qf_pure tabOk rfl rfl rfl ?_; refine qf_nil ?_)
        skip
        exact hK1 _ _ (qt_nil (hK2 b15 _ _ ⟨rfl, rfl, rfl, rfl, rfl, trivial⟩ (by repeat (first | exact Sp.nil | exact Sp.refl _ | refine Sp.cons (by repeat constructor) ?_))))
      · skip
        refine qt_seg (by repeat (first | exact PickL.nil | (apply PickL.cons; rfl))) fun K1 hK1 => ?_
        refine qf_alloc zero42 rfl (fun b15 => ?_)
        skip
        refine qf_callv (val := .tuple #[.agg #[.int .i64 (10), .int .i64 (1)], .int .i64 (0)]) tabOk rfl rfl rfl rfl (fun w hs => ?_) ?_
        · have := proves_ca w 0 w.heap.size cs twoR ruA _ _ (ho.at hs (by repeat first | exact .head _ | refine .tail _ ?_)) two_small (hs.rdI (v := .slice a14 30 c14) (l := (plcL twoR ruA).map (valP twoR ruA)) (by repeat first | exact .head _ | refine .tail _ ?_) (by rw [List.length_map, aw_len])) (by rw [List.length_map, aw_len]; decide); rw [aw_prove] at this; exact this
        (refine qf_pure tabOk rfl rfl rfl ?_; (iterate 2 refine qf_ext tabOk rfl rfl rfl ?_); refine qf_setA tabOk rfl rfl rfl rfl rfl (by repeat constructor) rfl ?_; refine qf_pure tabOk rfl rfl rfl ?_; refine qf_nil ?_)
        skip
        exact hK1 _ _ (qt_nil (hK2 b15 _ _ ⟨rfl, rfl, rfl, rfl, rfl, trivial⟩ (by repeat (first | exact Sp.nil | exact Sp.refl _ | refine Sp.cons (by repeat constructor) ?_))))
    · skip
      refine qt_seg (by repeat (first | exact PickL.nil | (apply PickL.cons; rfl))) fun K1 hK1 => ?_
      refine qf_alloc zero42 rfl (fun b15 => ?_)
      skip
      refine qf_call (β := List Ck × List Value) tabOk [] _ M0 rfl rfl rfl rfl (Sp.refl _) (fun _ h => h.elim) (fun w' hs => two_ca w') ?_
      rintro ⟨L, cs⟩ _ ⟨rfl, ho⟩
      (refine qf_loadAB tabOk rfl rfl rfl (by repeat first | exact .head _ | refine .tail _ ?_) (by rfl) (by rfl) ?_; refine qf_pure tabOk rfl rfl rfl ?_)
      refine qf_callv (val := .tuple #[.agg #[.int .i64 (10), .int .i64 (1)], .int .i64 (0)]) tabOk rfl rfl rfl rfl (fun w hs => ?_) ?_
      · have := proves_ca w 0 w.heap.size cs twoR ruA _ _ (ho.at hs (by repeat first | exact .head _ | refine .tail _ ?_)) two_small (hs.rdI (v := .slice a14 30 c14) (l := (plcL twoR ruA).map (valP twoR ruA)) (by repeat first | exact .head _ | refine .tail _ ?_) (by rw [List.length_map, aw_len])) (by rw [List.length_map, aw_len]; decide); rw [aw_prove] at this; exact this
      (refine qf_pure tabOk rfl rfl rfl ?_; (iterate 2 refine qf_ext tabOk rfl rfl rfl ?_); refine qf_setA tabOk rfl rfl rfl rfl rfl (by repeat constructor) rfl ?_; refine qf_pure tabOk rfl rfl rfl ?_; refine qf_nil ?_)
      skip
      exact hK1 _ _ (qt_nil (hK2 b15 _ _ ⟨rfl, rfl, rfl, rfl, rfl, trivial⟩ (by repeat (first | exact Sp.nil | exact Sp.refl _ | refine Sp.cons (by repeat constructor) ?_))))
  intro b15
  (refine q_seq ?_)
  refine q_cut (σ := Nat) (fun b16 => [(13, .pointer (some ⟨b13, 0, none⟩)), (14, .slice a14 30 c14), (2, .int .i64 0), (4, .int .i64 0), (15, .pointer (some ⟨b15, 0, none⟩)), (16, .pointer (some ⟨b16, 0, none⟩)), (7, .int .i64 0)]) (fun b16 => [.pt b16 [.bool false, .int .i64 (-1)] 47, .pt b15 [.int .i64 10, .int .i64 1] 42, .ow (.slice a14 30 c14) 3 1 30 (ints ((plcL twoR ruA).map (valP twoR ruA))), .pt b13 [.int .i64 240, .int .i64 20, .int .i64 0, .int .i64 0] 27]) ?_ (fun K2 hK2 => ?_)
  rotate_left
  · skip
    refine q_drawT (.alt (chainT [0, 1] (.alt (chainT [2, 3, 4, 5, 6, 7, 8] (.nil)) (chainT [6, 2, 3, 4, 5, 7, 8] (.nil)))) (chainT [6, 0, 1, 2, 3, 4, 5, 7, 8] (.nil))) _ [] (Sp.refl _) (by kernel_rfl) (by kernel_rfl) ?_
    refine qt_alt ?_ ?_
    · skip
      refine qt_seg (by repeat (first | exact PickL.nil | (apply PickL.cons; rfl))) fun K1 hK1 => ?_
      refine qf_call (β := List Ck × List Value) tabOk [] _ M0 rfl rfl rfl rfl (Sp.refl _) (fun _ h => h.elim) (fun w' hs => two_ca w') ?_
      rintro ⟨L, cs⟩ _ ⟨rfl, ho⟩
      (refine qf_loadAB tabOk rfl rfl rfl (by repeat first | exact .head _ | refine .tail _ ?_) (by rfl) (by rfl) ?_; refine qf_nil ?_)
      refine hK1 _ _ ?_
      refine qt_alt ?_ ?_
      · skip
        refine qt_seg (by repeat (first | exact PickL.nil | (apply PickL.cons; rfl))) fun K1 hK1 => ?_
        refine qf_callv (val := .tuple #[.agg #[.bool false, .int .i64 (-1)], .int .i64 (0)]) tabOk rfl rfl rfl rfl (fun w hs => ?_) ?_
        · have := chooseF_ca w cs twoR ruA 0 0 1 0 (ho.at hs (by repeat first | exact .head _ | refine .tail _ ?_)) two_small; rw [aw_ch] at this; exact this
        (refine qf_pure tabOk rfl rfl rfl ?_; (iterate 2 refine qf_ext tabOk rfl rfl rfl ?_))
        refine qf_alloc zero47 rfl (fun b16 => ?_)
        (refine qf_setA tabOk rfl rfl rfl rfl rfl (by repeat constructor) rfl ?_; refine qf_pure tabOk rfl rfl rfl ?_; refine qf_nil ?_)
        skip
        exact hK1 _ _ (qt_nil (hK2 b16 _ _ ⟨rfl, rfl, rfl, rfl, rfl, rfl, rfl, trivial⟩ (by repeat (first | exact Sp.nil | exact Sp.refl _ | refine Sp.cons (by repeat constructor) ?_))))
      · skip
        refine qt_seg (by repeat (first | exact PickL.nil | (apply PickL.cons; rfl))) fun K1 hK1 => ?_
        refine qf_alloc zero47 rfl (fun b16 => ?_)
        skip
        refine qf_callv (val := .tuple #[.agg #[.bool false, .int .i64 (-1)], .int .i64 (0)]) tabOk rfl rfl rfl rfl (fun w hs => ?_) ?_
        · have := chooseF_ca w cs twoR ruA 0 0 1 0 (ho.at hs (by repeat first | exact .head _ | refine .tail _ ?_)) two_small; rw [aw_ch] at this; exact this
        (refine qf_pure tabOk rfl rfl rfl ?_; (iterate 2 refine qf_ext tabOk rfl rfl rfl ?_); refine qf_setA tabOk rfl rfl rfl rfl rfl (by repeat constructor) rfl ?_; refine qf_pure tabOk rfl rfl rfl ?_; refine qf_nil ?_)
        skip
        exact hK1 _ _ (qt_nil (hK2 b16 _ _ ⟨rfl, rfl, rfl, rfl, rfl, rfl, rfl, trivial⟩ (by repeat (first | exact Sp.nil | exact Sp.refl _ | refine Sp.cons (by repeat constructor) ?_))))
    · skip
      refine qt_seg (by repeat (first | exact PickL.nil | (apply PickL.cons; rfl))) fun K1 hK1 => ?_
      refine qf_alloc zero47 rfl (fun b16 => ?_)
      skip
      refine qf_call (β := List Ck × List Value) tabOk [] _ M0 rfl rfl rfl rfl (Sp.refl _) (fun _ h => h.elim) (fun w' hs => two_ca w') ?_
      rintro ⟨L, cs⟩ _ ⟨rfl, ho⟩
      (refine qf_loadAB tabOk rfl rfl rfl (by repeat first | exact .head _ | refine .tail _ ?_) (by rfl) (by rfl) ?_)
      refine qf_callv (val := .tuple #[.agg #[.bool false, .int .i64 (-1)], .int .i64 (0)]) tabOk rfl rfl rfl rfl (fun w hs => ?_) ?_
      · have := chooseF_ca w cs twoR ruA 0 0 1 0 (ho.at hs (by repeat first | exact .head _ | refine .tail _ ?_)) two_small; rw [aw_ch] at this; exact this
      (refine qf_pure tabOk rfl rfl rfl ?_; (iterate 2 refine qf_ext tabOk rfl rfl rfl ?_); refine qf_setA tabOk rfl rfl rfl rfl rfl (by repeat constructor) rfl ?_; refine qf_pure tabOk rfl rfl rfl ?_; refine qf_nil ?_)
      skip
      exact hK1 _ _ (qt_nil (hK2 b16 _ _ ⟨rfl, rfl, rfl, rfl, rfl, rfl, rfl, trivial⟩ (by repeat (first | exact Sp.nil | exact Sp.refl _ | refine Sp.cons (by repeat constructor) ?_))))
  intro b16
  (refine q_seq ?_; refine q_region ?_)
  refine ql_call (β := Nat × Nat × Nat × Nat × Nat × Nat) tabOk [] _ M0 rfl rfl rfl rfl (Sp.refl _) (fun _ h => h.elim) (fun w' hs => two_ca0 w') ?_
  rintro ⟨b41, b42, b43, b44, b45, b46⟩ _ rfl
  skip
  refine ql_alloc zero25 rfl (fun b17 => ?_)
  (refine ql_setA tabOk rfl rfl rfl rfl rfl (by repeat constructor) rfl ?_; refine q_nil ?_; refine q_seq ?_; refine q_region ?_)
  refine ql_mkS 3 (ints [1, 1]) rfl (by kernel_rfl) rfl (fun b51 => ?_)
  refine ql_mkS 3 (ints [1, 1]) rfl (by kernel_rfl) rfl (fun b52 => ?_)
  refine ql_mkS 22 [.slice (some ⟨b51, 0, none⟩) 2 2, .slice (some ⟨b52, 0, none⟩) 2 2] rfl (by kernel_rfl) rfl (fun b53 => ?_)
  (refine ql_pure tabOk rfl rfl ?_; refine ql_st7 tabOk rfl rfl rfl rfl (by repeat constructor) ?_; refine q_nil ?_; refine q_seq ?_; refine q_region ?_; refine ql_loadAB tabOk rfl rfl rfl (by repeat first | exact .head _ | refine .tail _ ?_) (by rfl) (by rfl) ?_)
  refine ql_mk #[.int .i64 240, .int .i64 100, .int .i64 30, .int .i64 1] rfl (by kernel_rfl) rfl ?_
  refine ql_callv (val := .tuple #[.agg #[.bool true, .int .i64 0], .int .i64 0]) tabOk rfl rfl rfl rfl (fun w hs => ?_) ?_; exact by have := chooseF_ca w (twoC b41 b42 b43 b53) twoX ruB 4 1 1 0 (two_rg (hs.blk (b := b41) (by repeat first | exact .head _ | refine .tail _ ?_)) (hs.blk (b := b42) (by repeat first | exact .head _ | refine .tail _ ?_)) (hs.blk (b := b43) (by repeat first | exact .head _ | refine .tail _ ?_)) (hs.blk (b := b51) (by repeat first | exact .head _ | refine .tail _ ?_)) (hs.blk (b := b52) (by repeat first | exact .head _ | refine .tail _ ?_)) (hs.blk (b := b53) (by repeat first | exact .head _ | refine .tail _ ?_))) twoX_small; rw [aw_chx] at this; exact this
  (refine ql_pure tabOk rfl rfl ?_; (iterate 2 refine ql_ext tabOk rfl rfl rfl ?_))
  refine ql_alloc zero47 rfl (fun b18 => ?_)
  (refine ql_setA tabOk rfl rfl rfl rfl rfl (by repeat constructor) rfl ?_; refine ql_pure tabOk rfl rfl ?_; refine q_nil ?_; refine q_seq ?_)
  refine q_cut (σ := Nat) (fun b19 => [(14, .slice a14 30 c14), (2, .int .i64 0), (4, .int .i64 0), (7, .int .i64 0), (10, .int .i64 0), (12, .int .i64 0), (15, .pointer (some ⟨b15, 0, none⟩)), (16, .pointer (some ⟨b16, 0, none⟩)), (18, .pointer (some ⟨b18, 0, none⟩)), (19, .pointer (some ⟨b19, 0, none⟩))]) (fun b19 => [.pt b19 [.int .i64 0, .int .i64 20, .int .i64 5] 55, .pt b18 [.bool true, .int .i64 0] 47, .pt b16 [.bool false, .int .i64 (-1)] 47, .pt b15 [.int .i64 10, .int .i64 1] 42]) ?_ (fun K2 hK2 => ?_)
  rotate_left
  · skip
    refine q_drawT (.alt (chainT [0, 1] (.alt (chainT [2] (.alt (chainT [3] (.alt (chainT [4, 5, 6, 7, 8, 9, 10] (.nil)) (chainT [8, 4, 5, 6, 7, 9, 10] (.nil)))) (chainT [8, 3, 4, 5, 6, 7, 9, 10] (.nil)))) (.alt (chainT [3] (.alt (chainT [2] (.alt (chainT [4, 5, 6, 7, 8, 9, 10] (.nil)) (chainT [8, 4, 5, 6, 7, 9, 10] (.nil)))) (chainT [8, 2, 4, 5, 6, 7, 9, 10] (.nil)))) (chainT [8] (.alt (chainT [2, 3, 4, 5, 6, 7, 9, 10] (.nil)) (chainT [3, 2, 4, 5, 6, 7, 9, 10] (.nil))))))) (.alt (chainT [2] (.alt (chainT [0, 1] (.alt (chainT [3] (.alt (chainT [4, 5, 6, 7, 8, 9, 10] (.nil)) (chainT [8, 4, 5, 6, 7, 9, 10] (.nil)))) (chainT [8, 3, 4, 5, 6, 7, 9, 10] (.nil)))) (.alt (chainT [3] (.alt (chainT [0, 1] (.alt (chainT [4, 5, 6, 7, 8, 9, 10] (.nil)) (chainT [8, 4, 5, 6, 7, 9, 10] (.nil)))) (chainT [8, 0, 1, 4, 5, 6, 7, 9, 10] (.nil)))) (chainT [8] (.alt (chainT [0, 1, 3, 4, 5, 6, 7, 9, 10] (.nil)) (chainT [3, 0, 1, 4, 5, 6, 7, 9, 10] (.nil))))))) (.alt (chainT [3] (.alt (chainT [0, 1] (.alt (chainT [2] (.alt (chainT [4, 5, 6, 7, 8, 9, 10] (.nil)) (chainT [8, 4, 5, 6, 7, 9, 10] (.nil)))) (chainT [8, 2, 4, 5, 6, 7, 9, 10] (.nil)))) (.alt (chainT [2] (.alt (chainT [0, 1] (.alt (chainT [4, 5, 6, 7, 8, 9, 10] (.nil)) (chainT [8, 4, 5, 6, 7, 9, 10] (.nil)))) (chainT [8, 0, 1, 4, 5, 6, 7, 9, 10] (.nil)))) (chainT [8] (.alt (chainT [0, 1, 2, 4, 5, 6, 7, 9, 10] (.nil)) (chainT [2, 0, 1, 4, 5, 6, 7, 9, 10] (.nil))))))) (chainT [8] (.alt (chainT [0, 1] (.alt (chainT [2, 3, 4, 5, 6, 7, 9, 10] (.nil)) (chainT [3, 2, 4, 5, 6, 7, 9, 10] (.nil)))) (.alt (chainT [2] (.alt (chainT [0, 1, 3, 4, 5, 6, 7, 9, 10] (.nil)) (chainT [3, 0, 1, 4, 5, 6, 7, 9, 10] (.nil)))) (chainT [3] (.alt (chainT [0, 1, 2, 4, 5, 6, 7, 9, 10] (.nil)) (chainT [2, 0, 1, 4, 5, 6, 7, 9, 10] (.nil)))))))))) _ [] (Sp.refl _) (by kernel_rfl) (by kernel_rfl) ?_
    refine qt_alt ?_ (qt_alt ?_ (qt_alt ?_ ?_))
    · skip
      refine qt_seg (by repeat (first | exact PickL.nil | (apply PickL.cons; rfl))) fun K1 hK1 => ?_
      refine qf_call (β := List Ck × List Value) tabOk [] _ M0 rfl rfl rfl rfl (Sp.refl _) (fun _ h => h.elim) (fun w' hs => two_ca w') ?_
      rintro ⟨L, cs⟩ _ ⟨rfl, ho⟩
      (refine qf_loadAB tabOk rfl rfl rfl (by repeat first | exact .head _ | refine .tail _ ?_) (by rfl) (by rfl) ?_; refine qf_nil ?_)
      refine hK1 _ _ ?_
      refine qt_alt ?_ (qt_alt ?_ ?_)
      · skip
        refine qt_seg (by repeat (first | exact PickL.nil | (apply PickL.cons; rfl))) fun K1 hK1 => ?_
        refine qf_mkS 3 (ints [1, 1, 1, 1, 1]) rfl (by kernel_rfl) rfl (fun b61 => ?_)
        (refine qf_nil ?_)
        refine hK1 _ _ ?_
        refine qt_alt ?_ ?_
        · skip
          refine qt_seg (by repeat (first | exact PickL.nil | (apply PickL.cons; rfl))) fun K1 hK1 => ?_
          refine qf_mkS 3 (ints [0, 0, 0, 0, 1]) rfl (by kernel_rfl) rfl (fun b62 => ?_)
          (refine qf_nil ?_)
          refine hK1 _ _ ?_
          refine qt_alt ?_ ?_
          · skip
            refine qt_seg (by repeat (first | exact PickL.nil | (apply PickL.cons; rfl))) fun K1 hK1 => ?_
            refine qf_callv (val := .tuple #[.agg #[.int .i64 (0), .int .i64 (20), .int .i64 (5)], .int .i64 (0)]) tabOk rfl rfl rfl rfl (fun w hs => ?_) ?_
            · have := follow_ca w 0 w.heap.size 0 w.heap.size cs twoR ruA _ _ [1, 1, 1, 1, 1] [0, 0, 0, 0, 1] (ho.at hs (by repeat first | exact .head _ | refine .tail _ ?_)) two_small (Blk.rdI (c := 5) (hs.blk (b := b61) (by repeat first | exact .head _ | refine .tail _ ?_))) (Blk.rdI (c := 5) (hs.blk (b := b62) (by repeat first | exact .head _ | refine .tail _ ?_))) (by decide) (by decide); rw [aw_fol] at this; exact this
            (refine qf_pure tabOk rfl rfl rfl ?_; (iterate 2 refine qf_ext tabOk rfl rfl rfl ?_))
            refine qf_alloc zero55 rfl (fun b19 => ?_)
            (refine qf_setA tabOk rfl rfl rfl rfl rfl (by repeat constructor) rfl ?_; refine qf_pure tabOk rfl rfl rfl ?_; refine qf_nil ?_)
            skip
            exact hK1 _ _ (qt_nil (hK2 b19 _ _ ⟨rfl, rfl, rfl, rfl, rfl, rfl, rfl, rfl, rfl, rfl, trivial⟩ (by repeat (first | exact Sp.nil | exact Sp.refl _ | refine Sp.cons (by repeat constructor) ?_))))
          · skip
            refine qt_seg (by repeat (first | exact PickL.nil | (apply PickL.cons; rfl))) fun K1 hK1 => ?_
            refine qf_alloc zero55 rfl (fun b19 => ?_)
            skip
            refine qf_callv (val := .tuple #[.agg #[.int .i64 (0), .int .i64 (20), .int .i64 (5)], .int .i64 (0)]) tabOk rfl rfl rfl rfl (fun w hs => ?_) ?_
            · have := follow_ca w 0 w.heap.size 0 w.heap.size cs twoR ruA _ _ [1, 1, 1, 1, 1] [0, 0, 0, 0, 1] (ho.at hs (by repeat first | exact .head _ | refine .tail _ ?_)) two_small (Blk.rdI (c := 5) (hs.blk (b := b61) (by repeat first | exact .head _ | refine .tail _ ?_))) (Blk.rdI (c := 5) (hs.blk (b := b62) (by repeat first | exact .head _ | refine .tail _ ?_))) (by decide) (by decide); rw [aw_fol] at this; exact this
            (refine qf_pure tabOk rfl rfl rfl ?_; (iterate 2 refine qf_ext tabOk rfl rfl rfl ?_); refine qf_setA tabOk rfl rfl rfl rfl rfl (by repeat constructor) rfl ?_; refine qf_pure tabOk rfl rfl rfl ?_; refine qf_nil ?_)
            skip
            exact hK1 _ _ (qt_nil (hK2 b19 _ _ ⟨rfl, rfl, rfl, rfl, rfl, rfl, rfl, rfl, rfl, rfl, trivial⟩ (by repeat (first | exact Sp.nil | exact Sp.refl _ | refine Sp.cons (by repeat constructor) ?_))))
        · skip
          refine qt_seg (by repeat (first | exact PickL.nil | (apply PickL.cons; rfl))) fun K1 hK1 => ?_
          refine qf_alloc zero55 rfl (fun b19 => ?_)
          skip
          refine qf_mkS 3 (ints [0, 0, 0, 0, 1]) rfl (by kernel_rfl) rfl (fun b62 => ?_)
          skip
          refine qf_callv (val := .tuple #[.agg #[.int .i64 (0), .int .i64 (20), .int .i64 (5)], .int .i64 (0)]) tabOk rfl rfl rfl rfl (fun w hs => ?_) ?_
          · have := follow_ca w 0 w.heap.size 0 w.heap.size cs twoR ruA _ _ [1, 1, 1, 1, 1] [0, 0, 0, 0, 1] (ho.at hs (by repeat first | exact .head _ | refine .tail _ ?_)) two_small (Blk.rdI (c := 5) (hs.blk (b := b61) (by repeat first | exact .head _ | refine .tail _ ?_))) (Blk.rdI (c := 5) (hs.blk (b := b62) (by repeat first | exact .head _ | refine .tail _ ?_))) (by decide) (by decide); rw [aw_fol] at this; exact this
          (refine qf_pure tabOk rfl rfl rfl ?_; (iterate 2 refine qf_ext tabOk rfl rfl rfl ?_); refine qf_setA tabOk rfl rfl rfl rfl rfl (by repeat constructor) rfl ?_; refine qf_pure tabOk rfl rfl rfl ?_; refine qf_nil ?_)
          skip
          exact hK1 _ _ (qt_nil (hK2 b19 _ _ ⟨rfl, rfl, rfl, rfl, rfl, rfl, rfl, rfl, rfl, rfl, trivial⟩ (by repeat (first | exact Sp.nil | exact Sp.refl _ | refine Sp.cons (by repeat constructor) ?_))))
      · skip
        refine qt_seg (by repeat (first | exact PickL.nil | (apply PickL.cons; rfl))) fun K1 hK1 => ?_
        refine qf_mkS 3 (ints [0, 0, 0, 0, 1]) rfl (by kernel_rfl) rfl (fun b62 => ?_)
        (refine qf_nil ?_)
        refine hK1 _ _ ?_
        refine qt_alt ?_ ?_
        · skip
          refine qt_seg (by repeat (first | exact PickL.nil | (apply PickL.cons; rfl))) fun K1 hK1 => ?_
          refine qf_mkS 3 (ints [1, 1, 1, 1, 1]) rfl (by kernel_rfl) rfl (fun b61 => ?_)
          (refine qf_nil ?_)
          refine hK1 _ _ ?_
          refine qt_alt ?_ ?_
          · skip
            refine qt_seg (by repeat (first | exact PickL.nil | (apply PickL.cons; rfl))) fun K1 hK1 => ?_
            refine qf_callv (val := .tuple #[.agg #[.int .i64 (0), .int .i64 (20), .int .i64 (5)], .int .i64 (0)]) tabOk rfl rfl rfl rfl (fun w hs => ?_) ?_
            · have := follow_ca w 0 w.heap.size 0 w.heap.size cs twoR ruA _ _ [1, 1, 1, 1, 1] [0, 0, 0, 0, 1] (ho.at hs (by repeat first | exact .head _ | refine .tail _ ?_)) two_small (Blk.rdI (c := 5) (hs.blk (b := b61) (by repeat first | exact .head _ | refine .tail _ ?_))) (Blk.rdI (c := 5) (hs.blk (b := b62) (by repeat first | exact .head _ | refine .tail _ ?_))) (by decide) (by decide); rw [aw_fol] at this; exact this
            (refine qf_pure tabOk rfl rfl rfl ?_; (iterate 2 refine qf_ext tabOk rfl rfl rfl ?_))
            refine qf_alloc zero55 rfl (fun b19 => ?_)
            (refine qf_setA tabOk rfl rfl rfl rfl rfl (by repeat constructor) rfl ?_; refine qf_pure tabOk rfl rfl rfl ?_; refine qf_nil ?_)
            skip
            exact hK1 _ _ (qt_nil (hK2 b19 _ _ ⟨rfl, rfl, rfl, rfl, rfl, rfl, rfl, rfl, rfl, rfl, trivial⟩ (by repeat (first | exact Sp.nil | exact Sp.refl _ | refine Sp.cons (by repeat constructor) ?_))))
          · skip
            refine qt_seg (by repeat (first | exact PickL.nil | (apply PickL.cons; rfl))) fun K1 hK1 => ?_
            refine qf_alloc zero55 rfl (fun b19 => ?_)
            skip
            refine qf_callv (val := .tuple #[.agg #[.int .i64 (0), .int .i64 (20), .int .i64 (5)], .int .i64 (0)]) tabOk rfl rfl rfl rfl (fun w hs => ?_) ?_
            · have := follow_ca w 0 w.heap.size 0 w.heap.size cs twoR ruA _ _ [1, 1, 1, 1, 1] [0, 0, 0, 0, 1] (ho.at hs (by repeat first | exact .head _ | refine .tail _ ?_)) two_small (Blk.rdI (c := 5) (hs.blk (b := b61) (by repeat first | exact .head _ | refine .tail _ ?_))) (Blk.rdI (c := 5) (hs.blk (b := b62) (by repeat first | exact .head _ | refine .tail _ ?_))) (by decide) (by decide); rw [aw_fol] at this; exact this
            (refine qf_pure tabOk rfl rfl rfl ?_; (iterate 2 refine qf_ext tabOk rfl rfl rfl ?_); refine qf_setA tabOk rfl rfl rfl rfl rfl (by repeat constructor) rfl ?_; refine qf_pure tabOk rfl rfl rfl ?_; refine qf_nil ?_)
            skip
            exact hK1 _ _ (qt_nil (hK2 b19 _ _ ⟨rfl, rfl, rfl, rfl, rfl, rfl, rfl, rfl, rfl, rfl, trivial⟩ (by repeat (first | exact Sp.nil | exact Sp.refl _ | refine Sp.cons (by repeat constructor) ?_))))
        · skip
          refine qt_seg (by repeat (first | exact PickL.nil | (apply PickL.cons; rfl))) fun K1 hK1 => ?_
          refine qf_alloc zero55 rfl (fun b19 => ?_)
          skip
          refine qf_mkS 3 (ints [1, 1, 1, 1, 1]) rfl (by kernel_rfl) rfl (fun b61 => ?_)
          skip
          refine qf_callv (val := .tuple #[.agg #[.int .i64 (0), .int .i64 (20), .int .i64 (5)], .int .i64 (0)]) tabOk rfl rfl rfl rfl (fun w hs => ?_) ?_
          · have := follow_ca w 0 w.heap.size 0 w.heap.size cs twoR ruA _ _ [1, 1, 1, 1, 1] [0, 0, 0, 0, 1] (ho.at hs (by repeat first | exact .head _ | refine .tail _ ?_)) two_small (Blk.rdI (c := 5) (hs.blk (b := b61) (by repeat first | exact .head _ | refine .tail _ ?_))) (Blk.rdI (c := 5) (hs.blk (b := b62) (by repeat first | exact .head _ | refine .tail _ ?_))) (by decide) (by decide); rw [aw_fol] at this; exact this
          (refine qf_pure tabOk rfl rfl rfl ?_; (iterate 2 refine qf_ext tabOk rfl rfl rfl ?_); refine qf_setA tabOk rfl rfl rfl rfl rfl (by repeat constructor) rfl ?_; refine qf_pure tabOk rfl rfl rfl ?_; refine qf_nil ?_)
          skip
          exact hK1 _ _ (qt_nil (hK2 b19 _ _ ⟨rfl, rfl, rfl, rfl, rfl, rfl, rfl, rfl, rfl, rfl, trivial⟩ (by repeat (first | exact Sp.nil | exact Sp.refl _ | refine Sp.cons (by repeat constructor) ?_))))
      · skip
        refine qt_seg (by repeat (first | exact PickL.nil | (apply PickL.cons; rfl))) fun K1 hK1 => ?_
        refine qf_alloc zero55 rfl (fun b19 => ?_)
        (refine qf_nil ?_)
        refine hK1 _ _ ?_
        refine qt_alt ?_ ?_
        · skip
          refine qt_seg (by repeat (first | exact PickL.nil | (apply PickL.cons; rfl))) fun K1 hK1 => ?_
          refine qf_mkS 3 (ints [1, 1, 1, 1, 1]) rfl (by kernel_rfl) rfl (fun b61 => ?_)
          skip
          refine qf_mkS 3 (ints [0, 0, 0, 0, 1]) rfl (by kernel_rfl) rfl (fun b62 => ?_)
          skip
          refine qf_callv (val := .tuple #[.agg #[.int .i64 (0), .int .i64 (20), .int .i64 (5)], .int .i64 (0)]) tabOk rfl rfl rfl rfl (fun w hs => ?_) ?_
          · have := follow_ca w 0 w.heap.size 0 w.heap.size cs twoR ruA _ _ [1, 1, 1, 1, 1] [0, 0, 0, 0, 1] (ho.at hs (by repeat first | exact .head _ | refine .tail _ ?_)) two_small (Blk.rdI (c := 5) (hs.blk (b := b61) (by repeat first | exact .head _ | refine .tail _ ?_))) (Blk.rdI (c := 5) (hs.blk (b := b62) (by repeat first | exact .head _ | refine .tail _ ?_))) (by decide) (by decide); rw [aw_fol] at this; exact this
          (refine qf_pure tabOk rfl rfl rfl ?_; (iterate 2 refine qf_ext tabOk rfl rfl rfl ?_); refine qf_setA tabOk rfl rfl rfl rfl rfl (by repeat constructor) rfl ?_; refine qf_pure tabOk rfl rfl rfl ?_; refine qf_nil ?_)
          skip
          exact hK1 _ _ (qt_nil (hK2 b19 _ _ ⟨rfl, rfl, rfl, rfl, rfl, rfl, rfl, rfl, rfl, rfl, trivial⟩ (by repeat (first | exact Sp.nil | exact Sp.refl _ | refine Sp.cons (by repeat constructor) ?_))))
        · skip
          refine qt_seg (by repeat (first | exact PickL.nil | (apply PickL.cons; rfl))) fun K1 hK1 => ?_
          refine qf_mkS 3 (ints [0, 0, 0, 0, 1]) rfl (by kernel_rfl) rfl (fun b62 => ?_)
          skip
          refine qf_mkS 3 (ints [1, 1, 1, 1, 1]) rfl (by kernel_rfl) rfl (fun b61 => ?_)
          skip
          refine qf_callv (val := .tuple #[.agg #[.int .i64 (0), .int .i64 (20), .int .i64 (5)], .int .i64 (0)]) tabOk rfl rfl rfl rfl (fun w hs => ?_) ?_
          · have := follow_ca w 0 w.heap.size 0 w.heap.size cs twoR ruA _ _ [1, 1, 1, 1, 1] [0, 0, 0, 0, 1] (ho.at hs (by repeat first | exact .head _ | refine .tail _ ?_)) two_small (Blk.rdI (c := 5) (hs.blk (b := b61) (by repeat first | exact .head _ | refine .tail _ ?_))) (Blk.rdI (c := 5) (hs.blk (b := b62) (by repeat first | exact .head _ | refine .tail _ ?_))) (by decide) (by decide); rw [aw_fol] at this; exact this
          (refine qf_pure tabOk rfl rfl rfl ?_; (iterate 2 refine qf_ext tabOk rfl rfl rfl ?_); refine qf_setA tabOk rfl rfl rfl rfl rfl (by repeat constructor) rfl ?_; refine qf_pure tabOk rfl rfl rfl ?_; refine qf_nil ?_)
          skip
          exact hK1 _ _ (qt_nil (hK2 b19 _ _ ⟨rfl, rfl, rfl, rfl, rfl, rfl, rfl, rfl, rfl, rfl, trivial⟩ (by repeat (first | exact Sp.nil | exact Sp.refl _ | refine Sp.cons (by repeat constructor) ?_))))
    · skip
      refine qt_seg (by repeat (first | exact PickL.nil | (apply PickL.cons; rfl))) fun K1 hK1 => ?_
      refine qf_mkS 3 (ints [1, 1, 1, 1, 1]) rfl (by kernel_rfl) rfl (fun b61 => ?_)
      (refine qf_nil ?_)
      refine hK1 _ _ ?_
      refine qt_alt ?_ (qt_alt ?_ ?_)
      · skip
        refine qt_seg (by repeat (first | exact PickL.nil | (apply PickL.cons; rfl))) fun K1 hK1 => ?_
        refine qf_call (β := List Ck × List Value) tabOk [] _ M0 rfl rfl rfl rfl (Sp.refl _) (fun _ h => h.elim) (fun w' hs => two_ca w') ?_
        rintro ⟨L, cs⟩ _ ⟨rfl, ho⟩
        (refine qf_loadAB tabOk rfl rfl rfl (by repeat first | exact .head _ | refine .tail _ ?_) (by rfl) (by rfl) ?_; refine qf_nil ?_)
        refine hK1 _ _ ?_
        refine qt_alt ?_ ?_
        · skip
          refine qt_seg (by repeat (first | exact PickL.nil | (apply PickL.cons; rfl))) fun K1 hK1 => ?_
          refine qf_mkS 3 (ints [0, 0, 0, 0, 1]) rfl (by kernel_rfl) rfl (fun b62 => ?_)
          (refine qf_nil ?_)
          refine hK1 _ _ ?_
          refine qt_alt ?_ ?_
          · skip
            refine qt_seg (by repeat (first | exact PickL.nil | (apply PickL.cons; rfl))) fun K1 hK1 => ?_
            refine qf_callv (val := .tuple #[.agg #[.int .i64 (0), .int .i64 (20), .int .i64 (5)], .int .i64 (0)]) tabOk rfl rfl rfl rfl (fun w hs => ?_) ?_
            · have := follow_ca w 0 w.heap.size 0 w.heap.size cs twoR ruA _ _ [1, 1, 1, 1, 1] [0, 0, 0, 0, 1] (ho.at hs (by repeat first | exact .head _ | refine .tail _ ?_)) two_small (Blk.rdI (c := 5) (hs.blk (b := b61) (by repeat first | exact .head _ | refine .tail _ ?_))) (Blk.rdI (c := 5) (hs.blk (b := b62) (by repeat first | exact .head _ | refine .tail _ ?_))) (by decide) (by decide); rw [aw_fol] at this; exact this
            (refine qf_pure tabOk rfl rfl rfl ?_; (iterate 2 refine qf_ext tabOk rfl rfl rfl ?_))
            refine qf_alloc zero55 rfl (fun b19 => ?_)
            (refine qf_setA tabOk rfl rfl rfl rfl rfl (by repeat constructor) rfl ?_; refine qf_pure tabOk rfl rfl rfl ?_; refine qf_nil ?_)
            skip
            exact hK1 _ _ (qt_nil (hK2 b19 _ _ ⟨rfl, rfl, rfl, rfl, rfl, rfl, rfl, rfl, rfl, rfl, trivial⟩ (by repeat (first | exact Sp.nil | exact Sp.refl _ | refine Sp.cons (by repeat constructor) ?_))))
          · skip
            refine qt_seg (by repeat (first | exact PickL.nil | (apply PickL.cons; rfl))) fun K1 hK1 => ?_
            refine qf_alloc zero55 rfl (fun b19 => ?_)
            skip
            refine qf_callv (val := .tuple #[.agg #[.int .i64 (0), .int .i64 (20), .int .i64 (5)], .int .i64 (0)]) tabOk rfl rfl rfl rfl (fun w hs => ?_) ?_
            · have := follow_ca w 0 w.heap.size 0 w.heap.size cs twoR ruA _ _ [1, 1, 1, 1, 1] [0, 0, 0, 0, 1] (ho.at hs (by repeat first | exact .head _ | refine .tail _ ?_)) two_small (Blk.rdI (c := 5) (hs.blk (b := b61) (by repeat first | exact .head _ | refine .tail _ ?_))) (Blk.rdI (c := 5) (hs.blk (b := b62) (by repeat first | exact .head _ | refine .tail _ ?_))) (by decide) (by decide); rw [aw_fol] at this; exact this
            (refine qf_pure tabOk rfl rfl rfl ?_; (iterate 2 refine qf_ext tabOk rfl rfl rfl ?_); refine qf_setA tabOk rfl rfl rfl rfl rfl (by repeat constructor) rfl ?_; refine qf_pure tabOk rfl rfl rfl ?_; refine qf_nil ?_)
            skip
            exact hK1 _ _ (qt_nil (hK2 b19 _ _ ⟨rfl, rfl, rfl, rfl, rfl, rfl, rfl, rfl, rfl, rfl, trivial⟩ (by repeat (first | exact Sp.nil | exact Sp.refl _ | refine Sp.cons (by repeat constructor) ?_))))
        · skip
          refine qt_seg (by repeat (first | exact PickL.nil | (apply PickL.cons; rfl))) fun K1 hK1 => ?_
          refine qf_alloc zero55 rfl (fun b19 => ?_)
          skip
          refine qf_mkS 3 (ints [0, 0, 0, 0, 1]) rfl (by kernel_rfl) rfl (fun b62 => ?_)
          skip
          refine qf_callv (val := .tuple #[.agg #[.int .i64 (0), .int .i64 (20), .int .i64 (5)], .int .i64 (0)]) tabOk rfl rfl rfl rfl (fun w hs => ?_) ?_
          · have := follow_ca w 0 w.heap.size 0 w.heap.size cs twoR ruA _ _ [1, 1, 1, 1, 1] [0, 0, 0, 0, 1] (ho.at hs (by repeat first | exact .head _ | refine .tail _ ?_)) two_small (Blk.rdI (c := 5) (hs.blk (b := b61) (by repeat first | exact .head _ | refine .tail _ ?_))) (Blk.rdI (c := 5) (hs.blk (b := b62) (by repeat first | exact .head _ | refine .tail _ ?_))) (by decide) (by decide); rw [aw_fol] at this; exact this
          (refine qf_pure tabOk rfl rfl rfl ?_; (iterate 2 refine qf_ext tabOk rfl rfl rfl ?_); refine qf_setA tabOk rfl rfl rfl rfl rfl (by repeat constructor) rfl ?_; refine qf_pure tabOk rfl rfl rfl ?_; refine qf_nil ?_)
          skip
          exact hK1 _ _ (qt_nil (hK2 b19 _ _ ⟨rfl, rfl, rfl, rfl, rfl, rfl, rfl, rfl, rfl, rfl, trivial⟩ (by repeat (first | exact Sp.nil | exact Sp.refl _ | refine Sp.cons (by repeat constructor) ?_))))
      · skip
        refine qt_seg (by repeat (first | exact PickL.nil | (apply PickL.cons; rfl))) fun K1 hK1 => ?_
        refine qf_mkS 3 (ints [0, 0, 0, 0, 1]) rfl (by kernel_rfl) rfl (fun b62 => ?_)
        (refine qf_nil ?_)
        refine hK1 _ _ ?_
        refine qt_alt ?_ ?_
        · skip
          refine qt_seg (by repeat (first | exact PickL.nil | (apply PickL.cons; rfl))) fun K1 hK1 => ?_
          refine qf_call (β := List Ck × List Value) tabOk [] _ M0 rfl rfl rfl rfl (Sp.refl _) (fun _ h => h.elim) (fun w' hs => two_ca w') ?_
          rintro ⟨L, cs⟩ _ ⟨rfl, ho⟩
          (refine qf_loadAB tabOk rfl rfl rfl (by repeat first | exact .head _ | refine .tail _ ?_) (by rfl) (by rfl) ?_; refine qf_nil ?_)
          refine hK1 _ _ ?_
          refine qt_alt ?_ ?_
          · skip
            refine qt_seg (by repeat (first | exact PickL.nil | (apply PickL.cons; rfl))) fun K1 hK1 => ?_
            refine qf_callv (val := .tuple #[.agg #[.int .i64 (0), .int .i64 (20), .int .i64 (5)], .int .i64 (0)]) tabOk rfl rfl rfl rfl (fun w hs => ?_) ?_
            · have := follow_ca w 0 w.heap.size 0 w.heap.size cs twoR ruA _ _ [1, 1, 1, 1, 1] [0, 0, 0, 0, 1] (ho.at hs (by repeat first | exact .head _ | refine .tail _ ?_)) two_small (Blk.rdI (c := 5) (hs.blk (b := b61) (by repeat first | exact .head _ | refine .tail _ ?_))) (Blk.rdI (c := 5) (hs.blk (b := b62) (by repeat first | exact .head _ | refine .tail _ ?_))) (by decide) (by decide); rw [aw_fol] at this; exact this
            (refine qf_pure tabOk rfl rfl rfl ?_; (iterate 2 refine qf_ext tabOk rfl rfl rfl ?_))
            refine qf_alloc zero55 rfl (fun b19 => ?_)
            (refine qf_setA tabOk rfl rfl rfl rfl rfl (by repeat constructor) rfl ?_; refine qf_pure tabOk rfl rfl rfl ?_; refine qf_nil ?_)
            skip
            exact hK1 _ _ (qt_nil (hK2 b19 _ _ ⟨rfl, rfl, rfl, rfl, rfl, rfl, rfl, rfl, rfl, rfl, trivial⟩ (by repeat (first | exact Sp.nil | exact Sp.refl _ | refine Sp.cons (by repeat constructor) ?_))))
          · skip
            refine qt_seg (by repeat (first | exact PickL.nil | (apply PickL.cons; rfl))) fun K1 hK1 => ?_
            refine qf_alloc zero55 rfl (fun b19 => ?_)
            skip
            refine qf_callv (val := .tuple #[.agg #[.int .i64 (0), .int .i64 (20), .int .i64 (5)], .int .i64 (0)]) tabOk rfl rfl rfl rfl (fun w hs => ?_) ?_
            · have := follow_ca w 0 w.heap.size 0 w.heap.size cs twoR ruA _ _ [1, 1, 1, 1, 1] [0, 0, 0, 0, 1] (ho.at hs (by repeat first | exact .head _ | refine .tail _ ?_)) two_small (Blk.rdI (c := 5) (hs.blk (b := b61) (by repeat first | exact .head _ | refine .tail _ ?_))) (Blk.rdI (c := 5) (hs.blk (b := b62) (by repeat first | exact .head _ | refine .tail _ ?_))) (by decide) (by decide); rw [aw_fol] at this; exact this
            (refine qf_pure tabOk rfl rfl rfl ?_; (iterate 2 refine qf_ext tabOk rfl rfl rfl ?_); refine qf_setA tabOk rfl rfl rfl rfl rfl (by repeat constructor) rfl ?_; refine qf_pure tabOk rfl rfl rfl ?_; refine qf_nil ?_)
            skip
            exact hK1 _ _ (qt_nil (hK2 b19 _ _ ⟨rfl, rfl, rfl, rfl, rfl, rfl, rfl, rfl, rfl, rfl, trivial⟩ (by repeat (first | exact Sp.nil | exact Sp.refl _ | refine Sp.cons (by repeat constructor) ?_))))
        · skip
          refine qt_seg (by repeat (first | exact PickL.nil | (apply PickL.cons; rfl))) fun K1 hK1 => ?_
          refine qf_alloc zero55 rfl (fun b19 => ?_)
          skip
          refine qf_call (β := List Ck × List Value) tabOk [] _ M0 rfl rfl rfl rfl (Sp.refl _) (fun _ h => h.elim) (fun w' hs => two_ca w') ?_
          rintro ⟨L, cs⟩ _ ⟨rfl, ho⟩
          (refine qf_loadAB tabOk rfl rfl rfl (by repeat first | exact .head _ | refine .tail _ ?_) (by rfl) (by rfl) ?_)
          refine qf_callv (val := .tuple #[.agg #[.int .i64 (0), .int .i64 (20), .int .i64 (5)], .int .i64 (0)]) tabOk rfl rfl rfl rfl (fun w hs => ?_) ?_
          · have := follow_ca w 0 w.heap.size 0 w.heap.size cs twoR ruA _ _ [1, 1, 1, 1, 1] [0, 0, 0, 0, 1] (ho.at hs (by repeat first | exact .head _ | refine .tail _ ?_)) two_small (Blk.rdI (c := 5) (hs.blk (b := b61) (by repeat first | exact .head _ | refine .tail _ ?_))) (Blk.rdI (c := 5) (hs.blk (b := b62) (by repeat first | exact .head _ | refine .tail _ ?_))) (by decide) (by decide); rw [aw_fol] at this; exact this
          (refine qf_pure tabOk rfl rfl rfl ?_; (iterate 2 refine qf_ext tabOk rfl rfl rfl ?_); refine qf_setA tabOk rfl rfl rfl rfl rfl (by repeat constructor) rfl ?_; refine qf_pure tabOk rfl rfl rfl ?_; refine qf_nil ?_)
          skip
          exact hK1 _ _ (qt_nil (hK2 b19 _ _ ⟨rfl, rfl, rfl, rfl, rfl, rfl, rfl, rfl, rfl, rfl, trivial⟩ (by repeat (first | exact Sp.nil | exact Sp.refl _ | refine Sp.cons (by repeat constructor) ?_))))
      · skip
        refine qt_seg (by repeat (first | exact PickL.nil | (apply PickL.cons; rfl))) fun K1 hK1 => ?_
        refine qf_alloc zero55 rfl (fun b19 => ?_)
        (refine qf_nil ?_)
        refine hK1 _ _ ?_
        refine qt_alt ?_ ?_
        · skip
          refine qt_seg (by repeat (first | exact PickL.nil | (apply PickL.cons; rfl))) fun K1 hK1 => ?_
          refine qf_call (β := List Ck × List Value) tabOk [] _ M0 rfl rfl rfl rfl (Sp.refl _) (fun _ h => h.elim) (fun w' hs => two_ca w') ?_
          rintro ⟨L, cs⟩ _ ⟨rfl, ho⟩
          (refine qf_loadAB tabOk rfl rfl rfl (by repeat first | exact .head _ | refine .tail _ ?_) (by rfl) (by rfl) ?_)
          refine qf_mkS 3 (ints [0, 0, 0, 0, 1]) rfl (by kernel_rfl) rfl (fun b62 => ?_)
          skip
          refine qf_callv (val := .tuple #[.agg #[.int .i64 (0), .int .i64 (20), .int .i64 (5)], .int .i64 (0)]) tabOk rfl rfl rfl rfl (fun w hs => ?_) ?_
          · have := follow_ca w 0 w.heap.size 0 w.heap.size cs twoR ruA _ _ [1, 1, 1, 1, 1] [0, 0, 0, 0, 1] (ho.at hs (by repeat first | exact .head _ | refine .tail _ ?_)) two_small (Blk.rdI (c := 5) (hs.blk (b := b61) (by repeat first | exact .head _ | refine .tail _ ?_))) (Blk.rdI (c := 5) (hs.blk (b := b62) (by repeat first | exact .head _ | refine .tail _ ?_))) (by decide) (by decide); rw [aw_fol] at this; exact this
          (refine qf_pure tabOk rfl rfl rfl ?_; (iterate 2 refine qf_ext tabOk rfl rfl rfl ?_); refine qf_setA tabOk rfl rfl rfl rfl rfl (by repeat constructor) rfl ?_; refine qf_pure tabOk rfl rfl rfl ?_; refine qf_nil ?_)
          skip
          exact hK1 _ _ (qt_nil (hK2 b19 _ _ ⟨rfl, rfl, rfl, rfl, rfl, rfl, rfl, rfl, rfl, rfl, trivial⟩ (by repeat (first | exact Sp.nil | exact Sp.refl _ | refine Sp.cons (by repeat constructor) ?_))))
        · skip
          refine qt_seg (by repeat (first | exact PickL.nil | (apply PickL.cons; rfl))) fun K1 hK1 => ?_
          refine qf_mkS 3 (ints [0, 0, 0, 0, 1]) rfl (by kernel_rfl) rfl (fun b62 => ?_)
          skip
          refine qf_call (β := List Ck × List Value) tabOk [] _ M0 rfl rfl rfl rfl (Sp.refl _) (fun _ h => h.elim) (fun w' hs => two_ca w') ?_
          rintro ⟨L, cs⟩ _ ⟨rfl, ho⟩
          (refine qf_loadAB tabOk rfl rfl rfl (by repeat first | exact .head _ | refine .tail _ ?_) (by rfl) (by rfl) ?_)
          refine qf_callv (val := .tuple #[.agg #[.int .i64 (0), .int .i64 (20), .int .i64 (5)], .int .i64 (0)]) tabOk rfl rfl rfl rfl (fun w hs => ?_) ?_
          · have := follow_ca w 0 w.heap.size 0 w.heap.size cs twoR ruA _ _ [1, 1, 1, 1, 1] [0, 0, 0, 0, 1] (ho.at hs (by repeat first | exact .head _ | refine .tail _ ?_)) two_small (Blk.rdI (c := 5) (hs.blk (b := b61) (by repeat first | exact .head _ | refine .tail _ ?_))) (Blk.rdI (c := 5) (hs.blk (b := b62) (by repeat first | exact .head _ | refine .tail _ ?_))) (by decide) (by decide); rw [aw_fol] at this; exact this
          (refine qf_pure tabOk rfl rfl rfl ?_; (iterate 2 refine qf_ext tabOk rfl rfl rfl ?_); refine qf_setA tabOk rfl rfl rfl rfl rfl (by repeat constructor) rfl ?_; refine qf_pure tabOk rfl rfl rfl ?_; refine qf_nil ?_)
          skip
          exact hK1 _ _ (qt_nil (hK2 b19 _ _ ⟨rfl, rfl, rfl, rfl, rfl, rfl, rfl, rfl, rfl, rfl, trivial⟩ (by repeat (first | exact Sp.nil | exact Sp.refl _ | refine Sp.cons (by repeat constructor) ?_))))
    · skip
      refine qt_seg (by repeat (first | exact PickL.nil | (apply PickL.cons; rfl))) fun K1 hK1 => ?_
      refine qf_mkS 3 (ints [0, 0, 0, 0, 1]) rfl (by kernel_rfl) rfl (fun b62 => ?_)
      (refine qf_nil ?_)
      refine hK1 _ _ ?_
      refine qt_alt ?_ (qt_alt ?_ ?_)
      · skip
        refine qt_seg (by repeat (first | exact PickL.nil | (apply PickL.cons; rfl))) fun K1 hK1 => ?_
        refine qf_call (β := List Ck × List Value) tabOk [] _ M0 rfl rfl rfl rfl (Sp.refl _) (fun _ h => h.elim) (fun w' hs => two_ca w') ?_
        rintro ⟨L, cs⟩ _ ⟨rfl, ho⟩
        (refine qf_loadAB tabOk rfl rfl rfl (by repeat first | exact .head _ | refine .tail _ ?_) (by rfl) (by rfl) ?_; refine qf_nil ?_)
        refine hK1 _ _ ?_
        refine qt_alt ?_ ?_
        · skip
          refine qt_seg (by repeat (first | exact PickL.nil | (apply PickL.cons; rfl))) fun K1 hK1 => ?_
          refine qf_mkS 3 (ints [1, 1, 1, 1, 1]) rfl (by kernel_rfl) rfl (fun b61 => ?_)
          (refine qf_nil ?_)
          refine hK1 _ _ ?_
          refine qt_alt ?_ ?_
          · skip
            refine qt_seg (by repeat (first | exact PickL.nil | (apply PickL.cons; rfl))) fun K1 hK1 => ?_
            refine qf_callv (val := .tuple #[.agg #[.int .i64 (0), .int .i64 (20), .int .i64 (5)], .int .i64 (0)]) tabOk rfl rfl rfl rfl (fun w hs => ?_) ?_
            · have := follow_ca w 0 w.heap.size 0 w.heap.size cs twoR ruA _ _ [1, 1, 1, 1, 1] [0, 0, 0, 0, 1] (ho.at hs (by repeat first | exact .head _ | refine .tail _ ?_)) two_small (Blk.rdI (c := 5) (hs.blk (b := b61) (by repeat first | exact .head _ | refine .tail _ ?_))) (Blk.rdI (c := 5) (hs.blk (b := b62) (by repeat first | exact .head _ | refine .tail _ ?_))) (by decide) (by decide); rw [aw_fol] at this; exact this
            (refine qf_pure tabOk rfl rfl rfl ?_; (iterate 2 refine qf_ext tabOk rfl rfl rfl ?_))
            refine qf_alloc zero55 rfl (fun b19 => ?_)
            (refine qf_setA tabOk rfl rfl rfl rfl rfl (by repeat constructor) rfl ?_; refine qf_pure tabOk rfl rfl rfl ?_; refine qf_nil ?_)
            skip
            exact hK1 _ _ (qt_nil (hK2 b19 _ _ ⟨rfl, rfl, rfl, rfl, rfl, rfl, rfl, rfl, rfl, rfl, trivial⟩ (by repeat (first | exact Sp.nil | exact Sp.refl _ | refine Sp.cons (by repeat constructor) ?_))))
          · skip
            refine qt_seg (by repeat (first | exact PickL.nil | (apply PickL.cons; rfl))) fun K1 hK1 => ?_
            refine qf_alloc zero55 rfl (fun b19 => ?_)
            skip
            refine qf_callv (val := .tuple #[.agg #[.int .i64 (0), .int .i64 (20), .int .i64 (5)], .int .i64 (0)]) tabOk rfl rfl rfl rfl (fun w hs => ?_) ?_
            · have := follow_ca w 0 w.heap.size 0 w.heap.size cs twoR ruA _ _ [1, 1, 1, 1, 1] [0, 0, 0, 0, 1] (ho.at hs (by repeat first | exact .head _ | refine .tail _ ?_)) two_small (Blk.rdI (c := 5) (hs.blk (b := b61) (by repeat first | exact .head _ | refine .tail _ ?_))) (Blk.rdI (c := 5) (hs.blk (b := b62) (by repeat first | exact .head _ | refine .tail _ ?_))) (by decide) (by decide); rw [aw_fol] at this; exact this
            (refine qf_pure tabOk rfl rfl rfl ?_; (iterate 2 refine qf_ext tabOk rfl rfl rfl ?_); refine qf_setA tabOk rfl rfl rfl rfl rfl (by repeat constructor) rfl ?_; refine qf_pure tabOk rfl rfl rfl ?_; refine qf_nil ?_)
            skip
            exact hK1 _ _ (qt_nil (hK2 b19 _ _ ⟨rfl, rfl, rfl, rfl, rfl, rfl, rfl, rfl, rfl, rfl, trivial⟩ (by repeat (first | exact Sp.nil | exact Sp.refl _ | refine Sp.cons (by repeat constructor) ?_))))
        · skip
          refine qt_seg (by repeat (first | exact PickL.nil | (apply PickL.cons; rfl))) fun K1 hK1 => ?_
          refine qf_alloc zero55 rfl (fun b19 => ?_)
          skip
          refine qf_mkS 3 (ints [1, 1, 1, 1, 1]) rfl (by kernel_rfl) rfl (fun b61 => ?_)
          skip
          refine qf_callv (val := .tuple #[.agg #[.int .i64 (0), .int .i64 (20), .int .i64 (5)], .int .i64 (0)]) tabOk rfl rfl rfl rfl (fun w hs => ?_) ?_
          · have := follow_ca w 0 w.heap.size 0 w.heap.size cs twoR ruA _ _ [1, 1, 1, 1, 1] [0, 0, 0, 0, 1] (ho.at hs (by repeat first | exact .head _ | refine .tail _ ?_)) two_small (Blk.rdI (c := 5) (hs.blk (b := b61) (by repeat first | exact .head _ | refine .tail _ ?_))) (Blk.rdI (c := 5) (hs.blk (b := b62) (by repeat first | exact .head _ | refine .tail _ ?_))) (by decide) (by decide); rw [aw_fol] at this; exact this
          (refine qf_pure tabOk rfl rfl rfl ?_; (iterate 2 refine qf_ext tabOk rfl rfl rfl ?_); refine qf_setA tabOk rfl rfl rfl rfl rfl (by repeat constructor) rfl ?_; refine qf_pure tabOk rfl rfl rfl ?_; refine qf_nil ?_)
          skip
          exact hK1 _ _ (qt_nil (hK2 b19 _ _ ⟨rfl, rfl, rfl, rfl, rfl, rfl, rfl, rfl, rfl, rfl, trivial⟩ (by repeat (first | exact Sp.nil | exact Sp.refl _ | refine Sp.cons (by repeat constructor) ?_))))
      · skip
        refine qt_seg (by repeat (first | exact PickL.nil | (apply PickL.cons; rfl))) fun K1 hK1 => ?_
        refine qf_mkS 3 (ints [1, 1, 1, 1, 1]) rfl (by kernel_rfl) rfl (fun b61 => ?_)
        (refine qf_nil ?_)
        refine hK1 _ _ ?_
        refine qt_alt ?_ ?_
        · skip
          refine qt_seg (by repeat (first | exact PickL.nil | (apply PickL.cons; rfl))) fun K1 hK1 => ?_
          refine qf_call (β := List Ck × List Value) tabOk [] _ M0 rfl rfl rfl rfl (Sp.refl _) (fun _ h => h.elim) (fun w' hs => two_ca w') ?_
          rintro ⟨L, cs⟩ _ ⟨rfl, ho⟩
          (refine qf_loadAB tabOk rfl rfl rfl (by repeat first | exact .head _ | refine .tail _ ?_) (by rfl) (by rfl) ?_; refine qf_nil ?_)
          refine hK1 _ _ ?_
          refine qt_alt ?_ ?_
          · skip
            refine qt_seg (by repeat (first | exact PickL.nil | (apply PickL.cons; rfl))) fun K1 hK1 => ?_
            refine qf_callv (val := .tuple #[.agg #[.int .i64 (0), .int .i64 (20), .int .i64 (5)], .int .i64 (0)]) tabOk rfl rfl rfl rfl (fun w hs => ?_) ?_
            · have := follow_ca w 0 w.heap.size 0 w.heap.size cs twoR ruA _ _ [1, 1, 1, 1, 1] [0, 0, 0, 0, 1] (ho.at hs (by repeat first | exact .head _ | refine .tail _ ?_)) two_small (Blk.rdI (c := 5) (hs.blk (b := b61) (by repeat first | exact .head _ | refine .tail _ ?_))) (Blk.rdI (c := 5) (hs.blk (b := b62) (by repeat first | exact .head _ | refine .tail _ ?_))) (by decide) (by decide); rw [aw_fol] at this; exact this
            (refine qf_pure tabOk rfl rfl rfl ?_; (iterate 2 refine qf_ext tabOk rfl rfl rfl ?_))
            refine qf_alloc zero55 rfl (fun b19 => ?_)
            (refine qf_setA tabOk rfl rfl rfl rfl rfl (by repeat constructor) rfl ?_; refine qf_pure tabOk rfl rfl rfl ?_; refine qf_nil ?_)
            skip
            exact hK1 _ _ (qt_nil (hK2 b19 _ _ ⟨rfl, rfl, rfl, rfl, rfl, rfl, rfl, rfl, rfl, rfl, trivial⟩ (by repeat (first | exact Sp.nil | exact Sp.refl _ | refine Sp.cons (by repeat constructor) ?_))))
          · skip
            refine qt_seg (by repeat (first | exact PickL.nil | (apply PickL.cons; rfl))) fun K1 hK1 => ?_
            refine qf_alloc zero55 rfl (fun b19 => ?_)
            skip
            refine qf_callv (val := .tuple #[.agg #[.int .i64 (0), .int .i64 (20), .int .i64 (5)], .int .i64 (0)]) tabOk rfl rfl rfl rfl (fun w hs => ?_) ?_
            · have := follow_ca w 0 w.heap.size 0 w.heap.size cs twoR ruA _ _ [1, 1, 1, 1, 1] [0, 0, 0, 0, 1] (ho.at hs (by repeat first | exact .head _ | refine .tail _ ?_)) two_small (Blk.rdI (c := 5) (hs.blk (b := b61) (by repeat first | exact .head _ | refine .tail _ ?_))) (Blk.rdI (c := 5) (hs.blk (b := b62) (by repeat first | exact .head _ | refine .tail _ ?_))) (by decide) (by decide); rw [aw_fol] at this; exact this
            (refine qf_pure tabOk rfl rfl rfl ?_; (iterate 2 refine qf_ext tabOk rfl rfl rfl ?_); refine qf_setA tabOk rfl rfl rfl rfl rfl (by repeat constructor) rfl ?_; refine qf_pure tabOk rfl rfl rfl ?_; refine qf_nil ?_)
            skip
            exact hK1 _ _ (qt_nil (hK2 b19 _ _ ⟨rfl, rfl, rfl, rfl, rfl, rfl, rfl, rfl, rfl, rfl, trivial⟩ (by repeat (first | exact Sp.nil | exact Sp.refl _ | refine Sp.cons (by repeat constructor) ?_))))
        · skip
          refine qt_seg (by repeat (first | exact PickL.nil | (apply PickL.cons; rfl))) fun K1 hK1 => ?_
          refine qf_alloc zero55 rfl (fun b19 => ?_)
          skip
          refine qf_call (β := List Ck × List Value) tabOk [] _ M0 rfl rfl rfl rfl (Sp.refl _) (fun _ h => h.elim) (fun w' hs => two_ca w') ?_
          rintro ⟨L, cs⟩ _ ⟨rfl, ho⟩
          (refine qf_loadAB tabOk rfl rfl rfl (by repeat first | exact .head _ | refine .tail _ ?_) (by rfl) (by rfl) ?_)
          refine qf_callv (val := .tuple #[.agg #[.int .i64 (0), .int .i64 (20), .int .i64 (5)], .int .i64 (0)]) tabOk rfl rfl rfl rfl (fun w hs => ?_) ?_
          · have := follow_ca w 0 w.heap.size 0 w.heap.size cs twoR ruA _ _ [1, 1, 1, 1, 1] [0, 0, 0, 0, 1] (ho.at hs (by repeat first | exact .head _ | refine .tail _ ?_)) two_small (Blk.rdI (c := 5) (hs.blk (b := b61) (by repeat first | exact .head _ | refine .tail _ ?_))) (Blk.rdI (c := 5) (hs.blk (b := b62) (by repeat first | exact .head _ | refine .tail _ ?_))) (by decide) (by decide); rw [aw_fol] at this; exact this
          (refine qf_pure tabOk rfl rfl rfl ?_; (iterate 2 refine qf_ext tabOk rfl rfl rfl ?_); refine qf_setA tabOk rfl rfl rfl rfl rfl (by repeat constructor) rfl ?_; refine qf_pure tabOk rfl rfl rfl ?_; refine qf_nil ?_)
          skip
          exact hK1 _ _ (qt_nil (hK2 b19 _ _ ⟨rfl, rfl, rfl, rfl, rfl, rfl, rfl, rfl, rfl, rfl, trivial⟩ (by repeat (first | exact Sp.nil | exact Sp.refl _ | refine Sp.cons (by repeat constructor) ?_))))
      · skip
        refine qt_seg (by repeat (first | exact PickL.nil | (apply PickL.cons; rfl))) fun K1 hK1 => ?_
        refine qf_alloc zero55 rfl (fun b19 => ?_)
        (refine qf_nil ?_)
        refine hK1 _ _ ?_
        refine qt_alt ?_ ?_
        · skip
          refine qt_seg (by repeat (first | exact PickL.nil | (apply PickL.cons; rfl))) fun K1 hK1 => ?_
          refine qf_call (β := List Ck × List Value) tabOk [] _ M0 rfl rfl rfl rfl (Sp.refl _) (fun _ h => h.elim) (fun w' hs => two_ca w') ?_
          rintro ⟨L, cs⟩ _ ⟨rfl, ho⟩
          (refine qf_loadAB tabOk rfl rfl rfl (by repeat first | exact .head _ | refine .tail _ ?_) (by rfl) (by rfl) ?_)
          refine qf_mkS 3 (ints [1, 1, 1, 1, 1]) rfl (by kernel_rfl) rfl (fun b61 => ?_)
          skip
          refine qf_callv (val := .tuple #[.agg #[.int .i64 (0), .int .i64 (20), .int .i64 (5)], .int .i64 (0)]) tabOk rfl rfl rfl rfl (fun w hs => ?_) ?_
          · have := follow_ca w 0 w.heap.size 0 w.heap.size cs twoR ruA _ _ [1, 1, 1, 1, 1] [0, 0, 0, 0, 1] (ho.at hs (by repeat first | exact .head _ | refine .tail _ ?_)) two_small (Blk.rdI (c := 5) (hs.blk (b := b61) (by repeat first | exact .head _ | refine .tail _ ?_))) (Blk.rdI (c := 5) (hs.blk (b := b62) (by repeat first | exact .head _ | refine .tail _ ?_))) (by decide) (by decide); rw [aw_fol] at this; exact this
          (refine qf_pure tabOk rfl rfl rfl ?_; (iterate 2 refine qf_ext tabOk rfl rfl rfl ?_); refine qf_setA tabOk rfl rfl rfl rfl rfl (by repeat constructor) rfl ?_; refine qf_pure tabOk rfl rfl rfl ?_; refine qf_nil ?_)
          skip
          exact hK1 _ _ (qt_nil (hK2 b19 _ _ ⟨rfl, rfl, rfl, rfl, rfl, rfl, rfl, rfl, rfl, rfl, trivial⟩ (by repeat (first | exact Sp.nil | exact Sp.refl _ | refine Sp.cons (by repeat constructor) ?_))))
        · skip
          refine qt_seg (by repeat (first | exact PickL.nil | (apply PickL.cons; rfl))) fun K1 hK1 => ?_
          refine qf_mkS 3 (ints [1, 1, 1, 1, 1]) rfl (by kernel_rfl) rfl (fun b61 => ?_)
          skip
          refine qf_call (β := List Ck × List Value) tabOk [] _ M0 rfl rfl rfl rfl (Sp.refl _) (fun _ h => h.elim) (fun w' hs => two_ca w') ?_
          rintro ⟨L, cs⟩ _ ⟨rfl, ho⟩
          (refine qf_loadAB tabOk rfl rfl rfl (by repeat first | exact .head _ | refine .tail _ ?_) (by rfl) (by rfl) ?_)
          refine qf_callv (val := .tuple #[.agg #[.int .i64 (0), .int .i64 (20), .int .i64 (5)], .int .i64 (0)]) tabOk rfl rfl rfl rfl (fun w hs => ?_) ?_
          · have := follow_ca w 0 w.heap.size 0 w.heap.size cs twoR ruA _ _ [1, 1, 1, 1, 1] [0, 0, 0, 0, 1] (ho.at hs (by repeat first | exact .head _ | refine .tail _ ?_)) two_small (Blk.rdI (c := 5) (hs.blk (b := b61) (by repeat first | exact .head _ | refine .tail _ ?_))) (Blk.rdI (c := 5) (hs.blk (b := b62) (by repeat first | exact .head _ | refine .tail _ ?_))) (by decide) (by decide); rw [aw_fol] at this; exact this
          (refine qf_pure tabOk rfl rfl rfl ?_; (iterate 2 refine qf_ext tabOk rfl rfl rfl ?_); refine qf_setA tabOk rfl rfl rfl rfl rfl (by repeat constructor) rfl ?_; refine qf_pure tabOk rfl rfl rfl ?_; refine qf_nil ?_)
          skip
          exact hK1 _ _ (qt_nil (hK2 b19 _ _ ⟨rfl, rfl, rfl, rfl, rfl, rfl, rfl, rfl, rfl, rfl, trivial⟩ (by repeat (first | exact Sp.nil | exact Sp.refl _ | refine Sp.cons (by repeat constructor) ?_))))
    · skip
      refine qt_seg (by repeat (first | exact PickL.nil | (apply PickL.cons; rfl))) fun K1 hK1 => ?_
      refine qf_alloc zero55 rfl (fun b19 => ?_)
      (refine qf_nil ?_)
      refine hK1 _ _ ?_
      refine qt_alt ?_ (qt_alt ?_ ?_)
      · skip
        refine qt_seg (by repeat (first | exact PickL.nil | (apply PickL.cons; rfl))) fun K1 hK1 => ?_
        refine qf_call (β := List Ck × List Value) tabOk [] _ M0 rfl rfl rfl rfl (Sp.refl _) (fun _ h => h.elim) (fun w' hs => two_ca w') ?_
        rintro ⟨L, cs⟩ _ ⟨rfl, ho⟩
        (refine qf_loadAB tabOk rfl rfl rfl (by repeat first | exact .head _ | refine .tail _ ?_) (by rfl) (by rfl) ?_; refine qf_nil ?_)
        refine hK1 _ _ ?_
        refine qt_alt ?_ ?_
        · skip
          refine qt_seg (by repeat (first | exact PickL.nil | (apply PickL.cons; rfl))) fun K1 hK1 => ?_
          refine qf_mkS 3 (ints [1, 1, 1, 1, 1]) rfl (by kernel_rfl) rfl (fun b61 => ?_)
          skip
          refine qf_mkS 3 (ints [0, 0, 0, 0, 1]) rfl (by kernel_rfl) rfl (fun b62 => ?_)
          skip
          refine qf_callv (val := .tuple #[.agg #[.int .i64 (0), .int .i64 (20), .int .i64 (5)], .int .i64 (0)]) tabOk rfl rfl rfl rfl (fun w hs => ?_) ?_
          · have := follow_ca w 0 w.heap.size 0 w.heap.size cs twoR ruA _ _ [1, 1, 1, 1, 1] [0, 0, 0, 0, 1] (ho.at hs (by repeat first | exact .head _ | refine .tail _ ?_)) two_small (Blk.rdI (c := 5) (hs.blk (b := b61) (by repeat first | exact .head _ | refine .tail _ ?_))) (Blk.rdI (c := 5) (hs.blk (b := b62) (by repeat first | exact .head _ | refine .tail _ ?_))) (by decide) (by decide); rw [aw_fol] at this; exact this
          (refine qf_pure tabOk rfl rfl rfl ?_; (iterate 2 refine qf_ext tabOk rfl rfl rfl ?_); refine qf_setA tabOk rfl rfl rfl rfl rfl (by repeat constructor) rfl ?_; refine qf_pure tabOk rfl rfl rfl ?_; refine qf_nil ?_)
          skip
          exact hK1 _ _ (qt_nil (hK2 b19 _ _ ⟨rfl, rfl, rfl, rfl, rfl, rfl, rfl, rfl, rfl, rfl, trivial⟩ (by repeat (first | exact Sp.nil | exact Sp.refl _ | refine Sp.cons (by repeat constructor) ?_))))
        · skip
          refine qt_seg (by repeat (first | exact PickL.nil | (apply PickL.cons; rfl))) fun K1 hK1 => ?_
          refine qf_mkS 3 (ints [0, 0, 0, 0, 1]) rfl (by kernel_rfl) rfl (fun b62 => ?_)
          skip
          refine qf_mkS 3 (ints [1, 1, 1, 1, 1]) rfl (by kernel_rfl) rfl (fun b61 => ?_)
          skip
          refine qf_callv (val := .tuple #[.agg #[.int .i64 (0), .int .i64 (20), .int .i64 (5)], .int .i64 (0)]) tabOk rfl rfl rfl rfl (fun w hs => ?_) ?_
          · have := follow_ca w 0 w.heap.size 0 w.heap.size cs twoR ruA _ _ [1, 1, 1, 1, 1] [0, 0, 0, 0, 1] (ho.at hs (by repeat first | exact .head _ | refine .tail _ ?_)) two_small (Blk.rdI (c := 5) (hs.blk (b := b61) (by repeat first | exact .head _ | refine .tail _ ?_))) (Blk.rdI (c := 5) (hs.blk (b := b62) (by repeat first | exact .head _ | refine .tail _ ?_))) (by decide) (by decide); rw [aw_fol] at this; exact this
          (refine qf_pure tabOk rfl rfl rfl ?_; (iterate 2 refine qf_ext tabOk rfl rfl rfl ?_); refine qf_setA tabOk rfl rfl rfl rfl rfl (by repeat constructor) rfl ?_; refine qf_pure tabOk rfl rfl rfl ?_; refine qf_nil ?_)
          skip
          exact hK1 _ _ (qt_nil (hK2 b19 _ _ ⟨rfl, rfl, rfl, rfl, rfl, rfl, rfl, rfl, rfl, rfl, trivial⟩ (by repeat (first | exact Sp.nil | exact Sp.refl _ | refine Sp.cons (by repeat constructor) ?_))))
      · skip
        refine qt_seg (by repeat (first | exact PickL.nil | (apply PickL.cons; rfl))) fun K1 hK1 => ?_
        refine qf_mkS 3 (ints [1, 1, 1, 1, 1]) rfl (by kernel_rfl) rfl (fun b61 => ?_)
        (refine qf_nil ?_)
        refine hK1 _ _ ?_
        refine qt_alt ?_ ?_
        · skip
          refine qt_seg (by repeat (first | exact PickL.nil | (apply PickL.cons; rfl))) fun K1 hK1 => ?_
          refine qf_call (β := List Ck × List Value) tabOk [] _ M0 rfl rfl rfl rfl (Sp.refl _) (fun _ h => h.elim) (fun w' hs => two_ca w') ?_
          rintro ⟨L, cs⟩ _ ⟨rfl, ho⟩
          (refine qf_loadAB tabOk rfl rfl rfl (by repeat first | exact .head _ | refine .tail _ ?_) (by rfl) (by rfl) ?_)
          refine qf_mkS 3 (ints [0, 0, 0, 0, 1]) rfl (by kernel_rfl) rfl (fun b62 => ?_)
          skip
          refine qf_callv (val := .tuple #[.agg #[.int .i64 (0), .int .i64 (20), .int .i64 (5)], .int .i64 (0)]) tabOk rfl rfl rfl rfl (fun w hs => ?_) ?_
          · have := follow_ca w 0 w.heap.size 0 w.heap.size cs twoR ruA _ _ [1, 1, 1, 1, 1] [0, 0, 0, 0, 1] (ho.at hs (by repeat first | exact .head _ | refine .tail _ ?_)) two_small (Blk.rdI (c := 5) (hs.blk (b := b61) (by repeat first | exact .head _ | refine .tail _ ?_))) (Blk.rdI (c := 5) (hs.blk (b := b62) (by repeat first | exact .head _ | refine .tail _ ?_))) (by decide) (by decide); rw [aw_fol] at this; exact this
          (refine qf_pure tabOk rfl rfl rfl ?_; (iterate 2 refine qf_ext tabOk rfl rfl rfl ?_); refine qf_setA tabOk rfl rfl rfl rfl rfl (by repeat constructor) rfl ?_; refine qf_pure tabOk rfl rfl rfl ?_; refine qf_nil ?_)
          skip
          exact hK1 _ _ (qt_nil (hK2 b19 _ _ ⟨rfl, rfl, rfl, rfl, rfl, rfl, rfl, rfl, rfl, rfl, trivial⟩ (by repeat (first | exact Sp.nil | exact Sp.refl _ | refine Sp.cons (by repeat constructor) ?_))))
        · skip
          refine qt_seg (by repeat (first | exact PickL.nil | (apply PickL.cons; rfl))) fun K1 hK1 => ?_
          refine qf_mkS 3 (ints [0, 0, 0, 0, 1]) rfl (by kernel_rfl) rfl (fun b62 => ?_)
          skip
          refine qf_call (β := List Ck × List Value) tabOk [] _ M0 rfl rfl rfl rfl (Sp.refl _) (fun _ h => h.elim) (fun w' hs => two_ca w') ?_
          rintro ⟨L, cs⟩ _ ⟨rfl, ho⟩
          (refine qf_loadAB tabOk rfl rfl rfl (by repeat first | exact .head _ | refine .tail _ ?_) (by rfl) (by rfl) ?_)
          refine qf_callv (val := .tuple #[.agg #[.int .i64 (0), .int .i64 (20), .int .i64 (5)], .int .i64 (0)]) tabOk rfl rfl rfl rfl (fun w hs => ?_) ?_
          · have := follow_ca w 0 w.heap.size 0 w.heap.size cs twoR ruA _ _ [1, 1, 1, 1, 1] [0, 0, 0, 0, 1] (ho.at hs (by repeat first | exact .head _ | refine .tail _ ?_)) two_small (Blk.rdI (c := 5) (hs.blk (b := b61) (by repeat first | exact .head _ | refine .tail _ ?_))) (Blk.rdI (c := 5) (hs.blk (b := b62) (by repeat first | exact .head _ | refine .tail _ ?_))) (by decide) (by decide); rw [aw_fol] at this; exact this
          (refine qf_pure tabOk rfl rfl rfl ?_; (iterate 2 refine qf_ext tabOk rfl rfl rfl ?_); refine qf_setA tabOk rfl rfl rfl rfl rfl (by repeat constructor) rfl ?_; refine qf_pure tabOk rfl rfl rfl ?_; refine qf_nil ?_)
          skip
          exact hK1 _ _ (qt_nil (hK2 b19 _ _ ⟨rfl, rfl, rfl, rfl, rfl, rfl, rfl, rfl, rfl, rfl, trivial⟩ (by repeat (first | exact Sp.nil | exact Sp.refl _ | refine Sp.cons (by repeat constructor) ?_))))
      · skip
        refine qt_seg (by repeat (first | exact PickL.nil | (apply PickL.cons; rfl))) fun K1 hK1 => ?_
        refine qf_mkS 3 (ints [0, 0, 0, 0, 1]) rfl (by kernel_rfl) rfl (fun b62 => ?_)
        (refine qf_nil ?_)
        refine hK1 _ _ ?_
        refine qt_alt ?_ ?_
        · skip
          refine qt_seg (by repeat (first | exact PickL.nil | (apply PickL.cons; rfl))) fun K1 hK1 => ?_
          refine qf_call (β := List Ck × List Value) tabOk [] _ M0 rfl rfl rfl rfl (Sp.refl _) (fun _ h => h.elim) (fun w' hs => two_ca w') ?_
          rintro ⟨L, cs⟩ _ ⟨rfl, ho⟩
          (refine qf_loadAB tabOk rfl rfl rfl (by repeat first | exact .head _ | refine .tail _ ?_) (by rfl) (by rfl) ?_)
          refine qf_mkS 3 (ints [1, 1, 1, 1, 1]) rfl (by kernel_rfl) rfl (fun b61 => ?_)
          skip
          refine qf_callv (val := .tuple #[.agg #[.int .i64 (0), .int .i64 (20), .int .i64 (5)], .int .i64 (0)]) tabOk rfl rfl rfl rfl (fun w hs => ?_) ?_
          · have := follow_ca w 0 w.heap.size 0 w.heap.size cs twoR ruA _ _ [1, 1, 1, 1, 1] [0, 0, 0, 0, 1] (ho.at hs (by repeat first | exact .head _ | refine .tail _ ?_)) two_small (Blk.rdI (c := 5) (hs.blk (b := b61) (by repeat first | exact .head _ | refine .tail _ ?_))) (Blk.rdI (c := 5) (hs.blk (b := b62) (by repeat first | exact .head _ | refine .tail _ ?_))) (by decide) (by decide); rw [aw_fol] at this; exact this
          (refine qf_pure tabOk rfl rfl rfl ?_; (iterate 2 refine qf_ext tabOk rfl rfl rfl ?_); refine qf_setA tabOk rfl rfl rfl rfl rfl (by repeat constructor) rfl ?_; refine qf_pure tabOk rfl rfl rfl ?_; refine qf_nil ?_)
          skip
          exact hK1 _ _ (qt_nil (hK2 b19 _ _ ⟨rfl, rfl, rfl, rfl, rfl, rfl, rfl, rfl, rfl, rfl, trivial⟩ (by repeat (first | exact Sp.nil | exact Sp.refl _ | refine Sp.cons (by repeat constructor) ?_))))
        · skip
          refine qt_seg (by repeat (first | exact PickL.nil | (apply PickL.cons; rfl))) fun K1 hK1 => ?_
          refine qf_mkS 3 (ints [1, 1, 1, 1, 1]) rfl (by kernel_rfl) rfl (fun b61 => ?_)
          skip
          refine qf_call (β := List Ck × List Value) tabOk [] _ M0 rfl rfl rfl rfl (Sp.refl _) (fun _ h => h.elim) (fun w' hs => two_ca w') ?_
          rintro ⟨L, cs⟩ _ ⟨rfl, ho⟩
          (refine qf_loadAB tabOk rfl rfl rfl (by repeat first | exact .head _ | refine .tail _ ?_) (by rfl) (by rfl) ?_)
          refine qf_callv (val := .tuple #[.agg #[.int .i64 (0), .int .i64 (20), .int .i64 (5)], .int .i64 (0)]) tabOk rfl rfl rfl rfl (fun w hs => ?_) ?_
          · have := follow_ca w 0 w.heap.size 0 w.heap.size cs twoR ruA _ _ [1, 1, 1, 1, 1] [0, 0, 0, 0, 1] (ho.at hs (by repeat first | exact .head _ | refine .tail _ ?_)) two_small (Blk.rdI (c := 5) (hs.blk (b := b61) (by repeat first | exact .head _ | refine .tail _ ?_))) (Blk.rdI (c := 5) (hs.blk (b := b62) (by repeat first | exact .head _ | refine .tail _ ?_))) (by decide) (by decide); rw [aw_fol] at this; exact this
          (refine qf_pure tabOk rfl rfl rfl ?_; (iterate 2 refine qf_ext tabOk rfl rfl rfl ?_); refine qf_setA tabOk rfl rfl rfl rfl rfl (by repeat constructor) rfl ?_; refine qf_pure tabOk rfl rfl rfl ?_; refine qf_nil ?_)
          skip
          exact hK1 _ _ (qt_nil (hK2 b19 _ _ ⟨rfl, rfl, rfl, rfl, rfl, rfl, rfl, rfl, rfl, rfl, trivial⟩ (by repeat (first | exact Sp.nil | exact Sp.refl _ | refine Sp.cons (by repeat constructor) ?_))))
  intro b19
  (refine q_seq ?_; refine q_region ?_)
  refine ql_mk #[.int .i64 10, .int .i64 20] rfl (by kernel_rfl) rfl ?_
  refine ql_mk #[.int .i64 (-5), .int .i64 5] rfl (by kernel_rfl) rfl ?_
  refine ql_mkS 64 [.int .i64 10, .int .i64 20, .int .i64 (-5), .int .i64 5] rfl (by kernel_rfl) rfl (fun b71 => ?_)
  refine ql_mkS 3 (ints [3, 1]) rfl (by kernel_rfl) rfl (fun b72 => ?_)
  refine ql_callv (val := .tuple #[.agg #[.int .i64 25, .int .i64 65], .int .i64 0]) tabOk rfl rfl rfl rfl (fun w hs => ?_) ?_; exact by have := driftF_ca w 0 w.heap.size 0 w.heap.size _ _ [(10, 20), (-5, 5)] [3, 1] (Blk.rdS (c := 2) (hs.blk (b := b71) (by repeat first | exact .head _ | refine .tail _ ?_)) rfl) (by decide) (Blk.rdI (c := 2) (hs.blk (b := b72) (by repeat first | exact .head _ | refine .tail _ ?_))) (by decide); rw [aw_drift] at this; exact this
  (refine ql_pure tabOk rfl rfl ?_; (iterate 2 refine ql_ext tabOk rfl rfl rfl ?_))
  refine ql_alloc zero64 rfl (fun b20 => ?_)
  (refine ql_setA tabOk rfl rfl rfl rfl rfl (by repeat constructor) rfl ?_; refine ql_pure tabOk rfl rfl ?_; refine q_nil ?_; refine q_seq ?_; refine q_region ?_; (iterate 3 refine ql_pure tabOk rfl rfl ?_); refine ql_gyes rfl ?_; refine ql_pure tabOk rfl rfl ?_; refine ql_gyes rfl ?_; (iterate 3 refine ql_pure tabOk rfl rfl ?_); refine ql_gyes rfl ?_; refine ql_pure tabOk rfl rfl ?_; refine ql_gyes rfl ?_; (iterate 3 refine ql_pure tabOk rfl rfl ?_); refine ql_gyes rfl ?_; refine ql_pure tabOk rfl rfl ?_; refine ql_gyes rfl ?_; (iterate 3 refine ql_pure tabOk rfl rfl ?_); refine ql_gyes rfl ?_; refine ql_pure tabOk rfl rfl ?_; refine ql_gyes rfl ?_; (iterate 3 refine ql_pure tabOk rfl rfl ?_); refine ql_gyes rfl ?_; refine ql_pure tabOk rfl rfl ?_; refine ql_gyes rfl ?_; (iterate 3 refine ql_pure tabOk rfl rfl ?_); refine ql_gyes rfl ?_; refine ql_pure tabOk rfl rfl ?_; refine ql_gyes rfl ?_; refine ql_pure tabOk rfl rfl ?_; refine ql_gyes rfl ?_; (iterate 3 refine ql_pure tabOk rfl rfl ?_); refine ql_gyes rfl ?_; refine ql_loadAB tabOk rfl rfl rfl (by repeat first | exact .head _ | refine .tail _ ?_) (by rfl) (by rfl) ?_; refine ql_gyes rfl ?_)
  refine ql_mk #[.int .i64 10, .int .i64 1] rfl (by kernel_rfl) rfl ?_
  (refine ql_gyes rfl ?_)
  refine ql_eqF (xs := [.int .i64 10, .int .i64 1]) (ys := [.int .i64 10, .int .i64 1]) [some .i64, some .i64] rat_flat rfl rfl rfl rfl rfl ?_
  ((iterate 2 refine ql_pure tabOk rfl rfl ?_); refine ql_gyes rfl ?_; refine ql_loadAB tabOk rfl rfl rfl (by repeat first | exact .head _ | refine .tail _ ?_) (by rfl) (by rfl) ?_; refine ql_gyes rfl ?_)
  refine ql_mk #[.bool false, .int .i64 (-1)] rfl (by kernel_rfl) rfl ?_
  (refine ql_gyes rfl ?_)
  refine ql_eqF (xs := [.bool false, .int .i64 (-1)]) (ys := [.bool false, .int .i64 (-1)]) [none, some .i64] chc_flat rfl rfl rfl rfl rfl ?_
  ((iterate 2 refine ql_pure tabOk rfl rfl ?_); refine ql_gyes rfl ?_; refine ql_loadAB tabOk rfl rfl rfl (by repeat first | exact .head _ | refine .tail _ ?_) (by rfl) (by rfl) ?_; refine ql_gyes rfl ?_)
  refine ql_mk #[.bool true, .int .i64 0] rfl (by kernel_rfl) rfl ?_
  (refine ql_gyes rfl ?_)
  refine ql_eqF (xs := [.bool true, .int .i64 0]) (ys := [.bool true, .int .i64 0]) [none, some .i64] chc_flat rfl rfl rfl rfl rfl ?_
  ((iterate 2 refine ql_pure tabOk rfl rfl ?_); refine ql_gyes rfl ?_; refine ql_loadAB tabOk rfl rfl rfl (by repeat first | exact .head _ | refine .tail _ ?_) (by rfl) (by rfl) ?_; refine ql_gyes rfl ?_)
  refine ql_mk #[.int .i64 0, .int .i64 20, .int .i64 5] rfl (by kernel_rfl) rfl ?_
  (refine ql_gyes rfl ?_)
  refine ql_eqF (xs := [.int .i64 0, .int .i64 20, .int .i64 5]) (ys := [.int .i64 0, .int .i64 20, .int .i64 5]) [some .i64, some .i64, some .i64] ply_flat rfl rfl rfl rfl rfl ?_
  ((iterate 2 refine ql_pure tabOk rfl rfl ?_); refine ql_gyes rfl ?_; refine ql_loadAB tabOk rfl rfl rfl (by repeat first | exact .head _ | refine .tail _ ?_) (by rfl) (by rfl) ?_; refine ql_gyes rfl ?_)
  refine ql_mk #[.int .i64 25, .int .i64 65] rfl (by kernel_rfl) rfl ?_
  (refine ql_gyes rfl ?_)
  refine ql_eqF (xs := [.int .i64 25, .int .i64 65]) (ys := [.int .i64 25, .int .i64 65]) [some .i64, some .i64] spn_flat rfl rfl rfl rfl rfl ?_
  ((iterate 2 refine ql_pure tabOk rfl rfl ?_); refine q_nil ?_; refine q_ret ?_)
  refine q_fin tabOk rfl (by repeat (first | exact RVs.nil | apply RVs.tmp rfl | apply RVs.cellA rfl rfl (by repeat first | exact .head _ | refine .tail _ ?_) (by rfl) | apply RVs.cell1 rfl rfl (by repeat first | exact .head _ | refine .tail _ ?_))) fun w hs => ?_
  exact ⟨rfl, hs.chg0⟩

end Go.Proofs.Ytohlillcaadidaa

/- Walks: klisterkit's deck. Only the ranges of what it deals are told. -/
namespace Go.Proofs.Ytohlillcaadidaa
open Go Go.Eng
attribute [local irreducible] IntKind.wrap Int.tmod Int.tdiv

/-- The deck's own variable, after at most K cards. -/
def DkS (w : World) (b : Nat) (bs : Value) (K : Nat) : Prop :=
  ∃ next st, Blk w b [bs, .int .i64 next, .int .u32 st] 156 ∧ 0 ≤ next ∧ next ≤ K ∧ 0 ≤ st ∧ st < 4294967296
/-- Its bytes. -/
def DkB (w : World) (lo hi : Nat) (bs : Value) : Prop := ∃ nb cs, Rd w lo hi bs 1 nb cs ∧ (∀ c ∈ cs, ∃ x, c = .int .u8 x ∧ 0 ≤ x ∧ x < 256)
theorem DkB.keep {w w' : World} {lo hi : Nat} {bs : Value} (h : DkB w lo hi bs) (c : Chg [] w w') : DkB w' lo hi bs := by
  obtain ⟨nb, cs, h1, h2⟩ := h
  exact ⟨nb, cs, h1.keep c, h2⟩

end Go.Proofs.Ytohlillcaadidaa

/- Walks: the deck as a piece of memory. -/
namespace Go.Proofs.Ytohlillcaadidaa
open Go Go.Eng

/-- A deck, after at most K cards. -/
def dkP (bs : Value) (b K : Nat) : Ck := .gn (fun x => x = b) (fun w => DkS w b bs K) (fun w w' N h hc hN => by
  obtain ⟨next, st, h1, h2⟩ := h
  exact ⟨next, st, (hc.block b h1.lt (hN b rfl)).trans h1, h2⟩)

end Go.Proofs.Ytohlillcaadidaa

/- Walks: Between, on engine 2. -/
namespace Go.Proofs.Ytohlillcaadidaa
open Go Go.Eng

end Go.Proofs.Ytohlillcaadidaa

/- Walks: Of. -/
namespace Go.Proofs.Ytohlillcaadidaa
open Go Go.Eng

end Go.Proofs.Ytohlillcaadidaa

/- Walks: shares. -/
namespace Go.Proofs.Ytohlillcaadidaa
open Go Go.Eng

end Go.Proofs.Ytohlillcaadidaa

/- Walks: Fold. -/
namespace Go.Proofs.Ytohlillcaadidaa
open Go Go.Eng

end Go.Proofs.Ytohlillcaadidaa

/- The engine, part B13: changing an element of a slice of our own. -/
namespace Go.Eng
open Go Go.RowKit

section
variable {P : Program} {T : Tab}
variable {ro : Cx} {n : Nat} {F : Fin} {w0 : World} {M : Nat → Prop} {k : List It} {ops : Array Oper} {rest : List Oper} {e : Env} {H Hq : List Ck}

/-- A region that draws; what its first c operations read (Hq1) is not changed by them, and they stand ahead of all that changes Hm2. -/
theorem q_drawS2 {id : Nat} {l : List Oper} (c : Nat) (Hq1 Hm1 Hq2 Hm2 : List Ck) (hH1 : Sp H (Hm1 ++ Hq1)) (hH2 : Sp Hq1 (Hm2 ++ Hq2)) (hm : P.follows .mixedOrders = true) (hB : flB l.toArray = true)
    (hbs : flagB l.toArray (List.replicate c true ++ List.replicate (l.length - c) false) = true)
    (h : ∀ K1 : Act → World → Prop, (∀ e' H' Hm', Sp H' (Hm' ++ Hq2) → QF P ro n F w0 M k l.toArray Hq2 (l.drop c) e' Hm' → Q P ro n F w0 M (.k K1 :: k) e' H') → QF P ro n F w0 M (.k K1 :: k) l.toArray Hq1 (l.take c) e Hm1) :
    Q P ro n F w0 M (.code (.region id l.toArray true) :: k) e H := .mk fun w hs a hf hd => by
  have hs0 : Sat w0 M H { w with drawn := w.drawn + 1 } := hs.keep (Chg.drew (N := []) w)
  have hs1 : Sat w0 M Hq1 { w with drawn := w.drawn + 1 } := (hs0.sp hH1).right
  have h12 : ∀ w, Sat w0 M Hq1 w → Sat w0 M Hq2 w := fun w hw => (hw.sp hH2).right
  let bs := List.replicate c true ++ List.replicate (l.length - c) false
  refine wpIn_region_fl2 hm (flB_spec hB) (K := fun a w => S P ro.ro F k .normal a w) (Cq := flagC (Sat w0 M Hq1) (Sat w0 M Hq2) bs) (Ce := flagC (Sat w0 M Hq1) (Sat w0 M Hq2) bs)
    (fun i j oi oj => flagB_spec hbs h12 i j oi oj) (fun i => ?_) (fun _ _ h => h) ?_
  · unfold flagC
    cases bs.getD i false
    · exact h12 _ hs1
    · exact hs1
  · have h2 := wpFlB_eq (P := P) (ops := l.toArray) (C1 := Sat w0 M Hq1) (C2 := Sat w0 M Hq2) (bs := bs) (K := fun a w => S P ro.ro F k .normal a w) l 0 (by simp)
    rw [show List.range l.toArray.size = List.range' 0 l.length from by simp [List.range_eq_range'], h2]
    refine yb_seg (P := P) (ro := ro) (n := n) (F := F) (k := k) (C1 := Sat w0 M Hq1) (C2 := Sat w0 M Hq2) (bs := bs) (l := l) true c (by simp [bs]) (by simp [bs]) (fun K1 hK1 => ?_) a hf hd
    have h3 := h K1 (fun e' H' Hm' hsp hq => .mk fun w' hw' a' hf' hd' => ?_)
    · exact h3.h _ (hs0.sp hH1)
    · refine hK1 e' w' (fun a2 hf2 hd2 => ?_) a' hf' hd'
      have h4 : bs.drop c = List.replicate (l.length - c) false := by simp [bs]
      rw [h4]
      exact wpFlB_false _ _ (by simp) a2 w' (hq w' (hw'.sp hsp) a2 hf2 hd2)
end
end Go.Eng

/- Walks: Made. -/
namespace Go.Proofs.Ytohlillcaadidaa
open Go Go.Eng

/-- What Made makes. -/
structure MadeR (states clicks side : Nat) (r : Rg) : Prop where
  right : r.Right
  small : r.Small
  states : r.drifts.length ≤ states
  clicks : r.clicks ≤ clicks
  group : r.group.length ≤ 2 * side + 1
  radius : r.radius ≤ 12
  unit : r.unit ≤ 5
  total : r.total ≤ 6
  drift : ∀ x ∈ r.drifts, -15 ≤ x ∧ x ≤ 15
  gsum : r.group.sum ≤ 4 * r.group.length + 1
  weight : ∀ x ∈ r.group, x ≤ 5

theorem DkS.mono {w : World} {b K K' : Nat} {bs : Value} (h : DkS w b bs K) (hk : K ≤ K') : DkS w b bs K' := by
  obtain ⟨next, st, h1, h2, h3, h4⟩ := h
  exact ⟨next, st, h1, h2, by omega, h4⟩
theorem own_rdI {w : World} {t n : Nat} {v : Value} {l : List Int} (h : w.ownsRow 0 t 1 v n (ints l)) (hn : n = l.length) : RdI w 0 w.heap.size v l := by
  subst hn
  exact RdI.of (own_rd h)
abbrev madeB (b9 : Nat) (a b c d : Int) (g h f n : Value) : Ck := .pt b9 [.int .i64 a, .int .i64 b, .int .i64 c, .int .i64 d, g, h, f, n] 25

end Go.Proofs.Ytohlillcaadidaa

/- Walks: draws of a deck that was made of bytes that came in. -/
namespace Go.Proofs.Ytohlillcaadidaa
open Go Go.Eng

section
variable {K b : Nat} {bs : Value} {w0 w : World} {R : List Ck}
end
end Go.Proofs.Ytohlillcaadidaa

/- The plain law of WindRead: what flags read. -/
namespace Go.Proofs.Ytohlillcaadidaa
open Go Go.Eng

/-- A flag: its span, what is read of it, its weight. -/
abbrev Flg := Int × Int × Int × Int
def flP (t : Flg) : Int × Int := (t.1, t.2.1)
def loP (t : Flg) : Int × Int := (t.1, t.1)
def hiP (t : Flg) : Int × Int := (t.2.1, t.2.1)
def soP (t : Flg) : Int × Int := (t.2.2.1, t.2.2.1)
def FlgOk (t : Flg) : Prop := -60 ≤ t.1 ∧ t.1 ≤ t.2.1 ∧ t.2.1 ≤ 69 ∧ t.1 ≤ t.2.2.1 ∧ t.2.2.1 ≤ t.2.1 ∧ 0 ≤ t.2.2.2 ∧ t.2.2.2 ≤ 9
abbrev weF (t : Flg) : Int := t.2.2.2
def itS (its : List Flg) (g : Flg → Int) : Int := sumR (fun i => weF (its.getD i (0, 0, 0, 0)) * g (its.getD i (0, 0, 0, 0))) its.length
end Go.Proofs.Ytohlillcaadidaa

/- The plain laws of the wind, part 0. -/
namespace Go.Proofs.Ytohlillcaadidaa
open Go Go.Eng
/-- The sum. -/
def plusV (a b : Int × Int) : Int × Int := ratioV (a.1 * b.2 + b.1 * a.2) (a.2 * b.2)
/-! The best click. -/
def kyC (c : Int) : Int := 2 * c.natAbs + if 0 < c then 1 else 0
end Go.Proofs.Ytohlillcaadidaa

/- The plain laws of the reference: the best of some clicks. -/
namespace Go.Proofs.Ytohlillcaadidaa
open Go Go.Eng

theorem sq_lt (c d : Int) : c * c < d * d ↔ c.natAbs < d.natAbs := by
  have h1 : ((c.natAbs * c.natAbs : Nat) : Int) = c * c := Int.natAbs_mul_self
  have h2 : ((d.natAbs * d.natAbs : Nat) : Int) = d * d := Int.natAbs_mul_self
  rw [← h1, ← h2]
  constructor
  · intro h
    refine Nat.lt_of_not_le fun hle => ?_
    have := Nat.mul_le_mul hle hle
    omega
  · intro h
    have := Nat.mul_lt_mul_of_lt_of_lt h h
    omega
theorem sq_eq (c d : Int) : c * c = d * d ↔ c.natAbs = d.natAbs := by
  have h1 := sq_lt c d
  have h2 := sq_lt d c
  omega
/-! Of some fractions. -/
/-- What comes before: the lesser one, then the nearer one, then the lesser click. -/
def beatsB (a : Int × Int) (c : Int) (b : Int × Int) (d : Int) : Bool :=
  if a.1 * b.2 = b.1 * a.2 then (if c * c = d * d then decide (c < d) && true else decide (c * c < d * d) && true) else decide (a.1 * b.2 < b.1 * a.2) && true
def pickI (C : Int) (bad : List (Int × Int)) : Nat → Nat
  | 0 => 0
  | k + 1 => if beatsB (bad.getD (k + 1) (0, 1)) (((k + 1 : Nat) : Int) - C) (bad.getD (pickI C bad k) (0, 1)) ((pickI C bad k : Int) - C) then k + 1 else pickI C bad k
def Bef (f : Int → Int) (c d : Int) : Prop := f c < f d ∨ f c = f d ∧ (c * c < d * d ∨ c * c = d * d ∧ c < d)
/-! Of some numbers. -/
def kyN (n c : Int) : Int := kyC (c - n)
theorem kyN_inj {n a b : Int} (h : kyN n a = kyN n b) : a = b := by
  unfold kyN kyC at h
  split at h <;> split at h <;> omega
theorem near_key (n c d : Int) : ((c - n) * (c - n) < (d - n) * (d - n) ∨ (c - n) * (c - n) = (d - n) * (d - n) ∧ c < d) ↔ kyN n c < kyN n d := by
  rw [sq_lt, sq_eq]
  unfold kyN kyC
  split <;> split <;> omega
theorem farL_keyN (C n : Int) (far : Nat) : (∀ c ∈ farL C n far, (c - n).natAbs = far) ∧ (farL C n far).Pairwise (fun a b => kyN n a < kyN n b) := by
  unfold farL
  split
  · subst_vars
    simp
  · rename_i h
    refine ⟨fun c hc => ?_, List.Pairwise.filter _ ?_⟩
    · have := (List.mem_filter.1 hc).1
      simp at this
      omega
    · simp [kyN, kyC]
      omega
theorem clickL_sortedN (C n : Int) : (clickL C n).Pairwise (fun a b => kyN n a < kyN n b) := by
  unfold clickL clickP
  refine List.pairwise_flatMap.2 ⟨fun far _ => (farL_keyN C n far).2, ?_⟩
  refine List.Pairwise.imp ?_ (List.pairwise_lt_range (n := (2 * C + 1).toNat))
  intro a b hab x hx y hy
  have h1 := (farL_keyN C n a).1 x hx
  have h2 := (farL_keyN C n b).1 y hy
  unfold kyN kyC
  split <;> split <;> omega
theorem clickL_memN {C n : Int} (hn : -C ≤ n ∧ n ≤ C) (c : Int) : c ∈ clickL C n ↔ -C ≤ c ∧ c ≤ C := by
  constructor
  · intro h; exact inB_iff.1 (clickL_in C n (inB_iff.2 hn) c h)
  · intro hc
    simp only [clickL, clickP, List.mem_flatMap, List.mem_range]
    refine ⟨(c - n).natAbs, by omega, ?_⟩
    unfold farL
    split
    · simp; omega
    · refine List.mem_filter.2 ⟨?_, inB_iff.2 hc⟩
      simp
      omega
theorem allC_mem (C c : Int) : c ∈ allC C ↔ -C ≤ c ∧ c ≤ C := by
  unfold allC
  simp only [List.mem_map, List.mem_range]
  constructor
  · rintro ⟨i, hi, rfl⟩; omega
  · intro h; exact ⟨(c + C).toNat, by omega, by omega⟩
theorem amin (f K : Int → Int) : ∀ (l : List Int) (m : Int), (∀ c ∈ l, K m ≤ K c) → l.Pairwise (fun a b => K a < K b) →
    ∃ R, l.foldl (fun s c => if f c < s.2 then (c, f c) else s) (m, f m) = (R, f R) ∧ (R = m ∨ R ∈ l) ∧ ∀ c, (c = m ∨ c ∈ l) → f R < f c ∨ f R = f c ∧ K R ≤ K c
  | [], m, _, _ => ⟨m, rfl, .inl rfl, fun c hc => by
    rcases hc with rfl | h
    · exact .inr ⟨rfl, Int.le_refl _⟩
    · cases h⟩
  | c :: l, m, hm, hs => by
    have hs2 := List.pairwise_cons.1 hs
    have hmc := hm c List.mem_cons_self
    rw [List.foldl_cons]
    by_cases h : f c < f m
    · simp only [if_pos h]
      obtain ⟨R, h1, h2, h3⟩ := amin f K l c (fun d hd => by have := hs2.1 d hd; omega) hs2.2
      refine ⟨R, h1, .inr (List.mem_cons.2 h2), fun d hd => ?_⟩
      have h4 := h3 c (.inl rfl)
      rcases hd with rfl | hd
      · omega
      · exact h3 d (List.mem_cons.1 hd)
    · simp only [if_neg h]
      obtain ⟨R, h1, h2, h3⟩ := amin f K l m (fun d hd => hm d (List.mem_cons_of_mem _ hd)) hs2.2
      refine ⟨R, h1, h2.imp_right (List.mem_cons_of_mem _), fun d hd => ?_⟩
      have h4 := h3 m (.inl rfl)
      rcases hd with rfl | hd
      · exact h4
      · rcases List.mem_cons.1 hd with rfl | hd
        · omega
        · exact h3 d (.inr hd)
theorem bmin (f K : Int → Int) : ∀ (l : List Int) (m : Int),
    ∃ R, l.foldl (fun s c => if f c < s.2 ∨ f c = s.2 ∧ K c < K s.1 then (c, f c) else s) (m, f m) = (R, f R) ∧ (R = m ∨ R ∈ l) ∧ ∀ c, (c = m ∨ c ∈ l) → f R < f c ∨ f R = f c ∧ K R ≤ K c
  | [], m => ⟨m, rfl, .inl rfl, fun c hc => by
    rcases hc with rfl | h
    · exact .inr ⟨rfl, Int.le_refl _⟩
    · cases h⟩
  | c :: l, m => by
    rw [List.foldl_cons]
    by_cases h : f c < f m ∨ f c = f m ∧ K c < K m
    · simp only [if_pos h]
      obtain ⟨R, h1, h2, h3⟩ := bmin f K l c
      refine ⟨R, h1, .inr (List.mem_cons.2 h2), fun d hd => ?_⟩
      have h4 := h3 c (.inl rfl)
      rcases hd with rfl | hd
      · omega
      · exact h3 d (List.mem_cons.1 hd)
    · simp only [if_neg h]
      obtain ⟨R, h1, h2, h3⟩ := bmin f K l m
      refine ⟨R, h1, h2.imp_right (List.mem_cons_of_mem _), fun d hd => ?_⟩
      have h4 := h3 m (.inl rfl)
      rcases hd with rfl | hd
      · exact h4
      · rcases List.mem_cons.1 hd with rfl | hd
        · omega
        · exact h3 d (.inr hd)
/-- The reference's choice among clicks. -/
def rcStep (r : Rg) (p : Ru) (g : Nat → Int → Int) (shot wt st : Nat) (cl : Int) (s : Int × Int) (c : Int) : Int × Int :=
  if shootV r p g shot wt st cl c < s.2 ∨ shootV r p g shot wt st cl c = s.2 ∧ kyN cl c < kyN cl s.1 then (c, shootV r p g shot wt st cl c) else s
def rcP (r : Rg) (p : Ru) (g : Nat → Int → Int) (shot wt st : Nat) (cl : Int) (k : Nat) : Int × Int := ((allC r.clicks).take k).foldl (rcStep r p g shot wt st cl) (cl, shootV r p g shot wt st cl cl)
theorem rc_law (r : Rg) (p : Ru) (g : Nat → Int → Int) (shot wt st : Nat) (cl : Int) (hc : -r.clicks ≤ cl ∧ cl ≤ r.clicks) : rcP r p g shot wt st cl (2 * r.clicks + 1).toNat = chClick r p g shot wt st cl := by
  have hl : (allC r.clicks).length = (2 * r.clicks + 1).toNat := by simp [allC]
  unfold rcP chClick
  rw [← hl, List.take_length]
  obtain ⟨R, h1, h2, h3⟩ := amin (shootV r p g shot wt st cl) (kyN cl) (clickL r.clicks cl) cl (fun c _ => by unfold kyN kyC; split <;> split <;> omega) (clickL_sortedN _ _)
  obtain ⟨S, g1, g2, g3⟩ := bmin (shootV r p g shot wt st cl) (kyN cl) (allC r.clicks) cl
  have e1 : (clickL r.clicks cl).foldl (chStep r p g shot wt st cl) (cl, shootV r p g shot wt st cl cl) = (R, shootV r p g shot wt st cl R) := h1
  have e2 : (allC r.clicks).foldl (rcStep r p g shot wt st cl) (cl, shootV r p g shot wt st cl cl) = (S, shootV r p g shot wt st cl S) := g1
  rw [e1, e2]
  have hR : -r.clicks ≤ R ∧ R ≤ r.clicks := by
    rcases h2 with rfl | h2
    · exact hc
    · exact (clickL_memN hc R).1 h2
  have hS : -r.clicks ≤ S ∧ S ≤ r.clicks := by
    rcases g2 with rfl | g2
    · exact hc
    · exact (allC_mem _ _).1 g2
  have a := h3 S (.inr ((clickL_memN hc S).2 hS))
  have b := g3 R (.inr ((allC_mem _ _).2 hR))
  obtain rfl : R = S := kyN_inj (n := cl) (by omega)
  rfl
theorem rcP_succ (r : Rg) (p : Ru) (g : Nat → Int → Int) (shot wt st : Nat) (cl : Int) (k : Nat) (hk : k < (2 * r.clicks + 1).toNat) : rcP r p g shot wt st cl (k + 1) = rcStep r p g shot wt st cl (rcP r p g shot wt st cl k) ((k : Int) - r.clicks) := by
  unfold rcP
  rw [List.take_succ_eq_append_getElem (by simpa [allC] using hk), List.foldl_append]
  simp [allC]
end Go.Proofs.Ytohlillcaadidaa

/- The plain laws of the wind, part 1. -/
namespace Go.Proofs.Ytohlillcaadidaa
open Go Go.Eng
end Go.Proofs.Ytohlillcaadidaa

/- The plain laws of the wind, part 2. -/
namespace Go.Proofs.Ytohlillcaadidaa
open Go Go.Eng
/-- Numbers of a range that was made: total at most 6, group at most 37. -/
structure Rg.Low (r : Rg) : Prop where
  right : r.Right
  total : r.total ≤ 6
  gsum : r.group.sum ≤ 37
abbrev chW (r : Rg) (k s : Nat) : Int := (wts r k).getD s 0
abbrev chX (r : Rg) (k s : Nat) : Int × Int := ratioV (chW r k s) (r.total ^ (k + 1))
def bsum (r : Rg) (c : Int) (k j : Nat) : Int × Int := ratioV ((expP r c k).1 * r.total + mulN r c (wts r k) j) (r.total ^ (k + 1) * r.group.sum)
def bone (r : Rg) (k j : Nat) : Int × Int := ratioV (sumR (fun s => (wts r k).getD s 0) j) (r.total ^ (k + 1))
abbrev hitX (r : Rg) (s : Nat) (c : Int) : Int × Int := ratioV (r.group.sum - missS r (r.drifts.getD s 0) c) r.group.sum
end Go.Proofs.Ytohlillcaadidaa

/- The plain laws of the wind, part 3. -/
namespace Go.Proofs.Ytohlillcaadidaa
open Go Go.Eng
/-! Fractions, part by part. -/
/-- One fraction is less than another one. -/
def overB (a b : Int × Int) : Bool := decide (a.1 * b.2 < b.1 * a.2) && true
end Go.Proofs.Ytohlillcaadidaa

/- The plain laws of the wind, part 4. -/
namespace Go.Proofs.Ytohlillcaadidaa
open Go Go.Eng
/-- One range and rules do no worse than others. -/
structure SimR (r r' : Rg) (p p' : Ru) (e : Nat) : Prop where
  drifts : r'.drifts.length = r.drifts.length
  next : r'.next = r.next
  total : r'.total = r.total
  gsum : r'.group.sum = r.group.sum
  clicks : r.clicks ≤ r'.clicks
  miss : ∀ st c, st < r.drifts.length → missS r' (r'.drifts.getD st 0) c ≤ missS r (r.drifts.getD st 0) c
  pm : 0 ≤ p'.miss ∧ p'.miss ≤ p.miss
  pc : p'.click ≤ p.click
  pw : p'.wait ≤ p.wait
  waits : p.waits + e ≤ p'.waits
end Go.Proofs.Ytohlillcaadidaa

/- The plain laws of the wind, part 5. -/
namespace Go.Proofs.Ytohlillcaadidaa
open Go Go.Eng
/-! The values. -/
abbrev valsL (r : Rg) (p : Ru) : List Int := (plcL r p).map (valP r p)
def costP (r : Rg) (p : Ru) : Int := sumR (fun s => r.first.getD s 0 * valV r p 0 p.waits.toNat s 0) r.drifts.length
def denP (r : Rg) (p : Ru) : Int := partsV r 0 p.waits.toNat * r.total
def planV (r : Rg) (p : Ru) : Int × Int := ratioV (costP r p) (denP r p)
end Go.Proofs.Ytohlillcaadidaa

/- The plain laws of the wind, part 6. -/
namespace Go.Proofs.Ytohlillcaadidaa
open Go Go.Eng
/-! Values that hold prove no more. -/
/-! One click for all shots. -/
/-- The misses that follow, if all shots are shot with a click; m shots are left. -/
def tailM (r : Rg) (c : Int) : Nat → Nat → Int
  | 0, _ => 0
  | m + 1, st => missS r (r.drifts.getD st 0) c * r.total ^ m + folS r (tailM r c m) st
/-- What it costs to shoot all with one click, as a fraction. -/
def clickV (r : Rg) (p : Ru) (c : Int) : Int × Int := (p.click * max c (-c) * (expV r c).2 + p.miss * (expV r c).1, (expV r c).2)
end Go.Proofs.Ytohlillcaadidaa

/- The plain laws of the wind, part 7. -/
namespace Go.Proofs.Ytohlillcaadidaa
open Go Go.Eng
/-! The worst case. -/
abbrev facN (r : Rg) (l : List Int) (c : Int) : Int := facS r l c 5
/-! What is more. -/
end Go.Proofs.Ytohlillcaadidaa

/- The plain laws of the wind, part 8. -/
namespace Go.Proofs.Ytohlillcaadidaa
open Go Go.Eng
/-! Left and right. -/
structure Turned (r r' : Rg) : Prop where
  n : r'.drifts.length = r.drifts.length
  next : r'.next = r.next
  first : r'.first = r.first
  total : r'.total = r.total
  gsum : r'.group.sum = r.group.sum
  clicks : r'.clicks = r.clicks
  miss : ∀ st c, st < r.drifts.length → missS r' (r'.drifts.getD st 0) (-c) = missS r (r.drifts.getD st 0) c
theorem Turned.symm {r r' : Rg} (h : Turned r r') : Turned r' r :=
  ⟨h.n.symm, h.next.symm, h.first.symm, h.total.symm, h.gsum.symm, h.clicks.symm, fun st c hs => by
    have := h.miss st (-c) (by rw [← h.n]; exact hs)
    rw [Int.neg_neg] at this
    exact this.symm⟩
def turnR (r : Rg) : Rg := { r with group := r.group.reverse, drifts := r.drifts.map (fun d => d * -1) }
/-! Turned winds. -/
def turnW (ws : List (Int × Int)) : List (Int × Int) := ws.map fun s => (-s.2, -s.1)
/-! States numbered otherwise. -/
structure Named (r r' : Rg) (σ : Nat → Nat) : Prop where
  n : r'.drifts.length = r.drifts.length
  nn : r'.next.length = r.next.length
  total : r'.total = r.total
  gsum : r'.group = r.group
  clicks : r'.clicks = r.clicks
  radius : r'.radius = r.radius
  unit : r'.unit = r.unit
  perm : ((List.range r.drifts.length).map σ).Perm (List.range r.drifts.length)
  drift : ∀ s, s < r.drifts.length → r'.drifts.getD (σ s) 0 = r.drifts.getD s 0
  first : ∀ s, s < r.drifts.length → r'.first.getD (σ s) 0 = r.first.getD s 0
  next : ∀ s t, s < r.drifts.length → t < r.drifts.length → (r'.next.getD (σ s) []).getD (σ t) 0 = (r.next.getD s []).getD t 0
theorem Named.lt {r r' : Rg} {σ : Nat → Nat} (h : Named r r' σ) {s : Nat} (hs : s < r.drifts.length) : σ s < r.drifts.length :=
  List.mem_range.1 (h.perm.mem_iff.1 (List.mem_map.2 ⟨s, List.mem_range.2 hs, rfl⟩))
end Go.Proofs.Ytohlillcaadidaa

/- The plain laws of the wind, part 9. -/
namespace Go.Proofs.Ytohlillcaadidaa
open Go Go.Eng
/-! A wind that never changes. -/
structure OneSt (r : Rg) : Prop where
  right : r.Right
  one : r.drifts.length = 1
abbrev mis0 (r : Rg) (c : Int) : Int := missS r (r.drifts.getD 0 0) c
/-- The winds of that drift. -/
abbrev calmW (r : Rg) : List (Int × Int) := List.replicate 5 (r.drifts.getD 0 0, r.drifts.getD 0 0)
end Go.Proofs.Ytohlillcaadidaa

/- The plain laws of the wind, part 10: plays. -/
namespace Go.Proofs.Ytohlillcaadidaa
open Go Go.Eng
/-! What comes of following the plan, over all courses of the wind. -/
/-- What it costs from a situation on, if all shots are that far off. -/
def dCost (r : Rg) (p : Ru) (far : Int) : Nat → Nat → Int → List Nat → Int
  | _, _, _, [] => 0
  | k, w, cl, st :: l =>
    if k = 5 then 0 else if (choV r p k w st cl).1.1 = true then p.wait + dCost r p far k (w - 1) cl l
    else p.click * max ((choV r p k w st cl).1.2 - cl) (cl - (choV r p k w st cl).1.2) + (if hitB r (r.drifts.getD st 0 + far + (choV r p k w st cl).1.2 * r.unit) then 0 else p.miss) + dCost r p far (k + 1) w (choV r p k w st cl).1.2 l
abbrev offL (far : Int) : List Int := List.replicate 5 far
/-- What is known on the way. -/
structure FIn (r : Rg) (p : Ru) (k : Nat) (x : FS) : Prop where
  ok : FOk r p k x
  at_ : x.shot = 5 ∨ (x.shot : Int) + (p.waits - x.wt) = k
  steps : x.steps = x.shot + (p.waits - x.wt)
  misses : x.misses ≤ x.shot
  cost : p.miss * x.misses ≤ x.cost
/-- Sums over courses that go on from a state. -/
def cSum (r : Rg) : Nat → Nat → (List Nat → Int) → Int
  | 0, _, f => f []
  | n + 1, st, f => folS r (fun t => cSum r n t (fun l => f (t :: l))) st
/-- How far an offset is off. -/
abbrev farO (r : Rg) (o : Nat) : Int := (o : Int) - (r.group.length : Int) / 2
abbrev wtO (r : Rg) (o : Nat) : Int := r.group.getD o 0
end Go.Proofs.Ytohlillcaadidaa

/- The plain laws of the wind, part 11: all courses. -/
namespace Go.Proofs.Ytohlillcaadidaa
open Go Go.Eng
/-! Courses of the wind, as bits. -/
def bitsL : Nat → Nat → List Nat
  | 0, _ => []
  | L + 1, i => (i % 2) :: bitsL L (i / 2)
def chN (r : Rg) : Nat → List Nat → Int
  | _, [] => 1
  | st, t :: l => (r.next.getD st []).getD t 0 * chN r t l
def chF (r : Rg) : List Nat → Int
  | [] => 1
  | s :: l => r.first.getD s 0 * chN r s l
/-- What a course adds, with the first m offsets. -/
def corS (r : Rg) (p : Ru) (i m : Nat) : Int := sumR (fun o => chF r (bitsL (5 + p.waits.toNat) i) * wtO r o * dCost r p (farO r o) 0 p.waits.toNat 0 (bitsL (5 + p.waits.toNat) i)) m
def allS (r : Rg) (p : Ru) (i : Nat) : Int := sumR (fun j => corS r p j r.group.length) i
end Go.Proofs.Ytohlillcaadidaa

/- The plain laws of the reference: courses of the wind by their numbers. -/
namespace Go.Proofs.Ytohlillcaadidaa
open Go Go.Eng

/-- A digit of a course's number: the state at that shot. -/
def dig (n c i : Nat) : Nat := c / n ^ i % n
/-- The weight of a course, up to a shot. -/
def crW (r : Rg) (c : Nat) : Nat → Int
  | 0 => 1
  | 1 => r.first.getD (dig r.drifts.length c 0) 0
  | k + 2 => crW r c (k + 1) * (r.next.getD (dig r.drifts.length c k) []).getD (dig r.drifts.length c (k + 1)) 0
theorem next_bd2 {r : Rg} (hr : r.Right) (s t : Nat) : 0 ≤ (r.next.getD s []).getD t 0 ∧ (r.next.getD s []).getD t 0 ≤ 12 := by
  have ht := hr.total
  by_cases h : s < r.next.length
  · rw [show r.next.getD s [] = r.next[s] by simp [List.getD_eq_getElem?_getD, h]]
    by_cases h2 : t < r.next[s].length
    · have := hr.chances _ (List.getElem_mem h) _ (List.getElem_mem h2)
      rw [List.getD_eq_getElem?_getD, List.getElem?_eq_getElem h2, Option.getD_some]
      omega
    · rw [List.getD_eq_getElem?_getD, List.getElem?_eq_none (by omega)]
      simp
  · rw [show r.next.getD s [] = [] by simp [List.getD_eq_getElem?_getD, show r.next.length ≤ s by omega]]
    simp
/-- A sum over all courses of so many shots. -/
def crS (r : Rg) (k : Nat) (φ : Nat → Int) : Int := sumR (fun c => crW r c (k + 1) * φ c) (r.drifts.length ^ (k + 1))
/-- The states at a shot, each with its weight. -/
def wS (r : Rg) (k : Nat) (g : Nat → Int) : Int := sumR (fun s => (wts r k).getD s 0 * g s) r.drifts.length
end Go.Proofs.Ytohlillcaadidaa

/- Walks of the reference: courses of the wind. -/
namespace Go.Proofs.Ytohlillcaadidaa
open Go Go.Eng

/-- The states of a course, as far as they are computed. -/
def digP (n c k : Nat) : List Int := (List.range 5).map fun i => if i < k then ((dig n c i : Nat) : Int) else 0
end Go.Proofs.Ytohlillcaadidaa

/- Walks of the reference: misses to be expected. -/
namespace Go.Proofs.Ytohlillcaadidaa
open Go Go.Eng

/-- The misses of a course, at the first shots. -/
def crM (r : Rg) (click : Int) (c i : Nat) : Int := sumR (fun i => missS r (r.drifts.getD (dig r.drifts.length c i) 0) click) i
/-- The misses of the first courses. -/
def crE (r : Rg) (click : Int) (c : Nat) : Int := sumR (fun c => crW r c 5 * crM r click c 5) c
end Go.Proofs.Ytohlillcaadidaa

/- The engine, part B14: a subtree of orders walked once for all the ways that lead there. -/
namespace Go.Eng
open Go Go.RowKit

section
variable {P : Program} {ro : Cx} {n : Nat} {F : Fin} {w0 : World} {M : Nat → Prop} {k : List It} {ops : Array Oper} {e : Env} {H Hq : List Ck}
end
end Go.Eng

/- The engine, part B15: comparisons that are decided at once. -/
namespace Go.Eng
open Go Go.RowKit

section
variable {P : Program} {T : Tab} {ro : Cx} {n : Nat} {F : Fin} {w0 : World} {M : Nat → Prop} {k : List It} {ops : Array Oper} {rest : List Oper} {e : Env} {H Hq : List Ck}
theorem bin_eqlT {a b : Int} (h : a = b) : binV .eql .i64 a b = some (.bool true) := by simp [binV]; omega
theorem ql_eqlT (hT : T.Ok P) {d : Nat} {t t' : Nat} {x y : Operand} {a b : Int} {ty : TypeId} {pos : String} {af : Array Edge} (hx : opv e x = some (.int .i64 a)) (hy : opv e y = some (.int .i64 b)) (hd : Nat.blt d n = true) (hp : a = b)
    (h : QL P ro n F w0 M k ops rest ((d, .bool true) :: e) H) : QL P ro n F w0 M k ops (⟨some d, .binOp .eql t x y t', ty, pos, af, none⟩ :: rest) e H := ql_pure hT ((evp_arith hx hy).trans (bin_eqlT hp)) hd h
theorem bin_neqF {a b : Int} (h : a = b) : binV .neq .i64 a b = some (.bool false) := by simp [binV]; omega
theorem ql_neqF (hT : T.Ok P) {d : Nat} {t t' : Nat} {x y : Operand} {a b : Int} {ty : TypeId} {pos : String} {af : Array Edge} (hx : opv e x = some (.int .i64 a)) (hy : opv e y = some (.int .i64 b)) (hd : Nat.blt d n = true) (hp : a = b)
    (h : QL P ro n F w0 M k ops rest ((d, .bool false) :: e) H) : QL P ro n F w0 M k ops (⟨some d, .binOp .neq t x y t', ty, pos, af, none⟩ :: rest) e H := ql_pure hT ((evp_arith hx hy).trans (bin_neqF hp)) hd h
theorem qf_neqF (hT : T.Ok P) {d : Nat} {t t' : Nat} {x y : Operand} {a b : Int} {ty : TypeId} {pos : String} {af : Array Edge} (hx : opv e x = some (.int .i64 a)) (hy : opv e y = some (.int .i64 b)) (hd : Nat.blt d n = true) (hp : a = b)
    (h : QF P ro n F w0 M k ops Hq rest ((d, .bool false) :: e) H) : QF P ro n F w0 M k ops Hq (⟨some d, .binOp .neq t x y t', ty, pos, af, none⟩ :: rest) e H := qf_pure hT ((evp_arith hx hy).trans (bin_neqF hp)) rfl hd h
end
end Go.Eng

/- Walks: the law's fractions. -/
namespace Go.Proofs.Ytohlillcaadidaa
open Go Go.Eng

end Go.Proofs.Ytohlillcaadidaa

/- Walks: lists of spans of our own; ranges of our own; rules and winds that are dealt; what impacts hit. -/
namespace Go.Proofs.Ytohlillcaadidaa
open Go Go.Eng

def spC (l : List (Int × Int)) : List Value := l.flatMap fun x => [.int .i64 x.1, .int .i64 x.2]
theorem cells_sp (l : List (Int × Int)) : cellsOf (l.map rtV) = spC l := by
  induction l with
  | nil => rfl
  | cons x l ih => simp only [List.map_cons, cellsOf, spC, List.flatMap_cons] at ih ⊢; rw [ih]; rfl
/-- The form of a range's cells. -/
def FormR (cs : List Value) (r : Rg) : Prop := ∃ ag cg ad cd af cf an cn, cs = [.int .i64 r.radius, .int .i64 r.unit, .int .i64 r.clicks, .int .i64 r.total, .slice ag r.group.length cg, .slice ad r.drifts.length cd, .slice af r.first.length cf, .slice an r.next.length cn]
theorem OwnR.form {L : List Ck} {cs : List Value} {r : Rg} {w0 w : World} {M : Nat → Prop} {H : List Ck} (h : OwnR L cs r) (hs : Sat w0 M H w) (hm : un L ∈ H) : FormR cs r := by
  obtain ⟨lo, hi, ag, cg, ad, cd, af, cf, an, cn, h1, _⟩ := h.at hs hm
  exact ⟨ag, cg, ad, cd, af, cf, an, cn, h1⟩
/-- Winds that were dealt. -/
def BlownW (ws : List (Int × Int)) : Prop := ws.length = 5 ∧ ∀ s ∈ ws, -15 ≤ s.1 ∧ s.1 ≤ 10 ∧ s.1 ≤ s.2 ∧ s.2 ≤ s.1 + 8
theorem BlownW.ok {ws : List (Int × Int)} (h : BlownW ws) : WindOk ws := ⟨h.1, fun s hs => by have := h.2 s hs; omega⟩
/-! What impacts hit. -/
def hitN (r : Rg) (l : List Int) (c : Int) (n : Nat) : Int := sumR (fun i => if hitB r (l.getD i 0 + c * r.unit) then 1 else 0) n
end Go.Proofs.Ytohlillcaadidaa

/- Walks: what right ranges answer; planned. -/
namespace Go.Proofs.Ytohlillcaadidaa
open Go Go.Eng

/-- The drifts of a range. -/
theorem RgC.dr {w : World} {r : Rg} {ag ad af an : Option Addr} {cg cd cf cn : Nat} (h : RgC w [.int .i64 r.radius, .int .i64 r.unit, .int .i64 r.clicks, .int .i64 r.total, .slice ag r.group.length cg, .slice ad r.drifts.length cd, .slice af r.first.length cf, .slice an r.next.length cn] r) :
    ∃ lo hi, RdI w lo hi (.slice ad r.drifts.length cd) r.drifts := by
  obtain ⟨lo, hi, ag', cg', ad', cd', af', cf', an', cn', he, _, h2, _⟩ := h
  simp only [List.cons.injEq, Value.slice.injEq] at he
  obtain ⟨_, _, _, _, _, ⟨rfl, _, rfl⟩, _⟩ := he
  exact ⟨lo, hi, h2⟩
end Go.Proofs.Ytohlillcaadidaa

/- Walks: Chances. -/
namespace Go.Proofs.Ytohlillcaadidaa
open Go Go.Eng

/-! Chances -/
def rowX (r : Rg) (k : Nat) : List (Int × Int) := (List.range r.drifts.length).map (chX r k)
def chK (r : Rg) (vs : List Value) : List Ck := vs.zipIdx.map fun p => .ow p.1 42 2 r.drifts.length (spC (rowX r p.2))
end Go.Proofs.Ytohlillcaadidaa

/- Walks of the reference: chances, hits, the best click. -/
namespace Go.Proofs.Ytohlillcaadidaa
open Go Go.Eng

end Go.Proofs.Ytohlillcaadidaa

/- Walks of the reference: the best of all clicks; chances. -/
namespace Go.Proofs.Ytohlillcaadidaa
open Go Go.Eng

end Go.Proofs.Ytohlillcaadidaa

/- Walks of the reference: chances of states. -/
namespace Go.Proofs.Ytohlillcaadidaa
open Go Go.Eng

/-- The sums of the chances: of courses below c, and of course c at its first i shots. -/
def sumC (r : Rg) (c s i : Nat) : Int := sumR (fun c => crW r c 5 * if dig r.drifts.length c i = s then 1 else 0) c
def sumP (r : Rg) (c i : Nat) : List Int := (List.range 25).map fun j => sumC r (if j / 5 < i then c + 1 else c) (j % 5) (j / 5)
end Go.Proofs.Ytohlillcaadidaa

/- Walks: copies of lists. -/
namespace Go.Proofs.Ytohlillcaadidaa
open Go Go.Eng

theorem cloneI_ca (w : World) (lo hi : Nat) (v : Value) (l : List Int) (h : RdI w lo hi v l) (hlen : l.length ≤ 1000000) :
    Ca Try.prog 18 [v] w fun r w' => ∃ x : Value, r = x ∧ Sat w M0 [.ow x 3 1 l.length (ints l)] w' := by
  refine q_of (Sat.nil w M0) Try.func18 rfl (by simp [Try.ntmps18]) ?_
  (refine q_seq ?_; refine q_region ?_; refine ql_pure tabOk rfl rfl ?_; refine q_nil ?_; refine q_seq ?_; refine q_region ?_; refine ql_pure tabOk rfl rfl ?_)
  refine ql_conv (H' := [.ow (.slice none 0 0) 3 1 0 []]) (fun w' hs => Sat.ownil hs _ _) ?_
  refine ql_append (q := l.length) (news := ints l) slI rfl rfl rfl (fun v' => by repeat constructor) (fun w' hs => ⟨lo, hi, RdI.row (RdE.keep h hs.chg0)⟩) (fun c hc => by obtain ⟨y, _, rfl⟩ := List.mem_map.1 hc; rfl) (by omega) (by omega) (fun x => ?_)
  (refine ql_pure tabOk rfl rfl ?_; refine q_nil ?_; refine q_ret ?_)
  refine q_fin tabOk rfl (by repeat (first | exact RVs.nil | apply RVs.tmp rfl | apply RVs.cellA rfl rfl (by repeat first | exact .head _ | refine .tail _ ?_) (by rfl) | apply RVs.cell1 rfl rfl (by repeat first | exact .head _ | refine .tail _ ?_))) fun w hs => ?_
  exact ⟨x, rfl, by simpa using hs⟩
theorem RdS.row {w : World} {lo hi : Nat} {v : Value} {l : List (Int × Int)} (h : RdS w lo hi v l) : Rd w lo hi v 2 l.length (spC l) := by
  have := h.rd
  rw [cells_sp, List.length_map] at this
  exact this
end Go.Proofs.Ytohlillcaadidaa

/- Walks: copies of ranges. -/
namespace Go.Proofs.Ytohlillcaadidaa
open Go Go.Eng

/-- Rows of our own. -/
def rowsO (xs : List (Value × List Int)) : List Ck := xs.map fun p => .ow p.1 3 1 p.2.length (ints p.2)
theorem own_one' {w : World} {t sz m : Nat} {v : Value} {xs : List Value} (h : w.ownsRow 0 t sz v m xs) : oneV v = true := by
  obtain ⟨a, n, c, rfl⟩ := own_slice h
  rfl
theorem rowsO_rd {w : World} {v : Value} {xs : List (Value × List Int)} {n : Nat} (hu : (un (rowsO xs)).p w) (h1 : w.ownsRow 0 22 1 v n (xs.map (·.1))) : RdII w 0 w.heap.size v (xs.map (·.2)) := by
  have hn : n = (xs.map (·.1)).length := by have := h1.1; omega
  have hp : ∀ p ∈ xs, w.ownsRow 0 3 1 p.1 p.2.length (ints p.2) := fun p hp => hu.1 (.ow p.1 3 1 p.2.length (ints p.2)) (List.mem_map.2 ⟨p, hp, rfl⟩)
  refine ⟨xs.map (·.1), RdE.one (by rw [← hn]; exact own_rd h1) (fun e he => by obtain ⟨p, hm, rfl⟩ := List.mem_map.1 he; exact own_one' (hp p hm)), by simp, fun i hi hi' => ?_⟩
  have hi2 : i < xs.length := by simpa using hi
  simp only [List.getElem_map]
  exact own_rdI (hp _ (List.getElem_mem hi2)) rfl

set_option maxHeartbeats 1000000 in
theorem cloneAll_ca (w : World) (lo hi : Nat) (v : Value) (ll : List (List Int)) (h : RdII w lo hi v ll) (hlen : ll.length ≤ 1000) (hl : ∀ l ∈ ll, l.length ≤ 1000000) :
    Ca Try.prog 69 [v] w fun r w' => ∃ x : Value × List (Value × List Int), (r = x.1 ∧ x.2.map (·.2) = ll) ∧ Sat w M0 [un (rowsO x.2), .ow x.1 22 1 ll.length (x.2.map (·.1))] w' := by
  obtain ⟨a, cap, rfl, hs0⟩ := h.outI
  refine q_of (Sat.nil w M0) Try.func69 rfl (by simp [Try.ntmps69]) ?_
  (refine q_seq ?_; refine q_region ?_; refine ql_pure tabOk rfl rfl ?_; refine q_nil ?_; refine q_seq ?_; refine q_region ?_; refine ql_pure tabOk rfl rfl ?_; refine q_nil ?_; (iterate 2 refine q_seq ?_); refine q_region ?_; (iterate 3 refine ql_pure tabOk rfl rfl ?_); refine q_nil ?_; refine q_block ?_)
  refine q_conv (H' := [un (rowsO []), .ow (.slice none 0 0) 22 1 0 (([] : List (Value × List Int)).map (·.1))]) (fun w' hs => Sat.un_nil (Sat.ownil hs _ _)) ?_
  refine q_loop (σ := Value × List (Value × List Int)) (fun s => s.2.length ≤ ll.length ∧ s.2.map (·.2) = ll.take s.2.length) (fun s => ll.length - s.2.length) (fun s => [(3, s.1), (6, .slice a ll.length cap), (7, .int .i64 ll.length), (8, .int .i64 s.2.length)])
    (fun s => [un (rowsO s.2), .ow s.1 22 1 s.2.length (s.2.map (·.1))]) (.slice none 0 0, []) ⟨by simp, by simp⟩ ⟨rfl, rfl, rfl, rfl, trivial⟩ (Sp.refl _) ?_
  rintro ⟨va, xs⟩ ⟨hk, hxs⟩ K hK
  simp only at hk hxs
  dsimp only
  (refine q_seq ?_; refine q_region ?_; refine ql_pure tabOk rfl rfl ?_; refine q_nil ?_; refine q_seq ?_)
  refine q_if rfl (fun hc => ?_) (fun hc => ?_)
  · have hk2 : xs.length < ll.length := by omega
    clear hc
    obtain ⟨b, off, rfl⟩ := hs0 (by omega)
    obtain ⟨ar, cr, hr1, hr2⟩ := h.row xs.length hk2
    (refine q_skip ?_; refine q_seq ?_; refine q_block ?_; refine q_seq ?_; refine q_region ?_)
    refine ql_index tabOk rfl rfl rfl rfl rfl (by omega) (by omega) ?_
    refine ql_load1 tabOk rfl rfl rfl (fun w hs => hr2 w hs.chg0) ?_
    (refine ql_pure tabOk rfl rfl ?_; refine q_nil ?_; refine q_region ?_; (iterate 2 refine ql_pure tabOk rfl rfl ?_))
    refine ql_call (β := Value) (ψ := fun x v => v = x) (L' := fun x => [.ow x 3 1 ll[xs.length].length (ints ll[xs.length])]) tabOk [] _ M0 rfl rfl rfl rfl (Sp.refl _) (fun _ h => h.elim) (fun w' hs => cloneI_ca w' lo hi _ ll[xs.length] (RdE.keep hr1 hs.chg0) (hl _ (List.getElem_mem hk2))) ?_
    rintro _ y rfl
    skip
    refine ql_fact (fun w hs => hs.slice2 (v := y) (by repeat first | exact .head _ | refine .tail _ ?_)) ?_
    rintro ⟨ay, cy, rfl⟩
    refine ql_mkS 22 [.slice ay ll[xs.length].length cy] rfl (by kernel_rfl) rfl (fun bn => ?_)
    skip
    refine ql_append (q := 1) slII rfl rfl rfl (fun v' => by repeat constructor) (fun w' hs => ⟨_, _, Blk.rd (hs.blk (b := bn) (by repeat first | exact .head _ | refine .tail _ ?_)) rfl 1⟩) (by simp [oneV]) (by omega) (by omega) (fun va' => ?_)
    (refine ql_pure tabOk rfl rfl ?_; refine q_nil ?_; refine q_blk ?_; refine q_region ?_; refine ql_ar tabOk rfl rfl rfl rfl (by omega) (by omega) ?_; refine ql_pure tabOk rfl rfl ?_; refine q_nil ?_)
    refine q_conv (H' := [un (rowsO (xs ++ [(Value.slice ay ll[xs.length].length cy, ll[xs.length])])), .ow va' 22 1 (xs ++ [(Value.slice ay ll[xs.length].length cy, ll[xs.length])]).length ((xs ++ [(Value.slice ay ll[xs.length].length cy, ll[xs.length])]).map (·.1))]) (fun w' hs => by
      have h1 : Sat w M0 [.ow (.slice ay ll[xs.length].length cy) 3 1 ll[xs.length].length (ints ll[xs.length]), un (rowsO xs), .ow va' 22 1 (xs.length + 1) (xs.map (·.1) ++ [.slice ay ll[xs.length].length cy])] w' := hs.sp (by repeat (first | exact Sp.nil | exact Sp.refl _ | refine Sp.cons (by repeat constructor) ?_))
      have h2 := h1.un_in.un_perm (L' := rowsO (xs ++ [(Value.slice ay ll[xs.length].length cy, ll[xs.length])])) (by unfold rowsO; rw [List.map_append]; exact (List.perm_append_comm (l₁ := [_])))
      simpa using h2) ?_
    have e1 : ll.take (xs.length + 1) = ll.take xs.length ++ [ll[xs.length]] := List.take_succ_eq_append_getElem hk2
    have hlen1 : (xs ++ [(Value.slice ay ll[xs.length].length cy, ll[xs.length])]).length = xs.length + 1 := by simp
    refine hK (va', xs ++ [(Value.slice ay ll[xs.length].length cy, ll[xs.length])]) _ _ ⟨by simp only [hlen1]; omega, by simp only [hlen1, e1, List.map_append, hxs]; rfl⟩ (by simp only [hlen1]; omega) ⟨rfl, rfl, rfl, lookI rfl (by simp only [hlen1]; omega), trivial⟩ (Sp.refl _)
  · have hkl : xs.length = ll.length := by omega
    (refine q_exit _ rfl ?_; refine q_seq ?_; refine q_region ?_; (iterate 2 refine ql_pure tabOk rfl rfl ?_); refine q_nil ?_; refine q_ret ?_)
    refine q_fin tabOk rfl (by repeat (first | exact RVs.nil | apply RVs.tmp rfl | apply RVs.cellA rfl rfl (by repeat first | exact .head _ | refine .tail _ ?_) (by rfl) | apply RVs.cell1 rfl rfl (by repeat first | exact .head _ | refine .tail _ ?_))) fun w hs => ?_
    refine ⟨(va, xs), ⟨rfl, by simp only; rw [hxs, hkl, List.take_length]⟩, ?_⟩
    have := hs
    rw [hkl] at this
    exact this

/-- The parts of a copy. -/
def cpK (r : Rg) (vg vd vf vn : Value) (xs : List (Value × List Int)) : List Ck :=
  [.ow vg 3 1 r.group.length (ints r.group), .ow vd 3 1 r.drifts.length (ints r.drifts), .ow vf 3 1 r.first.length (ints r.first), .ow vn 22 1 r.next.length (xs.map (·.1)), un (rowsO xs)]
theorem cp_rg {w : World} {r : Rg} {vg vd vf vn : Value} {xs : List (Value × List Int)} (hx : xs.map (·.2) = r.next) (h : ∀ c ∈ cpK r vg vd vf vn xs, c.p w) : RgC w [.int .i64 r.radius, .int .i64 r.unit, .int .i64 r.clicks, .int .i64 r.total, vg, vd, vf, vn] r := by
  have h1 : w.ownsRow 0 3 1 vg r.group.length (ints r.group) := h _ (.head _)
  have h2 : w.ownsRow 0 3 1 vd r.drifts.length (ints r.drifts) := h _ (.tail _ (.head _))
  have h3 : w.ownsRow 0 3 1 vf r.first.length (ints r.first) := h _ (.tail _ (.tail _ (.head _)))
  have h4 : w.ownsRow 0 22 1 vn r.next.length (xs.map (·.1)) := h _ (.tail _ (.tail _ (.tail _ (.head _))))
  have h5 : (un (rowsO xs)).p w := h _ (.tail _ (.tail _ (.tail _ (.tail _ (.head _)))))
  have k1 := own_rdI h1 rfl
  have k2 := own_rdI h2 rfl
  have k3 := own_rdI h3 rfl
  have k4 := rowsO_rd h5 h4
  rw [hx] at k4
  obtain ⟨a1, c1, rfl, _⟩ := RdI.outI k1
  obtain ⟨a2, c2, rfl, _⟩ := RdI.outI k2
  obtain ⟨a3, c3, rfl, _⟩ := RdI.outI k3
  obtain ⟨a4, c4, rfl, _⟩ := RdII.outI k4
  exact ⟨0, w.heap.size, a1, c1, a2, c2, a3, c3, a4, c4, rfl, k1, k2, k3, k4⟩
set_option maxRecDepth 20000 in
set_option maxHeartbeats 2000000 in
theorem cloneR_ca0 (w : World) (cs : List Value) (r : Rg) (h : RgC w cs r) (hsm : r.Small) :
    Ca Try.prog 17 [.agg cs.toArray] w fun v w' => ∃ x : Value × Value × Value × Value × List (Value × List Int), (v = .agg #[.int .i64 r.radius, .int .i64 r.unit, .int .i64 r.clicks, .int .i64 r.total, x.1, x.2.1, x.2.2.1, x.2.2.2.1] ∧ x.2.2.2.2.map (·.2) = r.next) ∧ Sat w M0 (cpK r x.1 x.2.1 x.2.2.1 x.2.2.2.1 x.2.2.2.2) w' := by
  have h0 := h
  have s1 := hsm.group
  have s2 := hsm.drifts
  have s3 := hsm.first
  have s4 := hsm.next
  have s5 := hsm.rows
  obtain ⟨lo, hi, ag, cg, ad, cd, af, cf, an, cn, rfl, hg, hdr, hf, hn⟩ := h
  refine q_of (Sat.nil w M0) Try.func17 rfl (by simp [Try.ntmps17]) ?_
  (refine q_seq ?_; refine q_region ?_)
  refine ql_box rfl rfl (fun b1 => ?_)
  skip
  refine ql_alloc zero25 rfl (fun b2 => ?_)
  (refine q_nil ?_; refine q_seq ?_)
  refine q_drawS2 12 _ [] [.pt b2 [.int .i64 0, .int .i64 0, .int .i64 0, .int .i64 0, .slice none 0 0, .slice none 0 0, .slice none 0 0, .slice none 0 0] 25] [.pt b1 [.int .i64 r.radius, .int .i64 r.unit, .int .i64 r.clicks, .int .i64 r.total, .slice ag r.group.length cg, .slice ad r.drifts.length cd, .slice af r.first.length cf, .slice an r.next.length cn] 25] (Sp.refl _) (Sp.cons (by repeat constructor) (by repeat (first | exact Sp.nil | exact Sp.refl _ | refine Sp.cons (by repeat constructor) ?_))) (by kernel_rfl) (by kernel_rfl) (by kernel_rfl) fun K1 hK1 => ?_
  (refine qf_pure tabOk rfl rfl rfl ?_; refine qf_loadB tabOk rfl rfl rfl (by repeat first | exact .head _ | refine .tail _ ?_) (by rfl) ?_)
  refine qf_call (β := Value) tabOk [] _ M0 rfl rfl rfl rfl (Sp.refl _) (fun _ h => h.elim) (fun w' hs => cloneI_ca w' lo hi _ r.group (RdE.keep hg hs.chg0) (by omega)) ?_
  rintro _ vg rfl
  (refine qf_pure tabOk rfl rfl rfl ?_; refine qf_loadB tabOk rfl rfl rfl (by repeat first | exact .head _ | refine .tail _ ?_) (by rfl) ?_)
  refine qf_call (β := Value) tabOk [] _ M0 rfl rfl rfl rfl (Sp.refl _) (fun _ h => h.elim) (fun w' hs => cloneI_ca w' lo hi _ r.drifts (RdE.keep hdr hs.chg0) (by omega)) ?_
  rintro _ vd rfl
  (refine qf_pure tabOk rfl rfl rfl ?_; refine qf_loadB tabOk rfl rfl rfl (by repeat first | exact .head _ | refine .tail _ ?_) (by rfl) ?_)
  refine qf_call (β := Value) tabOk [] _ M0 rfl rfl rfl rfl (Sp.refl _) (fun _ h => h.elim) (fun w' hs => cloneI_ca w' lo hi _ r.first (RdE.keep hf hs.chg0) (by omega)) ?_
  rintro _ vf rfl
  (refine qf_pure tabOk rfl rfl rfl ?_; refine qf_loadB tabOk rfl rfl rfl (by repeat first | exact .head _ | refine .tail _ ?_) (by rfl) ?_)
  refine qf_call (β := Value × List (Value × List Int)) (ψ := fun x v => v = x.1 ∧ x.2.map (·.2) = r.next) tabOk [] _ M0 rfl rfl rfl rfl (Sp.refl _) (fun _ h => h.elim) (fun w' hs => cloneAll_ca w' lo hi _ r.next (hn.keep hs.chg0) (by omega) (fun l hl => by have := s5 l hl; omega)) ?_
  rintro ⟨_, xs⟩ vn ⟨rfl, hxs⟩
  dsimp only at hxs ⊢
  (refine qf_nil ?_)
  refine hK1 _ _ [.pt b1 [.int .i64 r.radius, .int .i64 r.unit, .int .i64 r.clicks, .int .i64 r.total, .slice ag r.group.length cg, .slice ad r.drifts.length cd, .slice af r.first.length cf, .slice an r.next.length cn] 25, .ow vg 3 1 r.group.length (ints r.group), .ow vd 3 1 r.drifts.length (ints r.drifts), .ow vf 3 1 r.first.length (ints r.first), .ow vn 22 1 r.next.length (xs.map (·.1)), un (rowsO xs)] (Sp.cons (by repeat constructor) (Sp.cons (by repeat constructor) (Sp.cons (by repeat constructor) (Sp.cons (by repeat constructor) (Sp.cons (by repeat constructor) (Sp.cons (by repeat constructor) (by repeat (first | exact Sp.nil | exact Sp.refl _ | refine Sp.cons (by repeat constructor) ?_)))))))) ?_
  refine qf_fact (fun w hs => hs.slice (v := vg) (by repeat first | exact .head _ | refine .tail _ ?_)) ?_
  rintro ⟨a1, m1, c1, rfl⟩
  refine qf_fact (fun w hs => hs.slice (v := vd) (by repeat first | exact .head _ | refine .tail _ ?_)) ?_
  rintro ⟨a2, m2, c2, rfl⟩
  refine qf_fact (fun w hs => hs.slice (v := vf) (by repeat first | exact .head _ | refine .tail _ ?_)) ?_
  rintro ⟨a3, m3, c3, rfl⟩
  refine qf_fact (fun w hs => hs.slice (v := vn) (by repeat first | exact .head _ | refine .tail _ ?_)) ?_
  rintro ⟨a4, m4, c4, rfl⟩
  (refine qf_pure tabOk rfl rfl rfl ?_; refine qf_st4 tabOk rfl rfl rfl rfl (by repeat constructor) ?_; refine qf_pure tabOk rfl rfl rfl ?_; refine qf_st5 tabOk rfl rfl rfl rfl (by repeat constructor) ?_; refine qf_pure tabOk rfl rfl rfl ?_; refine qf_st6 tabOk rfl rfl rfl rfl (by repeat constructor) ?_; refine qf_pure tabOk rfl rfl rfl ?_; refine qf_st7 tabOk rfl rfl rfl rfl (by repeat constructor) ?_; refine qf_nil ?_; refine q_seq ?_; refine q_region ?_; refine ql_loadAB tabOk rfl rfl rfl (by repeat first | exact .head _ | refine .tail _ ?_) (by rfl) (by rfl) ?_; refine ql_setA tabOk rfl rfl rfl rfl rfl (by repeat constructor) rfl ?_; refine q_nil ?_; refine q_ret ?_)
  refine q_fin tabOk rfl (by repeat (first | exact RVs.nil | apply RVs.tmp rfl | apply RVs.cellA rfl rfl (by repeat first | exact .head _ | refine .tail _ ?_) (by rfl) | apply RVs.cell1 rfl rfl (by repeat first | exact .head _ | refine .tail _ ?_))) fun w hs => ?_
  exact ⟨(_, _, _, _, xs), ⟨rfl, hxs⟩, hs.sp (by repeat (first | exact Sp.nil | exact Sp.refl _ | refine Sp.cons (by repeat constructor) ?_))⟩
end Go.Proofs.Ytohlillcaadidaa

/- Walks: lists of spans that are changed; a copy of a range as one piece. -/
namespace Go.Proofs.Ytohlillcaadidaa
open Go Go.Eng

/-- A copy of a range: where its lists lie. -/
structure Cp (r : Rg) where
  a1 : Option Addr
  c1 : Nat
  a2 : Option Addr
  c2 : Nat
  a3 : Option Addr
  c3 : Nat
  a4 : Option Addr
  c4 : Nat
  xs : List (Value × List Int)
  hx : xs.map (·.2) = r.next
def Cp.K {r : Rg} (x : Cp r) : List Ck := cpK r (.slice x.a1 r.group.length x.c1) (.slice x.a2 r.drifts.length x.c2) (.slice x.a3 r.first.length x.c3) (.slice x.a4 r.next.length x.c4) x.xs
theorem cloneR_cp (w : World) (cs : List Value) (r : Rg) (h : RgC w cs r) (hsm : r.Small) :
    Ca Try.prog 17 [.agg cs.toArray] w fun v w' => ∃ x : Cp r, v = .agg #[.int .i64 r.radius, .int .i64 r.unit, .int .i64 r.clicks, .int .i64 r.total, .slice x.a1 r.group.length x.c1, .slice x.a2 r.drifts.length x.c2, .slice x.a3 r.first.length x.c3, .slice x.a4 r.next.length x.c4] ∧ Sat w M0 [un x.K] w' :=
  (cloneR_ca0 w cs r h hsm).mono fun v w' ⟨(vg, vd, vf, vn, xs), ⟨hv, hx⟩, hs⟩ => by
    dsimp only at hv hx hs
    obtain ⟨a1, c1, rfl⟩ := hs.slice2 (v := vg) (e := 3) (sz := 1) (n := r.group.length) (.head _)
    obtain ⟨a2, c2, rfl⟩ := hs.slice2 (v := vd) (e := 3) (sz := 1) (n := r.drifts.length) (.tail _ (.head _))
    obtain ⟨a3, c3, rfl⟩ := hs.slice2 (v := vf) (e := 3) (sz := 1) (n := r.first.length) (.tail _ (.tail _ (.head _)))
    obtain ⟨a4, c4, rfl⟩ := hs.slice2 (v := vn) (e := 22) (sz := 1) (n := r.next.length) (.tail _ (.tail _ (.tail _ (.head _))))
    exact ⟨⟨a1, c1, a2, c2, a3, c3, a4, c4, xs, hx⟩, hv, Sat.un1.2 hs⟩
/-- Other numbers, the same lists. -/
theorem Cp.at2 {r : Rg} (x : Cp r) (r' : Rg) (hg : r'.group = r.group) (hd : r'.drifts = r.drifts) (hf : r'.first = r.first) (hn : r'.next = r.next) {w0 w : World} {M : Nat → Prop} {H : List Ck} (hs : Sat w0 M H w) (hm : un x.K ∈ H) :
    RgC w [.int .i64 r'.radius, .int .i64 r'.unit, .int .i64 r'.clicks, .int .i64 r'.total, .slice x.a1 r.group.length x.c1, .slice x.a2 r.drifts.length x.c2, .slice x.a3 r.first.length x.c3, .slice x.a4 r.next.length x.c4] r' := by
  refine cp_rg (xs := x.xs) (by rw [hn]; exact x.hx) (fun c hc => (hs.mem hm).1 c ?_)
  unfold Cp.K
  unfold cpK at hc ⊢
  rw [hg, hd, hf, hn] at hc
  exact hc

/-! Spans that are changed in place. -/
end Go.Proofs.Ytohlillcaadidaa

/- Walks: lists compared that are equal; ranges that are too long. -/
namespace Go.Proofs.Ytohlillcaadidaa
open Go Go.Eng

set_option maxHeartbeats 1000000 in
theorem eqI_ca (w : World) (lo hi lo2 hi2 : Nat) (v u : Value) (l : List Int) (h1 : RdI w lo hi v l) (h2 : RdI w lo2 hi2 u l) (hlen : l.length ≤ 1000000) :
    Ca Try.prog 23 [v, u] w fun r w' => r = .bool true ∧ Chg [] w w' := by
  obtain ⟨a, ca, rfl, hsa⟩ := RdI.outI h1
  obtain ⟨b, cb, rfl, hsb⟩ := RdI.outI h2
  refine q_of (Sat.nil w M0) Try.func23 rfl (by simp [Try.ntmps23]) ?_
  (refine q_seq ?_; refine q_region ?_; refine ql_pure tabOk rfl rfl ?_; refine q_nil ?_; (iterate 2 refine q_seq ?_); refine q_region ?_; (iterate 4 refine ql_pure tabOk rfl rfl ?_); refine ql_neqF tabOk rfl rfl rfl (by omega) ?_; refine q_nil ?_; refine q_cond_false rfl ?_; refine q_skip ?_; (iterate 2 refine q_seq ?_); refine q_region ?_; (iterate 3 refine ql_pure tabOk rfl rfl ?_); refine q_nil ?_; refine q_block ?_)
  refine q_loop (σ := Nat) (fun s => s ≤ l.length) (fun s => l.length - s) (fun s => [(0, .slice a l.length ca), (1, .slice b l.length cb), (12, .int .i64 l.length), (13, .int .i64 s)]) (fun _ => []) 0 (by omega) ⟨rfl, rfl, rfl, rfl, trivial⟩ (by repeat (first | exact Sp.nil | exact Sp.refl _ | refine Sp.cons (by repeat constructor) ?_)) ?_
  intro i hi K hK
  (refine q_seq ?_; refine q_region ?_; refine ql_pure tabOk rfl rfl ?_; refine q_nil ?_; refine q_seq ?_)
  refine q_if rfl (fun hc => ?_) (fun hc => ?_)
  · have hi2 : i < l.length := by omega
    clear hc
    obtain ⟨ba, oa, rfl⟩ := hsa (by omega)
    obtain ⟨bb, ob, rfl⟩ := hsb (by omega)
    (refine q_skip ?_; refine q_seq ?_; refine q_block ?_; refine q_seq ?_; refine q_region ?_; (iterate 2 refine ql_pure tabOk rfl rfl ?_); refine q_nil ?_; refine q_seq ?_)
    refine q_draw _ [] (Sp.refl _) (by kernel_rfl) (by kernel_rfl) ?_
    ((iterate 2 refine qf_pure tabOk rfl rfl rfl ?_))
    (refine qf_index tabOk rfl rfl rfl rfl rfl (by omega) (by omega) ?_; refine qf_load1 tabOk rfl rfl rfl (fun w hs => RdI.at (RdE.keep h1 hs.chg0) i hi2) ?_)
    ((iterate 2 refine qf_pure tabOk rfl rfl rfl ?_))
    (refine qf_index tabOk rfl rfl rfl rfl rfl (by omega) (by omega) ?_; refine qf_load1 tabOk rfl rfl rfl (fun w hs => RdI.at (RdE.keep h2 hs.chg0) i hi2) ?_)
    (refine qf_neqF tabOk rfl rfl rfl (by omega) ?_; refine qf_nil ?_; refine q_cond_false rfl ?_; refine q_skip ?_; refine q_blk ?_; refine q_region ?_; refine ql_ar tabOk rfl rfl rfl rfl (by omega) (by omega) ?_; refine ql_pure tabOk rfl rfl ?_; refine q_nil ?_)
    exact hK (i + 1) _ _ (by omega) (by omega) ⟨rfl, rfl, rfl, rfl, trivial⟩ (by repeat (first | exact Sp.nil | exact Sp.refl _ | refine Sp.cons (by repeat constructor) ?_))
  · (refine q_exit _ rfl ?_; refine q_seq ?_; refine q_region ?_; refine ql_pure tabOk rfl rfl ?_; refine q_nil ?_; refine q_ret ?_)
    refine q_fin tabOk rfl (by repeat (first | exact RVs.nil | apply RVs.tmp rfl | apply RVs.cellA rfl rfl (by repeat first | exact .head _ | refine .tail _ ?_) (by rfl) | apply RVs.cell1 rfl rfl (by repeat first | exact .head _ | refine .tail _ ?_))) fun w hs => ?_
    exact ⟨rfl, hs.chg0⟩

set_option maxHeartbeats 1000000 in
theorem eqII_ca (w : World) (lo hi lo2 hi2 : Nat) (v u : Value) (ll : List (List Int)) (h1 : RdII w lo hi v ll) (h2 : RdII w lo2 hi2 u ll) (hlen : ll.length ≤ 1000000) (hrow : ∀ l ∈ ll, l.length ≤ 1000000) :
    Ca Try.prog 90 [v, u] w fun r w' => r = .bool true ∧ Chg [] w w' := by
  obtain ⟨a, ca, rfl, hsa⟩ := RdII.outI h1
  obtain ⟨b, cb, rfl, hsb⟩ := RdII.outI h2
  refine q_of (Sat.nil w M0) Try.func90 rfl (by simp [Try.ntmps90]) ?_
  (refine q_seq ?_; refine q_region ?_; refine ql_pure tabOk rfl rfl ?_; refine q_nil ?_; (iterate 2 refine q_seq ?_); refine q_region ?_; (iterate 4 refine ql_pure tabOk rfl rfl ?_); refine ql_neqF tabOk rfl rfl rfl (by omega) ?_; refine q_nil ?_; refine q_cond_false rfl ?_; refine q_skip ?_; (iterate 2 refine q_seq ?_); refine q_region ?_; (iterate 3 refine ql_pure tabOk rfl rfl ?_); refine q_nil ?_; refine q_block ?_)
  refine q_loop (σ := Nat) (fun s => s ≤ ll.length) (fun s => ll.length - s) (fun s => [(0, .slice a ll.length ca), (1, .slice b ll.length cb), (12, .int .i64 ll.length), (13, .int .i64 s)]) (fun _ => []) 0 (by omega) ⟨rfl, rfl, rfl, rfl, trivial⟩ (by repeat (first | exact Sp.nil | exact Sp.refl _ | refine Sp.cons (by repeat constructor) ?_)) ?_
  intro i hi K hK
  (refine q_seq ?_; refine q_region ?_; refine ql_pure tabOk rfl rfl ?_; refine q_nil ?_; refine q_seq ?_)
  refine q_if rfl (fun hc => ?_) (fun hc => ?_)
  · have hi2 : i < ll.length := by omega
    clear hc
    obtain ⟨ba, oa, rfl⟩ := hsa (by omega)
    obtain ⟨bb, ob, rfl⟩ := hsb (by omega)
    obtain ⟨ar, cr, hr1, hc1⟩ := h1.row i hi2
    obtain ⟨br, dr, hr2, hc2⟩ := h2.row i hi2
    have hrl := hrow _ (List.getElem_mem hi2)
    (refine q_skip ?_; refine q_seq ?_; refine q_block ?_; refine q_seq ?_; refine q_region ?_; (iterate 2 refine ql_pure tabOk rfl rfl ?_); refine q_nil ?_; refine q_seq ?_)
    refine q_draw _ [] (Sp.refl _) (by kernel_rfl) (by kernel_rfl) ?_
    ((iterate 2 refine qf_pure tabOk rfl rfl rfl ?_))
    refine qf_index tabOk rfl rfl rfl rfl rfl (by omega) (by omega) ?_
    refine qf_load1 (v := .slice ar ll[i].length cr) tabOk rfl rfl rfl (fun w' hs => hc1 w' hs.chg0) ?_
    ((iterate 2 refine qf_pure tabOk rfl rfl rfl ?_))
    refine qf_index tabOk rfl rfl rfl rfl rfl (by omega) (by omega) ?_
    refine qf_load1 (v := .slice br ll[i].length dr) tabOk rfl rfl rfl (fun w' hs => hc2 w' hs.chg0) ?_
    skip
    refine qf_callv (val := .bool true) tabOk rfl rfl rfl rfl (fun w hs => ?_) ?_; exact eqI_ca w _ _ _ _ _ _ ll[i] (RdE.keep hr1 hs.chg0) (RdE.keep hr2 hs.chg0) hrl
    (refine qf_pure tabOk rfl rfl rfl ?_; refine qf_nil ?_; refine q_cond_false rfl ?_; refine q_skip ?_; refine q_blk ?_; refine q_region ?_; refine ql_ar tabOk rfl rfl rfl rfl (by omega) (by omega) ?_; refine ql_pure tabOk rfl rfl ?_; refine q_nil ?_)
    exact hK (i + 1) _ _ (by omega) (by omega) ⟨rfl, rfl, rfl, rfl, trivial⟩ (by repeat (first | exact Sp.nil | exact Sp.refl _ | refine Sp.cons (by repeat constructor) ?_))
  · (refine q_exit _ rfl ?_; refine q_seq ?_; refine q_region ?_; refine ql_pure tabOk rfl rfl ?_; refine q_nil ?_; refine q_ret ?_)
    refine q_fin tabOk rfl (by repeat (first | exact RVs.nil | apply RVs.tmp rfl | apply RVs.cellA rfl rfl (by repeat first | exact .head _ | refine .tail _ ?_) (by rfl) | apply RVs.cell1 rfl rfl (by repeat first | exact .head _ | refine .tail _ ?_))) fun w hs => ?_
    exact ⟨rfl, hs.chg0⟩

/-- Lists of fractions that can be read. -/
def RdSS (w : World) (lo hi : Nat) (v : Value) (ll : List (List (Int × Int))) : Prop :=
  ∃ vs, RdE w lo hi v 1 vs ∧ vs.length = ll.length ∧ ∀ i (h : i < vs.length) (h' : i < ll.length), RdS w lo hi vs[i] ll[i]
theorem RdSS.outI {w : World} {lo hi : Nat} {v : Value} {ll : List (List (Int × Int))} (h : RdSS w lo hi v ll) : ∃ a cap, v = .slice a ll.length cap ∧ (0 < ll.length → ∃ b off, a = some ⟨b, off, none⟩) := by
  obtain ⟨vs, h1, h2, _⟩ := h
  rw [← h2]
  exact h1.out
theorem RdSS.row {w : World} {lo hi : Nat} {b off len cap : Nat} {ll : List (List (Int × Int))} (h : RdSS w lo hi (.slice (some ⟨b, off, none⟩) len cap) ll) (i : Nat) (hi' : i < ll.length) :
    ∃ a c, RdS w lo hi (.slice a ll[i].length c) ll[i] ∧ ∀ w', Chg [] w w' → w'.cell? ⟨b, off + i * 1, none⟩ = some (.slice a ll[i].length c) := by
  obtain ⟨vs, h1, h2, h3⟩ := h
  have h4 := h3 i (by omega) hi'
  obtain ⟨a, c, hv, _⟩ := RdS.outI h4
  refine ⟨a, c, hv ▸ h4, fun w' hw => ?_⟩
  rw [← hv]
  exact (h1.keep hw).cell1 i (by omega) (by rw [hv]; rfl)
theorem RdSS.keep {w w' : World} {lo hi : Nat} {v : Value} {ll : List (List (Int × Int))} (h : RdSS w lo hi v ll) (c : Chg [] w w') : RdSS w' lo hi v ll := by
  obtain ⟨vs, h1, h2, h3⟩ := h
  exact ⟨vs, h1.keep c, h2, fun i h h' => RdE.keep (h3 i h h') c⟩

/-- A range is longer than what is looked at. -/
theorem long_ca (w : World) (cs : List Value) (r : Rg) (h : RgC w cs r) (hl : r.next.length ≤ maxLen) :
    Ca Try.prog 15 [.agg cs.toArray] w fun v w' => ∃ b : Bool, (v = .bool b ∧ (b = false → r.Small)) ∧ Sat w M0 [] w' := by
  obtain ⟨lo, hi, ag, cg, ad, cd, af, cf, an, cn, rfl, hg, hdr, hf, hn⟩ := h
  obtain ⟨_, _, hsl, hsn⟩ := RdII.outI hn
  cases hsl
  simp only [maxLen] at hl
  refine q_of (Sat.nil w M0) Try.func15 rfl (by simp [Try.ntmps15]) ?_
  (refine q_seq ?_; refine q_region ?_)
  refine ql_box rfl rfl (fun b1 => ?_)
  (refine ql_pure tabOk rfl rfl ?_; refine q_nil ?_; (iterate 2 refine q_seq ?_); refine q_region ?_; refine ql_pure tabOk rfl rfl ?_; refine ql_loadB tabOk rfl rfl rfl (by repeat first | exact .head _ | refine .tail _ ?_) (by rfl) ?_; (iterate 2 refine ql_pure tabOk rfl rfl ?_); refine q_nil ?_; refine q_block ?_)
  refine q_loop (σ := Nat) (fun k => k ≤ r.next.length ∧ ∀ l ∈ r.next.take k, l.length ≤ 7) (fun k => r.next.length - k) (fun k => [(1, .pointer (some ⟨b1, 0, none⟩)), (6, .slice an r.next.length cn), (7, .int .i64 r.next.length), (8, .int .i64 k)])
    (fun _ => [.pt b1 [.int .i64 r.radius, .int .i64 r.unit, .int .i64 r.clicks, .int .i64 r.total, .slice ag r.group.length cg, .slice ad r.drifts.length cd, .slice af r.first.length cf, .slice an r.next.length cn] 25]) 0 ⟨by omega, by simp⟩ ⟨rfl, rfl, rfl, rfl, trivial⟩ (by repeat (first | exact Sp.nil | exact Sp.refl _ | refine Sp.cons (by repeat constructor) ?_)) ?_
  rintro k ⟨hk, hall⟩ K hK
  (refine q_seq ?_; refine q_region ?_; refine ql_pure tabOk rfl rfl ?_; refine q_nil ?_; refine q_seq ?_)
  refine q_if rfl (fun hc => ?_) (fun hc => ?_)
  · have hk2 : k < r.next.length := by omega
    clear hc
    obtain ⟨bs, off, rfl⟩ := hsn (by omega)
    obtain ⟨ar, cr, hrow, hcell⟩ := hn.row k hk2
    (refine q_skip ?_; refine q_seq ?_; refine q_block ?_; refine q_seq ?_; refine q_region ?_)
    refine ql_index tabOk rfl rfl rfl rfl rfl (by omega) (by omega) ?_
    refine ql_load1 (v := .slice ar r.next[k].length cr) tabOk rfl rfl rfl (fun w' hs => hcell w' hs.chg0) ?_
    (refine ql_pure tabOk rfl rfl ?_; refine q_nil ?_; refine q_seq ?_; refine q_region ?_; (iterate 3 refine ql_pure tabOk rfl rfl ?_); refine q_nil ?_)
    refine q_if rfl (fun hc => ?_) (fun hc => ?_)
    · (refine q_seq ?_; refine q_region ?_; refine ql_pure tabOk rfl rfl ?_; refine q_nil ?_; refine q_ret ?_)
      refine q_fin tabOk rfl (by repeat (first | exact RVs.nil | apply RVs.tmp rfl | apply RVs.cellA rfl rfl (by repeat first | exact .head _ | refine .tail _ ?_) (by rfl) | apply RVs.cell1 rfl rfl (by repeat first | exact .head _ | refine .tail _ ?_))) fun w hs => ?_
      exact ⟨true, ⟨rfl, fun h => by cases h⟩, hs.keep (Chg.refl _ _) |>.sp .nil⟩
    · (refine q_skip ?_; refine q_blk ?_; refine q_region ?_; refine ql_ar tabOk rfl rfl rfl rfl (by omega) (by omega) ?_; refine ql_pure tabOk rfl rfl ?_; refine q_nil ?_)
      exact hK (k + 1) _ _ ⟨by omega, fun l hm => by
        rw [List.take_succ_eq_append_getElem hk2] at hm
        rcases List.mem_append.1 hm with hm | hm
        · exact hall l hm
        · simp at hm
          subst hm
          omega⟩ (by omega) ⟨rfl, rfl, rfl, rfl, trivial⟩ (by repeat (first | exact Sp.nil | exact Sp.refl _ | refine Sp.cons (by repeat constructor) ?_))
  obtain rfl : k = r.next.length := by omega
  clear hc hK
  rw [List.take_length] at hall
  (refine q_exit _ rfl ?_; refine q_seq ?_; refine q_region ?_; refine ql_pure tabOk rfl rfl ?_; refine ql_loadB tabOk rfl rfl rfl (by repeat first | exact .head _ | refine .tail _ ?_) (by rfl) ?_; (iterate 3 refine ql_pure tabOk rfl rfl ?_))
  refine ql_split rfl rfl (fun hc => ?_) (fun hc => ?_)
  · ((iterate 4 refine ql_gno rfl rfl rfl ?_); (iterate 2 refine ql_pure tabOk rfl rfl ?_); (iterate 4 refine ql_gno rfl rfl rfl ?_); (iterate 2 refine ql_pure tabOk rfl rfl ?_); (iterate 4 refine ql_gno rfl rfl rfl ?_); (iterate 2 refine ql_pure tabOk rfl rfl ?_); refine q_nil ?_; refine q_ret ?_)
    refine q_fin tabOk rfl (by repeat (first | exact RVs.nil | apply RVs.tmp rfl | apply RVs.cellA rfl rfl (by repeat first | exact .head _ | refine .tail _ ?_) (by rfl) | apply RVs.cell1 rfl rfl (by repeat first | exact .head _ | refine .tail _ ?_))) fun w hs => ?_
    exact ⟨true, ⟨rfl, fun h => by cases h⟩, hs.sp .nil⟩
  have c1 := of_decide_eq_false hc
  clear hc
  (refine ql_gyes rfl ?_; refine ql_pure tabOk rfl rfl ?_; refine ql_gyes rfl ?_; refine ql_loadB tabOk rfl rfl rfl (by repeat first | exact .head _ | refine .tail _ ?_) (by rfl) ?_; refine ql_gyes rfl ?_; refine ql_pure tabOk rfl rfl ?_; refine ql_gyes rfl ?_; (iterate 3 refine ql_pure tabOk rfl rfl ?_))
  refine ql_split rfl rfl (fun hc => ?_) (fun hc => ?_)
  · ((iterate 4 refine ql_gno rfl rfl rfl ?_); (iterate 2 refine ql_pure tabOk rfl rfl ?_); (iterate 4 refine ql_gno rfl rfl rfl ?_); (iterate 2 refine ql_pure tabOk rfl rfl ?_); refine q_nil ?_; refine q_ret ?_)
    refine q_fin tabOk rfl (by repeat (first | exact RVs.nil | apply RVs.tmp rfl | apply RVs.cellA rfl rfl (by repeat first | exact .head _ | refine .tail _ ?_) (by rfl) | apply RVs.cell1 rfl rfl (by repeat first | exact .head _ | refine .tail _ ?_))) fun w hs => ?_
    exact ⟨true, ⟨rfl, fun h => by cases h⟩, hs.sp .nil⟩
  have c2 := of_decide_eq_false hc
  clear hc
  (refine ql_gyes rfl ?_; refine ql_pure tabOk rfl rfl ?_; refine ql_gyes rfl ?_; refine ql_loadB tabOk rfl rfl rfl (by repeat first | exact .head _ | refine .tail _ ?_) (by rfl) ?_; refine ql_gyes rfl ?_; refine ql_pure tabOk rfl rfl ?_; refine ql_gyes rfl ?_; (iterate 3 refine ql_pure tabOk rfl rfl ?_))
  refine ql_split rfl rfl (fun hc => ?_) (fun hc => ?_)
  · ((iterate 4 refine ql_gno rfl rfl rfl ?_); (iterate 2 refine ql_pure tabOk rfl rfl ?_); refine q_nil ?_; refine q_ret ?_)
    refine q_fin tabOk rfl (by repeat (first | exact RVs.nil | apply RVs.tmp rfl | apply RVs.cellA rfl rfl (by repeat first | exact .head _ | refine .tail _ ?_) (by rfl) | apply RVs.cell1 rfl rfl (by repeat first | exact .head _ | refine .tail _ ?_))) fun w hs => ?_
    exact ⟨true, ⟨rfl, fun h => by cases h⟩, hs.sp .nil⟩
  have c3 := of_decide_eq_false hc
  clear hc
  (refine ql_gyes rfl ?_; refine ql_pure tabOk rfl rfl ?_; refine ql_gyes rfl ?_; refine ql_loadB tabOk rfl rfl rfl (by repeat first | exact .head _ | refine .tail _ ?_) (by rfl) ?_; refine ql_gyes rfl ?_; refine ql_pure tabOk rfl rfl ?_; refine ql_gyes rfl ?_; (iterate 3 refine ql_pure tabOk rfl rfl ?_); refine q_nil ?_; refine q_ret ?_)
  refine q_fin tabOk rfl (by repeat (first | exact RVs.nil | apply RVs.tmp rfl | apply RVs.cellA rfl rfl (by repeat first | exact .head _ | refine .tail _ ?_) (by rfl) | apply RVs.cell1 rfl rfl (by repeat first | exact .head _ | refine .tail _ ?_))) fun w hs => ?_
  refine ⟨_, ⟨rfl, fun h => ?_⟩, hs.sp .nil⟩
  have c4 := of_decide_eq_false h
  exact ⟨by omega, by omega, by omega, by omega, hall⟩

theorem same_ca (w : World) (cs cs2 : List Value) (r : Rg) (h : RgC w cs r) (h2 : RgC w cs2 r) (hsm : r.Small) :
    Ca Try.prog 28 [.agg cs.toArray, .agg cs2.toArray] w fun v w' => v = .bool true ∧ Chg [] w w' := by
  have s1 := hsm.group
  have s2 := hsm.drifts
  have s3 := hsm.first
  have s4 := hsm.next
  have s5 := hsm.rows
  obtain ⟨lo, hi, ag, cg, ad, cd, af, cf, an, cn, rfl, hg, hdr, hf, hn⟩ := h
  obtain ⟨lo2, hi2, ag2, cg2, ad2, cd2, af2, cf2, an2, cn2, rfl, hg2, hdr2, hf2, hn2⟩ := h2
  refine q_of (Sat.nil w M0) Try.func28 rfl (by simp [Try.ntmps28]) ?_
  (refine q_seq ?_; refine q_region ?_)
  refine ql_box rfl rfl (fun b2 => ?_)
  refine ql_box rfl rfl (fun b3 => ?_)
  (refine ql_pure tabOk rfl rfl ?_; refine q_nil ?_; refine q_seq ?_; refine q_region ?_; refine ql_pure tabOk rfl rfl ?_; refine ql_loadB tabOk rfl rfl rfl (by repeat first | exact .head _ | refine .tail _ ?_) (by rfl) ?_; refine ql_pure tabOk rfl rfl ?_; refine ql_loadB tabOk rfl rfl rfl (by repeat first | exact .head _ | refine .tail _ ?_) (by rfl) ?_; refine ql_eqlT tabOk rfl rfl rfl (by omega) ?_; refine ql_pure tabOk rfl rfl ?_; refine ql_gyes rfl ?_; refine ql_pure tabOk rfl rfl ?_; refine ql_gyes rfl ?_; refine ql_loadB tabOk rfl rfl rfl (by repeat first | exact .head _ | refine .tail _ ?_) (by rfl) ?_; refine ql_gyes rfl ?_; refine ql_pure tabOk rfl rfl ?_; refine ql_gyes rfl ?_; refine ql_loadB tabOk rfl rfl rfl (by repeat first | exact .head _ | refine .tail _ ?_) (by rfl) ?_; refine ql_gyes rfl ?_; refine ql_eqlT tabOk rfl rfl rfl (by omega) ?_; (iterate 2 refine ql_pure tabOk rfl rfl ?_); refine ql_gyes rfl ?_; refine ql_pure tabOk rfl rfl ?_; refine ql_gyes rfl ?_; refine ql_loadB tabOk rfl rfl rfl (by repeat first | exact .head _ | refine .tail _ ?_) (by rfl) ?_; refine ql_gyes rfl ?_; refine ql_pure tabOk rfl rfl ?_; refine ql_gyes rfl ?_; refine ql_loadB tabOk rfl rfl rfl (by repeat first | exact .head _ | refine .tail _ ?_) (by rfl) ?_; refine ql_gyes rfl ?_; refine ql_eqlT tabOk rfl rfl rfl (by omega) ?_; (iterate 2 refine ql_pure tabOk rfl rfl ?_); refine ql_gyes rfl ?_; refine ql_pure tabOk rfl rfl ?_; refine ql_gyes rfl ?_; refine ql_loadB tabOk rfl rfl rfl (by repeat first | exact .head _ | refine .tail _ ?_) (by rfl) ?_; refine ql_gyes rfl ?_; refine ql_pure tabOk rfl rfl ?_; refine ql_gyes rfl ?_; refine ql_loadB tabOk rfl rfl rfl (by repeat first | exact .head _ | refine .tail _ ?_) (by rfl) ?_; refine ql_gyes rfl ?_; refine ql_eqlT tabOk rfl rfl rfl (by omega) ?_; (iterate 2 refine ql_pure tabOk rfl rfl ?_); refine ql_gyes rfl ?_; refine ql_pure tabOk rfl rfl ?_; refine ql_gyes rfl ?_; refine ql_loadB tabOk rfl rfl rfl (by repeat first | exact .head _ | refine .tail _ ?_) (by rfl) ?_; refine ql_gyes rfl ?_; refine ql_pure tabOk rfl rfl ?_; refine ql_gyes rfl ?_; refine ql_loadB tabOk rfl rfl rfl (by repeat first | exact .head _ | refine .tail _ ?_) (by rfl) ?_; refine ql_gyes rfl ?_)
  refine ql_callv (val := .bool true) tabOk rfl rfl rfl rfl (fun w hs => ?_) ?_; exact eqI_ca w _ _ _ _ _ _ r.group (RdE.keep hg hs.chg0) (RdE.keep hg2 hs.chg0) (by omega)
  ((iterate 2 refine ql_pure tabOk rfl rfl ?_); refine ql_gyes rfl ?_; refine ql_pure tabOk rfl rfl ?_; refine ql_gyes rfl ?_; refine ql_loadB tabOk rfl rfl rfl (by repeat first | exact .head _ | refine .tail _ ?_) (by rfl) ?_; refine ql_gyes rfl ?_; refine ql_pure tabOk rfl rfl ?_; refine ql_gyes rfl ?_; refine ql_loadB tabOk rfl rfl rfl (by repeat first | exact .head _ | refine .tail _ ?_) (by rfl) ?_; refine ql_gyes rfl ?_)
  refine ql_callv (val := .bool true) tabOk rfl rfl rfl rfl (fun w hs => ?_) ?_; exact eqI_ca w _ _ _ _ _ _ r.drifts (RdE.keep hdr hs.chg0) (RdE.keep hdr2 hs.chg0) (by omega)
  ((iterate 2 refine ql_pure tabOk rfl rfl ?_); refine ql_gyes rfl ?_; refine ql_pure tabOk rfl rfl ?_; refine ql_gyes rfl ?_; refine ql_loadB tabOk rfl rfl rfl (by repeat first | exact .head _ | refine .tail _ ?_) (by rfl) ?_; refine ql_gyes rfl ?_; refine ql_pure tabOk rfl rfl ?_; refine ql_gyes rfl ?_; refine ql_loadB tabOk rfl rfl rfl (by repeat first | exact .head _ | refine .tail _ ?_) (by rfl) ?_; refine ql_gyes rfl ?_)
  refine ql_callv (val := .bool true) tabOk rfl rfl rfl rfl (fun w hs => ?_) ?_; exact eqI_ca w _ _ _ _ _ _ r.first (RdE.keep hf hs.chg0) (RdE.keep hf2 hs.chg0) (by omega)
  ((iterate 2 refine ql_pure tabOk rfl rfl ?_); refine ql_gyes rfl ?_; refine ql_pure tabOk rfl rfl ?_; refine ql_gyes rfl ?_; refine ql_loadB tabOk rfl rfl rfl (by repeat first | exact .head _ | refine .tail _ ?_) (by rfl) ?_; refine ql_gyes rfl ?_; refine ql_pure tabOk rfl rfl ?_; refine ql_gyes rfl ?_; refine ql_loadB tabOk rfl rfl rfl (by repeat first | exact .head _ | refine .tail _ ?_) (by rfl) ?_; refine ql_gyes rfl ?_)
  refine ql_callv (val := .bool true) tabOk rfl rfl rfl rfl (fun w hs => ?_) ?_; exact eqII_ca w _ _ _ _ _ _ r.next (hn.keep hs.chg0) (hn2.keep hs.chg0) (by omega) (fun l hl => by have := s5 l hl; omega)
  ((iterate 2 refine ql_pure tabOk rfl rfl ?_); refine q_nil ?_; refine q_ret ?_)
  refine q_fin tabOk rfl (by repeat (first | exact RVs.nil | apply RVs.tmp rfl | apply RVs.cellA rfl rfl (by repeat first | exact .head _ | refine .tail _ ?_) (by rfl) | apply RVs.cell1 rfl rfl (by repeat first | exact .head _ | refine .tail _ ?_))) fun w hs => ?_
  exact ⟨rfl, hs.chg0⟩
end Go.Proofs.Ytohlillcaadidaa

/- The plain laws of the reference: the table of values. -/
namespace Go.Proofs.Ytohlillcaadidaa
open Go Go.Eng

section
variable {r : Rg} {p : Ru}
theorem plc_idx_at (i : Nat) (hi : i < (plcL r p).length) : idxP r p (plcL r p)[i] = i := by
  have h := plcL_idx r p
  have h2 : ((plcL r p).map (idxP r p))[i]? = (List.range (plcL r p).length)[i]? := by rw [h]
  simpa [hi] using h2
theorem idx_lt {x : Plc} (h : x ∈ plcL r p) : idxP r p x < (plcL r p).length := by
  obtain ⟨i, hi, rfl⟩ := List.getElem_of_mem h
  rw [plc_idx_at i hi]
  exact hi
theorem idx_inj {x y : Plc} (hx : x ∈ plcL r p) (hy : y ∈ plcL r p) (h : idxP r p x = idxP r p y) : x = y := by
  obtain ⟨i, hi, rfl⟩ := List.getElem_of_mem hx
  obtain ⟨j, hj, rfl⟩ := List.getElem_of_mem hy
  rw [plc_idx_at i hi, plc_idx_at j hj] at h
  subst h
  rfl
/-- A table that holds some values. -/
structure TabI (r : Rg) (p : Ru) (D : Plc → Prop) (l : List Int) : Prop where
  len : l.length = (plcL r p).length
  bd : ∀ v ∈ l, 0 ≤ v ∧ v ≤ 1000000000000000
  val : ∀ x, x ∈ plcL r p → D x → l.getD (idxP r p x) 0 = valP r p x
theorem TabI.step {D D' : Plc → Prop} {l : List Int} {x : Plc} (hr : r.Right) (hp : p.Right) (h : TabI r p D l) (hx : x ∈ plcL r p) (hD : ∀ y, y ∈ plcL r p → D' y → y = x ∨ D y) : TabI r p D' (l.set (idxP r p x) (valP r p x)) := by
  refine ⟨by rw [List.length_set, h.len], fun v hv => ?_, fun y hy hd => ?_⟩
  · rcases List.mem_or_eq_of_mem_set hv with hv | rfl
    · exact h.bd v hv
    · obtain ⟨a, b, c, d⟩ := x
      obtain ⟨h1, h2, h3, h4⟩ := (plcL_mem r p a b c d).1 hx
      exact val_fine r hr p hp a b c d h2 h3 h4
  · rw [List.getD_eq_getElem?_getD, List.getElem?_set]
    split
    · rename_i he
      obtain rfl := idx_inj hx hy he
      rw [if_pos (by rw [h.len]; exact idx_lt hx)]
      rfl
    · rename_i he
      rw [← List.getD_eq_getElem?_getD]
      rcases hD y hy hd with rfl | hd
      · exact absurd rfl he
      · exact h.val y hy hd
theorem TabI.all {D : Plc → Prop} {l : List Int} (h : TabI r p D l) (hD : ∀ x ∈ plcL r p, D x) : l = (plcL r p).map (valP r p) := by
  refine List.ext_getElem (by rw [h.len]; simp) (fun i h1 h2 => ?_)
  have hi : i < (plcL r p).length := by simpa using h2
  have := h.val _ (List.getElem_mem hi) (hD _ (List.getElem_mem hi))
  rw [plc_idx_at i hi, List.getD_eq_getElem?_getD, List.getElem?_eq_getElem h1] at this
  rw [List.getElem_map]
  exact this
theorem TabI.zero {D : Plc → Prop} (hD : ∀ x, x ∈ plcL r p → ¬ D x) : TabI r p D (List.replicate (plcL r p).length 0) :=
  ⟨by simp, fun v hv => by rw [(List.mem_replicate.1 hv).2]; omega, fun x hx hd => absurd hd (hD x hx)⟩
theorem TabI.mono {D D' : Plc → Prop} {l : List Int} (h : TabI r p D l) (hD : ∀ y, y ∈ plcL r p → D' y → D y) : TabI r p D' l := ⟨h.len, h.bd, fun x hx hd => h.val x hx (hD x hx hd)⟩
/-- The situations that are done: those of later shots, of the same shot with fewer waits .. -/
def Don (sh wt st : Nat) (cl : Int) (y : Plc) : Prop := sh < y.1 ∨ y.1 = sh ∧ (y.2.1 < wt ∨ y.2.1 = wt ∧ (y.2.2.1 < st ∨ y.2.2.1 = st ∧ y.2.2.2 < cl))
theorem tab_cho {l : List Int} {sh wt st : Nat} {cl : Int} (h : TabI r p (Don sh wt st cl) l) (hx : (sh, wt, st, cl) ∈ plcL r p) : chV r p (gV r p l (sh + 1) wt) (gV r p l sh (wt - 1)) sh wt st cl = choV r p sh wt st cl := by
  obtain ⟨h1, h2, h3, h4⟩ := (plcL_mem r p sh wt st cl).1 hx
  unfold choV
  refine chV_congr r p _ _ _ _ sh wt st cl h4 (fun hs t c ht hc => ?_) (fun hw t ht => ?_)
  · exact h.val (sh + 1, wt, t, c) ((plcL_mem r p _ _ _ _).2 ⟨by omega, h2, ht, hc⟩) (.inl (by simp only; omega))
  · exact h.val (sh, wt - 1, t, cl) ((plcL_mem r p _ _ _ _).2 ⟨h1, by omega, ht, h4⟩) (.inr ⟨rfl, .inl (by simp only; omega)⟩)
theorem tab_full {sh wt st : Nat} {cl : Int} (hr : r.Right) (hp : p.Right) (hx : (sh, wt, st, cl) ∈ plcL r p) : chV r p (gV r p ((plcL r p).map (valP r p)) (sh + 1) wt) (gV r p ((plcL r p).map (valP r p)) sh (wt - 1)) sh wt st cl = choV r p sh wt st cl := by
  refine tab_cho ⟨by simp, fun v hv => ?_, fun x hx _ => ?_⟩ hx
  · obtain ⟨⟨a, b, c, d⟩, hm, rfl⟩ := List.mem_map.1 hv
    obtain ⟨h1, h2, h3, h4⟩ := (plcL_mem r p a b c d).1 hm
    exact val_fine r hr p hp a b c d h2 h3 h4
  · have hi := idx_lt hx
    obtain ⟨i, hi2, rfl⟩ := List.getElem_of_mem hx
    rw [plc_idx_at i hi2]
    simp [List.getD_eq_getElem?_getD, hi2]
end
end Go.Proofs.Ytohlillcaadidaa

/- Walks of the reference: rules, and the best choice of a situation. -/
namespace Go.Proofs.Ytohlillcaadidaa
open Go Go.Eng

abbrev ruV (p : Ru) : Value := .agg #[.int .i64 p.miss, .int .i64 p.click, .int .i64 p.wait, .int .i64 p.waits]
theorem rruled_ca (w : World) (cs : List Value) (r : Rg) (p : Ru) (h : RgC w cs r) (hsm : r.Small) : Ca Try.prog 20 [.agg cs.toArray, ruV p] w fun v w' => v = .int .i64 (rulesV r p) ∧ Chg [] w w' := by
  have h0 := h
  obtain ⟨lo, hi, ag, cg, ad, cd, af, cf, an, cn, rfl, hg, hdr, hf, hn⟩ := h
  refine q_of (Sat.nil w M0) Try.func20 rfl (by simp [Try.ntmps20]) ?_
  (refine q_seq ?_; refine q_region ?_)
  refine ql_box rfl rfl (fun b2 => ?_)
  refine ql_box rfl rfl (fun b3 => ?_)
  (refine ql_pure tabOk rfl rfl ?_; refine q_nil ?_; (iterate 2 refine q_seq ?_); refine q_region ?_; refine ql_loadAB tabOk rfl rfl rfl (by repeat first | exact .head _ | refine .tail _ ?_) (by rfl) (by rfl) ?_)
  refine ql_callv (val := .int .i64 (checkV r)) tabOk rfl rfl rfl rfl (fun w hs => ?_) ?_; exact rcheck_ca w _ r (h0.keep hs.chg0) hsm
  (refine ql_pure tabOk rfl rfl ?_; refine q_nil ?_; refine q_seq ?_; refine q_region ?_; (iterate 2 refine ql_pure tabOk rfl rfl ?_); refine q_nil ?_)
  refine q_ifn rfl (fun hc => ?_) (fun hc => ?_)
  · (refine q_seq ?_; refine q_region ?_; (iterate 2 refine ql_pure tabOk rfl rfl ?_); refine q_nil ?_; refine q_ret ?_)
    refine q_fin tabOk rfl (by repeat (first | exact RVs.nil | apply RVs.tmp rfl | apply RVs.cellA rfl rfl (by repeat first | exact .head _ | refine .tail _ ?_) (by rfl) | apply RVs.cell1 rfl rfl (by repeat first | exact .head _ | refine .tail _ ?_))) fun w hs => ?_
    exact ⟨by rw [rulesV, if_pos hc]; rfl, hs.chg0⟩
  have hck : checkV r = 0 := by simpa using hc
  clear hc
  (refine q_skip ?_; (iterate 2 refine q_seq ?_); refine q_region ?_; refine ql_pure tabOk rfl rfl ?_; refine ql_loadB tabOk rfl rfl rfl (by repeat first | exact .head _ | refine .tail _ ?_) (by rfl) ?_)
  refine ql_callv (val := .bool (!(inB p.miss 0 6000))) tabOk rfl rfl rfl rfl (fun w hs => ?_) ?_; exact off_ca p.miss 0 6000 w
  (refine ql_pure tabOk rfl rfl ?_)
  cases c1 : inB p.miss 0 6000 with
  | false =>
    ((iterate 3 refine ql_gno rfl rfl rfl ?_); (iterate 2 refine ql_pure tabOk rfl rfl ?_); (iterate 3 refine ql_gno rfl rfl rfl ?_); (iterate 2 refine ql_pure tabOk rfl rfl ?_); (iterate 3 refine ql_gno rfl rfl rfl ?_); refine ql_pure tabOk rfl rfl ?_; refine q_nil ?_; refine q_cond_true rfl ?_; refine q_seq ?_; refine q_region ?_; refine ql_pure tabOk rfl rfl ?_; refine q_nil ?_; refine q_ret ?_)
    refine q_fin tabOk rfl (by repeat (first | exact RVs.nil | apply RVs.tmp rfl | apply RVs.cellA rfl rfl (by repeat first | exact .head _ | refine .tail _ ?_) (by rfl) | apply RVs.cell1 rfl rfl (by repeat first | exact .head _ | refine .tail _ ?_))) fun w hs => ?_
    exact ⟨by simp [rulesV, hck, c1, retV], hs.chg0⟩
  | true =>
  (refine ql_gyes rfl ?_; refine ql_pure tabOk rfl rfl ?_; refine ql_gyes rfl ?_; refine ql_loadB tabOk rfl rfl rfl (by repeat first | exact .head _ | refine .tail _ ?_) (by rfl) ?_; refine ql_gyes rfl ?_)
  refine ql_callv (val := .bool (!(inB p.click 0 600))) tabOk rfl rfl rfl rfl (fun w hs => ?_) ?_; exact off_ca p.click 0 600 w
  ((iterate 2 refine ql_pure tabOk rfl rfl ?_))
  cases c2 : inB p.click 0 600 with
  | false =>
    ((iterate 3 refine ql_gno rfl rfl rfl ?_); (iterate 2 refine ql_pure tabOk rfl rfl ?_); (iterate 3 refine ql_gno rfl rfl rfl ?_); refine ql_pure tabOk rfl rfl ?_; refine q_nil ?_; refine q_cond_true rfl ?_; refine q_seq ?_; refine q_region ?_; refine ql_pure tabOk rfl rfl ?_; refine q_nil ?_; refine q_ret ?_)
    refine q_fin tabOk rfl (by repeat (first | exact RVs.nil | apply RVs.tmp rfl | apply RVs.cellA rfl rfl (by repeat first | exact .head _ | refine .tail _ ?_) (by rfl) | apply RVs.cell1 rfl rfl (by repeat first | exact .head _ | refine .tail _ ?_))) fun w hs => ?_
    exact ⟨by simp [rulesV, hck, c1, c2, retV], hs.chg0⟩
  | true =>
  (refine ql_gyes rfl ?_; refine ql_pure tabOk rfl rfl ?_; refine ql_gyes rfl ?_; refine ql_loadB tabOk rfl rfl rfl (by repeat first | exact .head _ | refine .tail _ ?_) (by rfl) ?_; refine ql_gyes rfl ?_)
  refine ql_callv (val := .bool (!(inB p.wait 0 600))) tabOk rfl rfl rfl rfl (fun w hs => ?_) ?_; exact off_ca p.wait 0 600 w
  ((iterate 2 refine ql_pure tabOk rfl rfl ?_))
  cases c3 : inB p.wait 0 600 with
  | false =>
    ((iterate 3 refine ql_gno rfl rfl rfl ?_); refine ql_pure tabOk rfl rfl ?_; refine q_nil ?_; refine q_cond_true rfl ?_; refine q_seq ?_; refine q_region ?_; refine ql_pure tabOk rfl rfl ?_; refine q_nil ?_; refine q_ret ?_)
    refine q_fin tabOk rfl (by repeat (first | exact RVs.nil | apply RVs.tmp rfl | apply RVs.cellA rfl rfl (by repeat first | exact .head _ | refine .tail _ ?_) (by rfl) | apply RVs.cell1 rfl rfl (by repeat first | exact .head _ | refine .tail _ ?_))) fun w hs => ?_
    exact ⟨by simp [rulesV, hck, c1, c2, c3, retV], hs.chg0⟩
  | true =>
  (refine ql_gyes rfl ?_; refine ql_pure tabOk rfl rfl ?_; refine ql_gyes rfl ?_; refine ql_loadB tabOk rfl rfl rfl (by repeat first | exact .head _ | refine .tail _ ?_) (by rfl) ?_; refine ql_gyes rfl ?_)
  refine ql_callv (val := .bool (!(inB p.waits 0 3))) tabOk rfl rfl rfl rfl (fun w hs => ?_) ?_; exact off_ca p.waits 0 3 w
  (refine ql_pure tabOk rfl rfl ?_; refine q_nil ?_)
  cases c4 : inB p.waits 0 3 with
  | false =>
    (refine q_cond_true rfl ?_; refine q_seq ?_; refine q_region ?_; refine ql_pure tabOk rfl rfl ?_; refine q_nil ?_; refine q_ret ?_)
    refine q_fin tabOk rfl (by repeat (first | exact RVs.nil | apply RVs.tmp rfl | apply RVs.cellA rfl rfl (by repeat first | exact .head _ | refine .tail _ ?_) (by rfl) | apply RVs.cell1 rfl rfl (by repeat first | exact .head _ | refine .tail _ ?_))) fun w hs => ?_
    exact ⟨by simp [rulesV, hck, c1, c2, c3, c4, retV], hs.chg0⟩
  | true =>
  (refine q_cond_false rfl ?_; refine q_skip ?_; refine q_seq ?_; refine q_region ?_; refine ql_pure tabOk rfl rfl ?_; refine q_nil ?_; refine q_ret ?_)
  refine q_fin tabOk rfl (by repeat (first | exact RVs.nil | apply RVs.tmp rfl | apply RVs.cellA rfl rfl (by repeat first | exact .head _ | refine .tail _ ?_) (by rfl) | apply RVs.cell1 rfl rfl (by repeat first | exact .head _ | refine .tail _ ?_))) fun w hs => ?_
  exact ⟨by simp [rulesV, hck, c1, c2, c3, c4, retV], hs.chg0⟩

theorem idxP_int {r : Rg} {p : Ru} (hr : r.Right) (hp : p.Right) (sh wt st : Nat) (cl : Int) (hc : -r.clicks ≤ cl ∧ cl ≤ r.clicks) : ((idxP r p (sh, wt, st, cl) : Nat) : Int) = (((sh : Int) * (p.waits + 1) + wt) * r.drifts.length + st) * (2 * r.clicks + 1) + cl + r.clicks := by
  have h1 := hp.waits
  have h2 := hr.clicks
  have e1 : (((p.waits + 1).toNat : Nat) : Int) = p.waits + 1 := Int.toNat_of_nonneg (by omega)
  have e2 : (((2 * r.clicks + 1).toNat : Nat) : Int) = 2 * r.clicks + 1 := Int.toNat_of_nonneg (by omega)
  have e3 : (((cl + r.clicks).toNat : Nat) : Int) = cl + r.clicks := Int.toNat_of_nonneg (by omega)
  unfold idxP
  simp only [Int.natCast_add, Int.natCast_mul, e1, e2, e3]
  omega
theorem at_ca (w : World) (cs : List Value) (r : Rg) (p : Ru) (sh wt st : Nat) (cl : Int) (h : RgC w cs r) (hr : r.Right) (hp : p.Right) (hs4 : sh ≤ 4) (hw : (wt : Int) ≤ p.waits) (hst : st < r.drifts.length) (hcl : -r.clicks ≤ cl ∧ cl ≤ r.clicks) :
    Ca Try.prog 86 [.agg cs.toArray, ruV p, .int .i64 sh, .int .i64 wt, .int .i64 st, .int .i64 cl] w fun v w' => v = .int .i64 ((idxP r p (sh, wt, st, cl) : Nat) : Int) ∧ Chg [] w w' := by
  have h0 := h
  obtain ⟨lo, hi, ag, cg, ad, cd, af, cf, an, cn, rfl, hg, hdr, hf, hn⟩ := h
  have hwa := hp.waits
  have hC := hr.clicks
  have hd2 := hr.d2
  have m1 := mul_bd0 (A := 4) (B := 4) (show 0 ≤ (sh : Int) ∧ (sh : Int) ≤ 4 by omega) (show 0 ≤ p.waits + 1 ∧ p.waits + 1 ≤ 4 by omega)
  have m2 := mul_bd0 (A := 19) (B := 5) (show 0 ≤ (sh : Int) * (p.waits + 1) + wt ∧ (sh : Int) * (p.waits + 1) + wt ≤ 19 by omega) (show 0 ≤ (r.drifts.length : Int) ∧ (r.drifts.length : Int) ≤ 5 by omega)
  have m3 := mul_bd0 (A := 100) (B := 13) (show 0 ≤ ((sh : Int) * (p.waits + 1) + wt) * r.drifts.length + st ∧ ((sh : Int) * (p.waits + 1) + wt) * r.drifts.length + st ≤ 100 by omega) (show 0 ≤ 2 * r.clicks + 1 ∧ 2 * r.clicks + 1 ≤ 13 by omega)
  refine q_of (Sat.nil w M0) Try.func86 rfl (by simp [Try.ntmps86]) ?_
  (refine q_seq ?_; refine q_region ?_)
  refine ql_box rfl rfl (fun b6 => ?_)
  refine ql_box rfl rfl (fun b7 => ?_)
  (refine ql_pure tabOk rfl rfl ?_; refine q_nil ?_; refine q_seq ?_; refine q_region ?_; (iterate 2 refine ql_pure tabOk rfl rfl ?_); refine ql_loadB tabOk rfl rfl rfl (by repeat first | exact .head _ | refine .tail _ ?_) (by rfl) ?_; (iterate 2 refine ql_ar tabOk rfl rfl rfl rfl (by omega) (by omega) ?_); refine ql_pure tabOk rfl rfl ?_; refine ql_ar tabOk rfl rfl rfl rfl (by omega) (by omega) ?_; refine ql_pure tabOk rfl rfl ?_; refine ql_loadB tabOk rfl rfl rfl (by repeat first | exact .head _ | refine .tail _ ?_) (by rfl) ?_; refine ql_pure tabOk rfl rfl ?_; refine ql_ar tabOk rfl rfl rfl rfl (by omega) (by omega) ?_; refine ql_pure tabOk rfl rfl ?_; refine ql_ar tabOk rfl rfl rfl rfl (by omega) (by omega) ?_; refine ql_pure tabOk rfl rfl ?_; refine ql_loadB tabOk rfl rfl rfl (by repeat first | exact .head _ | refine .tail _ ?_) (by rfl) ?_; (iterate 3 refine ql_ar tabOk rfl rfl rfl rfl (by omega) (by omega) ?_); refine ql_pure tabOk rfl rfl ?_; refine ql_ar tabOk rfl rfl rfl rfl (by omega) (by omega) ?_; refine ql_pure tabOk rfl rfl ?_; refine ql_loadB tabOk rfl rfl rfl (by repeat first | exact .head _ | refine .tail _ ?_) (by rfl) ?_; refine ql_ar tabOk rfl rfl rfl rfl (by omega) (by omega) ?_; refine ql_pure tabOk rfl rfl ?_; refine q_nil ?_; refine q_ret ?_)
  refine q_fin tabOk rfl (by repeat (first | exact RVs.nil | apply RVs.tmp rfl | apply RVs.cellA rfl rfl (by repeat first | exact .head _ | refine .tail _ ?_) (by rfl) | apply RVs.cell1 rfl rfl (by repeat first | exact .head _ | refine .tail _ ?_))) fun w hs => ?_
  exact ⟨by rw [idxP_int hr hp sh wt st cl hcl]; rfl, hs.chg0⟩

theorem plc_in {r : Rg} {p : Ru} (sh wt st : Nat) (cl : Int) (h1 : sh < 5) (h2 : (wt : Int) ≤ p.waits) (h3 : st < r.drifts.length) (h4 : -r.clicks ≤ cl ∧ cl ≤ r.clicks) : (sh, wt, st, cl) ∈ plcL r p := (plcL_mem r p _ _ _ _).2 ⟨h1, h2, h3, h4⟩
/-- A list of values: as many as there are situations, none beyond the bound. -/
structure ValL (r : Rg) (p : Ru) (l : List Int) : Prop where
  len : l.length = (plcL r p).length
  bd : ∀ v ∈ l, 0 ≤ v ∧ v ≤ 1000000000000000
theorem ValL.at {r : Rg} {p : Ru} {l : List Int} (h : ValL r p l) (sh wt st : Nat) (cl : Int) : 0 ≤ gV r p l sh wt st cl ∧ gV r p l sh wt st cl ≤ 1000000000000000 := by
  unfold gV
  generalize idxP r p (sh, wt, st, cl) = i
  by_cases hi : i < l.length
  · rw [List.getD_eq_getElem?_getD, List.getElem?_eq_getElem hi, Option.getD_some]
    exact h.bd _ (List.getElem_mem hi)
  · rw [List.getD_eq_getElem?_getD, List.getElem?_eq_none (by omega)]
    simp
/-- The sum behind a shot, so far. -/
def folP (r : Rg) (p : Ru) (l : List Int) (sh wt st : Nat) (cl : Int) (k : Nat) : Int := sumR (fun t => (r.next.getD st []).getD t 0 * gV r p l sh wt t cl) k
theorem folP_bd {r : Rg} {p : Ru} {l : List Int} (hr : r.Right) (h : ValL r p l) (sh wt st : Nat) (cl : Int) (k : Nat) (hk : k ≤ r.drifts.length) : 0 ≤ folP r p l sh wt st cl k ∧ folP r p l sh wt st cl k ≤ 60000000000000000 := by
  have h1 := fol_bd r hr (fun t => gV r p l sh wt t cl) 1000000000000000 (fun t _ => h.at sh wt t cl) st k hk
  have h2 := hr.d2
  have : 12 * 1000000000000000 * (k : Int) ≤ 60000000000000000 := by omega
  unfold folP
  omega
theorem parts_ring {r : Rg} (hr : r.Right) (a f m : Int) (sh wt : Nat) : (a * f * r.group.sum + m) * r.total ^ (4 - sh + wt) = a * f * partsV r sh wt + m * (partsV r sh wt / r.group.sum) := by
  rw [parts_div r hr, partsV, Int.add_mul, Int.mul_assoc (a * f)]

set_option maxHeartbeats 4000000 in
theorem shoots_ca (w : World) (l0 h1 : Nat) (cs : List Value) (r : Rg) (p : Ru) (vl : Value) (l : List Int) (sh wt st : Nat) (cl click : Int) (h : RgC w cs r) (hr : r.Right) (hp : p.Right) (hl : RdI w l0 h1 vl l) (hv : ValL r p l) (hs4 : sh ≤ 4) (hw : (wt : Int) ≤ p.waits) (hst : st < r.drifts.length) (hcl : -r.clicks ≤ cl ∧ cl ≤ r.clicks) (hck : -r.clicks ≤ click ∧ click ≤ r.clicks) :
    Ca Try.prog 134 [.agg cs.toArray, ruV p, vl, .int .i64 sh, .int .i64 wt, .int .i64 st, .int .i64 cl, .int .i64 click] w fun v w' => v = .int .i64 (shootV r p (gV r p l (sh + 1) wt) sh wt st cl click) ∧ Chg [] w w' := by
  have h0 := h
  obtain ⟨lo, hi, ag, cg, ad, cd, af, cf, an, cn, rfl, hg, hdr, hf, hn⟩ := h
  obtain ⟨_, _, hsl, hsd⟩ := RdI.outI hdr
  cases hsl
  obtain ⟨_, _, hsl, hsn⟩ := RdII.outI hn
  cases hsl
  obtain ⟨la, lc, rfl, hsl⟩ := RdI.outI hl
  obtain ⟨bd, od, rfl⟩ := hsd (by omega)
  have hwa := hp.waits
  have hpc := hp.click
  have hpm := hp.miss
  have hC := hr.clicks
  have hd2 := hr.d2
  have hg2 := hr.g2
  have hgs := hr.gsum
  have hnl := hr.next
  have hdb := hr.drift r.drifts[st] (List.getElem_mem hst)
  have hms := missS_bd r hr r.drifts[st] click
  have hgd : r.drifts.getD st 0 = r.drifts[st] := by simp [List.getD_eq_getElem?_getD, hst]
  obtain ⟨f, hf0⟩ : ∃ f, f = max (click - cl) (cl - click) := ⟨_, rfl⟩
  have hfb : 0 ≤ f ∧ f ≤ 12 := by omega
  have m1 := mul_bd0 (A := 600) (B := 12) hpc hfb
  have m2 := mul_bd0 (A := 7200) (B := 100) (show 0 ≤ p.click * f ∧ p.click * f ≤ 7200 by omega) (show 0 ≤ r.group.sum ∧ r.group.sum ≤ 100 by omega)
  have m3 := mul_bd0 (A := 6000) (B := 100) hpm (show 0 ≤ missS r r.drifts[st] click ∧ missS r r.drifts[st] click ≤ 100 by omega)
  have hT := tot8 r hr (4 - sh + wt) (by omega)
  have m4 := mul_bd0 (A := 1320000) (B := 429981696) (show 0 ≤ p.click * f * r.group.sum + p.miss * missS r r.drifts[st] click ∧ p.click * f * r.group.sum + p.miss * missS r r.drifts[st] click ≤ 1320000 by omega) (show 0 ≤ r.total ^ (4 - sh + wt) ∧ r.total ^ (4 - sh + wt) ≤ 429981696 by omega)
  have hsv : shootV r p (gV r p l (sh + 1) wt) sh wt st cl click = (p.click * f * r.group.sum + p.miss * missS r r.drifts[st] click) * r.total ^ (4 - sh + wt) + (if sh < 4 then folP r p l (sh + 1) wt st click r.drifts.length else 0) := by
    rw [parts_ring hr]
    unfold shootV folS folP
    rw [hgd, hf0]
  obtain ⟨B, hB⟩ : ∃ B, B = (p.click * f * r.group.sum + p.miss * missS r r.drifts[st] click) * r.total ^ (4 - sh + wt) := ⟨_, rfl⟩
  rw [hsv]
  refine q_of (Sat.nil w M0) Try.func134 rfl (by simp [Try.ntmps134]) ?_
  (refine q_seq ?_; refine q_region ?_)
  refine ql_box rfl rfl (fun b8 => ?_)
  refine ql_box rfl rfl (fun b9 => ?_)
  (refine ql_pure tabOk rfl rfl ?_; refine q_nil ?_; refine q_seq ?_; refine q_region ?_; (iterate 2 refine ql_pure tabOk rfl rfl ?_); refine ql_ar tabOk rfl rfl rfl rfl (by omega) (by omega) ?_; refine ql_pure tabOk rfl rfl ?_; refine q_nil ?_; (iterate 2 refine q_seq ?_); refine q_region ?_; (iterate 2 refine ql_pure tabOk rfl rfl ?_); refine q_nil ?_)
  refine q_cut (σ := Unit) (fun _ => [(2, .slice la l.length lc), (3, .int .i64 sh), (4, .int .i64 wt), (5, .int .i64 st), (7, .int .i64 click), (8, .pointer (some ⟨b8, 0, none⟩)), (9, .pointer (some ⟨b9, 0, none⟩)), (17, .int .i64 f)]) (fun _ => [.pt b8 [.int .i64 r.radius, .int .i64 r.unit, .int .i64 r.clicks, .int .i64 r.total, .slice ag r.group.length cg, .slice (some ⟨bd, od, none⟩) r.drifts.length cd, .slice af r.first.length cf, .slice an r.next.length cn] 32, .pt b9 [.int .i64 p.miss, .int .i64 p.click, .int .i64 p.wait, .int .i64 p.waits] 33]) ?_ (fun K2 hK2 => ?_)
  rotate_left
  · refine q_if rfl (fun hc => ?_) (fun hc => ?_)
    · (refine q_region ?_; refine ql_pure tabOk rfl rfl ?_; refine ql_neg tabOk rfl rfl (by omega) (by omega) ?_; refine ql_pure tabOk rfl rfl ?_; refine q_nil ?_)
      exact hK2 () _ _ ⟨rfl, rfl, rfl, rfl, rfl, rfl, rfl, lookI rfl (by omega), trivial⟩ (by repeat (first | exact Sp.nil | exact Sp.refl _ | refine Sp.cons (by repeat constructor) ?_))
    · (refine q_skip ?_)
      exact hK2 () _ _ ⟨rfl, rfl, rfl, rfl, rfl, rfl, rfl, lookI rfl (by omega), trivial⟩ (by repeat (first | exact Sp.nil | exact Sp.refl _ | refine Sp.cons (by repeat constructor) ?_))
  rintro ⟨⟩
  (refine q_seq ?_)
  refine q_draw _ [] (Sp.refl _) (by kernel_rfl) (by kernel_rfl) ?_
  (refine qf_pure tabOk rfl rfl rfl ?_; refine qf_loadB tabOk rfl rfl rfl (by repeat first | exact .head _ | refine .tail _ ?_) (by rfl) ?_; refine qf_pure tabOk rfl rfl rfl ?_; refine qf_ar tabOk rfl rfl rfl rfl (by omega) (by omega) ?_; refine qf_pure tabOk rfl rfl rfl ?_; refine qf_loadB tabOk rfl rfl rfl (by repeat first | exact .head _ | refine .tail _ ?_) (by rfl) ?_)
  refine qf_callv (val := .int .i64 r.group.sum) tabOk rfl rfl rfl rfl (fun w hs => ?_) ?_; exact rtotal_ca w lo hi _ r.group (RdE.keep hg hs.chg0) (by omega) (fun x hx => by have := hr.weight x hx; omega)
  (refine qf_ar tabOk rfl rfl rfl rfl (by omega) (by omega) ?_; refine qf_pure tabOk rfl rfl rfl ?_; refine qf_loadB tabOk rfl rfl rfl (by repeat first | exact .head _ | refine .tail _ ?_) (by rfl) ?_; refine qf_loadAB tabOk rfl rfl rfl (by repeat first | exact .head _ | refine .tail _ ?_) (by rfl) (by rfl) ?_; refine qf_pure tabOk rfl rfl rfl ?_; refine qf_loadB tabOk rfl rfl rfl (by repeat first | exact .head _ | refine .tail _ ?_) (by rfl) ?_; refine qf_pure tabOk rfl rfl rfl ?_)
  (refine qf_index tabOk rfl rfl rfl rfl rfl (by omega) (by omega) ?_; refine qf_load1 tabOk rfl rfl rfl (fun w hs => RdI.at (RdE.keep hdr hs.chg0) st hst) ?_)
  (refine qf_pure tabOk rfl rfl rfl ?_)
  refine qf_callv (val := .int .i64 (missS r r.drifts[st] click)) tabOk rfl rfl rfl rfl (fun w hs => ?_) ?_; exact misses_ca w _ r _ click (h0.keep hs.chg0) hr (by omega) (by omega)
  ((iterate 2 refine qf_ar tabOk rfl rfl rfl rfl (by omega) (by omega) ?_); refine qf_loadAB tabOk rfl rfl rfl (by repeat first | exact .head _ | refine .tail _ ?_) (by rfl) (by rfl) ?_; refine qf_pure tabOk rfl rfl rfl ?_; refine qf_ar tabOk rfl rfl rfl rfl (by omega) (by omega) ?_; refine qf_pure tabOk rfl rfl rfl ?_; refine qf_ar tabOk rfl rfl rfl rfl (by omega) (by omega) ?_)
  refine qf_callv (val := .int .i64 (r.total ^ (4 - sh + wt))) tabOk rfl rfl rfl rfl (fun w hs => ?_) ?_; exact by have := power_ca w _ r (4 - sh + wt) (h0.keep hs.chg0) hr (by omega); rw [show ((4 - sh + wt : Nat) : Int) = 4 - (sh : Int) + (wt : Int) by omega] at this; exact this
  (refine qf_ar tabOk rfl rfl rfl rfl (by omega) (by omega) ?_; refine qf_pure tabOk rfl rfl rfl ?_; refine qf_nil ?_; (iterate 2 refine q_seq ?_); refine q_region ?_; refine ql_pure tabOk rfl rfl ?_; refine q_nil ?_; refine q_block ?_)
  rw [← hB] at m4 ⊢
  refine q_loop (σ := Nat) (fun t => t ≤ r.drifts.length ∧ (t = 0 ∨ sh < 4)) (fun t => r.drifts.length - t) (fun t => [(2, .slice la l.length lc), (3, .int .i64 sh), (4, .int .i64 wt), (5, .int .i64 st), (7, .int .i64 click), (8, .pointer (some ⟨b8, 0, none⟩)), (9, .pointer (some ⟨b9, 0, none⟩)), (18, .int .i64 (B + folP r p l (sh + 1) wt st click t)), (19, .int .i64 t)])
    (fun _ => [.pt b8 [.int .i64 r.radius, .int .i64 r.unit, .int .i64 r.clicks, .int .i64 r.total, .slice ag r.group.length cg, .slice (some ⟨bd, od, none⟩) r.drifts.length cd, .slice af r.first.length cf, .slice an r.next.length cn] 32, .pt b9 [.int .i64 p.miss, .int .i64 p.click, .int .i64 p.wait, .int .i64 p.waits] 33]) 0 ⟨by omega, .inl rfl⟩ ⟨rfl, rfl, rfl, rfl, rfl, rfl, rfl, by simp [folP, sumR]; rfl, rfl, trivial⟩ (by repeat (first | exact Sp.nil | exact Sp.refl _ | refine Sp.cons (by repeat constructor) ?_)) ?_
  rintro t ⟨ht, ht4⟩ K hK
  ((iterate 2 refine q_seq ?_); refine q_region ?_; (iterate 2 refine ql_pure tabOk rfl rfl ?_); refine ql_loadB tabOk rfl rfl rfl (by repeat first | exact .head _ | refine .tail _ ?_) (by rfl) ?_; (iterate 3 refine ql_pure tabOk rfl rfl ?_))
  refine ql_split rfl rfl (fun hc => ?_) (fun hc => ?_)
  · have ht2 : t < r.drifts.length := by simp at hc; omega
    clear hc
    (refine ql_gyes rfl ?_; refine ql_pure tabOk rfl rfl ?_; refine ql_gyes rfl ?_; (iterate 2 refine ql_pure tabOk rfl rfl ?_); refine q_nil ?_)
    refine q_if rfl (fun hc => ?_) (fun hc => ?_)
    · have hs3 : sh < 4 := by omega
      clear hc
      have hstn : st < r.next.length := by omega
      obtain ⟨bn, on, rfl⟩ := hsn (by omega)
      obtain ⟨ar, cr, hrow, hcell⟩ := hn.row st hstn
      have hrl := hr.rows _ (List.getElem_mem hstn)
      have hgn : r.next.getD st [] = r.next[st] := by simp [List.getD_eq_getElem?_getD, hstn]
      have hix := idx_lt (plc_in (r := r) (p := p) (sh + 1) wt t click (by omega) hw ht2 hck)
      rw [← hv.len] at hix
      have hga : gV r p l (sh + 1) wt t click = l[idxP r p (sh + 1, wt, t, click)] := by unfold gV; simp [List.getD_eq_getElem?_getD, hix]
      have hgb := hv.at (sh + 1) wt t click
      have hst1 : folP r p l (sh + 1) wt st click (t + 1) = folP r p l (sh + 1) wt st click t + r.next[st].getD t 0 * gV r p l (sh + 1) wt t click := by rw [folP, sumR, hgn]; simp only [folP, hgn]
      have hfb1 := folP_bd hr hv (sh + 1) wt st click (t + 1) (by omega)
      have hfb0 := folP_bd hr hv (sh + 1) wt st click t (by omega)
      rw [hst1] at hfb1
      have hnb : 0 ≤ r.next[st].getD t 0 ∧ r.next[st].getD t 0 ≤ 12 := by have := next_bd2 hr st t; rw [hgn] at this; exact this
      have mm := mul_bd0 hnb hgb
      generalize hrw : r.next[st] = row at hrow hcell hrl hst1 hfb1 hnb mm
      have htr : t < row.length := by omega
      have hgr : row.getD t 0 = row[t] := by simp [List.getD_eq_getElem?_getD, htr]
      rw [hgr] at hst1 hfb1 mm
      obtain ⟨_, _, hsl2, hsr⟩ := RdI.outI hrow
      cases hsl2
      obtain ⟨br, offr, rfl⟩ := hsr (by omega)
      obtain ⟨bl, ol, rfl⟩ := hsl (by omega)
      rw [hga] at hst1 hfb1 mm
      (refine q_skip ?_; refine q_seq ?_; refine q_block ?_)
      refine q_draw _ [] (Sp.refl _) (by kernel_rfl) (by kernel_rfl) ?_
      ((iterate 2 refine qf_pure tabOk rfl rfl rfl ?_); refine qf_loadB tabOk rfl rfl rfl (by repeat first | exact .head _ | refine .tail _ ?_) (by rfl) ?_; refine qf_pure tabOk rfl rfl rfl ?_)
      refine qf_index tabOk rfl rfl rfl rfl rfl (by omega) (by omega) ?_
      refine qf_load1 (v := .slice (some ⟨br, offr, none⟩) row.length cr) tabOk rfl rfl rfl (fun w' hs => hcell w' hs.chg0) ?_
      (refine qf_pure tabOk rfl rfl rfl ?_)
      (refine qf_index tabOk rfl rfl rfl rfl rfl (by omega) (by omega) ?_; refine qf_load1 tabOk rfl rfl rfl (fun w hs => RdI.at (RdE.keep hrow hs.chg0) t htr) ?_)
      (refine qf_pure tabOk rfl rfl rfl ?_; (iterate 2 refine qf_loadAB tabOk rfl rfl rfl (by repeat first | exact .head _ | refine .tail _ ?_) (by rfl) (by rfl) ?_); refine qf_pure tabOk rfl rfl rfl ?_; refine qf_ar tabOk rfl rfl rfl rfl (by omega) (by omega) ?_; (iterate 3 refine qf_pure tabOk rfl rfl rfl ?_))
      refine qf_callv (val := .int .i64 ((idxP r p (sh + 1, wt, t, click) : Nat) : Int)) tabOk rfl rfl rfl rfl (fun w hs => ?_) ?_; exact at_ca w _ r p (sh + 1) wt t click (h0.keep hs.chg0) hr hp (by omega) hw ht2 hck
      skip
      (refine qf_index tabOk rfl rfl rfl rfl rfl (by omega) (by omega) ?_; refine qf_load1 tabOk rfl rfl rfl (fun w hs => RdI.at (RdE.keep hl hs.chg0) (idxP r p (sh + 1, wt, t, click)) hix) ?_)
      ((iterate 2 refine qf_ar tabOk rfl rfl rfl rfl (by omega) (by omega) ?_); refine qf_pure tabOk rfl rfl rfl ?_; refine qf_nil ?_; refine q_blk ?_; refine q_region ?_; refine ql_pure tabOk rfl rfl ?_; refine ql_ar tabOk rfl rfl rfl rfl (by omega) (by omega) ?_; refine ql_pure tabOk rfl rfl ?_; refine q_nil ?_)
      exact hK (t + 1) _ _ ⟨by omega, .inr hs3⟩ (by omega) ⟨rfl, rfl, rfl, rfl, rfl, rfl, rfl, by rw [hst1, ← Int.add_assoc]; rfl, rfl, trivial⟩ (by repeat (first | exact Sp.nil | exact Sp.refl _ | refine Sp.cons (by repeat constructor) ?_))
    · have hs3 : ¬ sh < 4 := by omega
      obtain rfl : t = 0 := by omega
      rw [if_neg hs3]
      (refine q_exit _ rfl ?_; refine q_seq ?_; refine q_region ?_; (iterate 2 refine ql_pure tabOk rfl rfl ?_); refine q_nil ?_; refine q_ret ?_)
      refine q_fin tabOk rfl (by repeat (first | exact RVs.nil | apply RVs.tmp rfl | apply RVs.cellA rfl rfl (by repeat first | exact .head _ | refine .tail _ ?_) (by rfl) | apply RVs.cell1 rfl rfl (by repeat first | exact .head _ | refine .tail _ ?_))) fun w hs => ?_
      exact ⟨by simp only [folP, sumR]; rfl, hs.chg0⟩
  · obtain rfl : t = r.drifts.length := by simp at hc; omega
    have hs3 : sh < 4 := by have := hr.d1; omega
    rw [if_pos hs3]
    ((iterate 2 refine ql_gno rfl rfl rfl ?_); refine ql_pure tabOk rfl rfl ?_; refine q_nil ?_; refine q_cond_false rfl ?_; refine q_exit _ rfl ?_; refine q_seq ?_; refine q_region ?_; (iterate 2 refine ql_pure tabOk rfl rfl ?_); refine q_nil ?_; refine q_ret ?_)
    refine q_fin tabOk rfl (by repeat (first | exact RVs.nil | apply RVs.tmp rfl | apply RVs.cellA rfl rfl (by repeat first | exact .head _ | refine .tail _ ?_) (by rfl) | apply RVs.cell1 rfl rfl (by repeat first | exact .head _ | refine .tail _ ?_))) fun w hs => ?_
    exact ⟨rfl, hs.chg0⟩
end Go.Proofs.Ytohlillcaadidaa

/- Walks of the reference: waiting, choosing, the table of values. -/
namespace Go.Proofs.Ytohlillcaadidaa
open Go Go.Eng

set_option maxHeartbeats 4000000 in
theorem waiting_ca (w : World) (l0 h1 : Nat) (cs : List Value) (r : Rg) (p : Ru) (vl : Value) (l : List Int) (sh wt st : Nat) (cl : Int) (h : RgC w cs r) (hr : r.Right) (hp : p.Right) (hl : RdI w l0 h1 vl l) (hv : ValL r p l) (hs4 : sh ≤ 4) (hw0 : 0 < wt) (hw : (wt : Int) ≤ p.waits) (hst : st < r.drifts.length) (hcl : -r.clicks ≤ cl ∧ cl ≤ r.clicks) :
    Ca Try.prog 135 [.agg cs.toArray, ruV p, vl, .int .i64 sh, .int .i64 wt, .int .i64 st, .int .i64 cl] w fun v w' => v = .int .i64 (waitV r p (gV r p l sh (wt - 1)) sh wt st cl) ∧ Chg [] w w' := by
  have h0 := h
  obtain ⟨lo, hi, ag, cg, ad, cd, af, cf, an, cn, rfl, hg, hdr, hf, hn⟩ := h
  obtain ⟨_, _, hsl, hsn⟩ := RdII.outI hn
  cases hsl
  obtain ⟨la, lc, rfl, hsl⟩ := RdI.outI hl
  have hwa := hp.waits
  have hpw := hp.wait
  have hC := hr.clicks
  have hd2 := hr.d2
  have hg2 := hr.g2
  have hgs := hr.gsum
  have hnl := hr.next
  have m1 := mul_bd0 (A := 600) (B := 100) hpw (show 0 ≤ r.group.sum ∧ r.group.sum ≤ 100 by omega)
  have hT := tot8 r hr (4 - sh + wt) (by omega)
  have m2 := mul_bd0 (A := 60000) (B := 429981696) (show 0 ≤ p.wait * r.group.sum ∧ p.wait * r.group.sum ≤ 60000 by omega) (show 0 ≤ r.total ^ (4 - sh + wt) ∧ r.total ^ (4 - sh + wt) ≤ 429981696 by omega)
  have hsv : waitV r p (gV r p l sh (wt - 1)) sh wt st cl = p.wait * r.group.sum * r.total ^ (4 - sh + wt) + folP r p l sh (wt - 1) st cl r.drifts.length := by
    unfold waitV folS folP partsV
    rw [Int.mul_assoc]
  obtain ⟨B, hB⟩ : ∃ B, B = p.wait * r.group.sum * r.total ^ (4 - sh + wt) := ⟨_, rfl⟩
  rw [hsv]
  refine q_of (Sat.nil w M0) Try.func135 rfl (by simp [Try.ntmps135]) ?_
  (refine q_seq ?_; refine q_region ?_)
  refine ql_box rfl rfl (fun b7 => ?_)
  refine ql_box rfl rfl (fun b8 => ?_)
  (refine ql_pure tabOk rfl rfl ?_; refine q_nil ?_; refine q_seq ?_)
  refine q_draw _ [] (Sp.refl _) (by kernel_rfl) (by kernel_rfl) ?_
  (refine qf_pure tabOk rfl rfl rfl ?_; refine qf_loadB tabOk rfl rfl rfl (by repeat first | exact .head _ | refine .tail _ ?_) (by rfl) ?_; refine qf_pure tabOk rfl rfl rfl ?_; refine qf_loadB tabOk rfl rfl rfl (by repeat first | exact .head _ | refine .tail _ ?_) (by rfl) ?_)
  refine qf_callv (val := .int .i64 r.group.sum) tabOk rfl rfl rfl rfl (fun w hs => ?_) ?_; exact rtotal_ca w lo hi _ r.group (RdE.keep hg hs.chg0) (by omega) (fun x hx => by have := hr.weight x hx; omega)
  (refine qf_ar tabOk rfl rfl rfl rfl (by omega) (by omega) ?_; refine qf_loadAB tabOk rfl rfl rfl (by repeat first | exact .head _ | refine .tail _ ?_) (by rfl) (by rfl) ?_; refine qf_pure tabOk rfl rfl rfl ?_; refine qf_ar tabOk rfl rfl rfl rfl (by omega) (by omega) ?_; refine qf_pure tabOk rfl rfl rfl ?_; refine qf_ar tabOk rfl rfl rfl rfl (by omega) (by omega) ?_)
  refine qf_callv (val := .int .i64 (r.total ^ (4 - sh + wt))) tabOk rfl rfl rfl rfl (fun w hs => ?_) ?_; exact by have := power_ca w _ r (4 - sh + wt) (h0.keep hs.chg0) hr (by omega); rw [show ((4 - sh + wt : Nat) : Int) = 4 - (sh : Int) + (wt : Int) by omega] at this; exact this
  (refine qf_ar tabOk rfl rfl rfl rfl (by omega) (by omega) ?_; refine qf_pure tabOk rfl rfl rfl ?_; refine qf_nil ?_; (iterate 2 refine q_seq ?_); refine q_region ?_; refine ql_pure tabOk rfl rfl ?_; refine q_nil ?_; refine q_block ?_)
  rw [← hB] at m2 ⊢
  refine q_loop (σ := Nat) (fun t => t ≤ r.drifts.length) (fun t => r.drifts.length - t) (fun t => [(2, .slice la l.length lc), (3, .int .i64 sh), (4, .int .i64 wt), (5, .int .i64 st), (6, .int .i64 cl), (7, .pointer (some ⟨b7, 0, none⟩)), (8, .pointer (some ⟨b8, 0, none⟩)), (15, .int .i64 (B + folP r p l sh (wt - 1) st cl t)), (16, .int .i64 t)])
    (fun _ => [.pt b7 [.int .i64 r.radius, .int .i64 r.unit, .int .i64 r.clicks, .int .i64 r.total, .slice ag r.group.length cg, .slice ad r.drifts.length cd, .slice af r.first.length cf, .slice an r.next.length cn] 32, .pt b8 [.int .i64 p.miss, .int .i64 p.click, .int .i64 p.wait, .int .i64 p.waits] 33]) 0 (by omega) ⟨rfl, rfl, rfl, rfl, rfl, rfl, rfl, by simp [folP, sumR]; rfl, rfl, trivial⟩ (by repeat (first | exact Sp.nil | exact Sp.refl _ | refine Sp.cons (by repeat constructor) ?_)) ?_
  intro t ht K hK
  ((iterate 2 refine q_seq ?_); refine q_region ?_; (iterate 2 refine ql_pure tabOk rfl rfl ?_); refine ql_loadB tabOk rfl rfl rfl (by repeat first | exact .head _ | refine .tail _ ?_) (by rfl) ?_; (iterate 2 refine ql_pure tabOk rfl rfl ?_); refine q_nil ?_)
  refine q_if rfl (fun hc => ?_) (fun hc => ?_)
  · have ht2 : t < r.drifts.length := by omega
    clear hc
    have hstn : st < r.next.length := by omega
    obtain ⟨bn, on, rfl⟩ := hsn (by omega)
    obtain ⟨ar, cr, hrow, hcell⟩ := hn.row st hstn
    have hrl := hr.rows _ (List.getElem_mem hstn)
    have hgn : r.next.getD st [] = r.next[st] := by simp [List.getD_eq_getElem?_getD, hstn]
    have hix := idx_lt (plc_in (r := r) (p := p) sh (wt - 1) t cl (by omega) (by omega) ht2 hcl)
    rw [← hv.len] at hix
    have hga : gV r p l sh (wt - 1) t cl = l[idxP r p (sh, wt - 1, t, cl)] := by unfold gV; simp [List.getD_eq_getElem?_getD, hix]
    have hgb := hv.at sh (wt - 1) t cl
    have hst1 : folP r p l sh (wt - 1) st cl (t + 1) = folP r p l sh (wt - 1) st cl t + r.next[st].getD t 0 * gV r p l sh (wt - 1) t cl := by rw [folP, sumR, hgn]; simp only [folP, hgn]
    have hfb1 := folP_bd hr hv sh (wt - 1) st cl (t + 1) (by omega)
    have hfb0 := folP_bd hr hv sh (wt - 1) st cl t (by omega)
    rw [hst1] at hfb1
    have hnb : 0 ≤ r.next[st].getD t 0 ∧ r.next[st].getD t 0 ≤ 12 := by have := next_bd2 hr st t; rw [hgn] at this; exact this
    have mm := mul_bd0 hnb hgb
    generalize hrw : r.next[st] = row at hrow hcell hrl hst1 hfb1 hnb mm
    have htr : t < row.length := by omega
    have hgr : row.getD t 0 = row[t] := by simp [List.getD_eq_getElem?_getD, htr]
    rw [hgr] at hst1 hfb1 mm
    obtain ⟨_, _, hsl2, hsr⟩ := RdI.outI hrow
    cases hsl2
    obtain ⟨br, offr, rfl⟩ := hsr (by omega)
    obtain ⟨bl, ol, rfl⟩ := hsl (by omega)
    rw [hga] at hst1 hfb1 mm
    (refine q_skip ?_; refine q_seq ?_; refine q_block ?_)
    refine q_draw _ [] (Sp.refl _) (by kernel_rfl) (by kernel_rfl) ?_
    ((iterate 2 refine qf_pure tabOk rfl rfl rfl ?_); refine qf_loadB tabOk rfl rfl rfl (by repeat first | exact .head _ | refine .tail _ ?_) (by rfl) ?_; refine qf_pure tabOk rfl rfl rfl ?_)
    refine qf_index tabOk rfl rfl rfl rfl rfl (by omega) (by omega) ?_
    refine qf_load1 (v := .slice (some ⟨br, offr, none⟩) row.length cr) tabOk rfl rfl rfl (fun w' hs => hcell w' hs.chg0) ?_
    (refine qf_pure tabOk rfl rfl rfl ?_)
    (refine qf_index tabOk rfl rfl rfl rfl rfl (by omega) (by omega) ?_; refine qf_load1 tabOk rfl rfl rfl (fun w hs => RdI.at (RdE.keep hrow hs.chg0) t htr) ?_)
    (refine qf_pure tabOk rfl rfl rfl ?_; (iterate 2 refine qf_loadAB tabOk rfl rfl rfl (by repeat first | exact .head _ | refine .tail _ ?_) (by rfl) (by rfl) ?_); (iterate 2 refine qf_pure tabOk rfl rfl rfl ?_); refine qf_ar tabOk rfl rfl rfl rfl (by omega) (by omega) ?_; (iterate 2 refine qf_pure tabOk rfl rfl rfl ?_))
    refine qf_callv (val := .int .i64 ((idxP r p (sh, wt - 1, t, cl) : Nat) : Int)) tabOk rfl rfl rfl rfl (fun w hs => ?_) ?_; exact by have := at_ca w _ r p sh (wt - 1) t cl (h0.keep hs.chg0) hr hp (by omega) (by omega) ht2 hcl; rw [show ((wt - 1 : Nat) : Int) = (wt : Int) - 1 by omega] at this; exact this
    skip
    (refine qf_index tabOk rfl rfl rfl rfl rfl (by omega) (by omega) ?_; refine qf_load1 tabOk rfl rfl rfl (fun w hs => RdI.at (RdE.keep hl hs.chg0) (idxP r p (sh, wt - 1, t, cl)) hix) ?_)
    ((iterate 2 refine qf_ar tabOk rfl rfl rfl rfl (by omega) (by omega) ?_); refine qf_pure tabOk rfl rfl rfl ?_; refine qf_nil ?_; refine q_blk ?_; refine q_region ?_; refine ql_pure tabOk rfl rfl ?_; refine ql_ar tabOk rfl rfl rfl rfl (by omega) (by omega) ?_; refine ql_pure tabOk rfl rfl ?_; refine q_nil ?_)
    exact hK (t + 1) _ _ (by omega) (by omega) ⟨rfl, rfl, rfl, rfl, rfl, rfl, rfl, by rw [hst1, ← Int.add_assoc]; rfl, rfl, trivial⟩ (by repeat (first | exact Sp.nil | exact Sp.refl _ | refine Sp.cons (by repeat constructor) ?_))
  · obtain rfl : t = r.drifts.length := by omega
    (refine q_exit _ rfl ?_; refine q_seq ?_; refine q_region ?_; (iterate 2 refine ql_pure tabOk rfl rfl ?_); refine q_nil ?_; refine q_ret ?_)
    refine q_fin tabOk rfl (by repeat (first | exact RVs.nil | apply RVs.tmp rfl | apply RVs.cellA rfl rfl (by repeat first | exact .head _ | refine .tail _ ?_) (by rfl) | apply RVs.cell1 rfl rfl (by repeat first | exact .head _ | refine .tail _ ?_))) fun w hs => ?_
    exact ⟨rfl, hs.chg0⟩

theorem rcP_bd {r : Rg} {p : Ru} {l : List Int} (hr : r.Right) (hp : p.Right) (hv : ValL r p l) (sh wt st : Nat) (cl : Int) (hw3 : wt ≤ 3) (hcl : -r.clicks ≤ cl ∧ cl ≤ r.clicks) : ∀ k, k ≤ (2 * r.clicks + 1).toNat → (-r.clicks ≤ (rcP r p (gV r p l (sh + 1) wt) sh wt st cl k).1 ∧ (rcP r p (gV r p l (sh + 1) wt) sh wt st cl k).1 ≤ r.clicks)
  | 0, _ => hcl
  | k + 1, hk => by
    have ih := rcP_bd hr hp hv sh wt st cl hw3 hcl k (by omega)
    rw [rcP_succ _ _ _ _ _ _ _ _ (by omega), rcStep]
    split
    · simp only
      omega
    · exact ih

set_option maxHeartbeats 8000000 in
theorem rchoose_ca (w : World) (l0 h1 : Nat) (cs : List Value) (r : Rg) (p : Ru) (vl : Value) (l : List Int) (sh wt st : Nat) (cl : Int) (h : RgC w cs r) (hr : r.Right) (hp : p.Right) (hl : RdI w l0 h1 vl l) (hv : ValL r p l) (hs4 : sh ≤ 4) (hw : (wt : Int) ≤ p.waits) (hst : st < r.drifts.length) (hcl : -r.clicks ≤ cl ∧ cl ≤ r.clicks) :
    Ca Try.prog 85 [.agg cs.toArray, ruV p, vl, .int .i64 sh, .int .i64 wt, .int .i64 st, .int .i64 cl] w fun v w' => v = .tuple #[.bool (chV r p (gV r p l (sh + 1) wt) (gV r p l sh (wt - 1)) sh wt st cl).1.1, .int .i64 (chV r p (gV r p l (sh + 1) wt) (gV r p l sh (wt - 1)) sh wt st cl).1.2, .int .i64 (chV r p (gV r p l (sh + 1) wt) (gV r p l sh (wt - 1)) sh wt st cl).2] ∧ Chg [] w w' := by
  have h0 := h
  obtain ⟨lo, hi, ag, cg, ad, cd, af, cf, an, cn, rfl, hg, hdr, hf, hn⟩ := h
  obtain ⟨la, lc, rfl, _⟩ := RdI.outI hl
  have hwa := hp.waits
  have hC := hr.clicks
  have hrl := rc_law r p (gV r p l (sh + 1) wt) sh wt st cl hcl
  refine q_of (Sat.nil w M0) Try.func85 rfl (by simp [Try.ntmps85]) ?_
  (refine q_seq ?_; refine q_region ?_)
  refine ql_box rfl rfl (fun b7 => ?_)
  refine ql_box rfl rfl (fun b8 => ?_)
  ((iterate 3 refine ql_pure tabOk rfl rfl ?_); refine q_nil ?_; refine q_seq ?_; refine q_region ?_; (iterate 2 refine ql_pure tabOk rfl rfl ?_); refine q_nil ?_; refine q_seq ?_; refine q_region ?_; (iterate 2 refine ql_loadAB tabOk rfl rfl rfl (by repeat first | exact .head _ | refine .tail _ ?_) (by rfl) (by rfl) ?_); (iterate 6 refine ql_pure tabOk rfl rfl ?_))
  refine ql_callv (val := .int .i64 (shootV r p (gV r p l (sh + 1) wt) sh wt st cl cl)) tabOk rfl rfl rfl rfl (fun w hs => ?_) ?_; exact shoots_ca w _ _ _ r p _ l sh wt st cl cl (h0.keep hs.chg0) hr hp (RdE.keep hl hs.chg0) hv hs4 hw hst hcl hcl
  (refine ql_pure tabOk rfl rfl ?_; refine q_nil ?_; (iterate 2 refine q_seq ?_); refine q_region ?_; refine ql_pure tabOk rfl rfl ?_; refine ql_loadB tabOk rfl rfl rfl (by repeat first | exact .head _ | refine .tail _ ?_) (by rfl) ?_; refine ql_neg tabOk rfl rfl (by omega) (by omega) ?_; refine ql_pure tabOk rfl rfl ?_; refine q_nil ?_; refine q_block ?_)
  refine q_loop (σ := Nat) (fun j => j ≤ (2 * r.clicks + 1).toNat) (fun j => (2 * r.clicks + 1).toNat - j) (fun j => [(2, .slice la l.length lc), (3, .int .i64 sh), (4, .int .i64 wt), (5, .int .i64 st), (6, .int .i64 cl), (7, .pointer (some ⟨b7, 0, none⟩)), (8, .pointer (some ⟨b8, 0, none⟩)), (17, .int .i64 (rcP r p (gV r p l (sh + 1) wt) sh wt st cl j).1), (18, .int .i64 (rcP r p (gV r p l (sh + 1) wt) sh wt st cl j).2), (19, .int .i64 ((j : Int) - r.clicks))])
    (fun _ => [.pt b7 [.int .i64 r.radius, .int .i64 r.unit, .int .i64 r.clicks, .int .i64 r.total, .slice ag r.group.length cg, .slice ad r.drifts.length cd, .slice af r.first.length cf, .slice an r.next.length cn] 32, .pt b8 [.int .i64 p.miss, .int .i64 p.click, .int .i64 p.wait, .int .i64 p.waits] 33]) 0 (by omega) ⟨rfl, rfl, rfl, rfl, rfl, rfl, rfl, rfl, rfl, lookI rfl (by omega), trivial⟩ (by repeat (first | exact Sp.nil | exact Sp.refl _ | refine Sp.cons (by repeat constructor) ?_)) ?_
  intro j hj K hK
  have hsb := rcP_bd hr hp hv sh wt st cl (by omega) hcl j hj
  ((iterate 2 refine q_seq ?_); refine q_region ?_; (iterate 2 refine ql_pure tabOk rfl rfl ?_); refine ql_loadB tabOk rfl rfl rfl (by repeat first | exact .head _ | refine .tail _ ?_) (by rfl) ?_; refine ql_pure tabOk rfl rfl ?_; refine q_nil ?_)
  refine q_if rfl (fun hc => ?_) (fun hc => ?_)
  · have hj2 : j < (2 * r.clicks + 1).toNat := by omega
    clear hc
    have hstep := rcP_succ r p (gV r p l (sh + 1) wt) sh wt st cl j hj2
    obtain ⟨c, hcj⟩ : ∃ c : Int, c = (j : Int) - r.clicks := ⟨_, rfl⟩
    have hcb : -r.clicks ≤ c ∧ c ≤ r.clicks := by omega
    rw [← hcj] at hstep ⊢
    obtain ⟨S, hS⟩ : ∃ S, S = rcP r p (gV r p l (sh + 1) wt) sh wt st cl j := ⟨_, rfl⟩
    rw [← hS] at hsb hstep ⊢
    obtain ⟨b, co⟩ := S
    simp only at hsb
    unfold rcStep at hstep
    simp only at hstep
    dsimp only
    (refine q_skip ?_; refine q_seq ?_; refine q_block ?_; refine q_seq ?_; refine q_region ?_; (iterate 2 refine ql_loadAB tabOk rfl rfl rfl (by repeat first | exact .head _ | refine .tail _ ?_) (by rfl) (by rfl) ?_); (iterate 6 refine ql_pure tabOk rfl rfl ?_))
    refine ql_callv (val := .int .i64 (shootV r p (gV r p l (sh + 1) wt) sh wt st cl c)) tabOk rfl rfl rfl rfl (fun w hs => ?_) ?_; exact shoots_ca w _ _ _ r p _ l sh wt st cl c (h0.keep hs.chg0) hr hp (RdE.keep hl hs.chg0) hv hs4 hw hst hcl hcb
    obtain ⟨n, hn2⟩ : ∃ n, n = shootV r p (gV r p l (sh + 1) wt) sh wt st cl c := ⟨_, rfl⟩
    rw [← hn2] at hstep ⊢
    have k1 := near_key (n := cl) c b
    have m1 := mul_bd (A := 12) (B := 12) (show -12 ≤ c - cl ∧ c - cl ≤ 12 by omega) (show -12 ≤ c - cl ∧ c - cl ≤ 12 by omega)
    have m2 := mul_bd (A := 12) (B := 12) (show -12 ≤ b - cl ∧ b - cl ≤ 12 by omega) (show -12 ≤ b - cl ∧ b - cl ≤ 12 by omega)
    (refine ql_pure tabOk rfl rfl ?_; refine q_nil ?_; refine q_seq ?_)
    refine q_cut (σ := {nb : Bool // nb = true ↔ kyN cl c < kyN cl b}) (fun nb => [(2, .slice la l.length lc), (3, .int .i64 sh), (4, .int .i64 wt), (5, .int .i64 st), (6, .int .i64 cl), (7, .pointer (some ⟨b7, 0, none⟩)), (8, .pointer (some ⟨b8, 0, none⟩)), (17, .int .i64 b), (18, .int .i64 co), (19, .int .i64 c), (20, .int .i64 n), (21, .bool nb.1)]) (fun _ => [.pt b7 [.int .i64 r.radius, .int .i64 r.unit, .int .i64 r.clicks, .int .i64 r.total, .slice ag r.group.length cg, .slice ad r.drifts.length cd, .slice af r.first.length cf, .slice an r.next.length cn] 32, .pt b8 [.int .i64 p.miss, .int .i64 p.click, .int .i64 p.wait, .int .i64 p.waits] 33]) ?_ (fun K2 hK2 => ?_)
    rotate_left
    · (refine q_region ?_; (iterate 2 refine ql_pure tabOk rfl rfl ?_); refine ql_ar tabOk rfl rfl rfl rfl (by omega) (by omega) ?_; (iterate 2 refine ql_pure tabOk rfl rfl ?_); (iterate 2 refine ql_ar tabOk rfl rfl rfl rfl (by omega) (by omega) ?_); (iterate 2 refine ql_pure tabOk rfl rfl ?_); refine ql_ar tabOk rfl rfl rfl rfl (by omega) (by omega) ?_; (iterate 2 refine ql_pure tabOk rfl rfl ?_); (iterate 2 refine ql_ar tabOk rfl rfl rfl rfl (by omega) (by omega) ?_); (iterate 2 refine ql_pure tabOk rfl rfl ?_))
      refine ql_split rfl rfl (fun hc => ?_) (fun hc => ?_)
      · have e1 := of_decide_eq_true hc
        ((iterate 16 refine ql_gno rfl rfl rfl ?_); (iterate 3 refine ql_gnone rfl rfl ?_); refine ql_gno rfl rfl rfl ?_; (iterate 2 refine ql_pure tabOk rfl rfl ?_); refine q_nil ?_)
        exact hK2 ⟨true, ⟨fun _ => k1.1 (.inl e1), fun _ => rfl⟩⟩ _ _ ⟨rfl, rfl, rfl, rfl, rfl, rfl, rfl, rfl, rfl, rfl, rfl, rfl, trivial⟩ (by repeat (first | exact Sp.nil | exact Sp.refl _ | refine Sp.cons (by repeat constructor) ?_))
      · have e1 := of_decide_eq_false hc
        clear hc
        (refine ql_gyes rfl ?_; refine ql_pure tabOk rfl rfl ?_; refine ql_gyes rfl ?_; refine ql_pure tabOk rfl rfl ?_; refine ql_gyes rfl ?_; refine ql_ar tabOk rfl rfl rfl rfl (by omega) (by omega) ?_; refine ql_gyes rfl ?_; refine ql_pure tabOk rfl rfl ?_; refine ql_gyes rfl ?_; refine ql_pure tabOk rfl rfl ?_; refine ql_gyes rfl ?_; refine ql_ar tabOk rfl rfl rfl rfl (by omega) (by omega) ?_; refine ql_gyes rfl ?_; refine ql_ar tabOk rfl rfl rfl rfl (by omega) (by omega) ?_; refine ql_gyes rfl ?_; refine ql_pure tabOk rfl rfl ?_; refine ql_gyes rfl ?_; refine ql_pure tabOk rfl rfl ?_; refine ql_gyes rfl ?_; refine ql_ar tabOk rfl rfl rfl rfl (by omega) (by omega) ?_; refine ql_gyes rfl ?_; refine ql_pure tabOk rfl rfl ?_; refine ql_gyes rfl ?_; refine ql_pure tabOk rfl rfl ?_; refine ql_gyes rfl ?_; refine ql_ar tabOk rfl rfl rfl rfl (by omega) (by omega) ?_; refine ql_gyes rfl ?_; refine ql_ar tabOk rfl rfl rfl rfl (by omega) (by omega) ?_; refine ql_gyes rfl ?_; refine ql_pure tabOk rfl rfl ?_; refine ql_gyes rfl ?_; refine ql_pure tabOk rfl rfl ?_)
        refine ql_split rfl rfl (fun hc => ?_) (fun hc => ?_)
        · have e2 := of_decide_eq_true hc
          clear hc
          (refine ql_gyes rfl ?_; refine ql_pure tabOk rfl rfl ?_; refine ql_gyes rfl ?_; refine ql_pure tabOk rfl rfl ?_; refine ql_gyes rfl ?_; refine ql_pure tabOk rfl rfl ?_; refine ql_gyes rfl ?_; (iterate 3 refine ql_pure tabOk rfl rfl ?_); refine q_nil ?_)
          exact hK2 ⟨decide (c < b), by rw [decide_eq_true_eq]; exact ⟨fun h => k1.1 (.inr ⟨e2, h⟩), fun h => by rcases k1.2 h with h | h; exact absurd h e1; exact h.2⟩⟩ _ _ ⟨rfl, rfl, rfl, rfl, rfl, rfl, rfl, rfl, rfl, rfl, rfl, rfl, trivial⟩ (by repeat (first | exact Sp.nil | exact Sp.refl _ | refine Sp.cons (by repeat constructor) ?_))
        · have e2 := of_decide_eq_false hc
          clear hc
          ((iterate 3 refine ql_gno rfl rfl rfl ?_); refine ql_gyes rfl ?_; (iterate 3 refine ql_pure tabOk rfl rfl ?_); refine q_nil ?_)
          exact hK2 ⟨false, ⟨fun h => Bool.noConfusion h, fun h => (k1.2 h).elim (fun h => absurd h e1) (fun h => absurd h.1 e2)⟩⟩ _ _ ⟨rfl, rfl, rfl, rfl, rfl, rfl, rfl, rfl, rfl, rfl, rfl, rfl, trivial⟩ (by repeat (first | exact Sp.nil | exact Sp.refl _ | refine Sp.cons (by repeat constructor) ?_))
    rintro ⟨nb, hnb⟩
    dsimp only
    (refine q_seq ?_; refine q_region ?_; (iterate 4 refine ql_pure tabOk rfl rfl ?_))
    refine ql_split rfl rfl (fun hc => ?_) (fun hc => ?_)
    · have e1 := of_decide_eq_true hc
      clear hc
      rw [if_pos (.inl e1)] at hstep
      ((iterate 4 refine ql_gno rfl rfl rfl ?_); refine ql_gnone rfl rfl ?_; refine ql_gno rfl rfl rfl ?_; refine ql_pure tabOk rfl rfl ?_; refine q_nil ?_; refine q_cond_true rfl ?_; refine q_region ?_; (iterate 4 refine ql_pure tabOk rfl rfl ?_); refine q_nil ?_; refine q_blk ?_; refine q_region ?_; refine ql_pure tabOk rfl rfl ?_; refine ql_ar tabOk rfl rfl rfl rfl (by omega) (by omega) ?_; refine ql_pure tabOk rfl rfl ?_; refine q_nil ?_)
      exact hK (j + 1) _ _ (by omega) (by omega) ⟨rfl, rfl, rfl, rfl, rfl, rfl, rfl, by rw [hstep]; rfl, by rw [hstep]; rfl, lookI rfl (by omega), trivial⟩ (by repeat (first | exact Sp.nil | exact Sp.refl _ | refine Sp.cons (by repeat constructor) ?_))
    · have e1 := of_decide_eq_false hc
      clear hc
      (refine ql_gyes rfl ?_; refine ql_pure tabOk rfl rfl ?_; refine ql_gyes rfl ?_; refine ql_pure tabOk rfl rfl ?_; refine ql_gyes rfl ?_; refine ql_pure tabOk rfl rfl ?_; refine ql_gyes rfl ?_; refine ql_pure tabOk rfl rfl ?_)
      refine ql_split rfl rfl (fun hc => ?_) (fun hc => ?_)
      · have e2 := of_decide_eq_true hc
        clear hc
        cases nb with
        | true =>
          rw [if_pos (.inr ⟨e2, hnb.1 rfl⟩)] at hstep
          (refine ql_gyes rfl ?_; refine ql_pure tabOk rfl rfl ?_; refine ql_gyes rfl ?_; (iterate 2 refine ql_pure tabOk rfl rfl ?_); refine q_nil ?_; refine q_cond_true rfl ?_; refine q_region ?_; (iterate 4 refine ql_pure tabOk rfl rfl ?_); refine q_nil ?_; refine q_blk ?_; refine q_region ?_; refine ql_pure tabOk rfl rfl ?_; refine ql_ar tabOk rfl rfl rfl rfl (by omega) (by omega) ?_; refine ql_pure tabOk rfl rfl ?_; refine q_nil ?_)
          exact hK (j + 1) _ _ (by omega) (by omega) ⟨rfl, rfl, rfl, rfl, rfl, rfl, rfl, by rw [hstep]; rfl, by rw [hstep]; rfl, lookI rfl (by omega), trivial⟩ (by repeat (first | exact Sp.nil | exact Sp.refl _ | refine Sp.cons (by repeat constructor) ?_))
        | false =>
          rw [if_neg (by rintro (h | h); exact e1 h; have := hnb.2 h.2; cases this)] at hstep
          (refine ql_gyes rfl ?_; refine ql_pure tabOk rfl rfl ?_; refine ql_gyes rfl ?_; (iterate 2 refine ql_pure tabOk rfl rfl ?_); refine q_nil ?_; refine q_cond_false rfl ?_; refine q_skip ?_; refine q_blk ?_; refine q_region ?_; refine ql_pure tabOk rfl rfl ?_; refine ql_ar tabOk rfl rfl rfl rfl (by omega) (by omega) ?_; refine ql_pure tabOk rfl rfl ?_; refine q_nil ?_)
          exact hK (j + 1) _ _ (by omega) (by omega) ⟨rfl, rfl, rfl, rfl, rfl, rfl, rfl, by rw [hstep]; rfl, by rw [hstep]; rfl, lookI rfl (by omega), trivial⟩ (by repeat (first | exact Sp.nil | exact Sp.refl _ | refine Sp.cons (by repeat constructor) ?_))
      · have e2 := of_decide_eq_false hc
        clear hc
        rw [if_neg (by rintro (h | h); exact e1 h; exact e2 h.1)] at hstep
        (refine ql_gno rfl rfl rfl ?_; refine ql_gyes rfl ?_; (iterate 2 refine ql_pure tabOk rfl rfl ?_); refine q_nil ?_; refine q_cond_false rfl ?_; refine q_skip ?_; refine q_blk ?_; refine q_region ?_; refine ql_pure tabOk rfl rfl ?_; refine ql_ar tabOk rfl rfl rfl rfl (by omega) (by omega) ?_; refine ql_pure tabOk rfl rfl ?_; refine q_nil ?_)
        exact hK (j + 1) _ _ (by omega) (by omega) ⟨rfl, rfl, rfl, rfl, rfl, rfl, rfl, by rw [hstep]; rfl, by rw [hstep]; rfl, lookI rfl (by omega), trivial⟩ (by repeat (first | exact Sp.nil | exact Sp.refl _ | refine Sp.cons (by repeat constructor) ?_))
  · obtain rfl : j = (2 * r.clicks + 1).toNat := by omega
    clear hc hK hsb
    rw [hrl]
    have hch : chV r p (gV r p l (sh + 1) wt) (gV r p l sh (wt - 1)) sh wt st cl = if 0 < wt then (if waitV r p (gV r p l sh (wt - 1)) sh wt st cl < (chClick r p (gV r p l (sh + 1) wt) sh wt st cl).2 then ((true, 0), waitV r p (gV r p l sh (wt - 1)) sh wt st cl) else ((false, (chClick r p (gV r p l (sh + 1) wt) sh wt st cl).1), (chClick r p (gV r p l (sh + 1) wt) sh wt st cl).2)) else ((false, (chClick r p (gV r p l (sh + 1) wt) sh wt st cl).1), (chClick r p (gV r p l (sh + 1) wt) sh wt st cl).2) := rfl
    obtain ⟨S, hS⟩ : ∃ S, S = chClick r p (gV r p l (sh + 1) wt) sh wt st cl := ⟨_, rfl⟩
    rw [← hS] at hch ⊢
    (refine q_exit _ rfl ?_; (iterate 2 refine q_seq ?_); refine q_region ?_; (iterate 2 refine ql_pure tabOk rfl rfl ?_); refine q_nil ?_)
    refine q_if rfl (fun hc => ?_) (fun hc => ?_)
    · have hw0 : 0 < wt := by omega
      rw [if_pos hw0] at hch
      (refine q_seq ?_; refine q_region ?_; (iterate 2 refine ql_loadAB tabOk rfl rfl rfl (by repeat first | exact .head _ | refine .tail _ ?_) (by rfl) (by rfl) ?_); (iterate 5 refine ql_pure tabOk rfl rfl ?_))
      refine ql_callv (val := .int .i64 (waitV r p (gV r p l sh (wt - 1)) sh wt st cl)) tabOk rfl rfl rfl rfl (fun w hs => ?_) ?_; exact waiting_ca w _ _ _ r p _ l sh wt st cl (h0.keep hs.chg0) hr hp (RdE.keep hl hs.chg0) hv hs4 hw0 hw hst hcl
      (refine ql_pure tabOk rfl rfl ?_; refine q_nil ?_; refine q_seq ?_; refine q_region ?_; (iterate 3 refine ql_pure tabOk rfl rfl ?_); refine q_nil ?_)
      refine q_if rfl (fun hc => ?_) (fun hc => ?_)
      · rename_i hc2
        rw [if_pos (by assumption)] at hch
        (refine q_seq ?_; refine q_region ?_; (iterate 4 refine ql_pure tabOk rfl rfl ?_); refine q_nil ?_; refine q_ret ?_)
        refine q_fin tabOk rfl (by repeat (first | exact RVs.nil | apply RVs.tmp rfl | apply RVs.cellA rfl rfl (by repeat first | exact .head _ | refine .tail _ ?_) (by rfl) | apply RVs.cell1 rfl rfl (by repeat first | exact .head _ | refine .tail _ ?_))) fun w hs => ?_
        exact ⟨by rw [hch]; rfl, hs.chg0⟩
      · rw [if_neg (by assumption)] at hch
        (refine q_skip ?_; refine q_seq ?_; refine q_region ?_; (iterate 5 refine ql_pure tabOk rfl rfl ?_); refine q_nil ?_; refine q_ret ?_)
        refine q_fin tabOk rfl (by repeat (first | exact RVs.nil | apply RVs.tmp rfl | apply RVs.cellA rfl rfl (by repeat first | exact .head _ | refine .tail _ ?_) (by rfl) | apply RVs.cell1 rfl rfl (by repeat first | exact .head _ | refine .tail _ ?_))) fun w hs => ?_
        exact ⟨by rw [hch]; rfl, hs.chg0⟩
    · rw [if_neg (by omega)] at hch
      (refine q_skip ?_; refine q_seq ?_; refine q_region ?_; (iterate 5 refine ql_pure tabOk rfl rfl ?_); refine q_nil ?_; refine q_ret ?_)
      refine q_fin tabOk rfl (by repeat (first | exact RVs.nil | apply RVs.tmp rfl | apply RVs.cellA rfl rfl (by repeat first | exact .head _ | refine .tail _ ?_) (by rfl) | apply RVs.cell1 rfl rfl (by repeat first | exact .head _ | refine .tail _ ?_))) fun w hs => ?_
      exact ⟨by rw [hch]; rfl, hs.chg0⟩
end Go.Proofs.Ytohlillcaadidaa

/- Walks of the reference: the table of values; choices. -/
namespace Go.Proofs.Ytohlillcaadidaa
open Go Go.Eng

theorem blk_rdI {w : World} {b n c : Nat} {l : List Int} {t : TypeId} (h : Blk w b (ints l) t) (hn : n = l.length) : RdI w b (b + 1) (.slice (some ⟨b, 0, none⟩) n c) l := by
  subst hn
  exact RdE.one (by have := Blk.rd h (show (ints l).length = l.length by simp) c; simpa using this) (fun e he => by obtain ⟨x, _, rfl⟩ := List.mem_map.1 he; rfl)

set_option maxHeartbeats 8000000 in
theorem rvalues_ca (w : World) (cs : List Value) (r : Rg) (p : Ru) (h : RgC w cs r) (hr : r.Right) (hp : p.Right) :
    Ca Try.prog 76 [.agg cs.toArray, ruV p] w fun v w' => ∃ b : Nat, v = .slice (some ⟨b, 0, none⟩) (plcL r p).length (plcL r p).length ∧ Sat w M0 [.pt b (ints ((plcL r p).map (valP r p))) 3] w' := by
  have h0 := h
  obtain ⟨lo, hi, ag, cg, ad, cd, af, cf, an, cn, rfl, hg, hdr, hf, hn⟩ := h
  have hwa := hp.waits
  have hC := hr.clicks
  have hd2 := hr.d2
  have hcb := cntP_bd hr hp
  have hcl : 5 * (p.waits + 1) * (r.drifts.length : Int) * (2 * r.clicks + 1) = ((plcL r p).length : Int) := cntP_eq hr hp
  refine q_of (Sat.nil w M0) Try.func76 rfl (by simp [Try.ntmps76]) ?_
  (refine q_seq ?_; refine q_region ?_)
  refine ql_box rfl rfl (fun b2 => ?_)
  refine ql_box rfl rfl (fun b3 => ?_)
  (refine ql_pure tabOk rfl rfl ?_; refine q_nil ?_; refine q_seq ?_; refine q_region ?_; refine ql_pure tabOk rfl rfl ?_; refine ql_loadB tabOk rfl rfl rfl (by repeat first | exact .head _ | refine .tail _ ?_) (by rfl) ?_; (iterate 2 refine ql_ar tabOk rfl rfl rfl rfl (by omega) (by omega) ?_); refine ql_pure tabOk rfl rfl ?_; refine ql_loadB tabOk rfl rfl rfl (by repeat first | exact .head _ | refine .tail _ ?_) (by rfl) ?_; refine ql_pure tabOk rfl rfl ?_; refine ql_ar tabOk rfl rfl rfl rfl (by omega) (by omega) ?_; refine ql_pure tabOk rfl rfl ?_; refine ql_loadB tabOk rfl rfl rfl (by repeat first | exact .head _ | refine .tail _ ?_) (by rfl) ?_; (iterate 3 refine ql_ar tabOk rfl rfl rfl rfl (by omega) (by omega) ?_))
  rw [hcl]
  refine ql_makeI slI rfl rfl rfl (plcL_len_le r p hr hp) (fun bl => ?_)
  have hz : TabI r p (fun y => 4 < y.1 + 0) (List.replicate (plcL r p).length 0) := TabI.zero (fun x hx => by obtain ⟨a, b, c, d⟩ := x; have := (plcL_mem r p a b c d).1 hx; simp only; omega)
  obtain ⟨z, hze⟩ : ∃ z, z = List.replicate (plcL r p).length (0 : Int) := ⟨_, rfl⟩
  rw [← hze] at hz ⊢
  obtain ⟨N, hN⟩ : ∃ N, N = (plcL r p).length := ⟨_, rfl⟩
  rw [← hN]
  (refine ql_pure tabOk rfl rfl ?_; refine q_nil ?_; (iterate 2 refine q_seq ?_); refine q_region ?_; refine ql_pure tabOk rfl rfl ?_; refine q_nil ?_; refine q_block ?_)
  refine q_loop (σ := Nat × List Int) (fun s => s.1 ≤ 5 ∧ TabI r p (fun y => 4 < y.1 + s.1) s.2) (fun s => 5 - s.1) (fun s => [(2, .pointer (some ⟨b2, 0, none⟩)), (3, .pointer (some ⟨b3, 0, none⟩)), (5, .slice (some ⟨bl, 0, none⟩) N N), (6, .int .i64 (4 - (s.1 : Int)))])
    (fun s => [.pt bl (ints s.2) 3, .pt b2 [.int .i64 r.radius, .int .i64 r.unit, .int .i64 r.clicks, .int .i64 r.total, .slice ag r.group.length cg, .slice ad r.drifts.length cd, .slice af r.first.length cf, .slice an r.next.length cn] 32, .pt b3 [.int .i64 p.miss, .int .i64 p.click, .int .i64 p.wait, .int .i64 p.waits] 33]) (0, z) ⟨by simp, hz⟩ ⟨rfl, rfl, rfl, rfl, trivial⟩ (by repeat (first | exact Sp.nil | exact Sp.refl _ | refine Sp.cons (by repeat constructor) ?_)) ?_
  rintro ⟨k, l1⟩ ⟨hk, ht1⟩ K1 hK1
  simp only at hk ht1
  dsimp only
  ((iterate 2 refine q_seq ?_); refine q_region ?_; (iterate 2 refine ql_pure tabOk rfl rfl ?_); refine q_nil ?_)
  refine q_if rfl (fun hc => ?_) (fun hc => ?_)
  · have hk4 : k ≤ 4 := by omega
    clear hc
    obtain ⟨sh, hsh⟩ : ∃ sh, sh = 4 - k := ⟨_, rfl⟩
    have hsi : 4 - (k : Int) = (sh : Int) := by omega
    rw [hsi]
    (refine q_skip ?_; refine q_seq ?_; refine q_block ?_; refine q_seq ?_; refine q_region ?_; refine ql_pure tabOk rfl rfl ?_; refine q_nil ?_; refine q_block ?_)
    refine q_loop (σ := Nat × List Int) (fun s => s.1 ≤ (p.waits + 1).toNat ∧ TabI r p (fun y => sh < y.1 ∨ y.1 = sh ∧ y.2.1 < s.1) s.2) (fun s => (p.waits + 1).toNat - s.1) (fun s => [(2, .pointer (some ⟨b2, 0, none⟩)), (3, .pointer (some ⟨b3, 0, none⟩)), (5, .slice (some ⟨bl, 0, none⟩) N N), (6, .int .i64 (sh : Int)), (7, .int .i64 s.1)])
      (fun s => [.pt bl (ints s.2) 3, .pt b2 [.int .i64 r.radius, .int .i64 r.unit, .int .i64 r.clicks, .int .i64 r.total, .slice ag r.group.length cg, .slice ad r.drifts.length cd, .slice af r.first.length cf, .slice an r.next.length cn] 32, .pt b3 [.int .i64 p.miss, .int .i64 p.click, .int .i64 p.wait, .int .i64 p.waits] 33]) (0, l1) ⟨by simp, ht1.mono (fun y _ hd => by simp only at hd ⊢; omega)⟩ ⟨rfl, rfl, rfl, rfl, rfl, trivial⟩ (by repeat (first | exact Sp.nil | exact Sp.refl _ | refine Sp.cons (by repeat constructor) ?_)) ?_
    rintro ⟨wt, l2⟩ ⟨hwt, ht2⟩ K2 hK2
    simp only at hwt ht2
    dsimp only
    ((iterate 2 refine q_seq ?_); refine q_region ?_; (iterate 2 refine ql_pure tabOk rfl rfl ?_); refine ql_loadB tabOk rfl rfl rfl (by repeat first | exact .head _ | refine .tail _ ?_) (by rfl) ?_; refine ql_pure tabOk rfl rfl ?_; refine q_nil ?_)
    refine q_if rfl (fun hc => ?_) (fun hc => ?_)
    · have hwt2 : (wt : Int) ≤ p.waits := by omega
      clear hc
      (refine q_skip ?_; refine q_seq ?_; refine q_block ?_; refine q_seq ?_; refine q_region ?_; refine ql_pure tabOk rfl rfl ?_; refine q_nil ?_; refine q_block ?_)
      refine q_loop (σ := Nat × List Int) (fun s => s.1 ≤ r.drifts.length ∧ TabI r p (fun y => sh < y.1 ∨ y.1 = sh ∧ (y.2.1 < wt ∨ y.2.1 = wt ∧ y.2.2.1 < s.1)) s.2) (fun s => r.drifts.length - s.1) (fun s => [(2, .pointer (some ⟨b2, 0, none⟩)), (3, .pointer (some ⟨b3, 0, none⟩)), (5, .slice (some ⟨bl, 0, none⟩) N N), (6, .int .i64 (sh : Int)), (7, .int .i64 wt), (8, .int .i64 s.1)])
        (fun s => [.pt bl (ints s.2) 3, .pt b2 [.int .i64 r.radius, .int .i64 r.unit, .int .i64 r.clicks, .int .i64 r.total, .slice ag r.group.length cg, .slice ad r.drifts.length cd, .slice af r.first.length cf, .slice an r.next.length cn] 32, .pt b3 [.int .i64 p.miss, .int .i64 p.click, .int .i64 p.wait, .int .i64 p.waits] 33]) (0, l2) ⟨by simp, ht2.mono (fun y _ hd => by simp only at hd ⊢; omega)⟩ ⟨rfl, rfl, rfl, rfl, rfl, rfl, trivial⟩ (by repeat (first | exact Sp.nil | exact Sp.refl _ | refine Sp.cons (by repeat constructor) ?_)) ?_
      rintro ⟨st, l3⟩ ⟨hst, ht3⟩ K3 hK3
      simp only at hst ht3
      dsimp only
      ((iterate 2 refine q_seq ?_); refine q_region ?_; (iterate 2 refine ql_pure tabOk rfl rfl ?_); refine ql_loadB tabOk rfl rfl rfl (by repeat first | exact .head _ | refine .tail _ ?_) (by rfl) ?_; (iterate 2 refine ql_pure tabOk rfl rfl ?_); refine q_nil ?_)
      refine q_if rfl (fun hc => ?_) (fun hc => ?_)
      · have hst2 : st < r.drifts.length := by omega
        clear hc
        (refine q_skip ?_; refine q_seq ?_; refine q_block ?_; refine q_seq ?_; refine q_region ?_; refine ql_pure tabOk rfl rfl ?_; refine ql_loadB tabOk rfl rfl rfl (by repeat first | exact .head _ | refine .tail _ ?_) (by rfl) ?_; refine ql_neg tabOk rfl rfl (by omega) (by omega) ?_; refine ql_pure tabOk rfl rfl ?_; refine q_nil ?_; refine q_block ?_)
        refine q_loop (σ := Nat × List Int) (fun s => s.1 ≤ (2 * r.clicks + 1).toNat ∧ TabI r p (Don sh wt st ((s.1 : Int) - r.clicks)) s.2) (fun s => (2 * r.clicks + 1).toNat - s.1) (fun s => [(2, .pointer (some ⟨b2, 0, none⟩)), (3, .pointer (some ⟨b3, 0, none⟩)), (5, .slice (some ⟨bl, 0, none⟩) N N), (6, .int .i64 (sh : Int)), (7, .int .i64 wt), (8, .int .i64 st), (9, .int .i64 ((s.1 : Int) - r.clicks))])
          (fun s => [.pt bl (ints s.2) 3, .pt b2 [.int .i64 r.radius, .int .i64 r.unit, .int .i64 r.clicks, .int .i64 r.total, .slice ag r.group.length cg, .slice ad r.drifts.length cd, .slice af r.first.length cf, .slice an r.next.length cn] 32, .pt b3 [.int .i64 p.miss, .int .i64 p.click, .int .i64 p.wait, .int .i64 p.waits] 33]) (0, l3) ⟨by simp, ht3.mono (fun y hy hd => by obtain ⟨a, b, c, d⟩ := y; have := (plcL_mem r p a b c d).1 hy; unfold Don at hd; simp only at hd ⊢; omega)⟩ ⟨rfl, rfl, rfl, rfl, rfl, rfl, lookI rfl (by simp), trivial⟩ (by repeat (first | exact Sp.nil | exact Sp.refl _ | refine Sp.cons (by repeat constructor) ?_)) ?_
        rintro ⟨j, l4⟩ ⟨hj, ht4⟩ K4 hK4
        simp only at hj ht4
        dsimp only
        ((iterate 2 refine q_seq ?_); refine q_region ?_; (iterate 2 refine ql_pure tabOk rfl rfl ?_); refine ql_loadB tabOk rfl rfl rfl (by repeat first | exact .head _ | refine .tail _ ?_) (by rfl) ?_; refine ql_pure tabOk rfl rfl ?_; refine q_nil ?_)
        refine q_if rfl (fun hc => ?_) (fun hc => ?_)
        · have hj2 : j < (2 * r.clicks + 1).toNat := by omega
          clear hc
          obtain ⟨cl, hclj⟩ : ∃ cl : Int, cl = (j : Int) - r.clicks := ⟨_, rfl⟩
          have hclb : -r.clicks ≤ cl ∧ cl ≤ r.clicks := by omega
          rw [← hclj] at ht4 ⊢
          have hin := plc_in (r := r) (p := p) sh wt st cl (by omega) hwt2 hst2 hclb
          have hix := idx_lt hin
          rw [← ht4.len] at hix
          have hlN : l4.length = N := by rw [ht4.len, hN]
          have hvl : ValL r p l4 := ⟨ht4.len, ht4.bd⟩
          have hstep := ht4.step (D' := Don sh wt st (cl + 1)) hr hp hin (fun y hy hd => by
            obtain ⟨a, b, c, d⟩ := y
            unfold Don at hd ⊢
            simp only [Prod.mk.injEq] at hd ⊢
            omega)
          (refine q_skip ?_; refine q_seq ?_; refine q_block ?_; refine q_seq ?_; refine q_region ?_; (iterate 2 refine ql_loadAB tabOk rfl rfl rfl (by repeat first | exact .head _ | refine .tail _ ?_) (by rfl) (by rfl) ?_); (iterate 5 refine ql_pure tabOk rfl rfl ?_))
          refine ql_callv (val := .tuple #[.bool (choV r p sh wt st cl).1.1, .int .i64 (choV r p sh wt st cl).1.2, .int .i64 (valV r p sh wt st cl)]) tabOk rfl rfl rfl rfl (fun w hs => ?_) ?_; exact by have := rchoose_ca w _ _ _ r p _ l4 sh wt st cl (h0.keep hs.chg0) hr hp (blk_rdI (c := N) (hs.blk (b := bl) (by repeat first | exact .head _ | refine .tail _ ?_)) hlN.symm) hvl (by omega) hwt2 hst2 hclb; rw [tab_cho ht4 hin, ← valV_eq r p sh wt st cl (by omega) hwt2 hst2 hclb] at this; exact this
          (refine ql_pure tabOk rfl rfl ?_; (iterate 3 refine ql_ext tabOk rfl rfl rfl ?_); (iterate 3 refine ql_pure tabOk rfl rfl ?_); refine q_nil ?_; refine q_region ?_; refine ql_pure tabOk rfl rfl ?_; (iterate 2 refine ql_loadAB tabOk rfl rfl rfl (by repeat first | exact .head _ | refine .tail _ ?_) (by rfl) (by rfl) ?_); (iterate 4 refine ql_pure tabOk rfl rfl ?_))
          refine ql_callv (val := .int .i64 ((idxP r p (sh, wt, st, cl) : Nat) : Int)) tabOk rfl rfl rfl rfl (fun w hs => ?_) ?_; exact at_ca w _ r p sh wt st cl (h0.keep hs.chg0) hr hp (by omega) hwt2 hst2 hclb
          (refine ql_pure tabOk rfl rfl ?_)
          refine ql_index tabOk rfl rfl rfl rfl rfl (by omega) (by omega) ?_
          refine ql_storeI tabOk ((idxP r p (sh, wt, st, cl))) rfl rfl rfl (by repeat constructor) (by first | rfl | omega | simp) hix ?_
          (refine q_nil ?_; refine q_blk ?_; refine q_region ?_; refine ql_pure tabOk rfl rfl ?_; refine ql_ar tabOk rfl rfl rfl rfl (by omega) (by omega) ?_; refine ql_pure tabOk rfl rfl ?_; refine q_nil ?_)
          exact hK4 (j + 1, l4.set (idxP r p (sh, wt, st, cl)) (valV r p sh wt st cl)) _ _ ⟨by simp only; omega, by simp only; rw [show ((j + 1 : Nat) : Int) - r.clicks = cl + 1 by omega]; exact hstep⟩ (by simp only; omega) ⟨rfl, rfl, rfl, rfl, rfl, rfl, lookI rfl (by simp only; omega), trivial⟩ (by repeat (first | exact Sp.nil | exact Sp.refl _ | refine Sp.cons (by repeat constructor) ?_))
        · obtain rfl : j = (2 * r.clicks + 1).toNat := by omega
          clear hc hK4
          (refine q_exit _ rfl ?_; refine q_blk ?_; refine q_region ?_; refine ql_pure tabOk rfl rfl ?_; refine ql_ar tabOk rfl rfl rfl rfl (by omega) (by omega) ?_; refine ql_pure tabOk rfl rfl ?_; refine q_nil ?_)
          exact hK3 (st + 1, l4) _ _ ⟨by simp only; omega, ht4.mono (fun y hy hd => by obtain ⟨a, b, c, d⟩ := y; have := (plcL_mem r p a b c d).1 hy; unfold Don; simp only at hd ⊢; omega)⟩ (by simp only; omega) ⟨rfl, rfl, rfl, rfl, rfl, rfl, trivial⟩ (by repeat (first | exact Sp.nil | exact Sp.refl _ | refine Sp.cons (by repeat constructor) ?_))
      · obtain rfl : st = r.drifts.length := by omega
        clear hc hK3
        (refine q_exit _ rfl ?_; refine q_blk ?_; refine q_region ?_; refine ql_pure tabOk rfl rfl ?_; refine ql_ar tabOk rfl rfl rfl rfl (by omega) (by omega) ?_; refine ql_pure tabOk rfl rfl ?_; refine q_nil ?_)
        exact hK2 (wt + 1, l3) _ _ ⟨by simp only; omega, ht3.mono (fun y hy hd => by obtain ⟨a, b, c, d⟩ := y; have := (plcL_mem r p a b c d).1 hy; simp only at hd ⊢; omega)⟩ (by simp only; omega) ⟨rfl, rfl, rfl, rfl, rfl, trivial⟩ (by repeat (first | exact Sp.nil | exact Sp.refl _ | refine Sp.cons (by repeat constructor) ?_))
    · obtain rfl : wt = (p.waits + 1).toNat := by omega
      clear hc hK2
      (refine q_exit _ rfl ?_; refine q_blk ?_; refine q_region ?_; refine ql_pure tabOk rfl rfl ?_; refine ql_ar tabOk rfl rfl rfl rfl (by omega) (by omega) ?_; refine ql_pure tabOk rfl rfl ?_; refine q_nil ?_)
      exact hK1 (k + 1, l2) _ _ ⟨by simp only; omega, ht2.mono (fun y hy hd => by obtain ⟨a, b, c, d⟩ := y; have := (plcL_mem r p a b c d).1 hy; simp only at hd ⊢; omega)⟩ (by simp only; omega) ⟨rfl, rfl, rfl, lookI rfl (by simp only; omega), trivial⟩ (by repeat (first | exact Sp.nil | exact Sp.refl _ | refine Sp.cons (by repeat constructor) ?_))
  · obtain rfl : k = 5 := by omega
    clear hc hK1
    have hall := ht1.all (fun x _ => by omega)
    subst hall
    subst hN
    (refine q_exit _ rfl ?_; refine q_seq ?_; refine q_region ?_; (iterate 2 refine ql_pure tabOk rfl rfl ?_); refine q_nil ?_; refine q_ret ?_)
    refine q_fin tabOk rfl (by repeat (first | exact RVs.nil | apply RVs.tmp rfl | apply RVs.cellA rfl rfl (by repeat first | exact .head _ | refine .tail _ ?_) (by rfl) | apply RVs.cell1 rfl rfl (by repeat first | exact .head _ | refine .tail _ ?_))) fun w hs => ?_
    exact ⟨bl, rfl, hs.sp (by repeat (first | exact Sp.nil | exact Sp.refl _ | refine Sp.cons (by repeat constructor) ?_))⟩

end Go.Proofs.Ytohlillcaadidaa
