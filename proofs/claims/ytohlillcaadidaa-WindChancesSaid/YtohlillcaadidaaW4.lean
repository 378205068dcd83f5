/- My texts Q10, U0, U1, D1, D2, D3, D4, D5, D6, B13, D7, D8, R1, X0, Y0, X1, X2, X3, X4, X5, X6, X7, X8, X9, X10, X11, Y1, E2, E3, B14, B15, H0, H1, H2, H3, E4, E5, E6, H4, joined: a claim takes at most 60 files. -/
import Derived.Test.YtohlillcaadidaaW3

/- Walks: Follow. -/
namespace Go.Proofs.Ytohlillcaadidaa
open Go Go.Eng

/-- How far one is. -/
structure FS where
  shot : Nat
  wt : Int
  cl : Int
  misses : Int
  cost : Int
  steps : Int
def stepF (r : Rg) (p : Ru) (offs : List Int) (x : FS) (st : Int) : FS :=
  if x.shot = 5 then x else
  let c := (choV r p x.shot x.wt.toNat st.toNat x.cl).1
  if c.1 then { x with wt := x.wt - 1, cost := x.cost + p.wait, steps := x.steps + 1 }
  else if hitB r (r.drifts.getD st.toNat 0 + offs.getD x.shot 0 + c.2 * r.unit) then { x with shot := x.shot + 1, cl := c.2, cost := x.cost + p.click * max (c.2 - x.cl) (x.cl - c.2), steps := x.steps + 1 }
  else { x with shot := x.shot + 1, cl := c.2, misses := x.misses + 1, cost := x.cost + p.click * max (c.2 - x.cl) (x.cl - c.2) + p.miss, steps := x.steps + 1 }
def endF (r : Rg) (p : Ru) (states offs : List Int) : FS := states.foldl (stepF r p offs) ⟨0, p.waits, 0, 0, 0, 0⟩
/-- What comes of following the plan: misses, cost, steps; the error. -/
def followV (r : Rg) (p : Ru) (states offs : List Int) : (Int × Int × Int) × Int :=
  if rulesV r p ≠ 0 then ((0, 0, 0), rulesV r p) else if (offs.length : Int) ≠ 5 then ((0, 0, 0), 2) else if 5 + p.waits < (states.length : Int) then ((0, 0, 0), 2)
  else if !(states.all (fun n => inB n 0 ((r.drifts.length : Int) - 1))) then ((0, 0, 0), 1) else if !(offs.all (fun n => inB n (-((r.group.length : Int) / 2)) ((r.group.length : Int) / 2))) then ((0, 0, 0), 3)
  else if (endF r p states offs).shot < 5 then ((0, 0, 0), 6) else (((endF r p states offs).misses, (endF r p states offs).cost, (endF r p states offs).steps), 0)

theorem cho_wait {r : Rg} {p : Ru} {shot wt st : Nat} {cl : Int} (h : (choV r p shot wt st cl).1.1 = true) : 0 < wt ∧ (choV r p shot wt st cl).1.2 = 0 := by
  revert h
  unfold choV chV
  simp only
  split
  · split
    · intro _; exact ⟨by assumption, rfl⟩
    · intro h; cases h
  · intro h; cases h
theorem cho_click {r : Rg} {p : Ru} {shot wt st : Nat} {cl : Int} (hc : -r.clicks ≤ cl ∧ cl ≤ r.clicks) (h : (choV r p shot wt st cl).1.1 = false) : -r.clicks ≤ (choV r p shot wt st cl).1.2 ∧ (choV r p shot wt st cl).1.2 ≤ r.clicks := by
  have h2 := (chClick_spec r p (valV r p (shot + 1) wt) shot wt st cl hc).2.1
  revert h
  unfold choV chV
  simp only
  split
  · split
    · intro h; cases h
    · intro _; exact h2
  · intro _; exact h2

structure FOk (r : Rg) (p : Ru) (k : Nat) (x : FS) : Prop where
  shot : x.shot ≤ 5
  wt : 0 ≤ x.wt ∧ x.wt ≤ p.waits
  cl : -r.clicks ≤ x.cl ∧ x.cl ≤ r.clicks
  misses : 0 ≤ x.misses ∧ x.misses ≤ k
  cost : 0 ≤ x.cost ∧ x.cost ≤ 20000 * k
  steps : 0 ≤ x.steps ∧ x.steps ≤ k
theorem stepF_ok {r : Rg} {p : Ru} (hr : r.Right) (hp : p.Right) {offs : List Int} {k : Nat} {x : FS} (h : FOk r p k x) (st : Int) : FOk r p (k + 1) (stepF r p offs x st) := by
  have h1 := h.shot
  have h2 := h.wt
  have h3 := h.cl
  have h4 := h.misses
  have h5 := h.cost
  have h6 := h.steps
  have hC := hr.clicks
  have w1 := hp.wait
  have w2 := hp.miss
  unfold stepF
  split
  · exact ⟨h1, h2, h3, by omega, by omega, by omega⟩
  · rename_i hn
    simp only
    split
    · rename_i hw
      have := (cho_wait hw).1
      refine ⟨h1, ?_, h3, ?_, ?_, ?_⟩ <;> simp only <;> omega
    · rename_i hw
      have hcl := cho_click (r := r) (p := p) (shot := x.shot) (wt := x.wt.toNat) (st := st.toNat) h3 (by simpa using hw)
      have hfar := far_bd hC.2 h3 hcl
      have a1 := mul_bd0 hp.click hfar
      split <;> refine ⟨?_, ?_, hcl, ?_, ?_, ?_⟩ <;> simp only <;> omega
theorem takeF_ok {r : Rg} {p : Ru} (hr : r.Right) (hp : p.Right) (states offs : List Int) : ∀ k, k ≤ states.length → FOk r p k ((states.take k).foldl (stepF r p offs) ⟨0, p.waits, 0, 0, 0, 0⟩)
  | 0, _ => by
    have h1 := hr.clicks
    have h2' : 0 ≤ p.waits ∧ p.waits ≤ p.waits := ⟨hp.waits.1, Int.le_refl _⟩
    exact ⟨by simp, h2' , by simp; omega, by simp, by simp, by simp⟩
  | k + 1, h => by
    rw [List.take_succ_eq_append_getElem (by omega), List.foldl_append]
    exact stepF_ok hr hp (takeF_ok hr hp states offs k (by omega)) _
theorem stepF_5 {r : Rg} {p : Ru} {offs : List Int} (l : List Int) {x : FS} (h : x.shot = 5) : l.foldl (stepF r p offs) x = x := by
  induction l with
  | nil => rfl
  | cons a l ih => rw [List.foldl_cons, show stepF r p offs x a = x by unfold stepF; rw [if_pos h], ih]

theorem follow1_p (w : World) (b : Nat) (t : TypeId) (r : Rg) (cs : List Value) (es : List Int) (hb : Blk w b cs t) (a : Option Addr) (c : Nat) (hc : cs[5]? = some (.slice a r.drifts.length c)) (hs : r.drifts.length ≤ 1000000) : PredAt Try.prog tab w (.func (.func 91) #[] #[.pointer (some ⟨b, 0, none⟩)]) (ints es) (pI 0 ((r.drifts.length : Int) - 1)) := by
  refine ⟨_, _, _, rfl, rfl, fun w' hw' x hx => ?_⟩
  have hb' := hb.keep hw'
  obtain ⟨y, hy, rfl⟩ := List.mem_map.1 hx
  refine q_of (Sat.nil w' M0) Try.func91 rfl (by simp [Try.ntmps91]) ?_
  (refine q_seq ?_; refine q_region ?_; refine ql_pure tabOk rfl rfl ?_; refine q_nil ?_; refine q_seq ?_; refine q_region ?_; (iterate 2 refine ql_pure tabOk rfl rfl ?_))
  refine ql_loadP tabOk rfl rfl rfl hb' hc ?_
  (refine ql_pure tabOk rfl rfl ?_; refine ql_ar tabOk rfl rfl rfl rfl (by omega) (by omega) ?_)
  refine ql_callv tabOk rfl rfl rfl rfl (fun w hs => in_ca y 0 ((r.drifts.length : Int) - 1) w) ?_
  (refine ql_pure tabOk rfl rfl ?_; refine q_nil ?_; refine q_ret ?_)
  refine q_fin tabOk rfl (by repeat (first | exact RVs.nil | apply RVs.tmp rfl | apply RVs.cellA rfl rfl (by repeat first | exact .head _ | refine .tail _ ?_) (by rfl) | apply RVs.cell1 rfl rfl (by repeat first | exact .head _ | refine .tail _ ?_))) fun w hs => ?_
  exact ⟨rfl, hs.chg0⟩
theorem follow2_p (w : World) (b : Nat) (t : TypeId) (far : Int) (es : List Int) (hb : Blk w b [.int .i64 far] t) (hf : 0 ≤ far ∧ far ≤ 1000000) : PredAt Try.prog tab w (.func (.func 92) #[] #[.pointer (some ⟨b, 0, none⟩)]) (ints es) (pI (-far) far) := by
  refine ⟨_, _, _, rfl, rfl, fun w' hw' x hx => ?_⟩
  have hb' := hb.keep hw'
  obtain ⟨y, hy, rfl⟩ := List.mem_map.1 hx
  refine q_of (Sat.nil w' M0) Try.func92 rfl (by simp [Try.ntmps92]) ?_
  (refine q_seq ?_; refine q_region ?_; refine ql_pure tabOk rfl rfl ?_; refine q_nil ?_; refine q_seq ?_; refine q_region ?_; refine ql_pure tabOk rfl rfl ?_; refine ql_loadP tabOk rfl rfl rfl (by assumption) (by rfl) ?_; refine ql_neg tabOk rfl rfl (by omega) (by omega) ?_; refine ql_loadP tabOk rfl rfl rfl (by assumption) (by rfl) ?_)
  refine ql_callv tabOk rfl rfl rfl rfl (fun w hs => in_ca y (-far) far w) ?_
  (refine ql_pure tabOk rfl rfl ?_; refine q_nil ?_; refine q_ret ?_)
  refine q_fin tabOk rfl (by repeat (first | exact RVs.nil | apply RVs.tmp rfl | apply RVs.cellA rfl rfl (by repeat first | exact .head _ | refine .tail _ ?_) (by rfl) | apply RVs.cell1 rfl rfl (by repeat first | exact .head _ | refine .tail _ ?_))) fun w hs => ?_
  exact ⟨rfl, hs.chg0⟩

theorem chc_flat : flatB Try.prog 47 [none, some .i64] = true := by kernel_rfl

set_option maxHeartbeats 4000000 in
theorem follow_ca (w : World) (l0 h1 l2 h2 : Nat) (cs : List Value) (r : Rg) (p : Ru) (vs vo : Value) (states offs : List Int) (h : RgC w cs r) (hsm : r.Small) (hl : RdI w l0 h1 vs states) (hu : RdI w l2 h2 vo offs) (hlen : states.length ≤ 1000000) (hlen2 : offs.length ≤ 1000000) :
    Ca Try.prog 29 [.agg cs.toArray, .agg #[.int .i64 p.miss, .int .i64 p.click, .int .i64 p.wait, .int .i64 p.waits], vs, vo] w fun v w' =>
    v = .tuple #[.agg #[.int .i64 (followV r p states offs).1.1, .int .i64 (followV r p states offs).1.2.1, .int .i64 (followV r p states offs).1.2.2], .int .i64 (followV r p states offs).2] ∧ Chg [] w w' := by
  have h0 := h
  have s2 := hsm.drifts
  have s1 := hsm.group
  obtain ⟨lo, hi, ag, cg, ad, cd, af, cf, an, cn, rfl, hg, hdr, hf, hn⟩ := h
  obtain ⟨av, cv, rfl, hsd⟩ := hl.outI
  obtain ⟨ao, co, rfl, hod⟩ := hu.outI
  refine q_of (Sat.nil w M0) Try.func29 rfl (by simp [Try.ntmps29]) ?_
  (refine q_seq ?_; refine q_region ?_)
  refine ql_box rfl rfl (fun b4 => ?_)
  skip
  refine ql_box rfl rfl (fun b5 => ?_)
  skip
  refine ql_alloc zero55 rfl (fun b8 => ?_)
  (refine ql_pure tabOk rfl rfl ?_; refine q_nil ?_)
  refine q_scope (fun l a w h => h) ?_
  (refine q_seq ?_; refine q_region ?_; (iterate 2 refine ql_loadAB tabOk rfl rfl rfl (by repeat first | exact .head _ | refine .tail _ ?_) (by rfl) (by rfl) ?_))
  by_cases hru : rulesV r p = 0
  · obtain ⟨hck, hp⟩ := (rules_iff r p).1 hru
    have hr := (right_check r).1 hck
    have hC := hr.clicks
    have hW := hp.waits
    have hD := hr.d2
    refine ql_call (β := Nat × Nat × Nat) tabOk [] _ M0 rfl rfl rfl rfl (Sp.refl _) (fun _ h => h.elim) (fun w' hs => begun_ok w' _ r p (h0.keep hs.chg0) hsm hru) ?_
    rintro ⟨bp, bd, bm⟩ _ rfl
    (refine ql_pure tabOk rfl rfl ?_; (iterate 2 refine ql_ext tabOk rfl rfl rfl ?_); (iterate 2 refine ql_pure tabOk rfl rfl ?_); refine q_nil ?_; refine q_seq ?_; refine q_region ?_; refine ql_pure tabOk rfl rfl ?_; refine ql_loadB tabOk rfl rfl rfl (by repeat first | exact .head _ | refine .tail _ ?_) (by rfl) ?_; refine ql_pure tabOk rfl rfl ?_; refine ql_quoN rfl rfl rfl (by omega) (by omega) (by omega) ?_)
    refine ql_alloc zero3 rfl (fun b12 => ?_)
    (refine ql_set tabOk rfl rfl rfl rfl (by repeat constructor) ?_; refine q_nil ?_; refine q_seq ?_; refine q_block ?_; refine q_seq ?_; refine q_region ?_; (iterate 3 refine ql_pure tabOk rfl rfl ?_); refine q_nil ?_; refine q_cond_false rfl ?_; refine q_seq ?_; refine q_region ?_; (iterate 4 refine ql_pure tabOk rfl rfl ?_))
    by_cases ho : (offs.length : Int) = 5
    · rw [decide_eq_true ho]
      (refine ql_gyes rfl ?_; refine ql_pure tabOk rfl rfl ?_; refine ql_gyes rfl ?_; refine ql_pure tabOk rfl rfl ?_; refine ql_gyes rfl ?_; refine ql_pure tabOk rfl rfl ?_; refine ql_gyes rfl ?_; refine ql_loadB tabOk rfl rfl rfl (by repeat first | exact .head _ | refine .tail _ ?_) (by rfl) ?_; refine ql_gyes rfl ?_; refine ql_ar tabOk rfl rfl rfl rfl (by omega) (by omega) ?_; refine ql_gyes rfl ?_; (iterate 3 refine ql_pure tabOk rfl rfl ?_); refine q_nil ?_)
      by_cases hn : 5 + p.waits < (states.length : Int)
      · rw [decide_eq_true hn]
        (refine q_cond_true rfl ?_; refine q_seq ?_; refine q_region ?_)
        refine ql_mk #[.int .i64 0, .int .i64 0, .int .i64 0] rfl (by kernel_rfl) rfl ?_
        (refine ql_setA tabOk rfl rfl rfl rfl rfl (by repeat constructor) rfl ?_; refine ql_pure tabOk rfl rfl ?_; refine q_nil ?_; refine q_ret ?_)
        refine q_fin tabOk rfl (by repeat (first | exact RVs.nil | apply RVs.tmp rfl | apply RVs.cellA rfl rfl (by repeat first | exact .head _ | refine .tail _ ?_) (by rfl) | apply RVs.cell1 rfl rfl (by repeat first | exact .head _ | refine .tail _ ?_))) fun w hs => ?_
        refine ⟨?_, hs.chg0⟩
        have e : followV r p states offs = ((0, 0, 0), 2) := by unfold followV; rw [if_neg (by simpa using hru), if_neg (by simpa using ho), if_pos hn]
        rw [e]; rfl
      rw [decide_eq_false hn]
      (refine q_cond_false rfl ?_; refine q_seq ?_; refine q_region ?_; (iterate 2 refine ql_pure tabOk rfl rfl ?_))
      refine ql_callv (val := .bool (states.all (fun n => inB n 0 ((r.drifts.length : Int) - 1)))) tabOk rfl rfl rfl rfl (fun w hs => ?_) ?_; exact by have := all_int w l0 h1 _ _ (ints states) (pI 0 ((r.drifts.length : Int) - 1)) (RdE.keep hl hs.chg0) (ints_one _) (by simp; omega) (follow1_p w b4 _ r _ states (hs.blk (by repeat first | exact .head _ | refine .tail _ ?_)) ad cd rfl (by omega)); rw [pI_all] at this; exact this
      ((iterate 2 refine ql_pure tabOk rfl rfl ?_); refine q_nil ?_)
      cases hall : states.all (fun n => inB n 0 ((r.drifts.length : Int) - 1)) with
      | false =>
        (refine q_cond_true rfl ?_; refine q_seq ?_; refine q_region ?_)
        refine ql_mk #[.int .i64 0, .int .i64 0, .int .i64 0] rfl (by kernel_rfl) rfl ?_
        (refine ql_setA tabOk rfl rfl rfl rfl rfl (by repeat constructor) rfl ?_; refine ql_pure tabOk rfl rfl ?_; refine q_nil ?_; refine q_ret ?_)
        refine q_fin tabOk rfl (by repeat (first | exact RVs.nil | apply RVs.tmp rfl | apply RVs.cellA rfl rfl (by repeat first | exact .head _ | refine .tail _ ?_) (by rfl) | apply RVs.cell1 rfl rfl (by repeat first | exact .head _ | refine .tail _ ?_))) fun w hs => ?_
        refine ⟨?_, hs.chg0⟩
        have e : followV r p states offs = ((0, 0, 0), 1) := by unfold followV; rw [if_neg (by simpa using hru), if_neg (by simpa using ho), if_neg hn, hall]; rfl
        rw [e]; rfl
      | true =>
        (refine q_cond_false rfl ?_; refine q_seq ?_; refine q_region ?_; (iterate 2 refine ql_pure tabOk rfl rfl ?_))
        refine ql_callv (val := .bool (offs.all (fun n => inB n (-((r.group.length : Int) / 2)) ((r.group.length : Int) / 2)))) tabOk rfl rfl rfl rfl (fun w hs => ?_) ?_; exact by have := all_int w l2 h2 _ _ (ints offs) (pI (-((r.group.length : Int) / 2)) ((r.group.length : Int) / 2)) (RdE.keep hu hs.chg0) (ints_one _) (by simp; omega) (follow2_p w b12 _ _ offs (hs.blk (by repeat first | exact .head _ | refine .tail _ ?_)) (by omega)); rw [pI_all] at this; exact this
        ((iterate 2 refine ql_pure tabOk rfl rfl ?_); refine q_nil ?_)
        cases hall2 : offs.all (fun n => inB n (-((r.group.length : Int) / 2)) ((r.group.length : Int) / 2)) with
        | false =>
          (refine q_cond_true rfl ?_; refine q_seq ?_; refine q_region ?_)
          refine ql_mk #[.int .i64 0, .int .i64 0, .int .i64 0] rfl (by kernel_rfl) rfl ?_
          (refine ql_setA tabOk rfl rfl rfl rfl rfl (by repeat constructor) rfl ?_; refine ql_pure tabOk rfl rfl ?_; refine q_nil ?_; refine q_ret ?_)
          refine q_fin tabOk rfl (by repeat (first | exact RVs.nil | apply RVs.tmp rfl | apply RVs.cellA rfl rfl (by repeat first | exact .head _ | refine .tail _ ?_) (by rfl) | apply RVs.cell1 rfl rfl (by repeat first | exact .head _ | refine .tail _ ?_))) fun w hs => ?_
          refine ⟨?_, hs.chg0⟩
          have e : followV r p states offs = ((0, 0, 0), 3) := by unfold followV; rw [if_neg (by simpa using hru), if_neg (by simpa using ho), if_neg hn, hall, hall2]; rfl
          rw [e]; rfl
        | true =>
          (refine q_cond_false rfl ?_; refine q_skip ?_; refine q_blk ?_; refine q_seq ?_; refine q_region ?_; refine ql_pure tabOk rfl rfl ?_)
          refine ql_call (β := Vf) (ψ := fun vf' v => GoodV r p vf' ∧ ∀ sh wt st cl, (sh, wt, st, cl) ∈ plcL r p → (vf' sh wt st cl).isSome = true) (L' := fun vf' => [mpV bm vf']) tabOk
            [mpV bm (fun _ _ _ _ => none)] _ (· = bm) rfl rfl rfl rfl (Sp.cons (by repeat constructor) (Sp.refl _)) (fun b hb => ⟨_, .head _, hb⟩) (fun w' hs => (fill_ca w' bp bd bm r p hr hp (fun _ _ _ _ => none) ⟨_, hs.blk (b := bp) (by repeat first | exact .head _ | refine .tail _ ?_), _, _, hs.blk (b := bd) (by repeat first | exact .head _ | refine .tail _ ?_), h0.keep hs.chg0⟩ (hs.mem (show mpV bm (fun _ _ _ _ => none) ∈ _ from .head _)) (fun _ _ _ _ _ h => by cases h)).mono fun v w'' ⟨vf', _, g1, g2, g3⟩ => ⟨vf', ⟨g1, g2⟩, g3⟩) ?_
          rintro vf v ⟨hgood, hfull⟩
          (refine q_nil ?_; refine q_seq ?_; refine q_region ?_)
          refine ql_alloc zero55 rfl (fun b13 => ?_)
          (refine q_nil ?_; refine q_seq ?_; refine q_region ?_; refine ql_pure tabOk rfl rfl ?_; refine ql_loadB tabOk rfl rfl rfl (by repeat first | exact .head _ | refine .tail _ ?_) (by rfl) ?_)
          refine ql_mk #[.int .i64 0, .int .i64 p.waits, .int .i64 0, .int .i64 0] rfl (by kernel_rfl) rfl ?_
          refine ql_alloc zero122 rfl (fun b14 => ?_)
          (refine ql_setA tabOk rfl rfl rfl rfl rfl (by repeat constructor) rfl ?_; refine q_nil ?_; refine q_seq ?_; refine q_label ?_; (iterate 2 refine q_seq ?_); refine q_region ?_; (iterate 3 refine ql_pure tabOk rfl rfl ?_); refine q_nil ?_; refine q_block ?_)
          have hst5 : (states.length : Int) ≤ 8 := by omega
          refine q_loop (σ := Nat × Int × FS) (fun s => s.1 ≤ states.length ∧ s.2.2 = (states.take s.1).foldl (stepF r p offs) ⟨0, p.waits, 0, 0, 0, 0⟩) (fun s => states.length - s.1)
            (fun s => [(3, .slice ao offs.length co), (4, .pointer (some ⟨b4, 0, none⟩)), (5, .pointer (some ⟨b5, 0, none⟩)), (8, .pointer (some ⟨b8, 0, none⟩)), (10, .pointer (some ⟨bp, 0, none⟩)), (13, .pointer (some ⟨b13, 0, none⟩)), (14, .pointer (some ⟨b14, 0, none⟩)), (64, .slice av states.length cv), (65, .int .i64 states.length), (66, .int .i64 s.1)])
            (fun s => [.pt b14 [.int .i64 s.2.2.shot, .int .i64 s.2.2.wt, .int .i64 s.2.1, .int .i64 s.2.2.cl] 122, .pt b13 [.int .i64 s.2.2.misses, .int .i64 s.2.2.cost, .int .i64 s.2.2.steps] 55, mpV bm vf, .pt bp [.pointer (some ⟨bd, 0, none⟩), .int .i64 p.miss, .int .i64 p.click, .int .i64 p.wait, .int .i64 p.waits, .map (some bm)] 126,
              .pt bd [.int .i64 r.radius, .int .i64 r.unit, .int .i64 r.clicks, .int .i64 r.total, .slice ag r.group.length cg, .slice ad r.drifts.length cd, .slice af r.first.length cf, .slice an r.next.length cn] 149, .pt b8 [.int .i64 0, .int .i64 0, .int .i64 0] 55, .pt b5 [.int .i64 p.miss, .int .i64 p.click, .int .i64 p.wait, .int .i64 p.waits] 27,
              .pt b4 [.int .i64 r.radius, .int .i64 r.unit, .int .i64 r.clicks, .int .i64 r.total, .slice ag r.group.length cg, .slice ad r.drifts.length cd, .slice af r.first.length cf, .slice an r.next.length cn] 25]) (0, 0, ⟨0, p.waits, 0, 0, 0, 0⟩) ⟨by simp, rfl⟩ ⟨rfl, rfl, rfl, rfl, rfl, rfl, rfl, rfl, rfl, rfl, trivial⟩ (by repeat (first | exact Sp.nil | exact Sp.refl _ | refine Sp.cons (by repeat constructor) ?_)) ?_
          rintro ⟨k, z, sh, wt, cl, mi, co', st'⟩ ⟨hk, hx⟩ K hK
          simp only at hk hx
          have hfo := takeF_ok hr hp states offs k hk
          rw [← hx] at hfo
          have f1 := hfo.shot
          have f2 := hfo.wt
          have f3 := hfo.cl
          have f4 := hfo.misses
          have f5 := hfo.cost
          have f6 := hfo.steps
          simp only at f1 f2 f3 f4 f5 f6
          dsimp only
          (refine q_seq ?_; refine q_region ?_; refine ql_pure tabOk rfl rfl ?_; refine q_nil ?_; refine q_seq ?_)
          refine q_if rfl (fun hc => ?_) (fun hc => ?_)
          · have hk2 : k < states.length := by omega
            clear hc
            obtain ⟨av', cv', hsl, hvd⟩ := RdI.outI hl
            cases hsl
            obtain ⟨bv, ov, rfl⟩ := hvd (by omega)
            obtain ⟨ad', cd', hsl, hdd⟩ := RdI.outI hdr
            cases hsl
            obtain ⟨bdr, odr, rfl⟩ := hdd (by have := hr.d1; omega)
            obtain ⟨ao', co2, hsl, hod2⟩ := RdI.outI hu
            cases hsl
            obtain ⟨bo, oo, rfl⟩ := hod2 (by omega)
            have hsk := inB_iff.1 (List.all_eq_true.1 hall _ (List.getElem_mem hk2))
            obtain ⟨sn, hsn⟩ : ∃ sn : Nat, states[k] = (sn : Int) := ⟨states[k].toNat, by omega⟩
            have hsd2 : sn < r.drifts.length := by omega
            (refine q_skip ?_; refine q_seq ?_; refine q_block ?_; refine q_seq ?_; refine q_region ?_)
            (refine ql_index tabOk rfl rfl rfl rfl rfl (by omega) (by omega) ?_; refine ql_load1 tabOk rfl rfl rfl (fun w hs => RdI.at (RdE.keep hl hs.chg0) k hk2) ?_)
            (refine ql_pure tabOk rfl rfl ?_; refine q_nil ?_; (iterate 2 refine q_seq ?_); refine q_region ?_; refine ql_pure tabOk rfl rfl ?_; refine ql_loadB tabOk rfl rfl rfl (by repeat first | exact .head _ | refine .tail _ ?_) (by rfl) ?_; refine ql_pure tabOk rfl rfl ?_; refine q_nil ?_)
            by_cases h5 : sh = 5
            · rw [decide_eq_true (show (sh : Int) = 5 by omega)]
              have hend : endF r p states offs = ⟨sh, wt, cl, mi, co', st'⟩ := by
                unfold endF
                rw [← List.take_append_drop k states, List.foldl_append, ← hx]
                exact stepF_5 _ h5
              (refine q_cond_true rfl ?_; refine q_exit _ rfl ?_; (iterate 2 refine q_seq ?_); refine q_region ?_; refine ql_pure tabOk rfl rfl ?_; refine ql_loadB tabOk rfl rfl rfl (by repeat first | exact .head _ | refine .tail _ ?_) (by rfl) ?_; refine ql_pure tabOk rfl rfl ?_; refine q_nil ?_)
              refine q_if rfl (fun hc => ?_) (fun hc => ?_)
              · (refine q_seq ?_; refine q_region ?_)
                refine ql_mk #[.int .i64 0, .int .i64 0, .int .i64 0] rfl (by kernel_rfl) rfl ?_
                (refine ql_setA tabOk rfl rfl rfl rfl rfl (by repeat constructor) rfl ?_; refine ql_pure tabOk rfl rfl ?_; refine q_nil ?_; refine q_ret ?_)
                refine q_fin tabOk rfl (by repeat (first | exact RVs.nil | apply RVs.tmp rfl | apply RVs.cellA rfl rfl (by repeat first | exact .head _ | refine .tail _ ?_) (by rfl) | apply RVs.cell1 rfl rfl (by repeat first | exact .head _ | refine .tail _ ?_))) fun w hs => ?_
                refine ⟨?_, hs.chg0⟩
                have e : followV r p states offs = ((0, 0, 0), 6) := by unfold followV; rw [if_neg (by simpa using hru), if_neg (by simpa using ho), if_neg hn, hall, hall2, hend]; exact if_pos (by show sh < 5; omega)
                rw [e]; rfl
              · (refine q_skip ?_; refine q_seq ?_; refine q_region ?_; refine ql_loadAB tabOk rfl rfl rfl (by repeat first | exact .head _ | refine .tail _ ?_) (by rfl) (by rfl) ?_; refine ql_setA tabOk rfl rfl rfl rfl rfl (by repeat constructor) rfl ?_; refine ql_pure tabOk rfl rfl ?_; refine q_nil ?_; refine q_ret ?_)
                refine q_fin tabOk rfl (by repeat (first | exact RVs.nil | apply RVs.tmp rfl | apply RVs.cellA rfl rfl (by repeat first | exact .head _ | refine .tail _ ?_) (by rfl) | apply RVs.cell1 rfl rfl (by repeat first | exact .head _ | refine .tail _ ?_))) fun w hs => ?_
                refine ⟨?_, hs.chg0⟩
                have e : followV r p states offs = ((mi, co', st'), 0) := by unfold followV; rw [if_neg (by simpa using hru), if_neg (by simpa using ho), if_neg hn, hall, hall2, hend]; exact if_neg (by show ¬ sh < 5; omega)
                rw [e]; rfl
            rw [decide_eq_false (show ¬ (sh : Int) = 5 by omega)]
            obtain ⟨ch, hch⟩ : ∃ ch, ch = choV r p sh wt.toNat sn cl := ⟨_, rfl⟩
            have hstep : (states.take (k + 1)).foldl (stepF r p offs) ⟨0, p.waits, 0, 0, 0, 0⟩ = stepF r p offs ⟨sh, wt, cl, mi, co', st'⟩ (sn : Int) := by
              rw [List.take_succ_eq_append_getElem hk2, List.foldl_append, ← hx, hsn]
              rfl
            have hsh : sh < offs.length := by omega
            (refine q_cond_false rfl ?_; refine q_skip ?_; refine q_seq ?_; refine q_region ?_; (iterate 2 refine ql_pure tabOk rfl rfl ?_); refine ql_st2 tabOk rfl rfl rfl rfl (by repeat constructor) ?_; refine q_nil ?_; refine q_seq ?_; refine q_region ?_; refine ql_pure tabOk rfl rfl ?_; refine ql_loadAB tabOk rfl rfl rfl (by repeat first | exact .head _ | refine .tail _ ?_) (by rfl) (by rfl) ?_)
            rw [hsn]
            skip
            refine ql_callv (val := .tuple #[.agg #[.bool ch.1.1, .int .i64 ch.1.2], .int .i64 ch.2]) tabOk rfl rfl rfl rfl (fun w hs => ?_) ?_; exact by have := choose_full w bp bd bm r p vf sh wt.toNat sn cl ⟨_, hs.blk (b := bp) (by repeat first | exact .head _ | refine .tail _ ?_), _, _, hs.blk (b := bd) (by repeat first | exact .head _ | refine .tail _ ?_), h0.keep hs.chg0⟩ (hs.mem (show mpV bm vf ∈ _ from by repeat first | exact .head _ | refine .tail _ ?_)) hr hp hgood hfull (by omega) (by omega) hsd2 f3; rw [← hch, show ((wt.toNat : Nat) : Int) = wt by omega] at this; exact this
            (refine ql_pure tabOk rfl rfl ?_; (iterate 2 refine ql_ext tabOk rfl rfl rfl ?_))
            refine ql_alloc zero47 rfl (fun b17 => ?_)
            (refine ql_setA tabOk rfl rfl rfl rfl rfl (by repeat constructor) rfl ?_; refine ql_pure tabOk rfl rfl ?_; refine q_nil ?_; refine q_seq ?_; refine q_region ?_; refine ql_pure tabOk rfl rfl ?_; refine ql_loadB tabOk rfl rfl rfl (by repeat first | exact .head _ | refine .tail _ ?_) (by rfl) ?_; refine ql_ar tabOk rfl rfl rfl rfl (by omega) (by omega) ?_; refine ql_pure tabOk rfl rfl ?_; refine ql_st2 tabOk rfl rfl rfl rfl (by repeat constructor) ?_; refine q_nil ?_; (iterate 2 refine q_seq ?_); refine q_region ?_; refine ql_loadAB tabOk rfl rfl rfl (by repeat first | exact .head _ | refine .tail _ ?_) (by rfl) (by rfl) ?_)
            refine ql_mk #[.bool true, .int .i64 0] rfl (by kernel_rfl) rfl ?_
            refine ql_eqF (xs := [.bool ch.1.1, .int .i64 ch.1.2]) (ys := [.bool true, .int .i64 0]) [none, some .i64] chc_flat rfl rfl rfl rfl rfl ?_
            (refine q_nil ?_)
            cases hcw : ch.1.1 with
            | true =>
              have hw0 := cho_wait (by rw [← hch]; exact hcw)
              rw [← hch] at hw0
              rw [hw0.2]
              have e1 : stepF r p offs ⟨sh, wt, cl, mi, co', st'⟩ (sn : Int) = ⟨sh, wt - 1, cl, mi, co' + p.wait, st' + 1⟩ := by
                unfold stepF
                rw [if_neg h5]
                simp only [Int.toNat_natCast]
                rw [← hch, if_pos hcw]
              have w1 := hp.wait
              (refine q_cond_true rfl ?_; refine q_seq ?_; refine q_region ?_; refine ql_pure tabOk rfl rfl ?_; refine ql_loadB tabOk rfl rfl rfl (by repeat first | exact .head _ | refine .tail _ ?_) (by rfl) ?_; refine ql_ar tabOk rfl rfl rfl rfl (by omega) (by omega) ?_; refine ql_pure tabOk rfl rfl ?_; refine ql_st1 tabOk rfl rfl rfl rfl (by repeat constructor) ?_; refine q_nil ?_; refine q_seq ?_; refine q_region ?_; refine ql_pure tabOk rfl rfl ?_; refine ql_loadB tabOk rfl rfl rfl (by repeat first | exact .head _ | refine .tail _ ?_) (by rfl) ?_; refine ql_pure tabOk rfl rfl ?_; refine ql_loadB tabOk rfl rfl rfl (by repeat first | exact .head _ | refine .tail _ ?_) (by rfl) ?_; refine ql_ar tabOk rfl rfl rfl rfl (by omega) (by omega) ?_; refine ql_pure tabOk rfl rfl ?_; refine ql_st1 tabOk rfl rfl rfl rfl (by repeat constructor) ?_; refine q_nil ?_; refine q_exit _ rfl ?_; refine q_region ?_; refine ql_ar tabOk rfl rfl rfl rfl (by omega) (by omega) ?_; refine ql_pure tabOk rfl rfl ?_; refine q_nil ?_)
              exact hK (k + 1, sn, ⟨sh, wt - 1, cl, mi, co' + p.wait, st' + 1⟩) _ _ ⟨by simp only; omega, by simp only; rw [hstep, e1]⟩ (by simp only; omega) ⟨rfl, rfl, rfl, rfl, rfl, rfl, rfl, rfl, rfl, rfl, trivial⟩ (by repeat (first | exact Sp.nil | exact Sp.refl _ | refine Sp.cons (by repeat constructor) ?_))
            | false =>
              have hcl := cho_click (r := r) (p := p) (shot := sh) (wt := wt.toNat) (st := sn) f3 (by rw [← hch]; exact hcw)
              rw [← hch] at hcl
              have hfar := far_bd hC.2 f3 hcl
              have a1 := mul_bd0 hp.click hfar
              have hdb := hr.drift _ (List.getElem_mem hsd2)
              have hob := inB_iff.1 (List.all_eq_true.1 hall2 _ (List.getElem_mem hsh))
              have hg2 := hr.g2
              have hun := hr.unit
              have a2 := mul_bd (show -6 ≤ ch.1.2 ∧ ch.1.2 ≤ 6 by omega) (show -20 ≤ r.unit ∧ r.unit ≤ 20 by omega)
              have hgd : r.drifts.getD sn 0 = r.drifts[sn] := by simp [hsd2]
              have hgo : offs.getD sh 0 = offs[sh] := by simp [hsh]
              have w1 := hp.miss
              (refine q_cond_false rfl ?_; refine q_skip ?_; refine q_seq ?_; refine q_region ?_; refine ql_pure tabOk rfl rfl ?_; refine ql_loadB tabOk rfl rfl rfl (by repeat first | exact .head _ | refine .tail _ ?_) (by rfl) ?_; refine ql_pure tabOk rfl rfl ?_; refine ql_loadB tabOk rfl rfl rfl (by repeat first | exact .head _ | refine .tail _ ?_) (by rfl) ?_; refine ql_pure tabOk rfl rfl ?_; refine ql_loadB tabOk rfl rfl rfl (by repeat first | exact .head _ | refine .tail _ ?_) (by rfl) ?_; refine ql_pure tabOk rfl rfl ?_; refine ql_loadB tabOk rfl rfl rfl (by repeat first | exact .head _ | refine .tail _ ?_) (by rfl) ?_; refine ql_ar tabOk rfl rfl rfl rfl (by omega) (by omega) ?_; refine ql_pure tabOk rfl rfl ?_; refine ql_loadB tabOk rfl rfl rfl (by repeat first | exact .head _ | refine .tail _ ?_) (by rfl) ?_; refine ql_pure tabOk rfl rfl ?_; refine ql_loadB tabOk rfl rfl rfl (by repeat first | exact .head _ | refine .tail _ ?_) (by rfl) ?_; refine ql_ar tabOk rfl rfl rfl rfl (by omega) (by omega) ?_; refine ql_pure tabOk rfl rfl ?_; (iterate 2 refine ql_ar tabOk rfl rfl rfl rfl (by omega) (by omega) ?_); refine ql_pure tabOk rfl rfl ?_; refine ql_st1 tabOk rfl rfl rfl rfl (by repeat constructor) ?_; refine q_nil ?_; (iterate 2 refine q_seq ?_); refine q_region ?_; refine ql_pure tabOk rfl rfl ?_; refine ql_loadB tabOk rfl rfl rfl (by repeat first | exact .head _ | refine .tail _ ?_) (by rfl) ?_; refine ql_pure tabOk rfl rfl ?_; refine ql_st3 tabOk rfl rfl rfl rfl (by repeat constructor) ?_; refine q_nil ?_; refine q_seq ?_)
              refine q_draw _ [] (Sp.refl _) (by kernel_rfl) (by kernel_rfl) ?_
              ((iterate 3 refine qf_pure tabOk rfl rfl rfl ?_); refine qf_loadB tabOk rfl rfl rfl (by repeat first | exact .head _ | refine .tail _ ?_) (by rfl) ?_; refine qf_pure tabOk rfl rfl rfl ?_; refine qf_loadB tabOk rfl rfl rfl (by repeat first | exact .head _ | refine .tail _ ?_) (by rfl) ?_; refine qf_pure tabOk rfl rfl rfl ?_)
              (refine qf_index tabOk rfl rfl rfl rfl rfl (by omega) (by omega) ?_; refine qf_load1 tabOk rfl rfl rfl (fun w hs => RdI.at (RdE.keep hdr hs.chg0) sn hsd2) ?_)
              ((iterate 2 refine qf_pure tabOk rfl rfl rfl ?_); refine qf_loadB tabOk rfl rfl rfl (by repeat first | exact .head _ | refine .tail _ ?_) (by rfl) ?_)
              (refine qf_index tabOk rfl rfl rfl rfl rfl (by omega) (by omega) ?_; refine qf_load1 tabOk rfl rfl rfl (fun w hs => RdI.at (RdE.keep hu hs.chg0) sh hsh) ?_)
              (refine qf_ar tabOk rfl rfl rfl rfl (by omega) (by omega) ?_; refine qf_pure tabOk rfl rfl rfl ?_; refine qf_loadB tabOk rfl rfl rfl (by repeat first | exact .head _ | refine .tail _ ?_) (by rfl) ?_; refine qf_pure tabOk rfl rfl rfl ?_; refine qf_loadB tabOk rfl rfl rfl (by repeat first | exact .head _ | refine .tail _ ?_) (by rfl) ?_; (iterate 2 refine qf_ar tabOk rfl rfl rfl rfl (by omega) (by omega) ?_))
              refine qf_callv (val := .bool (hitB r (r.drifts[sn] + offs[sh] + ch.1.2 * r.unit))) tabOk rfl rfl rfl rfl (fun w hs => ?_) ?_; exact hits_ca w bd r _ ⟨_, _, hs.blk (b := bd) (by repeat first | exact .head _ | refine .tail _ ?_), h0.keep hs.chg0⟩ hr.radius
              (refine qf_pure tabOk rfl rfl rfl ?_; refine qf_nil ?_)
              cases hhit : hitB r (r.drifts[sn] + offs[sh] + ch.1.2 * r.unit) with
              | true =>
                have e1 : stepF r p offs ⟨sh, wt, cl, mi, co', st'⟩ (sn : Int) = ⟨sh + 1, wt, ch.1.2, mi, co' + p.click * max (ch.1.2 - cl) (cl - ch.1.2), st' + 1⟩ := by
                  unfold stepF
                  rw [if_neg h5]
                  simp only [Int.toNat_natCast]
                  rw [← hch, if_neg (by rw [hcw]; decide), hgd, hgo, if_pos hhit]
                (refine q_cond_false rfl ?_; refine q_skip ?_; refine q_region ?_; refine ql_pure tabOk rfl rfl ?_; refine ql_loadB tabOk rfl rfl rfl (by repeat first | exact .head _ | refine .tail _ ?_) (by rfl) ?_; refine ql_ar tabOk rfl rfl rfl rfl (by omega) (by omega) ?_; refine ql_pure tabOk rfl rfl ?_; refine ql_st0 tabOk rfl rfl rfl rfl (by repeat constructor) ?_; refine q_nil ?_; refine q_blk ?_; refine q_region ?_; refine ql_ar tabOk rfl rfl rfl rfl (by omega) (by omega) ?_; refine ql_pure tabOk rfl rfl ?_; refine q_nil ?_)
                exact hK (k + 1, sn, ⟨sh + 1, wt, ch.1.2, mi, co' + p.click * max (ch.1.2 - cl) (cl - ch.1.2), st' + 1⟩) _ _ ⟨by simp only; omega, by simp only; rw [hstep, e1]⟩ (by simp only; omega) ⟨rfl, rfl, rfl, rfl, rfl, rfl, rfl, rfl, rfl, rfl, trivial⟩ (by repeat (first | exact Sp.nil | exact Sp.refl _ | refine Sp.cons (by repeat constructor) ?_))
              | false =>
                have e1 : stepF r p offs ⟨sh, wt, cl, mi, co', st'⟩ (sn : Int) = ⟨sh + 1, wt, ch.1.2, mi + 1, co' + p.click * max (ch.1.2 - cl) (cl - ch.1.2) + p.miss, st' + 1⟩ := by
                  unfold stepF
                  rw [if_neg h5]
                  simp only [Int.toNat_natCast]
                  rw [← hch, if_neg (by rw [hcw]; decide), hgd, hgo, if_neg (by rw [hhit]; decide)]
                (refine q_cond_true rfl ?_; refine q_seq ?_; refine q_region ?_; refine ql_pure tabOk rfl rfl ?_; refine ql_loadB tabOk rfl rfl rfl (by repeat first | exact .head _ | refine .tail _ ?_) (by rfl) ?_; refine ql_ar tabOk rfl rfl rfl rfl (by omega) (by omega) ?_; refine ql_pure tabOk rfl rfl ?_; refine ql_st0 tabOk rfl rfl rfl rfl (by repeat constructor) ?_; refine q_nil ?_; refine q_region ?_; refine ql_pure tabOk rfl rfl ?_; refine ql_loadB tabOk rfl rfl rfl (by repeat first | exact .head _ | refine .tail _ ?_) (by rfl) ?_; refine ql_pure tabOk rfl rfl ?_; refine ql_loadB tabOk rfl rfl rfl (by repeat first | exact .head _ | refine .tail _ ?_) (by rfl) ?_; refine ql_ar tabOk rfl rfl rfl rfl (by omega) (by omega) ?_; refine ql_pure tabOk rfl rfl ?_; refine ql_st1 tabOk rfl rfl rfl rfl (by repeat constructor) ?_; refine q_nil ?_; refine q_region ?_; refine ql_pure tabOk rfl rfl ?_; refine ql_loadB tabOk rfl rfl rfl (by repeat first | exact .head _ | refine .tail _ ?_) (by rfl) ?_; refine ql_ar tabOk rfl rfl rfl rfl (by omega) (by omega) ?_; refine ql_pure tabOk rfl rfl ?_; refine ql_st0 tabOk rfl rfl rfl rfl (by repeat constructor) ?_; refine q_nil ?_; refine q_blk ?_; refine q_region ?_; refine ql_ar tabOk rfl rfl rfl rfl (by omega) (by omega) ?_; refine ql_pure tabOk rfl rfl ?_; refine q_nil ?_)
                exact hK (k + 1, sn, ⟨sh + 1, wt, ch.1.2, mi + 1, co' + p.click * max (ch.1.2 - cl) (cl - ch.1.2) + p.miss, st' + 1⟩) _ _ ⟨by simp only; omega, by simp only; rw [hstep, e1]⟩ (by simp only; omega) ⟨rfl, rfl, rfl, rfl, rfl, rfl, rfl, rfl, rfl, rfl, trivial⟩ (by repeat (first | exact Sp.nil | exact Sp.refl _ | refine Sp.cons (by repeat constructor) ?_))
          · obtain rfl : k = states.length := by omega
            have hend : endF r p states offs = ⟨sh, wt, cl, mi, co', st'⟩ := by
              rw [List.take_of_length_le (Nat.le_refl _)] at hx
              exact hx.symm
            clear hc
            (refine q_exit _ rfl ?_; (iterate 2 refine q_seq ?_); refine q_region ?_; refine ql_pure tabOk rfl rfl ?_; refine ql_loadB tabOk rfl rfl rfl (by repeat first | exact .head _ | refine .tail _ ?_) (by rfl) ?_; refine ql_pure tabOk rfl rfl ?_; refine q_nil ?_)
            refine q_if rfl (fun hc => ?_) (fun hc => ?_)
            · (refine q_seq ?_; refine q_region ?_)
              refine ql_mk #[.int .i64 0, .int .i64 0, .int .i64 0] rfl (by kernel_rfl) rfl ?_
              (refine ql_setA tabOk rfl rfl rfl rfl rfl (by repeat constructor) rfl ?_; refine ql_pure tabOk rfl rfl ?_; refine q_nil ?_; refine q_ret ?_)
              refine q_fin tabOk rfl (by repeat (first | exact RVs.nil | apply RVs.tmp rfl | apply RVs.cellA rfl rfl (by repeat first | exact .head _ | refine .tail _ ?_) (by rfl) | apply RVs.cell1 rfl rfl (by repeat first | exact .head _ | refine .tail _ ?_))) fun w hs => ?_
              refine ⟨?_, hs.chg0⟩
              have e : followV r p states offs = ((0, 0, 0), 6) := by unfold followV; rw [if_neg (by simpa using hru), if_neg (by simpa using ho), if_neg hn, hall, hall2, hend]; exact if_pos (by show sh < 5; omega)
              rw [e]; rfl
            · (refine q_skip ?_; refine q_seq ?_; refine q_region ?_; refine ql_loadAB tabOk rfl rfl rfl (by repeat first | exact .head _ | refine .tail _ ?_) (by rfl) (by rfl) ?_; refine ql_setA tabOk rfl rfl rfl rfl rfl (by repeat constructor) rfl ?_; refine ql_pure tabOk rfl rfl ?_; refine q_nil ?_; refine q_ret ?_)
              refine q_fin tabOk rfl (by repeat (first | exact RVs.nil | apply RVs.tmp rfl | apply RVs.cellA rfl rfl (by repeat first | exact .head _ | refine .tail _ ?_) (by rfl) | apply RVs.cell1 rfl rfl (by repeat first | exact .head _ | refine .tail _ ?_))) fun w hs => ?_
              refine ⟨?_, hs.chg0⟩
              have e : followV r p states offs = ((mi, co', st'), 0) := by unfold followV; rw [if_neg (by simpa using hru), if_neg (by simpa using ho), if_neg hn, hall, hall2, hend]; exact if_neg (by show ¬ sh < 5; omega)
              rw [e]; rfl
    · rw [decide_eq_false ho]
      ((iterate 6 refine ql_gno rfl rfl rfl ?_); (iterate 2 refine ql_pure tabOk rfl rfl ?_); refine q_nil ?_; refine q_cond_true rfl ?_; refine q_seq ?_; refine q_region ?_)
      refine ql_mk #[.int .i64 0, .int .i64 0, .int .i64 0] rfl (by kernel_rfl) rfl ?_
      (refine ql_setA tabOk rfl rfl rfl rfl rfl (by repeat constructor) rfl ?_; refine ql_pure tabOk rfl rfl ?_; refine q_nil ?_; refine q_ret ?_)
      refine q_fin tabOk rfl (by repeat (first | exact RVs.nil | apply RVs.tmp rfl | apply RVs.cellA rfl rfl (by repeat first | exact .head _ | refine .tail _ ?_) (by rfl) | apply RVs.cell1 rfl rfl (by repeat first | exact .head _ | refine .tail _ ?_))) fun w hs => ?_
      refine ⟨?_, hs.chg0⟩
      have e : followV r p states offs = ((0, 0, 0), 2) := by unfold followV; rw [if_neg (by simpa using hru), if_pos ho]
      rw [e]; rfl
  · refine ql_callv (val := .tuple #[.pointer none, .int .i64 (rulesV r p)]) tabOk rfl rfl rfl rfl (fun w hs => ?_) ?_; exact begun_no w _ r p (h0.keep hs.chg0) hsm hru
    (refine ql_pure tabOk rfl rfl ?_; (iterate 2 refine ql_ext tabOk rfl rfl rfl ?_); (iterate 2 refine ql_pure tabOk rfl rfl ?_); refine q_nil ?_; refine q_seq ?_; refine q_region ?_; refine ql_pure tabOk rfl rfl ?_; refine ql_loadB tabOk rfl rfl rfl (by repeat first | exact .head _ | refine .tail _ ?_) (by rfl) ?_; refine ql_pure tabOk rfl rfl ?_; refine ql_quoN rfl rfl rfl (by omega) (by omega) (by omega) ?_)
    refine ql_alloc zero3 rfl (fun b12 => ?_)
    (refine ql_set tabOk rfl rfl rfl rfl (by repeat constructor) ?_; refine q_nil ?_; refine q_seq ?_; refine q_block ?_; refine q_seq ?_; refine q_region ?_; (iterate 3 refine ql_pure tabOk rfl rfl ?_); refine q_nil ?_)
    rw [decide_eq_false hru]
    (refine q_cond_true rfl ?_; refine q_seq ?_; refine q_region ?_)
    refine ql_mk #[.int .i64 0, .int .i64 0, .int .i64 0] rfl (by kernel_rfl) rfl ?_
    (refine ql_pure tabOk rfl rfl ?_; refine ql_setA tabOk rfl rfl rfl rfl rfl (by repeat constructor) rfl ?_; refine ql_pure tabOk rfl rfl ?_; refine q_nil ?_; refine q_ret ?_)
    refine q_fin tabOk rfl (by repeat (first | exact RVs.nil | apply RVs.tmp rfl | apply RVs.cellA rfl rfl (by repeat first | exact .head _ | refine .tail _ ?_) (by rfl) | apply RVs.cell1 rfl rfl (by repeat first | exact .head _ | refine .tail _ ?_))) fun w hs => ?_
    refine ⟨?_, hs.chg0⟩
    have e : followV r p states offs = ((0, 0, 0), rulesV r p) := by unfold followV; rw [if_pos hru]
    rw [e]; rfl

end Go.Proofs.Ytohlillcaadidaa

/- Walks: Two, Winds. -/
namespace Go.Proofs.Ytohlillcaadidaa
open Go Go.Eng

theorem Blk.rdI {w : World} {b : Nat} {l : List Int} {t : TypeId} {c : Nat} (h : Blk w b (ints l) t) : RdI w 0 w.heap.size (.slice (some ⟨b, 0, none⟩) l.length c) l :=
  RdI.of ((Blk.rd h (by simp) c).wide (Nat.zero_le _) h.lt)
theorem RdII.of {w : World} {lo hi : Nat} {v : Value} {ll : List (List Int)} {vs : List Value} (h : Rd w lo hi v 1 vs.length vs) (h1 : vs.length = ll.length) (h2 : ∀ i (h : i < vs.length) (h' : i < ll.length), RdI w lo hi vs[i] ll[i]) (h3 : ∀ e ∈ vs, oneV e = true) : RdII w lo hi v ll :=
  ⟨vs, RdE.one h h3, h1, h2⟩

/-- Pieces that hold a range. -/
def OwnR (L : List Ck) (cs : List Value) (r : Rg) : Prop := ∀ w, (∀ c ∈ L, c.p w) → RgC w cs r
theorem OwnR.at {L : List Ck} {cs : List Value} {r : Rg} {w0 w : World} {M : Nat → Prop} {H : List Ck} (h : OwnR L cs r) (hs : Sat w0 M H w) (hm : un L ∈ H) : RgC w cs r := h w (hs.mem hm).1

/-- The range of example 1. -/
def twoR : Rg := ⟨2, 2, 1, 2, [1, 2, 1], [0, 3], [1, 1], [[2, 0], [0, 2]]⟩
abbrev twoC (b1 b2 b3 b6 : Nat) : List Value := [.int .i64 2, .int .i64 2, .int .i64 1, .int .i64 2, .slice (some ⟨b1, 0, none⟩) 3 3, .slice (some ⟨b2, 0, none⟩) 2 2, .slice (some ⟨b3, 0, none⟩) 2 2, .slice (some ⟨b6, 0, none⟩) 2 2]
abbrev twoL (n1 n2 n3 n4 : Int) (b1 b2 b3 b4 b5 b6 : Nat) : List Ck := [.pt b6 [.slice (some ⟨b4, 0, none⟩) 2 2, .slice (some ⟨b5, 0, none⟩) 2 2] 22, .pt b5 (ints [n3, n4]) 3, .pt b4 (ints [n1, n2]) 3, .pt b3 (ints [1, 1]) 3, .pt b2 (ints [0, 3]) 3, .pt b1 (ints [1, 2, 1]) 3]
theorem two_rg {w : World} {n1 n2 n3 n4 : Int} {b1 b2 b3 b4 b5 b6 : Nat} {t1 t2 t3 t4 t5 t6 : TypeId} (g1 : Blk w b1 (ints [1, 2, 1]) t1) (g2 : Blk w b2 (ints [0, 3]) t2) (g3 : Blk w b3 (ints [1, 1]) t3) (g4 : Blk w b4 (ints [n1, n2]) t4) (g5 : Blk w b5 (ints [n3, n4]) t5)
    (g6 : Blk w b6 [.slice (some ⟨b4, 0, none⟩) 2 2, .slice (some ⟨b5, 0, none⟩) 2 2] t6) : RgC w (twoC b1 b2 b3 b6) ⟨2, 2, 1, 2, [1, 2, 1], [0, 3], [1, 1], [[n1, n2], [n3, n4]]⟩ := by
  refine ⟨0, w.heap.size, _, _, _, _, _, _, _, _, rfl, Blk.rdI g1, Blk.rdI g2, Blk.rdI g3, ?_⟩
  refine RdII.of ((Blk.rd g6 rfl 2).wide (Nat.zero_le _) g6.lt) rfl (fun i hi hi' => ?_) (by simp [oneV])
  have : i = 0 ∨ i = 1 := by simp at hi; omega
  rcases this with rfl | rfl
  · exact Blk.rdI g4
  · exact Blk.rdI g5
theorem twoL_own (n1 n2 n3 n4 : Int) (b1 b2 b3 b4 b5 b6 : Nat) : OwnR (twoL n1 n2 n3 n4 b1 b2 b3 b4 b5 b6) (twoC b1 b2 b3 b6) ⟨2, 2, 1, 2, [1, 2, 1], [0, 3], [1, 1], [[n1, n2], [n3, n4]]⟩ := by
  intro w h
  have g6 : Blk w b6 _ _ := h _ (.head _)
  have g5 : Blk w b5 _ _ := h _ (.tail _ (.head _))
  have g4 : Blk w b4 _ _ := h _ (.tail _ (.tail _ (.head _)))
  have g3 : Blk w b3 _ _ := h _ (.tail _ (.tail _ (.tail _ (.head _))))
  have g2 : Blk w b2 _ _ := h _ (.tail _ (.tail _ (.tail _ (.tail _ (.head _)))))
  have g1 : Blk w b1 _ _ := h _ (.tail _ (.tail _ (.tail _ (.tail _ (.tail _ (.head _))))))
  exact two_rg g1 g2 g3 g4 g5 g6

theorem two_ca0 (w : World) : Ca Try.prog 68 [] w fun v w' => ∃ x : Nat × Nat × Nat × Nat × Nat × Nat, v = .agg (twoC x.1 x.2.1 x.2.2.1 x.2.2.2.2.2).toArray ∧ Sat w M0 (twoL 2 0 0 2 x.1 x.2.1 x.2.2.1 x.2.2.2.1 x.2.2.2.2.1 x.2.2.2.2.2) w' := by
  refine q_of (Sat.nil w M0) Try.func68 rfl (by simp [Try.ntmps68]) ?_
  (refine q_seq ?_; refine q_region ?_)
  refine ql_alloc zero25 rfl (fun b0 => ?_)
  (refine q_nil ?_; refine q_seq ?_; refine q_region ?_)
  refine ql_mkS 3 [.int .i64 1, .int .i64 2, .int .i64 1] rfl (by kernel_rfl) rfl (fun b1 => ?_)
  refine ql_mkS 3 [.int .i64 0, .int .i64 3] rfl (by kernel_rfl) rfl (fun b2 => ?_)
  refine ql_mkS 3 [.int .i64 1, .int .i64 1] rfl (by kernel_rfl) rfl (fun b3 => ?_)
  refine ql_mkS 3 [.int .i64 2, .int .i64 0] rfl (by kernel_rfl) rfl (fun b4 => ?_)
  refine ql_mkS 3 [.int .i64 0, .int .i64 2] rfl (by kernel_rfl) rfl (fun b5 => ?_)
  refine ql_mkS 22 [.slice (some ⟨b4, 0, none⟩) 2 2, .slice (some ⟨b5, 0, none⟩) 2 2] rfl (by kernel_rfl) rfl (fun b6 => ?_)
  refine ql_mk (twoC b1 b2 b3 b6).toArray rfl (by kernel_rfl) rfl ?_
  (refine ql_setA tabOk rfl rfl rfl rfl rfl (by repeat constructor) rfl ?_; refine q_nil ?_; refine q_ret ?_)
  refine q_fin tabOk rfl (by repeat (first | exact RVs.nil | apply RVs.tmp rfl | apply RVs.cellA rfl rfl (by repeat first | exact .head _ | refine .tail _ ?_) (by rfl) | apply RVs.cell1 rfl rfl (by repeat first | exact .head _ | refine .tail _ ?_))) fun w hs => ?_
  exact ⟨(b1, b2, b3, b4, b5, b6), rfl, hs.sp (by repeat (first | exact Sp.nil | exact Sp.refl _ | refine Sp.cons (by repeat constructor) ?_))⟩
theorem two_ca (w : World) : Ca Try.prog 68 [] w fun v w' => ∃ x : List Ck × List Value, (v = .agg x.2.toArray ∧ OwnR x.1 x.2 twoR) ∧ Sat w M0 [un x.1] w' :=
  (two_ca0 w).mono fun v w' ⟨(b1, b2, b3, b4, b5, b6), hv, hs⟩ => ⟨(_, _), ⟨hv, twoL_own 2 0 0 2 b1 b2 b3 b4 b5 b6⟩, Sat.un1.2 hs⟩

theorem winds_ca (lo hi : Int) (w : World) : Ca Try.prog 65 [.int .i64 lo, .int .i64 hi] w fun v w' => ∃ b : Nat, v = .slice (some ⟨b, 0, none⟩) 5 5 ∧ Sat w M0 [.pt b [.int .i64 lo, .int .i64 hi, .int .i64 lo, .int .i64 hi, .int .i64 lo, .int .i64 hi, .int .i64 lo, .int .i64 hi, .int .i64 lo, .int .i64 hi] 64] w' := by
  refine q_of (Sat.nil w M0) Try.func65 rfl (by simp [Try.ntmps65]) ?_
  (refine q_seq ?_; refine q_region ?_; refine ql_pure tabOk rfl rfl ?_; refine q_nil ?_; refine q_seq ?_; refine q_region ?_; (iterate 2 refine ql_pure tabOk rfl rfl ?_))
  refine ql_mk #[.int .i64 lo, .int .i64 hi] rfl (by kernel_rfl) rfl ?_
  refine ql_alloc zero64 rfl (fun b0 => ?_)
  (refine ql_setA tabOk rfl rfl rfl rfl rfl (by repeat constructor) rfl ?_; refine q_nil ?_; refine q_seq ?_; refine q_region ?_; (iterate 5 refine ql_loadAB tabOk rfl rfl rfl (by repeat first | exact .head _ | refine .tail _ ?_) (by rfl) (by rfl) ?_))
  refine ql_mkS 64 [.int .i64 lo, .int .i64 hi, .int .i64 lo, .int .i64 hi, .int .i64 lo, .int .i64 hi, .int .i64 lo, .int .i64 hi, .int .i64 lo, .int .i64 hi] rfl (by kernel_rfl) rfl (fun b => ?_)
  (refine ql_pure tabOk rfl rfl ?_; refine q_nil ?_; refine q_ret ?_)
  refine q_fin tabOk rfl (by repeat (first | exact RVs.nil | apply RVs.tmp rfl | apply RVs.cellA rfl rfl (by repeat first | exact .head _ | refine .tail _ ?_) (by rfl) | apply RVs.cell1 rfl rfl (by repeat first | exact .head _ | refine .tail _ ?_))) fun w hs => ?_
  exact ⟨b, rfl, hs.sp (by repeat (first | exact Sp.nil | exact Sp.refl _ | refine Sp.cons (by repeat constructor) ?_))⟩

end Go.Proofs.Ytohlillcaadidaa

/- Walks: awake. -/
namespace Go.Proofs.Ytohlillcaadidaa
open Go Go.Eng

def ruA : Ru := ⟨240, 20, 0, 0⟩
def ruB : Ru := ⟨240, 100, 30, 1⟩
def twoX : Rg := ⟨2, 2, 1, 2, [1, 2, 1], [0, 3], [1, 1], [[1, 1], [1, 1]]⟩
def winds03 : List (Int × Int) := [(0, 3), (0, 3), (0, 3), (0, 3), (0, 3)]
theorem two_small : twoR.Small := ⟨by decide, by decide, by decide, by decide, by decide⟩
theorem twoX_small : twoX.Small := ⟨by decide, by decide, by decide, by decide, by decide⟩
theorem aw_hit : hitV twoR 1 0 = ((1, 4), 0) := by decide +kernel
theorem aw_exp : expdV twoR 1 = ((25, 8), 0) := by decide +kernel
theorem aw_best : bestV twoR = (-1, (5, 8), 0) := by decide +kernel
theorem aw_rob : robV twoR winds03 = (-1, (5, 4), 0) := by decide +kernel
theorem aw_zero : zeroV twoR [4, 5, -1] = (0, 0) := by decide +kernel
theorem aw_rules : rulesV twoR ruA = 0 := by decide +kernel
theorem aw_drift : driftV [(10, 20), (-5, 5)] [3, 1] = ((25, 65), 0) := by decide +kernel
theorem aw_len : (plcL twoR ruA).length = 30 := by decide +kernel
theorem aw_ch : chooseV twoR ruA 0 0 1 0 = ((false, -1), 0) := by decide +kernel
theorem aw_chx : chooseV twoX ruB 4 1 1 0 = ((true, 0), 0) := by decide +kernel
theorem aw_fol : followV twoR ruA [1, 1, 1, 1, 1] [0, 0, 0, 0, 1] = ((0, 20, 5), 0) := by decide +kernel
theorem aw_prove : proofV twoR ruA ((plcL twoR ruA).map (valP twoR ruA)) = ((10, 1), 0) := by decide +kernel
theorem rat_flat : flatB Try.prog 42 [some .i64, some .i64] = true := by kernel_rfl
theorem spn_flat : flatB Try.prog 64 [some .i64, some .i64] = true := by kernel_rfl
theorem ply_flat : flatB Try.prog 55 [some .i64, some .i64, some .i64] = true := by kernel_rfl
theorem Blk.rdS {w : World} {b : Nat} {l : List (Int × Int)} {cs : List Value} {t : TypeId} {c : Nat} (h : Blk w b cs t) (hc : cs = cellsOf (l.map rtV)) : RdS w 0 w.heap.size (.slice (some ⟨b, 0, none⟩) l.length c) l := by
  refine ⟨?_, fun e he => ?_⟩
  · subst hc
    have hl : (cellsOf (l.map rtV)).length = (l.map rtV).length * 2 := cellsOf_length _ (fun e he => by obtain ⟨x, _, rfl⟩ := List.mem_map.1 he; rfl)
    refine ⟨hl, .inr ⟨b, 0, c, by simp, fun _ => ⟨Nat.zero_le _, h.lt, h.lt⟩, fun j _ => by rw [Blk.cell h]; simp⟩⟩
  · obtain ⟨x, _, rfl⟩ := List.mem_map.1 he
    rfl

set_option maxHeartbeats 4000000 in
theorem awake_ca (w : World) : Ca Try.prog 16 [] w fun v w' => v = .bool true ∧ Chg [] w w' := by
  refine q_of (Sat.nil w M0) Try.func16 rfl (by simp [Try.ntmps16]) ?_
  (refine q_seq ?_; refine q_region ?_; refine ql_pure tabOk rfl rfl ?_; refine q_nil ?_; refine q_seq ?_; refine q_region ?_)
  refine ql_call (β := List Ck × List Value) tabOk [] _ M0 rfl rfl rfl rfl (Sp.refl _) (fun _ h => h.elim) (fun w' hs => two_ca w') ?_
  rintro ⟨L1, cs1⟩ _ ⟨rfl, ho1⟩
  refine ql_callv (val := .tuple #[.agg #[.int .i64 (1), .int .i64 (4)], .int .i64 (0)]) tabOk rfl rfl rfl rfl (fun w hs => ?_) ?_; exact by have := hit_ca w cs1 twoR 1 0 (ho1.at hs (by repeat first | exact .head _ | refine .tail _ ?_)) two_small; rw [aw_hit] at this; exact this
  (refine ql_pure tabOk rfl rfl ?_; (iterate 2 refine ql_ext tabOk rfl rfl rfl ?_))
  refine ql_alloc zero42 rfl (fun b1 => ?_)
  (refine ql_setA tabOk rfl rfl rfl rfl rfl (by repeat constructor) rfl ?_; refine ql_pure tabOk rfl rfl ?_; refine q_nil ?_; refine q_seq ?_; refine q_region ?_)
  refine ql_call (β := List Ck × List Value) tabOk [] _ M0 rfl rfl rfl rfl (Sp.refl _) (fun _ h => h.elim) (fun w' hs => two_ca w') ?_
  rintro ⟨L2, cs2⟩ _ ⟨rfl, ho2⟩
  refine ql_callv (val := .tuple #[.agg #[.int .i64 (25), .int .i64 (8)], .int .i64 (0)]) tabOk rfl rfl rfl rfl (fun w hs => ?_) ?_; exact by have := expectedF_ca w cs2 twoR 1 (ho2.at hs (by repeat first | exact .head _ | refine .tail _ ?_)) two_small; rw [aw_exp] at this; exact this
  (refine ql_pure tabOk rfl rfl ?_; (iterate 2 refine ql_ext tabOk rfl rfl rfl ?_))
  refine ql_alloc zero42 rfl (fun b3 => ?_)
  (refine ql_setA tabOk rfl rfl rfl rfl rfl (by repeat constructor) rfl ?_; refine ql_pure tabOk rfl rfl ?_; refine q_nil ?_; refine q_seq ?_; refine q_region ?_)
  refine ql_call (β := List Ck × List Value) tabOk [] _ M0 rfl rfl rfl rfl (Sp.refl _) (fun _ h => h.elim) (fun w' hs => two_ca w') ?_
  rintro ⟨L3, cs3⟩ _ ⟨rfl, ho3⟩
  refine ql_callv (val := .tuple #[.int .i64 (-1), .agg #[.int .i64 (5), .int .i64 (8)], .int .i64 (0)]) tabOk rfl rfl rfl rfl (fun w hs => ?_) ?_; exact by have := bestF_ca w cs3 twoR (ho3.at hs (by repeat first | exact .head _ | refine .tail _ ?_)) two_small; rw [aw_best] at this; exact this
  (refine ql_pure tabOk rfl rfl ?_; (iterate 3 refine ql_ext tabOk rfl rfl rfl ?_))
  refine ql_alloc zero42 rfl (fun b6 => ?_)
  (refine ql_pure tabOk rfl rfl ?_; refine ql_setA tabOk rfl rfl rfl rfl rfl (by repeat constructor) rfl ?_; refine ql_pure tabOk rfl rfl ?_; refine q_nil ?_; refine q_seq ?_; refine q_region ?_)
  refine ql_call (β := List Ck × List Value) tabOk [] _ M0 rfl rfl rfl rfl (Sp.refl _) (fun _ h => h.elim) (fun w' hs => two_ca w') ?_
  rintro ⟨L4, cs4⟩ _ ⟨rfl, ho4⟩
  refine ql_call (β := Nat) tabOk [] _ M0 rfl rfl rfl rfl (Sp.refl _) (fun _ h => h.elim) (fun w' hs => winds_ca 0 3 w') ?_
  rintro bw _ rfl
  refine ql_callv (val := .tuple #[.int .i64 (-1), .agg #[.int .i64 (5), .int .i64 (4)], .int .i64 (0)]) tabOk rfl rfl rfl rfl (fun w hs => ?_) ?_; exact by have := robF_ca w 0 w.heap.size cs4 twoR _ winds03 (ho4.at hs (by repeat first | exact .head _ | refine .tail _ ?_)) two_small (Blk.rdS (c := 5) (hs.blk (b := bw) (by repeat first | exact .head _ | refine .tail _ ?_)) rfl) (by decide); rw [aw_rob] at this; exact this
  (refine ql_pure tabOk rfl rfl ?_; (iterate 3 refine ql_ext tabOk rfl rfl rfl ?_))
  refine ql_alloc zero42 rfl (fun b9 => ?_)
  (refine ql_pure tabOk rfl rfl ?_; refine ql_setA tabOk rfl rfl rfl rfl rfl (by repeat constructor) rfl ?_; refine ql_pure tabOk rfl rfl ?_; refine q_nil ?_; refine q_seq ?_; refine q_region ?_)
  refine ql_call (β := List Ck × List Value) tabOk [] _ M0 rfl rfl rfl rfl (Sp.refl _) (fun _ h => h.elim) (fun w' hs => two_ca w') ?_
  rintro ⟨L5, cs5⟩ _ ⟨rfl, ho5⟩
  refine ql_mkS 3 (ints [4, 5, -1]) rfl (by kernel_rfl) rfl (fun bz => ?_)
  refine ql_callv (val := .tuple #[.int .i64 (0), .int .i64 (0)]) tabOk rfl rfl rfl rfl (fun w hs => ?_) ?_; exact by have := zeroF_ca w 0 w.heap.size cs5 twoR _ [4, 5, -1] (ho5.at hs (by repeat first | exact .head _ | refine .tail _ ?_)) two_small (Blk.rdI (c := 3) (hs.blk (b := bz) (by repeat first | exact .head _ | refine .tail _ ?_))) (by decide); rw [aw_zero] at this; exact this
  (refine ql_pure tabOk rfl rfl ?_; (iterate 2 refine ql_ext tabOk rfl rfl rfl ?_); (iterate 2 refine ql_pure tabOk rfl rfl ?_); refine q_nil ?_; (iterate 2 refine q_seq ?_); refine q_region ?_; (iterate 3 refine ql_pure tabOk rfl rfl ?_); refine ql_gyes rfl ?_; refine ql_pure tabOk rfl rfl ?_; refine ql_gyes rfl ?_; (iterate 3 refine ql_pure tabOk rfl rfl ?_); refine ql_gyes rfl ?_; refine ql_pure tabOk rfl rfl ?_; refine ql_gyes rfl ?_; (iterate 3 refine ql_pure tabOk rfl rfl ?_); refine ql_gyes rfl ?_; refine ql_pure tabOk rfl rfl ?_; refine ql_gyes rfl ?_; (iterate 3 refine ql_pure tabOk rfl rfl ?_); refine ql_gyes rfl ?_; refine ql_pure tabOk rfl rfl ?_; refine ql_gyes rfl ?_; (iterate 3 refine ql_pure tabOk rfl rfl ?_); refine ql_gyes rfl ?_; refine ql_loadAB tabOk rfl rfl rfl (by repeat first | exact .head _ | refine .tail _ ?_) (by rfl) (by rfl) ?_; refine ql_gyes rfl ?_)
  refine ql_mk #[.int .i64 1, .int .i64 4] rfl (by kernel_rfl) rfl ?_
  (refine ql_gyes rfl ?_)
  refine ql_neF (xs := [.int .i64 1, .int .i64 4]) (ys := [.int .i64 1, .int .i64 4]) [some .i64, some .i64] rat_flat rfl rfl rfl rfl rfl ?_
  ((iterate 2 refine ql_pure tabOk rfl rfl ?_); refine ql_gyes rfl ?_; refine ql_loadAB tabOk rfl rfl rfl (by repeat first | exact .head _ | refine .tail _ ?_) (by rfl) (by rfl) ?_; refine ql_gyes rfl ?_)
  refine ql_mk #[.int .i64 25, .int .i64 8] rfl (by kernel_rfl) rfl ?_
  (refine ql_gyes rfl ?_)
  refine ql_neF (xs := [.int .i64 25, .int .i64 8]) (ys := [.int .i64 25, .int .i64 8]) [some .i64, some .i64] rat_flat rfl rfl rfl rfl rfl ?_
  ((iterate 2 refine ql_pure tabOk rfl rfl ?_); refine ql_gyes rfl ?_; refine ql_pure tabOk rfl rfl ?_; refine ql_gyes rfl ?_; (iterate 3 refine ql_pure tabOk rfl rfl ?_); refine ql_gyes rfl ?_; refine ql_loadAB tabOk rfl rfl rfl (by repeat first | exact .head _ | refine .tail _ ?_) (by rfl) (by rfl) ?_; refine ql_gyes rfl ?_)
  refine ql_mk #[.int .i64 5, .int .i64 8] rfl (by kernel_rfl) rfl ?_
  (refine ql_gyes rfl ?_)
  refine ql_neF (xs := [.int .i64 5, .int .i64 8]) (ys := [.int .i64 5, .int .i64 8]) [some .i64, some .i64] rat_flat rfl rfl rfl rfl rfl ?_
  ((iterate 2 refine ql_pure tabOk rfl rfl ?_); refine ql_gyes rfl ?_; refine ql_pure tabOk rfl rfl ?_; refine ql_gyes rfl ?_; (iterate 3 refine ql_pure tabOk rfl rfl ?_); refine ql_gyes rfl ?_; refine ql_loadAB tabOk rfl rfl rfl (by repeat first | exact .head _ | refine .tail _ ?_) (by rfl) (by rfl) ?_; refine ql_gyes rfl ?_)
  refine ql_mk #[.int .i64 5, .int .i64 4] rfl (by kernel_rfl) rfl ?_
  (refine ql_gyes rfl ?_)
  refine ql_neF (xs := [.int .i64 5, .int .i64 4]) (ys := [.int .i64 5, .int .i64 4]) [some .i64, some .i64] rat_flat rfl rfl rfl rfl rfl ?_
  ((iterate 2 refine ql_pure tabOk rfl rfl ?_); refine ql_gyes rfl ?_; refine ql_pure tabOk rfl rfl ?_; refine ql_gyes rfl ?_; (iterate 2 refine ql_pure tabOk rfl rfl ?_); refine q_nil ?_; refine q_cond_false rfl ?_; refine q_skip ?_; refine q_seq ?_; refine q_region ?_)
  refine ql_mk #[.int .i64 240, .int .i64 20, .int .i64 0, .int .i64 0] rfl (by kernel_rfl) rfl ?_
  refine ql_alloc zero27 rfl (fun b13 => ?_)
  (refine ql_setA tabOk rfl rfl rfl rfl rfl (by repeat constructor) rfl ?_; refine q_nil ?_; refine q_seq ?_)
  refine q_keep [(13, .pointer (some ⟨b13, 0, none⟩))] [.pt b13 [.int .i64 240, .int .i64 20, .int .i64 0, .int .i64 0] 27] ⟨rfl, trivial⟩ (by repeat (first | exact Sp.nil | exact Sp.refl _ | refine Sp.cons (by repeat constructor) ?_)) ?_
  refine q_draw _ [] (Sp.refl _) (by kernel_rfl) (by kernel_rfl) ?_
  skip
  refine qf_call (β := List Ck × List Value) tabOk [] _ M0 rfl rfl rfl rfl (Sp.refl _) (fun _ h => h.elim) (fun w' hs => two_ca w') ?_
  rintro ⟨L6, cs6⟩ _ ⟨rfl, ho6⟩
  (refine qf_loadAB tabOk rfl rfl rfl (by repeat first | exact .head _ | refine .tail _ ?_) (by rfl) (by rfl) ?_)
  refine qf_call (β := Value) tabOk [] _ M0 rfl rfl rfl rfl (Sp.refl _) (fun _ h => h.elim) (fun w' hs => by have := values_ok w' cs6 twoR ruA (ho6.at hs (by repeat first | exact .head _ | refine .tail _ ?_)) two_small aw_rules; rw [aw_len] at this; exact this) ?_
  rintro x14 _ rfl
  (refine qf_pure tabOk rfl rfl rfl ?_; (iterate 2 refine qf_ext tabOk rfl rfl rfl ?_); (iterate 2 refine qf_pure tabOk rfl rfl rfl ?_); refine qf_nil ?_; refine q_seq ?_)
  refine q_fact (fun w hs => hs.slice2 (v := x14) (by repeat first | exact .head _ | refine .tail _ ?_)) ?_
  rintro ⟨a14, c14, rfl⟩
  refine q_keep [(13, .pointer (some ⟨b13, 0, none⟩)), (14, .slice a14 30 c14), (2, .int .i64 0)] [.ow (.slice a14 30 c14) 3 1 30 (ints ((plcL twoR ruA).map (valP twoR ruA))), .pt b13 [.int .i64 240, .int .i64 20, .int .i64 0, .int .i64 0] 27] ⟨rfl, rfl, rfl, trivial⟩ (by repeat (first | exact Sp.nil | exact Sp.refl _ | refine Sp.cons (by repeat constructor) ?_)) ?_
  refine q_cut (σ := Nat) (fun b15 => [(13, .pointer (some ⟨b13, 0, none⟩)), (14, .slice a14 30 c14), (2, .int .i64 0), (4, .int .i64 0), (15, .pointer (some ⟨b15, 0, none⟩))]) (fun b15 => [.pt b15 [.int .i64 10, .int .i64 1] 42, .ow (.slice a14 30 c14) 3 1 30 (ints ((plcL twoR ruA).map (valP twoR ruA))), .pt b13 [.int .i64 240, .int .i64 20, .int .i64 0, .int .i64 0] 27]) ?_ (fun K2 hK2 => ?_)
  rotate_left
  · skip
    refine q_drawT (.alt (chainT [0, 1, 2] (.alt (chainT [3, 4, 5, 6, 7, 8, 9] (.nil)) (chainT [7, 3, 4, 5, 6, 8, 9] (.nil)))) (chainT [7, 0, 1, 2, 3, 4, 5, 6, 8, 9] (.nil))) _ [] (Sp.refl _) (by kernel_rfl) (by kernel_rfl) ?_
    refine qt_alt ?_ ?_
    · skip
      refine qt_seg (by repeat (first | exact PickL.nil | (apply PickL.cons; rfl))) fun K1 hK1 => ?_
      refine qf_call (β := List Ck × List Value) tabOk [] _ M0 rfl rfl rfl rfl (Sp.refl _) (fun _ h => h.elim) (fun w' hs => two_ca w') ?_
      rintro ⟨L, cs⟩ _ ⟨rfl, ho⟩
      (refine qf_loadAB tabOk rfl rfl rfl (by repeat first | exact .head _ | refine .tail _ ?_) (by rfl) (by rfl) ?_; refine qf_pure tabOk rfl rfl rfl ?_; refine qf_nil ?_)
      refine hK1 _ _ ?_
      refine qt_alt ?_ ?_
      · skip
        refine qt_seg (by repeat (first | exact PickL.nil | (apply PickL.cons; rfl))) fun K1 hK1 => ?_
        refine qf_callv (val := .tuple #[.agg #[.int .i64 (10), .int .i64 (1)], .int .i64 (0)]) tabOk rfl rfl rfl rfl (fun w hs => ?_) ?_
        · have := proves_ca w 0 w.heap.size cs twoR ruA _ _ (ho.at hs (by repeat first | exact .head _ | refine .tail _ ?_)) two_small (hs.rdI (v := .slice a14 30 c14) (l := (plcL twoR ruA).map (valP twoR ruA)) (by repeat first | exact .head _ | refine .tail _ ?_) (by rw [List.length_map, aw_len])) (by rw [List.length_map, aw_len]; decide); rw [aw_prove] at this; exact this
        (refine qf_pure tabOk rfl rfl rfl ?_; (iterate 2 refine qf_ext tabOk rfl rfl rfl ?_))
        refine qf_alloc zero42 rfl (fun b15 => ?_)
        (refine qf_setA tabOk rfl rfl rfl rfl rfl (by repeat constructor) rfl ?_; refine qf_pure tabOk rfl rfl rfl ?_; refine qf_nil ?_)
        skip
        exact hK1 _ _ (qt_nil (hK2 b15 _ _ ⟨rfl, rfl, rfl, rfl, rfl, trivial⟩ (by repeat (first | exact Sp.nil | exact Sp.refl _ | refine Sp.cons (by repeat constructor) ?_))))
      · skip
        refine qt_seg (by repeat (first | exact PickL.nil | (apply PickL.cons; rfl))) fun K1 hK1 => ?_
        refine qf_alloc zero42 rfl (fun b15 => ?_)
        skip
        refine qf_callv (val := .tuple #[.agg #[.int .i64 (10), .int .i64 (1)], .int .i64 (0)]) tabOk rfl rfl rfl rfl (fun w hs => ?_) ?_
        · have := proves_ca w 0 w.heap.size cs twoR ruA _ _ (ho.at hs (by repeat first | exact .head _ | refine .tail _ ?_)) two_small (hs.rdI (v := .slice a14 30 c14) (l := (plcL twoR ruA).map (valP twoR ruA)) (by repeat first | exact .head _ | refine .tail _ ?_) (by rw [List.length_map, aw_len])) (by rw [List.length_map, aw_len]; decide); rw [aw_prove] at this; exact this
        (refine qf_pure tabOk rfl rfl rfl ?_; (iterate 2 refine qf_ext tabOk rfl rfl rfl ?_); refine qf_setA tabOk rfl rfl rfl rfl rfl (by repeat constructor) rfl ?_; refine qf_pure tabOk rfl rfl rfl ?_; refine qf_nil ?_)
        skip
        exact hK1 _ _ (qt_nil (hK2 b15 _ _ ⟨rfl, rfl, rfl, rfl, rfl, trivial⟩ (by repeat (first | exact Sp.nil | exact Sp.refl _ | refine Sp.cons (by repeat constructor) ?_))))
    · skip
      refine qt_seg (by repeat (first | exact PickL.nil | (apply PickL.cons; rfl))) fun K1 hK1 => ?_
      refine qf_alloc zero42 rfl (fun b15 => ?_)
      skip
      refine qf_call (β := List Ck × List Value) tabOk [] _ M0 rfl rfl rfl rfl (Sp.refl _) (fun _ h => h.elim) (fun w' hs => two_ca w') ?_
      rintro ⟨L, cs⟩ _ ⟨rfl, ho⟩
      (refine qf_loadAB tabOk rfl rfl rfl (by repeat first | exact .head _ | refine .tail _ ?_) (by rfl) (by rfl) ?_; refine qf_pure tabOk rfl rfl rfl ?_)
      refine qf_callv (val := .tuple #[.agg #[.int .i64 (10), .int .i64 (1)], .int .i64 (0)]) tabOk rfl rfl rfl rfl (fun w hs => ?_) ?_
      · have := proves_ca w 0 w.heap.size cs twoR ruA _ _ (ho.at hs (by repeat first | exact .head _ | refine .tail _ ?_)) two_small (hs.rdI (v := .slice a14 30 c14) (l := (plcL twoR ruA).map (valP twoR ruA)) (by repeat first | exact .head _ | refine .tail _ ?_) (by rw [List.length_map, aw_len])) (by rw [List.length_map, aw_len]; decide); rw [aw_prove] at this; exact this
      (refine qf_pure tabOk rfl rfl rfl ?_; (iterate 2 refine qf_ext tabOk rfl rfl rfl ?_); refine qf_setA tabOk rfl rfl rfl rfl rfl (by repeat constructor) rfl ?_; refine qf_pure tabOk rfl rfl rfl ?_; refine qf_nil ?_)
      skip
      exact hK1 _ _ (qt_nil (hK2 b15 _ _ ⟨rfl, rfl, rfl, rfl, rfl, trivial⟩ (by repeat (first | exact Sp.nil | exact Sp.refl _ | refine Sp.cons (by repeat constructor) ?_))))
  intro b15
  (refine q_seq ?_)
  refine q_cut (σ := Nat) (fun b16 => [(13, .pointer (some ⟨b13, 0, none⟩)), (14, .slice a14 30 c14), (2, .int .i64 0), (4, .int .i64 0), (15, .pointer (some ⟨b15, 0, none⟩)), (16, .pointer (some ⟨b16, 0, none⟩)), (7, .int .i64 0)]) (fun b16 => [.pt b16 [.bool false, .int .i64 (-1)] 47, .pt b15 [.int .i64 10, .int .i64 1] 42, .ow (.slice a14 30 c14) 3 1 30 (ints ((plcL twoR ruA).map (valP twoR ruA))), .pt b13 [.int .i64 240, .int .i64 20, .int .i64 0, .int .i64 0] 27]) ?_ (fun K2 hK2 => ?_)
  rotate_left
  · skip
    refine q_drawT (.alt (chainT [0, 1] (.alt (chainT [2, 3, 4, 5, 6, 7, 8] (.nil)) (chainT [6, 2, 3, 4, 5, 7, 8] (.nil)))) (chainT [6, 0, 1, 2, 3, 4, 5, 7, 8] (.nil))) _ [] (Sp.refl _) (by kernel_rfl) (by kernel_rfl) ?_
    refine qt_alt ?_ ?_
    · skip
      refine qt_seg (by repeat (first | exact PickL.nil | (apply PickL.cons; rfl))) fun K1 hK1 => ?_
      refine qf_call (β := List Ck × List Value) tabOk [] _ M0 rfl rfl rfl rfl (Sp.refl _) (fun _ h => h.elim) (fun w' hs => two_ca w') ?_
      rintro ⟨L, cs⟩ _ ⟨rfl, ho⟩
      (refine qf_loadAB tabOk rfl rfl rfl (by repeat first | exact .head _ | refine .tail _ ?_) (by rfl) (by rfl) ?_; refine qf_nil ?_)
      refine hK1 _ _ ?_
      refine qt_alt ?_ ?_
      · skip
        refine qt_seg (by repeat (first | exact PickL.nil | (apply PickL.cons; rfl))) fun K1 hK1 => ?_
        refine qf_callv (val := .tuple #[.agg #[.bool false, .int .i64 (-1)], .int .i64 (0)]) tabOk rfl rfl rfl rfl (fun w hs => ?_) ?_
        · have := chooseF_ca w cs twoR ruA 0 0 1 0 (ho.at hs (by repeat first | exact .head _ | refine .tail _ ?_)) two_small; rw [aw_ch] at this; exact this
        (refine qf_pure tabOk rfl rfl rfl ?_; (iterate 2 refine qf_ext tabOk rfl rfl rfl ?_))
        refine qf_alloc zero47 rfl (fun b16 => ?_)
        (refine qf_setA tabOk rfl rfl rfl rfl rfl (by repeat constructor) rfl ?_; refine qf_pure tabOk rfl rfl rfl ?_; refine qf_nil ?_)
        skip
        exact hK1 _ _ (qt_nil (hK2 b16 _ _ ⟨rfl, rfl, rfl, rfl, rfl, rfl, rfl, trivial⟩ (by repeat (first | exact Sp.nil | exact Sp.refl _ | refine Sp.cons (by repeat constructor) ?_))))
      · skip
        refine qt_seg (by repeat (first | exact PickL.nil | (apply PickL.cons; rfl))) fun K1 hK1 => ?_
        refine qf_alloc zero47 rfl (fun b16 => ?_)
        skip
        refine qf_callv (val := .tuple #[.agg #[.bool false, .int .i64 (-1)], .int .i64 (0)]) tabOk rfl rfl rfl rfl (fun w hs => ?_) ?_
        · have := chooseF_ca w cs twoR ruA 0 0 1 0 (ho.at hs (by repeat first | exact .head _ | refine .tail _ ?_)) two_small; rw [aw_ch] at this; exact this
        (refine qf_pure tabOk rfl rfl rfl ?_; (iterate 2 refine qf_ext tabOk rfl rfl rfl ?_); refine qf_setA tabOk rfl rfl rfl rfl rfl (by repeat constructor) rfl ?_; refine qf_pure tabOk rfl rfl rfl ?_; refine qf_nil ?_)
        skip
        exact hK1 _ _ (qt_nil (hK2 b16 _ _ ⟨rfl, rfl, rfl, rfl, rfl, rfl, rfl, trivial⟩ (by repeat (first | exact Sp.nil | exact Sp.refl _ | refine Sp.cons (by repeat constructor) ?_))))
    · skip
      refine qt_seg (by repeat (first | exact PickL.nil | (apply PickL.cons; rfl))) fun K1 hK1 => ?_
      refine qf_alloc zero47 rfl (fun b16 => ?_)
      skip
      refine qf_call (β := List Ck × List Value) tabOk [] _ M0 rfl rfl rfl rfl (Sp.refl _) (fun _ h => h.elim) (fun w' hs => two_ca w') ?_
      rintro ⟨L, cs⟩ _ ⟨rfl, ho⟩
      (refine qf_loadAB tabOk rfl rfl rfl (by repeat first | exact .head _ | refine .tail _ ?_) (by rfl) (by rfl) ?_)
      refine qf_callv (val := .tuple #[.agg #[.bool false, .int .i64 (-1)], .int .i64 (0)]) tabOk rfl rfl rfl rfl (fun w hs => ?_) ?_
      · have := chooseF_ca w cs twoR ruA 0 0 1 0 (ho.at hs (by repeat first | exact .head _ | refine .tail _ ?_)) two_small; rw [aw_ch] at this; exact this
      (refine qf_pure tabOk rfl rfl rfl ?_; (iterate 2 refine qf_ext tabOk rfl rfl rfl ?_); refine qf_setA tabOk rfl rfl rfl rfl rfl (by repeat constructor) rfl ?_; refine qf_pure tabOk rfl rfl rfl ?_; refine qf_nil ?_)
      skip
      exact hK1 _ _ (qt_nil (hK2 b16 _ _ ⟨rfl, rfl, rfl, rfl, rfl, rfl, rfl, trivial⟩ (by repeat (first | exact Sp.nil | exact Sp.refl _ | refine Sp.cons (by repeat constructor) ?_))))
  intro b16
  (refine q_seq ?_; refine q_region ?_)
  refine ql_call (β := Nat × Nat × Nat × Nat × Nat × Nat) tabOk [] _ M0 rfl rfl rfl rfl (Sp.refl _) (fun _ h => h.elim) (fun w' hs => two_ca0 w') ?_
  rintro ⟨b41, b42, b43, b44, b45, b46⟩ _ rfl
  skip
  refine ql_alloc zero25 rfl (fun b17 => ?_)
  (refine ql_setA tabOk rfl rfl rfl rfl rfl (by repeat constructor) rfl ?_; refine q_nil ?_; refine q_seq ?_; refine q_region ?_)
  refine ql_mkS 3 (ints [1, 1]) rfl (by kernel_rfl) rfl (fun b51 => ?_)
  refine ql_mkS 3 (ints [1, 1]) rfl (by kernel_rfl) rfl (fun b52 => ?_)
  refine ql_mkS 22 [.slice (some ⟨b51, 0, none⟩) 2 2, .slice (some ⟨b52, 0, none⟩) 2 2] rfl (by kernel_rfl) rfl (fun b53 => ?_)
  (refine ql_pure tabOk rfl rfl ?_; refine ql_st7 tabOk rfl rfl rfl rfl (by repeat constructor) ?_; refine q_nil ?_; refine q_seq ?_; refine q_region ?_; refine ql_loadAB tabOk rfl rfl rfl (by repeat first | exact .head _ | refine .tail _ ?_) (by rfl) (by rfl) ?_)
  refine ql_mk #[.int .i64 240, .int .i64 100, .int .i64 30, .int .i64 1] rfl (by kernel_rfl) rfl ?_
  refine ql_callv (val := .tuple #[.agg #[.bool true, .int .i64 0], .int .i64 0]) tabOk rfl rfl rfl rfl (fun w hs => ?_) ?_; exact by have := chooseF_ca w (twoC b41 b42 b43 b53) twoX ruB 4 1 1 0 (two_rg (hs.blk (b := b41) (by repeat first | exact .head _ | refine .tail _ ?_)) (hs.blk (b := b42) (by repeat first | exact .head _ | refine .tail _ ?_)) (hs.blk (b := b43) (by repeat first | exact .head _ | refine .tail _ ?_)) (hs.blk (b := b51) (by repeat first | exact .head _ | refine .tail _ ?_)) (hs.blk (b := b52) (by repeat first | exact .head _ | refine .tail _ ?_)) (hs.blk (b := b53) (by repeat first | exact .head _ | refine .tail _ ?_))) twoX_small; rw [aw_chx] at this; exact this
  (refine ql_pure tabOk rfl rfl ?_; (iterate 2 refine ql_ext tabOk rfl rfl rfl ?_))
  refine ql_alloc zero47 rfl (fun b18 => ?_)
  (refine ql_setA tabOk rfl rfl rfl rfl rfl (by repeat constructor) rfl ?_; refine ql_pure tabOk rfl rfl ?_; refine q_nil ?_; refine q_seq ?_)
  refine q_cut (σ := Nat) (fun b19 => [(14, .slice a14 30 c14), (2, .int .i64 0), (4, .int .i64 0), (7, .int .i64 0), (10, .int .i64 0), (12, .int .i64 0), (15, .pointer (some ⟨b15, 0, none⟩)), (16, .pointer (some ⟨b16, 0, none⟩)), (18, .pointer (some ⟨b18, 0, none⟩)), (19, .pointer (some ⟨b19, 0, none⟩))]) (fun b19 => [.pt b19 [.int .i64 0, .int .i64 20, .int .i64 5] 55, .pt b18 [.bool true, .int .i64 0] 47, .pt b16 [.bool false, .int .i64 (-1)] 47, .pt b15 [.int .i64 10, .int .i64 1] 42]) ?_ (fun K2 hK2 => ?_)
  rotate_left
  · skip
    refine q_drawT (.alt (chainT [0, 1] (.alt (chainT [2] (.alt (chainT [3] (.alt (chainT [4, 5, 6, 7, 8, 9, 10] (.nil)) (chainT [8, 4, 5, 6, 7, 9, 10] (.nil)))) (chainT [8, 3, 4, 5, 6, 7, 9, 10] (.nil)))) (.alt (chainT [3] (.alt (chainT [2] (.alt (chainT [4, 5, 6, 7, 8, 9, 10] (.nil)) (chainT [8, 4, 5, 6, 7, 9, 10] (.nil)))) (chainT [8, 2, 4, 5, 6, 7, 9, 10] (.nil)))) (chainT [8] (.alt (chainT [2, 3, 4, 5, 6, 7, 9, 10] (.nil)) (chainT [3, 2, 4, 5, 6, 7, 9, 10] (.nil))))))) (.alt (chainT [2] (.alt (chainT [0, 1] (.alt (chainT [3] (.alt (chainT [4, 5, 6, 7, 8, 9, 10] (.nil)) (chainT [8, 4, 5, 6, 7, 9, 10] (.nil)))) (chainT [8, 3, 4, 5, 6, 7, 9, 10] (.nil)))) (.alt (chainT [3] (.alt (chainT [0, 1] (.alt (chainT [4, 5, 6, 7, 8, 9, 10] (.nil)) (chainT [8, 4, 5, 6, 7, 9, 10] (.nil)))) (chainT [8, 0, 1, 4, 5, 6, 7, 9, 10] (.nil)))) (chainT [8] (.alt (chainT [0, 1, 3, 4, 5, 6, 7, 9, 10] (.nil)) (chainT [3, 0, 1, 4, 5, 6, 7, 9, 10] (.nil))))))) (.alt (chainT [3] (.alt (chainT [0, 1] (.alt (chainT [2] (.alt (chainT [4, 5, 6, 7, 8, 9, 10] (.nil)) (chainT [8, 4, 5, 6, 7, 9, 10] (.nil)))) (chainT [8, 2, 4, 5, 6, 7, 9, 10] (.nil)))) (.alt (chainT [2] (.alt (chainT [0, 1] (.alt (chainT [4, 5, 6, 7, 8, 9, 10] (.nil)) (chainT [8, 4, 5, 6, 7, 9, 10] (.nil)))) (chainT [8, 0, 1, 4, 5, 6, 7, 9, 10] (.nil)))) (chainT [8] (.alt (chainT [0, 1, 2, 4, 5, 6, 7, 9, 10] (.nil)) (chainT [2, 0, 1, 4, 5, 6, 7, 9, 10] (.nil))))))) (chainT [8] (.alt (chainT [0, 1] (.alt (chainT [2, 3, 4, 5, 6, 7, 9, 10] (.nil)) (chainT [3, 2, 4, 5, 6, 7, 9, 10] (.nil)))) (.alt (chainT [2] (.alt (chainT [0, 1, 3, 4, 5, 6, 7, 9, 10] (.nil)) (chainT [3, 0, 1, 4, 5, 6, 7, 9, 10] (.nil)))) (chainT [3] (.alt (chainT [0, 1, 2, 4, 5, 6, 7, 9, 10] (.nil)) (chainT [2, 0, 1, 4, 5, 6, 7, 9, 10] (.nil)))))))))) _ [] (Sp.refl _) (by kernel_rfl) (by kernel_rfl) ?_
    refine qt_alt ?_ (qt_alt ?_ (qt_alt ?_ ?_))
    · skip
      refine qt_seg (by repeat (first | exact PickL.nil | (apply PickL.cons; rfl))) fun K1 hK1 => ?_
      refine qf_call (β := List Ck × List Value) tabOk [] _ M0 rfl rfl rfl rfl (Sp.refl _) (fun _ h => h.elim) (fun w' hs => two_ca w') ?_
      rintro ⟨L, cs⟩ _ ⟨rfl, ho⟩
      (refine qf_loadAB tabOk rfl rfl rfl (by repeat first | exact .head _ | refine .tail _ ?_) (by rfl) (by rfl) ?_; refine qf_nil ?_)
      refine hK1 _ _ ?_
      refine qt_alt ?_ (qt_alt ?_ ?_)
      · skip
        refine qt_seg (by repeat (first | exact PickL.nil | (apply PickL.cons; rfl))) fun K1 hK1 => ?_
        refine qf_mkS 3 (ints [1, 1, 1, 1, 1]) rfl (by kernel_rfl) rfl (fun b61 => ?_)
        (refine qf_nil ?_)
        refine hK1 _ _ ?_
        refine qt_alt ?_ ?_
        · skip
          refine qt_seg (by repeat (first | exact PickL.nil | (apply PickL.cons; rfl))) fun K1 hK1 => ?_
          refine qf_mkS 3 (ints [0, 0, 0, 0, 1]) rfl (by kernel_rfl) rfl (fun b62 => ?_)
          (refine qf_nil ?_)
          refine hK1 _ _ ?_
          refine qt_alt ?_ ?_
          · skip
            refine qt_seg (by repeat (first | exact PickL.nil | (apply PickL.cons; rfl))) fun K1 hK1 => ?_
            refine qf_callv (val := .tuple #[.agg #[.int .i64 (0), .int .i64 (20), .int .i64 (5)], .int .i64 (0)]) tabOk rfl rfl rfl rfl (fun w hs => ?_) ?_
            · have := follow_ca w 0 w.heap.size 0 w.heap.size cs twoR ruA _ _ [1, 1, 1, 1, 1] [0, 0, 0, 0, 1] (ho.at hs (by repeat first | exact .head _ | refine .tail _ ?_)) two_small (Blk.rdI (c := 5) (hs.blk (b := b61) (by repeat first | exact .head _ | refine .tail _ ?_))) (Blk.rdI (c := 5) (hs.blk (b := b62) (by repeat first | exact .head _ | refine .tail _ ?_))) (by decide) (by decide); rw [aw_fol] at this; exact this
            (refine qf_pure tabOk rfl rfl rfl ?_; (iterate 2 refine qf_ext tabOk rfl rfl rfl ?_))
            refine qf_alloc zero55 rfl (fun b19 => ?_)
            (refine qf_setA tabOk rfl rfl rfl rfl rfl (by repeat constructor) rfl ?_; refine qf_pure tabOk rfl rfl rfl ?_; refine qf_nil ?_)
            skip
            exact hK1 _ _ (qt_nil (hK2 b19 _ _ ⟨rfl, rfl, rfl, rfl, rfl, rfl, rfl, rfl, rfl, rfl, trivial⟩ (by repeat (first | exact Sp.nil | exact Sp.refl _ | refine Sp.cons (by repeat constructor) ?_))))
          · skip
            refine qt_seg (by repeat (first | exact PickL.nil | (apply PickL.cons; rfl))) fun K1 hK1 => ?_
            refine qf_alloc zero55 rfl (fun b19 => ?_)
            skip
            refine qf_callv (val := .tuple #[.agg #[.int .i64 (0), .int .i64 (20), .int .i64 (5)], .int .i64 (0)]) tabOk rfl rfl rfl rfl (fun w hs => ?_) ?_
            · have := follow_ca w 0 w.heap.size 0 w.heap.size cs twoR ruA _ _ [1, 1, 1, 1, 1] [0, 0, 0, 0, 1] (ho.at hs (by repeat first | exact .head _ | refine .tail _ ?_)) two_small (Blk.rdI (c := 5) (hs.blk (b := b61) (by repeat first | exact .head _ | refine .tail _ ?_))) (Blk.rdI (c := 5) (hs.blk (b := b62) (by repeat first | exact .head _ | refine .tail _ ?_))) (by decide) (by decide); rw [aw_fol] at this; exact this
            (refine qf_pure tabOk rfl rfl rfl ?_; (iterate 2 refine qf_ext tabOk rfl rfl rfl ?_); refine qf_setA tabOk rfl rfl rfl rfl rfl (by repeat constructor) rfl ?_; refine qf_pure tabOk rfl rfl rfl ?_; refine qf_nil ?_)
            skip
            exact hK1 _ _ (qt_nil (hK2 b19 _ _ ⟨rfl, rfl, rfl, rfl, rfl, rfl, rfl, rfl, rfl, rfl, trivial⟩ (by repeat (first | exact Sp.nil | exact Sp.refl _ | refine Sp.cons (by repeat constructor) ?_))))
        · skip
          refine qt_seg (by repeat (first | exact PickL.nil | (apply PickL.cons; rfl))) fun K1 hK1 => ?_
          refine qf_alloc zero55 rfl (fun b19 => ?_)
          skip
          refine qf_mkS 3 (ints [0, 0, 0, 0, 1]) rfl (by kernel_rfl) rfl (fun b62 => ?_)
          skip
          refine qf_callv (val := .tuple #[.agg #[.int .i64 (0), .int .i64 (20), .int .i64 (5)], .int .i64 (0)]) tabOk rfl rfl rfl rfl (fun w hs => ?_) ?_
          · have := follow_ca w 0 w.heap.size 0 w.heap.size cs twoR ruA _ _ [1, 1, 1, 1, 1] [0, 0, 0, 0, 1] (ho.at hs (by repeat first | exact .head _ | refine .tail _ ?_)) two_small (Blk.rdI (c := 5) (hs.blk (b := b61) (by repeat first | exact .head _ | refine .tail _ ?_))) (Blk.rdI (c := 5) (hs.blk (b := b62) (by repeat first | exact .head _ | refine .tail _ ?_))) (by decide) (by decide); rw [aw_fol] at this; exact this
          (refine qf_pure tabOk rfl rfl rfl ?_; (iterate 2 refine qf_ext tabOk rfl rfl rfl ?_); refine qf_setA tabOk rfl rfl rfl rfl rfl (by repeat constructor) rfl ?_; refine qf_pure tabOk rfl rfl rfl ?_; refine qf_nil ?_)
          skip
          exact hK1 _ _ (qt_nil (hK2 b19 _ _ ⟨rfl, rfl, rfl, rfl, rfl, rfl, rfl, rfl, rfl, rfl, trivial⟩ (by repeat (first | exact Sp.nil | exact Sp.refl _ | refine Sp.cons (by repeat constructor) ?_))))
      · skip
        refine qt_seg (by repeat (first | exact PickL.nil | (apply PickL.cons; rfl))) fun K1 hK1 => ?_
        refine qf_mkS 3 (ints [0, 0, 0, 0, 1]) rfl (by kernel_rfl) rfl (fun b62 => ?_)
        (refine qf_nil ?_)
        refine hK1 _ _ ?_
        refine qt_alt ?_ ?_
        · skip
          refine qt_seg (by repeat (first | exact PickL.nil | (apply PickL.cons; rfl))) fun K1 hK1 => ?_
          refine qf_mkS 3 (ints [1, 1, 1, 1, 1]) rfl (by kernel_rfl) rfl (fun b61 => ?_)
          (refine qf_nil ?_)
          refine hK1 _ _ ?_
          refine qt_alt ?_ ?_
          · skip
            refine qt_seg (by repeat (first | exact PickL.nil | (apply PickL.cons; rfl))) fun K1 hK1 => ?_
            refine qf_callv (val := .tuple #[.agg #[.int .i64 (0), .int .i64 (20), .int .i64 (5)], .int .i64 (0)]) tabOk rfl rfl rfl rfl (fun w hs => ?_) ?_
            · have := follow_ca w 0 w.heap.size 0 w.heap.size cs twoR ruA _ _ [1, 1, 1, 1, 1] [0, 0, 0, 0, 1] (ho.at hs (by repeat first | exact .head _ | refine .tail _ ?_)) two_small (Blk.rdI (c := 5) (hs.blk (b := b61) (by repeat first | exact .head _ | refine .tail _ ?_))) (Blk.rdI (c := 5) (hs.blk (b := b62) (by repeat first | exact .head _ | refine .tail _ ?_))) (by decide) (by decide); rw [aw_fol] at this; exact this
            (refine qf_pure tabOk rfl rfl rfl ?_; (iterate 2 refine qf_ext tabOk rfl rfl rfl ?_))
            refine qf_alloc zero55 rfl (fun b19 => ?_)
            (refine qf_setA tabOk rfl rfl rfl rfl rfl (by repeat constructor) rfl ?_; refine qf_pure tabOk rfl rfl rfl ?_; refine qf_nil ?_)
            skip
            exact hK1 _ _ (qt_nil (hK2 b19 _ _ ⟨rfl, rfl, rfl, rfl, rfl, rfl, rfl, rfl, rfl, rfl, trivial⟩ (by repeat (first | exact Sp.nil | exact Sp.refl _ | refine Sp.cons (by repeat constructor) ?_))))
          · skip
            refine qt_seg (by repeat (first | exact PickL.nil | (apply PickL.cons; rfl))) fun K1 hK1 => ?_
            refine qf_alloc zero55 rfl (fun b19 => ?_)
            skip
            refine qf_callv (val := .tuple #[.agg #[.int .i64 (0), .int .i64 (20), .int .i64 (5)], .int .i64 (0)]) tabOk rfl rfl rfl rfl (fun w hs => ?_) ?_
            · have := follow_ca w 0 w.heap.size 0 w.heap.size cs twoR ruA _ _ [1, 1, 1, 1, 1] [0, 0, 0, 0, 1] (ho.at hs (by repeat first | exact .head _ | refine .tail _ ?_)) two_small (Blk.rdI (c := 5) (hs.blk (b := b61) (by repeat first | exact .head _ | refine .tail _ ?_))) (Blk.rdI (c := 5) (hs.blk (b := b62) (by repeat first | exact .head _ | refine .tail _ ?_))) (by decide) (by decide); rw [aw_fol] at this; exact this
            (refine qf_pure tabOk rfl rfl rfl ?_; (iterate 2 refine qf_ext tabOk rfl rfl rfl ?_); refine qf_setA tabOk rfl rfl rfl rfl rfl (by repeat constructor) rfl ?_; refine qf_pure tabOk rfl rfl rfl ?_; refine qf_nil ?_)
            skip
            exact hK1 _ _ (qt_nil (hK2 b19 _ _ ⟨rfl, rfl, rfl, rfl, rfl, rfl, rfl, rfl, rfl, rfl, trivial⟩ (by repeat (first | exact Sp.nil | exact Sp.refl _ | refine Sp.cons (by repeat constructor) ?_))))
        · skip
          refine qt_seg (by repeat (first | exact PickL.nil | (apply PickL.cons; rfl))) fun K1 hK1 => ?_
          refine qf_alloc zero55 rfl (fun b19 => ?_)
          skip
          refine qf_mkS 3 (ints [1, 1, 1, 1, 1]) rfl (by kernel_rfl) rfl (fun b61 => ?_)
          skip
          refine qf_callv (val := .tuple #[.agg #[.int .i64 (0), .int .i64 (20), .int .i64 (5)], .int .i64 (0)]) tabOk rfl rfl rfl rfl (fun w hs => ?_) ?_
          · have := follow_ca w 0 w.heap.size 0 w.heap.size cs twoR ruA _ _ [1, 1, 1, 1, 1] [0, 0, 0, 0, 1] (ho.at hs (by repeat first | exact .head _ | refine .tail _ ?_)) two_small (Blk.rdI (c := 5) (hs.blk (b := b61) (by repeat first | exact .head _ | refine .tail _ ?_))) (Blk.rdI (c := 5) (hs.blk (b := b62) (by repeat first | exact .head _ | refine .tail _ ?_))) (by decide) (by decide); rw [aw_fol] at this; exact this
          (refine qf_pure tabOk rfl rfl rfl ?_; (iterate 2 refine qf_ext tabOk rfl rfl rfl ?_); refine qf_setA tabOk rfl rfl rfl rfl rfl (by repeat constructor) rfl ?_; refine qf_pure tabOk rfl rfl rfl ?_; refine qf_nil ?_)
          skip
          exact hK1 _ _ (qt_nil (hK2 b19 _ _ ⟨rfl, rfl, rfl, rfl, rfl, rfl, rfl, rfl, rfl, rfl, trivial⟩ (by repeat (first | exact Sp.nil | exact Sp.refl _ | refine Sp.cons (by repeat constructor) ?_))))
      · skip
        refine qt_seg (by repeat (first | exact PickL.nil | (apply PickL.cons; rfl))) fun K1 hK1 => ?_
        refine qf_alloc zero55 rfl (fun b19 => ?_)
        (refine qf_nil ?_)
        refine hK1 _ _ ?_
        refine qt_alt ?_ ?_
        · skip
          refine qt_seg (by repeat (first | exact PickL.nil | (apply PickL.cons; rfl))) fun K1 hK1 => ?_
          refine qf_mkS 3 (ints [1, 1, 1, 1, 1]) rfl (by kernel_rfl) rfl (fun b61 => ?_)
          skip
          refine qf_mkS 3 (ints [0, 0, 0, 0, 1]) rfl (by kernel_rfl) rfl (fun b62 => ?_)
          skip
          refine qf_callv (val := .tuple #[.agg #[.int .i64 (0), .int .i64 (20), .int .i64 (5)], .int .i64 (0)]) tabOk rfl rfl rfl rfl (fun w hs => ?_) ?_
          · have := follow_ca w 0 w.heap.size 0 w.heap.size cs twoR ruA _ _ [1, 1, 1, 1, 1] [0, 0, 0, 0, 1] (ho.at hs (by repeat first | exact .head _ | refine .tail _ ?_)) two_small (Blk.rdI (c := 5) (hs.blk (b := b61) (by repeat first | exact .head _ | refine .tail _ ?_))) (Blk.rdI (c := 5) (hs.blk (b := b62) (by repeat first | exact .head _ | refine .tail _ ?_))) (by decide) (by decide); rw [aw_fol] at this; exact this
          (refine qf_pure tabOk rfl rfl rfl ?_; (iterate 2 refine qf_ext tabOk rfl rfl rfl ?_); refine qf_setA tabOk rfl rfl rfl rfl rfl (by repeat constructor) rfl ?_; refine qf_pure tabOk rfl rfl rfl ?_; refine qf_nil ?_)
          skip
          exact hK1 _ _ (qt_nil (hK2 b19 _ _ ⟨rfl, rfl, rfl, rfl, rfl, rfl, rfl, rfl, rfl, rfl, trivial⟩ (by repeat (first | exact Sp.nil | exact Sp.refl _ | refine Sp.cons (by repeat constructor) ?_))))
        · skip
          refine qt_seg (by repeat (first | exact PickL.nil | (apply PickL.cons; rfl))) fun K1 hK1 => ?_
          refine qf_mkS 3 (ints [0, 0, 0, 0, 1]) rfl (by kernel_rfl) rfl (fun b62 => ?_)
          skip
          refine qf_mkS 3 (ints [1, 1, 1, 1, 1]) rfl (by kernel_rfl) rfl (fun b61 => ?_)
          skip
          refine qf_callv (val := .tuple #[.agg #[.int .i64 (0), .int .i64 (20), .int .i64 (5)], .int .i64 (0)]) tabOk rfl rfl rfl rfl (fun w hs => ?_) ?_
          · have := follow_ca w 0 w.heap.size 0 w.heap.size cs twoR ruA _ _ [1, 1, 1, 1, 1] [0, 0, 0, 0, 1] (ho.at hs (by repeat first | exact .head _ | refine .tail _ ?_)) two_small (Blk.rdI (c := 5) (hs.blk (b := b61) (by repeat first | exact .head _ | refine .tail _ ?_))) (Blk.rdI (c := 5) (hs.blk (b := b62) (by repeat first | exact .head _ | refine .tail _ ?_))) (by decide) (by decide); rw [aw_fol] at this; exact this
          (refine qf_pure tabOk rfl rfl rfl ?_; (iterate 2 refine qf_ext tabOk rfl rfl rfl ?_); refine qf_setA tabOk rfl rfl rfl rfl rfl (by repeat constructor) rfl ?_; refine qf_pure tabOk rfl rfl rfl ?_; refine qf_nil ?_)
          skip
          exact hK1 _ _ (qt_nil (hK2 b19 _ _ ⟨rfl, rfl, rfl, rfl, rfl, rfl, rfl, rfl, rfl, rfl, trivial⟩ (by repeat (first | exact Sp.nil | exact Sp.refl _ | refine Sp.cons (by repeat constructor) ?_))))
    · skip
      refine qt_seg (by repeat (first | exact PickL.nil | (apply PickL.cons; rfl))) fun K1 hK1 => ?_
      refine qf_mkS 3 (ints [1, 1, 1, 1, 1]) rfl (by kernel_rfl) rfl (fun b61 => ?_)
      (refine qf_nil ?_)
      refine hK1 _ _ ?_
      refine qt_alt ?_ (qt_alt ?_ ?_)
      · skip
        refine qt_seg (by repeat (first | exact PickL.nil | (apply PickL.cons; rfl))) fun K1 hK1 => ?_
        refine qf_call (β := List Ck × List Value) tabOk [] _ M0 rfl rfl rfl rfl (Sp.refl _) (fun _ h => h.elim) (fun w' hs => two_ca w') ?_
        rintro ⟨L, cs⟩ _ ⟨rfl, ho⟩
        (refine qf_loadAB tabOk rfl rfl rfl (by repeat first | exact .head _ | refine .tail _ ?_) (by rfl) (by rfl) ?_; refine qf_nil ?_)
        refine hK1 _ _ ?_
        refine qt_alt ?_ ?_
        · skip
          refine qt_seg (by repeat (first | exact PickL.nil | (apply PickL.cons; rfl))) fun K1 hK1 => ?_
          refine qf_mkS 3 (ints [0, 0, 0, 0, 1]) rfl (by kernel_rfl) rfl (fun b62 => ?_)
          (refine qf_nil ?_)
          refine hK1 _ _ ?_
          refine qt_alt ?_ ?_
          · skip
            refine qt_seg (by repeat (first | exact PickL.nil | (apply PickL.cons; rfl))) fun K1 hK1 => ?_
            refine qf_callv (val := .tuple #[.agg #[.int .i64 (0), .int .i64 (20), .int .i64 (5)], .int .i64 (0)]) tabOk rfl rfl rfl rfl (fun w hs => ?_) ?_
            · have := follow_ca w 0 w.heap.size 0 w.heap.size cs twoR ruA _ _ [1, 1, 1, 1, 1] [0, 0, 0, 0, 1] (ho.at hs (by repeat first | exact .head _ | refine .tail _ ?_)) two_small (Blk.rdI (c := 5) (hs.blk (b := b61) (by repeat first | exact .head _ | refine .tail _ ?_))) (Blk.rdI (c := 5) (hs.blk (b := b62) (by repeat first | exact .head _ | refine .tail _ ?_))) (by decide) (by decide); rw [aw_fol] at this; exact this
            (refine qf_pure tabOk rfl rfl rfl ?_; (iterate 2 refine qf_ext tabOk rfl rfl rfl ?_))
            refine qf_alloc zero55 rfl (fun b19 => ?_)
            (refine qf_setA tabOk rfl rfl rfl rfl rfl (by repeat constructor) rfl ?_; refine qf_pure tabOk rfl rfl rfl ?_; refine qf_nil ?_)
            skip
            exact hK1 _ _ (qt_nil (hK2 b19 _ _ ⟨rfl, rfl, rfl, rfl, rfl, rfl, rfl, rfl, rfl, rfl, trivial⟩ (by repeat (first | exact Sp.nil | exact Sp.refl _ | refine Sp.cons (by repeat constructor) ?_))))
          · skip
            refine qt_seg (by repeat (first | exact PickL.nil | (apply PickL.cons; rfl))) fun K1 hK1 => ?_
            refine qf_alloc zero55 rfl (fun b19 => ?_)
            skip
            refine qf_callv (val := .tuple #[.agg #[.int .i64 (0), .int .i64 (20), .int .i64 (5)], .int .i64 (0)]) tabOk rfl rfl rfl rfl (fun w hs => ?_) ?_
            · have := follow_ca w 0 w.heap.size 0 w.heap.size cs twoR ruA _ _ [1, 1, 1, 1, 1] [0, 0, 0, 0, 1] (ho.at hs (by repeat first | exact .head _ | refine .tail _ ?_)) two_small (Blk.rdI (c := 5) (hs.blk (b := b61) (by repeat first | exact .head _ | refine .tail _ ?_))) (Blk.rdI (c := 5) (hs.blk (b := b62) (by repeat first | exact .head _ | refine .tail _ ?_))) (by decide) (by decide); rw [aw_fol] at this; exact this
            (refine qf_pure tabOk rfl rfl rfl ?_; (iterate 2 refine qf_ext tabOk rfl rfl rfl ?_); refine qf_setA tabOk rfl rfl rfl rfl rfl (by repeat constructor) rfl ?_; refine qf_pure tabOk rfl rfl rfl ?_; refine qf_nil ?_)
            skip
            exact hK1 _ _ (qt_nil (hK2 b19 _ _ ⟨rfl, rfl, rfl, rfl, rfl, rfl, rfl, rfl, rfl, rfl, trivial⟩ (by repeat (first | exact Sp.nil | exact Sp.refl _ | refine Sp.cons (by repeat constructor) ?_))))
        · skip
          refine qt_seg (by repeat (first | exact PickL.nil | (apply PickL.cons; rfl))) fun K1 hK1 => ?_
          refine qf_alloc zero55 rfl (fun b19 => ?_)
          skip
          refine qf_mkS 3 (ints [0, 0, 0, 0, 1]) rfl (by kernel_rfl) rfl (fun b62 => ?_)
          skip
          refine qf_callv (val := .tuple #[.agg #[.int .i64 (0), .int .i64 (20), .int .i64 (5)], .int .i64 (0)]) tabOk rfl rfl rfl rfl (fun w hs => ?_) ?_
          · have := follow_ca w 0 w.heap.size 0 w.heap.size cs twoR ruA _ _ [1, 1, 1, 1, 1] [0, 0, 0, 0, 1] (ho.at hs (by repeat first | exact .head _ | refine .tail _ ?_)) two_small (Blk.rdI (c := 5) (hs.blk (b := b61) (by repeat first | exact .head _ | refine .tail _ ?_))) (Blk.rdI (c := 5) (hs.blk (b := b62) (by repeat first | exact .head _ | refine .tail _ ?_))) (by decide) (by decide); rw [aw_fol] at this; exact this
          (refine qf_pure tabOk rfl rfl rfl ?_; (iterate 2 refine qf_ext tabOk rfl rfl rfl ?_); refine qf_setA tabOk rfl rfl rfl rfl rfl (by repeat constructor) rfl ?_; refine qf_pure tabOk rfl rfl rfl ?_; refine qf_nil ?_)
          skip
          exact hK1 _ _ (qt_nil (hK2 b19 _ _ ⟨rfl, rfl, rfl, rfl, rfl, rfl, rfl, rfl, rfl, rfl, trivial⟩ (by repeat (first | exact Sp.nil | exact Sp.refl _ | refine Sp.cons (by repeat constructor) ?_))))
      · skip
        refine qt_seg (by repeat (first | exact PickL.nil | (apply PickL.cons; rfl))) fun K1 hK1 => ?_
        refine qf_mkS 3 (ints [0, 0, 0, 0, 1]) rfl (by kernel_rfl) rfl (fun b62 => ?_)
        (refine qf_nil ?_)
        refine hK1 _ _ ?_
        refine qt_alt ?_ ?_
        · skip
          refine qt_seg (by repeat (first | exact PickL.nil | (apply PickL.cons; rfl))) fun K1 hK1 => ?_
          refine qf_call (β := List Ck × List Value) tabOk [] _ M0 rfl rfl rfl rfl (Sp.refl _) (fun _ h => h.elim) (fun w' hs => two_ca w') ?_
          rintro ⟨L, cs⟩ _ ⟨rfl, ho⟩
          (refine qf_loadAB tabOk rfl rfl rfl (by repeat first | exact .head _ | refine .tail _ ?_) (by rfl) (by rfl) ?_; refine qf_nil ?_)
          refine hK1 _ _ ?_
          refine qt_alt ?_ ?_
          · skip
            refine qt_seg (by repeat (first | exact PickL.nil | (apply PickL.cons; rfl))) fun K1 hK1 => ?_
            refine qf_callv (val := .tuple #[.agg #[.int .i64 (0), .int .i64 (20), .int .i64 (5)], .int .i64 (0)]) tabOk rfl rfl rfl rfl (fun w hs => ?_) ?_
            · have := follow_ca w 0 w.heap.size 0 w.heap.size cs twoR ruA _ _ [1, 1, 1, 1, 1] [0, 0, 0, 0, 1] (ho.at hs (by repeat first | exact .head _ | refine .tail _ ?_)) two_small (Blk.rdI (c := 5) (hs.blk (b := b61) (by repeat first | exact .head _ | refine .tail _ ?_))) (Blk.rdI (c := 5) (hs.blk (b := b62) (by repeat first | exact .head _ | refine .tail _ ?_))) (by decide) (by decide); rw [aw_fol] at this; exact this
            (refine qf_pure tabOk rfl rfl rfl ?_; (iterate 2 refine qf_ext tabOk rfl rfl rfl ?_))
            refine qf_alloc zero55 rfl (fun b19 => ?_)
            (refine qf_setA tabOk rfl rfl rfl rfl rfl (by repeat constructor) rfl ?_; refine qf_pure tabOk rfl rfl rfl ?_; refine qf_nil ?_)
            skip
            exact hK1 _ _ (qt_nil (hK2 b19 _ _ ⟨rfl, rfl, rfl, rfl, rfl, rfl, rfl, rfl, rfl, rfl, trivial⟩ (by repeat (first | exact Sp.nil | exact Sp.refl _ | refine Sp.cons (by repeat constructor) ?_))))
          · skip
            refine qt_seg (by repeat (first | exact PickL.nil | (apply PickL.cons; rfl))) fun K1 hK1 => ?_
            refine qf_alloc zero55 rfl (fun b19 => ?_)
            skip
            refine qf_callv (val := .tuple #[.agg #[.int .i64 (0), .int .i64 (20), .int .i64 (5)], .int .i64 (0)]) tabOk rfl rfl rfl rfl (fun w hs => ?_) ?_
            · have := follow_ca w 0 w.heap.size 0 w.heap.size cs twoR ruA _ _ [1, 1, 1, 1, 1] [0, 0, 0, 0, 1] (ho.at hs (by repeat first | exact .head _ | refine .tail _ ?_)) two_small (Blk.rdI (c := 5) (hs.blk (b := b61) (by repeat first | exact .head _ | refine .tail _ ?_))) (Blk.rdI (c := 5) (hs.blk (b := b62) (by repeat first | exact .head _ | refine .tail _ ?_))) (by decide) (by decide); rw [aw_fol] at this; exact this
            (refine qf_pure tabOk rfl rfl rfl ?_; (iterate 2 refine qf_ext tabOk rfl rfl rfl ?_); refine qf_setA tabOk rfl rfl rfl rfl rfl (by repeat constructor) rfl ?_; refine qf_pure tabOk rfl rfl rfl ?_; refine qf_nil ?_)
            skip
            exact hK1 _ _ (qt_nil (hK2 b19 _ _ ⟨rfl, rfl, rfl, rfl, rfl, rfl, rfl, rfl, rfl, rfl, trivial⟩ (by repeat (first | exact Sp.nil | exact Sp.refl _ | refine Sp.cons (by repeat constructor) ?_))))
        · skip
          refine qt_seg (by repeat (first | exact PickL.nil | (apply PickL.cons; rfl))) fun K1 hK1 => ?_
          refine qf_alloc zero55 rfl (fun b19 => ?_)
          skip
          refine qf_call (β := List Ck × List Value) tabOk [] _ M0 rfl rfl rfl rfl (Sp.refl _) (fun _ h => h.elim) (fun w' hs => two_ca w') ?_
          rintro ⟨L, cs⟩ _ ⟨rfl, ho⟩
          (refine qf_loadAB tabOk rfl rfl rfl (by repeat first | exact .head _ | refine .tail _ ?_) (by rfl) (by rfl) ?_)
          refine qf_callv (val := .tuple #[.agg #[.int .i64 (0), .int .i64 (20), .int .i64 (5)], .int .i64 (0)]) tabOk rfl rfl rfl rfl (fun w hs => ?_) ?_
          · have := follow_ca w 0 w.heap.size 0 w.heap.size cs twoR ruA _ _ [1, 1, 1, 1, 1] [0, 0, 0, 0, 1] (ho.at hs (by repeat first | exact .head _ | refine .tail _ ?_)) two_small (Blk.rdI (c := 5) (hs.blk (b := b61) (by repeat first | exact .head _ | refine .tail _ ?_))) (Blk.rdI (c := 5) (hs.blk (b := b62) (by repeat first | exact .head _ | refine .tail _ ?_))) (by decide) (by decide); rw [aw_fol] at this; exact this
          (refine qf_pure tabOk rfl rfl rfl ?_; (iterate 2 refine qf_ext tabOk rfl rfl rfl ?_); refine qf_setA tabOk rfl rfl rfl rfl rfl (by repeat constructor) rfl ?_; refine qf_pure tabOk rfl rfl rfl ?_; refine qf_nil ?_)
          skip
          exact hK1 _ _ (qt_nil (hK2 b19 _ _ ⟨rfl, rfl, rfl, rfl, rfl, rfl, rfl, rfl, rfl, rfl, trivial⟩ (by repeat (first | exact Sp.nil | exact Sp.refl _ | refine Sp.cons (by repeat constructor) ?_))))
      · skip
        refine qt_seg (by repeat (first | exact PickL.nil | (apply PickL.cons; rfl))) fun K1 hK1 => ?_
        refine qf_alloc zero55 rfl (fun b19 => ?_)
        (refine qf_nil ?_)
        refine hK1 _ _ ?_
        refine qt_alt ?_ ?_
        · skip
          refine qt_seg (by repeat (first | exact PickL.nil | (apply PickL.cons; rfl))) fun K1 hK1 => ?_
          refine qf_call (β := List Ck × List Value) tabOk [] _ M0 rfl rfl rfl rfl (Sp.refl _) (fun _ h => h.elim) (fun w' hs => two_ca w') ?_
          rintro ⟨L, cs⟩ _ ⟨rfl, ho⟩
          (refine qf_loadAB tabOk rfl rfl rfl (by repeat first | exact .head _ | refine .tail _ ?_) (by rfl) (by rfl) ?_)
          refine qf_mkS 3 (ints [0, 0, 0, 0, 1]) rfl (by kernel_rfl) rfl (fun b62 => ?_)
          skip
          refine qf_callv (val := .tuple #[.agg #[.int .i64 (0), .int .i64 (20), .int .i64 (5)], .int .i64 (0)]) tabOk rfl rfl rfl rfl (fun w hs => ?_) ?_
          · have := follow_ca w 0 w.heap.size 0 w.heap.size cs twoR ruA _ _ [1, 1, 1, 1, 1] [0, 0, 0, 0, 1] (ho.at hs (by repeat first | exact .head _ | refine .tail _ ?_)) two_small (Blk.rdI (c := 5) (hs.blk (b := b61) (by repeat first | exact .head _ | refine .tail _ ?_))) (Blk.rdI (c := 5) (hs.blk (b := b62) (by repeat first | exact .head _ | refine .tail _ ?_))) (by decide) (by decide); rw [aw_fol] at this; exact this
          (refine qf_pure tabOk rfl rfl rfl ?_; (iterate 2 refine qf_ext tabOk rfl rfl rfl ?_); refine qf_setA tabOk rfl rfl rfl rfl rfl (by repeat constructor) rfl ?_; refine qf_pure tabOk rfl rfl rfl ?_; refine qf_nil ?_)
          skip
          exact hK1 _ _ (qt_nil (hK2 b19 _ _ ⟨rfl, rfl, rfl, rfl, rfl, rfl, rfl, rfl, rfl, rfl, trivial⟩ (by repeat (first | exact Sp.nil | exact Sp.refl _ | refine Sp.cons (by repeat constructor) ?_))))
        · skip
          refine qt_seg (by repeat (first | exact PickL.nil | (apply PickL.cons; rfl))) fun K1 hK1 => ?_
          refine qf_mkS 3 (ints [0, 0, 0, 0, 1]) rfl (by kernel_rfl) rfl (fun b62 => ?_)
          skip
          refine qf_call (β := List Ck × List Value) tabOk [] _ M0 rfl rfl rfl rfl (Sp.refl _) (fun _ h => h.elim) (fun w' hs => two_ca w') ?_
          rintro ⟨L, cs⟩ _ ⟨rfl, ho⟩
          (refine qf_loadAB tabOk rfl rfl rfl (by repeat first | exact .head _ | refine .tail _ ?_) (by rfl) (by rfl) ?_)
          refine qf_callv (val := .tuple #[.agg #[.int .i64 (0), .int .i64 (20), .int .i64 (5)], .int .i64 (0)]) tabOk rfl rfl rfl rfl (fun w hs => ?_) ?_
          · have := follow_ca w 0 w.heap.size 0 w.heap.size cs twoR ruA _ _ [1, 1, 1, 1, 1] [0, 0, 0, 0, 1] (ho.at hs (by repeat first | exact .head _ | refine .tail _ ?_)) two_small (Blk.rdI (c := 5) (hs.blk (b := b61) (by repeat first | exact .head _ | refine .tail _ ?_))) (Blk.rdI (c := 5) (hs.blk (b := b62) (by repeat first | exact .head _ | refine .tail _ ?_))) (by decide) (by decide); rw [aw_fol] at this; exact this
          (refine qf_pure tabOk rfl rfl rfl ?_; (iterate 2 refine qf_ext tabOk rfl rfl rfl ?_); refine qf_setA tabOk rfl rfl rfl rfl rfl (by repeat constructor) rfl ?_; refine qf_pure tabOk rfl rfl rfl ?_; refine qf_nil ?_)
          skip
          exact hK1 _ _ (qt_nil (hK2 b19 _ _ ⟨rfl, rfl, rfl, rfl, rfl, rfl, rfl, rfl, rfl, rfl, trivial⟩ (by repeat (first | exact Sp.nil | exact Sp.refl _ | refine Sp.cons (by repeat constructor) ?_))))
    · skip
      refine qt_seg (by repeat (first | exact PickL.nil | (apply PickL.cons; rfl))) fun K1 hK1 => ?_
      refine qf_mkS 3 (ints [0, 0, 0, 0, 1]) rfl (by kernel_rfl) rfl (fun b62 => ?_)
      (refine qf_nil ?_)
      refine hK1 _ _ ?_
      refine qt_alt ?_ (qt_alt ?_ ?_)
      · skip
        refine qt_seg (by repeat (first | exact PickL.nil | (apply PickL.cons; rfl))) fun K1 hK1 => ?_
        refine qf_call (β := List Ck × List Value) tabOk [] _ M0 rfl rfl rfl rfl (Sp.refl _) (fun _ h => h.elim) (fun w' hs => two_ca w') ?_
        rintro ⟨L, cs⟩ _ ⟨rfl, ho⟩
        (refine qf_loadAB tabOk rfl rfl rfl (by repeat first | exact .head _ | refine .tail _ ?_) (by rfl) (by rfl) ?_; refine qf_nil ?_)
        refine hK1 _ _ ?_
        refine qt_alt ?_ ?_
        · skip
          refine qt_seg (by repeat (first | exact PickL.nil | (apply PickL.cons; rfl))) fun K1 hK1 => ?_
          refine qf_mkS 3 (ints [1, 1, 1, 1, 1]) rfl (by kernel_rfl) rfl (fun b61 => ?_)
          (refine qf_nil ?_)
          refine hK1 _ _ ?_
          refine qt_alt ?_ ?_
          · skip
            refine qt_seg (by repeat (first | exact PickL.nil | (apply PickL.cons; rfl))) fun K1 hK1 => ?_
            refine qf_callv (val := .tuple #[.agg #[.int .i64 (0), .int .i64 (20), .int .i64 (5)], .int .i64 (0)]) tabOk rfl rfl rfl rfl (fun w hs => ?_) ?_
            · have := follow_ca w 0 w.heap.size 0 w.heap.size cs twoR ruA _ _ [1, 1, 1, 1, 1] [0, 0, 0, 0, 1] (ho.at hs (by repeat first | exact .head _ | refine .tail _ ?_)) two_small (Blk.rdI (c := 5) (hs.blk (b := b61) (by repeat first | exact .head _ | refine .tail _ ?_))) (Blk.rdI (c := 5) (hs.blk (b := b62) (by repeat first | exact .head _ | refine .tail _ ?_))) (by decide) (by decide); rw [aw_fol] at this; exact this
            (refine qf_pure tabOk rfl rfl rfl ?_; (iterate 2 refine qf_ext tabOk rfl rfl rfl ?_))
            refine qf_alloc zero55 rfl (fun b19 => ?_)
            (refine qf_setA tabOk rfl rfl rfl rfl rfl (by repeat constructor) rfl ?_; refine qf_pure tabOk rfl rfl rfl ?_; refine qf_nil ?_)
            skip
            exact hK1 _ _ (qt_nil (hK2 b19 _ _ ⟨rfl, rfl, rfl, rfl, rfl, rfl, rfl, rfl, rfl, rfl, trivial⟩ (by repeat (first | exact Sp.nil | exact Sp.refl _ | refine Sp.cons (by repeat constructor) ?_))))
          · skip
            refine qt_seg (by repeat (first | exact PickL.nil | (apply PickL.cons; rfl))) fun K1 hK1 => ?_
            refine qf_alloc zero55 rfl (fun b19 => ?_)
            skip
            refine qf_callv (val := .tuple #[.agg #[.int .i64 (0), .int .i64 (20), .int .i64 (5)], .int .i64 (0)]) tabOk rfl rfl rfl rfl (fun w hs => ?_) ?_
            · have := follow_ca w 0 w.heap.size 0 w.heap.size cs twoR ruA _ _ [1, 1, 1, 1, 1] [0, 0, 0, 0, 1] (ho.at hs (by repeat first | exact .head _ | refine .tail _ ?_)) two_small (Blk.rdI (c := 5) (hs.blk (b := b61) (by repeat first | exact .head _ | refine .tail _ ?_))) (Blk.rdI (c := 5) (hs.blk (b := b62) (by repeat first | exact .head _ | refine .tail _ ?_))) (by decide) (by decide); rw [aw_fol] at this; exact this
            (refine qf_pure tabOk rfl rfl rfl ?_; (iterate 2 refine qf_ext tabOk rfl rfl rfl ?_); refine qf_setA tabOk rfl rfl rfl rfl rfl (by repeat constructor) rfl ?_; refine qf_pure tabOk rfl rfl rfl ?_; refine qf_nil ?_)
            skip
            exact hK1 _ _ (qt_nil (hK2 b19 _ _ ⟨rfl, rfl, rfl, rfl, rfl, rfl, rfl, rfl, rfl, rfl, trivial⟩ (by repeat (first | exact Sp.nil | exact Sp.refl _ | refine Sp.cons (by repeat constructor) ?_))))
        · skip
          refine qt_seg (by repeat (first | exact PickL.nil | (apply PickL.cons; rfl))) fun K1 hK1 => ?_
          refine qf_alloc zero55 rfl (fun b19 => ?_)
          skip
          refine qf_mkS 3 (ints [1, 1, 1, 1, 1]) rfl (by kernel_rfl) rfl (fun b61 => ?_)
          skip
          refine qf_callv (val := .tuple #[.agg #[.int .i64 (0), .int .i64 (20), .int .i64 (5)], .int .i64 (0)]) tabOk rfl rfl rfl rfl (fun w hs => ?_) ?_
          · have := follow_ca w 0 w.heap.size 0 w.heap.size cs twoR ruA _ _ [1, 1, 1, 1, 1] [0, 0, 0, 0, 1] (ho.at hs (by repeat first | exact .head _ | refine .tail _ ?_)) two_small (Blk.rdI (c := 5) (hs.blk (b := b61) (by repeat first | exact .head _ | refine .tail _ ?_))) (Blk.rdI (c := 5) (hs.blk (b := b62) (by repeat first | exact .head _ | refine .tail _ ?_))) (by decide) (by decide); rw [aw_fol] at this; exact this
          (refine qf_pure tabOk rfl rfl rfl ?_; (iterate 2 refine qf_ext tabOk rfl rfl rfl ?_); refine qf_setA tabOk rfl rfl rfl rfl rfl (by repeat constructor) rfl ?_; refine qf_pure tabOk rfl rfl rfl ?_; refine qf_nil ?_)
          skip
          exact hK1 _ _ (qt_nil (hK2 b19 _ _ ⟨rfl, rfl, rfl, rfl, rfl, rfl, rfl, rfl, rfl, rfl, trivial⟩ (by repeat (first | exact Sp.nil | exact Sp.refl _ | refine Sp.cons (by repeat constructor) ?_))))
      · skip
        refine qt_seg (by repeat (first | exact PickL.nil | (apply PickL.cons; rfl))) fun K1 hK1 => ?_
        refine qf_mkS 3 (ints [1, 1, 1, 1, 1]) rfl (by kernel_rfl) rfl (fun b61 => ?_)
        (refine qf_nil ?_)
        refine hK1 _ _ ?_
        refine qt_alt ?_ ?_
        · skip
          refine qt_seg (by repeat (first | exact PickL.nil | (apply PickL.cons; rfl))) fun K1 hK1 => ?_
          refine qf_call (β := List Ck × List Value) tabOk [] _ M0 rfl rfl rfl rfl (Sp.refl _) (fun _ h => h.elim) (fun w' hs => two_ca w') ?_
          rintro ⟨L, cs⟩ _ ⟨rfl, ho⟩
          (refine qf_loadAB tabOk rfl rfl rfl (by repeat first | exact .head _ | refine .tail _ ?_) (by rfl) (by rfl) ?_; refine qf_nil ?_)
          refine hK1 _ _ ?_
          refine qt_alt ?_ ?_
          · skip
            refine qt_seg (by repeat (first | exact PickL.nil | (apply PickL.cons; rfl))) fun K1 hK1 => ?_
            refine qf_callv (val := .tuple #[.agg #[.int .i64 (0), .int .i64 (20), .int .i64 (5)], .int .i64 (0)]) tabOk rfl rfl rfl rfl (fun w hs => ?_) ?_
            · have := follow_ca w 0 w.heap.size 0 w.heap.size cs twoR ruA _ _ [1, 1, 1, 1, 1] [0, 0, 0, 0, 1] (ho.at hs (by repeat first | exact .head _ | refine .tail _ ?_)) two_small (Blk.rdI (c := 5) (hs.blk (b := b61) (by repeat first | exact .head _ | refine .tail _ ?_))) (Blk.rdI (c := 5) (hs.blk (b := b62) (by repeat first | exact .head _ | refine .tail _ ?_))) (by decide) (by decide); rw [aw_fol] at this; exact this
            (refine qf_pure tabOk rfl rfl rfl ?_; (iterate 2 refine qf_ext tabOk rfl rfl rfl ?_))
            refine qf_alloc zero55 rfl (fun b19 => ?_)
            (refine qf_setA tabOk rfl rfl rfl rfl rfl (by repeat constructor) rfl ?_; refine qf_pure tabOk rfl rfl rfl ?_; refine qf_nil ?_)
            skip
            exact hK1 _ _ (qt_nil (hK2 b19 _ _ ⟨rfl, rfl, rfl, rfl, rfl, rfl, rfl, rfl, rfl, rfl, trivial⟩ (by repeat (first | exact Sp.nil | exact Sp.refl _ | refine Sp.cons (by repeat constructor) ?_))))
          · skip
            refine qt_seg (by repeat (first | exact PickL.nil | (apply PickL.cons; rfl))) fun K1 hK1 => ?_
            refine qf_alloc zero55 rfl (fun b19 => ?_)
            skip
            refine qf_callv (val := .tuple #[.agg #[.int .i64 (0), .int .i64 (20), .int .i64 (5)], .int .i64 (0)]) tabOk rfl rfl rfl rfl (fun w hs => ?_) ?_
            · have := follow_ca w 0 w.heap.size 0 w.heap.size cs twoR ruA _ _ [1, 1, 1, 1, 1] [0, 0, 0, 0, 1] (ho.at hs (by repeat first | exact .head _ | refine .tail _ ?_)) two_small (Blk.rdI (c := 5) (hs.blk (b := b61) (by repeat first | exact .head _ | refine .tail _ ?_))) (Blk.rdI (c := 5) (hs.blk (b := b62) (by repeat first | exact .head _ | refine .tail _ ?_))) (by decide) (by decide); rw [aw_fol] at this; exact this
            (refine qf_pure tabOk rfl rfl rfl ?_; (iterate 2 refine qf_ext tabOk rfl rfl rfl ?_); refine qf_setA tabOk rfl rfl rfl rfl rfl (by repeat constructor) rfl ?_; refine qf_pure tabOk rfl rfl rfl ?_; refine qf_nil ?_)
            skip
            exact hK1 _ _ (qt_nil (hK2 b19 _ _ ⟨rfl, rfl, rfl, rfl, rfl, rfl, rfl, rfl, rfl, rfl, trivial⟩ (by repeat (first | exact Sp.nil | exact Sp.refl _ | refine Sp.cons (by repeat constructor) ?_))))
        · skip
          refine qt_seg (by repeat (first | exact PickL.nil | (apply PickL.cons; rfl))) fun K1 hK1 => ?_
          refine qf_alloc zero55 rfl (fun b19 => ?_)
          skip
          refine qf_call (β := List Ck × List Value) tabOk [] _ M0 rfl rfl rfl rfl (Sp.refl _) (fun _ h => h.elim) (fun w' hs => two_ca w') ?_
          rintro ⟨L, cs⟩ _ ⟨rfl, ho⟩
          (refine qf_loadAB tabOk rfl rfl rfl (by repeat first | exact .head _ | refine .tail _ ?_) (by rfl) (by rfl) ?_)
          refine qf_callv (val := .tuple #[.agg #[.int .i64 (0), .int .i64 (20), .int .i64 (5)], .int .i64 (0)]) tabOk rfl rfl rfl rfl (fun w hs => ?_) ?_
          · have := follow_ca w 0 w.heap.size 0 w.heap.size cs twoR ruA _ _ [1, 1, 1, 1, 1] [0, 0, 0, 0, 1] (ho.at hs (by repeat first | exact .head _ | refine .tail _ ?_)) two_small (Blk.rdI (c := 5) (hs.blk (b := b61) (by repeat first | exact .head _ | refine .tail _ ?_))) (Blk.rdI (c := 5) (hs.blk (b := b62) (by repeat first | exact .head _ | refine .tail _ ?_))) (by decide) (by decide); rw [aw_fol] at this; exact this
          (refine qf_pure tabOk rfl rfl rfl ?_; (iterate 2 refine qf_ext tabOk rfl rfl rfl ?_); refine qf_setA tabOk rfl rfl rfl rfl rfl (by repeat constructor) rfl ?_; refine qf_pure tabOk rfl rfl rfl ?_; refine qf_nil ?_)
          skip
          exact hK1 _ _ (qt_nil (hK2 b19 _ _ ⟨rfl, rfl, rfl, rfl, rfl, rfl, rfl, rfl, rfl, rfl, trivial⟩ (by repeat (first | exact Sp.nil | exact Sp.refl _ | refine Sp.cons (by repeat constructor) ?_))))
      · skip
        refine qt_seg (by repeat (first | exact PickL.nil | (apply PickL.cons; rfl))) fun K1 hK1 => ?_
        refine qf_alloc zero55 rfl (fun b19 => ?_)
        (refine qf_nil ?_)
        refine hK1 _ _ ?_
        refine qt_alt ?_ ?_
        · skip
          refine qt_seg (by repeat (first | exact PickL.nil | (apply PickL.cons; rfl))) fun K1 hK1 => ?_
          refine qf_call (β := List Ck × List Value) tabOk [] _ M0 rfl rfl rfl rfl (Sp.refl _) (fun _ h => h.elim) (fun w' hs => two_ca w') ?_
          rintro ⟨L, cs⟩ _ ⟨rfl, ho⟩
          (refine qf_loadAB tabOk rfl rfl rfl (by repeat first | exact .head _ | refine .tail _ ?_) (by rfl) (by rfl) ?_)
          refine qf_mkS 3 (ints [1, 1, 1, 1, 1]) rfl (by kernel_rfl) rfl (fun b61 => ?_)
          skip
          refine qf_callv (val := .tuple #[.agg #[.int .i64 (0), .int .i64 (20), .int .i64 (5)], .int .i64 (0)]) tabOk rfl rfl rfl rfl (fun w hs => ?_) ?_
          · have := follow_ca w 0 w.heap.size 0 w.heap.size cs twoR ruA _ _ [1, 1, 1, 1, 1] [0, 0, 0, 0, 1] (ho.at hs (by repeat first | exact .head _ | refine .tail _ ?_)) two_small (Blk.rdI (c := 5) (hs.blk (b := b61) (by repeat first | exact .head _ | refine .tail _ ?_))) (Blk.rdI (c := 5) (hs.blk (b := b62) (by repeat first | exact .head _ | refine .tail _ ?_))) (by decide) (by decide); rw [aw_fol] at this; exact this
          (refine qf_pure tabOk rfl rfl rfl ?_; (iterate 2 refine qf_ext tabOk rfl rfl rfl ?_); refine qf_setA tabOk rfl rfl rfl rfl rfl (by repeat constructor) rfl ?_; refine qf_pure tabOk rfl rfl rfl ?_; refine qf_nil ?_)
          skip
          exact hK1 _ _ (qt_nil (hK2 b19 _ _ ⟨rfl, rfl, rfl, rfl, rfl, rfl, rfl, rfl, rfl, rfl, trivial⟩ (by repeat (first | exact Sp.nil | exact Sp.refl _ | refine Sp.cons (by repeat constructor) ?_))))
        · skip
          refine qt_seg (by repeat (first | exact PickL.nil | (apply PickL.cons; rfl))) fun K1 hK1 => ?_
          refine qf_mkS 3 (ints [1, 1, 1, 1, 1]) rfl (by kernel_rfl) rfl (fun b61 => ?_)
          skip
          refine qf_call (β := List Ck × List Value) tabOk [] _ M0 rfl rfl rfl rfl (Sp.refl _) (fun _ h => h.elim) (fun w' hs => two_ca w') ?_
          rintro ⟨L, cs⟩ _ ⟨rfl, ho⟩
          (refine qf_loadAB tabOk rfl rfl rfl (by repeat first | exact .head _ | refine .tail _ ?_) (by rfl) (by rfl) ?_)
          refine qf_callv (val := .tuple #[.agg #[.int .i64 (0), .int .i64 (20), .int .i64 (5)], .int .i64 (0)]) tabOk rfl rfl rfl rfl (fun w hs => ?_) ?_
          · have := follow_ca w 0 w.heap.size 0 w.heap.size cs twoR ruA _ _ [1, 1, 1, 1, 1] [0, 0, 0, 0, 1] (ho.at hs (by repeat first | exact .head _ | refine .tail _ ?_)) two_small (Blk.rdI (c := 5) (hs.blk (b := b61) (by repeat first | exact .head _ | refine .tail _ ?_))) (Blk.rdI (c := 5) (hs.blk (b := b62) (by repeat first | exact .head _ | refine .tail _ ?_))) (by decide) (by decide); rw [aw_fol] at this; exact this
          (refine qf_pure tabOk rfl rfl rfl ?_; (iterate 2 refine qf_ext tabOk rfl rfl rfl ?_); refine qf_setA tabOk rfl rfl rfl rfl rfl (by repeat constructor) rfl ?_; refine qf_pure tabOk rfl rfl rfl ?_; refine qf_nil ?_)
          skip
          exact hK1 _ _ (qt_nil (hK2 b19 _ _ ⟨rfl, rfl, rfl, rfl, rfl, rfl, rfl, rfl, rfl, rfl, trivial⟩ (by repeat (first | exact Sp.nil | exact Sp.refl _ | refine Sp.cons (by repeat constructor) ?_))))
    · skip
      refine qt_seg (by repeat (first | exact PickL.nil | (apply PickL.cons; rfl))) fun K1 hK1 => ?_
      refine qf_alloc zero55 rfl (fun b19 => ?_)
      (refine qf_nil ?_)
      refine hK1 _ _ ?_
      refine qt_alt ?_ (qt_alt ?_ ?_)
      · skip
        refine qt_seg (by repeat (first | exact PickL.nil | (apply PickL.cons; rfl))) fun K1 hK1 => ?_
        refine qf_call (β := List Ck × List Value) tabOk [] _ M0 rfl rfl rfl rfl (Sp.refl _) (fun _ h => h.elim) (fun w' hs => two_ca w') ?_
        rintro ⟨L, cs⟩ _ ⟨rfl, ho⟩
        (refine qf_loadAB tabOk rfl rfl rfl (by repeat first | exact .head _ | refine .tail _ ?_) (by rfl) (by rfl) ?_; refine qf_nil ?_)
        refine hK1 _ _ ?_
        refine qt_alt ?_ ?_
        · skip
          refine qt_seg (by repeat (first | exact PickL.nil | (apply PickL.cons; rfl))) fun K1 hK1 => ?_
          refine qf_mkS 3 (ints [1, 1, 1, 1, 1]) rfl (by kernel_rfl) rfl (fun b61 => ?_)
          skip
          refine qf_mkS 3 (ints [0, 0, 0, 0, 1]) rfl (by kernel_rfl) rfl (fun b62 => ?_)
          skip
          refine qf_callv (val := .tuple #[.agg #[.int .i64 (0), .int .i64 (20), .int .i64 (5)], .int .i64 (0)]) tabOk rfl rfl rfl rfl (fun w hs => ?_) ?_
          · have := follow_ca w 0 w.heap.size 0 w.heap.size cs twoR ruA _ _ [1, 1, 1, 1, 1] [0, 0, 0, 0, 1] (ho.at hs (by repeat first | exact .head _ | refine .tail _ ?_)) two_small (Blk.rdI (c := 5) (hs.blk (b := b61) (by repeat first | exact .head _ | refine .tail _ ?_))) (Blk.rdI (c := 5) (hs.blk (b := b62) (by repeat first | exact .head _ | refine .tail _ ?_))) (by decide) (by decide); rw [aw_fol] at this; exact this
          (refine qf_pure tabOk rfl rfl rfl ?_; (iterate 2 refine qf_ext tabOk rfl rfl rfl ?_); refine qf_setA tabOk rfl rfl rfl rfl rfl (by repeat constructor) rfl ?_; refine qf_pure tabOk rfl rfl rfl ?_; refine qf_nil ?_)
          skip
          exact hK1 _ _ (qt_nil (hK2 b19 _ _ ⟨rfl, rfl, rfl, rfl, rfl, rfl, rfl, rfl, rfl, rfl, trivial⟩ (by repeat (first | exact Sp.nil | exact Sp.refl _ | refine Sp.cons (by repeat constructor) ?_))))
        · skip
          refine qt_seg (by repeat (first | exact PickL.nil | (apply PickL.cons; rfl))) fun K1 hK1 => ?_
          refine qf_mkS 3 (ints [0, 0, 0, 0, 1]) rfl (by kernel_rfl) rfl (fun b62 => ?_)
          skip
          refine qf_mkS 3 (ints [1, 1, 1, 1, 1]) rfl (by kernel_rfl) rfl (fun b61 => ?_)
          skip
          refine qf_callv (val := .tuple #[.agg #[.int .i64 (0), .int .i64 (20), .int .i64 (5)], .int .i64 (0)]) tabOk rfl rfl rfl rfl (fun w hs => ?_) ?_
          · have := follow_ca w 0 w.heap.size 0 w.heap.size cs twoR ruA _ _ [1, 1, 1, 1, 1] [0, 0, 0, 0, 1] (ho.at hs (by repeat first | exact .head _ | refine .tail _ ?_)) two_small (Blk.rdI (c := 5) (hs.blk (b := b61) (by repeat first | exact .head _ | refine .tail _ ?_))) (Blk.rdI (c := 5) (hs.blk (b := b62) (by repeat first | exact .head _ | refine .tail _ ?_))) (by decide) (by decide); rw [aw_fol] at this; exact this
          (refine qf_pure tabOk rfl rfl rfl ?_; (iterate 2 refine qf_ext tabOk rfl rfl rfl ?_); refine qf_setA tabOk rfl rfl rfl rfl rfl (by repeat constructor) rfl ?_; refine qf_pure tabOk rfl rfl rfl ?_; refine qf_nil ?_)
          skip
          exact hK1 _ _ (qt_nil (hK2 b19 _ _ ⟨rfl, rfl, rfl, rfl, rfl, rfl, rfl, rfl, rfl, rfl, trivial⟩ (by repeat (first | exact Sp.nil | exact Sp.refl _ | refine Sp.cons (by repeat constructor) ?_))))
      · skip
        refine qt_seg (by repeat (first | exact PickL.nil | (apply PickL.cons; rfl))) fun K1 hK1 => ?_
        refine qf_mkS 3 (ints [1, 1, 1, 1, 1]) rfl (by kernel_rfl) rfl (fun b61 => ?_)
        (refine qf_nil ?_)
        refine hK1 _ _ ?_
        refine qt_alt ?_ ?_
        · skip
          refine qt_seg (by repeat (first | exact PickL.nil | (apply PickL.cons; rfl))) fun K1 hK1 => ?_
          refine qf_call (β := List Ck × List Value) tabOk [] _ M0 rfl rfl rfl rfl (Sp.refl _) (fun _ h => h.elim) (fun w' hs => two_ca w') ?_
          rintro ⟨L, cs⟩ _ ⟨rfl, ho⟩
          (refine qf_loadAB tabOk rfl rfl rfl (by repeat first | exact .head _ | refine .tail _ ?_) (by rfl) (by rfl) ?_)
          refine qf_mkS 3 (ints [0, 0, 0, 0, 1]) rfl (by kernel_rfl) rfl (fun b62 => ?_)
          skip
          refine qf_callv (val := .tuple #[.agg #[.int .i64 (0), .int .i64 (20), .int .i64 (5)], .int .i64 (0)]) tabOk rfl rfl rfl rfl (fun w hs => ?_) ?_
          · have := follow_ca w 0 w.heap.size 0 w.heap.size cs twoR ruA _ _ [1, 1, 1, 1, 1] [0, 0, 0, 0, 1] (ho.at hs (by repeat first | exact .head _ | refine .tail _ ?_)) two_small (Blk.rdI (c := 5) (hs.blk (b := b61) (by repeat first | exact .head _ | refine .tail _ ?_))) (Blk.rdI (c := 5) (hs.blk (b := b62) (by repeat first | exact .head _ | refine .tail _ ?_))) (by decide) (by decide); rw [aw_fol] at this; exact this
          (refine qf_pure tabOk rfl rfl rfl ?_; (iterate 2 refine qf_ext tabOk rfl rfl rfl ?_); refine qf_setA tabOk rfl rfl rfl rfl rfl (by repeat constructor) rfl ?_; refine qf_pure tabOk rfl rfl rfl ?_; refine qf_nil ?_)
          skip
          exact hK1 _ _ (qt_nil (hK2 b19 _ _ ⟨rfl, rfl, rfl, rfl, rfl, rfl, rfl, rfl, rfl, rfl, trivial⟩ (by repeat (first | exact Sp.nil | exact Sp.refl _ | refine Sp.cons (by repeat constructor) ?_))))
        · skip
          refine qt_seg (by repeat (first | exact PickL.nil | (apply PickL.cons; rfl))) fun K1 hK1 => ?_
          refine qf_mkS 3 (ints [0, 0, 0, 0, 1]) rfl (by kernel_rfl) rfl (fun b62 => ?_)
          skip
          refine qf_call (β := List Ck × List Value) tabOk [] _ M0 rfl rfl rfl rfl (Sp.refl _) (fun _ h => h.elim) (fun w' hs => two_ca w') ?_
          rintro ⟨L, cs⟩ _ ⟨rfl, ho⟩
          (refine qf_loadAB tabOk rfl rfl rfl (by repeat first | exact .head _ | refine .tail _ ?_) (by rfl) (by rfl) ?_)
          refine qf_callv (val := .tuple #[.agg #[.int .i64 (0), .int .i64 (20), .int .i64 (5)], .int .i64 (0)]) tabOk rfl rfl rfl rfl (fun w hs => ?_) ?_
          · have := follow_ca w 0 w.heap.size 0 w.heap.size cs twoR ruA _ _ [1, 1, 1, 1, 1] [0, 0, 0, 0, 1] (ho.at hs (by repeat first | exact .head _ | refine .tail _ ?_)) two_small (Blk.rdI (c := 5) (hs.blk (b := b61) (by repeat first | exact .head _ | refine .tail _ ?_))) (Blk.rdI (c := 5) (hs.blk (b := b62) (by repeat first | exact .head _ | refine .tail _ ?_))) (by decide) (by decide); rw [aw_fol] at this; exact this
          (refine qf_pure tabOk rfl rfl rfl ?_; (iterate 2 refine qf_ext tabOk rfl rfl rfl ?_); refine qf_setA tabOk rfl rfl rfl rfl rfl (by repeat constructor) rfl ?_; refine qf_pure tabOk rfl rfl rfl ?_; refine qf_nil ?_)
          skip
          exact hK1 _ _ (qt_nil (hK2 b19 _ _ ⟨rfl, rfl, rfl, rfl, rfl, rfl, rfl, rfl, rfl, rfl, trivial⟩ (by repeat (first | exact Sp.nil | exact Sp.refl _ | refine Sp.cons (by repeat constructor) ?_))))
      · skip
        refine qt_seg (by repeat (first | exact PickL.nil | (apply PickL.cons; rfl))) fun K1 hK1 => ?_
        refine qf_mkS 3 (ints [0, 0, 0, 0, 1]) rfl (by kernel_rfl) rfl (fun b62 => ?_)
        (refine qf_nil ?_)
        refine hK1 _ _ ?_
        refine qt_alt ?_ ?_
        · skip
          refine qt_seg (by repeat (first | exact PickL.nil | (apply PickL.cons; rfl))) fun K1 hK1 => ?_
          refine qf_call (β := List Ck × List Value) tabOk [] _ M0 rfl rfl rfl rfl (Sp.refl _) (fun _ h => h.elim) (fun w' hs => two_ca w') ?_
          rintro ⟨L, cs⟩ _ ⟨rfl, ho⟩
          (refine qf_loadAB tabOk rfl rfl rfl (by repeat first | exact .head _ | refine .tail _ ?_) (by rfl) (by rfl) ?_)
          refine qf_mkS 3 (ints [1, 1, 1, 1, 1]) rfl (by kernel_rfl) rfl (fun b61 => ?_)
          skip
          refine qf_callv (val := .tuple #[.agg #[.int .i64 (0), .int .i64 (20), .int .i64 (5)], .int .i64 (0)]) tabOk rfl rfl rfl rfl (fun w hs => ?_) ?_
          · have := follow_ca w 0 w.heap.size 0 w.heap.size cs twoR ruA _ _ [1, 1, 1, 1, 1] [0, 0, 0, 0, 1] (ho.at hs (by repeat first | exact .head _ | refine .tail _ ?_)) two_small (Blk.rdI (c := 5) (hs.blk (b := b61) (by repeat first | exact .head _ | refine .tail _ ?_))) (Blk.rdI (c := 5) (hs.blk (b := b62) (by repeat first | exact .head _ | refine .tail _ ?_))) (by decide) (by decide); rw [aw_fol] at this; exact this
          (refine qf_pure tabOk rfl rfl rfl ?_; (iterate 2 refine qf_ext tabOk rfl rfl rfl ?_); refine qf_setA tabOk rfl rfl rfl rfl rfl (by repeat constructor) rfl ?_; refine qf_pure tabOk rfl rfl rfl ?_; refine qf_nil ?_)
          skip
          exact hK1 _ _ (qt_nil (hK2 b19 _ _ ⟨rfl, rfl, rfl, rfl, rfl, rfl, rfl, rfl, rfl, rfl, trivial⟩ (by repeat (first | exact Sp.nil | exact Sp.refl _ | refine Sp.cons (by repeat constructor) ?_))))
        · skip
          refine qt_seg (by repeat (first | exact PickL.nil | (apply PickL.cons; rfl))) fun K1 hK1 => ?_
          refine qf_mkS 3 (ints [1, 1, 1, 1, 1]) rfl (by kernel_rfl) rfl (fun b61 => ?_)
          skip
          refine qf_call (β := List Ck × List Value) tabOk [] _ M0 rfl rfl rfl rfl (Sp.refl _) (fun _ h => h.elim) (fun w' hs => two_ca w') ?_
          rintro ⟨L, cs⟩ _ ⟨rfl, ho⟩
          (refine qf_loadAB tabOk rfl rfl rfl (by repeat first | exact .head _ | refine .tail _ ?_) (by rfl) (by rfl) ?_)
          refine qf_callv (val := .tuple #[.agg #[.int .i64 (0), .int .i64 (20), .int .i64 (5)], .int .i64 (0)]) tabOk rfl rfl rfl rfl (fun w hs => ?_) ?_
          · have := follow_ca w 0 w.heap.size 0 w.heap.size cs twoR ruA _ _ [1, 1, 1, 1, 1] [0, 0, 0, 0, 1] (ho.at hs (by repeat first | exact .head _ | refine .tail _ ?_)) two_small (Blk.rdI (c := 5) (hs.blk (b := b61) (by repeat first | exact .head _ | refine .tail _ ?_))) (Blk.rdI (c := 5) (hs.blk (b := b62) (by repeat first | exact .head _ | refine .tail _ ?_))) (by decide) (by decide); rw [aw_fol] at this; exact this
          (refine qf_pure tabOk rfl rfl rfl ?_; (iterate 2 refine qf_ext tabOk rfl rfl rfl ?_); refine qf_setA tabOk rfl rfl rfl rfl rfl (by repeat constructor) rfl ?_; refine qf_pure tabOk rfl rfl rfl ?_; refine qf_nil ?_)
          skip
          exact hK1 _ _ (qt_nil (hK2 b19 _ _ ⟨rfl, rfl, rfl, rfl, rfl, rfl, rfl, rfl, rfl, rfl, trivial⟩ (by repeat (first | exact Sp.nil | exact Sp.refl _ | refine Sp.cons (by repeat constructor) ?_))))
  intro b19
  (refine q_seq ?_; refine q_region ?_)
  refine ql_mk #[.int .i64 10, .int .i64 20] rfl (by kernel_rfl) rfl ?_
  refine ql_mk #[.int .i64 (-5), .int .i64 5] rfl (by kernel_rfl) rfl ?_
  refine ql_mkS 64 [.int .i64 10, .int .i64 20, .int .i64 (-5), .int .i64 5] rfl (by kernel_rfl) rfl (fun b71 => ?_)
  refine ql_mkS 3 (ints [3, 1]) rfl (by kernel_rfl) rfl (fun b72 => ?_)
  refine ql_callv (val := .tuple #[.agg #[.int .i64 25, .int .i64 65], .int .i64 0]) tabOk rfl rfl rfl rfl (fun w hs => ?_) ?_; exact by have := driftF_ca w 0 w.heap.size 0 w.heap.size _ _ [(10, 20), (-5, 5)] [3, 1] (Blk.rdS (c := 2) (hs.blk (b := b71) (by repeat first | exact .head _ | refine .tail _ ?_)) rfl) (by decide) (Blk.rdI (c := 2) (hs.blk (b := b72) (by repeat first | exact .head _ | refine .tail _ ?_))) (by decide); rw [aw_drift] at this; exact this
  (refine ql_pure tabOk rfl rfl ?_; (iterate 2 refine ql_ext tabOk rfl rfl rfl ?_))
  refine ql_alloc zero64 rfl (fun b20 => ?_)
  (refine ql_setA tabOk rfl rfl rfl rfl rfl (by repeat constructor) rfl ?_; refine ql_pure tabOk rfl rfl ?_; refine q_nil ?_; refine q_seq ?_; refine q_region ?_; (iterate 3 refine ql_pure tabOk rfl rfl ?_); refine ql_gyes rfl ?_; refine ql_pure tabOk rfl rfl ?_; refine ql_gyes rfl ?_; (iterate 3 refine ql_pure tabOk rfl rfl ?_); refine ql_gyes rfl ?_; refine ql_pure tabOk rfl rfl ?_; refine ql_gyes rfl ?_; (iterate 3 refine ql_pure tabOk rfl rfl ?_); refine ql_gyes rfl ?_; refine ql_pure tabOk rfl rfl ?_; refine ql_gyes rfl ?_; (iterate 3 refine ql_pure tabOk rfl rfl ?_); refine ql_gyes rfl ?_; refine ql_pure tabOk rfl rfl ?_; refine ql_gyes rfl ?_; (iterate 3 refine ql_pure tabOk rfl rfl ?_); refine ql_gyes rfl ?_; refine ql_pure tabOk rfl rfl ?_; refine ql_gyes rfl ?_; (iterate 3 refine ql_pure tabOk rfl rfl ?_); refine ql_gyes rfl ?_; refine ql_pure tabOk rfl rfl ?_; refine ql_gyes rfl ?_; refine ql_pure tabOk rfl rfl ?_; refine ql_gyes rfl ?_; (iterate 3 refine ql_pure tabOk rfl rfl ?_); refine ql_gyes rfl ?_; refine ql_loadAB tabOk rfl rfl rfl (by repeat first | exact .head _ | refine .tail _ ?_) (by rfl) (by rfl) ?_; refine ql_gyes rfl ?_)
  refine ql_mk #[.int .i64 10, .int .i64 1] rfl (by kernel_rfl) rfl ?_
  (refine ql_gyes rfl ?_)
  refine ql_eqF (xs := [.int .i64 10, .int .i64 1]) (ys := [.int .i64 10, .int .i64 1]) [some .i64, some .i64] rat_flat rfl rfl rfl rfl rfl ?_
  ((iterate 2 refine ql_pure tabOk rfl rfl ?_); refine ql_gyes rfl ?_; refine ql_loadAB tabOk rfl rfl rfl (by repeat first | exact .head _ | refine .tail _ ?_) (by rfl) (by rfl) ?_; refine ql_gyes rfl ?_)
  refine ql_mk #[.bool false, .int .i64 (-1)] rfl (by kernel_rfl) rfl ?_
  (refine ql_gyes rfl ?_)
  refine ql_eqF (xs := [.bool false, .int .i64 (-1)]) (ys := [.bool false, .int .i64 (-1)]) [none, some .i64] chc_flat rfl rfl rfl rfl rfl ?_
  ((iterate 2 refine ql_pure tabOk rfl rfl ?_); refine ql_gyes rfl ?_; refine ql_loadAB tabOk rfl rfl rfl (by repeat first | exact .head _ | refine .tail _ ?_) (by rfl) (by rfl) ?_; refine ql_gyes rfl ?_)
  refine ql_mk #[.bool true, .int .i64 0] rfl (by kernel_rfl) rfl ?_
  (refine ql_gyes rfl ?_)
  refine ql_eqF (xs := [.bool true, .int .i64 0]) (ys := [.bool true, .int .i64 0]) [none, some .i64] chc_flat rfl rfl rfl rfl rfl ?_
  ((iterate 2 refine ql_pure tabOk rfl rfl ?_); refine ql_gyes rfl ?_; refine ql_loadAB tabOk rfl rfl rfl (by repeat first | exact .head _ | refine .tail _ ?_) (by rfl) (by rfl) ?_; refine ql_gyes rfl ?_)
  refine ql_mk #[.int .i64 0, .int .i64 20, .int .i64 5] rfl (by kernel_rfl) rfl ?_
  (refine ql_gyes rfl ?_)
  refine ql_eqF (xs := [.int .i64 0, .int .i64 20, .int .i64 5]) (ys := [.int .i64 0, .int .i64 20, .int .i64 5]) [some .i64, some .i64, some .i64] ply_flat rfl rfl rfl rfl rfl ?_
  ((iterate 2 refine ql_pure tabOk rfl rfl ?_); refine ql_gyes rfl ?_; refine ql_loadAB tabOk rfl rfl rfl (by repeat first | exact .head _ | refine .tail _ ?_) (by rfl) (by rfl) ?_; refine ql_gyes rfl ?_)
  refine ql_mk #[.int .i64 25, .int .i64 65] rfl (by kernel_rfl) rfl ?_
  (refine ql_gyes rfl ?_)
  refine ql_eqF (xs := [.int .i64 25, .int .i64 65]) (ys := [.int .i64 25, .int .i64 65]) [some .i64, some .i64] spn_flat rfl rfl rfl rfl rfl ?_
  ((iterate 2 refine ql_pure tabOk rfl rfl ?_); refine q_nil ?_; refine q_ret ?_)
  refine q_fin tabOk rfl (by repeat (first | exact RVs.nil | apply RVs.tmp rfl | apply RVs.cellA rfl rfl (by repeat first | exact .head _ | refine .tail _ ?_) (by rfl) | apply RVs.cell1 rfl rfl (by repeat first | exact .head _ | refine .tail _ ?_))) fun w hs => ?_
  exact ⟨rfl, hs.chg0⟩

end Go.Proofs.Ytohlillcaadidaa

/- Walks: klisterkit's deck. Only the ranges of what it deals are told. -/
namespace Go.Proofs.Ytohlillcaadidaa
open Go Go.Eng
attribute [local irreducible] IntKind.wrap Int.tmod Int.tdiv

/-- The deck's own variable, after at most K cards. -/
def DkS (w : World) (b : Nat) (bs : Value) (K : Nat) : Prop :=
  ∃ next st, Blk w b [bs, .int .i64 next, .int .u32 st] 156 ∧ 0 ≤ next ∧ next ≤ K ∧ 0 ≤ st ∧ st < 4294967296
/-- Its bytes. -/
def DkB (w : World) (lo hi : Nat) (bs : Value) : Prop := ∃ nb cs, Rd w lo hi bs 1 nb cs ∧ (∀ c ∈ cs, ∃ x, c = .int .u8 x ∧ 0 ≤ x ∧ x < 256)
theorem DkB.keep {w w' : World} {lo hi : Nat} {bs : Value} (h : DkB w lo hi bs) (c : Chg [] w w') : DkB w' lo hi bs := by
  obtain ⟨nb, cs, h1, h2⟩ := h
  exact ⟨nb, cs, h1.keep c, h2⟩

end Go.Proofs.Ytohlillcaadidaa

/- Walks: the deck as a piece of memory. -/
namespace Go.Proofs.Ytohlillcaadidaa
open Go Go.Eng

/-- A deck, after at most K cards. -/
def dkP (bs : Value) (b K : Nat) : Ck := .gn (fun x => x = b) (fun w => DkS w b bs K) (fun w w' N h hc hN => by
  obtain ⟨next, st, h1, h2⟩ := h
  exact ⟨next, st, (hc.block b h1.lt (hN b rfl)).trans h1, h2⟩)

end Go.Proofs.Ytohlillcaadidaa

/- Walks: Between, on engine 2. -/
namespace Go.Proofs.Ytohlillcaadidaa
open Go Go.Eng

end Go.Proofs.Ytohlillcaadidaa

/- Walks: Of. -/
namespace Go.Proofs.Ytohlillcaadidaa
open Go Go.Eng

end Go.Proofs.Ytohlillcaadidaa

/- Walks: shares. -/
namespace Go.Proofs.Ytohlillcaadidaa
open Go Go.Eng

end Go.Proofs.Ytohlillcaadidaa

/- Walks: Fold. -/
namespace Go.Proofs.Ytohlillcaadidaa
open Go Go.Eng

end Go.Proofs.Ytohlillcaadidaa

/- The engine, part B13: changing an element of a slice of our own. -/
namespace Go.Eng
open Go Go.RowKit

section
variable {P : Program} {T : Tab}
variable {ro : Cx} {n : Nat} {F : Fin} {w0 : World} {M : Nat → Prop} {k : List It} {ops : Array Oper} {rest : List Oper} {e : Env} {H Hq : List Ck}

/-- A region that draws; what its first c operations read (Hq1) is not changed by them, and they stand ahead of all that changes Hm2. -/
theorem q_drawS2 {id : Nat} {l : List Oper} (c : Nat) (Hq1 Hm1 Hq2 Hm2 : List Ck) (hH1 : Sp H (Hm1 ++ Hq1)) (hH2 : Sp Hq1 (Hm2 ++ Hq2)) (hm : P.follows .mixedOrders = true) (hB : flB l.toArray = true)
    (hbs : flagB l.toArray (List.replicate c true ++ List.replicate (l.length - c) false) = true)
    (h : ∀ K1 : Act → World → Prop, (∀ e' H' Hm', Sp H' (Hm' ++ Hq2) → QF P ro n F w0 M k l.toArray Hq2 (l.drop c) e' Hm' → Q P ro n F w0 M (.k K1 :: k) e' H') → QF P ro n F w0 M (.k K1 :: k) l.toArray Hq1 (l.take c) e Hm1) :
    Q P ro n F w0 M (.code (.region id l.toArray true) :: k) e H := .mk fun w hs a hf hd => by
  have hs0 : Sat w0 M H { w with drawn := w.drawn + 1 } := hs.keep (Chg.drew (N := []) w)
  have hs1 : Sat w0 M Hq1 { w with drawn := w.drawn + 1 } := (hs0.sp hH1).right
  have h12 : ∀ w, Sat w0 M Hq1 w → Sat w0 M Hq2 w := fun w hw => (hw.sp hH2).right
  let bs := List.replicate c true ++ List.replicate (l.length - c) false
  refine wpIn_region_fl2 hm (flB_spec hB) (K := fun a w => S P ro.ro F k .normal a w) (Cq := flagC (Sat w0 M Hq1) (Sat w0 M Hq2) bs) (Ce := flagC (Sat w0 M Hq1) (Sat w0 M Hq2) bs)
    (fun i j oi oj => flagB_spec hbs h12 i j oi oj) (fun i => ?_) (fun _ _ h => h) ?_
  · unfold flagC
    cases bs.getD i false
    · exact h12 _ hs1
    · exact hs1
  · have h2 := wpFlB_eq (P := P) (ops := l.toArray) (C1 := Sat w0 M Hq1) (C2 := Sat w0 M Hq2) (bs := bs) (K := fun a w => S P ro.ro F k .normal a w) l 0 (by simp)
    rw [show List.range l.toArray.size = List.range' 0 l.length from by simp [List.range_eq_range'], h2]
    refine yb_seg (P := P) (ro := ro) (n := n) (F := F) (k := k) (C1 := Sat w0 M Hq1) (C2 := Sat w0 M Hq2) (bs := bs) (l := l) true c (by simp [bs]) (by simp [bs]) (fun K1 hK1 => ?_) a hf hd
    have h3 := h K1 (fun e' H' Hm' hsp hq => .mk fun w' hw' a' hf' hd' => ?_)
    · exact h3.h _ (hs0.sp hH1)
    · refine hK1 e' w' (fun a2 hf2 hd2 => ?_) a' hf' hd'
      have h4 : bs.drop c = List.replicate (l.length - c) false := by simp [bs]
      rw [h4]
      exact wpFlB_false _ _ (by simp) a2 w' (hq w' (hw'.sp hsp) a2 hf2 hd2)
end
end Go.Eng

/- Walks: Made. -/
namespace Go.Proofs.Ytohlillcaadidaa
open Go Go.Eng

/-- What Made makes. -/
structure MadeR (states clicks side : Nat) (r : Rg) : Prop where
  right : r.Right
  small : r.Small
  states : r.drifts.length ≤ states
  clicks : r.clicks ≤ clicks
  group : r.group.length ≤ 2 * side + 1
  radius : r.radius ≤ 12
  unit : r.unit ≤ 5
  total : r.total ≤ 6
  drift : ∀ x ∈ r.drifts, -15 ≤ x ∧ x ≤ 15
  gsum : r.group.sum ≤ 4 * r.group.length + 1
  weight : ∀ x ∈ r.group, x ≤ 5

theorem DkS.mono {w : World} {b K K' : Nat} {bs : Value} (h : DkS w b bs K) (hk : K ≤ K') : DkS w b bs K' := by
  obtain ⟨next, st, h1, h2, h3, h4⟩ := h
  exact ⟨next, st, h1, h2, by omega, h4⟩
theorem own_rdI {w : World} {t n : Nat} {v : Value} {l : List Int} (h : w.ownsRow 0 t 1 v n (ints l)) (hn : n = l.length) : RdI w 0 w.heap.size v l := by
  subst hn
  exact RdI.of (own_rd h)
abbrev madeB (b9 : Nat) (a b c d : Int) (g h f n : Value) : Ck := .pt b9 [.int .i64 a, .int .i64 b, .int .i64 c, .int .i64 d, g, h, f, n] 25

end Go.Proofs.Ytohlillcaadidaa

/- Walks: draws of a deck that was made of bytes that came in. -/
namespace Go.Proofs.Ytohlillcaadidaa
open Go Go.Eng

section
variable {K b : Nat} {bs : Value} {w0 w : World} {R : List Ck}
end
end Go.Proofs.Ytohlillcaadidaa

/- The plain law of WindRead: what flags read. -/
namespace Go.Proofs.Ytohlillcaadidaa
open Go Go.Eng

/-- A flag: its span, what is read of it, its weight. -/
abbrev Flg := Int × Int × Int × Int
def flP (t : Flg) : Int × Int := (t.1, t.2.1)
def loP (t : Flg) : Int × Int := (t.1, t.1)
def hiP (t : Flg) : Int × Int := (t.2.1, t.2.1)
def soP (t : Flg) : Int × Int := (t.2.2.1, t.2.2.1)
def FlgOk (t : Flg) : Prop := -60 ≤ t.1 ∧ t.1 ≤ t.2.1 ∧ t.2.1 ≤ 69 ∧ t.1 ≤ t.2.2.1 ∧ t.2.2.1 ≤ t.2.1 ∧ 0 ≤ t.2.2.2 ∧ t.2.2.2 ≤ 9
abbrev weF (t : Flg) : Int := t.2.2.2
def itS (its : List Flg) (g : Flg → Int) : Int := sumR (fun i => weF (its.getD i (0, 0, 0, 0)) * g (its.getD i (0, 0, 0, 0))) its.length
end Go.Proofs.Ytohlillcaadidaa

/- The plain laws of the wind, part 0. -/
namespace Go.Proofs.Ytohlillcaadidaa
open Go Go.Eng
theorem ratioV_scale (x y k : Int) (hk : 0 < k) : ratioV (x * k) (y * k) = ratioV x y := by
  unfold ratioV
  have e : ((Int.gcd (x * k) (y * k) : Nat) : Int) = (Int.gcd x y : Int) * k := by
    rw [Int.gcd_mul_right, Int.natCast_mul]
    congr 1
    omega
  rw [e, Int.mul_ediv_mul_of_pos_left _ _ hk, Int.mul_ediv_mul_of_pos_left _ _ hk]
theorem gcd_pos' (a : Int) {d : Int} (hd : 0 < d) : 0 < ((Int.gcd a d : Nat) : Int) := by
  have : Int.gcd a d ≠ 0 := by
    intro h
    have := (Int.gcd_eq_zero_iff.1 h).2
    omega
  omega
theorem ratioV_mul {a d : Int} (hd : 0 < d) : (ratioV a d).1 * d = a * (ratioV a d).2 := by
  unfold ratioV
  have h1 : ((Int.gcd a d : Nat) : Int) ∣ a := Int.gcd_dvd_left ..
  have h2 : ((Int.gcd a d : Nat) : Int) ∣ d := Int.gcd_dvd_right ..
  have h3 : a / ((Int.gcd a d : Nat) : Int) * d = a * d / ((Int.gcd a d : Nat) : Int) := by rw [Int.mul_comm, ← Int.mul_ediv_assoc d h1, Int.mul_comm]
  have h4 : a * (d / ((Int.gcd a d : Nat) : Int)) = a * d / ((Int.gcd a d : Nat) : Int) := by rw [Int.mul_ediv_assoc a h2]
  simp only
  rw [h3, h4]
theorem ratioV_pos {a d : Int} (ha : 0 ≤ a) (hd : 0 < d) : 0 ≤ (ratioV a d).1 ∧ (ratioV a d).1 ≤ a ∧ 1 ≤ (ratioV a d).2 ∧ (ratioV a d).2 ≤ d := by
  have hg := gcd_pos' a hd
  have h2 : ((Int.gcd a d : Nat) : Int) ∣ d := Int.gcd_dvd_right ..
  unfold ratioV
  refine ⟨Int.ediv_nonneg ha (by omega), Int.ediv_le_self _ ha, ?_, Int.ediv_le_self _ (by omega)⟩
  have := Int.le_of_dvd hd h2
  exact (Int.le_ediv_iff_mul_le hg).2 (by rw [Int.one_mul]; exact this)
/-- Fractions of one denominator. -/
theorem mul_lt_iff {a b c : Int} (hc : 0 < c) : a * c < b * c ↔ a < b := ⟨fun h => Int.lt_of_mul_lt_mul_right h (by omega), fun h => Int.mul_lt_mul_of_pos_right h hc⟩
theorem ratioV_lt {a b d : Int} (hd : 0 < d) (ha : 0 ≤ a) (hb : 0 ≤ b) : (ratioV a d).1 * (ratioV b d).2 < (ratioV b d).1 * (ratioV a d).2 ↔ a < b := by
  have h1 := ratioV_mul (a := a) hd
  have h2 := ratioV_mul (a := b) hd
  have p1 := ratioV_pos ha hd
  have p2 := ratioV_pos hb hd
  generalize ratioV a d = p at *
  generalize ratioV b d = q at *
  have hpp : 0 < p.2 * q.2 := Int.mul_pos (by omega) (by omega)
  rw [← mul_lt_iff (a := a) (b := b) (c := p.2 * q.2) hpp, ← mul_lt_iff (a := p.1 * q.2) (b := q.1 * p.2) hd]
  have e1 : p.1 * q.2 * d = a * (p.2 * q.2) := by rw [Int.mul_right_comm, h1, Int.mul_assoc]
  have e2 : q.1 * p.2 * d = b * (p.2 * q.2) := by rw [Int.mul_right_comm, h2, Int.mul_assoc, Int.mul_comm q.2]
  rw [e1, e2]
theorem less_ratio {a b d : Int} (hd : 0 < d) (ha : 0 ≤ a) (hb : 0 ≤ b) : lessB (ratioV a d) (ratioV b d) = (decide (a < b) && true) := by
  unfold lessB
  rw [decide_eq_decide.2 (ratioV_lt hd ha hb)]
/-- The sum. -/
def plusV (a b : Int × Int) : Int × Int := ratioV (a.1 * b.2 + b.1 * a.2) (a.2 * b.2)
/-! The best click. -/
def kyC (c : Int) : Int := 2 * c.natAbs + if 0 < c then 1 else 0
theorem farL_key (C : Int) (far : Nat) : (∀ c ∈ farL C 0 far, c.natAbs = far) ∧ (farL C 0 far).Pairwise (fun a b => kyC a < kyC b) := by
  unfold farL
  split
  · subst_vars
    simp
  · rename_i h
    refine ⟨fun c hc => ?_, List.Pairwise.filter _ ?_⟩
    · have := (List.mem_filter.1 hc).1
      simp at this
      omega
    · simp [kyC]
      omega
theorem clickL_sorted (C : Int) : (clickL C 0).Pairwise (fun a b => kyC a < kyC b) := by
  unfold clickL clickP
  refine List.pairwise_flatMap.2 ⟨fun far _ => (farL_key C far).2, ?_⟩
  refine List.Pairwise.imp ?_ (List.pairwise_lt_range (n := (2 * C + 1).toNat))
  intro a b hab x hx y hy
  have h1 := (farL_key C a).1 x hx
  have h2 := (farL_key C b).1 y hy
  unfold kyC
  split <;> split <;> omega
theorem clickL_mem (C : Int) (hC : 0 ≤ C) (c : Int) : c ∈ clickL C 0 ↔ -C ≤ c ∧ c ≤ C := by
  constructor
  · intro h; exact inB_iff.1 (clickL_in C 0 (inB_iff.2 (by omega)) c h)
  · intro hc
    simp only [clickL, clickP, List.mem_flatMap, List.mem_range]
    refine ⟨c.natAbs, by omega, ?_⟩
    unfold farL
    split
    · simp; omega
    · refine List.mem_filter.2 ⟨?_, inB_iff.2 hc⟩
      simp
      omega
theorem best_first (q : Int → Int × Int) (f : Int → Int) : ∀ (l : List Int) (s : Int × (Int × Int)), s.2 = q s.1 → (∀ a b, (a = s.1 ∨ a ∈ l) → (b = s.1 ∨ b ∈ l) → lessB (q a) (q b) = (decide (f a < f b) && true)) →
    (l.foldl (bestStep q) s).2 = q (l.foldl (bestStep q) s).1 ∧ (((l.foldl (bestStep q) s).1 = s.1 ∧ ∀ c ∈ l, f s.1 ≤ f c) ∨ ∃ pre post, l = pre ++ (l.foldl (bestStep q) s).1 :: post ∧ f (l.foldl (bestStep q) s).1 < f s.1 ∧ (∀ c ∈ pre, f (l.foldl (bestStep q) s).1 < f c) ∧ ∀ c ∈ post, f (l.foldl (bestStep q) s).1 ≤ f c)
  | [], s, hs, _ => ⟨hs, .inl ⟨rfl, by simp⟩⟩
  | c :: l, s, hs, hq => by
    rw [List.foldl_cons]
    have hb : bestStep q s c = if f c < f s.1 then (c, q c) else s := by
      unfold bestStep
      rw [hs, hq _ _ (.inr List.mem_cons_self) (.inl rfl)]
      by_cases h : f c < f s.1 <;> simp [h]
    rw [hb]
    by_cases h : f c < f s.1
    · rw [if_pos h]
      obtain ⟨h1, h2⟩ := best_first q f l (c, q c) rfl (fun a b ha hb => hq a b (by rcases ha with rfl | ha; exact .inr List.mem_cons_self; exact .inr (List.mem_cons_of_mem _ ha)) (by rcases hb with rfl | hb; exact .inr List.mem_cons_self; exact .inr (List.mem_cons_of_mem _ hb)))
      refine ⟨h1, .inr ?_⟩
      rcases h2 with ⟨h3, h4⟩ | ⟨pre, post, h3, h4, h5, h6⟩
      · refine ⟨[], l, by rw [h3]; rfl, by rw [h3]; exact h, by simp, fun d hd => by rw [h3]; exact h4 d hd⟩
      · refine ⟨c :: pre, post, by rw [List.cons_append, ← h3], by simp only at h4; omega, fun d hd => ?_, h6⟩
        rcases List.mem_cons.1 hd with rfl | hd
        · exact h4
        · exact h5 d hd
    · rw [if_neg h]
      obtain ⟨h1, h2⟩ := best_first q f l s hs (fun a b ha hb => hq a b (ha.imp_right (List.mem_cons_of_mem _)) (hb.imp_right (List.mem_cons_of_mem _)))
      refine ⟨h1, ?_⟩
      rcases h2 with ⟨h3, h4⟩ | ⟨pre, post, h3, h4, h5, h6⟩
      · refine .inl ⟨h3, fun d hd => ?_⟩
        rcases List.mem_cons.1 hd with rfl | hd
        · omega
        · exact h4 d hd
      · refine .inr ⟨c :: pre, post, by rw [List.cons_append, ← h3], h4, fun d hd => ?_, h6⟩
        rcases List.mem_cons.1 hd with rfl | hd
        · omega
        · exact h5 d hd
/-- The best click: it has the least number, and of those with it, it is the first. -/
theorem best_law (q : Int → Int × Int) (f : Int → Int) (C : Int) (hC : 0 ≤ C) (hq : ∀ a b, -C ≤ a ∧ a ≤ C → -C ≤ b ∧ b ≤ C → lessB (q a) (q b) = (decide (f a < f b) && true)) :
    ∃ m, bestOf q (clickL C 0) = (m, q m) ∧ (-C ≤ m ∧ m ≤ C) ∧ (∀ c, -C ≤ c ∧ c ≤ C → f m ≤ f c) ∧ ∀ c, -C ≤ c ∧ c ≤ C → f c = f m → ¬ (c * c < m * m ∨ c = -m ∧ c < m) := by
  have h0 : (0 : Int) ∈ clickL C 0 := (clickL_mem C hC 0).2 (by omega)
  obtain ⟨h1, h2⟩ := best_first q f (clickL C 0) (0, q 0) rfl (fun a b ha hb => hq a b (by rcases ha with rfl | ha; simp only; omega; exact (clickL_mem C hC a).1 ha) (by rcases hb with rfl | hb; simp only; omega; exact (clickL_mem C hC b).1 hb))
  refine ⟨(bestOf q (clickL C 0)).1, Prod.ext rfl h1, ?_⟩
  have hky : ∀ c m : Int, (c * c < m * m ∨ c = -m ∧ c < m) → kyC c < kyC m := by
    intro c m h
    unfold kyC
    rcases h with h | ⟨rfl, h⟩
    · have : c.natAbs < m.natAbs := by
        refine Nat.lt_of_not_le fun hle => ?_
        have h1 := Nat.mul_le_mul hle hle
        have h2 : ((m.natAbs * m.natAbs : Nat) : Int) = m * m := Int.natAbs_mul_self
        have h3 : ((c.natAbs * c.natAbs : Nat) : Int) = c * c := Int.natAbs_mul_self
        omega
      split <;> split <;> omega
    · split <;> split <;> omega
  unfold bestOf
  generalize List.foldl (bestStep q) (0, q 0) (clickL C 0) = R at *
  rcases h2 with ⟨h3, h4⟩ | ⟨pre, post, h3, h4, h5, h6⟩
  · simp only at h3 h4
    rw [h3]
    refine ⟨by omega, fun c hc => h4 c ((clickL_mem C hC c).2 hc), fun c hc he hn => ?_⟩
    have := hky _ _ hn
    simp only [kyC] at this
    split at this <;> simp at this <;> omega
  · have hm : R.1 ∈ clickL C 0 := by rw [h3]; simp
    have hs := clickL_sorted C
    rw [h3] at hs
    have hpw := List.pairwise_append.1 hs
    refine ⟨(clickL_mem C hC _).1 hm, fun c hc => ?_, fun c hc he hn => ?_⟩
    · have := (clickL_mem C hC c).2 hc
      rw [h3] at this
      rcases List.mem_append.1 this with h | h
      · have := h5 c h; omega
      · rcases List.mem_cons.1 h with rfl | h
        · omega
        · exact h6 c h
    · have := (clickL_mem C hC c).2 hc
      have hk := hky _ _ hn
      rw [h3] at this
      rcases List.mem_append.1 this with h | h
      · have := h5 c h; omega
      · rcases List.mem_cons.1 h with rfl | h
        · omega
        · have := (List.pairwise_cons.1 hpw.2.1).1 c h
          omega
end Go.Proofs.Ytohlillcaadidaa

/- The plain laws of the reference: the best of some clicks. -/
namespace Go.Proofs.Ytohlillcaadidaa
open Go Go.Eng

theorem sq_lt (c d : Int) : c * c < d * d ↔ c.natAbs < d.natAbs := by
  have h1 : ((c.natAbs * c.natAbs : Nat) : Int) = c * c := Int.natAbs_mul_self
  have h2 : ((d.natAbs * d.natAbs : Nat) : Int) = d * d := Int.natAbs_mul_self
  rw [← h1, ← h2]
  constructor
  · intro h
    refine Nat.lt_of_not_le fun hle => ?_
    have := Nat.mul_le_mul hle hle
    omega
  · intro h
    have := Nat.mul_lt_mul_of_lt_of_lt h h
    omega
theorem sq_eq (c d : Int) : c * c = d * d ↔ c.natAbs = d.natAbs := by
  have h1 := sq_lt c d
  have h2 := sq_lt d c
  omega
/-! Of some fractions. -/
/-- What comes before: the lesser one, then the nearer one, then the lesser click. -/
def beatsB (a : Int × Int) (c : Int) (b : Int × Int) (d : Int) : Bool :=
  if a.1 * b.2 = b.1 * a.2 then (if c * c = d * d then decide (c < d) && true else decide (c * c < d * d) && true) else decide (a.1 * b.2 < b.1 * a.2) && true
def pickI (C : Int) (bad : List (Int × Int)) : Nat → Nat
  | 0 => 0
  | k + 1 => if beatsB (bad.getD (k + 1) (0, 1)) (((k + 1 : Nat) : Int) - C) (bad.getD (pickI C bad k) (0, 1)) ((pickI C bad k : Int) - C) then k + 1 else pickI C bad k
theorem pickI_le (C : Int) (bad : List (Int × Int)) : ∀ k, pickI C bad k ≤ k
  | 0 => Nat.le_refl _
  | k + 1 => by
    have := pickI_le C bad k
    rw [pickI]
    split <;> omega
def Bef (f : Int → Int) (c d : Int) : Prop := f c < f d ∨ f c = f d ∧ (c * c < d * d ∨ c * c = d * d ∧ c < d)
theorem beats_bef {q : Int → Int × Int} {f : Int → Int} {c d : Int} (h1 : lessB (q c) (q d) = (decide (f c < f d) && true)) (h2 : lessB (q d) (q c) = (decide (f d < f c) && true)) : beatsB (q c) c (q d) d = true ↔ Bef f c d := by
  unfold beatsB Bef
  simp only [lessB, Bool.and_true, decide_eq_decide] at h1 h2
  generalize (q c).1 * (q d).2 = x at *
  generalize (q d).1 * (q c).2 = y at *
  generalize c * c = u
  generalize d * d = v
  split
  · split <;> simp <;> omega
  · simp; omega
theorem allC_at (C : Int) (q : Int → Int × Int) (j : Nat) (hj : (j : Int) ≤ 2 * C) : ((allC C).map q).getD j (0, 1) = q ((j : Int) - C) := by
  have h : j < (2 * C + 1).toNat := by omega
  simp [allC, List.getD_eq_getElem?_getD, h]
theorem pick_best {q : Int → Int × Int} {f : Int → Int} {C : Int} (hC : 0 ≤ C) (hq : ∀ a b, -C ≤ a ∧ a ≤ C → -C ≤ b ∧ b ≤ C → lessB (q a) (q b) = (decide (f a < f b) && true)) :
    ∀ k : Nat, (k : Int) ≤ 2 * C → ∀ j, j ≤ k → ¬ Bef f ((j : Int) - C) ((pickI C ((allC C).map q) k : Int) - C)
  | 0, _, j, hj => by
    obtain rfl : j = 0 := by omega
    unfold Bef pickI
    omega
  | k + 1, hk, j, hj => by
    have ih := pick_best hC hq k (by omega)
    have hle := pickI_le C ((allC C).map q) k
    have hb := beats_bef (q := q) (f := f) (c := ((k + 1 : Nat) : Int) - C) (d := (pickI C ((allC C).map q) k : Int) - C) (hq _ _ (by omega) (by omega)) (hq _ _ (by omega) (by omega))
    rw [pickI, allC_at C q (k + 1) hk, allC_at C q _ (by omega)]
    generalize pickI C ((allC C).map q) k = i at *
    have hj2 := ih j
    by_cases h : beatsB (q (((k + 1 : Nat) : Int) - C)) (((k + 1 : Nat) : Int) - C) (q ((i : Int) - C)) ((i : Int) - C) = true
    · rw [if_pos h]
      have h2 := hb.1 h
      by_cases hjk : j = k + 1
      · subst hjk
        unfold Bef
        omega
      · intro h3
        refine hj2 (by omega) ?_
        unfold Bef at h2 h3 ⊢
        generalize ((j : Int) - C) * ((j : Int) - C) = u at *
        generalize (((k + 1 : Nat) : Int) - C) * (((k + 1 : Nat) : Int) - C) = v at *
        generalize ((i : Int) - C) * ((i : Int) - C) = x at *
        generalize f ((j : Int) - C) = fu at *
        generalize f (((k + 1 : Nat) : Int) - C) = fv at *
        generalize f ((i : Int) - C) = fx at *
        omega
    · rw [if_neg h]
      by_cases hjk : j = k + 1
      · subst hjk
        exact fun h3 => h (hb.2 h3)
      · exact hj2 (by omega)
/-- The reference picks the same click. -/
theorem pick_law (q : Int → Int × Int) (f : Int → Int) (C : Int) (hC : 0 ≤ C) (hq : ∀ a b, -C ≤ a ∧ a ≤ C → -C ≤ b ∧ b ≤ C → lessB (q a) (q b) = (decide (f a < f b) && true)) :
    ∃ m, bestOf q (clickL C 0) = (m, q m) ∧ (-C ≤ m ∧ m ≤ C) ∧ (pickI C ((allC C).map q) (2 * C).toNat : Int) = m + C := by
  obtain ⟨m, h1, h2, h3, h4⟩ := best_law q f C hC hq
  refine ⟨m, h1, h2, ?_⟩
  have hp := pick_best hC hq (2 * C).toNat (by omega)
  have hle := pickI_le C ((allC C).map q) (2 * C).toNat
  generalize pickI C ((allC C).map q) (2 * C).toNat = i at *
  have h5 := hp (m + C).toNat (by omega)
  rw [show (((m + C).toNat : Nat) : Int) - C = m by omega] at h5
  obtain ⟨x, hx⟩ : ∃ x, x = (i : Int) - C := ⟨_, rfl⟩
  rw [← hx] at h5
  have h6 := h3 x (by omega)
  have h7 := h4 x (by omega)
  unfold Bef at h5
  have e1 := sq_lt x m
  have e2 := sq_eq m x
  have e3 := sq_lt m x
  generalize x * x = u at *
  generalize m * m = v at *
  omega

/-! Of some numbers. -/
def kyN (n c : Int) : Int := kyC (c - n)
/-- The reference's choice among clicks. -/
def rcStep (r : Rg) (p : Ru) (g : Nat → Int → Int) (shot wt st : Nat) (cl : Int) (s : Int × Int) (c : Int) : Int × Int :=
  if shootV r p g shot wt st cl c < s.2 ∨ shootV r p g shot wt st cl c = s.2 ∧ kyN cl c < kyN cl s.1 then (c, shootV r p g shot wt st cl c) else s
def rcP (r : Rg) (p : Ru) (g : Nat → Int → Int) (shot wt st : Nat) (cl : Int) (k : Nat) : Int × Int := ((allC r.clicks).take k).foldl (rcStep r p g shot wt st cl) (cl, shootV r p g shot wt st cl cl)
end Go.Proofs.Ytohlillcaadidaa

/- The plain laws of the wind, part 1. -/
namespace Go.Proofs.Ytohlillcaadidaa
open Go Go.Eng
theorem afterP_getD (r : Rg) (ws : List Int) (t : Nat) (ht : t < 5) : ∀ k, (afterP r ws k).getD t 0 = sumR (fun s => ws.getD s 0 * (r.next.getD s []).getD t 0) k
  | 0 => by
    simp only [afterP, sumR, List.getD_eq_getElem?_getD, List.getElem?_replicate, ht, if_true, Option.getD_some]
  | k + 1 => by
    have h1 : t < (afterP r ws k).length := by rw [afterP_length]; exact ht
    have h2 : t < (addRow (afterP r ws k) (ws.getD k 0) (r.next.getD k [])).length := by rw [addRow_length]; exact h1
    rw [afterP, List.getD_eq_getElem?_getD, List.getElem?_eq_getElem h2, Option.getD_some, addRow_get _ _ _ _ h1, afterP_getD r ws t ht k]
    rfl
theorem wts0_getD {r : Rg} (hr : r.Right) (t : Nat) : (wts r 0).getD t 0 = r.first.getD t 0 := by
  unfold wts
  simp only [List.getD_eq_getElem?_getD]
  by_cases h : t < r.first.length
  · rw [List.getElem?_append_left h]
  · rw [List.getElem?_append_right (by omega), List.getElem?_eq_none (Nat.le_of_not_lt h)]
    rw [List.getElem?_drop, List.getElem?_replicate]
    split <;> rfl
theorem wtsS_getD (r : Rg) (k t : Nat) (ht : t < 5) : (wts r (k + 1)).getD t 0 = sumR (fun s => (wts r k).getD s 0 * (r.next.getD s []).getD t 0) r.next.length := by
  rw [wts, afterS, afterP_getD r _ t ht]
end Go.Proofs.Ytohlillcaadidaa

/- The plain laws of the wind, part 2. -/
namespace Go.Proofs.Ytohlillcaadidaa
open Go Go.Eng
/-- Numbers of a range that was made: total at most 6, group at most 37. -/
structure Rg.Low (r : Rg) : Prop where
  right : r.Right
  total : r.total ≤ 6
  gsum : r.group.sum ≤ 37
abbrev chW (r : Rg) (k s : Nat) : Int := (wts r k).getD s 0
abbrev chX (r : Rg) (k s : Nat) : Int × Int := ratioV (chW r k s) (r.total ^ (k + 1))
def bsum (r : Rg) (c : Int) (k j : Nat) : Int × Int := ratioV ((expP r c k).1 * r.total + mulN r c (wts r k) j) (r.total ^ (k + 1) * r.group.sum)
def bone (r : Rg) (k j : Nat) : Int × Int := ratioV (sumR (fun s => (wts r k).getD s 0) j) (r.total ^ (k + 1))
abbrev hitX (r : Rg) (s : Nat) (c : Int) : Int × Int := ratioV (r.group.sum - missS r (r.drifts.getD s 0) c) r.group.sum
end Go.Proofs.Ytohlillcaadidaa

/- The plain laws of the wind, part 3. -/
namespace Go.Proofs.Ytohlillcaadidaa
open Go Go.Eng
/-! Fractions, part by part. -/
/-- One fraction is less than another one. -/
def overB (a b : Int × Int) : Bool := decide (a.1 * b.2 < b.1 * a.2) && true
end Go.Proofs.Ytohlillcaadidaa

/- The plain laws of the wind, part 4. -/
namespace Go.Proofs.Ytohlillcaadidaa
open Go Go.Eng
/-- One range and rules do no worse than others. -/
structure SimR (r r' : Rg) (p p' : Ru) (e : Nat) : Prop where
  drifts : r'.drifts.length = r.drifts.length
  next : r'.next = r.next
  total : r'.total = r.total
  gsum : r'.group.sum = r.group.sum
  clicks : r.clicks ≤ r'.clicks
  miss : ∀ st c, st < r.drifts.length → missS r' (r'.drifts.getD st 0) c ≤ missS r (r.drifts.getD st 0) c
  pm : 0 ≤ p'.miss ∧ p'.miss ≤ p.miss
  pc : p'.click ≤ p.click
  pw : p'.wait ≤ p.wait
  waits : p.waits + e ≤ p'.waits
end Go.Proofs.Ytohlillcaadidaa

/- The plain laws of the wind, part 5. -/
namespace Go.Proofs.Ytohlillcaadidaa
open Go Go.Eng
/-! The values. -/
abbrev valsL (r : Rg) (p : Ru) : List Int := (plcL r p).map (valP r p)
def costP (r : Rg) (p : Ru) : Int := sumR (fun s => r.first.getD s 0 * valV r p 0 p.waits.toNat s 0) r.drifts.length
def denP (r : Rg) (p : Ru) : Int := partsV r 0 p.waits.toNat * r.total
def planV (r : Rg) (p : Ru) : Int × Int := ratioV (costP r p) (denP r p)
theorem first_bd {r : Rg} (hr : r.Right) (s : Nat) : 0 ≤ r.first.getD s 0 ∧ r.first.getD s 0 ≤ r.total := getD_bd (by have := hr.total; omega) hr.chance s
end Go.Proofs.Ytohlillcaadidaa

/- The plain laws of the wind, part 6. -/
namespace Go.Proofs.Ytohlillcaadidaa
open Go Go.Eng
/-! Values that hold prove no more. -/
/-! One click for all shots. -/
/-- The misses that follow, if all shots are shot with a click; m shots are left. -/
def tailM (r : Rg) (c : Int) : Nat → Nat → Int
  | 0, _ => 0
  | m + 1, st => missS r (r.drifts.getD st 0) c * r.total ^ m + folS r (tailM r c m) st
/-- What it costs to shoot all with one click, as a fraction. -/
def clickV (r : Rg) (p : Ru) (c : Int) : Int × Int := (p.click * max c (-c) * (expV r c).2 + p.miss * (expV r c).1, (expV r c).2)
end Go.Proofs.Ytohlillcaadidaa

/- The plain laws of the wind, part 7. -/
namespace Go.Proofs.Ytohlillcaadidaa
open Go Go.Eng
/-! The worst case. -/
abbrev facN (r : Rg) (l : List Int) (c : Int) : Int := facS r l c 5
/-! What is more. -/
end Go.Proofs.Ytohlillcaadidaa

/- The plain laws of the wind, part 8. -/
namespace Go.Proofs.Ytohlillcaadidaa
open Go Go.Eng
/-! Left and right. -/
structure Turned (r r' : Rg) : Prop where
  n : r'.drifts.length = r.drifts.length
  next : r'.next = r.next
  first : r'.first = r.first
  total : r'.total = r.total
  gsum : r'.group.sum = r.group.sum
  clicks : r'.clicks = r.clicks
  miss : ∀ st c, st < r.drifts.length → missS r' (r'.drifts.getD st 0) (-c) = missS r (r.drifts.getD st 0) c
theorem Turned.symm {r r' : Rg} (h : Turned r r') : Turned r' r :=
  ⟨h.n.symm, h.next.symm, h.first.symm, h.total.symm, h.gsum.symm, h.clicks.symm, fun st c hs => by
    have := h.miss st (-c) (by rw [← h.n]; exact hs)
    rw [Int.neg_neg] at this
    exact this.symm⟩
def turnR (r : Rg) : Rg := { r with group := r.group.reverse, drifts := r.drifts.map (fun d => d * -1) }
/-! Turned winds. -/
def turnW (ws : List (Int × Int)) : List (Int × Int) := ws.map fun s => (-s.2, -s.1)
/-! States numbered otherwise. -/
structure Named (r r' : Rg) (σ : Nat → Nat) : Prop where
  n : r'.drifts.length = r.drifts.length
  nn : r'.next.length = r.next.length
  total : r'.total = r.total
  gsum : r'.group = r.group
  clicks : r'.clicks = r.clicks
  radius : r'.radius = r.radius
  unit : r'.unit = r.unit
  perm : ((List.range r.drifts.length).map σ).Perm (List.range r.drifts.length)
  drift : ∀ s, s < r.drifts.length → r'.drifts.getD (σ s) 0 = r.drifts.getD s 0
  first : ∀ s, s < r.drifts.length → r'.first.getD (σ s) 0 = r.first.getD s 0
  next : ∀ s t, s < r.drifts.length → t < r.drifts.length → (r'.next.getD (σ s) []).getD (σ t) 0 = (r.next.getD s []).getD t 0
theorem Named.lt {r r' : Rg} {σ : Nat → Nat} (h : Named r r' σ) {s : Nat} (hs : s < r.drifts.length) : σ s < r.drifts.length :=
  List.mem_range.1 (h.perm.mem_iff.1 (List.mem_map.2 ⟨s, List.mem_range.2 hs, rfl⟩))
end Go.Proofs.Ytohlillcaadidaa

/- The plain laws of the wind, part 9. -/
namespace Go.Proofs.Ytohlillcaadidaa
open Go Go.Eng
/-! A wind that never changes. -/
structure OneSt (r : Rg) : Prop where
  right : r.Right
  one : r.drifts.length = 1
abbrev mis0 (r : Rg) (c : Int) : Int := missS r (r.drifts.getD 0 0) c
/-- The winds of that drift. -/
abbrev calmW (r : Rg) : List (Int × Int) := List.replicate 5 (r.drifts.getD 0 0, r.drifts.getD 0 0)
end Go.Proofs.Ytohlillcaadidaa

/- The plain laws of the wind, part 10: plays. -/
namespace Go.Proofs.Ytohlillcaadidaa
open Go Go.Eng
/-! What comes of following the plan, over all courses of the wind. -/
/-- What it costs from a situation on, if all shots are that far off. -/
def dCost (r : Rg) (p : Ru) (far : Int) : Nat → Nat → Int → List Nat → Int
  | _, _, _, [] => 0
  | k, w, cl, st :: l =>
    if k = 5 then 0 else if (choV r p k w st cl).1.1 = true then p.wait + dCost r p far k (w - 1) cl l
    else p.click * max ((choV r p k w st cl).1.2 - cl) (cl - (choV r p k w st cl).1.2) + (if hitB r (r.drifts.getD st 0 + far + (choV r p k w st cl).1.2 * r.unit) then 0 else p.miss) + dCost r p far (k + 1) w (choV r p k w st cl).1.2 l
abbrev offL (far : Int) : List Int := List.replicate 5 far
/-- What is known on the way. -/
structure FIn (r : Rg) (p : Ru) (k : Nat) (x : FS) : Prop where
  ok : FOk r p k x
  at_ : x.shot = 5 ∨ (x.shot : Int) + (p.waits - x.wt) = k
  steps : x.steps = x.shot + (p.waits - x.wt)
  misses : x.misses ≤ x.shot
  cost : p.miss * x.misses ≤ x.cost
/-- Sums over courses that go on from a state. -/
def cSum (r : Rg) : Nat → Nat → (List Nat → Int) → Int
  | 0, _, f => f []
  | n + 1, st, f => folS r (fun t => cSum r n t (fun l => f (t :: l))) st
theorem row_sum {r : Rg} (hr : r.Right) (st : Nat) (hs : st < r.drifts.length) : sumR (fun t => (r.next.getD st []).getD t 0) r.drifts.length = r.total := by
  have hl : st < r.next.length := by rw [hr.next]; exact hs
  have hm : r.next[st] ∈ r.next := List.getElem_mem hl
  have e : r.next.getD st [] = r.next[st] := by simp [List.getD_eq_getElem?_getD, hl]
  rw [e, sumR_getD _ _ (by rw [hr.rows _ hm]; exact Nat.le_refl _), hr.nsum _ hm]
/-- How far an offset is off. -/
abbrev farO (r : Rg) (o : Nat) : Int := (o : Int) - (r.group.length : Int) / 2
abbrev wtO (r : Rg) (o : Nat) : Int := r.group.getD o 0
end Go.Proofs.Ytohlillcaadidaa

/- The plain laws of the wind, part 11: all courses. -/
namespace Go.Proofs.Ytohlillcaadidaa
open Go Go.Eng
/-! Courses of the wind, as bits. -/
def bitsL : Nat → Nat → List Nat
  | 0, _ => []
  | L + 1, i => (i % 2) :: bitsL L (i / 2)
def chN (r : Rg) : Nat → List Nat → Int
  | _, [] => 1
  | st, t :: l => (r.next.getD st []).getD t 0 * chN r t l
def chF (r : Rg) : List Nat → Int
  | [] => 1
  | s :: l => r.first.getD s 0 * chN r s l
/-- What a course adds, with the first m offsets. -/
def corS (r : Rg) (p : Ru) (i m : Nat) : Int := sumR (fun o => chF r (bitsL (5 + p.waits.toNat) i) * wtO r o * dCost r p (farO r o) 0 p.waits.toNat 0 (bitsL (5 + p.waits.toNat) i)) m
def allS (r : Rg) (p : Ru) (i : Nat) : Int := sumR (fun j => corS r p j r.group.length) i
end Go.Proofs.Ytohlillcaadidaa

/- The plain laws of the reference: courses of the wind by their numbers. -/
namespace Go.Proofs.Ytohlillcaadidaa
open Go Go.Eng

theorem sumR_app (G : Nat → Int) (x : Nat) : ∀ y, sumR G (x + y) = sumR G x + sumR (fun i => G (x + i)) y
  | 0 => by simp [sumR]
  | y + 1 => by
    rw [← Nat.add_assoc]
    simp only [sumR]
    rw [sumR_app G x y]
    omega
theorem sumR_block (G : Nat → Int) (m : Nat) : ∀ a, sumR G (a * m) = sumR (fun t => sumR (fun c => G (t * m + c)) m) a
  | 0 => by simp [sumR]
  | a + 1 => by
    rw [Nat.succ_mul, sumR_app, sumR_block G m a]
    rfl
theorem sumR_swap2 (F : Nat → Nat → Int) (m : Nat) : ∀ n, sumR (fun t => sumR (fun c => F t c) m) n = sumR (fun c => sumR (fun t => F t c) n) m
  | 0 => by
    simp only [sumR]
    exact (sumR_zero _ _ fun _ _ => rfl).symm
  | n + 1 => by
    simp only [sumR]
    rw [sumR_swap2 F m n, ← sumR_add]
/-- A digit of a course's number: the state at that shot. -/
def dig (n c i : Nat) : Nat := c / n ^ i % n
theorem dig_lt {n : Nat} (h : 0 < n) (c i : Nat) : dig n c i < n := Nat.mod_lt _ h
theorem dig_low {n k i : Nat} (h : 0 < n) (hi : i ≤ k) (t c : Nat) : dig n (t * n ^ (k + 1) + c) i = dig n c i := by
  unfold dig
  have e : t * n ^ (k + 1) = n ^ i * (n * (t * n ^ (k - i))) := by
    rw [show k + 1 = i + (1 + (k - i)) by omega, Nat.pow_add, Nat.pow_add, Nat.pow_one]
    ac_rfl
  rw [e, Nat.mul_add_div (Nat.pow_pos h), Nat.mul_add_mod]
theorem dig_top {n k t c : Nat} (ht : t < n) (hc : c < n ^ (k + 1)) : dig n (t * n ^ (k + 1) + c) (k + 1) = t := by
  have h : 0 < n := by omega
  unfold dig
  rw [Nat.mul_comm, Nat.mul_add_div (Nat.pow_pos h), Nat.div_eq_of_lt hc, Nat.add_zero, Nat.mod_eq_of_lt ht]
/-- The weight of a course, up to a shot. -/
def crW (r : Rg) (c : Nat) : Nat → Int
  | 0 => 1
  | 1 => r.first.getD (dig r.drifts.length c 0) 0
  | k + 2 => crW r c (k + 1) * (r.next.getD (dig r.drifts.length c k) []).getD (dig r.drifts.length c (k + 1)) 0
theorem crW_low {r : Rg} (h : 0 < r.drifts.length) (t c k : Nat) : ∀ j, j ≤ k + 1 → crW r (t * r.drifts.length ^ (k + 1) + c) j = crW r c j
  | 0, _ => rfl
  | 1, _ => by rw [crW, crW, dig_low h (by omega)]
  | j + 2, hj => by rw [crW, crW, crW_low h t c k (j + 1) (by omega), dig_low h (by omega), dig_low h (by omega)]
theorem next_bd2 {r : Rg} (hr : r.Right) (s t : Nat) : 0 ≤ (r.next.getD s []).getD t 0 ∧ (r.next.getD s []).getD t 0 ≤ 12 := by
  have ht := hr.total
  by_cases h : s < r.next.length
  · rw [show r.next.getD s [] = r.next[s] by simp [List.getD_eq_getElem?_getD, h]]
    by_cases h2 : t < r.next[s].length
    · have := hr.chances _ (List.getElem_mem h) _ (List.getElem_mem h2)
      rw [List.getD_eq_getElem?_getD, List.getElem?_eq_getElem h2, Option.getD_some]
      omega
    · rw [List.getD_eq_getElem?_getD, List.getElem?_eq_none (by omega)]
      simp
  · rw [show r.next.getD s [] = [] by simp [List.getD_eq_getElem?_getD, show r.next.length ≤ s by omega]]
    simp
theorem crW_bd {r : Rg} (hr : r.Right) (c : Nat) : ∀ k, 0 ≤ crW r c k ∧ crW r c k ≤ 12 ^ k
  | 0 => by simp [crW]
  | 1 => by have := first_bd hr (dig r.drifts.length c 0); have := hr.total; rw [crW]; omega
  | k + 2 => by
    have := mul_bd0 (crW_bd hr c (k + 1)) (next_bd2 hr (dig r.drifts.length c k) (dig r.drifts.length c (k + 1)))
    rw [crW, Int.pow_succ]
    exact this
/-- A sum over all courses of so many shots. -/
def crS (r : Rg) (k : Nat) (φ : Nat → Int) : Int := sumR (fun c => crW r c (k + 1) * φ c) (r.drifts.length ^ (k + 1))
theorem crS_succ {r : Rg} (h : 0 < r.drifts.length) (k : Nat) (φ : Nat → Int) : crS r (k + 1) φ = crS r k (fun c => sumR (fun t => (r.next.getD (dig r.drifts.length c k) []).getD t 0 * φ (t * r.drifts.length ^ (k + 1) + c)) r.drifts.length) := by
  unfold crS
  rw [show r.drifts.length ^ (k + 1 + 1) = r.drifts.length * r.drifts.length ^ (k + 1) by rw [Nat.pow_succ, Nat.mul_comm], sumR_block, sumR_swap2]
  refine sumR_congr _ _ _ (fun c hc => ?_)
  try simp only
  rw [← sumR_mul]
  refine sumR_congr _ _ _ (fun t ht => ?_)
  try simp only
  rw [crW, crW_low h _ _ _ _ (Nat.le_refl _), dig_low h (Nat.le_refl _), dig_top ht hc, Int.mul_assoc]
/-- The states at a shot, each with its weight. -/
def wS (r : Rg) (k : Nat) (g : Nat → Int) : Int := sumR (fun s => (wts r k).getD s 0 * g s) r.drifts.length
theorem wS_succ {r : Rg} (hr : r.Right) (k : Nat) (g : Nat → Int) : wS r (k + 1) g = wS r k (fun s => sumR (fun t => (r.next.getD s []).getD t 0 * g t) r.drifts.length) := by
  have hd := hr.d2
  unfold wS
  rw [sumR_congr _ (fun t => sumR (fun s => (wts r k).getD s 0 * ((r.next.getD s []).getD t 0 * g t)) r.drifts.length) _ (fun t ht => by
    try simp only
    rw [wtsS_getD r k t (by omega), hr.next, Int.mul_comm, ← sumR_mul]
    refine sumR_congr _ _ _ (fun s _ => ?_)
    try simp only
    rw [Int.mul_comm, Int.mul_assoc]), sumR_swap2]
  refine sumR_congr _ _ _ (fun s _ => ?_)
  try simp only
  rw [sumR_mul]
theorem crS_top {r : Rg} (hr : r.Right) : ∀ (k : Nat) (g : Nat → Int), crS r k (fun c => g (dig r.drifts.length c k)) = wS r k g
  | 0, g => by
    unfold crS wS
    rw [Nat.zero_add, Nat.pow_one]
    refine sumR_congr _ _ _ (fun c hc => ?_)
    try simp only
    have e : dig r.drifts.length c 0 = c := by unfold dig; rw [Nat.pow_zero, Nat.div_one, Nat.mod_eq_of_lt hc]
    rw [crW, e, wts0_getD hr]
  | k + 1, g => by
    have hd := hr.d1
    rw [crS_succ (by omega), wS_succ hr, ← crS_top hr k]
    unfold crS
    refine sumR_congr _ _ _ (fun c hc => ?_)
    try simp only
    congr 1
    refine sumR_congr _ _ _ (fun t ht => ?_)
    try simp only
    rw [dig_top ht hc]
theorem crS_at {r : Rg} (hr : r.Right) (k : Nat) (g : Nat → Int) : ∀ d, crS r (k + d) (fun c => g (dig r.drifts.length c k)) = r.total ^ d * wS r k g
  | 0 => by rw [Nat.add_zero, crS_top hr]; simp
  | d + 1 => by
    have hd := hr.d1
    rw [← Nat.add_assoc, crS_succ (by omega), Int.pow_succ, Int.mul_right_comm, ← crS_at hr k g d]
    unfold crS
    rw [Int.mul_comm, ← sumR_mul]
    refine sumR_congr _ _ _ (fun c _ => ?_)
    try simp only
    rw [sumR_congr _ (fun t => g (dig r.drifts.length c k) * (r.next.getD (dig r.drifts.length c (k + d)) []).getD t 0) _ (fun t _ => by (try simp only); rw [dig_low (by omega) (by omega), Int.mul_comm]), sumR_mul, row_sum hr _ (dig_lt (by omega) _ _)]
    ac_rfl
/-- The sum of the weights of the courses with a state at a shot. -/
theorem chance_sum {r : Rg} (hr : r.Right) (i s : Nat) (hi : i < 5) (hs : s < r.drifts.length) : crS r 4 (fun c => if dig r.drifts.length c i = s then 1 else 0) = (wts r i).getD s 0 * r.total ^ (4 - i) := by
  have h := crS_at hr i (fun x => if x = s then 1 else 0) (4 - i)
  rw [show i + (4 - i) = 4 by omega] at h
  rw [h, Int.mul_comm]
  congr 1
  unfold wS
  rw [sumR_congr _ (fun x => if x = s then (wts r i).getD s 0 else 0) _ (fun x _ => by
    try simp only
    split
    · subst_vars; simp
    · simp)]
  have key : ∀ n, s < n → sumR (fun x => if x = s then (wts r i).getD s 0 else 0) n = (wts r i).getD s 0 := by
    intro n
    induction n with
    | zero => intro h; omega
    | succ n ih =>
      intro h
      simp only [sumR]
      by_cases h2 : s = n
      · subst h2
        rw [sumR_zero _ _ (fun x hx => by (try simp only); rw [if_neg (by omega)]), if_pos rfl]
        omega
      · rw [ih (by omega), if_neg (by omega)]
        omega
  exact key _ hs
/-- The misses of all courses. -/
theorem miss_sum {r : Rg} (hr : r.Right) (click : Int) : sumR (fun i => crS r 4 (fun c => missS r (r.drifts.getD (dig r.drifts.length c i) 0) click)) 5 = (expP r click 5).1 := by
  have e : ∀ i, i < 5 → crS r 4 (fun c => missS r (r.drifts.getD (dig r.drifts.length c i) 0) click) = r.total ^ (4 - i) * mulN r click (wts r i) r.drifts.length := fun i hi => by
    have h := crS_at hr i (fun s => missS r (r.drifts.getD s 0) click) (4 - i)
    rw [show i + (4 - i) = 4 by omega] at h
    rw [h]
    rfl
  simp only [sumR]
  rw [e 0 (by omega), e 1 (by omega), e 2 (by omega), e 3 (by omega), e 4 (by omega)]
  rw [expP_succ r click 4 (by omega), expP_succ r click 3 (by omega), expP_succ r click 2 (by omega), expP_succ r click 1 (by omega), expP_succ r click 0 (by omega)]
  have z : (expP r click 0).1 = 0 := rfl
  rw [z]
  simp only [show (4 : Nat) - 0 = 4 from rfl, show (4 : Nat) - 1 = 3 from rfl, show (4 : Nat) - 2 = 2 from rfl, show (4 : Nat) - 3 = 1 from rfl, show (4 : Nat) - 4 = 0 from rfl]
  generalize mulN r click (wts r 0) r.drifts.length = m0
  generalize mulN r click (wts r 1) r.drifts.length = m1
  generalize mulN r click (wts r 2) r.drifts.length = m2
  generalize mulN r click (wts r 3) r.drifts.length = m3
  generalize mulN r click (wts r 4) r.drifts.length = m4
  generalize r.total = T
  have p2 : T ^ 2 = T * T := by rw [Int.pow_succ, Int.pow_succ, Int.pow_zero, Int.one_mul]
  have p3 : T ^ 3 = T * T * T := by rw [Int.pow_succ, p2]
  have p4 : T ^ 4 = T * T * T * T := by rw [Int.pow_succ, p3]
  have p1 : T ^ 1 = T := by rw [Int.pow_succ, Int.pow_zero, Int.one_mul]
  rw [p1, p2, p3, p4, Int.pow_zero]
  simp only [Int.zero_mul, Int.zero_add, Int.add_mul, Int.one_mul]
  have a0 : T * T * T * T * m0 = m0 * T * T * T * T := by ac_rfl
  have a1 : T * T * T * m1 = m1 * T * T * T := by ac_rfl
  have a2 : T * T * m2 = m2 * T * T := by ac_rfl
  have a3 : T * m3 = m3 * T := by ac_rfl
  omega
end Go.Proofs.Ytohlillcaadidaa

/- Walks of the reference: courses of the wind. -/
namespace Go.Proofs.Ytohlillcaadidaa
open Go Go.Eng

theorem d5_arr : arrB Try.prog 167 5 3 1 = true := by kernel_rfl
/-- The states of a course, as far as they are computed. -/
def digP (n c k : Nat) : List Int := (List.range 5).map fun i => if i < k then ((dig n c i : Nat) : Int) else 0
theorem digP_length (n c k : Nat) : (digP n c k).length = 5 := by simp [digP]
theorem digP_0 (n c : Nat) : digP n c 0 = List.replicate 5 0 := by simp [digP, List.map_const']
theorem digP_at (n c k i : Nat) (h : i < k) (h5 : i < (digP n c k).length) : (digP n c k)[i] = ((dig n c i : Nat) : Int) := by
  simp [digP, h]
theorem digP_set (n c k : Nat) : (digP n c k).set k ((dig n c k : Nat) : Int) = digP n c (k + 1) := by
  refine List.ext_getElem (by simp [digP]) (fun i h1 h2 => ?_)
  simp only [digP, List.getElem_set, List.getElem_map, List.getElem_range]
  split
  · subst_vars
    rw [if_pos (by omega)]
  · split
    · rw [if_pos (by omega)]
    · rw [if_neg (by omega)]
theorem crW5 {r : Rg} (hr : r.Right) (c k : Nat) (hk : k ≤ 5) : 0 ≤ crW r c k ∧ crW r c k ≤ 248832 := by
  have h := crW_bd hr c k
  have h2 : (12 : Int) ^ k ≤ 12 ^ 5 := by
    have : (12 : Nat) ^ k ≤ 12 ^ 5 := Nat.pow_le_pow_right (by omega) hk
    exact_mod_cast this
  have h3 : (12 : Int) ^ 5 = 248832 := by decide
  omega
theorem pow5 {r : Rg} (hr : r.Right) : r.drifts.length ^ 5 ≤ 3125 := by
  have h := Nat.pow_le_pow_left hr.d2 5
  have h3 : (5 : Nat) ^ 5 = 3125 := by decide
  omega
theorem course_ca (w : World) (cs : List Value) (r : Rg) (c : Nat) (h : RgC w cs r) (hr : r.Right) (hc5 : c < r.drifts.length ^ 5) :
    Ca Try.prog 118 [.agg cs.toArray, .int .i64 c] w fun v w' => v = .tuple #[.agg (ints (digP r.drifts.length c 5)).toArray, .int .i64 (crW r c 5)] ∧ Chg [] w w' := by
  obtain ⟨lo, hi, ag, cg, ad, cd, af, cf, an, cn, rfl, hg, hdr, hf, hn⟩ := h
  obtain ⟨_, _, hsl, hsn⟩ := RdII.outI hn
  cases hsl
  obtain ⟨_, _, hsl, hsf⟩ := RdI.outI hf
  cases hsl
  have hd1 := hr.d1
  have hd2 := hr.d2
  have hp5 := pow5 hr
  have hfl := hr.first
  have hnl := hr.next
  refine q_of (Sat.nil w M0) Try.func118 rfl (by simp [Try.ntmps118]) ?_
  (refine q_seq ?_; refine q_region ?_)
  refine ql_box rfl rfl (fun b2 => ?_)
  refine ql_alloc zero167 rfl (fun b4 => ?_)
  (refine ql_pure tabOk rfl rfl ?_; refine q_nil ?_; refine q_seq ?_; refine q_region ?_)
  refine ql_alloc zero167 rfl (fun b6 => ?_)
  (refine q_nil ?_; refine q_seq ?_; refine q_region ?_; refine ql_pure tabOk rfl rfl ?_; refine q_nil ?_; (iterate 2 refine q_seq ?_); refine q_region ?_; refine ql_pure tabOk rfl rfl ?_; refine q_nil ?_; refine q_block ?_)
  refine q_loop (σ := Nat) (fun k => k ≤ 5) (fun k => 5 - k) (fun k => [(1, .int .i64 ((c / r.drifts.length ^ k : Nat) : Int)), (2, .pointer (some ⟨b2, 0, none⟩)), (4, .pointer (some ⟨b4, 0, none⟩)), (6, .pointer (some ⟨b6, 0, none⟩)), (7, .int .i64 (crW r c k)), (8, .int .i64 k)])
    (fun k => [.pt b6 (ints (digP r.drifts.length c k)) 167, .pt b4 (ints (List.replicate 5 0)) 167, .pt b2 [.int .i64 r.radius, .int .i64 r.unit, .int .i64 r.clicks, .int .i64 r.total, .slice ag r.group.length cg, .slice ad r.drifts.length cd, .slice af r.first.length cf, .slice an r.next.length cn] 32]) 0 (by omega) ⟨by rw [Nat.pow_zero, Nat.div_one]; rfl, rfl, rfl, rfl, rfl, rfl, trivial⟩ (by rw [digP_0]; repeat (first | exact Sp.nil | exact Sp.refl _ | refine Sp.cons (by repeat constructor) ?_)) ?_
  intro k hk K hK
  have hm0 : c / r.drifts.length ^ k ≤ c := Nat.div_le_self _ _
  have hmn : c / r.drifts.length ^ (k + 1) = c / r.drifts.length ^ k / r.drifts.length := by rw [Nat.pow_succ, Nat.div_div_eq_div_mul]
  have hdk : dig r.drifts.length c k = c / r.drifts.length ^ k % r.drifts.length := rfl
  obtain ⟨m, hm⟩ : ∃ m, m = c / r.drifts.length ^ k := ⟨_, rfl⟩
  rw [← hm] at hm0 hmn hdk ⊢
  have hdl := dig_lt (n := r.drifts.length) (by omega) c k
  have hz : ((m : Nat) : Int) % (r.drifts.length : Int) = ((dig r.drifts.length c k : Nat) : Int) := by rw [hdk]; simp
  have hq : ((m : Nat) : Int) / (r.drifts.length : Int) = ((c / r.drifts.length ^ (k + 1) : Nat) : Int) := by rw [hmn, Int.natCast_ediv]
  ((iterate 2 refine q_seq ?_); refine q_region ?_; (iterate 2 refine ql_pure tabOk rfl rfl ?_); refine q_nil ?_)
  refine q_if rfl (fun hc => ?_) (fun hc => ?_)
  · have hk5 : k < 5 := by omega
    clear hc
    have hlk : k < (digP r.drifts.length c k).length := by rw [digP_length]; omega
    (refine q_skip ?_; refine q_seq ?_; refine q_block ?_; refine q_seq ?_; refine q_region ?_; (iterate 3 refine ql_pure tabOk rfl rfl ?_); refine ql_loadB tabOk rfl rfl rfl (by repeat first | exact .head _ | refine .tail _ ?_) (by rfl) ?_; refine ql_pure tabOk rfl rfl ?_; refine ql_remN rfl rfl rfl (by omega) (by omega) ?_)
    rw [hz]
    refine ql_indexA d5_arr rfl rfl rfl (by omega) (by omega) ?_
    refine ql_storeI tabOk (k) rfl rfl rfl (by repeat constructor) (by first | rfl | omega | simp) hlk ?_
    rw [digP_set]
    (refine q_nil ?_; refine q_seq ?_; refine q_region ?_; (iterate 2 refine ql_pure tabOk rfl rfl ?_); refine ql_loadB tabOk rfl rfl rfl (by repeat first | exact .head _ | refine .tail _ ?_) (by rfl) ?_; refine ql_pure tabOk rfl rfl ?_; refine ql_quoN rfl rfl rfl (by omega) (by omega) (by omega) ?_; refine ql_pure tabOk rfl rfl ?_; refine q_nil ?_; refine q_seq ?_; refine q_region ?_; (iterate 2 refine ql_pure tabOk rfl rfl ?_); refine q_nil ?_)
    rw [hq]
    skip
    have hlk1 : k < (digP r.drifts.length c (k + 1)).length := by rw [digP_length]; omega
    refine q_if rfl (fun hc => ?_) (fun hc => ?_)
    · obtain rfl : k = 0 := by omega
      clear hc
      have hdf : dig r.drifts.length c 0 < r.first.length := by omega
      obtain ⟨bf, off, rfl⟩ := hsf (by omega)
      (refine q_region ?_; refine ql_pure tabOk rfl rfl ?_; refine ql_loadB tabOk rfl rfl rfl (by repeat first | exact .head _ | refine .tail _ ?_) (by rfl) ?_)
      refine ql_indexA d5_arr rfl rfl rfl (by omega) (by omega) ?_
      refine ql_loadI tabOk (0) rfl rfl rfl (by repeat first | exact .head _ | refine .tail _ ?_) (by first | rfl | omega | simp) hlk1 ?_
      rw [digP_at _ _ _ 0 (by omega)]
      skip
      (refine ql_index tabOk rfl rfl rfl rfl rfl (by omega) (by omega) ?_; refine ql_load1 tabOk rfl rfl rfl (fun w hs => RdI.at (RdE.keep hf hs.chg0) (dig r.drifts.length c 0) hdf) ?_)
      (refine ql_pure tabOk rfl rfl ?_; refine q_nil ?_; refine q_blk ?_; refine q_region ?_; refine ql_pure tabOk rfl rfl ?_; refine ql_ar tabOk rfl rfl rfl rfl (by omega) (by omega) ?_; refine ql_pure tabOk rfl rfl ?_; refine q_nil ?_)
      have hw : crW r c 1 = r.first[dig r.drifts.length c 0] := by rw [crW]; simp [List.getD_eq_getElem?_getD, hdf]
      exact hK 1 _ _ (by omega) (by omega) ⟨rfl, rfl, rfl, rfl, by rw [hw]; rfl, rfl, trivial⟩ (by repeat (first | exact Sp.nil | exact Sp.refl _ | refine Sp.cons (by repeat constructor) ?_))
    · obtain ⟨j, rfl⟩ : ∃ j, k = j + 1 := ⟨k - 1, by omega⟩
      clear hc
      have hdj := dig_lt (n := r.drifts.length) (by omega) c j
      have hjn : dig r.drifts.length c j < r.next.length := by omega
      have hlj : j < (digP r.drifts.length c (j + 1 + 1)).length := by rw [digP_length]; omega
      obtain ⟨bs, off, rfl⟩ := hsn (by omega)
      obtain ⟨ar, cr, hrow, hcell⟩ := hn.row (dig r.drifts.length c j) hjn
      have hrl := hr.rows _ (List.getElem_mem hjn)
      have hw : crW r c (j + 1 + 1) = crW r c (j + 1) * r.next[dig r.drifts.length c j].getD (dig r.drifts.length c (j + 1)) 0 := by
        rw [crW]
        simp [List.getD_eq_getElem?_getD, hjn]
      have hwb := crW5 hr c (j + 1 + 1) (by omega)
      generalize hrw : r.next[dig r.drifts.length c j] = row at hrow hcell hrl hw
      have hdr : dig r.drifts.length c (j + 1) < row.length := by omega
      rw [List.getD_eq_getElem?_getD, List.getElem?_eq_getElem hdr, Option.getD_some] at hw
      obtain ⟨_, _, hsl2, hsr⟩ := RdI.outI hrow
      cases hsl2
      obtain ⟨br, offr, rfl⟩ := hsr (by omega)
      rw [hw] at hwb
      skip
      refine q_draw _ [] (Sp.refl _) (by kernel_rfl) (by kernel_rfl) ?_
      ((iterate 2 refine qf_pure tabOk rfl rfl rfl ?_); refine qf_loadB tabOk rfl rfl rfl (by repeat first | exact .head _ | refine .tail _ ?_) (by rfl) ?_; refine qf_pure tabOk rfl rfl rfl ?_; refine qf_ar tabOk rfl rfl rfl rfl (by omega) (by omega) ?_)
      refine qf_indexA d5_arr rfl rfl rfl (by omega) (by omega) ?_
      refine qf_loadI tabOk (j) rfl rfl rfl (by repeat first | exact .head _ | refine .tail _ ?_) (by first | rfl | omega | simp) hlj ?_
      rw [digP_at _ _ _ j (by omega)]
      skip
      refine qf_index tabOk rfl rfl rfl rfl rfl (by omega) (by omega) ?_
      refine qf_load1 (v := .slice (some ⟨br, offr, none⟩) row.length cr) tabOk rfl rfl rfl (fun w' hs => hcell w' hs.chg0) ?_
      (refine qf_pure tabOk rfl rfl rfl ?_)
      refine qf_indexA d5_arr rfl rfl rfl (by omega) (by omega) ?_
      refine qf_loadI tabOk (j + 1) rfl rfl rfl (by repeat first | exact .head _ | refine .tail _ ?_) (by first | rfl | omega | simp) hlk1 ?_
      rw [digP_at _ _ _ (j + 1) (by omega)]
      skip
      (refine qf_index tabOk rfl rfl rfl rfl rfl (by omega) (by omega) ?_; refine qf_load1 tabOk rfl rfl rfl (fun w hs => RdI.at (RdE.keep hrow hs.chg0) (dig r.drifts.length c (j + 1)) hdr) ?_)
      (refine qf_ar tabOk rfl rfl rfl rfl (by omega) (by omega) ?_; refine qf_pure tabOk rfl rfl rfl ?_; refine qf_nil ?_; refine q_blk ?_; refine q_region ?_; refine ql_pure tabOk rfl rfl ?_; refine ql_ar tabOk rfl rfl rfl rfl (by omega) (by omega) ?_; refine ql_pure tabOk rfl rfl ?_; refine q_nil ?_)
      exact hK (j + 1 + 1) _ _ (by omega) (by omega) ⟨rfl, rfl, rfl, rfl, by rw [hw]; rfl, rfl, trivial⟩ (by repeat (first | exact Sp.nil | exact Sp.refl _ | refine Sp.cons (by repeat constructor) ?_))
  · obtain rfl : k = 5 := by omega
    have hal := digP_length r.drifts.length c 5
    clear hK
    generalize digP r.drifts.length c 5 = l at hal ⊢
    (refine q_exit _ rfl ?_; refine q_seq ?_; refine q_region ?_)
    refine ql_loadAB (us := ints l) tabOk rfl rfl rfl (by repeat first | exact .head _ | refine .tail _ ?_) (by rw [List.drop_zero]; exact List.take_of_length_le (by simp [hal])) (by simp [hal]) ?_
    (refine ql_pure tabOk rfl rfl ?_)
    refine ql_setA tabOk rfl rfl rfl (by simp [hal]) (by simp [oneV]) (by repeat constructor) (by simp) ?_
    (refine ql_pure tabOk rfl rfl ?_; refine q_nil ?_; refine q_ret ?_)
    refine q_fin (vs := [.agg (ints l).toArray, .int .i64 (crW r c 5)]) tabOk rfl (RVs.cellA rfl rfl (by repeat first | exact .head _ | refine .tail _ ?_) (by simp [hal]) (.tmp rfl .nil)) fun w hs => ?_
    exact ⟨rfl, hs.chg0⟩

theorem courses_ca (w : World) (cs : List Value) (r : Rg) (h : RgC w cs r) (hr : r.Right) :
    Ca Try.prog 117 [.agg cs.toArray] w fun v w' => v = .int .i64 ((r.drifts.length ^ 5 : Nat) : Int) ∧ Chg [] w w' := by
  obtain ⟨lo, hi, ag, cg, ad, cd, af, cf, an, cn, rfl, hg, hdr, hf, hn⟩ := h
  have hd1 := hr.d1
  have hd2 := hr.d2
  refine q_of (Sat.nil w M0) Try.func117 rfl (by simp [Try.ntmps117]) ?_
  (refine q_seq ?_; refine q_region ?_)
  refine ql_box rfl rfl (fun b1 => ?_)
  (refine ql_pure tabOk rfl rfl ?_; refine q_nil ?_; refine q_seq ?_; refine q_region ?_; refine ql_pure tabOk rfl rfl ?_; refine q_nil ?_; (iterate 2 refine q_seq ?_); refine q_region ?_; refine ql_pure tabOk rfl rfl ?_; refine q_nil ?_; refine q_block ?_)
  refine q_loop (σ := Nat) (fun k => k ≤ 5) (fun k => 5 - k) (fun k => [(1, .pointer (some ⟨b1, 0, none⟩)), (3, .int .i64 ((r.drifts.length ^ k : Nat) : Int)), (4, .int .i64 k)])
    (fun k => [.pt b1 [.int .i64 r.radius, .int .i64 r.unit, .int .i64 r.clicks, .int .i64 r.total, .slice ag r.group.length cg, .slice ad r.drifts.length cd, .slice af r.first.length cf, .slice an r.next.length cn] 32]) 0 (by omega) ⟨rfl, rfl, rfl, trivial⟩ (Sp.refl _) ?_
  intro k hk K hK
  ((iterate 2 refine q_seq ?_); refine q_region ?_; (iterate 2 refine ql_pure tabOk rfl rfl ?_); refine q_nil ?_)
  refine q_if rfl (fun hc => ?_) (fun hc => ?_)
  · have hk5 : k < 5 := by omega
    clear hc
    have h1 : r.drifts.length ^ (k + 1) ≤ 3125 := by
      have a := Nat.pow_le_pow_left hd2 (k + 1)
      have b : 5 ^ (k + 1) ≤ 5 ^ 5 := Nat.pow_le_pow_right (by omega) (by omega)
      have c : 5 ^ 5 = 3125 := by decide
      omega
    have h2 : ((r.drifts.length ^ k : Nat) : Int) * (r.drifts.length : Int) = ((r.drifts.length ^ (k + 1) : Nat) : Int) := by rw [Nat.pow_succ, Int.natCast_mul]
    (refine q_skip ?_; refine q_seq ?_; refine q_block ?_; refine q_region ?_; (iterate 2 refine ql_pure tabOk rfl rfl ?_); refine ql_loadB tabOk rfl rfl rfl (by repeat first | exact .head _ | refine .tail _ ?_) (by rfl) ?_; refine ql_pure tabOk rfl rfl ?_; refine ql_ar tabOk rfl rfl rfl rfl (by omega) (by omega) ?_; refine ql_pure tabOk rfl rfl ?_; refine q_nil ?_; refine q_blk ?_; refine q_region ?_; refine ql_pure tabOk rfl rfl ?_; refine ql_ar tabOk rfl rfl rfl rfl (by omega) (by omega) ?_; refine ql_pure tabOk rfl rfl ?_; refine q_nil ?_)
    exact hK (k + 1) _ _ (by omega) (by omega) ⟨rfl, by rw [← h2]; rfl, rfl, trivial⟩ (by repeat (first | exact Sp.nil | exact Sp.refl _ | refine Sp.cons (by repeat constructor) ?_))
  · obtain rfl : k = 5 := by omega
    (refine q_exit _ rfl ?_; refine q_seq ?_; refine q_region ?_; (iterate 2 refine ql_pure tabOk rfl rfl ?_); refine q_nil ?_; refine q_ret ?_)
    refine q_fin tabOk rfl (by repeat (first | exact RVs.nil | apply RVs.tmp rfl | apply RVs.cellA rfl rfl (by repeat first | exact .head _ | refine .tail _ ?_) (by rfl) | apply RVs.cell1 rfl rfl (by repeat first | exact .head _ | refine .tail _ ?_))) fun w hs => ?_
    exact ⟨rfl, hs.chg0⟩
end Go.Proofs.Ytohlillcaadidaa

/- Walks of the reference: misses to be expected. -/
namespace Go.Proofs.Ytohlillcaadidaa
open Go Go.Eng

/-- The misses of a course, at the first shots. -/
def crM (r : Rg) (click : Int) (c i : Nat) : Int := sumR (fun i => missS r (r.drifts.getD (dig r.drifts.length c i) 0) click) i
/-- The misses of the first courses. -/
def crE (r : Rg) (click : Int) (c : Nat) : Int := sumR (fun c => crW r c 5 * crM r click c 5) c
theorem crM_bd {r : Rg} (hr : r.Right) (click : Int) (c i : Nat) : 0 ≤ crM r click c i ∧ crM r click c i ≤ 100 * i := by
  refine sumR_bd _ 100 i (fun j _ => ?_)
  have := missS_bd r hr (r.drifts.getD (dig r.drifts.length c j) 0) click
  have := hr.gsum
  omega
theorem crE_bd {r : Rg} (hr : r.Right) (click : Int) (c : Nat) : 0 ≤ crE r click c ∧ crE r click c ≤ 124416000 * c := by
  refine sumR_bd _ 124416000 c (fun j _ => ?_)
  exact mul_bd0 (crW5 hr j 5 (by omega)) (B := 500) (by have := crM_bd hr click j 5; omega)
theorem crE_all {r : Rg} (hr : r.Right) (click : Int) : crE r click (r.drifts.length ^ 5) = (expP r click 5).1 := by
  rw [← miss_sum hr click]
  unfold crE crS crM
  exact (sumR_congr _ _ _ (fun c _ => (sumR_mul _ _ _).symm)).trans (sumR_swap2 (fun c i => crW r c 5 * missS r (r.drifts.getD (dig r.drifts.length c i) 0) click) 5 _)
theorem rexpected_ca (w : World) (cs : List Value) (r : Rg) (click : Int) (h : RgC w cs r) (hr : r.Right) (hck : -1000 ≤ click ∧ click ≤ 1000) :
    Ca Try.prog 123 [.agg cs.toArray, .int .i64 click] w fun v w' => v = rtV (expV r click) ∧ Chg [] w w' := by
  have h0 := h
  obtain ⟨lo, hi, ag, cg, ad, cd, af, cf, an, cn, rfl, hg, hdr, hf, hn⟩ := h
  obtain ⟨_, _, hsl, hsd⟩ := RdI.outI hdr
  cases hsl
  have hd1 := hr.d1
  have hd2 := hr.d2
  have hp5 := pow5 hr
  have hg2 := hr.g2
  refine q_of (Sat.nil w M0) Try.func123 rfl (by simp [Try.ntmps123]) ?_
  (refine q_seq ?_; refine q_region ?_)
  refine ql_box rfl rfl (fun b2 => ?_)
  refine ql_alloc zero42 rfl (fun b4 => ?_)
  (refine q_nil ?_; refine q_seq ?_; refine q_region ?_; refine ql_pure tabOk rfl rfl ?_; refine q_nil ?_; (iterate 2 refine q_seq ?_); refine q_region ?_; refine ql_pure tabOk rfl rfl ?_; refine q_nil ?_; refine q_block ?_)
  refine q_loop (σ := Nat) (fun c => c ≤ r.drifts.length ^ 5) (fun c => r.drifts.length ^ 5 - c) (fun c => [(1, .int .i64 click), (2, .pointer (some ⟨b2, 0, none⟩)), (4, .pointer (some ⟨b4, 0, none⟩)), (5, .int .i64 (crE r click c)), (6, .int .i64 c)])
    (fun c => [.pt b4 [.int .i64 0, .int .i64 0] 42, .pt b2 [.int .i64 r.radius, .int .i64 r.unit, .int .i64 r.clicks, .int .i64 r.total, .slice ag r.group.length cg, .slice ad r.drifts.length cd, .slice af r.first.length cf, .slice an r.next.length cn] 32]) 0 (by omega) ⟨rfl, rfl, rfl, rfl, rfl, trivial⟩ (by repeat (first | exact Sp.nil | exact Sp.refl _ | refine Sp.cons (by repeat constructor) ?_)) ?_
  intro c hc5 K hK
  have hE := crE_bd hr click c
  ((iterate 2 refine q_seq ?_); refine q_region ?_; refine ql_pure tabOk rfl rfl ?_; refine ql_loadAB tabOk rfl rfl rfl (by repeat first | exact .head _ | refine .tail _ ?_) (by rfl) (by rfl) ?_)
  refine ql_callv (val := .int .i64 ((r.drifts.length ^ 5 : Nat) : Int)) tabOk rfl rfl rfl rfl (fun w hs => ?_) ?_; exact courses_ca w _ r (h0.keep hs.chg0) hr
  (refine ql_pure tabOk rfl rfl ?_; refine q_nil ?_)
  refine q_if rfl (fun hc => ?_) (fun hc => ?_)
  · have hcl : c < r.drifts.length ^ 5 := by omega
    clear hc
    have hE1 : crE r click (c + 1) = crE r click c + crW r c 5 * crM r click c 5 := rfl
    have hW := crW5 hr c 5 (by omega)
    (refine q_skip ?_; refine q_seq ?_; refine q_block ?_; refine q_seq ?_; refine q_region ?_; refine ql_loadAB tabOk rfl rfl rfl (by repeat first | exact .head _ | refine .tail _ ?_) (by rfl) (by rfl) ?_; refine ql_pure tabOk rfl rfl ?_)
    refine ql_callv (val := .tuple #[.agg (ints (digP r.drifts.length c 5)).toArray, .int .i64 (crW r c 5)]) tabOk rfl rfl rfl rfl (fun w hs => ?_) ?_; exact course_ca w _ r c (h0.keep hs.chg0) hr hcl
    have hal := digP_length r.drifts.length c 5
    have hdA := digP_at r.drifts.length c 5
    generalize digP r.drifts.length c 5 = dl at hal hdA ⊢
    (refine ql_pure tabOk rfl rfl ?_; (iterate 2 refine ql_ext tabOk rfl rfl rfl ?_))
    refine ql_alloc zero167 rfl (fun b7 => ?_)
    refine ql_setA (us := ints dl) tabOk rfl rfl rfl (by simp [hal]) (by simp [oneV]) (by repeat constructor) (by rfl) ?_
    (refine ql_pure tabOk rfl rfl ?_; refine q_nil ?_; refine q_seq ?_; refine q_region ?_; refine ql_pure tabOk rfl rfl ?_; refine q_nil ?_; refine q_block ?_)
    refine q_loop (σ := Nat) (fun i => i ≤ 5) (fun i => 5 - i) (fun i => [(1, .int .i64 click), (2, .pointer (some ⟨b2, 0, none⟩)), (4, .pointer (some ⟨b4, 0, none⟩)), (5, .int .i64 (crE r click c + crW r c 5 * crM r click c i)), (6, .int .i64 c), (7, .pointer (some ⟨b7, 0, none⟩)), (8, .int .i64 (crW r c 5)), (9, .int .i64 i)])
      (fun i => [.pt b7 (ints dl) 167, .pt b4 [.int .i64 0, .int .i64 0] 42, .pt b2 [.int .i64 r.radius, .int .i64 r.unit, .int .i64 r.clicks, .int .i64 r.total, .slice ag r.group.length cg, .slice ad r.drifts.length cd, .slice af r.first.length cf, .slice an r.next.length cn] 32]) 0 (by omega) ⟨rfl, rfl, rfl, by simp [crM, sumR]; rfl, rfl, rfl, rfl, rfl, trivial⟩ (by repeat (first | exact Sp.nil | exact Sp.refl _ | refine Sp.cons (by repeat constructor) ?_)) ?_
    intro i hi K2 hK2
    ((iterate 2 refine q_seq ?_); refine q_region ?_; (iterate 3 refine ql_pure tabOk rfl rfl ?_))
    refine ql_split rfl rfl (fun hc => ?_) (fun hc => ?_)
    · have hi5 : i < 5 := by simp at hc; omega
      clear hc
      (refine ql_gyes rfl ?_; refine ql_pure tabOk rfl rfl ?_; refine ql_gyes rfl ?_; (iterate 2 refine ql_pure tabOk rfl rfl ?_); refine q_nil ?_)
      refine q_if rfl (fun hc => ?_) (fun hc => ?_)
      · have hw0 : 0 < crW r c 5 := hc
        clear hc
        have hil : i < dl.length := by omega
        have hdl := dig_lt (n := r.drifts.length) (by omega) c i
        obtain ⟨bd, off, rfl⟩ := hsd (by omega)
        have hdb := hr.drift r.drifts[dig r.drifts.length c i] (List.getElem_mem hdl)
        have hM0 := mul_bd0 hW (B := 500) (show 0 ≤ crM r click c i ∧ crM r click c i ≤ 500 by have := crM_bd hr click c i; omega)
        have hM1 := mul_bd0 hW (B := 100) (show 0 ≤ missS r r.drifts[dig r.drifts.length c i] click ∧ missS r r.drifts[dig r.drifts.length c i] click ≤ 100 by have := missS_bd r hr r.drifts[dig r.drifts.length c i] click; have := hr.gsum; omega)
        have hstep : crW r c 5 * crM r click c (i + 1) = crW r c 5 * crM r click c i + crW r c 5 * missS r r.drifts[dig r.drifts.length c i] click := by
          rw [crM, sumR, Int.mul_add]
          simp [crM, List.getD_eq_getElem?_getD, hdl]
        (refine q_skip ?_; refine q_seq ?_; refine q_block ?_)
        refine q_draw _ [] (Sp.refl _) (by kernel_rfl) (by kernel_rfl) ?_
        ((iterate 2 refine qf_pure tabOk rfl rfl rfl ?_); refine qf_loadAB tabOk rfl rfl rfl (by repeat first | exact .head _ | refine .tail _ ?_) (by rfl) (by rfl) ?_; refine qf_pure tabOk rfl rfl rfl ?_; refine qf_loadB tabOk rfl rfl rfl (by repeat first | exact .head _ | refine .tail _ ?_) (by rfl) ?_; refine qf_pure tabOk rfl rfl rfl ?_)
        refine qf_indexA d5_arr rfl rfl rfl (by omega) (by omega) ?_
        refine qf_loadI tabOk (i) rfl rfl rfl (by repeat first | exact .head _ | refine .tail _ ?_) (by first | rfl | omega | simp) hil ?_
        rw [hdA i (by omega)]
        skip
        (refine qf_index tabOk rfl rfl rfl rfl rfl (by omega) (by omega) ?_; refine qf_load1 tabOk rfl rfl rfl (fun w hs => RdI.at (RdE.keep hdr hs.chg0) (dig r.drifts.length c i) hdl) ?_)
        (refine qf_pure tabOk rfl rfl rfl ?_)
        refine qf_callv (val := .int .i64 (missS r r.drifts[dig r.drifts.length c i] click)) tabOk rfl rfl rfl rfl (fun w hs => ?_) ?_; exact misses_ca w _ r _ click (h0.keep hs.chg0) hr (by omega) (by omega)
        ((iterate 2 refine qf_ar tabOk rfl rfl rfl rfl (by omega) (by omega) ?_); refine qf_pure tabOk rfl rfl rfl ?_; refine qf_nil ?_; refine q_blk ?_; refine q_region ?_; refine ql_pure tabOk rfl rfl ?_; refine ql_ar tabOk rfl rfl rfl rfl (by omega) (by omega) ?_; refine ql_pure tabOk rfl rfl ?_; refine q_nil ?_)
        exact hK2 (i + 1) _ _ (by omega) (by omega) ⟨rfl, rfl, rfl, by rw [hstep, ← Int.add_assoc]; rfl, rfl, rfl, rfl, rfl, trivial⟩ (by repeat (first | exact Sp.nil | exact Sp.refl _ | refine Sp.cons (by repeat constructor) ?_))
      · have hw0 : crW r c 5 = 0 := by omega
        clear hc hK2
        rw [hw0] at hE1 ⊢
        rw [Int.zero_mul, Int.add_zero] at hE1 ⊢
        (refine q_exit _ rfl ?_; refine q_blk ?_; refine q_region ?_; refine ql_pure tabOk rfl rfl ?_; refine ql_ar tabOk rfl rfl rfl rfl (by omega) (by omega) ?_; refine ql_pure tabOk rfl rfl ?_; refine q_nil ?_)
        exact hK (c + 1) _ _ (by omega) (by omega) ⟨rfl, rfl, rfl, by rw [hE1]; rfl, rfl, trivial⟩ (by repeat (first | exact Sp.nil | exact Sp.refl _ | refine Sp.cons (by repeat constructor) ?_))
    · obtain rfl : i = 5 := by simp at hc; omega
      clear hc hK2
      rw [← hE1]
      ((iterate 2 refine ql_gno rfl rfl rfl ?_); refine ql_pure tabOk rfl rfl ?_; refine q_nil ?_; refine q_cond_false rfl ?_; refine q_exit _ rfl ?_; refine q_blk ?_; refine q_region ?_; refine ql_pure tabOk rfl rfl ?_; refine ql_ar tabOk rfl rfl rfl rfl (by omega) (by omega) ?_; refine ql_pure tabOk rfl rfl ?_; refine q_nil ?_)
      exact hK (c + 1) _ _ (by omega) (by omega) ⟨rfl, rfl, rfl, rfl, rfl, trivial⟩ (by repeat (first | exact Sp.nil | exact Sp.refl _ | refine Sp.cons (by repeat constructor) ?_))
  · obtain rfl : c = r.drifts.length ^ 5 := by omega
    clear hc hK
    have hEa := crE_all hr click
    have ht := tot8 r hr 5 (by omega)
    have hgs := hr.gsum
    have hmul := mul_bd0 (A := 429981696) (B := 100) ⟨by omega, ht.2⟩ (show 0 ≤ r.group.sum ∧ r.group.sum ≤ 100 by omega)
    have hpos := Int.mul_pos (show 0 < r.total ^ 5 by omega) (show 0 < r.group.sum by omega)
    rw [hEa] at hE ⊢
    (refine q_exit _ rfl ?_; refine q_seq ?_)
    refine q_draw _ [.pt b4 _ _] (Sp.cons (by repeat constructor) (Sp.refl _)) (by kernel_rfl) (by kernel_rfl) ?_
    (refine qf_pure tabOk rfl rfl rfl ?_; refine qf_loadAB tabOk rfl rfl rfl (by repeat first | exact .head _ | refine .tail _ ?_) (by rfl) (by rfl) ?_)
    refine qf_callv (val := .int .i64 (r.total ^ 5)) tabOk rfl rfl rfl rfl (fun w hs => ?_) ?_; exact power_ca w _ r 5 (h0.keep hs.chg0) hr (by omega)
    (refine qf_pure tabOk rfl rfl rfl ?_; refine qf_loadB tabOk rfl rfl rfl (by repeat first | exact .head _ | refine .tail _ ?_) (by rfl) ?_)
    refine qf_callv (val := .int .i64 r.group.sum) tabOk rfl rfl rfl rfl (fun w hs => ?_) ?_; exact rtotal_ca w lo hi _ r.group (RdE.keep hg hs.chg0) (by omega) (fun x hx => by have := hr.weight x hx; omega)
    (refine qf_ar tabOk rfl rfl rfl rfl (by omega) (by omega) ?_)
    refine qf_callv (val := rtV (expV r click)) tabOk rfl rfl rfl rfl (fun w hs => ?_) ?_; exact lowest_ca (expP r click 5).1 (r.total ^ 5 * r.group.sum) w (by omega) (by omega) (by omega) (by omega)
    (refine qf_setA tabOk rfl rfl rfl rfl rfl (by repeat constructor) rfl ?_; refine qf_nil ?_; refine q_ret ?_)
    refine q_fin tabOk rfl (by repeat (first | exact RVs.nil | apply RVs.tmp rfl | apply RVs.cellA rfl rfl (by repeat first | exact .head _ | refine .tail _ ?_) (by rfl) | apply RVs.cell1 rfl rfl (by repeat first | exact .head _ | refine .tail _ ?_))) fun w hs => ?_
    exact ⟨rfl, hs.chg0⟩
end Go.Proofs.Ytohlillcaadidaa

/- The engine, part B14: a subtree of orders walked once for all the ways that lead there. -/
namespace Go.Eng
open Go Go.RowKit

section
variable {P : Program} {ro : Cx} {n : Nat} {F : Fin} {w0 : World} {M : Nat → Prop} {k : List It} {ops : Array Oper} {e : Env} {H Hq : List Ck}
theorem qt_let {σ : Type} (t : OT) {t0 : OT} (env : σ → Env) (pc : σ → List Ck) (main : ∀ s, QT P ro n F w0 M k ops Hq t (env s) (pc s))
    (use : (∀ s e' H', Sub (env s) e' → Sp H' (pc s) → QT P ro n F w0 M k ops Hq t e' H') → QT P ro n F w0 M k ops Hq t0 e H) : QT P ro n F w0 M k ops Hq t0 e H :=
  use (fun s _ _ he hH => ⟨fun w hs a hf hd => (main s).h w (hs.sp (Sp.app hH Hq)) a (hf.sub he) hd⟩)
end
end Go.Eng

/- The engine, part B15: comparisons that are decided at once. -/
namespace Go.Eng
open Go Go.RowKit

section
variable {P : Program} {T : Tab} {ro : Cx} {n : Nat} {F : Fin} {w0 : World} {M : Nat → Prop} {k : List It} {ops : Array Oper} {rest : List Oper} {e : Env} {H Hq : List Ck}
theorem bin_eqlT {a b : Int} (h : a = b) : binV .eql .i64 a b = some (.bool true) := by simp [binV]; omega
theorem ql_eqlT (hT : T.Ok P) {d : Nat} {t t' : Nat} {x y : Operand} {a b : Int} {ty : TypeId} {pos : String} {af : Array Edge} (hx : opv e x = some (.int .i64 a)) (hy : opv e y = some (.int .i64 b)) (hd : Nat.blt d n = true) (hp : a = b)
    (h : QL P ro n F w0 M k ops rest ((d, .bool true) :: e) H) : QL P ro n F w0 M k ops (⟨some d, .binOp .eql t x y t', ty, pos, af, none⟩ :: rest) e H := ql_pure hT ((evp_arith hx hy).trans (bin_eqlT hp)) hd h
theorem bin_neqT {a b : Int} (h : a ≠ b) : binV .neq .i64 a b = some (.bool true) := by simp [binV]; omega
theorem ql_neqT (hT : T.Ok P) {d : Nat} {t t' : Nat} {x y : Operand} {a b : Int} {ty : TypeId} {pos : String} {af : Array Edge} (hx : opv e x = some (.int .i64 a)) (hy : opv e y = some (.int .i64 b)) (hd : Nat.blt d n = true) (hp : a ≠ b)
    (h : QL P ro n F w0 M k ops rest ((d, .bool true) :: e) H) : QL P ro n F w0 M k ops (⟨some d, .binOp .neq t x y t', ty, pos, af, none⟩ :: rest) e H := ql_pure hT ((evp_arith hx hy).trans (bin_neqT hp)) hd h
theorem bin_neqF {a b : Int} (h : a = b) : binV .neq .i64 a b = some (.bool false) := by simp [binV]; omega
theorem ql_neqF (hT : T.Ok P) {d : Nat} {t t' : Nat} {x y : Operand} {a b : Int} {ty : TypeId} {pos : String} {af : Array Edge} (hx : opv e x = some (.int .i64 a)) (hy : opv e y = some (.int .i64 b)) (hd : Nat.blt d n = true) (hp : a = b)
    (h : QL P ro n F w0 M k ops rest ((d, .bool false) :: e) H) : QL P ro n F w0 M k ops (⟨some d, .binOp .neq t x y t', ty, pos, af, none⟩ :: rest) e H := ql_pure hT ((evp_arith hx hy).trans (bin_neqF hp)) hd h
theorem qf_neqF (hT : T.Ok P) {d : Nat} {t t' : Nat} {x y : Operand} {a b : Int} {ty : TypeId} {pos : String} {af : Array Edge} (hx : opv e x = some (.int .i64 a)) (hy : opv e y = some (.int .i64 b)) (hd : Nat.blt d n = true) (hp : a = b)
    (h : QF P ro n F w0 M k ops Hq rest ((d, .bool false) :: e) H) : QF P ro n F w0 M k ops Hq (⟨some d, .binOp .neq t x y t', ty, pos, af, none⟩ :: rest) e H := qf_pure hT ((evp_arith hx hy).trans (bin_neqF hp)) rfl hd h
end
end Go.Eng

/- Walks: the law's fractions. -/
namespace Go.Proofs.Ytohlillcaadidaa
open Go Go.Eng

end Go.Proofs.Ytohlillcaadidaa

/- Walks: lists of spans of our own; ranges of our own; rules and winds that are dealt; what impacts hit. -/
namespace Go.Proofs.Ytohlillcaadidaa
open Go Go.Eng

def spC (l : List (Int × Int)) : List Value := l.flatMap fun x => [.int .i64 x.1, .int .i64 x.2]
theorem cells_sp (l : List (Int × Int)) : cellsOf (l.map rtV) = spC l := by
  induction l with
  | nil => rfl
  | cons x l ih => simp only [List.map_cons, cellsOf, spC, List.flatMap_cons] at ih ⊢; rw [ih]; rfl
theorem Sat.rdSp {w0 w : World} {M : Nat → Prop} {H : List Ck} {v : Value} {l : List (Int × Int)} {t k : Nat} (h : Sat w0 M H w) (hc : Ck.ow v t 2 k (spC l) ∈ H) (hk : k = l.length) : RdS w 0 w.heap.size v l := by
  refine RdE.ofOwn (base := 0) (t := t) ?_ (fun e he => by obtain ⟨x, _, rfl⟩ := List.mem_map.1 he; rfl)
  rw [cells_sp, List.length_map, ← hk]
  exact h.all _ hc
theorem Blk.rdSp {w : World} {b : Nat} {x y : Int} {t : TypeId} (h : Blk w b [.int .i64 x, .int .i64 y] t) : Rd w b (b + 1) (.slice (some ⟨b, 0, none⟩) 1 1) 2 1 [.int .i64 x, .int .i64 y] :=
  ⟨rfl, .inr ⟨b, 0, 1, rfl, fun _ => ⟨Nat.le_refl _, Nat.lt_succ_self _, h.lt⟩, fun j _ => by rw [Blk.cell h]; simp⟩⟩

/-- The form of a range's cells. -/
def FormR (cs : List Value) (r : Rg) : Prop := ∃ ag cg ad cd af cf an cn, cs = [.int .i64 r.radius, .int .i64 r.unit, .int .i64 r.clicks, .int .i64 r.total, .slice ag r.group.length cg, .slice ad r.drifts.length cd, .slice af r.first.length cf, .slice an r.next.length cn]
theorem OwnR.form {L : List Ck} {cs : List Value} {r : Rg} {w0 w : World} {M : Nat → Prop} {H : List Ck} (h : OwnR L cs r) (hs : Sat w0 M H w) (hm : un L ∈ H) : FormR cs r := by
  obtain ⟨lo, hi, ag, cg, ad, cd, af, cf, an, cn, h1, _⟩ := h.at hs hm
  exact ⟨ag, cg, ad, cd, af, cf, an, cn, h1⟩
/-- Winds that were dealt. -/
def BlownW (ws : List (Int × Int)) : Prop := ws.length = 5 ∧ ∀ s ∈ ws, -15 ≤ s.1 ∧ s.1 ≤ 10 ∧ s.1 ≤ s.2 ∧ s.2 ≤ s.1 + 8
theorem BlownW.ok {ws : List (Int × Int)} (h : BlownW ws) : WindOk ws := ⟨h.1, fun s hs => by have := h.2 s hs; omega⟩
/-! What impacts hit. -/
def hitN (r : Rg) (l : List Int) (c : Int) (n : Nat) : Int := sumR (fun i => if hitB r (l.getD i 0 + c * r.unit) then 1 else 0) n
end Go.Proofs.Ytohlillcaadidaa

/- Walks: what right ranges answer; planned. -/
namespace Go.Proofs.Ytohlillcaadidaa
open Go Go.Eng

/-- The drifts of a range. -/
theorem RgC.dr {w : World} {r : Rg} {ag ad af an : Option Addr} {cg cd cf cn : Nat} (h : RgC w [.int .i64 r.radius, .int .i64 r.unit, .int .i64 r.clicks, .int .i64 r.total, .slice ag r.group.length cg, .slice ad r.drifts.length cd, .slice af r.first.length cf, .slice an r.next.length cn] r) :
    ∃ lo hi, RdI w lo hi (.slice ad r.drifts.length cd) r.drifts := by
  obtain ⟨lo, hi, ag', cg', ad', cd', af', cf', an', cn', he, _, h2, _⟩ := h
  simp only [List.cons.injEq, Value.slice.injEq] at he
  obtain ⟨_, _, _, _, _, ⟨rfl, _, rfl⟩, _⟩ := he
  exact ⟨lo, hi, h2⟩
end Go.Proofs.Ytohlillcaadidaa

/- Walks: Chances. -/
namespace Go.Proofs.Ytohlillcaadidaa
open Go Go.Eng

theorem Rd.narrow {w : World} {lo hi b off n c sz : Nat} {cs : List Value} (h : Rd w lo hi (.slice (some ⟨b, off, none⟩) n c) sz n cs) : Rd w b (b + 1) (.slice (some ⟨b, off, none⟩) n c) sz n cs := by
  obtain ⟨h1, h2⟩ := h
  refine ⟨h1, ?_⟩
  rcases h2 with ⟨_, h0⟩ | ⟨b', off', c', he, h3, h4⟩
  · exact .inl ⟨.inr ⟨_, _, by rw [h0]⟩, h0⟩
  · cases he
    exact .inr ⟨b, off, c, rfl, fun hp => ⟨Nat.le_refl _, Nat.lt_succ_self _, (h3 hp).2.2⟩, h4⟩
theorem RdI.narrow {w : World} {lo hi b off c : Nat} {l : List Int} (h : RdI w lo hi (.slice (some ⟨b, off, none⟩) l.length c) l) : RdI w b (b + 1) (.slice (some ⟨b, off, none⟩) l.length c) l := RdI.of (Rd.narrow h.row)

theorem RgC.fr {w : World} {r : Rg} {ag ad af an : Option Addr} {cg cd cf cn : Nat} (h : RgC w [.int .i64 r.radius, .int .i64 r.unit, .int .i64 r.clicks, .int .i64 r.total, .slice ag r.group.length cg, .slice ad r.drifts.length cd, .slice af r.first.length cf, .slice an r.next.length cn] r) :
    ∃ lo hi, RdI w lo hi (.slice af r.first.length cf) r.first := by
  obtain ⟨lo, hi, ag', cg', ad', cd', af', cf', an', cn', he, _, _, h2, _⟩ := h
  simp only [List.cons.injEq, Value.slice.injEq] at he
  obtain ⟨_, _, _, _, _, _, ⟨rfl, _, rfl⟩, _⟩ := he
  exact ⟨lo, hi, h2⟩

set_option maxHeartbeats 1000000 in
theorem shots_it2 (w : World) (D : Nat → Prop) (b bd : Nat) (r : Rg) {cs : List Value} {bt : TypeId} (hdk : ∀ w', ChgP D w w' → Blk w' b cs bt ∧ RgC w' cs r) (hr : r.Right)
    {t1 : TypeId} (hbd : Blk w bd [.pointer (some ⟨b, 0, none⟩)] t1) (hDd : ¬ D bd) :
    ItOk Try.prog 143 [.pointer (some ⟨bd, 0, none⟩)] encS (shotL r) w D := by
  intro fv σ L I E s0 hI0 hLD hsat hcb
  obtain ⟨lo, hi, ag, cg, ad, cd, af, cf, an, cn, rfl, _, _, hf0, _⟩ := (hdk w (ChgP.refl _ _)).2
  have hfl := hr.first
  have hd1 := hr.d1
  have hd2 := hr.d2
  obtain ⟨_, _, hse, hsf⟩ := RdI.outI hf0
  cases hse
  obtain ⟨bf, of_, rfl⟩ := hsf (by omega)
  have hf : ∀ w', ChgP D w w' → RdI w' bf (bf + 1) (.slice (some ⟨bf, of_, none⟩) r.first.length cf) r.first := fun w' hc => by
    obtain ⟨lo', hi', h⟩ := (hdk w' hc).2.fr
    exact RdI.narrow h
  have hm : ∀ w', ChgP (DL (L s0)) w w' → ChgP D w w' := fun w' hc => ⟨hc.os, hc.tape, hc.output, hc.size, fun k hk hk2 => hc.block k hk (fun h => hk2 (hLD k h))⟩
  have hP1 : ∀ w', ChgP (DL (L s0)) w w' → Blk w' bd [.pointer (some ⟨b, 0, none⟩)] t1 := fun w' hc => (hc.block bd hbd.lt (fun h => hDd (hLD bd h))).trans hbd
  have hP3 : ∀ w', ChgP (DL (L s0)) w w' → Blk w' b _ bt := fun w' hc => (hdk w' (hm w' hc)).1
  have hblt : bf < w.heap.size := by
    obtain ⟨_, h⟩ := (hf w (ChgP.refl _ _)).row
    rcases h with ⟨_, h0⟩ | ⟨_, _, _, he, h3, _⟩
    · omega
    · cases he; exact (h3 (by omega)).2.2
  have htot := hr.total
  have hpow1 : some (Value.int .i64 r.total) = some (.int .i64 (r.total ^ (0 + 1))) := by rw [Int.pow_succ, Int.pow_zero, Int.one_mul]
  refine q_of (H := [un (L s0)]) (Sat.un1.2 hsat) Try.func143 rfl (by simp [Try.ntmps143]) ?_
  (refine q_seq ?_; refine q_region ?_)
  refine ql_alloc zero168 rfl (fun b3 => ?_)
  (refine q_nil ?_; refine q_seq ?_)
  refine q_draw _ [.pt b3 _ _] (Sp.cons (by repeat constructor) (Sp.refl _)) (by kernel_rfl) (by kernel_rfl) ?_
  refine qf_slA w_arr rfl rfl ?_
  (refine qf_loadG tabOk rfl rfl rfl (by assumption) (by rfl) ?_; (iterate 3 refine qf_pure tabOk rfl rfl rfl ?_); refine qf_loadG tabOk rfl rfl rfl (by assumption) (by rfl) ?_)
  refine qf_copyI (l := r.first) (L := List.replicate 5 0) u22 sz3 rfl rfl rfl (by repeat constructor) (by simp) (by omega) (by omega) rfl (fun w' hs => hf w' (hm w' hs.chg)) ?_
  (refine qf_nil ?_; refine q_seq ?_; refine q_region ?_; refine ql_loadG tabOk rfl rfl rfl (by assumption) (by rfl) ?_; (iterate 3 refine ql_pure tabOk rfl rfl ?_); refine ql_loadG tabOk rfl rfl rfl (by assumption) (by rfl) ?_; refine ql_pure tabOk rfl rfl ?_; refine q_nil ?_; refine q_seq ?_; refine q_region ?_; refine ql_pure tabOk rfl rfl ?_; refine q_nil ?_; refine q_block ?_)
  refine q_loop (σ := Nat × σ) (fun s => s.1 ≤ 5 ∧ I ((shotL r).take s.1) s.2) (fun s => 5 - s.1) (fun s => [(0, fv), (1, .pointer (some ⟨bd, 0, none⟩)), (3, .pointer (some ⟨b3, 0, none⟩)), (4, .int .i64 (r.total ^ (s.1 + 1))), (17, .int .i64 s.1)])
    (fun s => [.pt b3 (ints (wts r s.1)) 168, un (L s.2)]) (0, s0) ⟨by omega, hI0⟩ ⟨rfl, rfl, rfl, hpow1, rfl, trivial⟩ (by repeat (first | exact Sp.nil | exact Sp.refl _ | refine Sp.cons (by repeat constructor) ?_)) ?_
  rintro ⟨k, s⟩ ⟨hk, hI⟩ K hK
  simp only at hk hI
  have hwl := wts_length r hr k
  (refine q_seq ?_; refine q_region ?_; refine ql_pure tabOk rfl rfl ?_; refine q_nil ?_; refine q_seq ?_)
  refine q_if rfl (fun hc => ?_) (fun hc => ?_)
  · have hk5 : k < 5 := by simp only at hc; omega
    clear hc
    have htk := tot_bd6 r hr (k + 1) (by omega)
    have htk2 := tot_bd6 r hr (k + 2) (by omega)
    rw [Int.pow_succ] at htk2
    have hwb := wts_bd r hr k (by omega)
    have hp2 : some (Value.int .i64 (r.total ^ (k + 1) * r.total)) = some (.int .i64 (r.total ^ (k + 1 + 1))) := by rw [Int.pow_succ r.total (k + 1)]
    have hp3 : some (Value.int .i64 (IntKind.i64.wrap (r.total ^ (k + 1) * r.total))) = some (.int .i64 (r.total ^ (k + 1 + 1))) := by rw [Int.pow_succ r.total (k + 1), w64 (by omega) (by omega)]
    (refine q_skip ?_; refine q_seq ?_; refine q_block ?_; (iterate 2 refine q_seq ?_); refine q_region ?_; refine ql_pure tabOk rfl rfl ?_)
    refine ql_loadAB (us := ints (wts r k)) tabOk rfl rfl rfl (by repeat first | exact .head _ | refine .tail _ ?_) (by rw [List.drop_zero]; exact List.take_of_length_le (by simp [hwl])) (by simp [hwl]) ?_
    (refine ql_pure tabOk rfl rfl ?_)
    refine ql_callF [un (L s)] [.pt b3 (ints (wts r k)) 168] (DL (L s)) rfl rfl rfl (by repeat (first | exact Sp.nil | exact Sp.refl _ | refine Sp.cons (by repeat constructor) ?_)) (fun b hb => ⟨_, .head _, hb⟩) (yieldF hcb (shotL_split r k hk5) hI) ?_
    rintro s' v (⟨rfl, hI'⟩ | ⟨rfl, hE⟩)
    · (refine ql_pure tabOk rfl rfl ?_; refine q_nil ?_; refine q_cond_false rfl ?_; refine q_skip ?_)
      refine q_drawS 3 _ [.pt b3 _ _] (Sp.cons (by repeat constructor) (Sp.refl _)) (by kernel_rfl) (by kernel_rfl) (by kernel_rfl) fun K1 hK1 => ?_
      (refine qf_loadG tabOk rfl rfl rfl (by assumption) (by rfl) ?_)
      refine qf_loadAB (us := ints (wts r k)) tabOk rfl rfl rfl (by repeat first | exact .head _ | refine .tail _ ?_) (by rw [List.drop_zero]; exact List.take_of_length_le (by simp [hwl])) (by simp [hwl]) ?_
      refine qf_callv (val := .agg (ints (afterS r (wts r k))).toArray) tabOk rfl rfl rfl rfl (fun w hs => ?_) ?_; exact after_ca w b r (wts r k) ⟨_, _, hP3 w hs.chg, (hdk w (hm w hs.chg)).2⟩ hr hwl hwb
      (refine qf_nil ?_)
      refine hK1 _ _ [.pt b3 _ _] (Sp.cons (by repeat constructor) ((by repeat (first | exact Sp.nil | exact Sp.refl _ | refine Sp.cons (by repeat constructor) ?_)))) ?_
      (refine qf_pure tabOk rfl rfl rfl ?_; refine qf_loadG tabOk rfl rfl rfl (by assumption) (by rfl) ?_; (iterate 3 refine qf_pure tabOk rfl rfl rfl ?_); refine qf_loadG tabOk rfl rfl rfl (by assumption) (by rfl) ?_; refine qf_pure tabOk rfl rfl rfl ?_)
      refine qf_setA (us := ints (afterS r (wts r k))) tabOk rfl rfl rfl (by simp [afterS, afterP_length]) (by simp [oneV]) (by repeat constructor) (by simp [hwl]) ?_
      (refine qf_pure tabOk rfl rfl rfl ?_; refine qf_nil ?_; refine q_blk ?_; refine q_region ?_; refine ql_ar tabOk rfl rfl rfl rfl (by omega) (by omega) ?_; refine ql_pure tabOk rfl rfl ?_; refine q_nil ?_)
      exact hK (k + 1, s') _ _ ⟨by simp only; omega, by simp only; rw [shotL_take r k hk5]; exact hI'⟩ (by simp only; omega) ⟨rfl, rfl, rfl, by first | exact hp2 | exact hp3, rfl, trivial⟩ (by repeat (first | exact Sp.nil | exact Sp.refl _ | refine Sp.cons (by repeat constructor) ?_))
    · (refine ql_pure tabOk rfl rfl ?_; refine q_nil ?_; refine q_cond_true rfl ?_; refine q_ret ?_)
      refine q_fin tabOk rfl (by repeat (first | exact RVs.nil | apply RVs.tmp rfl | apply RVs.cellA rfl rfl (by repeat first | exact .head _ | refine .tail _ ?_) (by rfl) | apply RVs.cell1 rfl rfl (by repeat first | exact .head _ | refine .tail _ ?_))) fun w hs => ?_
      exact ⟨s', .inr hE, Sat.un1.1 (hs.sp (by repeat (first | exact Sp.nil | exact Sp.refl _ | refine Sp.cons (by repeat constructor) ?_)))⟩
  · obtain rfl : k = 5 := by simp only at hc; omega
    (refine q_exit _ rfl ?_)
    refine q_end tabOk rfl (by repeat (first | exact RVs.nil | apply RVs.tmp rfl | apply RVs.cellA rfl rfl (by repeat first | exact .head _ | refine .tail _ ?_) (by rfl) | apply RVs.cell1 rfl rfl (by repeat first | exact .head _ | refine .tail _ ?_))) fun w hs => ?_
    exact ⟨s, .inl (by rwa [List.take_of_length_le (by simp [shotL])] at hI), Sat.un1.1 (hs.sp (by repeat (first | exact Sp.nil | exact Sp.refl _ | refine Sp.cons (by repeat constructor) ?_)))⟩

/-! Chances -/
theorem slRR : SlT Try.prog 94 105 1 24 (.slice none 0 0) := ⟨by kernel_rfl, by kernel_rfl, by kernel_rfl, by decide⟩
theorem slR : SlT Try.prog 105 42 2 16 (.agg #[.int .i64 0, .int .i64 0]) := ⟨by kernel_rfl, by kernel_rfl, by kernel_rfl, by decide⟩
def rowX (r : Rg) (k : Nat) : List (Int × Int) := (List.range r.drifts.length).map (chX r k)
def chK (r : Rg) (vs : List Value) : List Ck := vs.zipIdx.map fun p => .ow p.1 42 2 r.drifts.length (spC (rowX r p.2))
theorem chK_snoc (r : Rg) (vs : List Value) (v : Value) : chK r (vs ++ [v]) = chK r vs ++ [.ow v 42 2 r.drifts.length (spC (rowX r vs.length))] := by
  simp [chK, List.zipIdx_append]
theorem rowX_succ (r : Rg) (k n : Nat) : spC ((List.range (n + 1)).map (chX r k)) = spC ((List.range n).map (chX r k)) ++ [.int .i64 (chX r k n).1, .int .i64 (chX r k n).2] := by
  simp [List.range_succ, spC]

set_option maxHeartbeats 2000000 in
theorem chances_r (w : World) (cs : List Value) (r : Rg) (h : RgC w cs r) (hsm : r.Small) (hR : r.Right) :
    Ca Try.prog 54 [.agg cs.toArray] w fun v w' => ∃ x : Value × List Value, (v = .tuple #[x.1, .int .i64 0] ∧ x.2.length = 5) ∧ Sat w M0 [un (chK r x.2), .ow x.1 105 1 5 x.2] w' := by
  have h0 := h
  have hck := (right_check r).2 hR
  have hd1 := hR.d1
  have hd2 := hR.d2
  obtain ⟨lo, hi, ag, cg, ad, cd, af, cf, an, cn, rfl, hg, hdr, hf, hn⟩ := h
  refine q_ofM (Sat.nil w M0) Try.func54 rfl (by simp [Try.ntmps54]) ?_
  (refine q_seq ?_; refine q_region ?_)
  refine ql_box rfl rfl (fun b1 => ?_)
  ((iterate 2 refine ql_pure tabOk rfl rfl ?_); refine q_nil ?_; refine q_seq ?_; refine q_region ?_; refine ql_loadAB tabOk rfl rfl rfl (by repeat first | exact .head _ | refine .tail _ ?_) (by rfl) (by rfl) ?_)
  refine ql_call (β := Nat) tabOk [] _ M0 rfl rfl rfl rfl (Sp.refl _) (fun _ h => h.elim) (fun w' hs => opened_ok w' _ r (h0.keep hs.chg0) hsm hck) ?_
  rintro bd _ rfl
  (refine ql_pure tabOk rfl rfl ?_; (iterate 2 refine ql_ext tabOk rfl rfl rfl ?_))
  refine ql_alloc zero123 rfl (fun b4 => ?_)
  (refine ql_set tabOk rfl rfl rfl rfl (by repeat constructor) ?_; refine ql_pure tabOk rfl rfl ?_; refine q_nil ?_; (iterate 2 refine q_seq ?_); refine q_region ?_; refine ql_pure tabOk rfl rfl ?_; refine ql_neqF tabOk rfl rfl rfl (by omega) ?_; refine q_nil ?_; refine q_cond_false rfl ?_; refine q_skip ?_; refine q_seq ?_; refine q_region ?_)
  refine ql_alloc zero94 rfl (fun b6 => ?_)
  (refine q_nil ?_; (iterate 2 refine q_seq ?_); refine q_region ?_; refine ql_loadB tabOk rfl rfl rfl (by repeat first | exact .head _ | refine .tail _ ?_) (by rfl) ?_)
  refine ql_call (β := Nat) tabOk [] _ M0 rfl rfl rfl rfl (Sp.refl _) (fun _ h => h.elim) (fun w' hs => shots_ca w' bd) ?_
  rintro bx _ rfl
  (refine q_nil ?_; refine q_block ?_)
  refine q_conv (H' := [un (chK r []), .ow (.slice none 0 0) 105 1 0 [], .pt b6 [.slice none 0 0] 94, .pt bx [.pointer (some ⟨bd, 0, none⟩)] 123, .pt b4 [.pointer (some ⟨bd, 0, none⟩)] 123, .pt bd [.int .i64 r.radius, .int .i64 r.unit, .int .i64 r.clicks, .int .i64 r.total, .slice ag r.group.length cg, .slice ad r.drifts.length cd, .slice af r.first.length cf, .slice an r.next.length cn] 149]) (fun w' hs => Sat.un_nil (Sat.ownil (hs.sp (by repeat (first | exact Sp.nil | exact Sp.refl _ | refine Sp.cons (by repeat constructor) ?_))) _ _)) ?_
  refine q_range encS (Value × List Value) (shotL r) (fun pre s => s.2.length = pre.length) (fun _ _ => False)
    (fun s => [un (chK r s.2), .ow s.1 105 1 s.2.length s.2, .pt b6 [s.1] 94]) [.pt bx [.pointer (some ⟨bd, 0, none⟩)] 123, .pt b4 [.pointer (some ⟨bd, 0, none⟩)] 123, .pt bd [.int .i64 r.radius, .int .i64 r.unit, .int .i64 r.clicks, .int .i64 r.total, .slice ag r.group.length cg, .slice ad r.drifts.length cd, .slice af r.first.length cf, .slice an r.next.length cn] 149] (.slice none 0 0, [])
    rfl (by kernel_rfl) rfl (fun _ _ => rfl) rfl (by repeat (first | exact Sp.nil | exact Sp.refl _ | refine Sp.cons (by repeat constructor) ?_)) ?_ ?_ ?_ (fun _ _ _ h => h.elim)
  · intro w1 D hs hD
    exact shots_it2 w1 D bd bx r (fun w' hc => ⟨(hc.block bd (hs.blk (b := bd) (by repeat first | exact .head _ | refine .tail _ ?_)).lt (fun h => (hD _ h).1 ⟨.pt bd _ _, (by repeat first | exact .head _ | refine .tail _ ?_), rfl⟩)).trans (hs.blk (b := bd) (by repeat first | exact .head _ | refine .tail _ ?_)), h0.keep (hs.chg0.old hc (fun k hk => (hD k hk).2.resolve_left (fun h => h)))⟩) hR (hs.blk (b := bx) (by repeat first | exact .head _ | refine .tail _ ?_)) (fun h => (hD _ h).1 ⟨.pt bx [.pointer (some ⟨bd, 0, none⟩)] _, (by repeat first | exact .head _ | refine .tail _ ?_), rfl⟩)
  · intro pre x post s w1 l rdy bsy K F' hx hI hsat hRR hbegin hend hret hexit
    obtain ⟨hk5, hpre, rfl⟩ := shotL_mem r hx
    generalize hkk : pre.length = kk at *
    obtain ⟨va, vs⟩ := s
    simp only at hI
    have hwl := wts_length r hR kk
    have hwb := wts_bd r hR kk (by omega)
    have htk := tot_bd6 r hR (kk + 1) (by omega)
    (refine q_seq ?_; refine q_region ?_)
    refine ql_alloc zero168 rfl (fun b7 => ?_)
    skip
    refine ql_setA (us := ints (wts r kk)) tabOk rfl rfl rfl (by simp [hwl]) (by simp [oneV]) (by repeat constructor) (by rfl) ?_
    (refine q_nil ?_; refine q_region ?_; refine ql_pure tabOk rfl rfl ?_; refine q_nil ?_)
    refine q_keep [(8, .int .i64 (r.total ^ (kk + 1))), (7, .pointer (some ⟨b7, 0, none⟩)), (6, .pointer (some ⟨b6, 0, none⟩)), (4, .pointer (some ⟨b4, 0, none⟩))] (rdy :: [.pt b7 (ints (wts r kk)) 168, un (chK r vs), .ow va 105 1 vs.length vs, .pt b6 [va] 94]) ⟨rfl, rfl, rfl, rfl, trivial⟩ (by repeat (first | exact Sp.nil | exact Sp.refl _ | refine Sp.cons (by repeat constructor) ?_)) (hbegin _ _ ?_)
    have hB4 : ∀ w', ChgP (DL (rdy :: [un (chK r vs), .ow va 105 1 vs.length vs, .pt b6 [va] 94])) w1 w' → Blk w' b4 [.pointer (some ⟨bd, 0, none⟩)] 123 := fun w' hc => (hRR w' hc).blk (by repeat first | exact .head _ | refine .tail _ ?_)
    have hPd : ∀ w', ChgP (DL (rdy :: [un (chK r vs), .ow va 105 1 vs.length vs, .pt b6 [va] 94])) w1 w' → Blk w' bd [.int .i64 r.radius, .int .i64 r.unit, .int .i64 r.clicks, .int .i64 r.total, .slice ag r.group.length cg, .slice ad r.drifts.length cd, .slice af r.first.length cf, .slice an r.next.length cn] 149 := fun w' hc => (hRR w' hc).blk (b := bd) (by repeat first | exact .head _ | refine .tail _ ?_)
    (refine q_block ?_; refine q_seq ?_; refine q_region ?_; refine ql_pure tabOk rfl rfl ?_; refine q_nil ?_; (iterate 2 refine q_seq ?_); refine q_region ?_; refine ql_loadG tabOk rfl rfl rfl (by assumption) (by rfl) ?_; (iterate 3 refine ql_pure tabOk rfl rfl ?_); refine ql_loadG tabOk rfl rfl rfl (by assumption) (by rfl) ?_; (iterate 2 refine ql_pure tabOk rfl rfl ?_); refine q_nil ?_; refine q_block ?_)
    refine q_conv (H' := [.ow (.slice none 0 0) 42 2 0 (spC ((List.range 0).map (chX r kk))), bsy, .pt b7 (ints (wts r kk)) 168, un (chK r vs), .ow va 105 1 vs.length vs, .pt b6 [va] 94]) (fun w' hs => Sat.ownil (hs.sp (by repeat (first | exact Sp.nil | exact Sp.refl _ | refine Sp.cons (by repeat constructor) ?_))) _ _) ?_
    refine q_loop (σ := Nat × Value) (fun s => s.1 ≤ r.drifts.length) (fun s => r.drifts.length - s.1) (fun s => [(29, .int .i64 s.1), (28, .int .i64 r.drifts.length), (9, s.2), (4, .pointer (some ⟨b4, 0, none⟩)), (6, .pointer (some ⟨b6, 0, none⟩)), (7, .pointer (some ⟨b7, 0, none⟩)), (8, .int .i64 (r.total ^ (kk + 1)))])
      (fun s => [.ow s.2 42 2 s.1 (spC ((List.range s.1).map (chX r kk))), bsy, .pt b7 (ints (wts r kk)) 168, un (chK r vs), .ow va 105 1 vs.length vs, .pt b6 [va] 94]) (0, .slice none 0 0) (by simp) ⟨rfl, rfl, rfl, rfl, rfl, rfl, rfl, trivial⟩ (Sp.refl _) ?_
    rintro ⟨j, vl⟩ hj K2 hK2
    simp only at hj
    dsimp only
    (refine q_seq ?_; refine q_region ?_; refine ql_pure tabOk rfl rfl ?_; refine q_nil ?_; refine q_seq ?_)
    refine q_if rfl (fun hc => ?_) (fun hc => ?_)
    · have hj2 : j < r.drifts.length := by omega
      clear hc
      have hjw : j < (wts r kk).length := by omega
      have hwx := hwb (wts r kk)[j] (List.getElem_mem hjw)
      have hcx : chX r kk j = ratioV (wts r kk)[j] (r.total ^ (kk + 1)) := by simp [chX, chW, List.getD_eq_getElem?_getD, hjw]
      (refine q_skip ?_; refine q_seq ?_; refine q_block ?_; refine q_seq ?_; refine q_region ?_; (iterate 2 refine ql_pure tabOk rfl rfl ?_); refine q_nil ?_; refine q_region ?_; (iterate 2 refine ql_pure tabOk rfl rfl ?_))
      refine ql_indexA w_arr rfl rfl rfl (by omega) (by omega) ?_
      refine ql_loadI tabOk (j) rfl rfl rfl (by repeat first | exact .head _ | refine .tail _ ?_) (by first | rfl | omega | simp) hjw ?_
      (refine ql_pure tabOk rfl rfl ?_)
      refine ql_callv (val := .agg #[.int .i64 (chX r kk j).1, .int .i64 (chX r kk j).2]) tabOk rfl rfl rfl rfl (fun w hs => ?_) ?_; exact by have := ratio_ca (wts r kk)[j] (r.total ^ (kk + 1)) w (by omega) (by omega) (by omega) (by omega); rw [← hcx] at this; exact this
      skip
      refine ql_mkS 42 [.int .i64 (chX r kk j).1, .int .i64 (chX r kk j).2] rfl (by kernel_rfl) rfl (fun bn => ?_)
      refine ql_append (q := 1) slR rfl rfl rfl (fun v' => by repeat constructor) (fun w' hs => ⟨_, _, Blk.rdSp (hs.blk (b := bn) (by repeat first | exact .head _ | refine .tail _ ?_))⟩) (by simp [oneV]) (by omega) (by omega) (fun vl' => ?_)
      (refine ql_pure tabOk rfl rfl ?_; refine q_nil ?_; refine q_blk ?_; refine q_region ?_; refine ql_ar tabOk rfl rfl rfl rfl (by omega) (by omega) ?_; refine ql_pure tabOk rfl rfl ?_; refine q_nil ?_)
      exact hK2 (j + 1, vl') _ _ (by simp only; omega) (by simp only; omega) ⟨rfl, rfl, rfl, rfl, rfl, rfl, rfl, trivial⟩ (by simp only [rowX_succ]; repeat (first | exact Sp.nil | exact Sp.refl _ | refine Sp.cons (by repeat constructor) ?_))
    · obtain rfl : j = r.drifts.length := by omega
      clear hc hK2
      refine q_fact (fun w hs => hs.slice2 (v := vl) (by repeat first | exact .head _ | refine .tail _ ?_)) ?_
      rintro ⟨al, cl, rfl⟩
      (refine q_exit _ rfl ?_; refine q_region ?_; refine ql_loadB tabOk rfl rfl rfl (by repeat first | exact .head _ | refine .tail _ ?_) (by rfl) ?_; refine ql_pure tabOk rfl rfl ?_)
      refine ql_mkS 105 [.slice al r.drifts.length cl] rfl (by kernel_rfl) rfl (fun bn => ?_)
      refine ql_append (q := 1) slRR rfl rfl rfl (fun v' => by repeat constructor) (fun w' hs => ⟨_, _, Blk.rd (hs.blk (b := bn) (by repeat first | exact .head _ | refine .tail _ ?_)) rfl 1⟩) (by simp [oneV]) (by omega) (by omega) (fun va' => ?_)
      refine ql_fact (fun w hs => hs.slice (v := va') (by repeat first | exact .head _ | refine .tail _ ?_)) ?_
      rintro ⟨a1, m1, c1, rfl⟩
      (refine ql_set tabOk rfl rfl rfl rfl (by repeat constructor) ?_; refine q_nil ?_; refine q_blk ?_)
      refine q_conv (H' := [bsy, un (chK r (vs ++ [.slice al r.drifts.length cl])), .ow (.slice a1 m1 c1) 105 1 (vs ++ [Value.slice al r.drifts.length cl]).length (vs ++ [.slice al r.drifts.length cl]), .pt b6 [.slice a1 m1 c1] 94]) (fun w' hs => by
        have h1 := Sat.sp (H' := [.ow (.slice al r.drifts.length cl) 42 2 r.drifts.length (spC (rowX r kk)), un (chK r vs), bsy, .ow (.slice a1 m1 c1) 105 1 (vs.length + 1) (vs ++ [.slice al r.drifts.length cl]), .pt b6 [.slice a1 m1 c1] 94]) hs (by repeat (first | exact Sp.nil | exact Sp.refl _ | refine Sp.cons (by repeat constructor) ?_))
        have hrk : rowX r kk = rowX r vs.length := by rw [hI]
        rw [hrk] at h1
        have h2 := h1.un_in.un_perm (L' := chK r (vs ++ [.slice al r.drifts.length cl])) (by rw [chK_snoc]; exact (List.perm_append_comm (l₁ := [_])))
        have e : (vs ++ [Value.slice al r.drifts.length cl]).length = vs.length + 1 := by simp
        rw [e]
        exact h2.sp (by repeat (first | exact Sp.nil | exact Sp.refl _ | refine Sp.cons (by repeat constructor) ?_))) ?_
      refine hend _ _ (.slice a1 m1 c1, vs ++ [.slice al r.drifts.length cl]) (by simp [hI, hkk]) (by repeat (first | exact Sp.nil | exact Sp.refl _ | refine Sp.cons (by repeat constructor) ?_))
  · rintro D ⟨va, vs⟩ hsx
    have h5 : vs.length = 5 := by simpa [shotL] using hsx
    dsimp only
    refine q_fact (fun w hs => hs.slice (v := va) (by repeat first | exact .head _ | refine .tail _ ?_)) ?_
    rintro ⟨a1, m1, c1, rfl⟩
    (refine q_blk ?_; refine q_seq ?_; refine q_region ?_; refine ql_loadB tabOk rfl rfl rfl (by repeat first | exact .head _ | refine .tail _ ?_) (by rfl) ?_; (iterate 2 refine ql_pure tabOk rfl rfl ?_); refine q_nil ?_; refine q_ret ?_)
    refine q_finMD tabOk (by repeat constructor) rfl (by repeat (first | exact RVs.nil | apply RVs.tmp rfl | apply RVs.cellA rfl rfl (by repeat first | exact .head _ | refine .tail _ ?_) (by rfl) | apply RVs.cell1 rfl rfl (by repeat first | exact .head _ | refine .tail _ ?_))) fun w hs => ?_
    refine ⟨(.slice a1 m1 c1, vs), ⟨rfl, h5⟩, ?_⟩
    rw [← h5]
    exact hs.sp (by repeat (first | exact Sp.nil | exact Sp.refl _ | refine Sp.cons (by repeat constructor) ?_))
end Go.Proofs.Ytohlillcaadidaa

/- Walks of the reference: chances, hits, the best click. -/
namespace Go.Proofs.Ytohlillcaadidaa
open Go Go.Eng

theorem rhit_ca (w : World) (cs : List Value) (r : Rg) (state click : Int) (h : RgC w cs r) (hsm : r.Small) :
    Ca Try.prog 58 [.agg cs.toArray, .int .i64 state, .int .i64 click] w fun v w' => v = .tuple #[rtV (hitV r state click).1, .int .i64 (hitV r state click).2] ∧ Chg [] w w' := by
  have h0 := h
  obtain ⟨lo, hi, ag, cg, ad, cd, af, cf, an, cn, rfl, hg, hdr, hf, hn⟩ := h
  obtain ⟨_, _, hsl, hsd⟩ := RdI.outI hdr
  cases hsl
  have hs2 := hsm.drifts
  refine q_of (Sat.nil w M0) Try.func58 rfl (by simp [Try.ntmps58]) ?_
  (refine q_seq ?_; refine q_region ?_)
  refine ql_box rfl rfl (fun b3 => ?_)
  refine ql_alloc zero42 rfl (fun b6 => ?_)
  (refine ql_pure tabOk rfl rfl ?_; refine q_nil ?_; (iterate 2 refine q_seq ?_); refine q_region ?_; refine ql_loadAB tabOk rfl rfl rfl (by repeat first | exact .head _ | refine .tail _ ?_) (by rfl) (by rfl) ?_)
  refine ql_callv (val := .int .i64 (checkV r)) tabOk rfl rfl rfl rfl (fun w hs => ?_) ?_; exact rcheck_ca w _ r (h0.keep hs.chg0) hsm
  (refine ql_pure tabOk rfl rfl ?_; refine q_nil ?_; refine q_seq ?_; refine q_region ?_; (iterate 2 refine ql_pure tabOk rfl rfl ?_); refine q_nil ?_)
  refine q_ifn rfl (fun hc => ?_) (fun hc => ?_)
  · (refine q_seq ?_; refine q_region ?_)
    refine ql_mk #[.int .i64 0, .int .i64 0] rfl (by kernel_rfl) rfl ?_
    (refine ql_pure tabOk rfl rfl ?_; refine ql_setA tabOk rfl rfl rfl rfl rfl (by repeat constructor) rfl ?_; refine ql_pure tabOk rfl rfl ?_; refine q_nil ?_; refine q_ret ?_)
    refine q_fin tabOk rfl (by repeat (first | exact RVs.nil | apply RVs.tmp rfl | apply RVs.cellA rfl rfl (by repeat first | exact .head _ | refine .tail _ ?_) (by rfl) | apply RVs.cell1 rfl rfl (by repeat first | exact .head _ | refine .tail _ ?_))) fun w hs => ?_
    exact ⟨by simp [retV, hitV, hc, rtV], hs.chg0⟩
  have hck : checkV r = 0 := by simpa using hc
  have hr := (right_check r).1 hck
  have hgs := hr.gsum
  have hg2 := hr.g2
  have hC := hr.clicks
  clear hc
  (refine q_skip ?_; (iterate 2 refine q_seq ?_); refine q_region ?_; (iterate 2 refine ql_pure tabOk rfl rfl ?_); refine ql_loadB tabOk rfl rfl rfl (by repeat first | exact .head _ | refine .tail _ ?_) (by rfl) ?_; refine ql_pure tabOk rfl rfl ?_; refine ql_ar tabOk rfl rfl rfl rfl (by omega) (by omega) ?_)
  refine ql_callv (val := .bool (!(inB state 0 ((r.drifts.length : Int) - 1)))) tabOk rfl rfl rfl rfl (fun w hs => ?_) ?_; exact off_ca state 0 ((r.drifts.length : Int) - 1) w
  (refine q_nil ?_)
  cases c1 : inB state 0 ((r.drifts.length : Int) - 1) with
  | false =>
    (refine q_cond_true rfl ?_; refine q_seq ?_; refine q_region ?_)
    refine ql_mk #[.int .i64 0, .int .i64 0] rfl (by kernel_rfl) rfl ?_
    (refine ql_setA tabOk rfl rfl rfl rfl rfl (by repeat constructor) rfl ?_; refine ql_pure tabOk rfl rfl ?_; refine q_nil ?_; refine q_ret ?_)
    refine q_fin tabOk rfl (by repeat (first | exact RVs.nil | apply RVs.tmp rfl | apply RVs.cellA rfl rfl (by repeat first | exact .head _ | refine .tail _ ?_) (by rfl) | apply RVs.cell1 rfl rfl (by repeat first | exact .head _ | refine .tail _ ?_))) fun w hs => ?_
    exact ⟨by simp [retV, hitV, hck, c1, rtV], hs.chg0⟩
  | true =>
  have hst := inB_iff.1 c1
  (refine q_cond_false rfl ?_; refine q_skip ?_; (iterate 2 refine q_seq ?_); refine q_region ?_; (iterate 2 refine ql_pure tabOk rfl rfl ?_); refine ql_loadB tabOk rfl rfl rfl (by repeat first | exact .head _ | refine .tail _ ?_) (by rfl) ?_; refine ql_neg tabOk rfl rfl (by omega) (by omega) ?_; refine ql_pure tabOk rfl rfl ?_; refine ql_loadB tabOk rfl rfl rfl (by repeat first | exact .head _ | refine .tail _ ?_) (by rfl) ?_)
  refine ql_callv (val := .bool (!(inB click (-r.clicks) r.clicks))) tabOk rfl rfl rfl rfl (fun w hs => ?_) ?_; exact off_ca click (-r.clicks) r.clicks w
  (refine q_nil ?_)
  cases c2 : inB click (-r.clicks) r.clicks with
  | false =>
    (refine q_cond_true rfl ?_; refine q_seq ?_; refine q_region ?_)
    refine ql_mk #[.int .i64 0, .int .i64 0] rfl (by kernel_rfl) rfl ?_
    (refine ql_setA tabOk rfl rfl rfl rfl rfl (by repeat constructor) rfl ?_; refine ql_pure tabOk rfl rfl ?_; refine q_nil ?_; refine q_ret ?_)
    refine q_fin tabOk rfl (by repeat (first | exact RVs.nil | apply RVs.tmp rfl | apply RVs.cellA rfl rfl (by repeat first | exact .head _ | refine .tail _ ?_) (by rfl) | apply RVs.cell1 rfl rfl (by repeat first | exact .head _ | refine .tail _ ?_))) fun w hs => ?_
    exact ⟨by simp [retV, hitV, hck, c1, c2, rtV], hs.chg0⟩
  | true =>
  have hcl := inB_iff.1 c2
  obtain ⟨st, rfl⟩ : ∃ st : Nat, state = st := ⟨state.toNat, by omega⟩
  have hsl : st < r.drifts.length := by omega
  obtain ⟨bd, off, rfl⟩ := hsd (by omega)
  have hdb := hr.drift r.drifts[st] (List.getElem_mem hsl)
  have hm := missS_bd r hr r.drifts[st] click
  (refine q_cond_false rfl ?_; refine q_skip ?_; refine q_seq ?_)
  refine q_draw _ [.pt b6 _ _] (Sp.cons (by repeat constructor) (Sp.refl _)) (by kernel_rfl) (by kernel_rfl) ?_
  (refine qf_pure tabOk rfl rfl rfl ?_; refine qf_loadB tabOk rfl rfl rfl (by repeat first | exact .head _ | refine .tail _ ?_) (by rfl) ?_)
  refine qf_callv (val := .int .i64 r.group.sum) tabOk rfl rfl rfl rfl (fun w hs => ?_) ?_; exact rtotal_ca w lo hi _ r.group (RdE.keep hg hs.chg0) (by omega) (fun x hx => by have := hr.weight x hx; omega)
  (refine qf_loadAB tabOk rfl rfl rfl (by repeat first | exact .head _ | refine .tail _ ?_) (by rfl) (by rfl) ?_; refine qf_pure tabOk rfl rfl rfl ?_; refine qf_loadB tabOk rfl rfl rfl (by repeat first | exact .head _ | refine .tail _ ?_) (by rfl) ?_; refine qf_pure tabOk rfl rfl rfl ?_)
  (refine qf_index tabOk rfl rfl rfl rfl rfl (by omega) (by omega) ?_; refine qf_load1 tabOk rfl rfl rfl (fun w hs => RdI.at (RdE.keep hdr hs.chg0) st hsl) ?_)
  (refine qf_pure tabOk rfl rfl rfl ?_)
  refine qf_callv (val := .int .i64 (missS r r.drifts[st] click)) tabOk rfl rfl rfl rfl (fun w hs => ?_) ?_; exact misses_ca w _ r _ click (h0.keep hs.chg0) hr (by omega) (by omega)
  (refine qf_ar tabOk rfl rfl rfl rfl (by omega) (by omega) ?_; refine qf_pure tabOk rfl rfl rfl ?_; refine qf_loadB tabOk rfl rfl rfl (by repeat first | exact .head _ | refine .tail _ ?_) (by rfl) ?_)
  refine qf_callv (val := .int .i64 r.group.sum) tabOk rfl rfl rfl rfl (fun w hs => ?_) ?_; exact rtotal_ca w lo hi _ r.group (RdE.keep hg hs.chg0) (by omega) (fun x hx => by have := hr.weight x hx; omega)
  skip
  refine qf_callv (val := rtV (ratioV (r.group.sum - missS r r.drifts[st] click) r.group.sum)) tabOk rfl rfl rfl rfl (fun w hs => ?_) ?_; exact lowest_ca (r.group.sum - missS r r.drifts[st] click) r.group.sum w (by omega) (by omega) (by omega) (by omega)
  (refine qf_setA tabOk rfl rfl rfl rfl rfl (by repeat constructor) rfl ?_; refine qf_pure tabOk rfl rfl rfl ?_; refine qf_nil ?_; refine q_ret ?_)
  refine q_fin tabOk rfl (by repeat (first | exact RVs.nil | apply RVs.tmp rfl | apply RVs.cellA rfl rfl (by repeat first | exact .head _ | refine .tail _ ?_) (by rfl) | apply RVs.cell1 rfl rfl (by repeat first | exact .head _ | refine .tail _ ?_))) fun w hs => ?_
  exact ⟨by simp [retV, hitV, hck, c1, c2, rtV, List.getD_eq_getElem?_getD, hsl], hs.chg0⟩

theorem rexpectedF_ca (w : World) (cs : List Value) (r : Rg) (click : Int) (h : RgC w cs r) (hsm : r.Small) : Ca Try.prog 59 [.agg cs.toArray, .int .i64 click] w fun v w' => v = .tuple #[rtV (expdV r click).1, .int .i64 (expdV r click).2] ∧ Chg [] w w' := by
  have h0 := h
  obtain ⟨lo, hi, ag, cg, ad, cd, af, cf, an, cn, rfl, hg, hdr, hf, hn⟩ := h
  refine q_of (Sat.nil w M0) Try.func59 rfl (by simp [Try.ntmps59]) ?_
  (refine q_seq ?_; refine q_region ?_)
  refine ql_box rfl rfl (fun b2 => ?_)
  refine ql_alloc zero42 rfl (fun b4 => ?_)
  (refine ql_pure tabOk rfl rfl ?_; refine q_nil ?_; (iterate 2 refine q_seq ?_); refine q_region ?_; refine ql_loadAB tabOk rfl rfl rfl (by repeat first | exact .head _ | refine .tail _ ?_) (by rfl) (by rfl) ?_)
  refine ql_callv (val := .int .i64 (checkV r)) tabOk rfl rfl rfl rfl (fun w hs => ?_) ?_; exact rcheck_ca w _ r (h0.keep hs.chg0) hsm
  (refine ql_pure tabOk rfl rfl ?_; refine q_nil ?_; refine q_seq ?_; refine q_region ?_; (iterate 2 refine ql_pure tabOk rfl rfl ?_); refine q_nil ?_)
  refine q_ifn rfl (fun hc => ?_) (fun hc => ?_)
  · (refine q_seq ?_; refine q_region ?_)
    refine ql_mk #[.int .i64 0, .int .i64 0] rfl (by kernel_rfl) rfl ?_
    (refine ql_pure tabOk rfl rfl ?_; refine ql_setA tabOk rfl rfl rfl rfl rfl (by repeat constructor) rfl ?_; refine ql_pure tabOk rfl rfl ?_; refine q_nil ?_; refine q_ret ?_)
    refine q_fin tabOk rfl (by repeat (first | exact RVs.nil | apply RVs.tmp rfl | apply RVs.cellA rfl rfl (by repeat first | exact .head _ | refine .tail _ ?_) (by rfl) | apply RVs.cell1 rfl rfl (by repeat first | exact .head _ | refine .tail _ ?_))) fun w hs => ?_
    exact ⟨by simp [retV, expdV, hc, rtV], hs.chg0⟩
  have hck : checkV r = 0 := by simpa using hc
  have hr := (right_check r).1 hck
  have hC := hr.clicks
  clear hc
  (refine q_skip ?_; (iterate 2 refine q_seq ?_); refine q_region ?_; (iterate 2 refine ql_pure tabOk rfl rfl ?_); refine ql_loadB tabOk rfl rfl rfl (by repeat first | exact .head _ | refine .tail _ ?_) (by rfl) ?_; refine ql_neg tabOk rfl rfl (by omega) (by omega) ?_; refine ql_pure tabOk rfl rfl ?_; refine ql_loadB tabOk rfl rfl rfl (by repeat first | exact .head _ | refine .tail _ ?_) (by rfl) ?_)
  refine ql_callv (val := .bool (!(inB click (-r.clicks) r.clicks))) tabOk rfl rfl rfl rfl (fun w hs => ?_) ?_; exact off_ca click (-r.clicks) r.clicks w
  (refine q_nil ?_)
  cases c2 : inB click (-r.clicks) r.clicks with
  | false =>
    (refine q_cond_true rfl ?_; refine q_seq ?_; refine q_region ?_)
    refine ql_mk #[.int .i64 0, .int .i64 0] rfl (by kernel_rfl) rfl ?_
    (refine ql_setA tabOk rfl rfl rfl rfl rfl (by repeat constructor) rfl ?_; refine ql_pure tabOk rfl rfl ?_; refine q_nil ?_; refine q_ret ?_)
    refine q_fin tabOk rfl (by repeat (first | exact RVs.nil | apply RVs.tmp rfl | apply RVs.cellA rfl rfl (by repeat first | exact .head _ | refine .tail _ ?_) (by rfl) | apply RVs.cell1 rfl rfl (by repeat first | exact .head _ | refine .tail _ ?_))) fun w hs => ?_
    exact ⟨by simp [retV, expdV, hck, c2, rtV], hs.chg0⟩
  | true =>
  have hcl := inB_iff.1 c2
  (refine q_cond_false rfl ?_; refine q_skip ?_; refine q_seq ?_; refine q_region ?_; refine ql_loadAB tabOk rfl rfl rfl (by repeat first | exact .head _ | refine .tail _ ?_) (by rfl) (by rfl) ?_; refine ql_pure tabOk rfl rfl ?_)
  refine ql_callv (val := rtV (expV r click)) tabOk rfl rfl rfl rfl (fun w hs => ?_) ?_; exact rexpected_ca w _ r click (h0.keep hs.chg0) hr (by omega)
  (refine ql_setA tabOk rfl rfl rfl rfl rfl (by repeat constructor) rfl ?_; refine ql_pure tabOk rfl rfl ?_; refine q_nil ?_; refine q_ret ?_)
  refine q_fin tabOk rfl (by repeat (first | exact RVs.nil | apply RVs.tmp rfl | apply RVs.cellA rfl rfl (by repeat first | exact .head _ | refine .tail _ ?_) (by rfl) | apply RVs.cell1 rfl rfl (by repeat first | exact .head _ | refine .tail _ ?_))) fun w hs => ?_
  exact ⟨by simp [retV, expdV, hck, c2, rtV], hs.chg0⟩

theorem beats_ca (w : World) (a b : Int × Int) (c d : Int) (ha : Fine a) (hb : Fine b) (hc : -1000 ≤ c ∧ c ≤ 1000) (hd : -1000 ≤ d ∧ d ≤ 1000) :
    Ca Try.prog 139 [rtV a, .int .i64 c, rtV b, .int .i64 d] w fun v w' => v = .bool (beatsB a c b d) ∧ Chg [] w w' := by
  obtain ⟨a1, a2⟩ := a
  obtain ⟨b1, b2⟩ := b
  obtain ⟨h1, h2, h3, h4⟩ := ha
  obtain ⟨g1, g2, g3, g4⟩ := hb
  simp only at h1 h2 h3 h4 g1 g2 g3 g4
  have m1 := mul_bd0 (A := 1000000000) (B := 1000000000) ⟨h1, h2⟩ (show 0 ≤ b2 ∧ b2 ≤ 1000000000 by omega)
  have m2 := mul_bd0 (A := 1000000000) (B := 1000000000) ⟨g1, g2⟩ (show 0 ≤ a2 ∧ a2 ≤ 1000000000 by omega)
  have m3 := mul_bd hc hc
  have m4 := mul_bd hd hd
  refine q_of (Sat.nil w M0) Try.func139 rfl (by simp [Try.ntmps139]) ?_
  unfold rtV
  dsimp only
  (refine q_seq ?_; refine q_region ?_)
  refine ql_box rfl rfl (fun p4 => ?_)
  refine ql_box rfl rfl (fun p6 => ?_)
  (refine ql_pure tabOk rfl rfl ?_; refine q_nil ?_; (iterate 2 refine q_seq ?_); refine q_region ?_; refine ql_pure tabOk rfl rfl ?_; refine ql_loadB tabOk rfl rfl rfl (by repeat first | exact .head _ | refine .tail _ ?_) (by rfl) ?_; refine ql_pure tabOk rfl rfl ?_; refine ql_loadB tabOk rfl rfl rfl (by repeat first | exact .head _ | refine .tail _ ?_) (by rfl) ?_; refine ql_ar tabOk rfl rfl rfl rfl (by omega) (by omega) ?_; refine ql_pure tabOk rfl rfl ?_; refine ql_loadB tabOk rfl rfl rfl (by repeat first | exact .head _ | refine .tail _ ?_) (by rfl) ?_; refine ql_pure tabOk rfl rfl ?_; refine ql_loadB tabOk rfl rfl rfl (by repeat first | exact .head _ | refine .tail _ ?_) (by rfl) ?_; refine ql_ar tabOk rfl rfl rfl rfl (by omega) (by omega) ?_; refine ql_pure tabOk rfl rfl ?_; refine q_nil ?_)
  refine q_ifn rfl (fun hc => ?_) (fun hc => ?_)
  · (refine q_seq ?_; refine q_region ?_; refine ql_pure tabOk rfl rfl ?_; refine ql_loadB tabOk rfl rfl rfl (by repeat first | exact .head _ | refine .tail _ ?_) (by rfl) ?_; refine ql_pure tabOk rfl rfl ?_; refine ql_loadB tabOk rfl rfl rfl (by repeat first | exact .head _ | refine .tail _ ?_) (by rfl) ?_; refine ql_ar tabOk rfl rfl rfl rfl (by omega) (by omega) ?_; refine ql_pure tabOk rfl rfl ?_; refine ql_loadB tabOk rfl rfl rfl (by repeat first | exact .head _ | refine .tail _ ?_) (by rfl) ?_; refine ql_pure tabOk rfl rfl ?_; refine ql_loadB tabOk rfl rfl rfl (by repeat first | exact .head _ | refine .tail _ ?_) (by rfl) ?_; refine ql_ar tabOk rfl rfl rfl rfl (by omega) (by omega) ?_; (iterate 2 refine ql_pure tabOk rfl rfl ?_); refine q_nil ?_; refine q_ret ?_)
    refine q_fin tabOk rfl (by repeat (first | exact RVs.nil | apply RVs.tmp rfl | apply RVs.cellA rfl rfl (by repeat first | exact .head _ | refine .tail _ ?_) (by rfl) | apply RVs.cell1 rfl rfl (by repeat first | exact .head _ | refine .tail _ ?_))) fun w hs => ?_
    exact ⟨by rw [beatsB, if_neg hc]; simp only [Bool.and_true]; rfl, hs.chg0⟩
  have e1 : a1 * b2 = b1 * a2 := by omega
  (refine q_skip ?_; (iterate 2 refine q_seq ?_); refine q_region ?_; (iterate 2 refine ql_pure tabOk rfl rfl ?_); refine ql_ar tabOk rfl rfl rfl rfl (by omega) (by omega) ?_; (iterate 2 refine ql_pure tabOk rfl rfl ?_); refine ql_ar tabOk rfl rfl rfl rfl (by omega) (by omega) ?_; refine ql_pure tabOk rfl rfl ?_; refine q_nil ?_)
  refine q_ifn rfl (fun hc => ?_) (fun hc => ?_)
  · (refine q_seq ?_; refine q_region ?_; (iterate 2 refine ql_pure tabOk rfl rfl ?_); refine ql_ar tabOk rfl rfl rfl rfl (by omega) (by omega) ?_; (iterate 2 refine ql_pure tabOk rfl rfl ?_); refine ql_ar tabOk rfl rfl rfl rfl (by omega) (by omega) ?_; (iterate 2 refine ql_pure tabOk rfl rfl ?_); refine q_nil ?_; refine q_ret ?_)
    refine q_fin tabOk rfl (by repeat (first | exact RVs.nil | apply RVs.tmp rfl | apply RVs.cellA rfl rfl (by repeat first | exact .head _ | refine .tail _ ?_) (by rfl) | apply RVs.cell1 rfl rfl (by repeat first | exact .head _ | refine .tail _ ?_))) fun w hs => ?_
    exact ⟨by rw [beatsB, if_pos e1, if_neg hc]; simp only [Bool.and_true]; rfl, hs.chg0⟩
  have e2 : c * c = d * d := by omega
  (refine q_skip ?_; refine q_seq ?_; refine q_region ?_; (iterate 4 refine ql_pure tabOk rfl rfl ?_); refine q_nil ?_; refine q_ret ?_)
  refine q_fin tabOk rfl (by repeat (first | exact RVs.nil | apply RVs.tmp rfl | apply RVs.cellA rfl rfl (by repeat first | exact .head _ | refine .tail _ ?_) (by rfl) | apply RVs.cell1 rfl rfl (by repeat first | exact .head _ | refine .tail _ ?_))) fun w hs => ?_
  exact ⟨by rw [beatsB, if_pos e1, if_pos e2]; simp only [Bool.and_true]; rfl, hs.chg0⟩
end Go.Proofs.Ytohlillcaadidaa

/- Walks of the reference: the best of all clicks; chances. -/
namespace Go.Proofs.Ytohlillcaadidaa
open Go Go.Eng

theorem pick_ca (w : World) (l0 h1 : Nat) (cs : List Value) (r : Rg) (v : Value) (l : List (Int × Int)) (h : RgC w cs r) (hC : 0 ≤ r.clicks ∧ r.clicks ≤ 6) (hl : RdS w l0 h1 v l) (hl1 : 1 ≤ l.length) (hl2 : l.length ≤ 100) (hfi : ∀ x ∈ l, Fine x) :
    Ca Try.prog 101 [.agg cs.toArray, v] w fun v w' => v = .tuple #[.int .i64 ((pickI r.clicks l (l.length - 1) : Int) - r.clicks), rtV (l.getD (pickI r.clicks l (l.length - 1)) (0, 1))] ∧ Chg [] w w' := by
  have h0 := h
  obtain ⟨lo, hi, ag, cg, ad, cd, af, cf, an, cn, rfl, hg, hdr, hf, hn⟩ := h
  obtain ⟨a, cap, rfl, hsl⟩ := RdS.outI hl
  obtain ⟨b, off, rfl⟩ := hsl (by omega)
  refine q_of (Sat.nil w M0) Try.func101 rfl (by simp [Try.ntmps101]) ?_
  (refine q_seq ?_; refine q_region ?_)
  refine ql_box rfl rfl (fun b2 => ?_)
  (refine ql_pure tabOk rfl rfl ?_)
  refine ql_alloc zero42 rfl (fun b5 => ?_)
  (refine q_nil ?_; refine q_seq ?_; refine q_region ?_; refine ql_pure tabOk rfl rfl ?_; refine q_nil ?_; (iterate 2 refine q_seq ?_); refine q_region ?_; refine ql_pure tabOk rfl rfl ?_; refine q_nil ?_; refine q_block ?_)
  refine q_loop (σ := Nat) (fun j => j + 1 ≤ l.length) (fun j => l.length - j) (fun j => [(1, .slice (some ⟨b, off, none⟩) l.length cap), (2, .pointer (some ⟨b2, 0, none⟩)), (5, .pointer (some ⟨b5, 0, none⟩)), (6, .int .i64 (pickI r.clicks l j : Int)), (7, .int .i64 ((j + 1 : Nat) : Int))])
    (fun j => [.pt b5 [.int .i64 0, .int .i64 0] 42, .pt b2 [.int .i64 r.radius, .int .i64 r.unit, .int .i64 r.clicks, .int .i64 r.total, .slice ag r.group.length cg, .slice ad r.drifts.length cd, .slice af r.first.length cf, .slice an r.next.length cn] 32]) 0 (by omega) ⟨rfl, rfl, rfl, rfl, rfl, trivial⟩ (by repeat (first | exact Sp.nil | exact Sp.refl _ | refine Sp.cons (by repeat constructor) ?_)) ?_
  intro j hj K hK
  have hle := pickI_le r.clicks l j
  have hps : pickI r.clicks l (j + 1) = if beatsB (l.getD (j + 1) (0, 1)) (((j + 1 : Nat) : Int) - r.clicks) (l.getD (pickI r.clicks l j) (0, 1)) ((pickI r.clicks l j : Int) - r.clicks) then j + 1 else pickI r.clicks l j := rfl
  have hej : pickI r.clicks l (l.length - 1) = pickI r.clicks l (l.length - 1) := rfl
  obtain ⟨m, hm⟩ : ∃ m, m = pickI r.clicks l j := ⟨_, rfl⟩
  rw [← hm] at hle hps ⊢
  have hml : m < l.length := by omega
  have hgm : l.getD m (0, 1) = l[m] := by simp [List.getD_eq_getElem?_getD, hml]
  ((iterate 2 refine q_seq ?_); refine q_region ?_; (iterate 4 refine ql_pure tabOk rfl rfl ?_); refine q_nil ?_)
  refine q_if rfl (fun hc => ?_) (fun hc => ?_)
  · have hj2 : j + 1 < l.length := by omega
    clear hc
    have hgj : l.getD (j + 1) (0, 1) = l[j + 1] := by simp [List.getD_eq_getElem?_getD, hj2]
    have f1 := hfi _ (List.getElem_mem hj2)
    have f2 := hfi _ (List.getElem_mem hml)
    rw [hgm, hgj] at hps
    (refine q_skip ?_; refine q_seq ?_; refine q_block ?_; refine q_seq ?_)
    refine q_draw _ [] (Sp.refl _) (by kernel_rfl) (by kernel_rfl) ?_
    ((iterate 2 refine qf_pure tabOk rfl rfl rfl ?_))
    (refine qf_index tabOk rfl rfl rfl rfl rfl (by omega) (by omega) ?_; refine qf_loadA tabOk rfl rfl rfl rfl (fun w hs => RdS.at (RdE.keep hl hs.chg0) (j + 1) hj2) ?_)
    ((iterate 2 refine qf_pure tabOk rfl rfl rfl ?_); refine qf_loadB tabOk rfl rfl rfl (by repeat first | exact .head _ | refine .tail _ ?_) (by rfl) ?_; refine qf_ar tabOk rfl rfl rfl rfl (by omega) (by omega) ?_; (iterate 2 refine qf_pure tabOk rfl rfl rfl ?_))
    (refine qf_index tabOk rfl rfl rfl rfl rfl (by omega) (by omega) ?_; refine qf_loadA tabOk rfl rfl rfl rfl (fun w hs => RdS.at (RdE.keep hl hs.chg0) m hml) ?_)
    ((iterate 2 refine qf_pure tabOk rfl rfl rfl ?_); refine qf_loadB tabOk rfl rfl rfl (by repeat first | exact .head _ | refine .tail _ ?_) (by rfl) ?_; refine qf_ar tabOk rfl rfl rfl rfl (by omega) (by omega) ?_)
    refine qf_callv (val := .bool (beatsB l[j + 1] (((j + 1 : Nat) : Int) - r.clicks) l[m] ((m : Int) - r.clicks))) tabOk rfl rfl rfl rfl (fun w hs => ?_) ?_; exact beats_ca w l[j + 1] l[m] _ _ f1 f2 (by omega) (by omega)
    (refine qf_nil ?_)
    cases hb : beatsB l[j + 1] (((j + 1 : Nat) : Int) - r.clicks) l[m] ((m : Int) - r.clicks) with
    | true =>
      rw [hb, if_pos rfl] at hps
      (refine q_cond_true rfl ?_; refine q_region ?_; (iterate 2 refine ql_pure tabOk rfl rfl ?_); refine q_nil ?_; refine q_blk ?_; refine q_region ?_; refine ql_pure tabOk rfl rfl ?_; refine ql_ar tabOk rfl rfl rfl rfl (by omega) (by omega) ?_; refine ql_pure tabOk rfl rfl ?_; refine q_nil ?_)
      exact hK (j + 1) _ _ (by omega) (by omega) ⟨rfl, rfl, rfl, by rw [hps]; rfl, rfl, trivial⟩ (by repeat (first | exact Sp.nil | exact Sp.refl _ | refine Sp.cons (by repeat constructor) ?_))
    | false =>
      rw [hb, if_neg (by simp)] at hps
      (refine q_cond_false rfl ?_; refine q_skip ?_; refine q_blk ?_; refine q_region ?_; refine ql_pure tabOk rfl rfl ?_; refine ql_ar tabOk rfl rfl rfl rfl (by omega) (by omega) ?_; refine ql_pure tabOk rfl rfl ?_; refine q_nil ?_)
      exact hK (j + 1) _ _ (by omega) (by omega) ⟨rfl, rfl, rfl, by rw [hps]; rfl, rfl, trivial⟩ (by repeat (first | exact Sp.nil | exact Sp.refl _ | refine Sp.cons (by repeat constructor) ?_))
  · obtain rfl : j = l.length - 1 := by omega
    clear hc hK
    (refine q_exit _ rfl ?_; refine q_seq ?_)
    refine q_draw _ [.pt b5 _ _] (Sp.cons (by repeat constructor) (Sp.refl _)) (by kernel_rfl) (by kernel_rfl) ?_
    ((iterate 2 refine qf_pure tabOk rfl rfl rfl ?_); refine qf_loadB tabOk rfl rfl rfl (by repeat first | exact .head _ | refine .tail _ ?_) (by rfl) ?_; refine qf_ar tabOk rfl rfl rfl rfl (by omega) (by omega) ?_; (iterate 2 refine qf_pure tabOk rfl rfl rfl ?_))
    (refine qf_index tabOk rfl rfl rfl rfl rfl (by omega) (by omega) ?_; refine qf_loadA tabOk rfl rfl rfl rfl (fun w hs => RdS.at (RdE.keep hl hs.chg0) m hml) ?_)
    (refine qf_pure tabOk rfl rfl rfl ?_; refine qf_setA tabOk rfl rfl rfl rfl rfl (by repeat constructor) rfl ?_; refine qf_nil ?_; refine q_ret ?_)
    refine q_fin tabOk rfl (by repeat (first | exact RVs.nil | apply RVs.tmp rfl | apply RVs.cellA rfl rfl (by repeat first | exact .head _ | refine .tail _ ?_) (by rfl) | apply RVs.cell1 rfl rfl (by repeat first | exact .head _ | refine .tail _ ?_))) fun w hs => ?_
    exact ⟨by rw [← hm, hgm]; rfl, hs.chg0⟩

theorem expV_lessR {r : Rg} (hr : r.Right) (a b : Int) : lessB (expV r a) (expV r b) = (decide ((expP r a 5).1 < (expP r b 5).1) && true) :=
  less_ratio (Int.mul_pos (by have := tot8 r hr 5 (by omega); omega) (by have := hr.gsum; omega)) (expP_bd r hr a 5 (by omega)).1 (expP_bd r hr b 5 (by omega)).1
theorem allC_len (C : Int) : (allC C).length = (2 * C + 1).toNat := by simp [allC]
theorem allC_take (C : Int) (j : Nat) (hj : j < (2 * C + 1).toNat) : (allC C).take (j + 1) = (allC C).take j ++ [(j : Int) - C] := by
  rw [List.take_succ_eq_append_getElem (by rw [allC_len]; exact hj)]
  simp [allC]

theorem rbest_ca (w : World) (cs : List Value) (r : Rg) (h : RgC w cs r) (hsm : r.Small) : Ca Try.prog 61 [.agg cs.toArray] w fun v w' => v = .tuple #[.int .i64 (bestV r).1, rtV (bestV r).2.1, .int .i64 (bestV r).2.2] ∧ Chg [] w w' := by
  have h0 := h
  obtain ⟨lo, hi, ag, cg, ad, cd, af, cf, an, cn, rfl, hg, hdr, hf, hn⟩ := h
  refine q_of (Sat.nil w M0) Try.func61 rfl (by simp [Try.ntmps61]) ?_
  (refine q_seq ?_; refine q_region ?_)
  refine ql_box rfl rfl (fun b1 => ?_)
  (refine ql_pure tabOk rfl rfl ?_)
  refine ql_alloc zero42 rfl (fun b3 => ?_)
  (refine ql_pure tabOk rfl rfl ?_; refine q_nil ?_; (iterate 2 refine q_seq ?_); refine q_region ?_; refine ql_loadAB tabOk rfl rfl rfl (by repeat first | exact .head _ | refine .tail _ ?_) (by rfl) (by rfl) ?_)
  refine ql_callv (val := .int .i64 (checkV r)) tabOk rfl rfl rfl rfl (fun w hs => ?_) ?_; exact rcheck_ca w _ r (h0.keep hs.chg0) hsm
  (refine ql_pure tabOk rfl rfl ?_; refine q_nil ?_; refine q_seq ?_; refine q_region ?_; (iterate 2 refine ql_pure tabOk rfl rfl ?_); refine q_nil ?_)
  refine q_ifn rfl (fun hc => ?_) (fun hc => ?_)
  · (refine q_seq ?_; refine q_region ?_)
    refine ql_mk #[.int .i64 0, .int .i64 0] rfl (by kernel_rfl) rfl ?_
    ((iterate 2 refine ql_pure tabOk rfl rfl ?_); refine ql_setA tabOk rfl rfl rfl rfl rfl (by repeat constructor) rfl ?_; refine ql_pure tabOk rfl rfl ?_; refine q_nil ?_; refine q_ret ?_)
    refine q_fin tabOk rfl (by repeat (first | exact RVs.nil | apply RVs.tmp rfl | apply RVs.cellA rfl rfl (by repeat first | exact .head _ | refine .tail _ ?_) (by rfl) | apply RVs.cell1 rfl rfl (by repeat first | exact .head _ | refine .tail _ ?_))) fun w hs => ?_
    exact ⟨by simp [retV, bestV, hc, rtV], hs.chg0⟩
  have hck : checkV r = 0 := by simpa using hc
  have hr := (right_check r).1 hck
  have hC := hr.clicks
  clear hc
  obtain ⟨m, hm1, hm2, hm3⟩ := pick_law (expV r) (fun c => (expP r c 5).1) r.clicks hC.1 (fun a b _ _ => expV_lessR hr a b)
  have hbv : bestV r = (m, expV r m, 0) := by unfold bestV; rw [if_neg (by omega), hm1]
  (refine q_skip ?_; refine q_seq ?_; refine q_region ?_; refine ql_pure tabOk rfl rfl ?_; refine q_nil ?_; (iterate 2 refine q_seq ?_); refine q_region ?_; refine ql_pure tabOk rfl rfl ?_; refine ql_loadB tabOk rfl rfl rfl (by repeat first | exact .head _ | refine .tail _ ?_) (by rfl) ?_; refine ql_neg tabOk rfl rfl (by omega) (by omega) ?_; refine ql_pure tabOk rfl rfl ?_; refine q_nil ?_; refine q_block ?_)
  refine q_conv (H' := [.ow (.slice none 0 0) 42 2 0 (spC (((allC r.clicks).take 0).map (expV r))), .pt b3 [.int .i64 0, .int .i64 0] 42, .pt b1 [.int .i64 r.radius, .int .i64 r.unit, .int .i64 r.clicks, .int .i64 r.total, .slice ag r.group.length cg, .slice ad r.drifts.length cd, .slice af r.first.length cf, .slice an r.next.length cn] 32]) (fun w' hs => Sat.ownil (hs.sp (by repeat (first | exact Sp.nil | exact Sp.refl _ | refine Sp.cons (by repeat constructor) ?_))) _ _) ?_
  refine q_loop (σ := Nat × Value) (fun s => s.1 ≤ (2 * r.clicks + 1).toNat) (fun s => (2 * r.clicks + 1).toNat - s.1) (fun s => [(1, .pointer (some ⟨b1, 0, none⟩)), (3, .pointer (some ⟨b3, 0, none⟩)), (6, s.2), (7, .int .i64 ((s.1 : Int) - r.clicks))])
    (fun s => [.ow s.2 42 2 s.1 (spC (((allC r.clicks).take s.1).map (expV r))), .pt b3 [.int .i64 0, .int .i64 0] 42, .pt b1 [.int .i64 r.radius, .int .i64 r.unit, .int .i64 r.clicks, .int .i64 r.total, .slice ag r.group.length cg, .slice ad r.drifts.length cd, .slice af r.first.length cf, .slice an r.next.length cn] 32]) (0, .slice none 0 0) (by simp) ⟨rfl, rfl, rfl, lookI rfl (by simp), trivial⟩ (by repeat (first | exact Sp.nil | exact Sp.refl _ | refine Sp.cons (by repeat constructor) ?_)) ?_
  rintro ⟨j, v⟩ hj K hK
  simp only at hj
  dsimp only
  ((iterate 2 refine q_seq ?_); refine q_region ?_; (iterate 2 refine ql_pure tabOk rfl rfl ?_); refine ql_loadB tabOk rfl rfl rfl (by repeat first | exact .head _ | refine .tail _ ?_) (by rfl) ?_; refine ql_pure tabOk rfl rfl ?_; refine q_nil ?_)
  refine q_if rfl (fun hc => ?_) (fun hc => ?_)
  · have hj2 : j < (2 * r.clicks + 1).toNat := by omega
    clear hc
    have e1 : spC (((allC r.clicks).take (j + 1)).map (expV r)) = spC (((allC r.clicks).take j).map (expV r)) ++ [.int .i64 (expV r ((j : Int) - r.clicks)).1, .int .i64 (expV r ((j : Int) - r.clicks)).2] := by
      rw [allC_take _ _ hj2]
      simp [spC]
    (refine q_skip ?_; refine q_seq ?_; refine q_block ?_; refine q_region ?_; refine ql_pure tabOk rfl rfl ?_; refine ql_loadAB tabOk rfl rfl rfl (by repeat first | exact .head _ | refine .tail _ ?_) (by rfl) (by rfl) ?_; refine ql_pure tabOk rfl rfl ?_)
    refine ql_callv (val := .agg #[.int .i64 (expV r ((j : Int) - r.clicks)).1, .int .i64 (expV r ((j : Int) - r.clicks)).2]) tabOk rfl rfl rfl rfl (fun w hs => ?_) ?_; exact rexpected_ca w _ r _ (h0.keep hs.chg0) hr (by omega)
    skip
    refine ql_mkS 42 [.int .i64 (expV r ((j : Int) - r.clicks)).1, .int .i64 (expV r ((j : Int) - r.clicks)).2] rfl (by kernel_rfl) rfl (fun bn => ?_)
    refine ql_append (q := 1) slR rfl rfl rfl (fun v' => by repeat constructor) (fun w' hs => ⟨_, _, Blk.rdSp (hs.blk (b := bn) (by repeat first | exact .head _ | refine .tail _ ?_))⟩) (by simp [oneV]) (by omega) (by omega) (fun v' => ?_)
    (refine ql_pure tabOk rfl rfl ?_; refine q_nil ?_; refine q_blk ?_; refine q_region ?_; refine ql_pure tabOk rfl rfl ?_; refine ql_ar tabOk rfl rfl rfl rfl (by omega) (by omega) ?_; refine ql_pure tabOk rfl rfl ?_; refine q_nil ?_)
    exact hK (j + 1, v') _ _ (by simp only; omega) (by simp only; omega) ⟨rfl, rfl, rfl, lookI rfl (by simp only; omega), trivial⟩ (by simp only [e1]; repeat (first | exact Sp.nil | exact Sp.refl _ | refine Sp.cons (by repeat constructor) ?_))
  · obtain rfl : j = (2 * r.clicks + 1).toNat := by omega
    clear hc hK
    have hlen : ((allC r.clicks).map (expV r)).length = (2 * r.clicks + 1).toNat := by rw [List.length_map, allC_len]
    rw [List.take_of_length_le (by rw [allC_len]; omega)]
    have hm4 : pickI r.clicks ((allC r.clicks).map (expV r)) (((allC r.clicks).map (expV r)).length - 1) = (m + r.clicks).toNat := by
      rw [hlen, show (2 * r.clicks + 1).toNat - 1 = (2 * r.clicks).toNat by omega]
      omega
    have hm5 : ((allC r.clicks).map (expV r)).getD (m + r.clicks).toNat (0, 1) = expV r m := by
      rw [allC_at _ _ _ (by omega)]
      congr 1
      omega
    (refine q_exit _ rfl ?_; refine q_seq ?_; refine q_region ?_; refine ql_loadAB tabOk rfl rfl rfl (by repeat first | exact .head _ | refine .tail _ ?_) (by rfl) (by rfl) ?_; refine ql_pure tabOk rfl rfl ?_)
    refine ql_callv (val := .tuple #[.int .i64 m, .agg #[.int .i64 (expV r m).1, .int .i64 (expV r m).2]]) tabOk rfl rfl rfl rfl (fun w hs => ?_) ?_; exact by have := pick_ca w 0 w.heap.size _ r v ((allC r.clicks).map (expV r)) (h0.keep hs.chg0) hC (Sat.rdSp hs (t := 42) (k := (2 * r.clicks + 1).toNat) (by repeat first | exact .head _ | refine .tail _ ?_) hlen.symm) (by omega) (by omega) (fun x hx => by obtain ⟨c, _, rfl⟩ := List.mem_map.1 hx; exact expV_fine r hr c); rw [hm4, hm5, show (((m + r.clicks).toNat : Nat) : Int) - r.clicks = m by omega] at this; exact this
    (refine ql_pure tabOk rfl rfl ?_; (iterate 2 refine ql_ext tabOk rfl rfl rfl ?_))
    refine ql_alloc zero42 rfl (fun b9 => ?_)
    (refine ql_pure tabOk rfl rfl ?_; refine ql_setA tabOk rfl rfl rfl rfl rfl (by repeat constructor) rfl ?_; refine q_nil ?_; refine q_seq ?_)
    refine q_draw _ [.pt b3 _ _] (Sp.cons (by repeat constructor) (Sp.refl _)) (by kernel_rfl) (by kernel_rfl) ?_
    (refine qf_pure tabOk rfl rfl rfl ?_; refine qf_loadAB tabOk rfl rfl rfl (by repeat first | exact .head _ | refine .tail _ ?_) (by rfl) (by rfl) ?_; refine qf_pure tabOk rfl rfl rfl ?_; refine qf_setA tabOk rfl rfl rfl rfl rfl (by repeat constructor) rfl ?_; refine qf_pure tabOk rfl rfl rfl ?_; refine qf_nil ?_; refine q_ret ?_)
    refine q_fin tabOk rfl (by repeat (first | exact RVs.nil | apply RVs.tmp rfl | apply RVs.cellA rfl rfl (by repeat first | exact .head _ | refine .tail _ ?_) (by rfl) | apply RVs.cell1 rfl rfl (by repeat first | exact .head _ | refine .tail _ ?_))) fun w hs => ?_
    exact ⟨by rw [hbv]; rfl, hs.chg0⟩
end Go.Proofs.Ytohlillcaadidaa

/- Walks of the reference: chances of states. -/
namespace Go.Proofs.Ytohlillcaadidaa
open Go Go.Eng

theorem d55_arr : arrB Try.prog 169 5 167 5 = true := by kernel_rfl
/-- The sums of the chances: of courses below c, and of course c at its first i shots. -/
def sumC (r : Rg) (c s i : Nat) : Int := sumR (fun c => crW r c 5 * if dig r.drifts.length c i = s then 1 else 0) c
def sumP (r : Rg) (c i : Nat) : List Int := (List.range 25).map fun j => sumC r (if j / 5 < i then c + 1 else c) (j % 5) (j / 5)
theorem sumP_length (r : Rg) (c i : Nat) : (sumP r c i).length = 25 := by simp [sumP]
theorem sumP_0 (r : Rg) : sumP r 0 0 = List.replicate 25 0 := by simp [sumP, sumC, sumR, List.map_const']
theorem sumP_next (r : Rg) (c : Nat) : sumP r c 5 = sumP r (c + 1) 0 := by
  refine List.map_congr_left (fun j hj => ?_)
  have : j < 25 := by simpa using hj
  rw [if_pos (by omega), if_neg (by omega)]
theorem sumC_succ (r : Rg) (c s i : Nat) : sumC r (c + 1) s i = sumC r c s i + crW r c 5 * if dig r.drifts.length c i = s then 1 else 0 := rfl
theorem sumP_at (r : Rg) (c i j : Nat) (hj : j < (sumP r c i).length) : (sumP r c i)[j] = sumC r (if j / 5 < i then c + 1 else c) (j % 5) (j / 5) := by simp [sumP]
theorem sumP_set (r : Rg) (c i : Nat) (hd : dig r.drifts.length c i < 5) : (sumP r c i).set (i * 5 + dig r.drifts.length c i) (sumC r c (dig r.drifts.length c i) i + crW r c 5) = sumP r c (i + 1) := by
  refine List.ext_getElem (by simp [sumP]) (fun j h1 h2 => ?_)
  have hj : j < 25 := by simpa [sumP] using h2
  rw [List.getElem_set, sumP_at]
  split
  · rename_i h
    have e1 : j / 5 = i := by omega
    have e2 : j % 5 = dig r.drifts.length c i := by omega
    rw [sumP_at, e1, e2, if_pos (by omega), sumC_succ, if_pos rfl, Int.mul_one]
  · rename_i h
    rw [sumP_at]
    by_cases h3 : j / 5 < i
    · rw [if_pos h3, if_pos (by omega)]
    · rw [if_neg h3]
      by_cases h4 : j / 5 = i
      · rw [if_pos (by omega), sumC_succ, if_neg (by rw [h4]; omega), Int.mul_zero, Int.add_zero]
      · rw [if_neg (by omega)]
theorem sumP_id (r : Rg) (c i d : Nat) (hd : d < 5) (hj : i * 5 + d < (sumP r c i).length) : (sumP r c i)[i * 5 + d] = sumC r c d i := by
  rw [sumP_at, show (i * 5 + d) / 5 = i by omega, show (i * 5 + d) % 5 = d by omega, if_neg (by omega)]
theorem sumC_bd {r : Rg} (hr : r.Right) (c s i : Nat) : 0 ≤ sumC r c s i ∧ sumC r c s i ≤ 248832 * c := by
  refine sumR_bd _ 248832 c (fun j _ => ?_)
  have := crW5 hr j 5 (by omega)
  split <;> omega
theorem sumC_all {r : Rg} (hr : r.Right) (i s : Nat) (hi : i < 5) (hs : s < r.drifts.length) : ratioV (sumC r (r.drifts.length ^ 5) s i) (r.total ^ 5) = chX r i s := by
  have h := chance_sum hr i s hi hs
  have e : sumC r (r.drifts.length ^ 5) s i = chW r i s * r.total ^ (4 - i) := h
  have e2 : r.total ^ 5 = r.total ^ (i + 1) * r.total ^ (4 - i) := by rw [← Int.pow_add]; congr 1; omega
  rw [e, e2]
  exact ratioV_scale _ _ _ (by have := tot8 r hr (4 - i) (by omega); omega)
theorem rchances_no (w : World) (cs : List Value) (r : Rg) (h : RgC w cs r) (hsm : r.Small) (hck : checkV r ≠ 0) :
    Ca Try.prog 55 [.agg cs.toArray] w fun v w' => v = .tuple #[.slice none 0 0, .int .i64 (checkV r)] ∧ Chg [] w w' := by
  have h0 := h
  obtain ⟨lo, hi, ag, cg, ad, cd, af, cf, an, cn, rfl, hg, hdr, hf, hn⟩ := h
  refine q_of (Sat.nil w M0) Try.func55 rfl (by simp [Try.ntmps55]) ?_
  (refine q_seq ?_; refine q_region ?_)
  refine ql_box rfl rfl (fun b1 => ?_)
  ((iterate 2 refine ql_pure tabOk rfl rfl ?_); refine q_nil ?_; (iterate 2 refine q_seq ?_); refine q_region ?_; refine ql_loadAB tabOk rfl rfl rfl (by repeat first | exact .head _ | refine .tail _ ?_) (by rfl) (by rfl) ?_)
  refine ql_callv (val := .int .i64 (checkV r)) tabOk rfl rfl rfl rfl (fun w hs => ?_) ?_; exact rcheck_ca w _ r (h0.keep hs.chg0) hsm
  (refine ql_pure tabOk rfl rfl ?_; refine q_nil ?_; refine q_seq ?_; refine q_region ?_; refine ql_pure tabOk rfl rfl ?_; refine ql_neqT tabOk rfl rfl rfl (by omega) ?_; refine q_nil ?_; refine q_cond_true rfl ?_; refine q_seq ?_; refine q_region ?_; (iterate 3 refine ql_pure tabOk rfl rfl ?_); refine q_nil ?_; refine q_ret ?_)
  refine q_fin tabOk rfl (by repeat (first | exact RVs.nil | apply RVs.tmp rfl | apply RVs.cellA rfl rfl (by repeat first | exact .head _ | refine .tail _ ?_) (by rfl) | apply RVs.cell1 rfl rfl (by repeat first | exact .head _ | refine .tail _ ?_))) fun w hs => ?_
  exact ⟨rfl, hs.chg0⟩
theorem rchances_ok (w : World) (cs : List Value) (r : Rg) (h : RgC w cs r) (hsm : r.Small) (hr : r.Right) :
    Ca Try.prog 55 [.agg cs.toArray] w fun v w' => ∃ x : Value × List Value, (v = .tuple #[x.1, .int .i64 0] ∧ x.2.length = 5) ∧ Sat w M0 [un (chK r x.2), .ow x.1 105 1 5 x.2] w' := by
  have h0 := h
  have hck := (right_check r).2 hr
  have hd1 := hr.d1
  have hd2 := hr.d2
  have hp5 := pow5 hr
  obtain ⟨lo, hi, ag, cg, ad, cd, af, cf, an, cn, rfl, hg, hdr, hf, hn⟩ := h
  refine q_of (Sat.nil w M0) Try.func55 rfl (by simp [Try.ntmps55]) ?_
  (refine q_seq ?_; refine q_region ?_)
  refine ql_box rfl rfl (fun b1 => ?_)
  ((iterate 2 refine ql_pure tabOk rfl rfl ?_); refine q_nil ?_; (iterate 2 refine q_seq ?_); refine q_region ?_; refine ql_loadAB tabOk rfl rfl rfl (by repeat first | exact .head _ | refine .tail _ ?_) (by rfl) (by rfl) ?_)
  refine ql_callv (val := .int .i64 0) tabOk rfl rfl rfl rfl (fun w hs => ?_) ?_; exact by have := rcheck_ca w _ r (h0.keep hs.chg0) hsm; rw [hck] at this; exact this
  (refine ql_pure tabOk rfl rfl ?_; refine q_nil ?_; refine q_seq ?_; refine q_region ?_; refine ql_pure tabOk rfl rfl ?_; refine ql_neqF tabOk rfl rfl rfl (by omega) ?_; refine q_nil ?_; refine q_cond_false rfl ?_; refine q_skip ?_; refine q_seq ?_; refine q_region ?_)
  refine ql_alloc zero169 rfl (fun b5 => ?_)
  (refine q_nil ?_; (iterate 2 refine q_seq ?_); refine q_region ?_; refine ql_pure tabOk rfl rfl ?_; refine q_nil ?_; refine q_block ?_)
  refine q_loop (σ := Nat) (fun c => c ≤ r.drifts.length ^ 5) (fun c => r.drifts.length ^ 5 - c) (fun c => [(1, .pointer (some ⟨b1, 0, none⟩)), (5, .pointer (some ⟨b5, 0, none⟩)), (6, .int .i64 c)])
    (fun c => [.pt b5 (ints (sumP r c 0)) 169, .pt b1 [.int .i64 r.radius, .int .i64 r.unit, .int .i64 r.clicks, .int .i64 r.total, .slice ag r.group.length cg, .slice ad r.drifts.length cd, .slice af r.first.length cf, .slice an r.next.length cn] 32]) 0 (by omega) ⟨rfl, rfl, rfl, trivial⟩ (by rw [sumP_0]; repeat (first | exact Sp.nil | exact Sp.refl _ | refine Sp.cons (by repeat constructor) ?_)) ?_
  intro c hc5 K hK
  ((iterate 2 refine q_seq ?_); refine q_region ?_; refine ql_pure tabOk rfl rfl ?_; refine ql_loadAB tabOk rfl rfl rfl (by repeat first | exact .head _ | refine .tail _ ?_) (by rfl) (by rfl) ?_)
  refine ql_callv (val := .int .i64 ((r.drifts.length ^ 5 : Nat) : Int)) tabOk rfl rfl rfl rfl (fun w hs => ?_) ?_; exact courses_ca w _ r (h0.keep hs.chg0) hr
  (refine ql_pure tabOk rfl rfl ?_; refine q_nil ?_)
  refine q_if rfl (fun hc => ?_) (fun hc => ?_)
  · have hcl : c < r.drifts.length ^ 5 := by omega
    clear hc
    have hW := crW5 hr c 5 (by omega)
    (refine q_skip ?_; refine q_seq ?_; refine q_block ?_; refine q_seq ?_; refine q_region ?_; refine ql_loadAB tabOk rfl rfl rfl (by repeat first | exact .head _ | refine .tail _ ?_) (by rfl) (by rfl) ?_; refine ql_pure tabOk rfl rfl ?_)
    refine ql_callv (val := .tuple #[.agg (ints (digP r.drifts.length c 5)).toArray, .int .i64 (crW r c 5)]) tabOk rfl rfl rfl rfl (fun w hs => ?_) ?_; exact course_ca w _ r c (h0.keep hs.chg0) hr hcl
    have hal := digP_length r.drifts.length c 5
    have hdA := digP_at r.drifts.length c 5
    generalize digP r.drifts.length c 5 = dl at hal hdA ⊢
    (refine ql_pure tabOk rfl rfl ?_; (iterate 2 refine ql_ext tabOk rfl rfl rfl ?_))
    refine ql_alloc zero167 rfl (fun b7 => ?_)
    refine ql_setA (us := ints dl) tabOk rfl rfl rfl (by simp [hal]) (by simp [oneV]) (by repeat constructor) (by rfl) ?_
    (refine ql_pure tabOk rfl rfl ?_; refine q_nil ?_; refine q_seq ?_; refine q_region ?_; refine ql_pure tabOk rfl rfl ?_; refine q_nil ?_; refine q_block ?_)
    refine q_loop (σ := Nat) (fun i => i ≤ 5) (fun i => 5 - i) (fun i => [(1, .pointer (some ⟨b1, 0, none⟩)), (5, .pointer (some ⟨b5, 0, none⟩)), (6, .int .i64 c), (7, .pointer (some ⟨b7, 0, none⟩)), (8, .int .i64 (crW r c 5)), (9, .int .i64 i)])
      (fun i => [.pt b5 (ints (sumP r c i)) 169, .pt b7 (ints dl) 167, .pt b1 [.int .i64 r.radius, .int .i64 r.unit, .int .i64 r.clicks, .int .i64 r.total, .slice ag r.group.length cg, .slice ad r.drifts.length cd, .slice af r.first.length cf, .slice an r.next.length cn] 32]) 0 (by omega) ⟨rfl, rfl, rfl, rfl, rfl, rfl, trivial⟩ (by repeat (first | exact Sp.nil | exact Sp.refl _ | refine Sp.cons (by repeat constructor) ?_)) ?_
    intro i hi K2 hK2
    ((iterate 2 refine q_seq ?_); refine q_region ?_; (iterate 2 refine ql_pure tabOk rfl rfl ?_); refine q_nil ?_)
    refine q_if rfl (fun hc => ?_) (fun hc => ?_)
    · have hi5 : i < 5 := by omega
      clear hc
      have hil : i < dl.length := by omega
      have hdl := dig_lt (n := r.drifts.length) (by omega) c i
      have hpl := sumP_length r c i
      have hset := sumP_set r c i (by omega)
      have hdi := hdA i (by omega) hil
      have hsb := sumC_bd hr c (dig r.drifts.length c i) i
      obtain ⟨d, hd⟩ : ∃ d, d = dig r.drifts.length c i := ⟨_, rfl⟩
      rw [← hd] at hdl hset hdi hsb
      have hix : i * 5 + d < (sumP r c i).length := by omega
      have hpat := sumP_id r c i d (by omega) hix
      (refine q_skip ?_; refine q_seq ?_; refine q_block ?_)
      refine q_drawS 14 _ [.pt b5 _ _] (Sp.cons (by repeat constructor) (Sp.refl _)) (by kernel_rfl) (by kernel_rfl) (by kernel_rfl) fun K1 hK1 => ?_
      ((iterate 2 refine qf_pure tabOk rfl rfl rfl ?_))
      refine qf_indexA d5_arr rfl rfl rfl (by omega) (by omega) ?_
      refine qf_loadI tabOk (i) rfl rfl rfl (by repeat first | exact .head _ | refine .tail _ ?_) (by first | rfl | omega | simp) hil ?_
      rw [hdi]
      ((iterate 2 refine qf_pure tabOk rfl rfl rfl ?_))
      refine qf_indexA d5_arr rfl rfl rfl (by omega) (by omega) ?_
      refine qf_loadI tabOk (i) rfl rfl rfl (by repeat first | exact .head _ | refine .tail _ ?_) (by first | rfl | omega | simp) hil ?_
      rw [hdi]
      skip
      refine qf_indexA d55_arr rfl rfl rfl (by omega) (by omega) ?_
      skip
      refine qf_indexA d5_arr rfl rfl rfl (by omega) (by omega) ?_
      refine qf_loadI tabOk (i * 5 + d) rfl rfl rfl (by repeat first | exact .head _ | refine .tail _ ?_) (by first | rfl | omega | simp) hix ?_
      rw [hpat]
      (refine qf_pure tabOk rfl rfl rfl ?_; refine qf_ar tabOk rfl rfl rfl rfl (by omega) (by omega) ?_)
      refine qf_indexA d55_arr rfl rfl rfl (by omega) (by omega) ?_
      (refine qf_nil ?_)
      refine hK1 _ _ [.pt b5 _ _] (Sp.cons (by repeat constructor) ((by repeat (first | exact Sp.nil | exact Sp.refl _ | refine Sp.cons (by repeat constructor) ?_)))) ?_
      refine qf_indexA d5_arr rfl rfl rfl (by omega) (by omega) ?_
      refine qf_storeI tabOk (i * 5 + d) rfl rfl rfl (by repeat constructor) (by first | rfl | omega | simp) hix ?_
      rw [hset]
      (refine qf_nil ?_; refine q_blk ?_; refine q_region ?_; refine ql_pure tabOk rfl rfl ?_; refine ql_ar tabOk rfl rfl rfl rfl (by omega) (by omega) ?_; refine ql_pure tabOk rfl rfl ?_; refine q_nil ?_)
      exact hK2 (i + 1) _ _ (by omega) (by omega) ⟨rfl, rfl, rfl, rfl, rfl, rfl, trivial⟩ (by repeat (first | exact Sp.nil | exact Sp.refl _ | refine Sp.cons (by repeat constructor) ?_))
    · obtain rfl : i = 5 := by omega
      clear hc hK2
      rw [sumP_next]
      (refine q_exit _ rfl ?_; refine q_blk ?_; refine q_region ?_; refine ql_pure tabOk rfl rfl ?_; refine ql_ar tabOk rfl rfl rfl rfl (by omega) (by omega) ?_; refine ql_pure tabOk rfl rfl ?_; refine q_nil ?_)
      exact hK (c + 1) _ _ (by omega) (by omega) ⟨rfl, rfl, rfl, trivial⟩ (by repeat (first | exact Sp.nil | exact Sp.refl _ | refine Sp.cons (by repeat constructor) ?_))
  · obtain rfl : c = r.drifts.length ^ 5 := by omega
    clear hc hK
    have hT := tot8 r hr 5 (by omega)
    have hpl := sumP_length r (r.drifts.length ^ 5) 0
    have hpa := sumP_at r (r.drifts.length ^ 5) 0
    generalize sumP r (r.drifts.length ^ 5) 0 = sl at hpl hpa ⊢
    (refine q_exit _ rfl ?_; refine q_seq ?_; refine q_region ?_; refine ql_pure tabOk rfl rfl ?_; refine q_nil ?_; (iterate 2 refine q_seq ?_); refine q_region ?_; refine ql_pure tabOk rfl rfl ?_; refine q_nil ?_; refine q_block ?_)
    refine q_conv (H' := [un (chK r []), .ow (.slice none 0 0) 105 1 0 [], .pt b5 (ints sl) 169, .pt b1 [.int .i64 r.radius, .int .i64 r.unit, .int .i64 r.clicks, .int .i64 r.total, .slice ag r.group.length cg, .slice ad r.drifts.length cd, .slice af r.first.length cf, .slice an r.next.length cn] 32]) (fun w' hs => Sat.un_nil (Sat.ownil (hs.sp (by repeat (first | exact Sp.nil | exact Sp.refl _ | refine Sp.cons (by repeat constructor) ?_))) _ _)) ?_
    refine q_loop (σ := Nat × Value × List Value) (fun s => s.1 ≤ 5 ∧ s.2.2.length = s.1) (fun s => 5 - s.1) (fun s => [(1, .pointer (some ⟨b1, 0, none⟩)), (5, .pointer (some ⟨b5, 0, none⟩)), (10, s.2.1), (11, .int .i64 s.1)])
      (fun s => [un (chK r s.2.2), .ow s.2.1 105 1 s.1 s.2.2, .pt b5 (ints sl) 169, .pt b1 [.int .i64 r.radius, .int .i64 r.unit, .int .i64 r.clicks, .int .i64 r.total, .slice ag r.group.length cg, .slice ad r.drifts.length cd, .slice af r.first.length cf, .slice an r.next.length cn] 32]) (0, .slice none 0 0, []) (by simp) ⟨rfl, rfl, rfl, rfl, trivial⟩ (by repeat (first | exact Sp.nil | exact Sp.refl _ | refine Sp.cons (by repeat constructor) ?_)) ?_
    rintro ⟨i, va, vs⟩ ⟨hi, hvl⟩ K hK
    simp only at hi hvl
    dsimp only
    ((iterate 2 refine q_seq ?_); refine q_region ?_; (iterate 2 refine ql_pure tabOk rfl rfl ?_); refine q_nil ?_)
    refine q_if rfl (fun hc => ?_) (fun hc => ?_)
    · have hi5 : i < 5 := by omega
      clear hc
      (refine q_skip ?_; refine q_seq ?_; refine q_block ?_; refine q_seq ?_; refine q_region ?_; refine ql_pure tabOk rfl rfl ?_; refine q_nil ?_; (iterate 2 refine q_seq ?_); refine q_region ?_; refine ql_pure tabOk rfl rfl ?_; refine q_nil ?_; refine q_block ?_)
      refine q_conv (H' := [.ow (.slice none 0 0) 42 2 0 (spC ((List.range 0).map (chX r i))), un (chK r vs), .ow va 105 1 i vs, .pt b5 (ints sl) 169, .pt b1 [.int .i64 r.radius, .int .i64 r.unit, .int .i64 r.clicks, .int .i64 r.total, .slice ag r.group.length cg, .slice ad r.drifts.length cd, .slice af r.first.length cf, .slice an r.next.length cn] 32]) (fun w' hs => Sat.ownil (hs.sp (by repeat (first | exact Sp.nil | exact Sp.refl _ | refine Sp.cons (by repeat constructor) ?_))) _ _) ?_
      refine q_loop (σ := Nat × Value) (fun s => s.1 ≤ r.drifts.length) (fun s => r.drifts.length - s.1) (fun s => [(1, .pointer (some ⟨b1, 0, none⟩)), (5, .pointer (some ⟨b5, 0, none⟩)), (10, va), (11, .int .i64 i), (12, s.2), (13, .int .i64 s.1)])
        (fun s => [.ow s.2 42 2 s.1 (spC ((List.range s.1).map (chX r i))), un (chK r vs), .ow va 105 1 i vs, .pt b5 (ints sl) 169, .pt b1 [.int .i64 r.radius, .int .i64 r.unit, .int .i64 r.clicks, .int .i64 r.total, .slice ag r.group.length cg, .slice ad r.drifts.length cd, .slice af r.first.length cf, .slice an r.next.length cn] 32]) (0, .slice none 0 0) (by simp) ⟨rfl, rfl, rfl, rfl, rfl, rfl, trivial⟩ (Sp.refl _) ?_
      rintro ⟨j, vl⟩ hj K2 hK2
      simp only at hj
      dsimp only
      ((iterate 2 refine q_seq ?_); refine q_region ?_; (iterate 2 refine ql_pure tabOk rfl rfl ?_); refine ql_loadB tabOk rfl rfl rfl (by repeat first | exact .head _ | refine .tail _ ?_) (by rfl) ?_; (iterate 2 refine ql_pure tabOk rfl rfl ?_); refine q_nil ?_)
      refine q_if rfl (fun hc => ?_) (fun hc => ?_)
      · have hj2 : j < r.drifts.length := by omega
        clear hc
        have hix : i * 5 + j < sl.length := by omega
        have hcx := sumC_all hr i j hi5 hj2
        have hpat := hpa (i * 5 + j) hix
        rw [show (i * 5 + j) / 5 = i by omega, show (i * 5 + j) % 5 = j by omega, if_neg (by omega)] at hpat
        have hsb := sumC_bd hr (r.drifts.length ^ 5) j i
        (refine q_skip ?_; refine q_seq ?_; refine q_block ?_)
        refine q_draw _ [.ow vl 42 2 j (spC ((List.range j).map (chX r i)))] (Sp.cons (by repeat constructor) (Sp.refl _)) (by kernel_rfl) (by kernel_rfl) ?_
        ((iterate 3 refine qf_pure tabOk rfl rfl rfl ?_))
        refine qf_indexA d55_arr rfl rfl rfl (by omega) (by omega) ?_
        skip
        refine qf_indexA d5_arr rfl rfl rfl (by omega) (by omega) ?_
        refine qf_loadI tabOk (i * 5 + j) rfl rfl rfl (by repeat first | exact .head _ | refine .tail _ ?_) (by first | rfl | omega | simp) hix ?_
        rw [hpat]
        (refine qf_loadAB tabOk rfl rfl rfl (by repeat first | exact .head _ | refine .tail _ ?_) (by rfl) (by rfl) ?_)
        refine qf_callv (val := .int .i64 (r.total ^ 5)) tabOk rfl rfl rfl rfl (fun w hs => ?_) ?_; exact power_ca w _ r 5 (h0.keep hs.chg0) hr (by omega)
        skip
        refine qf_callv (val := .agg #[.int .i64 (chX r i j).1, .int .i64 (chX r i j).2]) tabOk rfl rfl rfl rfl (fun w hs => ?_) ?_; exact by have := lowest_ca (sumC r (r.drifts.length ^ 5) j i) (r.total ^ 5) w (by omega) (by omega) (by omega) (by omega); rw [hcx] at this; exact this
        skip
        refine qf_mkS 42 [.int .i64 (chX r i j).1, .int .i64 (chX r i j).2] rfl (by kernel_rfl) rfl (fun bn => ?_)
        refine qf_append (q := 1) slR rfl rfl rfl (fun v' => by repeat constructor) (fun w' hs => ⟨_, _, Blk.rdSp (hs.blk (b := bn) (by repeat first | exact .head _ | refine .tail _ ?_))⟩) (by simp [oneV]) (by omega) (by omega) (fun vl' => ?_)
        (refine qf_pure tabOk rfl rfl rfl ?_; refine qf_nil ?_; refine q_blk ?_; refine q_region ?_; refine ql_pure tabOk rfl rfl ?_; refine ql_ar tabOk rfl rfl rfl rfl (by omega) (by omega) ?_; refine ql_pure tabOk rfl rfl ?_; refine q_nil ?_)
        exact hK2 (j + 1, vl') _ _ (by simp only; omega) (by simp only; omega) ⟨rfl, rfl, rfl, rfl, rfl, rfl, trivial⟩ (by simp only [rowX_succ]; repeat (first | exact Sp.nil | exact Sp.refl _ | refine Sp.cons (by repeat constructor) ?_))
      · obtain rfl : j = r.drifts.length := by omega
        clear hc hK2
        refine q_fact (fun w hs => hs.slice2 (v := vl) (by repeat first | exact .head _ | refine .tail _ ?_)) ?_
        rintro ⟨al, cl, rfl⟩
        (refine q_exit _ rfl ?_; refine q_region ?_; (iterate 2 refine ql_pure tabOk rfl rfl ?_))
        refine ql_mkS 105 [.slice al r.drifts.length cl] rfl (by kernel_rfl) rfl (fun bn => ?_)
        refine ql_append (q := 1) slRR rfl rfl rfl (fun v' => by repeat constructor) (fun w' hs => ⟨_, _, Blk.rd (hs.blk (b := bn) (by repeat first | exact .head _ | refine .tail _ ?_)) rfl 1⟩) (by simp [oneV]) (by omega) (by omega) (fun va' => ?_)
        (refine ql_pure tabOk rfl rfl ?_; refine q_nil ?_; refine q_blk ?_; refine q_region ?_; refine ql_pure tabOk rfl rfl ?_; refine ql_ar tabOk rfl rfl rfl rfl (by omega) (by omega) ?_; refine ql_pure tabOk rfl rfl ?_; refine q_nil ?_)
        refine q_conv (H' := [un (chK r (vs ++ [.slice al r.drifts.length cl])), .ow va' 105 1 (i + 1) (vs ++ [.slice al r.drifts.length cl]), .pt b5 (ints sl) 169, .pt b1 [.int .i64 r.radius, .int .i64 r.unit, .int .i64 r.clicks, .int .i64 r.total, .slice ag r.group.length cg, .slice ad r.drifts.length cd, .slice af r.first.length cf, .slice an r.next.length cn] 32]) (fun w' hs => by
          have h1 := Sat.sp (H' := [.ow (.slice al r.drifts.length cl) 42 2 r.drifts.length (spC (rowX r i)), un (chK r vs), .ow va' 105 1 (i + 1) (vs ++ [.slice al r.drifts.length cl]), .pt b5 (ints sl) 169, .pt b1 [.int .i64 r.radius, .int .i64 r.unit, .int .i64 r.clicks, .int .i64 r.total, .slice ag r.group.length cg, .slice ad r.drifts.length cd, .slice af r.first.length cf, .slice an r.next.length cn] 32]) hs (by repeat (first | exact Sp.nil | exact Sp.refl _ | refine Sp.cons (by repeat constructor) ?_))
          rw [← hvl] at h1
          have h2 := h1.un_in.un_perm (L' := chK r (vs ++ [.slice al r.drifts.length cl])) (by rw [chK_snoc]; exact (List.perm_append_comm (l₁ := [_])))
          rw [← hvl]
          exact h2) ?_
        exact hK (i + 1, va', vs ++ [.slice al r.drifts.length cl]) _ _ ⟨by simp only; omega, by simp [hvl]⟩ (by simp only; omega) ⟨rfl, rfl, rfl, rfl, trivial⟩ (by repeat (first | exact Sp.nil | exact Sp.refl _ | refine Sp.cons (by repeat constructor) ?_))
    · obtain rfl : i = 5 := by omega
      clear hc hK
      (refine q_exit _ rfl ?_; refine q_seq ?_; refine q_region ?_; (iterate 3 refine ql_pure tabOk rfl rfl ?_); refine q_nil ?_; refine q_ret ?_)
      refine q_fin tabOk rfl (by repeat (first | exact RVs.nil | apply RVs.tmp rfl | apply RVs.cellA rfl rfl (by repeat first | exact .head _ | refine .tail _ ?_) (by rfl) | apply RVs.cell1 rfl rfl (by repeat first | exact .head _ | refine .tail _ ?_))) fun w hs => ?_
      exact ⟨(va, vs), ⟨rfl, hvl⟩, hs.sp (by repeat (first | exact Sp.nil | exact Sp.refl _ | refine Sp.cons (by repeat constructor) ?_))⟩
end Go.Proofs.Ytohlillcaadidaa

/- Walks: copies of lists. -/
namespace Go.Proofs.Ytohlillcaadidaa
open Go Go.Eng

theorem cloneI_ca (w : World) (lo hi : Nat) (v : Value) (l : List Int) (h : RdI w lo hi v l) (hlen : l.length ≤ 1000000) :
    Ca Try.prog 18 [v] w fun r w' => ∃ x : Value, r = x ∧ Sat w M0 [.ow x 3 1 l.length (ints l)] w' := by
  refine q_of (Sat.nil w M0) Try.func18 rfl (by simp [Try.ntmps18]) ?_
  (refine q_seq ?_; refine q_region ?_; refine ql_pure tabOk rfl rfl ?_; refine q_nil ?_; refine q_seq ?_; refine q_region ?_; refine ql_pure tabOk rfl rfl ?_)
  refine ql_conv (H' := [.ow (.slice none 0 0) 3 1 0 []]) (fun w' hs => Sat.ownil hs _ _) ?_
  refine ql_append (q := l.length) (news := ints l) slI rfl rfl rfl (fun v' => by repeat constructor) (fun w' hs => ⟨lo, hi, RdI.row (RdE.keep h hs.chg0)⟩) (fun c hc => by obtain ⟨y, _, rfl⟩ := List.mem_map.1 hc; rfl) (by omega) (by omega) (fun x => ?_)
  (refine ql_pure tabOk rfl rfl ?_; refine q_nil ?_; refine q_ret ?_)
  refine q_fin tabOk rfl (by repeat (first | exact RVs.nil | apply RVs.tmp rfl | apply RVs.cellA rfl rfl (by repeat first | exact .head _ | refine .tail _ ?_) (by rfl) | apply RVs.cell1 rfl rfl (by repeat first | exact .head _ | refine .tail _ ?_))) fun w hs => ?_
  exact ⟨x, rfl, by simpa using hs⟩
theorem RdS.row {w : World} {lo hi : Nat} {v : Value} {l : List (Int × Int)} (h : RdS w lo hi v l) : Rd w lo hi v 2 l.length (spC l) := by
  have := h.rd
  rw [cells_sp, List.length_map] at this
  exact this
end Go.Proofs.Ytohlillcaadidaa
