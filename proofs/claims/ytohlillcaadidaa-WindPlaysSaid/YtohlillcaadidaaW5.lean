/- My texts E12, M4, joined: a claim takes at most 60 files. -/
import Derived.Test.YtohlillcaadidaaW4

/- Walks of the reference: following the plan. -/
namespace Go.Proofs.Ytohlillcaadidaa
open Go Go.Eng

/-- How far one is after some steps. -/
def atF (r : Rg) (p : Ru) (states offs : List Int) (k : Nat) : FS := (states.take k).foldl (stepF r p offs) ⟨0, p.waits, 0, 0, 0, 0⟩
theorem atF_succ (r : Rg) (p : Ru) (states offs : List Int) (k : Nat) (hk : k < states.length) : atF r p states offs (k + 1) = stepF r p offs (atF r p states offs k) states[k] := by
  unfold atF
  rw [List.take_succ_eq_append_getElem hk, List.foldl_append]
  rfl
theorem atF_end5 (r : Rg) (p : Ru) (states offs : List Int) (k : Nat) (h : (atF r p states offs k).shot = 5) : endF r p states offs = atF r p states offs k := by
  unfold endF
  conv => lhs; rw [← List.take_append_drop k states, List.foldl_append]
  exact stepF_5 _ h
theorem valAll {r : Rg} {p : Ru} (hr : r.Right) (hp : p.Right) : ValL r p ((plcL r p).map (valP r p)) := ⟨by simp, fun v hv => by
  obtain ⟨⟨a, b, c, d⟩, hm, rfl⟩ := List.mem_map.1 hv
  obtain ⟨h1, h2, h3, h4⟩ := (plcL_mem r p a b c d).1 hm
  exact val_fine r hr p hp a b c d h2 h3 h4⟩

set_option maxRecDepth 40000 in
set_option maxHeartbeats 8000000 in
theorem rfollow_ca (w : World) (l0 h1 l2 h2 : Nat) (cs : List Value) (r : Rg) (p : Ru) (vs vo : Value) (states offs : List Int) (h : RgC w cs r) (hsm : r.Small) (hl : RdI w l0 h1 vs states) (hu : RdI w l2 h2 vo offs) (hlen : states.length < 1000000) (hlen2 : offs.length < 1000000) :
    Ca Try.prog 30 [.agg cs.toArray, ruV p, vs, vo] w fun v w' =>
    v = .tuple #[.int .i64 (followV r p states offs).1.1, .int .i64 (followV r p states offs).1.2.1, .int .i64 (followV r p states offs).1.2.2, .int .i64 (followV r p states offs).2] ∧ Chg [] w w' := by
  have h0 := h
  obtain ⟨lo, hi, ag, cg, ad, cd, af, cf, an, cn, rfl, hg, hdr, hf, hn⟩ := h
  obtain ⟨sa, sc, rfl, hss⟩ := RdI.outI hl
  obtain ⟨oa, oc, rfl, hso⟩ := RdI.outI hu
  obtain ⟨_, _, hsl2, hsd⟩ := RdI.outI hdr
  cases hsl2
  have s1 := hsm.group
  have s2 := hsm.drifts
  refine q_of (Sat.nil w M0) Try.func30 rfl (by simp [Try.ntmps30]) ?_
  (refine q_seq ?_; refine q_region ?_)
  refine ql_box rfl rfl (fun b4 => ?_)
  refine ql_box rfl rfl (fun b5 => ?_)
  ((iterate 4 refine ql_pure tabOk rfl rfl ?_); refine q_nil ?_; (iterate 2 refine q_seq ?_); refine q_region ?_; (iterate 2 refine ql_loadAB tabOk rfl rfl rfl (by repeat first | exact .head _ | refine .tail _ ?_) (by rfl) (by rfl) ?_))
  refine ql_callv (val := .int .i64 (rulesV r p)) tabOk rfl rfl rfl rfl (fun w hs => ?_) ?_; exact rruled_ca w _ r p (h0.keep hs.chg0) hsm
  (refine ql_pure tabOk rfl rfl ?_; refine q_nil ?_; refine q_seq ?_; refine q_region ?_; (iterate 2 refine ql_pure tabOk rfl rfl ?_); refine q_nil ?_)
  refine q_ifn rfl (fun hc => ?_) (fun hc => ?_)
  · (refine q_seq ?_; refine q_region ?_; (iterate 5 refine ql_pure tabOk rfl rfl ?_); refine q_nil ?_; refine q_ret ?_)
    refine q_fin tabOk rfl (by repeat (first | exact RVs.nil | apply RVs.tmp rfl | apply RVs.cellA rfl rfl (by repeat first | exact .head _ | refine .tail _ ?_) (by rfl) | apply RVs.cell1 rfl rfl (by repeat first | exact .head _ | refine .tail _ ?_))) fun w hs => ?_
    exact ⟨by simp [retV, followV, hc], hs.chg0⟩
  have hru : rulesV r p = 0 := by simpa using hc
  obtain ⟨hck, hp⟩ := (rules_iff r p).1 hru
  have hr := (right_check r).1 hck
  have hwa := hp.waits
  have hpw := hp.wait
  have hpc := hp.click
  have hpm := hp.miss
  have hC := hr.clicks
  have hd1 := hr.d1
  have hd2 := hr.d2
  have hg1 := hr.g1
  have hodd := hr.odd
  have hun := hr.unit
  have hra := hr.radius
  clear hc
  (refine q_skip ?_; (iterate 2 refine q_seq ?_); refine q_region ?_; (iterate 4 refine ql_pure tabOk rfl rfl ?_))
  refine ql_split rfl rfl (fun hc => ?_) (fun hc => ?_)
  · ((iterate 6 refine ql_gno rfl rfl rfl ?_); refine ql_pure tabOk rfl rfl ?_; refine q_nil ?_; refine q_cond_true rfl ?_; refine q_seq ?_; refine q_region ?_; (iterate 4 refine ql_pure tabOk rfl rfl ?_); refine q_nil ?_; refine q_ret ?_)
    refine q_fin tabOk rfl (by repeat (first | exact RVs.nil | apply RVs.tmp rfl | apply RVs.cellA rfl rfl (by repeat first | exact .head _ | refine .tail _ ?_) (by rfl) | apply RVs.cell1 rfl rfl (by repeat first | exact .head _ | refine .tail _ ?_))) fun w hs => ?_
    exact ⟨by simp only [followV]; rw [if_neg (by omega), if_pos (by simpa using hc)]; rfl, hs.chg0⟩
  have c1 : (offs.length : Int) = 5 := by simpa using hc
  clear hc
  (refine ql_gyes rfl ?_; refine ql_pure tabOk rfl rfl ?_; refine ql_gyes rfl ?_; refine ql_pure tabOk rfl rfl ?_; refine ql_gyes rfl ?_; refine ql_pure tabOk rfl rfl ?_; refine ql_gyes rfl ?_; refine ql_loadB tabOk rfl rfl rfl (by repeat first | exact .head _ | refine .tail _ ?_) (by rfl) ?_; refine ql_gyes rfl ?_; refine ql_ar tabOk rfl rfl rfl rfl (by omega) (by omega) ?_; refine ql_gyes rfl ?_; (iterate 2 refine ql_pure tabOk rfl rfl ?_); refine q_nil ?_)
  refine q_if rfl (fun hc => ?_) (fun hc => ?_)
  · (refine q_seq ?_; refine q_region ?_; (iterate 4 refine ql_pure tabOk rfl rfl ?_); refine q_nil ?_; refine q_ret ?_)
    refine q_fin tabOk rfl (by repeat (first | exact RVs.nil | apply RVs.tmp rfl | apply RVs.cellA rfl rfl (by repeat first | exact .head _ | refine .tail _ ?_) (by rfl) | apply RVs.cell1 rfl rfl (by repeat first | exact .head _ | refine .tail _ ?_))) fun w hs => ?_
    exact ⟨by simp only [followV]; rw [if_neg (by omega), if_neg (by omega), if_pos hc]; rfl, hs.chg0⟩
  have c2 := hc
  clear hc
  (refine q_skip ?_; (iterate 2 refine q_seq ?_); refine q_region ?_; (iterate 2 refine ql_pure tabOk rfl rfl ?_); refine ql_loadB tabOk rfl rfl rfl (by repeat first | exact .head _ | refine .tail _ ?_) (by rfl) ?_; refine ql_pure tabOk rfl rfl ?_; refine ql_ar tabOk rfl rfl rfl rfl (by omega) (by omega) ?_)
  refine ql_callv (val := .bool (!(states.all fun n => inB n 0 ((r.drifts.length : Int) - 1)))) tabOk rfl rfl rfl rfl (fun w hs => ?_) ?_; exact roffs_ca w l0 h1 _ states 0 ((r.drifts.length : Int) - 1) (RdE.keep hl hs.chg0) hlen
  cases c3 : states.all (fun n => inB n 0 ((r.drifts.length : Int) - 1)) with
  | false =>
    (refine q_nil ?_; refine q_cond_true rfl ?_; refine q_seq ?_; refine q_region ?_; (iterate 4 refine ql_pure tabOk rfl rfl ?_); refine q_nil ?_; refine q_ret ?_)
    refine q_fin tabOk rfl (by repeat (first | exact RVs.nil | apply RVs.tmp rfl | apply RVs.cellA rfl rfl (by repeat first | exact .head _ | refine .tail _ ?_) (by rfl) | apply RVs.cell1 rfl rfl (by repeat first | exact .head _ | refine .tail _ ?_))) fun w hs => ?_
    exact ⟨by simp only [followV]; rw [if_neg (by omega), if_neg (by omega), if_neg c2, c3, if_pos (by simp)]; rfl, hs.chg0⟩
  | true =>
  (refine q_nil ?_; refine q_cond_false rfl ?_; refine q_skip ?_; (iterate 2 refine q_seq ?_); refine q_region ?_; (iterate 2 refine ql_pure tabOk rfl rfl ?_); refine ql_loadB tabOk rfl rfl rfl (by repeat first | exact .head _ | refine .tail _ ?_) (by rfl) ?_; refine ql_pure tabOk rfl rfl ?_; refine ql_ar tabOk rfl rfl rfl rfl (by omega) (by omega) ?_; refine ql_neg tabOk rfl rfl (by omega) (by omega) ?_)
  have hquo : IntKind.i64.wrap ((-((r.group.length : Int) - 1)).tdiv 2) = -((r.group.length : Int) / 2) := by
    rw [Int.neg_tdiv, Int.tdiv_eq_ediv_of_nonneg (by omega)]
    have e : ((r.group.length : Int) - 1) / 2 = (r.group.length : Int) / 2 := by omega
    rw [e]
    exact w64 (by omega) (by omega)
  have hq2 : ((r.group.length : Int) - 1) / 2 = (r.group.length : Int) / 2 := by omega
  refine ql_quo rfl rfl (by omega) rfl ?_
  rw [hquo]
  (refine ql_pure tabOk rfl rfl ?_; refine ql_loadB tabOk rfl rfl rfl (by repeat first | exact .head _ | refine .tail _ ?_) (by rfl) ?_; refine ql_pure tabOk rfl rfl ?_; refine ql_ar tabOk rfl rfl rfl rfl (by omega) (by omega) ?_; refine ql_quoN rfl rfl rfl (by omega) (by omega) (by omega) ?_)
  rw [hq2]
  refine ql_callv (val := .bool (!(offs.all fun n => inB n (-((r.group.length : Int) / 2)) ((r.group.length : Int) / 2)))) tabOk rfl rfl rfl rfl (fun w hs => ?_) ?_; exact roffs_ca w l2 h2 _ offs (-((r.group.length : Int) / 2)) ((r.group.length : Int) / 2) (RdE.keep hu hs.chg0) hlen2
  cases c4 : offs.all (fun n => inB n (-((r.group.length : Int) / 2)) ((r.group.length : Int) / 2)) with
  | false =>
    (refine q_nil ?_; refine q_cond_true rfl ?_; refine q_seq ?_; refine q_region ?_; (iterate 4 refine ql_pure tabOk rfl rfl ?_); refine q_nil ?_; refine q_ret ?_)
    refine q_fin tabOk rfl (by repeat (first | exact RVs.nil | apply RVs.tmp rfl | apply RVs.cellA rfl rfl (by repeat first | exact .head _ | refine .tail _ ?_) (by rfl) | apply RVs.cell1 rfl rfl (by repeat first | exact .head _ | refine .tail _ ?_))) fun w hs => ?_
    exact ⟨by simp only [followV]; rw [if_neg (by omega), if_neg (by omega), if_neg c2, c3, if_neg (by simp), c4, if_pos (by simp)]; rfl, hs.chg0⟩
  | true =>
  have hsb : ∀ x ∈ states, 0 ≤ x ∧ x ≤ (r.drifts.length : Int) - 1 := fun x hx => inB_iff.1 (List.all_eq_true.1 c3 x hx)
  have hob : ∀ x ∈ offs, -20 ≤ x ∧ x ≤ 20 := fun x hx => by have := inB_iff.1 (List.all_eq_true.1 c4 x hx); omega
  have hfv : followV r p states offs = if (endF r p states offs).shot < 5 then ((0, 0, 0), 6) else (((endF r p states offs).misses, (endF r p states offs).cost, (endF r p states offs).steps), 0) := by
    unfold followV
    rw [if_neg (by omega), if_neg (by omega), if_neg c2, c3, if_neg (by simp), c4, if_neg (by simp)]
  rw [hfv]
  (refine q_nil ?_; refine q_cond_false rfl ?_; refine q_skip ?_; refine q_seq ?_; refine q_region ?_; (iterate 2 refine ql_loadAB tabOk rfl rfl rfl (by repeat first | exact .head _ | refine .tail _ ?_) (by rfl) (by rfl) ?_))
  refine ql_call (β := Nat) tabOk [] _ M0 rfl rfl rfl rfl (Sp.refl _) (fun _ h => h.elim) (fun w' hs => rvalues_ca w' _ r p (h0.keep hs.chg0) hr hp) ?_
  rintro bv _ rfl
  (refine ql_pure tabOk rfl rfl ?_; refine q_nil ?_; refine q_seq ?_)
  refine q_draw _ [] (Sp.refl _) (by kernel_rfl) (by kernel_rfl) ?_
  (refine qf_pure tabOk rfl rfl rfl ?_; refine qf_loadB tabOk rfl rfl rfl (by repeat first | exact .head _ | refine .tail _ ?_) (by rfl) ?_; (iterate 5 refine qf_pure tabOk rfl rfl rfl ?_); refine qf_nil ?_; (iterate 2 refine q_seq ?_); refine q_region ?_; refine ql_pure tabOk rfl rfl ?_; refine q_nil ?_; refine q_block ?_)
  have hfe : states.take states.length = states := List.take_length
  obtain ⟨N, hN⟩ : ∃ N, N = (plcL r p).length := ⟨_, rfl⟩
  have hVN : ((plcL r p).map (valP r p)).length = N := by rw [List.length_map, hN]
  have hVL := valAll hr hp
  rw [← hN]
  refine q_loop (σ := Nat) (fun k => k ≤ states.length ∧ (atF r p states offs k).steps = k) (fun k => states.length - k) (fun k => [(2, .slice sa states.length sc), (3, .slice oa offs.length oc), (4, .pointer (some ⟨b4, 0, none⟩)), (5, .pointer (some ⟨b5, 0, none⟩)), (13, .slice (some ⟨bv, 0, none⟩) N N), (14, .int .i64 (atF r p states offs k).misses), (15, .int .i64 (atF r p states offs k).cost), (16, .int .i64 k), (17, .int .i64 (atF r p states offs k).wt), (18, .int .i64 (atF r p states offs k).cl), (19, .int .i64 (atF r p states offs k).shot)])
    (fun _ => [.pt bv (ints ((plcL r p).map (valP r p))) 3, .pt b4 [.int .i64 r.radius, .int .i64 r.unit, .int .i64 r.clicks, .int .i64 r.total, .slice ag r.group.length cg, .slice ad r.drifts.length cd, .slice af r.first.length cf, .slice an r.next.length cn] 32, .pt b5 [.int .i64 p.miss, .int .i64 p.click, .int .i64 p.wait, .int .i64 p.waits] 33]) 0 ⟨by omega, rfl⟩ ⟨rfl, rfl, rfl, rfl, rfl, rfl, rfl, rfl, rfl, rfl, rfl, trivial⟩ (by repeat (first | exact Sp.nil | exact Sp.refl _ | refine Sp.cons (by repeat constructor) ?_)) ?_
  rintro k ⟨hk, hst⟩ K hK
  have hok := takeF_ok hr hp states offs k hk
  have he5 := atF_end5 r p states offs k
  have hss2 := atF_succ r p states offs k
  rw [show (states.take k).foldl (stepF r p offs) ⟨0, p.waits, 0, 0, 0, 0⟩ = atF r p states offs k from rfl] at hok
  obtain ⟨x, hx⟩ : ∃ x, x = atF r p states offs k := ⟨_, rfl⟩
  rw [← hx] at hok hst he5 hss2 ⊢
  obtain ⟨f1, f2, f3, f4, f5, f6⟩ := hok
  have hk8 : k ≤ 8 := by omega
  ((iterate 2 refine q_seq ?_); refine q_region ?_; (iterate 2 refine ql_pure tabOk rfl rfl ?_); refine q_nil ?_)
  refine q_if rfl (fun hc => ?_) (fun hc => ?_)
  · have hs5 : x.shot < 5 := by omega
    clear hc he5
    (refine q_skip ?_; refine q_block ?_; (iterate 2 refine q_seq ?_); refine q_region ?_; (iterate 4 refine ql_pure tabOk rfl rfl ?_); refine q_nil ?_)
    refine q_if rfl (fun hc => ?_) (fun hc => ?_)
    · have hkl : k = states.length := by omega
      subst hkl
      have hend : endF r p states offs = x := by rw [hx]; unfold atF endF; rw [List.take_length]
      rw [hend, if_pos hs5]
      (refine q_seq ?_; refine q_region ?_; (iterate 4 refine ql_pure tabOk rfl rfl ?_); refine q_nil ?_; refine q_ret ?_)
      refine q_fin tabOk rfl (by repeat (first | exact RVs.nil | apply RVs.tmp rfl | apply RVs.cellA rfl rfl (by repeat first | exact .head _ | refine .tail _ ?_) (by rfl) | apply RVs.cell1 rfl rfl (by repeat first | exact .head _ | refine .tail _ ?_))) fun w hs => ?_
      exact ⟨rfl, hs.chg0⟩
    have hk2 : k < states.length := by omega
    clear hc
    have hss3 := hss2 hk2
    clear hss2
    have hsk := hsb states[k] (List.getElem_mem hk2)
    obtain ⟨bs, os, rfl⟩ := hss (by omega)
    obtain ⟨bo, oo, rfl⟩ := hso (by omega)
    obtain ⟨st, hste⟩ : ∃ st : Nat, states[k] = st := ⟨states[k].toNat, by omega⟩
    obtain ⟨wt, hwte⟩ : ∃ wt : Nat, x.wt = wt := ⟨x.wt.toNat, by omega⟩
    rw [hste] at hss3 hsk
    have hst2 : st < r.drifts.length := by omega
    have hin := plc_in (r := r) (p := p) x.shot wt st x.cl (by omega) (by omega) hst2 f3
    (refine q_skip ?_; refine q_seq ?_; refine q_region ?_; (iterate 2 refine ql_pure tabOk rfl rfl ?_))
    (refine ql_index tabOk rfl rfl rfl rfl rfl (by omega) (by omega) ?_; refine ql_load1 tabOk rfl rfl rfl (fun w hs => RdI.at (RdE.keep hl hs.chg0) k hk2) ?_)
    rw [hste]
    (refine ql_pure tabOk rfl rfl ?_; refine q_nil ?_; refine q_seq ?_; refine q_region ?_; refine ql_pure tabOk rfl rfl ?_; refine ql_ar tabOk rfl rfl rfl rfl (by omega) (by omega) ?_; refine ql_pure tabOk rfl rfl ?_; refine q_nil ?_; refine q_seq ?_; refine q_region ?_; (iterate 2 refine ql_loadAB tabOk rfl rfl rfl (by repeat first | exact .head _ | refine .tail _ ?_) (by rfl) (by rfl) ?_); (iterate 5 refine ql_pure tabOk rfl rfl ?_))
    refine ql_callv (val := .tuple #[.bool (choV r p x.shot wt st x.cl).1.1, .int .i64 (choV r p x.shot wt st x.cl).1.2, .int .i64 (valV r p x.shot wt st x.cl)]) tabOk rfl rfl rfl rfl (fun w hs => ?_) ?_; exact by have := rchoose_ca w _ _ _ r p _ _ x.shot wt st x.cl (h0.keep hs.chg0) hr hp (blk_rdI (c := N) (hs.blk (b := bv) (by repeat first | exact .head _ | refine .tail _ ?_)) hVN.symm) hVL (by omega) (by omega) hst2 f3; rw [tab_full hr hp hin, ← valV_eq r p x.shot wt st x.cl (by omega) (by omega) hst2 f3, ← hwte] at this; exact this
    have hcw := cho_wait (r := r) (p := p) (shot := x.shot) (wt := wt) (st := st) (cl := x.cl)
    have hcc := cho_click (r := r) (p := p) (shot := x.shot) (wt := wt) (st := st) f3
    unfold stepF at hss3
    rw [if_neg (by omega)] at hss3
    simp only [hwte, Int.toNat_natCast] at hss3
    obtain ⟨ch, hch⟩ : ∃ c, c = (choV r p x.shot wt st x.cl).1 := ⟨_, rfl⟩
    rw [← hch] at hcw hcc hss3 ⊢
    obtain ⟨cw, c⟩ := ch
    simp only at hcw hcc hss3
    dsimp only
    cases cw with
    | true =>
      rw [if_pos rfl] at hss3
      have hw0 := (hcw rfl).1
      (refine ql_pure tabOk rfl rfl ?_; (iterate 3 refine ql_ext tabOk rfl rfl rfl ?_); (iterate 3 refine ql_pure tabOk rfl rfl ?_); refine q_nil ?_; (iterate 2 refine q_seq ?_); refine q_region ?_; refine ql_pure tabOk rfl rfl ?_; refine q_nil ?_; refine q_cond_true rfl ?_; refine q_seq ?_; refine q_region ?_; refine ql_pure tabOk rfl rfl ?_; refine ql_ar tabOk rfl rfl rfl rfl (by omega) (by omega) ?_; refine ql_pure tabOk rfl rfl ?_; refine q_nil ?_; refine q_seq ?_; refine q_region ?_; (iterate 2 refine ql_pure tabOk rfl rfl ?_); refine ql_loadB tabOk rfl rfl rfl (by repeat first | exact .head _ | refine .tail _ ?_) (by rfl) ?_; refine ql_ar tabOk rfl rfl rfl rfl (by omega) (by omega) ?_; refine ql_pure tabOk rfl rfl ?_; refine q_nil ?_; refine q_exit _ rfl ?_)
      exact hK (k + 1) _ _ ⟨by omega, by rw [hss3]; simp only; omega⟩ (by omega) ⟨rfl, rfl, rfl, rfl, rfl, by rw [hss3]; rfl, by rw [hss3]; rfl, rfl, by rw [hss3, ← hwte]; rfl, by rw [hss3]; rfl, by rw [hss3]; rfl, trivial⟩ (by repeat (first | exact Sp.nil | exact Sp.refl _ | refine Sp.cons (by repeat constructor) ?_))
    | false =>
      rw [if_neg (by simp)] at hss3
      have hcb := hcc rfl
      have hol : x.shot < offs.length := by omega
      have hdb := hr.drift r.drifts[st] (List.getElem_mem hst2)
      have hofb := hob offs[x.shot] (List.getElem_mem hol)
      have hcu := mul_bd (A := 6) (B := 20) (show -6 ≤ c ∧ c ≤ 6 by omega) (show -20 ≤ r.unit ∧ r.unit ≤ 20 by omega)
      obtain ⟨f, hf0⟩ : ∃ f, f = max (c - x.cl) (x.cl - c) := ⟨_, rfl⟩
      have hfb : 0 ≤ f ∧ f ≤ 12 := by omega
      have mf := mul_bd0 hpc hfb
      obtain ⟨bd, od, rfl⟩ := hsd (by omega)
      have hgd : r.drifts.getD st 0 = r.drifts[st] := by simp [List.getD_eq_getElem?_getD, hst2]
      have hgo : offs.getD x.shot 0 = offs[x.shot] := by simp [List.getD_eq_getElem?_getD, hol]
      simp only [← hf0, hgd, hgo] at hss3
      (refine ql_pure tabOk rfl rfl ?_; (iterate 3 refine ql_ext tabOk rfl rfl rfl ?_); (iterate 3 refine ql_pure tabOk rfl rfl ?_); refine q_nil ?_; (iterate 2 refine q_seq ?_); refine q_region ?_; refine ql_pure tabOk rfl rfl ?_; refine q_nil ?_; refine q_cond_false rfl ?_; refine q_skip ?_; (iterate 2 refine q_seq ?_); refine q_region ?_; (iterate 3 refine ql_pure tabOk rfl rfl ?_); refine q_nil ?_)
      refine q_cut (σ := Unit) (fun _ => [(2, .slice (some ⟨bs, os, none⟩) states.length sc), (3, .slice (some ⟨bo, oo, none⟩) offs.length oc), (4, .pointer (some ⟨b4, 0, none⟩)), (5, .pointer (some ⟨b5, 0, none⟩)), (13, .slice (some ⟨bv, 0, none⟩) N N), (14, .int .i64 x.misses), (15, .int .i64 (x.cost + p.click * f)), (16, .int .i64 ((k : Int) + 1)), (17, .int .i64 x.wt), (19, .int .i64 x.shot), (20, .int .i64 st), (22, .int .i64 c)]) (fun _ => [.pt bv (ints ((plcL r p).map (valP r p))) 3, .pt b4 [.int .i64 r.radius, .int .i64 r.unit, .int .i64 r.clicks, .int .i64 r.total, .slice ag r.group.length cg, .slice (some ⟨bd, od, none⟩) r.drifts.length cd, .slice af r.first.length cf, .slice an r.next.length cn] 32, .pt b5 [.int .i64 p.miss, .int .i64 p.click, .int .i64 p.wait, .int .i64 p.waits] 33]) ?_ (fun K2 hK2 => ?_)
      rotate_left
      · refine q_if rfl (fun hc => ?_) (fun hc => ?_)
        · have hf1 : c - x.cl = f := by omega
          have m2 := mul_bd0 hpc (B := 12) (show 0 ≤ c - x.cl ∧ c - x.cl ≤ 12 by omega)
          (refine q_region ?_; (iterate 2 refine ql_pure tabOk rfl rfl ?_); refine ql_loadB tabOk rfl rfl rfl (by repeat first | exact .head _ | refine .tail _ ?_) (by rfl) ?_; (iterate 2 refine ql_pure tabOk rfl rfl ?_); (iterate 3 refine ql_ar tabOk rfl rfl rfl rfl (by omega) (by omega) ?_); refine ql_pure tabOk rfl rfl ?_; refine q_nil ?_)
          rw [hf1]
          exact hK2 () _ _ ⟨rfl, rfl, rfl, rfl, rfl, rfl, rfl, rfl, rfl, rfl, rfl, rfl, trivial⟩ (by repeat (first | exact Sp.nil | exact Sp.refl _ | refine Sp.cons (by repeat constructor) ?_))
        · have hf1 : x.cl - c = f := by omega
          have m2 := mul_bd0 hpc (B := 12) (show 0 ≤ x.cl - c ∧ x.cl - c ≤ 12 by omega)
          (refine q_region ?_; (iterate 2 refine ql_pure tabOk rfl rfl ?_); refine ql_loadB tabOk rfl rfl rfl (by repeat first | exact .head _ | refine .tail _ ?_) (by rfl) ?_; (iterate 2 refine ql_pure tabOk rfl rfl ?_); (iterate 3 refine ql_ar tabOk rfl rfl rfl rfl (by omega) (by omega) ?_); refine ql_pure tabOk rfl rfl ?_; refine q_nil ?_)
          rw [hf1]
          exact hK2 () _ _ ⟨rfl, rfl, rfl, rfl, rfl, rfl, rfl, rfl, rfl, rfl, rfl, rfl, trivial⟩ (by repeat (first | exact Sp.nil | exact Sp.refl _ | refine Sp.cons (by repeat constructor) ?_))
      rintro ⟨⟩
      (refine q_seq ?_; refine q_region ?_; (iterate 2 refine ql_pure tabOk rfl rfl ?_); refine q_nil ?_; (iterate 2 refine q_seq ?_))
      refine q_draw _ [] (Sp.refl _) (by kernel_rfl) (by kernel_rfl) ?_
      (refine qf_pure tabOk rfl rfl rfl ?_; refine qf_loadB tabOk rfl rfl rfl (by repeat first | exact .head _ | refine .tail _ ?_) (by rfl) ?_; refine qf_pure tabOk rfl rfl rfl ?_)
      (refine qf_index tabOk rfl rfl rfl rfl rfl (by omega) (by omega) ?_; refine qf_load1 tabOk rfl rfl rfl (fun w hs => RdI.at (RdE.keep hdr hs.chg0) st hst2) ?_)
      ((iterate 2 refine qf_pure tabOk rfl rfl rfl ?_))
      (refine qf_index tabOk rfl rfl rfl rfl rfl (by omega) (by omega) ?_; refine qf_load1 tabOk rfl rfl rfl (fun w hs => RdI.at (RdE.keep hu hs.chg0) x.shot hol) ?_)
      (refine qf_ar tabOk rfl rfl rfl rfl (by omega) (by omega) ?_; (iterate 2 refine qf_pure tabOk rfl rfl rfl ?_); refine qf_loadB tabOk rfl rfl rfl (by repeat first | exact .head _ | refine .tail _ ?_) (by rfl) ?_; (iterate 2 refine qf_ar tabOk rfl rfl rfl rfl (by omega) (by omega) ?_); refine qf_pure tabOk rfl rfl rfl ?_; refine qf_loadB tabOk rfl rfl rfl (by repeat first | exact .head _ | refine .tail _ ?_) (by rfl) ?_; refine qf_neg tabOk rfl rfl (by omega) (by omega) ?_; refine qf_pure tabOk rfl rfl rfl ?_; refine qf_loadB tabOk rfl rfl rfl (by repeat first | exact .head _ | refine .tail _ ?_) (by rfl) ?_)
      refine qf_callv (val := .bool (!(hitB r (r.drifts[st] + offs[x.shot] + c * r.unit)))) tabOk rfl rfl rfl rfl (fun w hs => ?_) ?_; exact off_ca (r.drifts[st] + offs[x.shot] + c * r.unit) (-r.radius) r.radius w
      cases hh : hitB r (r.drifts[st] + offs[x.shot] + c * r.unit) with
      | true =>
        rw [hh, if_pos rfl] at hss3
        (refine qf_nil ?_; refine q_cond_false rfl ?_; refine q_skip ?_; refine q_region ?_; refine ql_pure tabOk rfl rfl ?_; refine ql_ar tabOk rfl rfl rfl rfl (by omega) (by omega) ?_; refine ql_pure tabOk rfl rfl ?_; refine q_nil ?_; refine q_blk ?_)
        exact hK (k + 1) _ _ ⟨by omega, by rw [hss3]; simp only; omega⟩ (by omega) ⟨rfl, rfl, rfl, rfl, rfl, by rw [hss3]; rfl, by rw [hss3]; rfl, rfl, by rw [hss3, ← hwte]; rfl, by rw [hss3]; rfl, by rw [hss3]; rfl, trivial⟩ (by repeat (first | exact Sp.nil | exact Sp.refl _ | refine Sp.cons (by repeat constructor) ?_))
      | false =>
        rw [hh, if_neg (by simp)] at hss3
        (refine qf_nil ?_; refine q_cond_true rfl ?_; refine q_seq ?_; refine q_region ?_; refine ql_pure tabOk rfl rfl ?_; refine ql_ar tabOk rfl rfl rfl rfl (by omega) (by omega) ?_; refine ql_pure tabOk rfl rfl ?_; refine q_nil ?_; refine q_region ?_; (iterate 2 refine ql_pure tabOk rfl rfl ?_); refine ql_loadB tabOk rfl rfl rfl (by repeat first | exact .head _ | refine .tail _ ?_) (by rfl) ?_; refine ql_ar tabOk rfl rfl rfl rfl (by omega) (by omega) ?_; refine ql_pure tabOk rfl rfl ?_; refine q_nil ?_; refine q_region ?_; refine ql_pure tabOk rfl rfl ?_; refine ql_ar tabOk rfl rfl rfl rfl (by omega) (by omega) ?_; refine ql_pure tabOk rfl rfl ?_; refine q_nil ?_; refine q_blk ?_)
        exact hK (k + 1) _ _ ⟨by omega, by rw [hss3]; simp only; omega⟩ (by omega) ⟨rfl, rfl, rfl, rfl, rfl, by rw [hss3]; rfl, by rw [hss3]; rfl, rfl, by rw [hss3, ← hwte]; rfl, by rw [hss3]; rfl, by rw [hss3]; rfl, trivial⟩ (by repeat (first | exact Sp.nil | exact Sp.refl _ | refine Sp.cons (by repeat constructor) ?_))
  · have hs5 : x.shot = 5 := by omega
    rw [he5 hs5, if_neg (by omega)]
    (refine q_exit _ rfl ?_; refine q_seq ?_; refine q_region ?_; (iterate 7 refine ql_pure tabOk rfl rfl ?_); refine q_nil ?_; refine q_ret ?_)
    refine q_fin tabOk rfl (by repeat (first | exact RVs.nil | apply RVs.tmp rfl | apply RVs.cellA rfl rfl (by repeat first | exact .head _ | refine .tail _ ?_) (by rfl) | apply RVs.cell1 rfl rfl (by repeat first | exact .head _ | refine .tail _ ?_))) fun w hs => ?_
    exact ⟨by rw [hst]; rfl, hs.chg0⟩
end Go.Proofs.Ytohlillcaadidaa

/- The walk of WindPlays. -/
namespace Go.Proofs.Ytohlillcaadidaa
open Go Go.Eng

set_option maxRecDepth 40000 in
set_option maxHeartbeats 16000000 in
theorem windPlays_ca (w : World) (l0 h1_ l2 h3_ : Nat) (cs : List Value) (r : Rg) (p : Ru) (vs vo : Value) (st of : List Int) (h : RgC w cs r) (hst : RdI w l0 h1_ vs st) (hof : RdI w l2 h3_ vo of) (hl : r.next.length ≤ maxLen) (n2 : st.length ≤ maxLen) (n3 : of.length ≤ maxLen) :
    Ca Try.prog 4 [.agg cs.toArray, .agg #[.int .i64 p.miss, .int .i64 p.click, .int .i64 p.wait, .int .i64 p.waits], vs, vo] w fun r w' => r = .bool true ∧ Chg [] w w' := by
  have h0 := h
  obtain ⟨lo, hi, ag, cg, ad, cd, af, cf, an, cn, rfl, hg, hdr, hf, hn⟩ := h
  obtain ⟨sa, sc, rfl, _⟩ := RdI.outI hst
  obtain ⟨oa, oc, rfl, _⟩ := RdI.outI hof
  simp only [maxLen] at n2 n3
  refine q_of (Sat.nil w M0) Try.func4 rfl (by simp [Try.ntmps4]) ?_
  (refine q_seq ?_; refine q_region ?_)
  refine ql_box rfl rfl (fun b4 => ?_)
  refine ql_box rfl rfl (fun b5 => ?_)
  (refine ql_pure tabOk rfl rfl ?_; refine q_nil ?_; (iterate 2 refine q_seq ?_); refine q_region ?_; refine ql_loadAB tabOk rfl rfl rfl (by repeat first | exact .head _ | refine .tail _ ?_) (by rfl) (by rfl) ?_)
  refine ql_call (β := Bool) tabOk [] _ M0 rfl rfl rfl rfl (Sp.refl _) (fun _ h => h.elim) (fun w' hs => long_ca w' _ r (h0.keep hs.chg0) hl) ?_
  rintro b _ ⟨rfl, hsm⟩
  cases b with
  | true =>
    (refine ql_pure tabOk rfl rfl ?_; (iterate 3 refine ql_gno rfl rfl rfl ?_); (iterate 2 refine ql_pure tabOk rfl rfl ?_); (iterate 3 refine ql_gno rfl rfl rfl ?_); refine ql_pure tabOk rfl rfl ?_; refine q_nil ?_; refine q_cond_true rfl ?_; refine q_seq ?_; refine q_region ?_)
    refine ql_callv (val := .bool true) tabOk rfl rfl rfl rfl (fun w hs => ?_) ?_; exact awake_ca w
    (refine ql_pure tabOk rfl rfl ?_; refine q_nil ?_; refine q_ret ?_)
    refine q_fin tabOk rfl (by repeat (first | exact RVs.nil | apply RVs.tmp rfl | apply RVs.cellA rfl rfl (by repeat first | exact .head _ | refine .tail _ ?_) (by rfl) | apply RVs.cell1 rfl rfl (by repeat first | exact .head _ | refine .tail _ ?_))) fun w hs => ?_
    exact ⟨rfl, hs.chg0⟩
  | false =>
  replace hsm := hsm rfl
  (refine ql_pure tabOk rfl rfl ?_; refine ql_gyes rfl ?_; refine ql_pure tabOk rfl rfl ?_; refine ql_gyes rfl ?_; refine ql_pure tabOk rfl rfl ?_; refine ql_gyes rfl ?_; (iterate 3 refine ql_pure tabOk rfl rfl ?_))
  refine ql_split rfl rfl (fun hc => ?_) (fun hc => ?_)
  · ((iterate 3 refine ql_gno rfl rfl rfl ?_); refine ql_pure tabOk rfl rfl ?_; refine q_nil ?_; refine q_cond_true rfl ?_; refine q_seq ?_; refine q_region ?_)
    refine ql_callv (val := .bool true) tabOk rfl rfl rfl rfl (fun w hs => ?_) ?_; exact awake_ca w
    (refine ql_pure tabOk rfl rfl ?_; refine q_nil ?_; refine q_ret ?_)
    refine q_fin tabOk rfl (by repeat (first | exact RVs.nil | apply RVs.tmp rfl | apply RVs.cellA rfl rfl (by repeat first | exact .head _ | refine .tail _ ?_) (by rfl) | apply RVs.cell1 rfl rfl (by repeat first | exact .head _ | refine .tail _ ?_))) fun w hs => ?_
    exact ⟨rfl, hs.chg0⟩
  have c2 := of_decide_eq_false hc
  clear hc
  (refine ql_gyes rfl ?_; refine ql_pure tabOk rfl rfl ?_; refine ql_gyes rfl ?_; refine ql_pure tabOk rfl rfl ?_; refine ql_gyes rfl ?_; (iterate 2 refine ql_pure tabOk rfl rfl ?_); refine q_nil ?_)
  refine q_if rfl (fun hc => ?_) (fun hc => ?_)
  · (refine q_seq ?_; refine q_region ?_)
    refine ql_callv (val := .bool true) tabOk rfl rfl rfl rfl (fun w hs => ?_) ?_; exact awake_ca w
    (refine ql_pure tabOk rfl rfl ?_; refine q_nil ?_; refine q_ret ?_)
    refine q_fin tabOk rfl (by repeat (first | exact RVs.nil | apply RVs.tmp rfl | apply RVs.cellA rfl rfl (by repeat first | exact .head _ | refine .tail _ ?_) (by rfl) | apply RVs.cell1 rfl rfl (by repeat first | exact .head _ | refine .tail _ ?_))) fun w hs => ?_
    exact ⟨rfl, hs.chg0⟩
  have c3 : of.length ≤ 8 := by omega
  clear hc
  (refine q_skip ?_; refine q_seq ?_; refine q_region ?_; refine ql_loadAB tabOk rfl rfl rfl (by repeat first | exact .head _ | refine .tail _ ?_) (by rfl) (by rfl) ?_)
  refine ql_call (β := Cp r) tabOk [] _ M0 rfl rfl rfl rfl (Sp.refl _) (fun _ h => h.elim) (fun w' hs => cloneR_cp w' _ r (h0.keep hs.chg0) hsm) ?_
  rintro x1 _ rfl
  (refine ql_pure tabOk rfl rfl ?_)
  refine ql_call (β := Value) (L' := fun x => [.ow x 3 1 st.length (ints st)]) tabOk [] _ M0 rfl rfl rfl rfl (Sp.refl _) (fun _ h => h.elim) (fun w' hs => cloneI_ca w' _ _ _ st (RdE.keep hst hs.chg0) (by omega)) ?_
  rintro _ x2 rfl
  (refine ql_pure tabOk rfl rfl ?_)
  refine ql_call (β := Value) (L' := fun x => [.ow x 3 1 of.length (ints of)]) tabOk [] _ M0 rfl rfl rfl rfl (Sp.refl _) (fun _ h => h.elim) (fun w' hs => cloneI_ca w' _ _ _ of (RdE.keep hof hs.chg0) (by omega)) ?_
  rintro _ x3 rfl
  skip
  refine ql_alloc zero25 rfl (fun b9 => ?_)
  (refine ql_setA tabOk rfl rfl rfl rfl rfl (by repeat constructor) rfl ?_; (iterate 2 refine ql_pure tabOk rfl rfl ?_); refine q_nil ?_; refine q_seq ?_; refine q_region ?_; (iterate 2 refine ql_loadAB tabOk rfl rfl rfl (by repeat first | exact .head _ | refine .tail _ ?_) (by rfl) (by rfl) ?_); (iterate 2 refine ql_pure tabOk rfl rfl ?_))
  refine ql_callv (val := .tuple #[.agg #[.int .i64 (followV r p st of).1.1, .int .i64 (followV r p st of).1.2.1, .int .i64 (followV r p st of).1.2.2], .int .i64 (followV r p st of).2]) tabOk rfl rfl rfl rfl (fun w hs => ?_) ?_; exact follow_ca w _ _ _ _ _ r p _ _ st of (Cp.at2 x1 r rfl rfl rfl rfl hs (by repeat first | exact .head _ | refine .tail _ ?_)) hsm (hs.rdI (l := st) (t := 3) (n := st.length) (by repeat first | exact .head _ | refine .tail _ ?_) rfl) (hs.rdI (l := of) (t := 3) (n := of.length) (by repeat first | exact .head _ | refine .tail _ ?_) rfl) (by omega) (by omega)
  (refine ql_pure tabOk rfl rfl ?_; (iterate 2 refine ql_ext tabOk rfl rfl rfl ?_))
  refine ql_alloc zero55 rfl (fun b12 => ?_)
  (refine ql_setA tabOk rfl rfl rfl rfl rfl (by repeat constructor) rfl ?_; refine ql_pure tabOk rfl rfl ?_; refine q_nil ?_; refine q_seq ?_)
  refine q_draw _ [] (Sp.refl _) (by kernel_rfl) (by kernel_rfl) ?_
  (refine qf_loadAB tabOk rfl rfl rfl (by repeat first | exact .head _ | refine .tail _ ?_) (by rfl) (by rfl) ?_)
  refine qf_call (β := Cp r) tabOk [] _ M0 rfl rfl rfl rfl (Sp.refl _) (fun _ h => h.elim) (fun w' hs => cloneR_cp w' _ r (h0.keep hs.chg0) hsm) ?_
  rintro x4 _ rfl
  (refine qf_loadAB tabOk rfl rfl rfl (by repeat first | exact .head _ | refine .tail _ ?_) (by rfl) (by rfl) ?_; (iterate 2 refine qf_pure tabOk rfl rfl rfl ?_))
  refine qf_callv (val := .tuple #[.int .i64 (followV r p st of).1.1, .int .i64 (followV r p st of).1.2.1, .int .i64 (followV r p st of).1.2.2, .int .i64 (followV r p st of).2]) tabOk rfl rfl rfl rfl (fun w hs => ?_) ?_; exact rfollow_ca w _ _ _ _ _ r p _ _ st of (Cp.at2 x4 r rfl rfl rfl rfl hs (by repeat first | exact .head _ | refine .tail _ ?_)) hsm (RdE.keep hst hs.chg0) (RdE.keep hof hs.chg0) (by omega) (by omega)
  (refine qf_pure tabOk rfl rfl rfl ?_; (iterate 4 refine qf_ext tabOk rfl rfl rfl ?_); (iterate 4 refine qf_pure tabOk rfl rfl rfl ?_); refine qf_nil ?_; refine q_seq ?_; refine q_region ?_; (iterate 2 refine ql_pure tabOk rfl rfl ?_); refine ql_eqlT tabOk rfl rfl rfl (by omega) ?_; refine ql_pure tabOk rfl rfl ?_; refine ql_gyes rfl ?_; refine ql_loadAB tabOk rfl rfl rfl (by repeat first | exact .head _ | refine .tail _ ?_) (by rfl) (by rfl) ?_; refine ql_gyes rfl ?_; refine ql_pure tabOk rfl rfl ?_; refine ql_gyes rfl ?_; refine ql_pure tabOk rfl rfl ?_; refine ql_gyes rfl ?_; refine ql_pure tabOk rfl rfl ?_; refine ql_gyes rfl ?_)
  refine ql_mk #[.int .i64 (followV r p st of).1.1, .int .i64 (followV r p st of).1.2.1, .int .i64 (followV r p st of).1.2.2] rfl (by kernel_rfl) rfl ?_
  (refine ql_gyes rfl ?_)
  refine ql_eqF (xs := [.int .i64 (followV r p st of).1.1, .int .i64 (followV r p st of).1.2.1, .int .i64 (followV r p st of).1.2.2]) (ys := [.int .i64 (followV r p st of).1.1, .int .i64 (followV r p st of).1.2.1, .int .i64 (followV r p st of).1.2.2]) [some .i64, some .i64, some .i64] ply_flat rfl rfl rfl rfl rfl ?_
  rw [eqL_refl]
  ((iterate 2 refine ql_pure tabOk rfl rfl ?_); refine ql_gyes rfl ?_; refine ql_loadAB tabOk rfl rfl rfl (by repeat first | exact .head _ | refine .tail _ ?_) (by rfl) (by rfl) ?_; refine ql_gyes rfl ?_; refine ql_loadAB tabOk rfl rfl rfl (by repeat first | exact .head _ | refine .tail _ ?_) (by rfl) (by rfl) ?_; refine ql_gyes rfl ?_)
  refine ql_callv (val := .bool true) tabOk rfl rfl rfl rfl (fun w hs => ?_) ?_; exact same_ca w _ _ r (Cp.at2 x1 r rfl rfl rfl rfl hs (by repeat first | exact .head _ | refine .tail _ ?_)) (h0.keep hs.chg0) hsm
  ((iterate 2 refine ql_pure tabOk rfl rfl ?_); refine ql_gyes rfl ?_; refine ql_pure tabOk rfl rfl ?_; refine ql_gyes rfl ?_; refine ql_pure tabOk rfl rfl ?_; refine ql_gyes rfl ?_)
  refine ql_callv (val := .bool true) tabOk rfl rfl rfl rfl (fun w hs => ?_) ?_; exact eqI_ca w _ _ _ _ _ _ st (hs.rdI (l := st) (t := 3) (n := st.length) (by repeat first | exact .head _ | refine .tail _ ?_) rfl) (RdE.keep hst hs.chg0) (by omega)
  ((iterate 2 refine ql_pure tabOk rfl rfl ?_); refine ql_gyes rfl ?_; refine ql_pure tabOk rfl rfl ?_; refine ql_gyes rfl ?_; refine ql_pure tabOk rfl rfl ?_; refine ql_gyes rfl ?_)
  refine ql_callv (val := .bool true) tabOk rfl rfl rfl rfl (fun w hs => ?_) ?_; exact eqI_ca w _ _ _ _ _ _ of (hs.rdI (l := of) (t := 3) (n := of.length) (by repeat first | exact .head _ | refine .tail _ ?_) rfl) (RdE.keep hof hs.chg0) (by omega)
  ((iterate 2 refine ql_pure tabOk rfl rfl ?_); refine ql_gyes rfl ?_)
  refine ql_callv (val := .bool true) tabOk rfl rfl rfl rfl (fun w hs => ?_) ?_; exact awake_ca w
  ((iterate 2 refine ql_pure tabOk rfl rfl ?_); refine q_nil ?_; refine q_ret ?_)
  refine q_fin tabOk rfl (by repeat (first | exact RVs.nil | apply RVs.tmp rfl | apply RVs.cellA rfl rfl (by repeat first | exact .head _ | refine .tail _ ?_) (by rfl) | apply RVs.cell1 rfl rfl (by repeat first | exact .head _ | refine .tail _ ?_))) fun w hs => ?_
  exact ⟨rfl, hs.chg0⟩
end Go.Proofs.Ytohlillcaadidaa
