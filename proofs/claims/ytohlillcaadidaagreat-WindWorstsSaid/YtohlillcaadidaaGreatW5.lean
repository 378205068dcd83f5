/- My texts E13, E14, M5, joined: a claim takes at most 60 files. -/
import Derived.Test.YtohlillcaadidaaGreatW4

/- Walks of the reference: the worst wind. -/
namespace Go.Proofs.YtohlillcaadidaaGreat
open Go Go.Eng

theorem blown_3 {r : Rg} {ws : List (Int × Int)} (h0 : checkV r = 0) (h5 : ws.length = 5) (i : Nat) (hi : i < ws.length) (h : spB 300 ws[i] = false) : blownV r ws = 3 := by
  unfold blownV
  rw [if_neg (by omega), if_neg (by omega), if_pos]
  rw [List.all_eq_false.2 ⟨ws[i], List.getElem_mem hi, by simp [h]⟩]
  rfl
theorem rwinds_ca (w : World) (l0 h1 : Nat) (cs : List Value) (r : Rg) (v : Value) (ws : List (Int × Int)) (h : RgC w cs r) (hsm : r.Small) (hl : RdS w l0 h1 v ws) (hlen : ws.length < 1000000) : Ca Tryz.prog 43 [.agg cs.toArray, v] w fun v w' => v = .int .i64 (blownV r ws) ∧ Chg [] w w' := by
  have h0 := h
  obtain ⟨lo, hi, ag, cg, ad, cd, af, cf, an, cn, rfl, hg, hdr, hf, hn⟩ := h
  obtain ⟨a, ca, rfl, hsa⟩ := RdS.outI hl
  refine q_of (Sat.nil w M0) Tryz.func43 rfl (by simp [Tryz.ntmps43]) ?_
  (refine q_seq ?_; refine q_region ?_)
  refine ql_box rfl rfl (fun b2 => ?_)
  (refine ql_pure tabOk rfl rfl ?_; refine q_nil ?_; (iterate 2 refine q_seq ?_); refine q_region ?_; refine ql_loadAB tabOk rfl rfl rfl (by repeat first | exact .head _ | refine .tail _ ?_) (by rfl) (by rfl) ?_)
  refine ql_callv (val := .int .i64 (checkV r)) tabOk rfl rfl rfl rfl (fun w hs => ?_) ?_; exact rcheck_ca w _ r (h0.keep hs.chg0) hsm
  (refine ql_pure tabOk rfl rfl ?_; refine q_nil ?_; refine q_seq ?_; refine q_region ?_; (iterate 2 refine ql_pure tabOk rfl rfl ?_); refine q_nil ?_)
  refine q_ifn rfl (fun hc => ?_) (fun hc => ?_)
  · (refine q_seq ?_; refine q_region ?_; (iterate 2 refine ql_pure tabOk rfl rfl ?_); refine q_nil ?_; refine q_ret ?_)
    refine q_fin tabOk rfl (by repeat (first | exact RVs.nil | apply RVs.tmp rfl | apply RVs.cellA rfl rfl (by repeat first | exact .head _ | refine .tail _ ?_) (by rfl) | apply RVs.cell1 rfl rfl (by repeat first | exact .head _ | refine .tail _ ?_))) fun w hs => ?_
    exact ⟨by rw [blownV, if_pos hc]; rfl, hs.chg0⟩
  have hck : checkV r = 0 := by simpa using hc
  clear hc
  (refine q_skip ?_; (iterate 2 refine q_seq ?_); refine q_region ?_; (iterate 3 refine ql_pure tabOk rfl rfl ?_); refine q_nil ?_)
  refine q_ifn rfl (fun hc => ?_) (fun hc => ?_)
  · (refine q_seq ?_; refine q_region ?_; refine ql_pure tabOk rfl rfl ?_; refine q_nil ?_; refine q_ret ?_)
    refine q_fin tabOk rfl (by repeat (first | exact RVs.nil | apply RVs.tmp rfl | apply RVs.cellA rfl rfl (by repeat first | exact .head _ | refine .tail _ ?_) (by rfl) | apply RVs.cell1 rfl rfl (by repeat first | exact .head _ | refine .tail _ ?_))) fun w hs => ?_
    exact ⟨by rw [blownV, if_neg (by omega), if_pos hc]; rfl, hs.chg0⟩
  have h5 : ws.length = 5 := by omega
  clear hc
  have herr := blown_3 hck h5
  (refine q_skip ?_; (iterate 2 refine q_seq ?_); refine q_region ?_; refine ql_pure tabOk rfl rfl ?_; refine q_nil ?_; refine q_block ?_)
  refine q_loop (σ := Nat) (fun k => k ≤ 5 ∧ (ws.take k).all (spB 300) = true) (fun k => 5 - k) (fun k => [(1, .slice a ws.length ca), (2, .pointer (some ⟨b2, 0, none⟩)), (6, .int .i64 k)])
    (fun _ => []) 0 ⟨by omega, rfl⟩ ⟨rfl, rfl, rfl, trivial⟩ .nil ?_
  rintro k ⟨hk, hall⟩ K hK
  ((iterate 2 refine q_seq ?_); refine q_region ?_; (iterate 2 refine ql_pure tabOk rfl rfl ?_); refine q_nil ?_)
  refine q_if rfl (fun hc => ?_) (fun hc => ?_)
  · have hk1 : k < ws.length := by omega
    clear hc
    obtain ⟨ba, oa, rfl⟩ := hsa (by omega)
    have he := herr k hk1
    (refine q_skip ?_; refine q_seq ?_; refine q_block ?_; refine q_seq ?_)
    refine q_draw _ [] (Sp.refl _) (by kernel_rfl) (by kernel_rfl) ?_
    ((iterate 2 refine qf_pure tabOk rfl rfl rfl ?_))
    refine qf_index tabOk rfl rfl rfl rfl rfl (by omega) (by omega) ?_
    (refine qf_pure tabOk rfl rfl rfl ?_)
    refine qf_load1 (v := .int .i64 ws[k].1) tabOk rfl rfl rfl (fun w hs => RdS.at0 (RdE.keep hl hs.chg0) k hk1) ?_
    ((iterate 2 refine qf_pure tabOk rfl rfl rfl ?_))
    refine qf_index tabOk rfl rfl rfl rfl rfl (by omega) (by omega) ?_
    (refine qf_pure tabOk rfl rfl rfl ?_)
    refine qf_load1 (v := .int .i64 ws[k].2) tabOk rfl rfl rfl (fun w hs => RdS.at1 (RdE.keep hl hs.chg0) k hk1) ?_
    ((iterate 2 refine qf_pure tabOk rfl rfl rfl ?_))
    refine qf_split rfl rfl (fun hc => ?_) (fun hc => ?_)
    · ((iterate 6 refine qf_gno rfl rfl rfl ?_); (iterate 2 refine qf_pure tabOk rfl rfl rfl ?_); (iterate 6 refine qf_gno rfl rfl rfl ?_); refine qf_pure tabOk rfl rfl rfl ?_; refine qf_nil ?_; refine q_cond_true rfl ?_; refine q_seq ?_; refine q_region ?_; refine ql_pure tabOk rfl rfl ?_; refine q_nil ?_; refine q_ret ?_)
      refine q_fin tabOk rfl (by repeat (first | exact RVs.nil | apply RVs.tmp rfl | apply RVs.cellA rfl rfl (by repeat first | exact .head _ | refine .tail _ ?_) (by rfl) | apply RVs.cell1 rfl rfl (by repeat first | exact .head _ | refine .tail _ ?_))) fun w hs => ?_
      exact ⟨by rw [he (by cases hh : spB 300 ws[k] with | false => rfl | true => have := spB_iff.1 hh; simp at hc; omega)]; rfl, hs.chg0⟩
    have d1 := of_decide_eq_false hc
    clear hc
    (refine qf_gyes rfl ?_; refine qf_pure tabOk rfl rfl rfl ?_; refine qf_gyes rfl ?_; refine qf_pure tabOk rfl rfl rfl ?_; refine qf_gyes rfl ?_)
    refine qf_index tabOk rfl rfl rfl rfl rfl (by omega) (by omega) ?_
    (refine qf_gyes rfl ?_; refine qf_pure tabOk rfl rfl rfl ?_; refine qf_gyes rfl ?_)
    refine qf_load1 (v := .int .i64 ws[k].1) tabOk rfl rfl rfl (fun w hs => RdS.at0 (RdE.keep hl hs.chg0) k hk1) ?_
    (refine qf_gyes rfl ?_; (iterate 3 refine qf_pure tabOk rfl rfl rfl ?_))
    refine qf_split rfl rfl (fun hc => ?_) (fun hc => ?_)
    · ((iterate 6 refine qf_gno rfl rfl rfl ?_); refine qf_pure tabOk rfl rfl rfl ?_; refine qf_nil ?_; refine q_cond_true rfl ?_; refine q_seq ?_; refine q_region ?_; refine ql_pure tabOk rfl rfl ?_; refine q_nil ?_; refine q_ret ?_)
      refine q_fin tabOk rfl (by repeat (first | exact RVs.nil | apply RVs.tmp rfl | apply RVs.cellA rfl rfl (by repeat first | exact .head _ | refine .tail _ ?_) (by rfl) | apply RVs.cell1 rfl rfl (by repeat first | exact .head _ | refine .tail _ ?_))) fun w hs => ?_
      exact ⟨by rw [he (by cases hh : spB 300 ws[k] with | false => rfl | true => have := spB_iff.1 hh; simp at hc; omega)]; rfl, hs.chg0⟩
    have d2 := of_decide_eq_false hc
    clear hc
    (refine qf_gyes rfl ?_; refine qf_pure tabOk rfl rfl rfl ?_; refine qf_gyes rfl ?_; refine qf_pure tabOk rfl rfl rfl ?_; refine qf_gyes rfl ?_)
    refine qf_index tabOk rfl rfl rfl rfl rfl (by omega) (by omega) ?_
    (refine qf_gyes rfl ?_; refine qf_pure tabOk rfl rfl rfl ?_; refine qf_gyes rfl ?_)
    refine qf_load1 (v := .int .i64 ws[k].2) tabOk rfl rfl rfl (fun w hs => RdS.at1 (RdE.keep hl hs.chg0) k hk1) ?_
    (refine qf_gyes rfl ?_; (iterate 2 refine qf_pure tabOk rfl rfl rfl ?_); refine qf_nil ?_)
    refine q_if rfl (fun hc => ?_) (fun hc => ?_)
    · (refine q_seq ?_; refine q_region ?_; refine ql_pure tabOk rfl rfl ?_; refine q_nil ?_; refine q_ret ?_)
      refine q_fin tabOk rfl (by repeat (first | exact RVs.nil | apply RVs.tmp rfl | apply RVs.cellA rfl rfl (by repeat first | exact .head _ | refine .tail _ ?_) (by rfl) | apply RVs.cell1 rfl rfl (by repeat first | exact .head _ | refine .tail _ ?_))) fun w hs => ?_
      exact ⟨by rw [he (by cases hh : spB 300 ws[k] with | false => rfl | true => have := spB_iff.1 hh; omega)]; rfl, hs.chg0⟩
    · (refine q_skip ?_; refine q_blk ?_; refine q_region ?_; refine ql_pure tabOk rfl rfl ?_; refine ql_ar tabOk rfl rfl rfl rfl (by omega) (by omega) ?_; refine ql_pure tabOk rfl rfl ?_; refine q_nil ?_)
      exact hK (k + 1) _ _ ⟨by omega, all_take_succ hk1 hall (spB_iff.2 (by omega))⟩ (by omega) ⟨rfl, rfl, rfl, trivial⟩ (by repeat (first | exact Sp.nil | exact Sp.refl _ | refine Sp.cons (by repeat constructor) ?_))
  · obtain rfl : k = 5 := by omega
    clear hc hK
    rw [List.take_of_length_le (by omega)] at hall
    (refine q_exit _ rfl ?_; refine q_seq ?_; refine q_region ?_; refine ql_pure tabOk rfl rfl ?_; refine q_nil ?_; refine q_ret ?_)
    refine q_fin tabOk rfl (by repeat (first | exact RVs.nil | apply RVs.tmp rfl | apply RVs.cellA rfl rfl (by repeat first | exact .head _ | refine .tail _ ?_) (by rfl) | apply RVs.cell1 rfl rfl (by repeat first | exact .head _ | refine .tail _ ?_))) fun w hs => ?_
    exact ⟨by rw [blownV, if_neg (by omega), if_neg (by omega), hall, if_neg (by simp)]; rfl, hs.chg0⟩

theorem rfaced_ca (w : World) (l0 h1 : Nat) (cs : List Value) (r : Rg) (v : Value) (l : List Int) (click : Int) (h : RgC w cs r) (hr : r.Right) (hl : RdI w l0 h1 v l) (hlen : l.length ≤ 1000000) (hb : ∀ x ∈ l, -1000000 ≤ x ∧ x ≤ 1000000) (hck : -1000 ≤ click ∧ click ≤ 1000) :
    Ca Tryz.prog 12 [.agg cs.toArray, v, .int .i64 click] w fun v w' => v = rtV (facedV r l click) ∧ Chg [] w w' := by
  have h0 := h
  obtain ⟨lo, hi, ag, cg, ad, cd, af, cf, an, cn, rfl, hg, hdr, hf, hn⟩ := h
  obtain ⟨a, ca, rfl, hsa⟩ := RdI.outI hl
  have hg2 := hr.g2
  have hgs := hr.gsum
  refine q_of (Sat.nil w M0) Tryz.func12 rfl (by simp [Tryz.ntmps12]) ?_
  (refine q_seq ?_; refine q_region ?_)
  refine ql_box rfl rfl (fun b3 => ?_)
  refine ql_alloc zero36 rfl (fun b6 => ?_)
  (refine q_nil ?_; refine q_seq ?_; refine q_region ?_; refine ql_pure tabOk rfl rfl ?_; refine q_nil ?_; (iterate 2 refine q_seq ?_); refine q_region ?_; refine ql_pure tabOk rfl rfl ?_; refine q_nil ?_; refine q_block ?_)
  refine q_loop (σ := Nat) (fun k => k ≤ l.length) (fun k => l.length - k) (fun k => [(1, .slice a l.length ca), (2, .int .i64 click), (3, .pointer (some ⟨b3, 0, none⟩)), (6, .pointer (some ⟨b6, 0, none⟩)), (7, .int .i64 (facS r l click k)), (8, .int .i64 k)])
    (fun _ => [.pt b6 [.int .i64 0, .int .i64 0] 36, .pt b3 [.int .i64 r.radius, .int .i64 r.unit, .int .i64 r.clicks, .int .i64 r.total, .slice ag r.group.length cg, .slice ad r.drifts.length cd, .slice af r.first.length cf, .slice an r.next.length cn] 34]) 0 (by omega) ⟨rfl, rfl, rfl, rfl, rfl, rfl, trivial⟩ (by repeat (first | exact Sp.nil | exact Sp.refl _ | refine Sp.cons (by repeat constructor) ?_)) ?_
  intro k hk K hK
  have hfb := facS_bd r hr l click k
  ((iterate 2 refine q_seq ?_); refine q_region ?_; (iterate 4 refine ql_pure tabOk rfl rfl ?_); refine q_nil ?_)
  refine q_if rfl (fun hc => ?_) (fun hc => ?_)
  · have hk2 : k < l.length := by omega
    clear hc
    obtain ⟨ba, oa, rfl⟩ := hsa (by omega)
    have hxb := hb l[k] (List.getElem_mem hk2)
    have hmb := missS_bd r hr l[k] click
    have hst := facS_succ r l click k hk2
    (refine q_skip ?_; refine q_seq ?_; refine q_block ?_)
    refine q_draw _ [] (Sp.refl _) (by kernel_rfl) (by kernel_rfl) ?_
    (refine qf_pure tabOk rfl rfl rfl ?_; refine qf_loadAB tabOk rfl rfl rfl (by repeat first | exact .head _ | refine .tail _ ?_) (by rfl) (by rfl) ?_; (iterate 2 refine qf_pure tabOk rfl rfl rfl ?_))
    (refine qf_index tabOk rfl rfl rfl rfl rfl (by omega) (by omega) ?_; refine qf_load1 tabOk rfl rfl rfl (fun w hs => RdI.at (RdE.keep hl hs.chg0) k hk2) ?_)
    (refine qf_pure tabOk rfl rfl rfl ?_)
    refine qf_callv (val := .int .i64 (missS r l[k] click)) tabOk rfl rfl rfl rfl (fun w hs => ?_) ?_; exact misses_ca w _ r _ click (h0.keep hs.chg0) hr hxb hck
    (refine qf_ar tabOk rfl rfl rfl rfl (by omega) (by omega) ?_; refine qf_pure tabOk rfl rfl rfl ?_; refine qf_nil ?_; refine q_blk ?_; refine q_region ?_; refine ql_pure tabOk rfl rfl ?_; refine ql_ar tabOk rfl rfl rfl rfl (by omega) (by omega) ?_; refine ql_pure tabOk rfl rfl ?_; refine q_nil ?_)
    exact hK (k + 1) _ _ (by omega) (by omega) ⟨rfl, rfl, rfl, rfl, by rw [hst]; rfl, rfl, trivial⟩ (by repeat (first | exact Sp.nil | exact Sp.refl _ | refine Sp.cons (by repeat constructor) ?_))
  · obtain rfl : k = l.length := by omega
    clear hc hK
    (refine q_exit _ rfl ?_; refine q_seq ?_; refine q_region ?_; (iterate 2 refine ql_pure tabOk rfl rfl ?_); refine ql_loadB tabOk rfl rfl rfl (by repeat first | exact .head _ | refine .tail _ ?_) (by rfl) ?_)
    refine ql_callv (val := .int .i64 r.group.sum) tabOk rfl rfl rfl rfl (fun w hs => ?_) ?_; exact rtotal_ca w lo hi _ r.group (RdE.keep hg hs.chg0) (by omega) (fun x hx => by have := hr.weight x hx; omega)
    skip
    refine ql_callv (val := rtV (facedV r l click)) tabOk rfl rfl rfl rfl (fun w hs => ?_) ?_; exact lowest_ca (facS r l click l.length) r.group.sum w (by omega) (by omega) (by omega) (by omega)
    (refine ql_setA tabOk rfl rfl rfl rfl rfl (by repeat constructor) rfl ?_; refine q_nil ?_; refine q_ret ?_)
    refine q_fin tabOk rfl (by repeat (first | exact RVs.nil | apply RVs.tmp rfl | apply RVs.cellA rfl rfl (by repeat first | exact .head _ | refine .tail _ ?_) (by rfl) | apply RVs.cell1 rfl rfl (by repeat first | exact .head _ | refine .tail _ ?_))) fun w hs => ?_
    exact ⟨rfl, hs.chg0⟩

/-- The most misses of the first drifts of a span. -/
def mxP (r : Rg) (click lo : Int) : Nat → Int
  | 0 => 0
  | k + 1 => max (mxP r click lo k) (missS r (lo + k) click)
theorem mxP_w (r : Rg) (hr : r.Right) (click lo : Int) : ∀ k, mxP r click lo (k + 1) = missS r (wP r click lo (k + 1)) click
  | 0 => by
    have h := missS_bd r hr lo click
    simp only [mxP, wP]
    simp
    omega
  | k + 1 => by
    have e : wP r click lo (k + 1 + 1) = if missS r (wP r click lo (k + 1)) click < missS r (lo + ((k + 1 : Nat) : Int)) click then lo + ((k + 1 : Nat) : Int) else wP r click lo (k + 1) := rfl
    rw [mxP, mxP_w r hr click lo k, e]
    split <;> omega
theorem mxP_bd (r : Rg) (hr : r.Right) (click lo : Int) : ∀ k, 0 ≤ mxP r click lo k ∧ mxP r click lo k ≤ 100
  | 0 => by simp [mxP]
  | k + 1 => by
    have h1 := mxP_bd r hr click lo k
    have h2 := missS_bd r hr (lo + k) click
    have h3 := hr.gsum
    rw [mxP]
    omega
theorem rworst_ca (w : World) (l0 h1 : Nat) (cs : List Value) (r : Rg) (v : Value) (ws : List (Int × Int)) (click : Int) (h : RgC w cs r) (hr : r.Right) (hl : RdS w l0 h1 v ws) (hw : WindOk ws) (hck : -1000 ≤ click ∧ click ≤ 1000) :
    Ca Tryz.prog 45 [.agg cs.toArray, v, .int .i64 click] w fun v w' => v = rtV (robQ r ws click) ∧ Chg [] w w' := by
  have h0 := h
  obtain ⟨lo, hi, ag, cg, ad, cd, af, cf, an, cn, rfl, hg, hdr, hf, hn⟩ := h
  obtain ⟨a, ca, rfl, hsa⟩ := RdS.outI hl
  have h5 := hw.len
  obtain ⟨ba, oa, rfl⟩ := hsa (by omega)
  have hg2 := hr.g2
  have hgs := hr.gsum
  have hwl := worstL_length r ws click
  refine q_of (Sat.nil w M0) Tryz.func45 rfl (by simp [Tryz.ntmps45]) ?_
  (refine q_seq ?_; refine q_region ?_)
  refine ql_box rfl rfl (fun b3 => ?_)
  refine ql_alloc zero36 rfl (fun b6 => ?_)
  (refine q_nil ?_; refine q_seq ?_; refine q_region ?_; refine ql_pure tabOk rfl rfl ?_; refine q_nil ?_; (iterate 2 refine q_seq ?_); refine q_region ?_; refine ql_pure tabOk rfl rfl ?_; refine q_nil ?_; refine q_block ?_)
  refine q_loop (σ := Nat) (fun k => k ≤ 5) (fun k => 5 - k) (fun k => [(1, .slice (some ⟨ba, oa, none⟩) ws.length ca), (2, .int .i64 click), (3, .pointer (some ⟨b3, 0, none⟩)), (6, .pointer (some ⟨b6, 0, none⟩)), (7, .int .i64 (facS r (worstL r ws click) click k)), (8, .int .i64 k)])
    (fun _ => [.pt b6 [.int .i64 0, .int .i64 0] 36, .pt b3 [.int .i64 r.radius, .int .i64 r.unit, .int .i64 r.clicks, .int .i64 r.total, .slice ag r.group.length cg, .slice ad r.drifts.length cd, .slice af r.first.length cf, .slice an r.next.length cn] 34]) 0 (by omega) ⟨rfl, rfl, rfl, rfl, rfl, rfl, trivial⟩ (by repeat (first | exact Sp.nil | exact Sp.refl _ | refine Sp.cons (by repeat constructor) ?_)) ?_
  intro k hk K hK
  have hfb := facS_bd r hr (worstL r ws click) click k
  ((iterate 2 refine q_seq ?_); refine q_region ?_; (iterate 2 refine ql_pure tabOk rfl rfl ?_); refine q_nil ?_)
  refine q_if rfl (fun hc => ?_) (fun hc => ?_)
  · have hk2 : k < ws.length := by omega
    clear hc
    have hsp := hw.sp ws[k] (List.getElem_mem hk2)
    obtain ⟨lo1, hlo1⟩ : ∃ z, z = ws[k].1 := ⟨_, rfl⟩
    obtain ⟨hi1, hhi1⟩ : ∃ z, z = ws[k].2 := ⟨_, rfl⟩
    have hkw : k < (worstL r ws click).length := by omega
    have hst := facS_succ r (worstL r ws click) click k hkw
    have hwo : (worstL r ws click)[k] = wP r click lo1 (hi1 - lo1 + 1).toNat := by simp [worstL, worstO, hlo1, hhi1]
    rw [hwo] at hst
    rw [← hlo1, ← hhi1] at hsp
    (refine q_skip ?_; refine q_seq ?_; refine q_block ?_; refine q_seq ?_; refine q_region ?_; refine ql_pure tabOk rfl rfl ?_; refine q_nil ?_; (iterate 2 refine q_seq ?_); refine q_region ?_; (iterate 2 refine ql_pure tabOk rfl rfl ?_))
    refine ql_index tabOk rfl rfl rfl rfl rfl (by omega) (by omega) ?_
    (refine ql_pure tabOk rfl rfl ?_)
    refine ql_load1 (v := .int .i64 lo1) tabOk rfl rfl rfl (fun w hs => by rw [hlo1]; exact RdS.at0 (RdE.keep hl hs.chg0) k hk2) ?_
    (refine ql_pure tabOk rfl rfl ?_; refine q_nil ?_; refine q_block ?_)
    refine q_loop (σ := Nat) (fun j => j ≤ (hi1 - lo1 + 1).toNat) (fun j => (hi1 - lo1 + 1).toNat - j) (fun j => [(1, .slice (some ⟨ba, oa, none⟩) ws.length ca), (2, .int .i64 click), (3, .pointer (some ⟨b3, 0, none⟩)), (6, .pointer (some ⟨b6, 0, none⟩)), (7, .int .i64 (facS r (worstL r ws click) click k)), (8, .int .i64 k), (9, .int .i64 (mxP r click lo1 j)), (10, .int .i64 (lo1 + j))])
      (fun _ => [.pt b6 [.int .i64 0, .int .i64 0] 36, .pt b3 [.int .i64 r.radius, .int .i64 r.unit, .int .i64 r.clicks, .int .i64 r.total, .slice ag r.group.length cg, .slice ad r.drifts.length cd, .slice af r.first.length cf, .slice an r.next.length cn] 34]) 0 (by omega) ⟨rfl, rfl, rfl, rfl, rfl, rfl, rfl, lookI rfl (by omega), trivial⟩ (by repeat (first | exact Sp.nil | exact Sp.refl _ | refine Sp.cons (by repeat constructor) ?_)) ?_
    intro j hj K2 hK2
    have hmx := mxP_bd r hr click lo1 j
    ((iterate 2 refine q_seq ?_); refine q_region ?_; (iterate 3 refine ql_pure tabOk rfl rfl ?_))
    refine ql_index tabOk rfl rfl rfl rfl rfl (by omega) (by omega) ?_
    (refine ql_pure tabOk rfl rfl ?_)
    refine ql_load1 (v := .int .i64 hi1) tabOk rfl rfl rfl (fun w hs => by rw [hhi1]; exact RdS.at1 (RdE.keep hl hs.chg0) k hk2) ?_
    (refine ql_pure tabOk rfl rfl ?_; refine q_nil ?_)
    refine q_if rfl (fun hc => ?_) (fun hc => ?_)
    · have hj2 : j < (hi1 - lo1 + 1).toNat := by omega
      clear hc
      (refine q_skip ?_; refine q_seq ?_; refine q_block ?_; refine q_region ?_; refine ql_pure tabOk rfl rfl ?_; refine ql_loadAB tabOk rfl rfl rfl (by repeat first | exact .head _ | refine .tail _ ?_) (by rfl) (by rfl) ?_; (iterate 2 refine ql_pure tabOk rfl rfl ?_))
      refine ql_callv (val := .int .i64 (missS r (lo1 + j) click)) tabOk rfl rfl rfl rfl (fun w hs => ?_) ?_; exact misses_ca w _ r _ click (h0.keep hs.chg0) hr (by omega) hck
      ((iterate 2 refine ql_pure tabOk rfl rfl ?_); refine q_nil ?_; refine q_blk ?_; refine q_region ?_; refine ql_pure tabOk rfl rfl ?_; refine ql_ar tabOk rfl rfl rfl rfl (by omega) (by omega) ?_; refine ql_pure tabOk rfl rfl ?_; refine q_nil ?_)
      exact hK2 (j + 1) _ _ (by omega) (by omega) ⟨rfl, rfl, rfl, rfl, rfl, rfl, rfl, lookI rfl (by omega), trivial⟩ (by repeat (first | exact Sp.nil | exact Sp.refl _ | refine Sp.cons (by repeat constructor) ?_))
    · have hje : j = (hi1 - lo1 + 1).toNat := by omega
      obtain ⟨j', rfl⟩ : ∃ j', j = j' + 1 := ⟨j - 1, by omega⟩
      clear hc hK2
      rw [← hje, ← mxP_w r hr] at hst
      (refine q_exit _ rfl ?_; refine q_region ?_; (iterate 2 refine ql_pure tabOk rfl rfl ?_); refine ql_ar tabOk rfl rfl rfl rfl (by omega) (by omega) ?_; refine ql_pure tabOk rfl rfl ?_; refine q_nil ?_; refine q_blk ?_; refine q_region ?_; refine ql_pure tabOk rfl rfl ?_; refine ql_ar tabOk rfl rfl rfl rfl (by omega) (by omega) ?_; refine ql_pure tabOk rfl rfl ?_; refine q_nil ?_)
      exact hK (k + 1) _ _ (by omega) (by omega) ⟨rfl, rfl, rfl, rfl, by rw [hst]; rfl, rfl, trivial⟩ (by repeat (first | exact Sp.nil | exact Sp.refl _ | refine Sp.cons (by repeat constructor) ?_))
  · obtain rfl : k = 5 := by omega
    clear hc hK
    (refine q_exit _ rfl ?_; refine q_seq ?_; refine q_region ?_; (iterate 2 refine ql_pure tabOk rfl rfl ?_); refine ql_loadB tabOk rfl rfl rfl (by repeat first | exact .head _ | refine .tail _ ?_) (by rfl) ?_)
    refine ql_callv (val := .int .i64 r.group.sum) tabOk rfl rfl rfl rfl (fun w hs => ?_) ?_; exact rtotal_ca w lo hi _ r.group (RdE.keep hg hs.chg0) (by omega) (fun x hx => by have := hr.weight x hx; omega)
    skip
    refine ql_callv (val := rtV (robQ r ws click)) tabOk rfl rfl rfl rfl (fun w hs => ?_) ?_; exact by have := lowest_ca (facS r (worstL r ws click) click 5) r.group.sum w (by omega) (by omega) (by omega) (by omega); unfold robQ facedV; rw [hwl, h5]; exact this
    (refine ql_setA tabOk rfl rfl rfl rfl rfl (by repeat constructor) rfl ?_; refine q_nil ?_; refine q_ret ?_)
    refine q_fin tabOk rfl (by repeat (first | exact RVs.nil | apply RVs.tmp rfl | apply RVs.cellA rfl rfl (by repeat first | exact .head _ | refine .tail _ ?_) (by rfl) | apply RVs.cell1 rfl rfl (by repeat first | exact .head _ | refine .tail _ ?_))) fun w hs => ?_
    exact ⟨rfl, hs.chg0⟩

theorem rworstF_ca (w : World) (l0 h1 : Nat) (cs : List Value) (r : Rg) (v : Value) (ws : List (Int × Int)) (click : Int) (h : RgC w cs r) (hsm : r.Small) (hl : RdS w l0 h1 v ws) (hlen : ws.length < 1000000) :
    Ca Tryz.prog 11 [.agg cs.toArray, v, .int .i64 click] w fun v w' => v = .tuple #[rtV (if wErr r ws click = 0 then robQ r ws click else (0, 0)), .int .i64 (wErr r ws click)] ∧ Chg [] w w' := by
  have h0 := h
  obtain ⟨lo, hi, ag, cg, ad, cd, af, cf, an, cn, rfl, hg, hdr, hf, hn⟩ := h
  obtain ⟨a, ca, rfl, _⟩ := RdS.outI hl
  refine q_of (Sat.nil w M0) Tryz.func11 rfl (by simp [Tryz.ntmps11]) ?_
  (refine q_seq ?_; refine q_region ?_)
  refine ql_box rfl rfl (fun b3 => ?_)
  refine ql_alloc zero36 rfl (fun b6 => ?_)
  (refine ql_pure tabOk rfl rfl ?_; refine q_nil ?_; (iterate 2 refine q_seq ?_); refine q_region ?_; refine ql_loadAB tabOk rfl rfl rfl (by repeat first | exact .head _ | refine .tail _ ?_) (by rfl) (by rfl) ?_; refine ql_pure tabOk rfl rfl ?_)
  refine ql_callv (val := .int .i64 (blownV r ws)) tabOk rfl rfl rfl rfl (fun w hs => ?_) ?_; exact rwinds_ca w _ _ _ r _ ws (h0.keep hs.chg0) hsm (RdE.keep hl hs.chg0) hlen
  (refine ql_pure tabOk rfl rfl ?_; refine q_nil ?_; refine q_seq ?_; refine q_region ?_; (iterate 2 refine ql_pure tabOk rfl rfl ?_); refine q_nil ?_)
  refine q_ifn rfl (fun hc => ?_) (fun hc => ?_)
  · have e : wErr r ws click = blownV r ws := by rw [wErr, if_pos hc]
    (refine q_seq ?_; refine q_region ?_)
    refine ql_mk #[.int .i64 0, .int .i64 0] rfl (by kernel_rfl) rfl ?_
    (refine ql_pure tabOk rfl rfl ?_; refine ql_setA tabOk rfl rfl rfl rfl rfl (by repeat constructor) rfl ?_; refine ql_pure tabOk rfl rfl ?_; refine q_nil ?_; refine q_ret ?_)
    refine q_fin tabOk rfl (by repeat (first | exact RVs.nil | apply RVs.tmp rfl | apply RVs.cellA rfl rfl (by repeat first | exact .head _ | refine .tail _ ?_) (by rfl) | apply RVs.cell1 rfl rfl (by repeat first | exact .head _ | refine .tail _ ?_))) fun w hs => ?_
    exact ⟨by rw [e, if_neg hc]; rfl, hs.chg0⟩
  have hbl : blownV r ws = 0 := by simpa using hc
  obtain ⟨hck, hw⟩ := (blown_iff r ws).1 hbl
  have hr := (right_check r).1 hck
  have hC := hr.clicks
  clear hc
  (refine q_skip ?_; (iterate 2 refine q_seq ?_); refine q_region ?_; (iterate 2 refine ql_pure tabOk rfl rfl ?_); refine ql_loadB tabOk rfl rfl rfl (by repeat first | exact .head _ | refine .tail _ ?_) (by rfl) ?_; refine ql_neg tabOk rfl rfl (by omega) (by omega) ?_; refine ql_pure tabOk rfl rfl ?_; refine ql_loadB tabOk rfl rfl rfl (by repeat first | exact .head _ | refine .tail _ ?_) (by rfl) ?_)
  refine ql_callv (val := .bool (!(inB click (-r.clicks) r.clicks))) tabOk rfl rfl rfl rfl (fun w hs => ?_) ?_; exact off_ca click (-r.clicks) r.clicks w
  cases c2 : inB click (-r.clicks) r.clicks with
  | false =>
    have e : wErr r ws click = 3 := by rw [wErr, if_neg (by omega), c2, if_pos (by simp)]
    (refine q_nil ?_; refine q_cond_true rfl ?_; refine q_seq ?_; refine q_region ?_)
    refine ql_mk #[.int .i64 0, .int .i64 0] rfl (by kernel_rfl) rfl ?_
    (refine ql_setA tabOk rfl rfl rfl rfl rfl (by repeat constructor) rfl ?_; refine ql_pure tabOk rfl rfl ?_; refine q_nil ?_; refine q_ret ?_)
    refine q_fin tabOk rfl (by repeat (first | exact RVs.nil | apply RVs.tmp rfl | apply RVs.cellA rfl rfl (by repeat first | exact .head _ | refine .tail _ ?_) (by rfl) | apply RVs.cell1 rfl rfl (by repeat first | exact .head _ | refine .tail _ ?_))) fun w hs => ?_
    exact ⟨by rw [e]; rfl, hs.chg0⟩
  | true =>
  have hcl := inB_iff.1 c2
  have e : wErr r ws click = 0 := by rw [wErr, if_neg (by omega), c2, if_neg (by simp)]
  (refine q_nil ?_; refine q_cond_false rfl ?_; refine q_skip ?_; refine q_seq ?_; refine q_region ?_; refine ql_loadAB tabOk rfl rfl rfl (by repeat first | exact .head _ | refine .tail _ ?_) (by rfl) (by rfl) ?_; (iterate 2 refine ql_pure tabOk rfl rfl ?_))
  refine ql_callv (val := rtV (robQ r ws click)) tabOk rfl rfl rfl rfl (fun w hs => ?_) ?_; exact rworst_ca w _ _ _ r _ ws click (h0.keep hs.chg0) hr (RdE.keep hl hs.chg0) hw (by omega)
  (refine ql_setA tabOk rfl rfl rfl rfl rfl (by repeat constructor) rfl ?_; refine ql_pure tabOk rfl rfl ?_; refine q_nil ?_; refine q_ret ?_)
  refine q_fin tabOk rfl (by repeat (first | exact RVs.nil | apply RVs.tmp rfl | apply RVs.cellA rfl rfl (by repeat first | exact .head _ | refine .tail _ ?_) (by rfl) | apply RVs.cell1 rfl rfl (by repeat first | exact .head _ | refine .tail _ ?_))) fun w hs => ?_
  exact ⟨by rw [e]; rfl, hs.chg0⟩
end Go.Proofs.YtohlillcaadidaaGreat

/- Walks of the reference: the robust click, and what witnesses show. -/
namespace Go.Proofs.YtohlillcaadidaaGreat
open Go Go.Eng

theorem robQ_eq5 {r : Rg} {ws : List (Int × Int)} (hw : WindOk ws) (c : Int) : robQ r ws c = ratioV (facS r (worstL r ws c) c 5) r.group.sum := by
  unfold robQ facedV
  rw [worstL_length, hw.len]
theorem rob_pick {r : Rg} (hr : r.Right) {ws : List (Int × Int)} (hw : WindOk ws) : ∃ m, bestOf (robQ r ws) (clickL r.clicks 0) = (m, robQ r ws m) ∧ (-r.clicks ≤ m ∧ m ≤ r.clicks) ∧ (pickI r.clicks ((allC r.clicks).map (robQ r ws)) (2 * r.clicks).toNat : Int) = m + r.clicks :=
  pick_law (robQ r ws) (fun c => facS r (worstL r ws c) c 5) r.clicks hr.clicks.1 (fun a b _ _ => by
    rw [robQ_eq5 hw, robQ_eq5 hw]
    exact less_ratio (by have := hr.gsum; omega) (facS_bd r hr _ _ _).1 (facS_bd r hr _ _ _).1)
theorem rrobust_ca (w : World) (l0 h1 : Nat) (cs : List Value) (r : Rg) (v : Value) (ws : List (Int × Int)) (h : RgC w cs r) (hsm : r.Small) (hl : RdS w l0 h1 v ws) (hlen : ws.length < 1000000) :
    Ca Tryz.prog 14 [.agg cs.toArray, v] w fun v w' => v = .tuple #[.int .i64 (robV r ws).1, rtV (robV r ws).2.1, .int .i64 (robV r ws).2.2] ∧ Chg [] w w' := by
  have h0 := h
  obtain ⟨lo, hi, ag, cg, ad, cd, af, cf, an, cn, rfl, hg, hdr, hf, hn⟩ := h
  obtain ⟨a, ca, rfl, _⟩ := RdS.outI hl
  refine q_of (Sat.nil w M0) Tryz.func14 rfl (by simp [Tryz.ntmps14]) ?_
  (refine q_seq ?_; refine q_region ?_)
  refine ql_box rfl rfl (fun b2 => ?_)
  (refine ql_pure tabOk rfl rfl ?_)
  refine ql_alloc zero36 rfl (fun b5 => ?_)
  (refine ql_pure tabOk rfl rfl ?_; refine q_nil ?_; (iterate 2 refine q_seq ?_); refine q_region ?_; refine ql_loadAB tabOk rfl rfl rfl (by repeat first | exact .head _ | refine .tail _ ?_) (by rfl) (by rfl) ?_; refine ql_pure tabOk rfl rfl ?_)
  refine ql_callv (val := .int .i64 (blownV r ws)) tabOk rfl rfl rfl rfl (fun w hs => ?_) ?_; exact rwinds_ca w _ _ _ r _ ws (h0.keep hs.chg0) hsm (RdE.keep hl hs.chg0) hlen
  (refine ql_pure tabOk rfl rfl ?_; refine q_nil ?_; refine q_seq ?_; refine q_region ?_; (iterate 2 refine ql_pure tabOk rfl rfl ?_); refine q_nil ?_)
  refine q_ifn rfl (fun hc => ?_) (fun hc => ?_)
  · (refine q_seq ?_; refine q_region ?_)
    refine ql_mk #[.int .i64 0, .int .i64 0] rfl (by kernel_rfl) rfl ?_
    ((iterate 2 refine ql_pure tabOk rfl rfl ?_); refine ql_setA tabOk rfl rfl rfl rfl rfl (by repeat constructor) rfl ?_; refine ql_pure tabOk rfl rfl ?_; refine q_nil ?_; refine q_ret ?_)
    refine q_fin tabOk rfl (by repeat (first | exact RVs.nil | apply RVs.tmp rfl | apply RVs.cellA rfl rfl (by repeat first | exact .head _ | refine .tail _ ?_) (by rfl) | apply RVs.cell1 rfl rfl (by repeat first | exact .head _ | refine .tail _ ?_))) fun w hs => ?_
    exact ⟨by rw [robV, if_pos hc]; rfl, hs.chg0⟩
  have hbl : blownV r ws = 0 := by simpa using hc
  obtain ⟨hck, hw⟩ := (blown_iff r ws).1 hbl
  have hr := (right_check r).1 hck
  have hC := hr.clicks
  clear hc
  obtain ⟨m, hm1, hm2, hm3⟩ := rob_pick hr hw
  have hbv : robV r ws = (m, robQ r ws m, 0) := by unfold robV; rw [if_neg (by omega), hm1]
  (refine q_skip ?_; refine q_seq ?_; refine q_region ?_; refine ql_pure tabOk rfl rfl ?_; refine q_nil ?_; (iterate 2 refine q_seq ?_); refine q_region ?_; refine ql_pure tabOk rfl rfl ?_; refine ql_loadB tabOk rfl rfl rfl (by repeat first | exact .head _ | refine .tail _ ?_) (by rfl) ?_; refine ql_neg tabOk rfl rfl (by omega) (by omega) ?_; refine ql_pure tabOk rfl rfl ?_; refine q_nil ?_; refine q_block ?_)
  refine q_conv (H' := [.ow (.slice none 0 0) 36 2 0 (spC (((allC r.clicks).take 0).map (robQ r ws))), .pt b5 [.int .i64 0, .int .i64 0] 36, .pt b2 [.int .i64 r.radius, .int .i64 r.unit, .int .i64 r.clicks, .int .i64 r.total, .slice ag r.group.length cg, .slice ad r.drifts.length cd, .slice af r.first.length cf, .slice an r.next.length cn] 34]) (fun w' hs => Sat.ownil (hs.sp (by repeat (first | exact Sp.nil | exact Sp.refl _ | refine Sp.cons (by repeat constructor) ?_))) _ _) ?_
  refine q_loop (σ := Nat × Value) (fun s => s.1 ≤ (2 * r.clicks + 1).toNat) (fun s => (2 * r.clicks + 1).toNat - s.1) (fun s => [(1, .slice a ws.length ca), (2, .pointer (some ⟨b2, 0, none⟩)), (5, .pointer (some ⟨b5, 0, none⟩)), (8, s.2), (9, .int .i64 ((s.1 : Int) - r.clicks))])
    (fun s => [.ow s.2 36 2 s.1 (spC (((allC r.clicks).take s.1).map (robQ r ws))), .pt b5 [.int .i64 0, .int .i64 0] 36, .pt b2 [.int .i64 r.radius, .int .i64 r.unit, .int .i64 r.clicks, .int .i64 r.total, .slice ag r.group.length cg, .slice ad r.drifts.length cd, .slice af r.first.length cf, .slice an r.next.length cn] 34]) (0, .slice none 0 0) (by simp) ⟨rfl, rfl, rfl, rfl, lookI rfl (by simp), trivial⟩ (by repeat (first | exact Sp.nil | exact Sp.refl _ | refine Sp.cons (by repeat constructor) ?_)) ?_
  rintro ⟨j, v⟩ hj K hK
  simp only at hj
  dsimp only
  ((iterate 2 refine q_seq ?_); refine q_region ?_; (iterate 2 refine ql_pure tabOk rfl rfl ?_); refine ql_loadB tabOk rfl rfl rfl (by repeat first | exact .head _ | refine .tail _ ?_) (by rfl) ?_; refine ql_pure tabOk rfl rfl ?_; refine q_nil ?_)
  refine q_if rfl (fun hc => ?_) (fun hc => ?_)
  · have hj2 : j < (2 * r.clicks + 1).toNat := by omega
    clear hc
    have e1 : spC (((allC r.clicks).take (j + 1)).map (robQ r ws)) = spC (((allC r.clicks).take j).map (robQ r ws)) ++ [.int .i64 (robQ r ws ((j : Int) - r.clicks)).1, .int .i64 (robQ r ws ((j : Int) - r.clicks)).2] := by
      rw [allC_take _ _ hj2]
      simp [spC]
    (refine q_skip ?_; refine q_seq ?_; refine q_block ?_; refine q_region ?_; refine ql_pure tabOk rfl rfl ?_; refine ql_loadAB tabOk rfl rfl rfl (by repeat first | exact .head _ | refine .tail _ ?_) (by rfl) (by rfl) ?_; (iterate 2 refine ql_pure tabOk rfl rfl ?_))
    refine ql_callv (val := .agg #[.int .i64 (robQ r ws ((j : Int) - r.clicks)).1, .int .i64 (robQ r ws ((j : Int) - r.clicks)).2]) tabOk rfl rfl rfl rfl (fun w hs => ?_) ?_; exact rworst_ca w _ _ _ r _ ws _ (h0.keep hs.chg0) hr (RdE.keep hl hs.chg0) hw (by omega)
    skip
    refine ql_mkS 36 [.int .i64 (robQ r ws ((j : Int) - r.clicks)).1, .int .i64 (robQ r ws ((j : Int) - r.clicks)).2] rfl (by kernel_rfl) rfl (fun bn => ?_)
    refine ql_append (q := 1) slR rfl rfl rfl (fun v' => by repeat constructor) (fun w' hs => ⟨_, _, Blk.rdSp (hs.blk (b := bn) (by repeat first | exact .head _ | refine .tail _ ?_))⟩) (by simp [oneV]) (by omega) (by omega) (fun v' => ?_)
    (refine ql_pure tabOk rfl rfl ?_; refine q_nil ?_; refine q_blk ?_; refine q_region ?_; refine ql_pure tabOk rfl rfl ?_; refine ql_ar tabOk rfl rfl rfl rfl (by omega) (by omega) ?_; refine ql_pure tabOk rfl rfl ?_; refine q_nil ?_)
    exact hK (j + 1, v') _ _ (by simp only; omega) (by simp only; omega) ⟨rfl, rfl, rfl, rfl, lookI rfl (by simp only; omega), trivial⟩ (by simp only [e1]; repeat (first | exact Sp.nil | exact Sp.refl _ | refine Sp.cons (by repeat constructor) ?_))
  · obtain rfl : j = (2 * r.clicks + 1).toNat := by omega
    clear hc hK
    have hlen2 : ((allC r.clicks).map (robQ r ws)).length = (2 * r.clicks + 1).toNat := by rw [List.length_map, allC_len]
    rw [List.take_of_length_le (by rw [allC_len]; omega)]
    have hm4 : pickI r.clicks ((allC r.clicks).map (robQ r ws)) (((allC r.clicks).map (robQ r ws)).length - 1) = (m + r.clicks).toNat := by
      rw [hlen2, show (2 * r.clicks + 1).toNat - 1 = (2 * r.clicks).toNat by omega]
      omega
    have hm5 : ((allC r.clicks).map (robQ r ws)).getD (m + r.clicks).toNat (0, 1) = robQ r ws m := by
      rw [allC_at _ _ _ (by omega)]
      congr 1
      omega
    (refine q_exit _ rfl ?_; refine q_seq ?_; refine q_region ?_; refine ql_loadAB tabOk rfl rfl rfl (by repeat first | exact .head _ | refine .tail _ ?_) (by rfl) (by rfl) ?_; refine ql_pure tabOk rfl rfl ?_)
    refine ql_callv (val := .tuple #[.int .i64 m, .agg #[.int .i64 (robQ r ws m).1, .int .i64 (robQ r ws m).2]]) tabOk rfl rfl rfl rfl (fun w hs => ?_) ?_; exact by have := pick_ca w 0 w.heap.size _ r v ((allC r.clicks).map (robQ r ws)) (h0.keep hs.chg0) hC (Sat.rdSp hs (t := 36) (k := (2 * r.clicks + 1).toNat) (by repeat first | exact .head _ | refine .tail _ ?_) hlen2.symm) (by omega) (by omega) (fun x hx => by obtain ⟨c, _, rfl⟩ := List.mem_map.1 hx; exact robQ_fine r hr ws hw c); rw [hm4, hm5, show (((m + r.clicks).toNat : Nat) : Int) - r.clicks = m by omega] at this; exact this
    (refine ql_pure tabOk rfl rfl ?_; (iterate 2 refine ql_ext tabOk rfl rfl rfl ?_))
    refine ql_alloc zero36 rfl (fun b11 => ?_)
    (refine ql_pure tabOk rfl rfl ?_; refine ql_setA tabOk rfl rfl rfl rfl rfl (by repeat constructor) rfl ?_; refine q_nil ?_; refine q_seq ?_)
    refine q_draw _ [.pt b5 _ _] (Sp.cons (by repeat constructor) (Sp.refl _)) (by kernel_rfl) (by kernel_rfl) ?_
    (refine qf_pure tabOk rfl rfl rfl ?_; refine qf_loadAB tabOk rfl rfl rfl (by repeat first | exact .head _ | refine .tail _ ?_) (by rfl) (by rfl) ?_; refine qf_pure tabOk rfl rfl rfl ?_; refine qf_setA tabOk rfl rfl rfl rfl rfl (by repeat constructor) rfl ?_; refine qf_pure tabOk rfl rfl rfl ?_; refine qf_nil ?_; refine q_ret ?_)
    refine q_fin tabOk rfl (by repeat (first | exact RVs.nil | apply RVs.tmp rfl | apply RVs.cellA rfl rfl (by repeat first | exact .head _ | refine .tail _ ?_) (by rfl) | apply RVs.cell1 rfl rfl (by repeat first | exact .head _ | refine .tail _ ?_))) fun w hs => ?_
    exact ⟨by rw [hbv]; rfl, hs.chg0⟩

theorem shows_2 {r : Rg} {ws : List (Int × Int)} {wl : List (List Int)} (h0 : blownV r ws = 0) (h1 : (wl.length : Int) = 2 * r.clicks + 1) (i : Nat) (hi : i < wl.length) (h : wl[i].length ≠ 5) : showsV r ws wl = ((0, 0), 2) := by
  have e : wl.all shB = false := List.all_eq_false.2 ⟨wl[i], List.getElem_mem hi, by simp [shB]; omega⟩
  unfold showsV
  rw [if_neg (by omega), if_neg (by omega), e]
  rfl
theorem shows_8 {r : Rg} {ws : List (Int × Int)} {wl : List (List Int)} (h0 : blownV r ws = 0) (h1 : (wl.length : Int) = 2 * r.clicks + 1) (h2 : wl.all shB = true) (i : Nat) (hi : i < wl.length) (h : witB ws wl[i] = false) : showsV r ws wl = ((0, 0), 8) := by
  have e : wl.all (witB ws) = false := List.all_eq_false.2 ⟨wl[i], List.getElem_mem hi, by simp [h]⟩
  unfold showsV
  rw [if_neg (by omega), if_neg (by omega), h2, if_neg (by simp), e]
  rfl
theorem wit_no {ws : List (Int × Int)} {l : List Int} (k : Nat) (hk : k < l.length) (h : inB (l.getD k 0) (ws.getD k (0, 0)).1 (ws.getD k (0, 0)).2 = false) : witB ws l = false := by
  cases hw : witB ws l with
  | false => rfl
  | true => rw [witB_at hw k hk] at h; cases h

set_option maxHeartbeats 4000000 in
theorem rshows_ca (w : World) (l0 h1 l2 h2 : Nat) (cs : List Value) (r : Rg) (v u : Value) (ws : List (Int × Int)) (wl : List (List Int)) (h : RgC w cs r) (hsm : r.Small) (hl : RdS w l0 h1 v ws) (hlen : ws.length < 1000000) (hu : RdII w l2 h2 u wl) (hwlen : wl.length < 1000000) (hrw : ∀ l ∈ wl, l.length < 1000000) :
    Ca Tryz.prog 16 [.agg cs.toArray, v, u] w fun v w' => v = .tuple #[rtV (showsV r ws wl).1, .int .i64 (showsV r ws wl).2] ∧ Chg [] w w' := by
  have h0 := h
  obtain ⟨lo, hi, ag, cg, ad, cd, af, cf, an, cn, rfl, hg, hdr, hf, hn⟩ := h
  obtain ⟨a, ca, rfl, hsa⟩ := RdS.outI hl
  obtain ⟨ua, uc, rfl, hsu⟩ := RdII.outI hu
  have hC0 : True := trivial
  refine q_of (Sat.nil w M0) Tryz.func16 rfl (by simp [Tryz.ntmps16]) ?_
  (refine q_seq ?_; refine q_region ?_)
  refine ql_box rfl rfl (fun b3 => ?_)
  refine ql_alloc zero36 rfl (fun b6 => ?_)
  (refine ql_pure tabOk rfl rfl ?_; refine q_nil ?_; (iterate 2 refine q_seq ?_); refine q_region ?_; refine ql_loadAB tabOk rfl rfl rfl (by repeat first | exact .head _ | refine .tail _ ?_) (by rfl) (by rfl) ?_; refine ql_pure tabOk rfl rfl ?_)
  refine ql_callv (val := .int .i64 (blownV r ws)) tabOk rfl rfl rfl rfl (fun w hs => ?_) ?_; exact rwinds_ca w _ _ _ r _ ws (h0.keep hs.chg0) hsm (RdE.keep hl hs.chg0) hlen
  (refine ql_pure tabOk rfl rfl ?_; refine q_nil ?_; refine q_seq ?_; refine q_region ?_; (iterate 2 refine ql_pure tabOk rfl rfl ?_); refine q_nil ?_)
  refine q_ifn rfl (fun hc => ?_) (fun hc => ?_)
  · (refine q_seq ?_; refine q_region ?_)
    refine ql_mk #[.int .i64 0, .int .i64 0] rfl (by kernel_rfl) rfl ?_
    (refine ql_pure tabOk rfl rfl ?_; refine ql_setA tabOk rfl rfl rfl rfl rfl (by repeat constructor) rfl ?_; refine ql_pure tabOk rfl rfl ?_; refine q_nil ?_; refine q_ret ?_)
    refine q_fin tabOk rfl (by repeat (first | exact RVs.nil | apply RVs.tmp rfl | apply RVs.cellA rfl rfl (by repeat first | exact .head _ | refine .tail _ ?_) (by rfl) | apply RVs.cell1 rfl rfl (by repeat first | exact .head _ | refine .tail _ ?_))) fun w hs => ?_
    exact ⟨by rw [showsV, if_pos hc]; rfl, hs.chg0⟩
  have hbl : blownV r ws = 0 := by simpa using hc
  obtain ⟨hck, hw⟩ := (blown_iff r ws).1 hbl
  have hr := (right_check r).1 hck
  have hC := hr.clicks
  have h5 := hw.len
  have hun := hr.gsum
  clear hc
  (refine q_skip ?_; (iterate 2 refine q_seq ?_); refine q_region ?_; (iterate 3 refine ql_pure tabOk rfl rfl ?_); refine ql_loadB tabOk rfl rfl rfl (by repeat first | exact .head _ | refine .tail _ ?_) (by rfl) ?_; (iterate 2 refine ql_ar tabOk rfl rfl rfl rfl (by omega) (by omega) ?_); refine ql_pure tabOk rfl rfl ?_; refine q_nil ?_)
  refine q_ifn rfl (fun hc => ?_) (fun hc => ?_)
  · (refine q_seq ?_; refine q_region ?_)
    refine ql_mk #[.int .i64 0, .int .i64 0] rfl (by kernel_rfl) rfl ?_
    (refine ql_setA tabOk rfl rfl rfl rfl rfl (by repeat constructor) rfl ?_; refine ql_pure tabOk rfl rfl ?_; refine q_nil ?_; refine q_ret ?_)
    refine q_fin tabOk rfl (by repeat (first | exact RVs.nil | apply RVs.tmp rfl | apply RVs.cellA rfl rfl (by repeat first | exact .head _ | refine .tail _ ?_) (by rfl) | apply RVs.cell1 rfl rfl (by repeat first | exact .head _ | refine .tail _ ?_))) fun w hs => ?_
    exact ⟨by rw [showsV, if_neg (by omega), if_pos hc]; rfl, hs.chg0⟩
  have hwn : (wl.length : Int) = 2 * r.clicks + 1 := by omega
  clear hc
  have he2 := shows_2 (wl := wl) hbl hwn
  (refine q_skip ?_; (iterate 2 refine q_seq ?_); refine q_region ?_; refine ql_pure tabOk rfl rfl ?_; refine q_nil ?_; refine q_block ?_)
  refine q_loop (σ := Nat) (fun k => k ≤ wl.length ∧ (wl.take k).all shB = true) (fun k => wl.length - k) (fun k => [(1, .slice a ws.length ca), (2, .slice ua wl.length uc), (3, .pointer (some ⟨b3, 0, none⟩)), (6, .pointer (some ⟨b6, 0, none⟩)), (9, .int .i64 k)])
    (fun _ => [.pt b6 [.int .i64 0, .int .i64 0] 36, .pt b3 [.int .i64 r.radius, .int .i64 r.unit, .int .i64 r.clicks, .int .i64 r.total, .slice ag r.group.length cg, .slice ad r.drifts.length cd, .slice af r.first.length cf, .slice an r.next.length cn] 34]) 0 ⟨by omega, rfl⟩ ⟨rfl, rfl, rfl, rfl, rfl, trivial⟩ (by repeat (first | exact Sp.nil | exact Sp.refl _ | refine Sp.cons (by repeat constructor) ?_)) ?_
  rintro k ⟨hk, hall⟩ K hK
  ((iterate 2 refine q_seq ?_); refine q_region ?_; (iterate 4 refine ql_pure tabOk rfl rfl ?_); refine q_nil ?_)
  refine q_if rfl (fun hc => ?_) (fun hc => ?_)
  · have hk2 : k < wl.length := by omega
    clear hc
    obtain ⟨bu, ou, rfl⟩ := hsu (by omega)
    obtain ⟨ar, cr, hrow, hcell⟩ := hu.row k hk2
    (refine q_skip ?_; refine q_seq ?_; refine q_block ?_; refine q_seq ?_; refine q_region ?_; (iterate 2 refine ql_pure tabOk rfl rfl ?_))
    refine ql_index tabOk rfl rfl rfl rfl rfl (by omega) (by omega) ?_
    refine ql_load1 (v := .slice ar wl[k].length cr) tabOk rfl rfl rfl (fun w' hs => hcell w' hs.chg0) ?_
    ((iterate 2 refine ql_pure tabOk rfl rfl ?_); refine q_nil ?_)
    refine q_ifn rfl (fun hc => ?_) (fun hc => ?_)
    · (refine q_seq ?_; refine q_region ?_)
      refine ql_mk #[.int .i64 0, .int .i64 0] rfl (by kernel_rfl) rfl ?_
      (refine ql_setA tabOk rfl rfl rfl rfl rfl (by repeat constructor) rfl ?_; refine ql_pure tabOk rfl rfl ?_; refine q_nil ?_; refine q_ret ?_)
      refine q_fin tabOk rfl (by repeat (first | exact RVs.nil | apply RVs.tmp rfl | apply RVs.cellA rfl rfl (by repeat first | exact .head _ | refine .tail _ ?_) (by rfl) | apply RVs.cell1 rfl rfl (by repeat first | exact .head _ | refine .tail _ ?_))) fun w hs => ?_
      exact ⟨by rw [he2 k hk2 (by omega)]; rfl, hs.chg0⟩
    · (refine q_skip ?_; refine q_blk ?_; refine q_region ?_; refine ql_pure tabOk rfl rfl ?_; refine ql_ar tabOk rfl rfl rfl rfl (by omega) (by omega) ?_; refine ql_pure tabOk rfl rfl ?_; refine q_nil ?_)
      exact hK (k + 1) _ _ ⟨by omega, all_take_succ hk2 hall (by simp [shB]; omega)⟩ (by omega) ⟨rfl, rfl, rfl, rfl, rfl, trivial⟩ (by repeat (first | exact Sp.nil | exact Sp.refl _ | refine Sp.cons (by repeat constructor) ?_))
  obtain rfl : k = wl.length := by omega
  rw [List.take_length] at hall
  clear hc hK he2
  have hr5 : ∀ l ∈ wl, l.length = 5 := fun l hm => by have := List.all_eq_true.1 hall l hm; simp [shB] at this; omega
  have he8 := shows_8 hbl hwn hall
  (refine q_exit _ rfl ?_; refine q_seq ?_; refine q_region ?_; refine ql_pure tabOk rfl rfl ?_; refine q_nil ?_; (iterate 2 refine q_seq ?_); refine q_region ?_; refine ql_pure tabOk rfl rfl ?_; refine q_nil ?_; refine q_block ?_)
  refine q_conv (H' := [.ow (.slice none 0 0) 36 2 0 (spC (((allC r.clicks).take 0).map (shQ r wl))), .pt b6 [.int .i64 0, .int .i64 0] 36, .pt b3 [.int .i64 r.radius, .int .i64 r.unit, .int .i64 r.clicks, .int .i64 r.total, .slice ag r.group.length cg, .slice ad r.drifts.length cd, .slice af r.first.length cf, .slice an r.next.length cn] 34]) (fun w' hs => Sat.ownil (hs.sp (by repeat (first | exact Sp.nil | exact Sp.refl _ | refine Sp.cons (by repeat constructor) ?_))) _ _) ?_
  refine q_loop (σ := Nat × Value) (fun s => s.1 ≤ wl.length ∧ (wl.take s.1).all (witB ws) = true) (fun s => wl.length - s.1) (fun s => [(1, .slice a ws.length ca), (2, .slice ua wl.length uc), (3, .pointer (some ⟨b3, 0, none⟩)), (6, .pointer (some ⟨b6, 0, none⟩)), (10, s.2), (11, .int .i64 s.1)])
    (fun s => [.ow s.2 36 2 s.1 (spC (((allC r.clicks).take s.1).map (shQ r wl))), .pt b6 [.int .i64 0, .int .i64 0] 36, .pt b3 [.int .i64 r.radius, .int .i64 r.unit, .int .i64 r.clicks, .int .i64 r.total, .slice ag r.group.length cg, .slice ad r.drifts.length cd, .slice af r.first.length cf, .slice an r.next.length cn] 34]) (0, .slice none 0 0) ⟨by simp, by simp⟩ ⟨rfl, rfl, rfl, rfl, rfl, rfl, trivial⟩ (by repeat (first | exact Sp.nil | exact Sp.refl _ | refine Sp.cons (by repeat constructor) ?_)) ?_
  rintro ⟨i, v⟩ ⟨hi, hwit⟩ K hK
  simp only at hi hwit
  dsimp only
  ((iterate 2 refine q_seq ?_); refine q_region ?_; (iterate 4 refine ql_pure tabOk rfl rfl ?_); refine q_nil ?_)
  refine q_if rfl (fun hc => ?_) (fun hc => ?_)
  · have hi2 : i < wl.length := by omega
    clear hc
    obtain ⟨bu, ou, rfl⟩ := hsu (by omega)
    obtain ⟨bw, ow, rfl⟩ := hsa (by omega)
    obtain ⟨ar, cr, hrow, hcell⟩ := hu.row i hi2
    have hrl := hr5 _ (List.getElem_mem hi2)
    have he := he8 i hi2
    obtain ⟨row, hrow0⟩ : ∃ row, row = wl[i] := ⟨_, rfl⟩
    rw [← hrow0] at hrow hcell hrl he
    obtain ⟨_, _, hsl2, hsr⟩ := RdI.outI hrow
    cases hsl2
    obtain ⟨br, offr, rfl⟩ := hsr (by omega)
    (refine q_skip ?_; refine q_seq ?_; refine q_block ?_; (iterate 2 refine q_seq ?_); refine q_region ?_; refine ql_pure tabOk rfl rfl ?_; refine q_nil ?_; refine q_block ?_)
    refine q_loop (σ := Nat) (fun k => k ≤ 5 ∧ ∀ j, j < k → inB (row.getD j 0) (ws.getD j (0, 0)).1 (ws.getD j (0, 0)).2 = true) (fun k => 5 - k) (fun k => [(1, .slice (some ⟨bw, ow, none⟩) ws.length ca), (2, .slice (some ⟨bu, ou, none⟩) wl.length uc), (3, .pointer (some ⟨b3, 0, none⟩)), (6, .pointer (some ⟨b6, 0, none⟩)), (10, v), (11, .int .i64 i), (12, .int .i64 k)])
      (fun _ => [.ow v 36 2 i (spC (((allC r.clicks).take i).map (shQ r wl))), .pt b6 [.int .i64 0, .int .i64 0] 36, .pt b3 [.int .i64 r.radius, .int .i64 r.unit, .int .i64 r.clicks, .int .i64 r.total, .slice ag r.group.length cg, .slice ad r.drifts.length cd, .slice af r.first.length cf, .slice an r.next.length cn] 34]) 0 ⟨by omega, fun j hj => by omega⟩ ⟨rfl, rfl, rfl, rfl, rfl, rfl, rfl, trivial⟩ (by repeat (first | exact Sp.nil | exact Sp.refl _ | refine Sp.cons (by repeat constructor) ?_)) ?_
    rintro k ⟨hk, hks⟩ K2 hK2
    ((iterate 2 refine q_seq ?_); refine q_region ?_; (iterate 2 refine ql_pure tabOk rfl rfl ?_); refine q_nil ?_)
    refine q_if rfl (fun hc => ?_) (fun hc => ?_)
    · have hk5 : k < 5 := by omega
      clear hc
      have hkr : k < row.length := by omega
      have hkw : k < ws.length := by omega
      have hg1 : row.getD k 0 = row[k] := by simp [List.getD_eq_getElem?_getD, hkr]
      have hg2 : ws.getD k (0, 0) = ws[k] := by simp [List.getD_eq_getElem?_getD, hkw]
      (refine q_skip ?_; refine q_seq ?_; refine q_block ?_; refine q_seq ?_)
      refine q_draw _ [] (Sp.refl _) (by kernel_rfl) (by kernel_rfl) ?_
      ((iterate 2 refine qf_pure tabOk rfl rfl rfl ?_))
      refine qf_index tabOk rfl rfl rfl rfl rfl (by omega) (by omega) ?_
      refine qf_load1 (v := .slice (some ⟨br, offr, none⟩) row.length cr) tabOk rfl rfl rfl (fun w' hs => hcell w' hs.chg0) ?_
      (refine qf_pure tabOk rfl rfl rfl ?_)
      (refine qf_index tabOk rfl rfl rfl rfl rfl (by omega) (by omega) ?_; refine qf_load1 tabOk rfl rfl rfl (fun w hs => RdI.at (RdE.keep hrow hs.chg0) k hkr) ?_)
      ((iterate 2 refine qf_pure tabOk rfl rfl rfl ?_))
      refine qf_index tabOk rfl rfl rfl rfl rfl (by omega) (by omega) ?_
      (refine qf_pure tabOk rfl rfl rfl ?_)
      refine qf_load1 (v := .int .i64 ws[k].1) tabOk rfl rfl rfl (fun w hs => RdS.at0 (RdE.keep hl hs.chg0) k hkw) ?_
      ((iterate 2 refine qf_pure tabOk rfl rfl rfl ?_))
      refine qf_index tabOk rfl rfl rfl rfl rfl (by omega) (by omega) ?_
      (refine qf_pure tabOk rfl rfl rfl ?_)
      refine qf_load1 (v := .int .i64 ws[k].2) tabOk rfl rfl rfl (fun w hs => RdS.at1 (RdE.keep hl hs.chg0) k hkw) ?_
      skip
      refine qf_callv (val := .bool (!(inB row[k] ws[k].1 ws[k].2))) tabOk rfl rfl rfl rfl (fun w hs => ?_) ?_; exact off_ca row[k] ws[k].1 ws[k].2 w
      cases hin : inB row[k] ws[k].1 ws[k].2 with
      | false =>
        (refine qf_nil ?_; refine q_cond_true rfl ?_; refine q_seq ?_; refine q_region ?_)
        refine ql_mk #[.int .i64 0, .int .i64 0] rfl (by kernel_rfl) rfl ?_
        (refine ql_setA tabOk rfl rfl rfl rfl rfl (by repeat constructor) rfl ?_; refine ql_pure tabOk rfl rfl ?_; refine q_nil ?_; refine q_ret ?_)
        refine q_fin tabOk rfl (by repeat (first | exact RVs.nil | apply RVs.tmp rfl | apply RVs.cellA rfl rfl (by repeat first | exact .head _ | refine .tail _ ?_) (by rfl) | apply RVs.cell1 rfl rfl (by repeat first | exact .head _ | refine .tail _ ?_))) fun w hs => ?_
        exact ⟨by rw [he (wit_no k hkr (by rw [hg1, hg2]; exact hin))]; rfl, hs.chg0⟩
      | true =>
        (refine qf_nil ?_; refine q_cond_false rfl ?_; refine q_skip ?_; refine q_blk ?_; refine q_region ?_; refine ql_pure tabOk rfl rfl ?_; refine ql_ar tabOk rfl rfl rfl rfl (by omega) (by omega) ?_; refine ql_pure tabOk rfl rfl ?_; refine q_nil ?_)
        exact hK2 (k + 1) _ _ ⟨by omega, fun j hj => by
          by_cases hjk : j = k
          · subst hjk; rw [hg1, hg2]; exact hin
          · exact hks j (by omega)⟩ (by omega) ⟨rfl, rfl, rfl, rfl, rfl, rfl, rfl, trivial⟩ (by repeat (first | exact Sp.nil | exact Sp.refl _ | refine Sp.cons (by repeat constructor) ?_))
    · obtain rfl : k = 5 := by omega
      clear hc hK2
      have hwr : witB ws row = true := witB_of (fun j hj => hks j (by omega))
      have hrb : ∀ x ∈ row, -1000000 ≤ x ∧ x ≤ 1000000 := fun x hx => by
        obtain ⟨j, hj, rfl⟩ := List.getElem_of_mem hx
        have g := inB_iff.1 (hks j (by omega))
        have g2 := hw.sp ws[j] (List.getElem_mem (by omega))
        simp only [List.getD_eq_getElem?_getD, List.getElem?_eq_getElem hj, List.getElem?_eq_getElem (show j < ws.length by omega), Option.getD_some] at g
        omega
      have hshq : shQ r wl ((i : Int) - r.clicks) = facedV r row ((i : Int) - r.clicks) := by
        unfold shQ
        rw [show ((i : Int) - r.clicks + r.clicks).toNat = i by omega, List.getD_eq_getElem?_getD, List.getElem?_eq_getElem hi2, Option.getD_some, hrow0]
      have e1 : spC (((allC r.clicks).take (i + 1)).map (shQ r wl)) = spC (((allC r.clicks).take i).map (shQ r wl)) ++ [.int .i64 (facedV r row ((i : Int) - r.clicks)).1, .int .i64 (facedV r row ((i : Int) - r.clicks)).2] := by
        rw [allC_take _ _ (by omega), ← hshq]
        simp [spC]
      (refine q_exit _ rfl ?_)
      refine q_draw _ [.ow v 36 2 i (spC (((allC r.clicks).take i).map (shQ r wl)))] (Sp.cons (by repeat constructor) (Sp.refl _)) (by kernel_rfl) (by kernel_rfl) ?_
      (refine qf_pure tabOk rfl rfl rfl ?_; refine qf_loadAB tabOk rfl rfl rfl (by repeat first | exact .head _ | refine .tail _ ?_) (by rfl) (by rfl) ?_; (iterate 2 refine qf_pure tabOk rfl rfl rfl ?_))
      refine qf_index tabOk rfl rfl rfl rfl rfl (by omega) (by omega) ?_
      refine qf_load1 (v := .slice (some ⟨br, offr, none⟩) row.length cr) tabOk rfl rfl rfl (fun w' hs => hcell w' hs.chg0) ?_
      ((iterate 2 refine qf_pure tabOk rfl rfl rfl ?_); refine qf_loadB tabOk rfl rfl rfl (by repeat first | exact .head _ | refine .tail _ ?_) (by rfl) ?_; refine qf_ar tabOk rfl rfl rfl rfl (by omega) (by omega) ?_)
      refine qf_callv (val := .agg #[.int .i64 (facedV r row ((i : Int) - r.clicks)).1, .int .i64 (facedV r row ((i : Int) - r.clicks)).2]) tabOk rfl rfl rfl rfl (fun w hs => ?_) ?_; exact rfaced_ca w _ _ _ r _ row _ (h0.keep hs.chg0) hr (RdE.keep hrow hs.chg0) (by omega) hrb (by omega)
      skip
      refine qf_mkS 36 [.int .i64 (facedV r row ((i : Int) - r.clicks)).1, .int .i64 (facedV r row ((i : Int) - r.clicks)).2] rfl (by kernel_rfl) rfl (fun bn => ?_)
      refine qf_append (q := 1) slR rfl rfl rfl (fun v' => by repeat constructor) (fun w' hs => ⟨_, _, Blk.rdSp (hs.blk (b := bn) (by repeat first | exact .head _ | refine .tail _ ?_))⟩) (by simp [oneV]) (by omega) (by omega) (fun v' => ?_)
      (refine qf_pure tabOk rfl rfl rfl ?_; refine qf_nil ?_; refine q_blk ?_; refine q_region ?_; refine ql_pure tabOk rfl rfl ?_; refine ql_ar tabOk rfl rfl rfl rfl (by omega) (by omega) ?_; refine ql_pure tabOk rfl rfl ?_; refine q_nil ?_)
      exact hK (i + 1, v') _ _ ⟨by simp only; omega, all_take_succ hi2 hwit (by rw [← hrow0]; exact hwr)⟩ (by simp only; omega) ⟨rfl, rfl, rfl, rfl, rfl, rfl, trivial⟩ (by simp only [e1]; repeat (first | exact Sp.nil | exact Sp.refl _ | refine Sp.cons (by repeat constructor) ?_))
  · obtain rfl : i = wl.length := by omega
    clear hc hK
    rw [List.take_length] at hwit
    have hlen2 : ((allC r.clicks).map (shQ r wl)).length = wl.length := by rw [List.length_map, allC_len]; omega
    rw [List.take_of_length_le (by rw [allC_len]; omega)]
    have hwb : ∀ l ∈ wl, l.length = 5 ∧ witB ws l = true := fun l hm => ⟨hr5 l hm, List.all_eq_true.1 hwit l hm⟩
    have hshl : ∀ c, (wl.getD (c + r.clicks).toNat []).length ≤ 5 := fun c => by
      by_cases hi : (c + r.clicks).toNat < wl.length
      · rw [List.getD_eq_getElem?_getD, List.getElem?_eq_getElem hi, Option.getD_some, hr5 _ (List.getElem_mem hi)]
        omega
      · rw [List.getD_eq_getElem?_getD, List.getElem?_eq_none (by omega)]
        simp
    obtain ⟨m, hm1, hm2, hm3⟩ := pick_law (shQ r wl) (fun c => facS r (wl.getD (c + r.clicks).toNat []) c (wl.getD (c + r.clicks).toNat []).length) r.clicks hC.1 (fun a b _ _ => by
      unfold shQ facedV
      exact less_ratio (by omega) (facS_bd r hr _ _ _).1 (facS_bd r hr _ _ _).1)
    have hsv : showsV r ws wl = (shQ r wl m, 0) := by
      unfold showsV
      rw [if_neg (by omega), if_neg (by omega), hall, if_neg (by simp), hwit, if_neg (by simp), hm1]
    have hm4 : pickI r.clicks ((allC r.clicks).map (shQ r wl)) (((allC r.clicks).map (shQ r wl)).length - 1) = (m + r.clicks).toNat := by
      rw [hlen2, show wl.length - 1 = (2 * r.clicks).toNat by omega]
      omega
    have hm5 : ((allC r.clicks).map (shQ r wl)).getD (m + r.clicks).toNat (0, 1) = shQ r wl m := by
      rw [allC_at _ _ _ (by omega)]
      congr 1
      omega
    (refine q_exit _ rfl ?_; refine q_seq ?_; refine q_region ?_; refine ql_loadAB tabOk rfl rfl rfl (by repeat first | exact .head _ | refine .tail _ ?_) (by rfl) (by rfl) ?_; refine ql_pure tabOk rfl rfl ?_)
    refine ql_callv (val := .tuple #[.int .i64 m, .agg #[.int .i64 (shQ r wl m).1, .int .i64 (shQ r wl m).2]]) tabOk rfl rfl rfl rfl (fun w hs => ?_) ?_; exact by have := pick_ca w 0 w.heap.size _ r v ((allC r.clicks).map (shQ r wl)) (h0.keep hs.chg0) hC (Sat.rdSp hs (t := 36) (k := wl.length) (by repeat first | exact .head _ | refine .tail _ ?_) hlen2.symm) (by omega) (by omega) (fun x hx => by obtain ⟨c, _, rfl⟩ := List.mem_map.1 hx; exact facedV_fine r hr _ _ (hshl c)); rw [hm4, hm5, show (((m + r.clicks).toNat : Nat) : Int) - r.clicks = m by omega] at this; exact this
    (refine ql_pure tabOk rfl rfl ?_; (iterate 2 refine ql_ext tabOk rfl rfl rfl ?_))
    refine ql_alloc zero36 rfl (fun b14 => ?_)
    (refine ql_pure tabOk rfl rfl ?_; refine ql_setA tabOk rfl rfl rfl rfl rfl (by repeat constructor) rfl ?_; refine q_nil ?_; refine q_seq ?_; refine q_region ?_; refine ql_loadAB tabOk rfl rfl rfl (by repeat first | exact .head _ | refine .tail _ ?_) (by rfl) (by rfl) ?_; refine ql_setA tabOk rfl rfl rfl rfl rfl (by repeat constructor) rfl ?_; refine ql_pure tabOk rfl rfl ?_; refine q_nil ?_; refine q_ret ?_)
    refine q_fin tabOk rfl (by repeat (first | exact RVs.nil | apply RVs.tmp rfl | apply RVs.cellA rfl rfl (by repeat first | exact .head _ | refine .tail _ ?_) (by rfl) | apply RVs.cell1 rfl rfl (by repeat first | exact .head _ | refine .tail _ ?_))) fun w hs => ?_
    exact ⟨by rw [hsv]; rfl, hs.chg0⟩
end Go.Proofs.YtohlillcaadidaaGreat

/- The walk of WindWorsts. -/
namespace Go.Proofs.YtohlillcaadidaaGreat
open Go Go.Eng

set_option maxHeartbeats 1000000 in
theorem eqS_ca (w : World) (lo hi lo2 hi2 : Nat) (v u : Value) (l : List (Int × Int)) (h1 : RdS w lo hi v l) (h2 : RdS w lo2 hi2 u l) (hlen : l.length ≤ 1000000) :
    Ca Tryz.prog 19 [v, u] w fun r w' => r = .bool true ∧ Chg [] w w' := by
  obtain ⟨a, ca, rfl, hsa⟩ := RdS.outI h1
  obtain ⟨b, cb, rfl, hsb⟩ := RdS.outI h2
  refine q_of (Sat.nil w M0) Tryz.func19 rfl (by simp [Tryz.ntmps19]) ?_
  (refine q_seq ?_; refine q_region ?_; refine ql_pure tabOk rfl rfl ?_; refine q_nil ?_; (iterate 2 refine q_seq ?_); refine q_region ?_; (iterate 4 refine ql_pure tabOk rfl rfl ?_); refine ql_neqF tabOk rfl rfl rfl (by omega) ?_; refine q_nil ?_; refine q_cond_false rfl ?_; refine q_skip ?_; (iterate 2 refine q_seq ?_); refine q_region ?_; (iterate 3 refine ql_pure tabOk rfl rfl ?_); refine q_nil ?_; refine q_block ?_)
  refine q_loop (σ := Nat) (fun s => s ≤ l.length) (fun s => l.length - s) (fun s => [(0, .slice a l.length ca), (1, .slice b l.length cb), (12, .int .i64 l.length), (13, .int .i64 s)]) (fun _ => []) 0 (by omega) ⟨rfl, rfl, rfl, rfl, trivial⟩ (by repeat (first | exact Sp.nil | exact Sp.refl _ | refine Sp.cons (by repeat constructor) ?_)) ?_
  intro i hi K hK
  (refine q_seq ?_; refine q_region ?_; refine ql_pure tabOk rfl rfl ?_; refine q_nil ?_; refine q_seq ?_)
  refine q_if rfl (fun hc => ?_) (fun hc => ?_)
  · have hi2 : i < l.length := by omega
    clear hc
    obtain ⟨ba, oa, rfl⟩ := hsa (by omega)
    obtain ⟨bb, ob, rfl⟩ := hsb (by omega)
    (refine q_skip ?_; refine q_seq ?_; refine q_block ?_; refine q_seq ?_; refine q_region ?_; (iterate 2 refine ql_pure tabOk rfl rfl ?_); refine q_nil ?_; refine q_seq ?_)
    refine q_draw _ [] (Sp.refl _) (by kernel_rfl) (by kernel_rfl) ?_
    ((iterate 2 refine qf_pure tabOk rfl rfl rfl ?_))
    (refine qf_index tabOk rfl rfl rfl rfl rfl (by omega) (by omega) ?_; refine qf_loadA tabOk rfl rfl rfl rfl (fun w hs => RdS.at (RdE.keep h1 hs.chg0) i hi2) ?_)
    ((iterate 2 refine qf_pure tabOk rfl rfl rfl ?_))
    (refine qf_index tabOk rfl rfl rfl rfl rfl (by omega) (by omega) ?_; refine qf_loadA tabOk rfl rfl rfl rfl (fun w hs => RdS.at (RdE.keep h2 hs.chg0) i hi2) ?_)
    skip
    refine qf_neF [some .i64, some .i64] spn_flat rfl rfl rfl rfl rfl ?_
    rw [eqL_refl]
    (refine qf_nil ?_; refine q_cond_false rfl ?_; refine q_skip ?_; refine q_blk ?_; refine q_region ?_; refine ql_ar tabOk rfl rfl rfl rfl (by omega) (by omega) ?_; refine ql_pure tabOk rfl rfl ?_; refine q_nil ?_)
    exact hK (i + 1) _ _ (by omega) (by omega) ⟨rfl, rfl, rfl, rfl, trivial⟩ (by repeat (first | exact Sp.nil | exact Sp.refl _ | refine Sp.cons (by repeat constructor) ?_))
  · (refine q_exit _ rfl ?_; refine q_seq ?_; refine q_region ?_; refine ql_pure tabOk rfl rfl ?_; refine q_nil ?_; refine q_ret ?_)
    refine q_fin tabOk rfl (by repeat (first | exact RVs.nil | apply RVs.tmp rfl | apply RVs.cellA rfl rfl (by repeat first | exact .head _ | refine .tail _ ?_) (by rfl) | apply RVs.cell1 rfl rfl (by repeat first | exact .head _ | refine .tail _ ?_))) fun w hs => ?_
    exact ⟨rfl, hs.chg0⟩
/-- Lists copied. -/
def CAll (ll : List (List Int)) := {x : Value × List (Value × List Int) // x.2.map (·.2) = ll}
theorem cloneAll_s (w : World) (lo hi : Nat) (v : Value) (ll : List (List Int)) (h : RdII w lo hi v ll) (hlen : ll.length ≤ 1000) (hl : ∀ l ∈ ll, l.length ≤ 1000000) :
    Ca Tryz.prog 9 [v] w fun r w' => ∃ x : CAll ll, r = x.1.1 ∧ Sat w M0 [un (rowsO x.1.2), .ow x.1.1 22 1 ll.length (x.1.2.map (·.1))] w' :=
  (cloneAll_ca w lo hi v ll h hlen hl).mono fun _ _ ⟨x, ⟨h1, h2⟩, h3⟩ => ⟨⟨x, h2⟩, h1, h3⟩
theorem CAll.rd {ll : List (List Int)} {x : CAll ll} {w0 w : World} {M : Nat → Prop} {H : List Ck} (hs : Sat w0 M H w) (h1 : un (rowsO x.1.2) ∈ H) (h2 : Ck.ow x.1.1 22 1 ll.length (x.1.2.map (·.1)) ∈ H) : RdII w 0 w.heap.size x.1.1 ll := by
  have := rowsO_rd (hs.mem h1) (hs.mem h2)
  rw [x.2] at this
  exact this
theorem rows_rd2 {w : World} {v : Value} {xs : List (Nat × List Int)} {n : Nat} (hu : (un (rowsK xs)).p w) (ho : w.ownsRow 0 22 1 v n (rowsV xs)) : RdII w 0 w.heap.size v (xs.map (·.2)) := by
  have hn : n = (rowsV xs).length := by have := ho.1; omega
  have hp : ∀ p ∈ xs, Blk w p.1 (ints p.2) 3 := fun p hp => hu.1 (.pt p.1 (ints p.2) 3) (List.mem_map.2 ⟨p, hp, rfl⟩)
  refine ⟨rowsV xs, RdE.one (by rw [← hn]; exact own_rd ho) (fun e he => by obtain ⟨p, hm, rfl⟩ := List.mem_map.1 he; rfl), by simp [rowsV], fun i hi hi' => ?_⟩
  have hi2 : i < xs.length := by simpa [rowsV] using hi
  have hb := hp _ (List.getElem_mem hi2)
  simp only [rowsV, List.getElem_map]
  refine RdE.wide (lo := xs[i].1) (hi := xs[i].1 + 1) ?_ (Nat.zero_le _) hb.lt
  exact RdE.one (by have := Blk.rd hb (show (ints xs[i].2).length = xs[i].2.length by simp) xs[i].2.length; simpa using this) (fun e he => by obtain ⟨x, _, rfl⟩ := List.mem_map.1 he; rfl)
/-- The worst case, or none. -/
def wuL (r : Rg) (ws : List (Int × Int)) (c : Int) : List Int := if wErr r ws c = 0 then worstL r ws c else []
def wuQ (r : Rg) (ws : List (Int × Int)) (c : Int) : Int × Int := if wErr r ws c = 0 then robQ r ws c else (0, 0)
theorem wErr_iff {r : Rg} {ws : List (Int × Int)} {c : Int} (h : wErr r ws c = 0) : blownV r ws = 0 ∧ -r.clicks ≤ c ∧ c ≤ r.clicks := by
  unfold wErr at h
  split at h
  · rename_i h1
    exact absurd h h1
  · split at h
    · cases h
    · rename_i h1 h2
      exact ⟨by omega, inB_iff.1 (by simpa using h2)⟩
theorem worst_u (w : World) (l0 h1 : Nat) (cs : List Value) (r : Rg) (v : Value) (ws : List (Int × Int)) (click : Int) (h : RgC w cs r) (hsm : r.Small) (hl : RdS w l0 h1 v ws) (hlen : ws.length < 1000000) :
    Ca Tryz.prog 10 [.agg cs.toArray, v, .int .i64 click] w fun v w' => ∃ x : (Option Addr × Nat) × List Ck, (v = .tuple #[.slice x.1.1 (wuL r ws click).length x.1.2, .agg #[.int .i64 (wuQ r ws click).1, .int .i64 (wuQ r ws click).2], .int .i64 (wErr r ws click)] ∧ ∀ w'', (∀ c ∈ x.2, c.p w'') → RdI w'' 0 w''.heap.size (.slice x.1.1 (wuL r ws click).length x.1.2) (wuL r ws click)) ∧ Sat w M0 [un x.2] w' := by
  by_cases hE : wErr r ws click = 0
  · obtain ⟨hb, hc⟩ := wErr_iff hE
    obtain ⟨_, hw⟩ := (blown_iff r ws).1 hb
    have e1 : wuL r ws click = worstL r ws click := by rw [wuL, if_pos hE]
    have e2 : wuQ r ws click = robQ r ws click := by rw [wuQ, if_pos hE]
    have e3 : (worstL r ws click).length = 5 := by rw [worstL_length, hw.len]
    rw [e1, e2, hE]
    refine (worstF_ok w l0 h1 cs r v ws click h hsm hl hE).mono fun v w' ⟨x, g1, g2⟩ => ?_
    obtain ⟨a, c, rfl⟩ := g2.slice2 (v := x) (.head _)
    refine ⟨((a, c), [.ow (.slice a 5 c) 3 1 5 (ints (worstL r ws click))]), ⟨by rw [g1, e3]; rfl, fun w'' hp => ?_⟩, Sat.un1.2 g2⟩
    rw [e3]
    have := hp (.ow (.slice a 5 c) 3 1 5 (ints (worstL r ws click))) (by simp)
    exact RdE.one (by have := own_rd (show w''.ownsRow 0 3 1 (.slice a 5 c) 5 (ints (worstL r ws click)) from this); simpa [e3] using this) (fun e he => by obtain ⟨x, _, rfl⟩ := List.mem_map.1 he; rfl)
  · have e1 : wuL r ws click = [] := by rw [wuL, if_neg hE]
    have e2 : wuQ r ws click = (0, 0) := by rw [wuQ, if_neg hE]
    rw [e1, e2]
    refine (worstF_no w l0 h1 cs r v ws click h hsm hl hlen hE).mono fun v w' ⟨g1, g2⟩ => ⟨((none, 0), []), ⟨g1, fun w'' _ => RdE.one ⟨rfl, .inl ⟨.inl rfl, rfl⟩⟩ (by simp)⟩, Sat.un1.2 ((Sat.nil w M0).keep g2)⟩
/-- The witnesses, or none. -/
def agL (r : Rg) (ws : List (Int × Int)) : List (List Int) := if blownV r ws = 0 then (allC r.clicks).map (worstL r ws) else []
theorem against_u (w : World) (l0 h1 : Nat) (cs : List Value) (r : Rg) (v : Value) (ws : List (Int × Int)) (h : RgC w cs r) (hsm : r.Small) (hl : RdS w l0 h1 v ws) (hlen : ws.length < 1000000) :
    Ca Tryz.prog 15 [.agg cs.toArray, v] w fun v w' => ∃ x : (Option Addr × Nat) × List Ck, (v = .tuple #[.slice x.1.1 (agL r ws).length x.1.2, .int .i64 (blownV r ws)] ∧ ∀ w'', (∀ c ∈ x.2, c.p w'') → RdII w'' 0 w''.heap.size (.slice x.1.1 (agL r ws).length x.1.2) (agL r ws)) ∧ Sat w M0 [un x.2] w' := by
  by_cases hE : blownV r ws = 0
  · have e1 : agL r ws = (allC r.clicks).map (worstL r ws) := by rw [agL, if_pos hE]
    have e3 : (agL r ws).length = (2 * r.clicks + 1).toNat := by rw [e1, List.length_map, allC_len]
    rw [hE, e3]
    refine (against_ok w l0 h1 cs r v ws h hsm hl hE).mono fun v w' ⟨x, ⟨g1, g3⟩, g2⟩ => ?_
    obtain ⟨xv, xs⟩ := x
    dsimp only at g1 g2 g3
    obtain ⟨a, c, rfl⟩ := g2.slice2 (v := xv) (.tail _ (.head _))
    refine ⟨((a, c), [un (rowsK xs), .ow (.slice a (2 * r.clicks + 1).toNat c) 22 1 (2 * r.clicks + 1).toNat (rowsV xs)]), ⟨g1, fun w'' hp => ?_⟩, Sat.un1.2 g2⟩
    rw [e1, ← g3]
    exact rows_rd2 (hp _ (by simp)) (hp (.ow (.slice a (2 * r.clicks + 1).toNat c) 22 1 (2 * r.clicks + 1).toNat (rowsV xs)) (by simp))
  · have e1 : agL r ws = [] := by rw [agL, if_neg hE]
    rw [e1]
    refine (against_no w l0 h1 cs r v ws h hsm hl hlen hE).mono fun v w' ⟨g1, g2⟩ => ⟨((none, 0), []), ⟨g1, fun w'' _ => ⟨[], RdE.one ⟨rfl, .inl ⟨.inl rfl, rfl⟩⟩ (by simp), rfl, fun i h => absurd h (by simp)⟩⟩, Sat.un1.2 ((Sat.nil w M0).keep g2)⟩
theorem rob_err (r : Rg) (ws : List (Int × Int)) : (robV r ws).2.2 = blownV r ws := by
  unfold robV
  split
  · rfl
  · simp only
    omega
theorem shows_ag {r : Rg} {ws : List (Int × Int)} (h : blownV r ws = 0) : showsV r ws (agL r ws) = ((robV r ws).2.1, 0) := by
  obtain ⟨hck, hw⟩ := (blown_iff r ws).1 h
  have hr := (right_check r).1 hck
  have hC := hr.clicks
  rw [agL, if_pos h]
  obtain ⟨m, hm, hm1, hm2, _⟩ := rob_of hr hw
  rw [hm]
  have hl5 : ∀ c, (worstL r ws c).length = 5 := fun c => by rw [worstL_length, hw.len]
  have hget : ∀ c, -r.clicks ≤ c ∧ c ≤ r.clicks → ((allC r.clicks).map (worstL r ws)).getD (c + r.clicks).toNat [] = worstL r ws c := fun c hc => by
    have h1 : (c + r.clicks).toNat < (2 * r.clicks + 1).toNat := by omega
    simp only [allC, List.map_map, List.getD_eq_getElem?_getD, List.getElem?_map, List.getElem?_range h1, Option.map_some, Option.getD_some, Function.comp]
    congr 1
    omega
  obtain ⟨m', h1, h2, h3⟩ := shows_of hr hw ((allC r.clicks).map (worstL r ws)) (by simp [allC]; omega) (fun l hl => by obtain ⟨c, _, rfl⟩ := List.mem_map.1 hl; exact hl5 c) (fun l hl i hi => by
    obtain ⟨c, _, rfl⟩ := List.mem_map.1 hl
    have hiw : i < ws.length := by rw [hw.len]; exact hi
    rw [worstL_getD r ws c i hiw]
    exact worstO_in r c _ (hw.sp _ (ws_mem hiw)).1)
  rw [h1]
  have a1 := h3 m hm1
  rw [hget m hm1, hget m' h2] at a1
  have a2 := hm2 m' h2
  rw [hget m' h2, show facN r (worstL r ws m') m' = facN r (worstL r ws m) m by omega, ← robQ_eq r hw m]

set_option maxRecDepth 40000 in
set_option maxHeartbeats 16000000 in
theorem windWorsts_ca (w : World) (l0 h1_ l2 h3_ : Nat) (cs : List Value) (r : Rg) (vs vw : Value) (ws : List (Int × Int)) (click : Int) (wl : List (List Int)) (h : RgC w cs r) (hws : RdS w l0 h1_ vs ws) (hwl : RdII w l2 h3_ vw wl) (hl : r.next.length ≤ maxLen) (n1 : ws.length ≤ maxLen) (n3 : wl.length ≤ maxLen) (n4 : ∀ l ∈ wl, l.length ≤ maxLen) :
    Ca Tryz.prog 3 [.agg cs.toArray, vs, .int .i64 click, vw] w fun r w' => r = .bool true ∧ Chg [] w w' := by
  have h0 := h
  obtain ⟨lo, hi, ag, cg, ad, cd, af, cf, an, cn, rfl, hg, hdr, hf, hn⟩ := h
  obtain ⟨sa, sc, rfl, hsa⟩ := RdS.outI hws
  obtain ⟨wa, wc, rfl, hwa⟩ := RdII.outI hwl
  simp only [maxLen] at n1 n3 n4
  refine q_of (Sat.nil w M0) Tryz.func3 rfl (by simp [Tryz.ntmps3]) ?_
  (refine q_seq ?_; refine q_region ?_)
  refine ql_box rfl rfl (fun b4 => ?_)
  (refine ql_pure tabOk rfl rfl ?_; refine q_nil ?_; (iterate 2 refine q_seq ?_); refine q_region ?_; refine ql_loadAB tabOk rfl rfl rfl (by repeat first | exact .head _ | refine .tail _ ?_) (by rfl) (by rfl) ?_)
  refine ql_call (β := Bool) tabOk [] _ M0 rfl rfl rfl rfl (Sp.refl _) (fun _ h => h.elim) (fun w' hs => long_ca w' _ r (h0.keep hs.chg0) hl) ?_
  rintro b _ ⟨rfl, hsm⟩
  cases b with
  | true =>
    (refine ql_pure tabOk rfl rfl ?_; (iterate 3 refine ql_gno rfl rfl rfl ?_); (iterate 2 refine ql_pure tabOk rfl rfl ?_); (iterate 3 refine ql_gno rfl rfl rfl ?_); refine ql_pure tabOk rfl rfl ?_; refine q_nil ?_; refine q_cond_true rfl ?_; refine q_seq ?_; refine q_region ?_)
    refine ql_callv (val := .bool true) tabOk rfl rfl rfl rfl (fun w hs => ?_) ?_; exact awake_ca w
    (refine ql_pure tabOk rfl rfl ?_; refine q_nil ?_; refine q_ret ?_)
    refine q_fin tabOk rfl (by repeat (first | exact RVs.nil | apply RVs.tmp rfl | apply RVs.cellA rfl rfl (by repeat first | exact .head _ | refine .tail _ ?_) (by rfl) | apply RVs.cell1 rfl rfl (by repeat first | exact .head _ | refine .tail _ ?_))) fun w hs => ?_
    exact ⟨rfl, hs.chg0⟩
  | false =>
  replace hsm := hsm rfl
  (refine ql_pure tabOk rfl rfl ?_; refine ql_gyes rfl ?_; refine ql_pure tabOk rfl rfl ?_; refine ql_gyes rfl ?_; refine ql_pure tabOk rfl rfl ?_; refine ql_gyes rfl ?_; (iterate 3 refine ql_pure tabOk rfl rfl ?_))
  refine ql_split rfl rfl (fun hc => ?_) (fun hc => ?_)
  · ((iterate 3 refine ql_gno rfl rfl rfl ?_); refine ql_pure tabOk rfl rfl ?_; refine q_nil ?_; refine q_cond_true rfl ?_; refine q_seq ?_; refine q_region ?_)
    refine ql_callv (val := .bool true) tabOk rfl rfl rfl rfl (fun w hs => ?_) ?_; exact awake_ca w
    (refine ql_pure tabOk rfl rfl ?_; refine q_nil ?_; refine q_ret ?_)
    refine q_fin tabOk rfl (by repeat (first | exact RVs.nil | apply RVs.tmp rfl | apply RVs.cellA rfl rfl (by repeat first | exact .head _ | refine .tail _ ?_) (by rfl) | apply RVs.cell1 rfl rfl (by repeat first | exact .head _ | refine .tail _ ?_))) fun w hs => ?_
    exact ⟨rfl, hs.chg0⟩
  have c1 := of_decide_eq_false hc
  clear hc
  (refine ql_gyes rfl ?_; refine ql_pure tabOk rfl rfl ?_; refine ql_gyes rfl ?_; refine ql_pure tabOk rfl rfl ?_; refine ql_gyes rfl ?_; (iterate 2 refine ql_pure tabOk rfl rfl ?_); refine q_nil ?_)
  refine q_if rfl (fun hc => ?_) (fun hc => ?_)
  · (refine q_seq ?_; refine q_region ?_)
    refine ql_callv (val := .bool true) tabOk rfl rfl rfl rfl (fun w hs => ?_) ?_; exact awake_ca w
    (refine ql_pure tabOk rfl rfl ?_; refine q_nil ?_; refine q_ret ?_)
    refine q_fin tabOk rfl (by repeat (first | exact RVs.nil | apply RVs.tmp rfl | apply RVs.cellA rfl rfl (by repeat first | exact .head _ | refine .tail _ ?_) (by rfl) | apply RVs.cell1 rfl rfl (by repeat first | exact .head _ | refine .tail _ ?_))) fun w hs => ?_
    exact ⟨rfl, hs.chg0⟩
  have c2 : wl.length ≤ 15 := by omega
  clear hc
  (refine q_skip ?_; (iterate 2 refine q_seq ?_); refine q_region ?_; (iterate 3 refine ql_pure tabOk rfl rfl ?_); refine q_nil ?_; refine q_block ?_)
  refine q_loop (σ := Nat) (fun k => k ≤ wl.length ∧ ∀ l ∈ wl.take k, l.length ≤ 8) (fun k => wl.length - k) (fun k => [(1, .slice sa ws.length sc), (2, .int .i64 click), (3, .slice wa wl.length wc), (4, .pointer (some ⟨b4, 0, none⟩)), (41, .slice wa wl.length wc), (42, .int .i64 wl.length), (43, .int .i64 k)])
    (fun _ => [.pt b4 [.int .i64 r.radius, .int .i64 r.unit, .int .i64 r.clicks, .int .i64 r.total, .slice ag r.group.length cg, .slice ad r.drifts.length cd, .slice af r.first.length cf, .slice an r.next.length cn] 25]) 0 ⟨by omega, by simp⟩ ⟨rfl, rfl, rfl, rfl, rfl, rfl, rfl, trivial⟩ (by repeat (first | exact Sp.nil | exact Sp.refl _ | refine Sp.cons (by repeat constructor) ?_)) ?_
  rintro k ⟨hk, hall⟩ K hK
  (refine q_seq ?_; refine q_region ?_; refine ql_pure tabOk rfl rfl ?_; refine q_nil ?_; refine q_seq ?_)
  refine q_if rfl (fun hc => ?_) (fun hc => ?_)
  · have hk2 : k < wl.length := by omega
    clear hc
    obtain ⟨bw, ow, rfl⟩ := hwa (by omega)
    obtain ⟨ar, cr, hrow, hcell⟩ := hwl.row k hk2
    have hn4 := n4 _ (List.getElem_mem hk2)
    (refine q_skip ?_; refine q_seq ?_; refine q_block ?_; refine q_seq ?_; refine q_region ?_)
    refine ql_index tabOk rfl rfl rfl rfl rfl (by omega) (by omega) ?_
    refine ql_load1 (v := .slice ar wl[k].length cr) tabOk rfl rfl rfl (fun w' hs => hcell w' hs.chg0) ?_
    (refine ql_pure tabOk rfl rfl ?_; refine q_nil ?_; refine q_seq ?_; refine q_region ?_; (iterate 3 refine ql_pure tabOk rfl rfl ?_); refine q_nil ?_)
    refine q_if rfl (fun hc => ?_) (fun hc => ?_)
    · (refine q_seq ?_; refine q_region ?_)
      refine ql_callv (val := .bool true) tabOk rfl rfl rfl rfl (fun w hs => ?_) ?_; exact awake_ca w
      (refine ql_pure tabOk rfl rfl ?_; refine q_nil ?_; refine q_ret ?_)
      refine q_fin tabOk rfl (by repeat (first | exact RVs.nil | apply RVs.tmp rfl | apply RVs.cellA rfl rfl (by repeat first | exact .head _ | refine .tail _ ?_) (by rfl) | apply RVs.cell1 rfl rfl (by repeat first | exact .head _ | refine .tail _ ?_))) fun w hs => ?_
      exact ⟨rfl, hs.chg0⟩
    · (refine q_skip ?_; refine q_blk ?_; refine q_region ?_; refine ql_ar tabOk rfl rfl rfl rfl (by omega) (by omega) ?_; refine ql_pure tabOk rfl rfl ?_; refine q_nil ?_)
      exact hK (k + 1) _ _ ⟨by omega, fun l hm => by
        rw [List.take_succ_eq_append_getElem hk2] at hm
        rcases List.mem_append.1 hm with hm | hm
        · exact hall l hm
        · simp at hm
          subst hm
          omega⟩ (by omega) ⟨rfl, rfl, rfl, rfl, rfl, rfl, rfl, trivial⟩ (by repeat (first | exact Sp.nil | exact Sp.refl _ | refine Sp.cons (by repeat constructor) ?_))
  obtain rfl : k = wl.length := by omega
  rw [List.take_length] at hall
  have hrow := hall
  clear hc hK hall
  (refine q_exit _ rfl ?_; refine q_seq ?_)
  refine q_cut (σ := Nat × Nat × Cp r × Value × CAll wl × Cp r) (fun ⟨b11, b14, x1, x2, x3, x4⟩ => [(1, .slice sa ws.length sc), (2, .int .i64 click), (3, .slice wa wl.length wc), (4, .pointer (some ⟨b4, 0, none⟩)), (11, .pointer (some ⟨b11, 0, none⟩)), (14, .pointer (some ⟨b14, 0, none⟩)), (12, x2), (13, x3.1.1)]) (fun ⟨b11, b14, x1, x2, x3, x4⟩ => [un x1.K, .ow x2 32 2 ws.length (spC ws), un (rowsO x3.1.2), .ow x3.1.1 22 1 wl.length (x3.1.2.map (·.1)), un x4.K, .pt b11 [.int .i64 r.radius, .int .i64 r.unit, .int .i64 r.clicks, .int .i64 r.total, .slice x1.a1 r.group.length x1.c1, .slice x1.a2 r.drifts.length x1.c2, .slice x1.a3 r.first.length x1.c3, .slice x1.a4 r.next.length x1.c4] 25, .pt b14 [.int .i64 r.radius, .int .i64 r.unit, .int .i64 r.clicks, .int .i64 r.total, .slice x4.a1 r.group.length x4.c1, .slice x4.a2 r.drifts.length x4.c2, .slice x4.a3 r.first.length x4.c3, .slice x4.a4 r.next.length x4.c4] 34, .pt b4 [.int .i64 r.radius, .int .i64 r.unit, .int .i64 r.clicks, .int .i64 r.total, .slice ag r.group.length cg, .slice ad r.drifts.length cd, .slice af r.first.length cf, .slice an r.next.length cn] 25]) ?_ (fun K2 hK2 => ?_)
  rotate_left
  · skip
    refine q_drawT (.alt (chainT [0, 1] (.alt (chainT [2, 3] (.alt (chainT [4, 5] (.alt (chainT [6, 7] (.alt (chainT [8] (chainT [9] (chainT [10, 11, 12] (chainT [13] (.nil))))) (chainT [9] (chainT [8] (chainT [10, 11, 12] (chainT [13] (.nil))))))) (.alt (chainT [8] (.alt (chainT [6, 7] (chainT [9] (chainT [10, 11, 12] (chainT [13] (.nil))))) (chainT [9] (chainT [6, 7] (chainT [10, 11, 12] (chainT [13] (.nil))))))) (chainT [9] (.alt (chainT [6, 7] (chainT [8] (chainT [10, 11, 12] (chainT [13] (.nil))))) (chainT [8] (chainT [6, 7] (chainT [10, 11, 12] (chainT [13] (.nil)))))))))) (.alt (chainT [8] (.alt (chainT [4, 5] (.alt (chainT [6, 7] (chainT [9] (chainT [10, 11, 12] (chainT [13] (.nil))))) (chainT [9] (chainT [6, 7] (chainT [10, 11, 12] (chainT [13] (.nil))))))) (chainT [9] (chainT [4, 5] (chainT [6, 7] (chainT [10, 11, 12] (chainT [13] (.nil)))))))) (chainT [9] (.alt (chainT [4, 5] (.alt (chainT [6, 7] (chainT [8] (chainT [10, 11, 12] (chainT [13] (.nil))))) (chainT [8] (chainT [6, 7] (chainT [10, 11, 12] (chainT [13] (.nil))))))) (chainT [8] (chainT [4, 5] (chainT [6, 7] (chainT [10, 11, 12] (chainT [13] (.nil))))))))))) (.alt (chainT [8] (.alt (chainT [2, 3] (.alt (chainT [4, 5] (.alt (chainT [6, 7] (chainT [9] (chainT [10, 11, 12] (chainT [13] (.nil))))) (chainT [9] (chainT [6, 7] (chainT [10, 11, 12] (chainT [13] (.nil))))))) (chainT [9] (chainT [4, 5] (chainT [6, 7] (chainT [10, 11, 12] (chainT [13] (.nil)))))))) (chainT [9] (chainT [2, 3] (chainT [4, 5] (chainT [6, 7] (chainT [10, 11, 12] (chainT [13] (.nil))))))))) (chainT [9] (.alt (chainT [2, 3] (.alt (chainT [4, 5] (.alt (chainT [6, 7] (chainT [8] (chainT [10, 11, 12] (chainT [13] (.nil))))) (chainT [8] (chainT [6, 7] (chainT [10, 11, 12] (chainT [13] (.nil))))))) (chainT [8] (chainT [4, 5] (chainT [6, 7] (chainT [10, 11, 12] (chainT [13] (.nil)))))))) (chainT [8] (chainT [2, 3] (chainT [4, 5] (chainT [6, 7] (chainT [10, 11, 12] (chainT [13] (.nil)))))))))))) (.alt (chainT [8] (.alt (chainT [0, 1] (.alt (chainT [2, 3] (.alt (chainT [4, 5] (.alt (chainT [6, 7] (chainT [9] (chainT [10, 11, 12] (chainT [13] (.nil))))) (chainT [9] (chainT [6, 7] (chainT [10, 11, 12] (chainT [13] (.nil))))))) (chainT [9] (chainT [4, 5] (chainT [6, 7] (chainT [10, 11, 12] (chainT [13] (.nil)))))))) (chainT [9] (chainT [2, 3] (chainT [4, 5] (chainT [6, 7] (chainT [10, 11, 12] (chainT [13] (.nil))))))))) (chainT [9] (chainT [0, 1] (chainT [2, 3] (chainT [4, 5] (chainT [6, 7] (chainT [10, 11, 12] (chainT [13] (.nil)))))))))) (chainT [9] (.alt (chainT [0, 1] (.alt (chainT [2, 3] (.alt (chainT [4, 5] (.alt (chainT [6, 7] (chainT [8] (chainT [10, 11, 12] (chainT [13] (.nil))))) (chainT [8] (chainT [6, 7] (chainT [10, 11, 12] (chainT [13] (.nil))))))) (chainT [8] (chainT [4, 5] (chainT [6, 7] (chainT [10, 11, 12] (chainT [13] (.nil)))))))) (chainT [8] (chainT [2, 3] (chainT [4, 5] (chainT [6, 7] (chainT [10, 11, 12] (chainT [13] (.nil))))))))) (chainT [8] (chainT [0, 1] (chainT [2, 3] (chainT [4, 5] (chainT [6, 7] (chainT [10, 11, 12] (chainT [13] (.nil)))))))))))) _ [] (Sp.refl _) (by kernel_rfl) (by kernel_rfl) ?_
    refine qt_let (σ := Cp r × Value × CAll wl × Cp r × Nat × Nat × Unit) (.nil) (fun ⟨x1, x2, x3, x4, b11, b14, ()⟩ => [(1, .slice sa ws.length sc), (2, .int .i64 click), (3, .slice wa wl.length wc), (4, .pointer (some ⟨b4, 0, none⟩)), (53, .agg #[.int .i64 r.radius, .int .i64 r.unit, .int .i64 r.clicks, .int .i64 r.total, .slice x1.a1 r.group.length x1.c1, .slice x1.a2 r.drifts.length x1.c2, .slice x1.a3 r.first.length x1.c3, .slice x1.a4 r.next.length x1.c4]), (55, x2), (57, x3.1.1), (59, .agg #[.int .i64 r.radius, .int .i64 r.unit, .int .i64 r.clicks, .int .i64 r.total, .slice x4.a1 r.group.length x4.c1, .slice x4.a2 r.drifts.length x4.c2, .slice x4.a3 r.first.length x4.c3, .slice x4.a4 r.next.length x4.c4]), (11, .pointer (some ⟨b11, 0, none⟩)), (14, .pointer (some ⟨b14, 0, none⟩)), (12, x2), (13, x3.1.1)]) (fun ⟨x1, x2, x3, x4, b11, b14, ()⟩ => [un x1.K, .ow x2 32 2 ws.length (spC ws), un (rowsO x3.1.2), .ow x3.1.1 22 1 wl.length (x3.1.2.map (·.1)), un x4.K, .pt b11 [.int .i64 r.radius, .int .i64 r.unit, .int .i64 r.clicks, .int .i64 r.total, .slice x1.a1 r.group.length x1.c1, .slice x1.a2 r.drifts.length x1.c2, .slice x1.a3 r.first.length x1.c3, .slice x1.a4 r.next.length x1.c4] 25, .pt b14 [.int .i64 r.radius, .int .i64 r.unit, .int .i64 r.clicks, .int .i64 r.total, .slice x4.a1 r.group.length x4.c1, .slice x4.a2 r.drifts.length x4.c2, .slice x4.a3 r.first.length x4.c3, .slice x4.a4 r.next.length x4.c4] 34]) ?_ (fun hS1_3_5_7_8_9_10_13 => ?_)
    · rintro ⟨x1, x2, x3, x4, b11, b14, _⟩
      exact qt_nil (hK2 (b11, b14, x1, x2, x3, x4) _ _ ⟨rfl, rfl, rfl, rfl, rfl, rfl, rfl, rfl, trivial⟩ (by repeat (first | exact Sp.nil | exact Sp.refl _ | refine Sp.cons (by repeat constructor) ?_)))
    refine qt_let (σ := Cp r × Value × CAll wl × Cp r × Nat × Nat × Unit) (chainT [13] (.nil)) (fun ⟨x1, x2, x3, x4, b11, b14, ()⟩ => [(1, .slice sa ws.length sc), (2, .int .i64 click), (3, .slice wa wl.length wc), (4, .pointer (some ⟨b4, 0, none⟩)), (53, .agg #[.int .i64 r.radius, .int .i64 r.unit, .int .i64 r.clicks, .int .i64 r.total, .slice x1.a1 r.group.length x1.c1, .slice x1.a2 r.drifts.length x1.c2, .slice x1.a3 r.first.length x1.c3, .slice x1.a4 r.next.length x1.c4]), (55, x2), (57, x3.1.1), (59, .agg #[.int .i64 r.radius, .int .i64 r.unit, .int .i64 r.clicks, .int .i64 r.total, .slice x4.a1 r.group.length x4.c1, .slice x4.a2 r.drifts.length x4.c2, .slice x4.a3 r.first.length x4.c3, .slice x4.a4 r.next.length x4.c4]), (11, .pointer (some ⟨b11, 0, none⟩)), (14, .pointer (some ⟨b14, 0, none⟩)), (12, x2), (13, x3.1.1)]) (fun ⟨x1, x2, x3, x4, b11, b14, ()⟩ => [un x1.K, .ow x2 32 2 ws.length (spC ws), un (rowsO x3.1.2), .ow x3.1.1 22 1 wl.length (x3.1.2.map (·.1)), un x4.K, .pt b11 [.int .i64 r.radius, .int .i64 r.unit, .int .i64 r.clicks, .int .i64 r.total, .slice x1.a1 r.group.length x1.c1, .slice x1.a2 r.drifts.length x1.c2, .slice x1.a3 r.first.length x1.c3, .slice x1.a4 r.next.length x1.c4] 25, .pt b14 [.int .i64 0, .int .i64 0, .int .i64 0, .int .i64 0, .slice none 0 0, .slice none 0 0, .slice none 0 0, .slice none 0 0] 34]) ?_ (fun hS1_3_5_7_8_9_10 => ?_)
    · rintro ⟨x1, x2, x3, x4, b11, b14, _⟩
      refine qt_seg (by repeat (first | exact PickL.nil | (apply PickL.cons; rfl))) fun K1 hK1 => ?_
      (refine qf_setA tabOk rfl rfl rfl rfl rfl (by repeat constructor) rfl ?_; refine qf_nil ?_)
      skip
      exact hK1 _ _ (hS1_3_5_7_8_9_10_13 ⟨x1, x2, x3, x4, b11, b14, ()⟩ _ _ ⟨rfl, rfl, rfl, rfl, rfl, rfl, rfl, rfl, rfl, rfl, rfl, rfl, trivial⟩ (by repeat (first | exact Sp.nil | exact Sp.refl _ | refine Sp.cons (by repeat constructor) ?_)))
    refine qt_let (σ := Cp r × Value × CAll wl × Cp r × Nat × Nat × Unit) (chainT [10, 11, 12] (chainT [13] (.nil))) (fun ⟨x1, x2, x3, x4, b11, b14, ()⟩ => [(1, .slice sa ws.length sc), (2, .int .i64 click), (3, .slice wa wl.length wc), (4, .pointer (some ⟨b4, 0, none⟩)), (53, .agg #[.int .i64 r.radius, .int .i64 r.unit, .int .i64 r.clicks, .int .i64 r.total, .slice x1.a1 r.group.length x1.c1, .slice x1.a2 r.drifts.length x1.c2, .slice x1.a3 r.first.length x1.c3, .slice x1.a4 r.next.length x1.c4]), (55, x2), (57, x3.1.1), (59, .agg #[.int .i64 r.radius, .int .i64 r.unit, .int .i64 r.clicks, .int .i64 r.total, .slice x4.a1 r.group.length x4.c1, .slice x4.a2 r.drifts.length x4.c2, .slice x4.a3 r.first.length x4.c3, .slice x4.a4 r.next.length x4.c4]), (11, .pointer (some ⟨b11, 0, none⟩)), (14, .pointer (some ⟨b14, 0, none⟩))]) (fun ⟨x1, x2, x3, x4, b11, b14, ()⟩ => [un x1.K, .ow x2 32 2 ws.length (spC ws), un (rowsO x3.1.2), .ow x3.1.1 22 1 wl.length (x3.1.2.map (·.1)), un x4.K, .pt b11 [.int .i64 0, .int .i64 0, .int .i64 0, .int .i64 0, .slice none 0 0, .slice none 0 0, .slice none 0 0, .slice none 0 0] 25, .pt b14 [.int .i64 0, .int .i64 0, .int .i64 0, .int .i64 0, .slice none 0 0, .slice none 0 0, .slice none 0 0, .slice none 0 0] 34]) ?_ (fun hS1_3_5_7_8_9 => ?_)
    · rintro ⟨x1, x2, x3, x4, b11, b14, _⟩
      refine qt_seg (by repeat (first | exact PickL.nil | (apply PickL.cons; rfl))) fun K1 hK1 => ?_
      (refine qf_setA tabOk rfl rfl rfl rfl rfl (by repeat constructor) rfl ?_; (iterate 2 refine qf_pure tabOk rfl rfl rfl ?_); refine qf_nil ?_)
      skip
      exact hK1 _ _ (hS1_3_5_7_8_9_10 ⟨x1, x2, x3, x4, b11, b14, ()⟩ _ _ ⟨rfl, rfl, rfl, rfl, rfl, rfl, rfl, rfl, rfl, rfl, rfl, rfl, trivial⟩ (by repeat (first | exact Sp.nil | exact Sp.refl _ | refine Sp.cons (by repeat constructor) ?_)))
    refine qt_let (σ := Cp r × Value × CAll wl × Cp r × Nat × Unit) (chainT [9] (chainT [10, 11, 12] (chainT [13] (.nil)))) (fun ⟨x1, x2, x3, x4, b11, ()⟩ => [(1, .slice sa ws.length sc), (2, .int .i64 click), (3, .slice wa wl.length wc), (4, .pointer (some ⟨b4, 0, none⟩)), (53, .agg #[.int .i64 r.radius, .int .i64 r.unit, .int .i64 r.clicks, .int .i64 r.total, .slice x1.a1 r.group.length x1.c1, .slice x1.a2 r.drifts.length x1.c2, .slice x1.a3 r.first.length x1.c3, .slice x1.a4 r.next.length x1.c4]), (55, x2), (57, x3.1.1), (59, .agg #[.int .i64 r.radius, .int .i64 r.unit, .int .i64 r.clicks, .int .i64 r.total, .slice x4.a1 r.group.length x4.c1, .slice x4.a2 r.drifts.length x4.c2, .slice x4.a3 r.first.length x4.c3, .slice x4.a4 r.next.length x4.c4]), (11, .pointer (some ⟨b11, 0, none⟩))]) (fun ⟨x1, x2, x3, x4, b11, ()⟩ => [un x1.K, .ow x2 32 2 ws.length (spC ws), un (rowsO x3.1.2), .ow x3.1.1 22 1 wl.length (x3.1.2.map (·.1)), un x4.K, .pt b11 [.int .i64 0, .int .i64 0, .int .i64 0, .int .i64 0, .slice none 0 0, .slice none 0 0, .slice none 0 0, .slice none 0 0] 25]) ?_ (fun hS1_3_5_7_8 => ?_)
    · rintro ⟨x1, x2, x3, x4, b11, _⟩
      refine qt_seg (by repeat (first | exact PickL.nil | (apply PickL.cons; rfl))) fun K1 hK1 => ?_
      skip
      refine qf_alloc zero34 rfl (fun b14 => ?_)
      (refine qf_nil ?_)
      exact hK1 _ _ (hS1_3_5_7_8_9 ⟨x1, x2, x3, x4, b11, b14, ()⟩ _ _ ⟨rfl, rfl, rfl, rfl, rfl, rfl, rfl, rfl, rfl, rfl, trivial⟩ (by repeat (first | exact Sp.nil | exact Sp.refl _ | refine Sp.cons (by repeat constructor) ?_)))
    refine qt_let (σ := Cp r × Value × CAll wl × Cp r × Nat × Unit) (chainT [8] (chainT [10, 11, 12] (chainT [13] (.nil)))) (fun ⟨x1, x2, x3, x4, b14, ()⟩ => [(1, .slice sa ws.length sc), (2, .int .i64 click), (3, .slice wa wl.length wc), (4, .pointer (some ⟨b4, 0, none⟩)), (53, .agg #[.int .i64 r.radius, .int .i64 r.unit, .int .i64 r.clicks, .int .i64 r.total, .slice x1.a1 r.group.length x1.c1, .slice x1.a2 r.drifts.length x1.c2, .slice x1.a3 r.first.length x1.c3, .slice x1.a4 r.next.length x1.c4]), (55, x2), (57, x3.1.1), (59, .agg #[.int .i64 r.radius, .int .i64 r.unit, .int .i64 r.clicks, .int .i64 r.total, .slice x4.a1 r.group.length x4.c1, .slice x4.a2 r.drifts.length x4.c2, .slice x4.a3 r.first.length x4.c3, .slice x4.a4 r.next.length x4.c4]), (14, .pointer (some ⟨b14, 0, none⟩))]) (fun ⟨x1, x2, x3, x4, b14, ()⟩ => [un x1.K, .ow x2 32 2 ws.length (spC ws), un (rowsO x3.1.2), .ow x3.1.1 22 1 wl.length (x3.1.2.map (·.1)), un x4.K, .pt b14 [.int .i64 0, .int .i64 0, .int .i64 0, .int .i64 0, .slice none 0 0, .slice none 0 0, .slice none 0 0, .slice none 0 0] 34]) ?_ (fun hS1_3_5_7_9 => ?_)
    · rintro ⟨x1, x2, x3, x4, b14, _⟩
      refine qt_seg (by repeat (first | exact PickL.nil | (apply PickL.cons; rfl))) fun K1 hK1 => ?_
      skip
      refine qf_alloc zero25 rfl (fun b11 => ?_)
      (refine qf_nil ?_)
      exact hK1 _ _ (hS1_3_5_7_8_9 ⟨x1, x2, x3, x4, b11, b14, ()⟩ _ _ ⟨rfl, rfl, rfl, rfl, rfl, rfl, rfl, rfl, rfl, rfl, trivial⟩ (by repeat (first | exact Sp.nil | exact Sp.refl _ | refine Sp.cons (by repeat constructor) ?_)))
    refine qt_let (σ := Cp r × Value × CAll wl × Nat × Nat × Unit) (chainT [6, 7] (chainT [10, 11, 12] (chainT [13] (.nil)))) (fun ⟨x1, x2, x3, b11, b14, ()⟩ => [(1, .slice sa ws.length sc), (2, .int .i64 click), (3, .slice wa wl.length wc), (4, .pointer (some ⟨b4, 0, none⟩)), (53, .agg #[.int .i64 r.radius, .int .i64 r.unit, .int .i64 r.clicks, .int .i64 r.total, .slice x1.a1 r.group.length x1.c1, .slice x1.a2 r.drifts.length x1.c2, .slice x1.a3 r.first.length x1.c3, .slice x1.a4 r.next.length x1.c4]), (55, x2), (57, x3.1.1), (11, .pointer (some ⟨b11, 0, none⟩)), (14, .pointer (some ⟨b14, 0, none⟩))]) (fun ⟨x1, x2, x3, b11, b14, ()⟩ => [un x1.K, .ow x2 32 2 ws.length (spC ws), un (rowsO x3.1.2), .ow x3.1.1 22 1 wl.length (x3.1.2.map (·.1)), .pt b11 [.int .i64 0, .int .i64 0, .int .i64 0, .int .i64 0, .slice none 0 0, .slice none 0 0, .slice none 0 0, .slice none 0 0] 25, .pt b14 [.int .i64 0, .int .i64 0, .int .i64 0, .int .i64 0, .slice none 0 0, .slice none 0 0, .slice none 0 0, .slice none 0 0] 34]) ?_ (fun hS1_3_5_8_9 => ?_)
    · rintro ⟨x1, x2, x3, b11, b14, _⟩
      refine qt_seg (by repeat (first | exact PickL.nil | (apply PickL.cons; rfl))) fun K1 hK1 => ?_
      (refine qf_loadAB tabOk rfl rfl rfl (by repeat first | exact .head _ | refine .tail _ ?_) (by rfl) (by rfl) ?_)
      refine qf_call (β := Cp r) tabOk [] _ M0 rfl rfl rfl rfl (Sp.refl _) (fun _ h => h.elim) (fun w' hs => cloneR_cp w' _ r (h0.keep hs.chg0) hsm) ?_
      rintro x4 _ rfl
      (refine qf_nil ?_)
      exact hK1 _ _ (hS1_3_5_7_8_9 ⟨x1, x2, x3, x4, b11, b14, ()⟩ _ _ ⟨rfl, rfl, rfl, rfl, rfl, rfl, rfl, rfl, rfl, rfl, trivial⟩ (by repeat (first | exact Sp.nil | exact Sp.refl _ | refine Sp.cons (by repeat constructor) ?_)))
    refine qt_let (σ := Cp r × Value × CAll wl × Cp r × Unit) (.alt (chainT [8] (chainT [9] (chainT [10, 11, 12] (chainT [13] (.nil))))) (chainT [9] (chainT [8] (chainT [10, 11, 12] (chainT [13] (.nil)))))) (fun ⟨x1, x2, x3, x4, ()⟩ => [(1, .slice sa ws.length sc), (2, .int .i64 click), (3, .slice wa wl.length wc), (4, .pointer (some ⟨b4, 0, none⟩)), (53, .agg #[.int .i64 r.radius, .int .i64 r.unit, .int .i64 r.clicks, .int .i64 r.total, .slice x1.a1 r.group.length x1.c1, .slice x1.a2 r.drifts.length x1.c2, .slice x1.a3 r.first.length x1.c3, .slice x1.a4 r.next.length x1.c4]), (55, x2), (57, x3.1.1), (59, .agg #[.int .i64 r.radius, .int .i64 r.unit, .int .i64 r.clicks, .int .i64 r.total, .slice x4.a1 r.group.length x4.c1, .slice x4.a2 r.drifts.length x4.c2, .slice x4.a3 r.first.length x4.c3, .slice x4.a4 r.next.length x4.c4])]) (fun ⟨x1, x2, x3, x4, ()⟩ => [un x1.K, .ow x2 32 2 ws.length (spC ws), un (rowsO x3.1.2), .ow x3.1.1 22 1 wl.length (x3.1.2.map (·.1)), un x4.K]) ?_ (fun hS1_3_5_7 => ?_)
    · rintro ⟨x1, x2, x3, x4, _⟩
      refine qt_alt ?_ ?_
      · skip
        refine qt_seg (by repeat (first | exact PickL.nil | (apply PickL.cons; rfl))) fun K1 hK1 => ?_
        skip
        refine qf_alloc zero25 rfl (fun b11 => ?_)
        (refine qf_nil ?_)
        exact hK1 _ _ (hS1_3_5_7_8 ⟨x1, x2, x3, x4, b11, ()⟩ _ _ ⟨rfl, rfl, rfl, rfl, rfl, rfl, rfl, rfl, rfl, trivial⟩ (by repeat (first | exact Sp.nil | exact Sp.refl _ | refine Sp.cons (by repeat constructor) ?_)))
      · skip
        refine qt_seg (by repeat (first | exact PickL.nil | (apply PickL.cons; rfl))) fun K1 hK1 => ?_
        skip
        refine qf_alloc zero34 rfl (fun b14 => ?_)
        (refine qf_nil ?_)
        exact hK1 _ _ (hS1_3_5_7_9 ⟨x1, x2, x3, x4, b14, ()⟩ _ _ ⟨rfl, rfl, rfl, rfl, rfl, rfl, rfl, rfl, rfl, trivial⟩ (by repeat (first | exact Sp.nil | exact Sp.refl _ | refine Sp.cons (by repeat constructor) ?_)))
    refine qt_let (σ := Cp r × Value × CAll wl × Nat × Unit) (.alt (chainT [6, 7] (chainT [9] (chainT [10, 11, 12] (chainT [13] (.nil))))) (chainT [9] (chainT [6, 7] (chainT [10, 11, 12] (chainT [13] (.nil)))))) (fun ⟨x1, x2, x3, b11, ()⟩ => [(1, .slice sa ws.length sc), (2, .int .i64 click), (3, .slice wa wl.length wc), (4, .pointer (some ⟨b4, 0, none⟩)), (53, .agg #[.int .i64 r.radius, .int .i64 r.unit, .int .i64 r.clicks, .int .i64 r.total, .slice x1.a1 r.group.length x1.c1, .slice x1.a2 r.drifts.length x1.c2, .slice x1.a3 r.first.length x1.c3, .slice x1.a4 r.next.length x1.c4]), (55, x2), (57, x3.1.1), (11, .pointer (some ⟨b11, 0, none⟩))]) (fun ⟨x1, x2, x3, b11, ()⟩ => [un x1.K, .ow x2 32 2 ws.length (spC ws), un (rowsO x3.1.2), .ow x3.1.1 22 1 wl.length (x3.1.2.map (·.1)), .pt b11 [.int .i64 0, .int .i64 0, .int .i64 0, .int .i64 0, .slice none 0 0, .slice none 0 0, .slice none 0 0, .slice none 0 0] 25]) ?_ (fun hS1_3_5_8 => ?_)
    · rintro ⟨x1, x2, x3, b11, _⟩
      refine qt_alt ?_ ?_
      · skip
        refine qt_seg (by repeat (first | exact PickL.nil | (apply PickL.cons; rfl))) fun K1 hK1 => ?_
        (refine qf_loadAB tabOk rfl rfl rfl (by repeat first | exact .head _ | refine .tail _ ?_) (by rfl) (by rfl) ?_)
        refine qf_call (β := Cp r) tabOk [] _ M0 rfl rfl rfl rfl (Sp.refl _) (fun _ h => h.elim) (fun w' hs => cloneR_cp w' _ r (h0.keep hs.chg0) hsm) ?_
        rintro x4 _ rfl
        (refine qf_nil ?_)
        exact hK1 _ _ (hS1_3_5_7_8 ⟨x1, x2, x3, x4, b11, ()⟩ _ _ ⟨rfl, rfl, rfl, rfl, rfl, rfl, rfl, rfl, rfl, trivial⟩ (by repeat (first | exact Sp.nil | exact Sp.refl _ | refine Sp.cons (by repeat constructor) ?_)))
      · skip
        refine qt_seg (by repeat (first | exact PickL.nil | (apply PickL.cons; rfl))) fun K1 hK1 => ?_
        skip
        refine qf_alloc zero34 rfl (fun b14 => ?_)
        (refine qf_nil ?_)
        exact hK1 _ _ (hS1_3_5_8_9 ⟨x1, x2, x3, b11, b14, ()⟩ _ _ ⟨rfl, rfl, rfl, rfl, rfl, rfl, rfl, rfl, rfl, trivial⟩ (by repeat (first | exact Sp.nil | exact Sp.refl _ | refine Sp.cons (by repeat constructor) ?_)))
    refine qt_let (σ := Cp r × Value × CAll wl × Nat × Unit) (.alt (chainT [6, 7] (chainT [8] (chainT [10, 11, 12] (chainT [13] (.nil))))) (chainT [8] (chainT [6, 7] (chainT [10, 11, 12] (chainT [13] (.nil)))))) (fun ⟨x1, x2, x3, b14, ()⟩ => [(1, .slice sa ws.length sc), (2, .int .i64 click), (3, .slice wa wl.length wc), (4, .pointer (some ⟨b4, 0, none⟩)), (53, .agg #[.int .i64 r.radius, .int .i64 r.unit, .int .i64 r.clicks, .int .i64 r.total, .slice x1.a1 r.group.length x1.c1, .slice x1.a2 r.drifts.length x1.c2, .slice x1.a3 r.first.length x1.c3, .slice x1.a4 r.next.length x1.c4]), (55, x2), (57, x3.1.1), (14, .pointer (some ⟨b14, 0, none⟩))]) (fun ⟨x1, x2, x3, b14, ()⟩ => [un x1.K, .ow x2 32 2 ws.length (spC ws), un (rowsO x3.1.2), .ow x3.1.1 22 1 wl.length (x3.1.2.map (·.1)), .pt b14 [.int .i64 0, .int .i64 0, .int .i64 0, .int .i64 0, .slice none 0 0, .slice none 0 0, .slice none 0 0, .slice none 0 0] 34]) ?_ (fun hS1_3_5_9 => ?_)
    · rintro ⟨x1, x2, x3, b14, _⟩
      refine qt_alt ?_ ?_
      · skip
        refine qt_seg (by repeat (first | exact PickL.nil | (apply PickL.cons; rfl))) fun K1 hK1 => ?_
        (refine qf_loadAB tabOk rfl rfl rfl (by repeat first | exact .head _ | refine .tail _ ?_) (by rfl) (by rfl) ?_)
        refine qf_call (β := Cp r) tabOk [] _ M0 rfl rfl rfl rfl (Sp.refl _) (fun _ h => h.elim) (fun w' hs => cloneR_cp w' _ r (h0.keep hs.chg0) hsm) ?_
        rintro x4 _ rfl
        (refine qf_nil ?_)
        exact hK1 _ _ (hS1_3_5_7_9 ⟨x1, x2, x3, x4, b14, ()⟩ _ _ ⟨rfl, rfl, rfl, rfl, rfl, rfl, rfl, rfl, rfl, trivial⟩ (by repeat (first | exact Sp.nil | exact Sp.refl _ | refine Sp.cons (by repeat constructor) ?_)))
      · skip
        refine qt_seg (by repeat (first | exact PickL.nil | (apply PickL.cons; rfl))) fun K1 hK1 => ?_
        skip
        refine qf_alloc zero25 rfl (fun b11 => ?_)
        (refine qf_nil ?_)
        exact hK1 _ _ (hS1_3_5_8_9 ⟨x1, x2, x3, b11, b14, ()⟩ _ _ ⟨rfl, rfl, rfl, rfl, rfl, rfl, rfl, rfl, rfl, trivial⟩ (by repeat (first | exact Sp.nil | exact Sp.refl _ | refine Sp.cons (by repeat constructor) ?_)))
    refine qt_let (σ := Cp r × Value × Nat × Nat × Unit) (chainT [4, 5] (chainT [6, 7] (chainT [10, 11, 12] (chainT [13] (.nil))))) (fun ⟨x1, x2, b11, b14, ()⟩ => [(1, .slice sa ws.length sc), (2, .int .i64 click), (3, .slice wa wl.length wc), (4, .pointer (some ⟨b4, 0, none⟩)), (53, .agg #[.int .i64 r.radius, .int .i64 r.unit, .int .i64 r.clicks, .int .i64 r.total, .slice x1.a1 r.group.length x1.c1, .slice x1.a2 r.drifts.length x1.c2, .slice x1.a3 r.first.length x1.c3, .slice x1.a4 r.next.length x1.c4]), (55, x2), (11, .pointer (some ⟨b11, 0, none⟩)), (14, .pointer (some ⟨b14, 0, none⟩))]) (fun ⟨x1, x2, b11, b14, ()⟩ => [un x1.K, .ow x2 32 2 ws.length (spC ws), .pt b11 [.int .i64 0, .int .i64 0, .int .i64 0, .int .i64 0, .slice none 0 0, .slice none 0 0, .slice none 0 0, .slice none 0 0] 25, .pt b14 [.int .i64 0, .int .i64 0, .int .i64 0, .int .i64 0, .slice none 0 0, .slice none 0 0, .slice none 0 0, .slice none 0 0] 34]) ?_ (fun hS1_3_8_9 => ?_)
    · rintro ⟨x1, x2, b11, b14, _⟩
      refine qt_seg (by repeat (first | exact PickL.nil | (apply PickL.cons; rfl))) fun K1 hK1 => ?_
      (refine qf_pure tabOk rfl rfl rfl ?_)
      refine qf_call (β := CAll wl) (L' := fun x => [un (rowsO x.1.2), .ow x.1.1 22 1 wl.length (x.1.2.map (fun (y : Value × List Int) => y.1))]) tabOk [] _ M0 rfl rfl rfl rfl (Sp.refl _) (fun _ h => h.elim) (fun w' hs => cloneAll_s w' _ _ _ wl (hwl.keep hs.chg0) (by omega) (fun l hl => by have := hrow l hl; omega)) ?_
      rintro x3 _ rfl
      (refine qf_nil ?_)
      exact hK1 _ _ (hS1_3_5_8_9 ⟨x1, x2, x3, b11, b14, ()⟩ _ _ ⟨rfl, rfl, rfl, rfl, rfl, rfl, rfl, rfl, rfl, trivial⟩ (by repeat (first | exact Sp.nil | exact Sp.refl _ | refine Sp.cons (by repeat constructor) ?_)))
    refine qt_let (σ := Cp r × Value × CAll wl × Unit) (.alt (chainT [6, 7] (.alt (chainT [8] (chainT [9] (chainT [10, 11, 12] (chainT [13] (.nil))))) (chainT [9] (chainT [8] (chainT [10, 11, 12] (chainT [13] (.nil))))))) (.alt (chainT [8] (.alt (chainT [6, 7] (chainT [9] (chainT [10, 11, 12] (chainT [13] (.nil))))) (chainT [9] (chainT [6, 7] (chainT [10, 11, 12] (chainT [13] (.nil))))))) (chainT [9] (.alt (chainT [6, 7] (chainT [8] (chainT [10, 11, 12] (chainT [13] (.nil))))) (chainT [8] (chainT [6, 7] (chainT [10, 11, 12] (chainT [13] (.nil))))))))) (fun ⟨x1, x2, x3, ()⟩ => [(1, .slice sa ws.length sc), (2, .int .i64 click), (3, .slice wa wl.length wc), (4, .pointer (some ⟨b4, 0, none⟩)), (53, .agg #[.int .i64 r.radius, .int .i64 r.unit, .int .i64 r.clicks, .int .i64 r.total, .slice x1.a1 r.group.length x1.c1, .slice x1.a2 r.drifts.length x1.c2, .slice x1.a3 r.first.length x1.c3, .slice x1.a4 r.next.length x1.c4]), (55, x2), (57, x3.1.1)]) (fun ⟨x1, x2, x3, ()⟩ => [un x1.K, .ow x2 32 2 ws.length (spC ws), un (rowsO x3.1.2), .ow x3.1.1 22 1 wl.length (x3.1.2.map (·.1))]) ?_ (fun hS1_3_5 => ?_)
    · rintro ⟨x1, x2, x3, _⟩
      refine qt_alt ?_ (qt_alt ?_ ?_)
      · skip
        refine qt_seg (by repeat (first | exact PickL.nil | (apply PickL.cons; rfl))) fun K1 hK1 => ?_
        (refine qf_loadAB tabOk rfl rfl rfl (by repeat first | exact .head _ | refine .tail _ ?_) (by rfl) (by rfl) ?_)
        refine qf_call (β := Cp r) tabOk [] _ M0 rfl rfl rfl rfl (Sp.refl _) (fun _ h => h.elim) (fun w' hs => cloneR_cp w' _ r (h0.keep hs.chg0) hsm) ?_
        rintro x4 _ rfl
        (refine qf_nil ?_)
        exact hK1 _ _ (hS1_3_5_7 ⟨x1, x2, x3, x4, ()⟩ _ _ ⟨rfl, rfl, rfl, rfl, rfl, rfl, rfl, rfl, trivial⟩ (by repeat (first | exact Sp.nil | exact Sp.refl _ | refine Sp.cons (by repeat constructor) ?_)))
      · skip
        refine qt_seg (by repeat (first | exact PickL.nil | (apply PickL.cons; rfl))) fun K1 hK1 => ?_
        skip
        refine qf_alloc zero25 rfl (fun b11 => ?_)
        (refine qf_nil ?_)
        exact hK1 _ _ (hS1_3_5_8 ⟨x1, x2, x3, b11, ()⟩ _ _ ⟨rfl, rfl, rfl, rfl, rfl, rfl, rfl, rfl, trivial⟩ (by repeat (first | exact Sp.nil | exact Sp.refl _ | refine Sp.cons (by repeat constructor) ?_)))
      · skip
        refine qt_seg (by repeat (first | exact PickL.nil | (apply PickL.cons; rfl))) fun K1 hK1 => ?_
        skip
        refine qf_alloc zero34 rfl (fun b14 => ?_)
        (refine qf_nil ?_)
        exact hK1 _ _ (hS1_3_5_9 ⟨x1, x2, x3, b14, ()⟩ _ _ ⟨rfl, rfl, rfl, rfl, rfl, rfl, rfl, rfl, trivial⟩ (by repeat (first | exact Sp.nil | exact Sp.refl _ | refine Sp.cons (by repeat constructor) ?_)))
    refine qt_let (σ := Cp r × Value × Nat × Unit) (.alt (chainT [4, 5] (.alt (chainT [6, 7] (chainT [9] (chainT [10, 11, 12] (chainT [13] (.nil))))) (chainT [9] (chainT [6, 7] (chainT [10, 11, 12] (chainT [13] (.nil))))))) (chainT [9] (chainT [4, 5] (chainT [6, 7] (chainT [10, 11, 12] (chainT [13] (.nil))))))) (fun ⟨x1, x2, b11, ()⟩ => [(1, .slice sa ws.length sc), (2, .int .i64 click), (3, .slice wa wl.length wc), (4, .pointer (some ⟨b4, 0, none⟩)), (53, .agg #[.int .i64 r.radius, .int .i64 r.unit, .int .i64 r.clicks, .int .i64 r.total, .slice x1.a1 r.group.length x1.c1, .slice x1.a2 r.drifts.length x1.c2, .slice x1.a3 r.first.length x1.c3, .slice x1.a4 r.next.length x1.c4]), (55, x2), (11, .pointer (some ⟨b11, 0, none⟩))]) (fun ⟨x1, x2, b11, ()⟩ => [un x1.K, .ow x2 32 2 ws.length (spC ws), .pt b11 [.int .i64 0, .int .i64 0, .int .i64 0, .int .i64 0, .slice none 0 0, .slice none 0 0, .slice none 0 0, .slice none 0 0] 25]) ?_ (fun hS1_3_8 => ?_)
    · rintro ⟨x1, x2, b11, _⟩
      refine qt_alt ?_ ?_
      · skip
        refine qt_seg (by repeat (first | exact PickL.nil | (apply PickL.cons; rfl))) fun K1 hK1 => ?_
        (refine qf_pure tabOk rfl rfl rfl ?_)
        refine qf_call (β := CAll wl) (L' := fun x => [un (rowsO x.1.2), .ow x.1.1 22 1 wl.length (x.1.2.map (fun (y : Value × List Int) => y.1))]) tabOk [] _ M0 rfl rfl rfl rfl (Sp.refl _) (fun _ h => h.elim) (fun w' hs => cloneAll_s w' _ _ _ wl (hwl.keep hs.chg0) (by omega) (fun l hl => by have := hrow l hl; omega)) ?_
        rintro x3 _ rfl
        (refine qf_nil ?_)
        exact hK1 _ _ (hS1_3_5_8 ⟨x1, x2, x3, b11, ()⟩ _ _ ⟨rfl, rfl, rfl, rfl, rfl, rfl, rfl, rfl, trivial⟩ (by repeat (first | exact Sp.nil | exact Sp.refl _ | refine Sp.cons (by repeat constructor) ?_)))
      · skip
        refine qt_seg (by repeat (first | exact PickL.nil | (apply PickL.cons; rfl))) fun K1 hK1 => ?_
        skip
        refine qf_alloc zero34 rfl (fun b14 => ?_)
        (refine qf_nil ?_)
        exact hK1 _ _ (hS1_3_8_9 ⟨x1, x2, b11, b14, ()⟩ _ _ ⟨rfl, rfl, rfl, rfl, rfl, rfl, rfl, rfl, trivial⟩ (by repeat (first | exact Sp.nil | exact Sp.refl _ | refine Sp.cons (by repeat constructor) ?_)))
    refine qt_let (σ := Cp r × Value × Nat × Unit) (.alt (chainT [4, 5] (.alt (chainT [6, 7] (chainT [8] (chainT [10, 11, 12] (chainT [13] (.nil))))) (chainT [8] (chainT [6, 7] (chainT [10, 11, 12] (chainT [13] (.nil))))))) (chainT [8] (chainT [4, 5] (chainT [6, 7] (chainT [10, 11, 12] (chainT [13] (.nil))))))) (fun ⟨x1, x2, b14, ()⟩ => [(1, .slice sa ws.length sc), (2, .int .i64 click), (3, .slice wa wl.length wc), (4, .pointer (some ⟨b4, 0, none⟩)), (53, .agg #[.int .i64 r.radius, .int .i64 r.unit, .int .i64 r.clicks, .int .i64 r.total, .slice x1.a1 r.group.length x1.c1, .slice x1.a2 r.drifts.length x1.c2, .slice x1.a3 r.first.length x1.c3, .slice x1.a4 r.next.length x1.c4]), (55, x2), (14, .pointer (some ⟨b14, 0, none⟩))]) (fun ⟨x1, x2, b14, ()⟩ => [un x1.K, .ow x2 32 2 ws.length (spC ws), .pt b14 [.int .i64 0, .int .i64 0, .int .i64 0, .int .i64 0, .slice none 0 0, .slice none 0 0, .slice none 0 0, .slice none 0 0] 34]) ?_ (fun hS1_3_9 => ?_)
    · rintro ⟨x1, x2, b14, _⟩
      refine qt_alt ?_ ?_
      · skip
        refine qt_seg (by repeat (first | exact PickL.nil | (apply PickL.cons; rfl))) fun K1 hK1 => ?_
        (refine qf_pure tabOk rfl rfl rfl ?_)
        refine qf_call (β := CAll wl) (L' := fun x => [un (rowsO x.1.2), .ow x.1.1 22 1 wl.length (x.1.2.map (fun (y : Value × List Int) => y.1))]) tabOk [] _ M0 rfl rfl rfl rfl (Sp.refl _) (fun _ h => h.elim) (fun w' hs => cloneAll_s w' _ _ _ wl (hwl.keep hs.chg0) (by omega) (fun l hl => by have := hrow l hl; omega)) ?_
        rintro x3 _ rfl
        (refine qf_nil ?_)
        exact hK1 _ _ (hS1_3_5_9 ⟨x1, x2, x3, b14, ()⟩ _ _ ⟨rfl, rfl, rfl, rfl, rfl, rfl, rfl, rfl, trivial⟩ (by repeat (first | exact Sp.nil | exact Sp.refl _ | refine Sp.cons (by repeat constructor) ?_)))
      · skip
        refine qt_seg (by repeat (first | exact PickL.nil | (apply PickL.cons; rfl))) fun K1 hK1 => ?_
        skip
        refine qf_alloc zero25 rfl (fun b11 => ?_)
        (refine qf_nil ?_)
        exact hK1 _ _ (hS1_3_8_9 ⟨x1, x2, b11, b14, ()⟩ _ _ ⟨rfl, rfl, rfl, rfl, rfl, rfl, rfl, rfl, trivial⟩ (by repeat (first | exact Sp.nil | exact Sp.refl _ | refine Sp.cons (by repeat constructor) ?_)))
    refine qt_let (σ := Cp r × Nat × Nat × Unit) (chainT [2, 3] (chainT [4, 5] (chainT [6, 7] (chainT [10, 11, 12] (chainT [13] (.nil)))))) (fun ⟨x1, b11, b14, ()⟩ => [(1, .slice sa ws.length sc), (2, .int .i64 click), (3, .slice wa wl.length wc), (4, .pointer (some ⟨b4, 0, none⟩)), (53, .agg #[.int .i64 r.radius, .int .i64 r.unit, .int .i64 r.clicks, .int .i64 r.total, .slice x1.a1 r.group.length x1.c1, .slice x1.a2 r.drifts.length x1.c2, .slice x1.a3 r.first.length x1.c3, .slice x1.a4 r.next.length x1.c4]), (11, .pointer (some ⟨b11, 0, none⟩)), (14, .pointer (some ⟨b14, 0, none⟩))]) (fun ⟨x1, b11, b14, ()⟩ => [un x1.K, .pt b11 [.int .i64 0, .int .i64 0, .int .i64 0, .int .i64 0, .slice none 0 0, .slice none 0 0, .slice none 0 0, .slice none 0 0] 25, .pt b14 [.int .i64 0, .int .i64 0, .int .i64 0, .int .i64 0, .slice none 0 0, .slice none 0 0, .slice none 0 0, .slice none 0 0] 34]) ?_ (fun hS1_8_9 => ?_)
    · rintro ⟨x1, b11, b14, _⟩
      refine qt_seg (by repeat (first | exact PickL.nil | (apply PickL.cons; rfl))) fun K1 hK1 => ?_
      (refine qf_pure tabOk rfl rfl rfl ?_)
      refine qf_call (β := Value) (L' := fun x => [.ow x 32 2 ws.length (spC ws)]) tabOk [] _ M0 rfl rfl rfl rfl (Sp.refl _) (fun _ h => h.elim) (fun w' hs => cloneS_ca w' _ _ _ ws (RdE.keep hws hs.chg0) (by omega)) ?_
      rintro _ x2 rfl
      (refine qf_nil ?_)
      exact hK1 _ _ (hS1_3_8_9 ⟨x1, x2, b11, b14, ()⟩ _ _ ⟨rfl, rfl, rfl, rfl, rfl, rfl, rfl, rfl, trivial⟩ (by repeat (first | exact Sp.nil | exact Sp.refl _ | refine Sp.cons (by repeat constructor) ?_)))
    refine qt_let (σ := Cp r × Value × Unit) (.alt (chainT [4, 5] (.alt (chainT [6, 7] (.alt (chainT [8] (chainT [9] (chainT [10, 11, 12] (chainT [13] (.nil))))) (chainT [9] (chainT [8] (chainT [10, 11, 12] (chainT [13] (.nil))))))) (.alt (chainT [8] (.alt (chainT [6, 7] (chainT [9] (chainT [10, 11, 12] (chainT [13] (.nil))))) (chainT [9] (chainT [6, 7] (chainT [10, 11, 12] (chainT [13] (.nil))))))) (chainT [9] (.alt (chainT [6, 7] (chainT [8] (chainT [10, 11, 12] (chainT [13] (.nil))))) (chainT [8] (chainT [6, 7] (chainT [10, 11, 12] (chainT [13] (.nil)))))))))) (.alt (chainT [8] (.alt (chainT [4, 5] (.alt (chainT [6, 7] (chainT [9] (chainT [10, 11, 12] (chainT [13] (.nil))))) (chainT [9] (chainT [6, 7] (chainT [10, 11, 12] (chainT [13] (.nil))))))) (chainT [9] (chainT [4, 5] (chainT [6, 7] (chainT [10, 11, 12] (chainT [13] (.nil)))))))) (chainT [9] (.alt (chainT [4, 5] (.alt (chainT [6, 7] (chainT [8] (chainT [10, 11, 12] (chainT [13] (.nil))))) (chainT [8] (chainT [6, 7] (chainT [10, 11, 12] (chainT [13] (.nil))))))) (chainT [8] (chainT [4, 5] (chainT [6, 7] (chainT [10, 11, 12] (chainT [13] (.nil)))))))))) (fun ⟨x1, x2, ()⟩ => [(1, .slice sa ws.length sc), (2, .int .i64 click), (3, .slice wa wl.length wc), (4, .pointer (some ⟨b4, 0, none⟩)), (53, .agg #[.int .i64 r.radius, .int .i64 r.unit, .int .i64 r.clicks, .int .i64 r.total, .slice x1.a1 r.group.length x1.c1, .slice x1.a2 r.drifts.length x1.c2, .slice x1.a3 r.first.length x1.c3, .slice x1.a4 r.next.length x1.c4]), (55, x2)]) (fun ⟨x1, x2, ()⟩ => [un x1.K, .ow x2 32 2 ws.length (spC ws)]) ?_ (fun hS1_3 => ?_)
    · rintro ⟨x1, x2, _⟩
      refine qt_alt ?_ (qt_alt ?_ ?_)
      · skip
        refine qt_seg (by repeat (first | exact PickL.nil | (apply PickL.cons; rfl))) fun K1 hK1 => ?_
        (refine qf_pure tabOk rfl rfl rfl ?_)
        refine qf_call (β := CAll wl) (L' := fun x => [un (rowsO x.1.2), .ow x.1.1 22 1 wl.length (x.1.2.map (fun (y : Value × List Int) => y.1))]) tabOk [] _ M0 rfl rfl rfl rfl (Sp.refl _) (fun _ h => h.elim) (fun w' hs => cloneAll_s w' _ _ _ wl (hwl.keep hs.chg0) (by omega) (fun l hl => by have := hrow l hl; omega)) ?_
        rintro x3 _ rfl
        (refine qf_nil ?_)
        exact hK1 _ _ (hS1_3_5 ⟨x1, x2, x3, ()⟩ _ _ ⟨rfl, rfl, rfl, rfl, rfl, rfl, rfl, trivial⟩ (by repeat (first | exact Sp.nil | exact Sp.refl _ | refine Sp.cons (by repeat constructor) ?_)))
      · skip
        refine qt_seg (by repeat (first | exact PickL.nil | (apply PickL.cons; rfl))) fun K1 hK1 => ?_
        skip
        refine qf_alloc zero25 rfl (fun b11 => ?_)
        (refine qf_nil ?_)
        exact hK1 _ _ (hS1_3_8 ⟨x1, x2, b11, ()⟩ _ _ ⟨rfl, rfl, rfl, rfl, rfl, rfl, rfl, trivial⟩ (by repeat (first | exact Sp.nil | exact Sp.refl _ | refine Sp.cons (by repeat constructor) ?_)))
      · skip
        refine qt_seg (by repeat (first | exact PickL.nil | (apply PickL.cons; rfl))) fun K1 hK1 => ?_
        skip
        refine qf_alloc zero34 rfl (fun b14 => ?_)
        (refine qf_nil ?_)
        exact hK1 _ _ (hS1_3_9 ⟨x1, x2, b14, ()⟩ _ _ ⟨rfl, rfl, rfl, rfl, rfl, rfl, rfl, trivial⟩ (by repeat (first | exact Sp.nil | exact Sp.refl _ | refine Sp.cons (by repeat constructor) ?_)))
    refine qt_let (σ := Cp r × Nat × Unit) (.alt (chainT [2, 3] (.alt (chainT [4, 5] (.alt (chainT [6, 7] (chainT [9] (chainT [10, 11, 12] (chainT [13] (.nil))))) (chainT [9] (chainT [6, 7] (chainT [10, 11, 12] (chainT [13] (.nil))))))) (chainT [9] (chainT [4, 5] (chainT [6, 7] (chainT [10, 11, 12] (chainT [13] (.nil)))))))) (chainT [9] (chainT [2, 3] (chainT [4, 5] (chainT [6, 7] (chainT [10, 11, 12] (chainT [13] (.nil)))))))) (fun ⟨x1, b11, ()⟩ => [(1, .slice sa ws.length sc), (2, .int .i64 click), (3, .slice wa wl.length wc), (4, .pointer (some ⟨b4, 0, none⟩)), (53, .agg #[.int .i64 r.radius, .int .i64 r.unit, .int .i64 r.clicks, .int .i64 r.total, .slice x1.a1 r.group.length x1.c1, .slice x1.a2 r.drifts.length x1.c2, .slice x1.a3 r.first.length x1.c3, .slice x1.a4 r.next.length x1.c4]), (11, .pointer (some ⟨b11, 0, none⟩))]) (fun ⟨x1, b11, ()⟩ => [un x1.K, .pt b11 [.int .i64 0, .int .i64 0, .int .i64 0, .int .i64 0, .slice none 0 0, .slice none 0 0, .slice none 0 0, .slice none 0 0] 25]) ?_ (fun hS1_8 => ?_)
    · rintro ⟨x1, b11, _⟩
      refine qt_alt ?_ ?_
      · skip
        refine qt_seg (by repeat (first | exact PickL.nil | (apply PickL.cons; rfl))) fun K1 hK1 => ?_
        (refine qf_pure tabOk rfl rfl rfl ?_)
        refine qf_call (β := Value) (L' := fun x => [.ow x 32 2 ws.length (spC ws)]) tabOk [] _ M0 rfl rfl rfl rfl (Sp.refl _) (fun _ h => h.elim) (fun w' hs => cloneS_ca w' _ _ _ ws (RdE.keep hws hs.chg0) (by omega)) ?_
        rintro _ x2 rfl
        (refine qf_nil ?_)
        exact hK1 _ _ (hS1_3_8 ⟨x1, x2, b11, ()⟩ _ _ ⟨rfl, rfl, rfl, rfl, rfl, rfl, rfl, trivial⟩ (by repeat (first | exact Sp.nil | exact Sp.refl _ | refine Sp.cons (by repeat constructor) ?_)))
      · skip
        refine qt_seg (by repeat (first | exact PickL.nil | (apply PickL.cons; rfl))) fun K1 hK1 => ?_
        skip
        refine qf_alloc zero34 rfl (fun b14 => ?_)
        (refine qf_nil ?_)
        exact hK1 _ _ (hS1_8_9 ⟨x1, b11, b14, ()⟩ _ _ ⟨rfl, rfl, rfl, rfl, rfl, rfl, rfl, trivial⟩ (by repeat (first | exact Sp.nil | exact Sp.refl _ | refine Sp.cons (by repeat constructor) ?_)))
    refine qt_let (σ := Cp r × Nat × Unit) (.alt (chainT [2, 3] (.alt (chainT [4, 5] (.alt (chainT [6, 7] (chainT [8] (chainT [10, 11, 12] (chainT [13] (.nil))))) (chainT [8] (chainT [6, 7] (chainT [10, 11, 12] (chainT [13] (.nil))))))) (chainT [8] (chainT [4, 5] (chainT [6, 7] (chainT [10, 11, 12] (chainT [13] (.nil)))))))) (chainT [8] (chainT [2, 3] (chainT [4, 5] (chainT [6, 7] (chainT [10, 11, 12] (chainT [13] (.nil)))))))) (fun ⟨x1, b14, ()⟩ => [(1, .slice sa ws.length sc), (2, .int .i64 click), (3, .slice wa wl.length wc), (4, .pointer (some ⟨b4, 0, none⟩)), (53, .agg #[.int .i64 r.radius, .int .i64 r.unit, .int .i64 r.clicks, .int .i64 r.total, .slice x1.a1 r.group.length x1.c1, .slice x1.a2 r.drifts.length x1.c2, .slice x1.a3 r.first.length x1.c3, .slice x1.a4 r.next.length x1.c4]), (14, .pointer (some ⟨b14, 0, none⟩))]) (fun ⟨x1, b14, ()⟩ => [un x1.K, .pt b14 [.int .i64 0, .int .i64 0, .int .i64 0, .int .i64 0, .slice none 0 0, .slice none 0 0, .slice none 0 0, .slice none 0 0] 34]) ?_ (fun hS1_9 => ?_)
    · rintro ⟨x1, b14, _⟩
      refine qt_alt ?_ ?_
      · skip
        refine qt_seg (by repeat (first | exact PickL.nil | (apply PickL.cons; rfl))) fun K1 hK1 => ?_
        (refine qf_pure tabOk rfl rfl rfl ?_)
        refine qf_call (β := Value) (L' := fun x => [.ow x 32 2 ws.length (spC ws)]) tabOk [] _ M0 rfl rfl rfl rfl (Sp.refl _) (fun _ h => h.elim) (fun w' hs => cloneS_ca w' _ _ _ ws (RdE.keep hws hs.chg0) (by omega)) ?_
        rintro _ x2 rfl
        (refine qf_nil ?_)
        exact hK1 _ _ (hS1_3_9 ⟨x1, x2, b14, ()⟩ _ _ ⟨rfl, rfl, rfl, rfl, rfl, rfl, rfl, trivial⟩ (by repeat (first | exact Sp.nil | exact Sp.refl _ | refine Sp.cons (by repeat constructor) ?_)))
      · skip
        refine qt_seg (by repeat (first | exact PickL.nil | (apply PickL.cons; rfl))) fun K1 hK1 => ?_
        skip
        refine qf_alloc zero25 rfl (fun b11 => ?_)
        (refine qf_nil ?_)
        exact hK1 _ _ (hS1_8_9 ⟨x1, b11, b14, ()⟩ _ _ ⟨rfl, rfl, rfl, rfl, rfl, rfl, rfl, trivial⟩ (by repeat (first | exact Sp.nil | exact Sp.refl _ | refine Sp.cons (by repeat constructor) ?_)))
    refine qt_let (σ := Nat × Nat × Unit) (chainT [0, 1] (chainT [2, 3] (chainT [4, 5] (chainT [6, 7] (chainT [10, 11, 12] (chainT [13] (.nil))))))) (fun ⟨b11, b14, ()⟩ => [(1, .slice sa ws.length sc), (2, .int .i64 click), (3, .slice wa wl.length wc), (4, .pointer (some ⟨b4, 0, none⟩)), (11, .pointer (some ⟨b11, 0, none⟩)), (14, .pointer (some ⟨b14, 0, none⟩))]) (fun ⟨b11, b14, ()⟩ => [.pt b11 [.int .i64 0, .int .i64 0, .int .i64 0, .int .i64 0, .slice none 0 0, .slice none 0 0, .slice none 0 0, .slice none 0 0] 25, .pt b14 [.int .i64 0, .int .i64 0, .int .i64 0, .int .i64 0, .slice none 0 0, .slice none 0 0, .slice none 0 0, .slice none 0 0] 34]) ?_ (fun hS8_9 => ?_)
    · rintro ⟨b11, b14, _⟩
      refine qt_seg (by repeat (first | exact PickL.nil | (apply PickL.cons; rfl))) fun K1 hK1 => ?_
      (refine qf_loadAB tabOk rfl rfl rfl (by repeat first | exact .head _ | refine .tail _ ?_) (by rfl) (by rfl) ?_)
      refine qf_call (β := Cp r) tabOk [] _ M0 rfl rfl rfl rfl (Sp.refl _) (fun _ h => h.elim) (fun w' hs => cloneR_cp w' _ r (h0.keep hs.chg0) hsm) ?_
      rintro x1 _ rfl
      (refine qf_nil ?_)
      exact hK1 _ _ (hS1_8_9 ⟨x1, b11, b14, ()⟩ _ _ ⟨rfl, rfl, rfl, rfl, rfl, rfl, rfl, trivial⟩ (by repeat (first | exact Sp.nil | exact Sp.refl _ | refine Sp.cons (by repeat constructor) ?_)))
    refine qt_let (σ := Cp r × Unit) (.alt (chainT [2, 3] (.alt (chainT [4, 5] (.alt (chainT [6, 7] (.alt (chainT [8] (chainT [9] (chainT [10, 11, 12] (chainT [13] (.nil))))) (chainT [9] (chainT [8] (chainT [10, 11, 12] (chainT [13] (.nil))))))) (.alt (chainT [8] (.alt (chainT [6, 7] (chainT [9] (chainT [10, 11, 12] (chainT [13] (.nil))))) (chainT [9] (chainT [6, 7] (chainT [10, 11, 12] (chainT [13] (.nil))))))) (chainT [9] (.alt (chainT [6, 7] (chainT [8] (chainT [10, 11, 12] (chainT [13] (.nil))))) (chainT [8] (chainT [6, 7] (chainT [10, 11, 12] (chainT [13] (.nil)))))))))) (.alt (chainT [8] (.alt (chainT [4, 5] (.alt (chainT [6, 7] (chainT [9] (chainT [10, 11, 12] (chainT [13] (.nil))))) (chainT [9] (chainT [6, 7] (chainT [10, 11, 12] (chainT [13] (.nil))))))) (chainT [9] (chainT [4, 5] (chainT [6, 7] (chainT [10, 11, 12] (chainT [13] (.nil)))))))) (chainT [9] (.alt (chainT [4, 5] (.alt (chainT [6, 7] (chainT [8] (chainT [10, 11, 12] (chainT [13] (.nil))))) (chainT [8] (chainT [6, 7] (chainT [10, 11, 12] (chainT [13] (.nil))))))) (chainT [8] (chainT [4, 5] (chainT [6, 7] (chainT [10, 11, 12] (chainT [13] (.nil))))))))))) (.alt (chainT [8] (.alt (chainT [2, 3] (.alt (chainT [4, 5] (.alt (chainT [6, 7] (chainT [9] (chainT [10, 11, 12] (chainT [13] (.nil))))) (chainT [9] (chainT [6, 7] (chainT [10, 11, 12] (chainT [13] (.nil))))))) (chainT [9] (chainT [4, 5] (chainT [6, 7] (chainT [10, 11, 12] (chainT [13] (.nil)))))))) (chainT [9] (chainT [2, 3] (chainT [4, 5] (chainT [6, 7] (chainT [10, 11, 12] (chainT [13] (.nil))))))))) (chainT [9] (.alt (chainT [2, 3] (.alt (chainT [4, 5] (.alt (chainT [6, 7] (chainT [8] (chainT [10, 11, 12] (chainT [13] (.nil))))) (chainT [8] (chainT [6, 7] (chainT [10, 11, 12] (chainT [13] (.nil))))))) (chainT [8] (chainT [4, 5] (chainT [6, 7] (chainT [10, 11, 12] (chainT [13] (.nil)))))))) (chainT [8] (chainT [2, 3] (chainT [4, 5] (chainT [6, 7] (chainT [10, 11, 12] (chainT [13] (.nil))))))))))) (fun ⟨x1, ()⟩ => [(1, .slice sa ws.length sc), (2, .int .i64 click), (3, .slice wa wl.length wc), (4, .pointer (some ⟨b4, 0, none⟩)), (53, .agg #[.int .i64 r.radius, .int .i64 r.unit, .int .i64 r.clicks, .int .i64 r.total, .slice x1.a1 r.group.length x1.c1, .slice x1.a2 r.drifts.length x1.c2, .slice x1.a3 r.first.length x1.c3, .slice x1.a4 r.next.length x1.c4])]) (fun ⟨x1, ()⟩ => [un x1.K]) ?_ (fun hS1 => ?_)
    · rintro ⟨x1, _⟩
      refine qt_alt ?_ (qt_alt ?_ ?_)
      · skip
        refine qt_seg (by repeat (first | exact PickL.nil | (apply PickL.cons; rfl))) fun K1 hK1 => ?_
        (refine qf_pure tabOk rfl rfl rfl ?_)
        refine qf_call (β := Value) (L' := fun x => [.ow x 32 2 ws.length (spC ws)]) tabOk [] _ M0 rfl rfl rfl rfl (Sp.refl _) (fun _ h => h.elim) (fun w' hs => cloneS_ca w' _ _ _ ws (RdE.keep hws hs.chg0) (by omega)) ?_
        rintro _ x2 rfl
        (refine qf_nil ?_)
        exact hK1 _ _ (hS1_3 ⟨x1, x2, ()⟩ _ _ ⟨rfl, rfl, rfl, rfl, rfl, rfl, trivial⟩ (by repeat (first | exact Sp.nil | exact Sp.refl _ | refine Sp.cons (by repeat constructor) ?_)))
      · skip
        refine qt_seg (by repeat (first | exact PickL.nil | (apply PickL.cons; rfl))) fun K1 hK1 => ?_
        skip
        refine qf_alloc zero25 rfl (fun b11 => ?_)
        (refine qf_nil ?_)
        exact hK1 _ _ (hS1_8 ⟨x1, b11, ()⟩ _ _ ⟨rfl, rfl, rfl, rfl, rfl, rfl, trivial⟩ (by repeat (first | exact Sp.nil | exact Sp.refl _ | refine Sp.cons (by repeat constructor) ?_)))
      · skip
        refine qt_seg (by repeat (first | exact PickL.nil | (apply PickL.cons; rfl))) fun K1 hK1 => ?_
        skip
        refine qf_alloc zero34 rfl (fun b14 => ?_)
        (refine qf_nil ?_)
        exact hK1 _ _ (hS1_9 ⟨x1, b14, ()⟩ _ _ ⟨rfl, rfl, rfl, rfl, rfl, rfl, trivial⟩ (by repeat (first | exact Sp.nil | exact Sp.refl _ | refine Sp.cons (by repeat constructor) ?_)))
    refine qt_let (σ := Nat × Unit) (.alt (chainT [0, 1] (.alt (chainT [2, 3] (.alt (chainT [4, 5] (.alt (chainT [6, 7] (chainT [9] (chainT [10, 11, 12] (chainT [13] (.nil))))) (chainT [9] (chainT [6, 7] (chainT [10, 11, 12] (chainT [13] (.nil))))))) (chainT [9] (chainT [4, 5] (chainT [6, 7] (chainT [10, 11, 12] (chainT [13] (.nil)))))))) (chainT [9] (chainT [2, 3] (chainT [4, 5] (chainT [6, 7] (chainT [10, 11, 12] (chainT [13] (.nil))))))))) (chainT [9] (chainT [0, 1] (chainT [2, 3] (chainT [4, 5] (chainT [6, 7] (chainT [10, 11, 12] (chainT [13] (.nil))))))))) (fun ⟨b11, ()⟩ => [(1, .slice sa ws.length sc), (2, .int .i64 click), (3, .slice wa wl.length wc), (4, .pointer (some ⟨b4, 0, none⟩)), (11, .pointer (some ⟨b11, 0, none⟩))]) (fun ⟨b11, ()⟩ => [.pt b11 [.int .i64 0, .int .i64 0, .int .i64 0, .int .i64 0, .slice none 0 0, .slice none 0 0, .slice none 0 0, .slice none 0 0] 25]) ?_ (fun hS8 => ?_)
    · rintro ⟨b11, _⟩
      refine qt_alt ?_ ?_
      · skip
        refine qt_seg (by repeat (first | exact PickL.nil | (apply PickL.cons; rfl))) fun K1 hK1 => ?_
        (refine qf_loadAB tabOk rfl rfl rfl (by repeat first | exact .head _ | refine .tail _ ?_) (by rfl) (by rfl) ?_)
        refine qf_call (β := Cp r) tabOk [] _ M0 rfl rfl rfl rfl (Sp.refl _) (fun _ h => h.elim) (fun w' hs => cloneR_cp w' _ r (h0.keep hs.chg0) hsm) ?_
        rintro x1 _ rfl
        (refine qf_nil ?_)
        exact hK1 _ _ (hS1_8 ⟨x1, b11, ()⟩ _ _ ⟨rfl, rfl, rfl, rfl, rfl, rfl, trivial⟩ (by repeat (first | exact Sp.nil | exact Sp.refl _ | refine Sp.cons (by repeat constructor) ?_)))
      · skip
        refine qt_seg (by repeat (first | exact PickL.nil | (apply PickL.cons; rfl))) fun K1 hK1 => ?_
        skip
        refine qf_alloc zero34 rfl (fun b14 => ?_)
        (refine qf_nil ?_)
        exact hK1 _ _ (hS8_9 ⟨b11, b14, ()⟩ _ _ ⟨rfl, rfl, rfl, rfl, rfl, rfl, trivial⟩ (by repeat (first | exact Sp.nil | exact Sp.refl _ | refine Sp.cons (by repeat constructor) ?_)))
    refine qt_let (σ := Nat × Unit) (.alt (chainT [0, 1] (.alt (chainT [2, 3] (.alt (chainT [4, 5] (.alt (chainT [6, 7] (chainT [8] (chainT [10, 11, 12] (chainT [13] (.nil))))) (chainT [8] (chainT [6, 7] (chainT [10, 11, 12] (chainT [13] (.nil))))))) (chainT [8] (chainT [4, 5] (chainT [6, 7] (chainT [10, 11, 12] (chainT [13] (.nil)))))))) (chainT [8] (chainT [2, 3] (chainT [4, 5] (chainT [6, 7] (chainT [10, 11, 12] (chainT [13] (.nil))))))))) (chainT [8] (chainT [0, 1] (chainT [2, 3] (chainT [4, 5] (chainT [6, 7] (chainT [10, 11, 12] (chainT [13] (.nil))))))))) (fun ⟨b14, ()⟩ => [(1, .slice sa ws.length sc), (2, .int .i64 click), (3, .slice wa wl.length wc), (4, .pointer (some ⟨b4, 0, none⟩)), (14, .pointer (some ⟨b14, 0, none⟩))]) (fun ⟨b14, ()⟩ => [.pt b14 [.int .i64 0, .int .i64 0, .int .i64 0, .int .i64 0, .slice none 0 0, .slice none 0 0, .slice none 0 0, .slice none 0 0] 34]) ?_ (fun hS9 => ?_)
    · rintro ⟨b14, _⟩
      refine qt_alt ?_ ?_
      · skip
        refine qt_seg (by repeat (first | exact PickL.nil | (apply PickL.cons; rfl))) fun K1 hK1 => ?_
        (refine qf_loadAB tabOk rfl rfl rfl (by repeat first | exact .head _ | refine .tail _ ?_) (by rfl) (by rfl) ?_)
        refine qf_call (β := Cp r) tabOk [] _ M0 rfl rfl rfl rfl (Sp.refl _) (fun _ h => h.elim) (fun w' hs => cloneR_cp w' _ r (h0.keep hs.chg0) hsm) ?_
        rintro x1 _ rfl
        (refine qf_nil ?_)
        exact hK1 _ _ (hS1_9 ⟨x1, b14, ()⟩ _ _ ⟨rfl, rfl, rfl, rfl, rfl, rfl, trivial⟩ (by repeat (first | exact Sp.nil | exact Sp.refl _ | refine Sp.cons (by repeat constructor) ?_)))
      · skip
        refine qt_seg (by repeat (first | exact PickL.nil | (apply PickL.cons; rfl))) fun K1 hK1 => ?_
        skip
        refine qf_alloc zero25 rfl (fun b11 => ?_)
        (refine qf_nil ?_)
        exact hK1 _ _ (hS8_9 ⟨b11, b14, ()⟩ _ _ ⟨rfl, rfl, rfl, rfl, rfl, rfl, trivial⟩ (by repeat (first | exact Sp.nil | exact Sp.refl _ | refine Sp.cons (by repeat constructor) ?_)))
    refine qt_alt ?_ (qt_alt ?_ ?_)
    · skip
      refine qt_seg (by repeat (first | exact PickL.nil | (apply PickL.cons; rfl))) fun K1 hK1 => ?_
      (refine qf_loadAB tabOk rfl rfl rfl (by repeat first | exact .head _ | refine .tail _ ?_) (by rfl) (by rfl) ?_)
      refine qf_call (β := Cp r) tabOk [] _ M0 rfl rfl rfl rfl (Sp.refl _) (fun _ h => h.elim) (fun w' hs => cloneR_cp w' _ r (h0.keep hs.chg0) hsm) ?_
      rintro x1 _ rfl
      (refine qf_nil ?_)
      exact hK1 _ _ (hS1 ⟨x1, ()⟩ _ _ ⟨rfl, rfl, rfl, rfl, rfl, trivial⟩ (by repeat (first | exact Sp.nil | exact Sp.refl _ | refine Sp.cons (by repeat constructor) ?_)))
    · skip
      refine qt_seg (by repeat (first | exact PickL.nil | (apply PickL.cons; rfl))) fun K1 hK1 => ?_
      skip
      refine qf_alloc zero25 rfl (fun b11 => ?_)
      (refine qf_nil ?_)
      exact hK1 _ _ (hS8 ⟨b11, ()⟩ _ _ ⟨rfl, rfl, rfl, rfl, rfl, trivial⟩ (by repeat (first | exact Sp.nil | exact Sp.refl _ | refine Sp.cons (by repeat constructor) ?_)))
    · skip
      refine qt_seg (by repeat (first | exact PickL.nil | (apply PickL.cons; rfl))) fun K1 hK1 => ?_
      skip
      refine qf_alloc zero34 rfl (fun b14 => ?_)
      (refine qf_nil ?_)
      exact hK1 _ _ (hS9 ⟨b14, ()⟩ _ _ ⟨rfl, rfl, rfl, rfl, rfl, trivial⟩ (by repeat (first | exact Sp.nil | exact Sp.refl _ | refine Sp.cons (by repeat constructor) ?_)))
  rintro ⟨b11, b14, x1, x2, x3, x4⟩
  dsimp only
  (refine q_seq ?_; refine q_region ?_; refine ql_loadAB tabOk rfl rfl rfl (by repeat first | exact .head _ | refine .tail _ ?_) (by rfl) (by rfl) ?_; (iterate 2 refine ql_pure tabOk rfl rfl ?_))
  refine ql_call (β := (Option Addr × Nat) × List Ck) (L' := fun x => [un x.2]) tabOk [] _ M0 rfl rfl rfl rfl (Sp.refl _) (fun _ h => h.elim) (fun w' hs => worst_u w' _ _ _ r _ ws click (Cp.at2 x1 r rfl rfl rfl rfl hs (by repeat first | exact .head _ | refine .tail _ ?_)) hsm (Sat.rdSp hs (t := 32) (k := ws.length) (by repeat first | exact .head _ | refine .tail _ ?_) rfl) (by omega)) ?_
  rintro ⟨⟨la, lc⟩, K1⟩ _ ⟨rfl, hla⟩
  dsimp only at hla ⊢
  (refine ql_pure tabOk rfl rfl ?_; (iterate 3 refine ql_ext tabOk rfl rfl rfl ?_))
  refine ql_alloc zero36 rfl (fun b16 => ?_)
  (refine ql_pure tabOk rfl rfl ?_; refine ql_setA tabOk rfl rfl rfl rfl rfl (by repeat constructor) rfl ?_; refine ql_pure tabOk rfl rfl ?_; refine q_nil ?_; refine q_seq ?_; refine q_region ?_; refine ql_loadAB tabOk rfl rfl rfl (by repeat first | exact .head _ | refine .tail _ ?_) (by rfl) (by rfl) ?_; (iterate 2 refine ql_pure tabOk rfl rfl ?_))
  refine ql_callv (val := .tuple #[.agg #[.int .i64 (wuQ r ws click).1, .int .i64 (wuQ r ws click).2], .int .i64 (wErr r ws click)]) tabOk rfl rfl rfl rfl (fun w hs => ?_) ?_; exact rworstF_ca w _ _ _ r _ ws click (Cp.at2 x4 r rfl rfl rfl rfl hs (by repeat first | exact .head _ | refine .tail _ ?_)) hsm (RdE.keep hws hs.chg0) (by omega)
  (refine ql_pure tabOk rfl rfl ?_; (iterate 2 refine ql_ext tabOk rfl rfl rfl ?_))
  refine ql_alloc zero36 rfl (fun b18 => ?_)
  (refine ql_setA tabOk rfl rfl rfl rfl rfl (by repeat constructor) rfl ?_; refine ql_pure tabOk rfl rfl ?_; refine q_nil ?_; (iterate 2 refine q_seq ?_))
  have hz : wErr r ws click ≠ 0 → (wuL r ws click).length = 0 := fun h => by rw [wuL, if_neg h]; rfl
  refine q_cut (σ := Unit) (fun _ => [(1, .slice sa ws.length sc), (2, .int .i64 click), (3, .slice wa wl.length wc), (4, .pointer (some ⟨b4, 0, none⟩)), (11, .pointer (some ⟨b11, 0, none⟩)), (14, .pointer (some ⟨b14, 0, none⟩)), (12, x2), (13, x3.1.1), (15, .slice la (wuL r ws click).length lc), (16, .pointer (some ⟨b16, 0, none⟩)), (17, .int .i64 (wErr r ws click)), (18, .pointer (some ⟨b18, 0, none⟩)), (19, .int .i64 (wErr r ws click)), (91, .bool false)]) (fun _ => [.pt b16 [.int .i64 (wuQ r ws click).1, .int .i64 (wuQ r ws click).2] 36, .pt b18 [.int .i64 (wuQ r ws click).1, .int .i64 (wuQ r ws click).2] 36, un K1, un x1.K, .ow x2 32 2 ws.length (spC ws), un (rowsO x3.1.2), .ow x3.1.1 22 1 wl.length (x3.1.2.map (·.1)), un x4.K, .pt b11 [.int .i64 r.radius, .int .i64 r.unit, .int .i64 r.clicks, .int .i64 r.total, .slice x1.a1 r.group.length x1.c1, .slice x1.a2 r.drifts.length x1.c2, .slice x1.a3 r.first.length x1.c3, .slice x1.a4 r.next.length x1.c4] 25, .pt b14 [.int .i64 r.radius, .int .i64 r.unit, .int .i64 r.clicks, .int .i64 r.total, .slice x4.a1 r.group.length x4.c1, .slice x4.a2 r.drifts.length x4.c2, .slice x4.a3 r.first.length x4.c3, .slice x4.a4 r.next.length x4.c4] 34, .pt b4 [.int .i64 r.radius, .int .i64 r.unit, .int .i64 r.clicks, .int .i64 r.total, .slice ag r.group.length cg, .slice ad r.drifts.length cd, .slice af r.first.length cf, .slice an r.next.length cn] 25]) ?_ (fun K3 hK3 => ?_)
  rotate_left
  · (refine q_region ?_; (iterate 2 refine ql_pure tabOk rfl rfl ?_); refine ql_neqF tabOk rfl rfl rfl (by omega) ?_; refine ql_pure tabOk rfl rfl ?_; refine ql_gyes rfl ?_; refine ql_loadAB tabOk rfl rfl rfl (by repeat first | exact .head _ | refine .tail _ ?_) (by rfl) (by rfl) ?_; refine ql_gyes rfl ?_; refine ql_loadAB tabOk rfl rfl rfl (by repeat first | exact .head _ | refine .tail _ ?_) (by rfl) (by rfl) ?_; refine ql_gyes rfl ?_)
    refine ql_neF [some .i64, some .i64] rat_flat rfl rfl rfl rfl rfl ?_; rw [eqL_refl]
    by_cases hE : wErr r ws click = 0
    · ((iterate 2 refine ql_pure tabOk rfl rfl ?_); refine ql_gyes rfl ?_; refine ql_pure tabOk rfl rfl ?_; refine ql_gyes rfl ?_; refine ql_neqF tabOk rfl rfl rfl (by omega) ?_; refine ql_gyes rfl ?_; refine ql_pure tabOk rfl rfl ?_; (iterate 3 refine ql_gno rfl rfl rfl ?_); refine ql_gyes rfl ?_; (iterate 2 refine ql_pure tabOk rfl rfl ?_); refine q_nil ?_)
      exact hK3 () _ _ ⟨rfl, rfl, rfl, rfl, rfl, rfl, rfl, rfl, rfl, rfl, rfl, rfl, rfl, rfl, trivial⟩ (by repeat (first | exact Sp.nil | exact Sp.refl _ | refine Sp.cons (by repeat constructor) ?_))
    · have h5 := hz hE
      ((iterate 2 refine ql_pure tabOk rfl rfl ?_); refine ql_gyes rfl ?_; refine ql_pure tabOk rfl rfl ?_; refine ql_gyes rfl ?_; refine ql_neqT tabOk rfl rfl rfl (by omega) ?_; refine ql_gyes rfl ?_; refine ql_pure tabOk rfl rfl ?_; refine ql_gyes rfl ?_; refine ql_pure tabOk rfl rfl ?_; refine ql_gyes rfl ?_; refine ql_pure tabOk rfl rfl ?_; refine ql_gyes rfl ?_; refine ql_gtrF tabOk rfl rfl rfl (by omega) ?_; refine ql_gyes rfl ?_; (iterate 2 refine ql_pure tabOk rfl rfl ?_); refine q_nil ?_)
      exact hK3 () _ _ ⟨rfl, rfl, rfl, rfl, rfl, rfl, rfl, rfl, rfl, rfl, rfl, rfl, rfl, rfl, trivial⟩ (by repeat (first | exact Sp.nil | exact Sp.refl _ | refine Sp.cons (by repeat constructor) ?_))
  rintro ⟨⟩
  (refine q_cond_false rfl ?_; refine q_skip ?_; (iterate 2 refine q_seq ?_); refine q_region ?_; (iterate 2 refine ql_pure tabOk rfl rfl ?_); refine q_nil ?_)
  refine q_cut (σ := Unit) (fun _ => [(1, .slice sa ws.length sc), (2, .int .i64 click), (3, .slice wa wl.length wc), (4, .pointer (some ⟨b4, 0, none⟩)), (11, .pointer (some ⟨b11, 0, none⟩)), (14, .pointer (some ⟨b14, 0, none⟩)), (12, x2), (13, x3.1.1), (16, .pointer (some ⟨b16, 0, none⟩)), (18, .pointer (some ⟨b18, 0, none⟩))]) (fun _ => [.pt b16 [.int .i64 (wuQ r ws click).1, .int .i64 (wuQ r ws click).2] 36, .pt b18 [.int .i64 (wuQ r ws click).1, .int .i64 (wuQ r ws click).2] 36, un K1, un x1.K, .ow x2 32 2 ws.length (spC ws), un (rowsO x3.1.2), .ow x3.1.1 22 1 wl.length (x3.1.2.map (·.1)), un x4.K, .pt b11 [.int .i64 r.radius, .int .i64 r.unit, .int .i64 r.clicks, .int .i64 r.total, .slice x1.a1 r.group.length x1.c1, .slice x1.a2 r.drifts.length x1.c2, .slice x1.a3 r.first.length x1.c3, .slice x1.a4 r.next.length x1.c4] 25, .pt b14 [.int .i64 r.radius, .int .i64 r.unit, .int .i64 r.clicks, .int .i64 r.total, .slice x4.a1 r.group.length x4.c1, .slice x4.a2 r.drifts.length x4.c2, .slice x4.a3 r.first.length x4.c3, .slice x4.a4 r.next.length x4.c4] 34, .pt b4 [.int .i64 r.radius, .int .i64 r.unit, .int .i64 r.clicks, .int .i64 r.total, .slice ag r.group.length cg, .slice ad r.drifts.length cd, .slice af r.first.length cf, .slice an r.next.length cn] 25]) ?_ (fun K3 hK3 => ?_)
  rotate_left
  · refine q_if rfl (fun hc => ?_) (fun hc => ?_)
    · have hE : wErr r ws click = 0 := hc
      clear hc
      obtain ⟨hbl, hcb⟩ := wErr_iff hE
      obtain ⟨hck, hw⟩ := (blown_iff r ws).1 hbl
      have hr := (right_check r).1 hck
      have hC := hr.clicks
      have ew : wuL r ws click = worstL r ws click := by rw [wuL, if_pos hE]
      have eq : wuQ r ws click = facedV r (worstL r ws click) click := by rw [wuQ, if_pos hE]; rfl
      have el : (worstL r ws click).length = 5 := by rw [worstL_length, hw.len]
      have hwb := worstL_bd hw click (r := r)
      rw [ew] at hla ⊢
      have h5 := hw.len
      ((iterate 2 refine q_seq ?_))
      refine q_draw _ [] (Sp.refl _) (by kernel_rfl) (by kernel_rfl) ?_
      ((iterate 2 refine qf_pure tabOk rfl rfl rfl ?_); refine qf_neqF tabOk rfl rfl rfl (by omega) ?_; refine qf_pure tabOk rfl rfl rfl ?_; refine qf_gyes rfl ?_; refine qf_loadAB tabOk rfl rfl rfl (by repeat first | exact .head _ | refine .tail _ ?_) (by rfl) (by rfl) ?_; refine qf_gyes rfl ?_; refine qf_pure tabOk rfl rfl rfl ?_; refine qf_gyes rfl ?_; refine qf_pure tabOk rfl rfl rfl ?_; refine qf_gyes rfl ?_)
      refine qf_callv (val := .agg #[.int .i64 (wuQ r ws click).1, .int .i64 (wuQ r ws click).2]) tabOk rfl rfl rfl rfl (fun w hs => ?_) ?_; exact by have := rfaced_ca w _ _ _ r _ (worstL r ws click) click (Cp.at2 x4 r rfl rfl rfl rfl hs (by repeat first | exact .head _ | refine .tail _ ?_)) hr (hla w (fun c hc => hs.un_mem (L := K1) (by repeat first | exact .head _ | refine .tail _ ?_) hc)) (by omega) (fun x hx => by have := hwb x hx; omega) (by omega); rw [← eq] at this; exact this
      (refine qf_gyes rfl ?_; refine qf_loadAB tabOk rfl rfl rfl (by repeat first | exact .head _ | refine .tail _ ?_) (by rfl) (by rfl) ?_; refine qf_gyes rfl ?_)
      refine qf_neF (xs := [.int .i64 (wuQ r ws click).1, .int .i64 (wuQ r ws click).2]) (ys := [.int .i64 (wuQ r ws click).1, .int .i64 (wuQ r ws click).2]) [some .i64, some .i64] rat_flat rfl rfl rfl rfl rfl ?_
      rw [eqL_refl]
      (refine qf_pure tabOk rfl rfl rfl ?_; refine qf_nil ?_; refine q_cond_false rfl ?_; refine q_skip ?_; refine q_seq ?_; refine q_region ?_; (iterate 3 refine ql_pure tabOk rfl rfl ?_); refine q_nil ?_; refine q_block ?_)
      refine q_loop (σ := Nat) (fun k => k ≤ 5) (fun k => 5 - k) (fun k => [(1, .slice sa ws.length sc), (2, .int .i64 click), (3, .slice wa wl.length wc), (4, .pointer (some ⟨b4, 0, none⟩)), (11, .pointer (some ⟨b11, 0, none⟩)), (14, .pointer (some ⟨b14, 0, none⟩)), (12, x2), (13, x3.1.1), (15, .slice la (worstL r ws click).length lc), (16, .pointer (some ⟨b16, 0, none⟩)), (17, .int .i64 (wErr r ws click)), (18, .pointer (some ⟨b18, 0, none⟩)), (19, .int .i64 (wErr r ws click)), (105, .slice la (worstL r ws click).length lc), (106, .int .i64 (worstL r ws click).length), (107, .int .i64 k)]) (fun _ => [.pt b16 [.int .i64 (wuQ r ws click).1, .int .i64 (wuQ r ws click).2] 36, .pt b18 [.int .i64 (wuQ r ws click).1, .int .i64 (wuQ r ws click).2] 36, un K1, un x1.K, .ow x2 32 2 ws.length (spC ws), un (rowsO x3.1.2), .ow x3.1.1 22 1 wl.length (x3.1.2.map (·.1)), un x4.K, .pt b11 [.int .i64 r.radius, .int .i64 r.unit, .int .i64 r.clicks, .int .i64 r.total, .slice x1.a1 r.group.length x1.c1, .slice x1.a2 r.drifts.length x1.c2, .slice x1.a3 r.first.length x1.c3, .slice x1.a4 r.next.length x1.c4] 25, .pt b14 [.int .i64 r.radius, .int .i64 r.unit, .int .i64 r.clicks, .int .i64 r.total, .slice x4.a1 r.group.length x4.c1, .slice x4.a2 r.drifts.length x4.c2, .slice x4.a3 r.first.length x4.c3, .slice x4.a4 r.next.length x4.c4] 34, .pt b4 [.int .i64 r.radius, .int .i64 r.unit, .int .i64 r.clicks, .int .i64 r.total, .slice ag r.group.length cg, .slice ad r.drifts.length cd, .slice af r.first.length cf, .slice an r.next.length cn] 25]) 0 (by omega) ⟨rfl, rfl, rfl, rfl, rfl, rfl, rfl, rfl, rfl, rfl, rfl, rfl, rfl, rfl, rfl, rfl, trivial⟩ (by repeat (first | exact Sp.nil | exact Sp.refl _ | refine Sp.cons (by repeat constructor) ?_)) ?_
      intro k hk K4 hK4
      (refine q_seq ?_; refine q_region ?_; refine ql_pure tabOk rfl rfl ?_; refine q_nil ?_; refine q_seq ?_)
      refine q_if rfl (fun hc => ?_) (fun hc => ?_)
      · have hk2 : k < (worstL r ws click).length := by omega
        have hk3 : k < ws.length := by omega
        clear hc
        obtain ⟨bs, os, rfl⟩ := hsa (by omega)
        have hwk := worstO_in r click ws[k] (hw.sp _ (List.getElem_mem hk3)).1
        have hge : (worstL r ws click)[k] = worstO r click ws[k] := by simp [worstL]
        rw [← hge] at hwk
        refine q_fact (fun w hs => RdI.outI (hla w (fun c hc => hs.un_mem (L := K1) (by repeat first | exact .head _ | refine .tail _ ?_) hc))) ?_
        rintro ⟨_, _, hsl, hsm2⟩
        cases hsl
        obtain ⟨bl, ol, rfl⟩ := hsm2 (by omega)
        (refine q_skip ?_; refine q_seq ?_; refine q_block ?_; refine q_seq ?_; refine q_region ?_; refine ql_pure tabOk rfl rfl ?_)
        (refine ql_index tabOk rfl rfl rfl rfl rfl (by omega) (by omega) ?_; refine ql_load1 tabOk rfl rfl rfl (fun w hs => RdI.at (hla w (fun c hc => hs.un_mem (L := K1) (by repeat first | exact .head _ | refine .tail _ ?_) hc)) k hk2) ?_)
        ((iterate 2 refine ql_pure tabOk rfl rfl ?_); refine q_nil ?_; refine q_seq ?_; refine q_region ?_; (iterate 3 refine ql_pure tabOk rfl rfl ?_))
        refine ql_index tabOk rfl rfl rfl rfl rfl (by omega) (by omega) ?_
        (refine ql_pure tabOk rfl rfl ?_)
        refine ql_load1 (v := .int .i64 ws[k].1) tabOk rfl rfl rfl (fun w hs => RdS.at0 (RdE.keep hws hs.chg0) k hk3) ?_
        (refine ql_lssF tabOk rfl rfl rfl (by omega) ?_; refine ql_pure tabOk rfl rfl ?_; refine ql_gyes rfl ?_; refine ql_pure tabOk rfl rfl ?_; refine ql_gyes rfl ?_; refine ql_pure tabOk rfl rfl ?_; refine ql_gyes rfl ?_; refine ql_pure tabOk rfl rfl ?_; refine ql_gyes rfl ?_)
        refine ql_index tabOk rfl rfl rfl rfl rfl (by omega) (by omega) ?_
        (refine ql_gyes rfl ?_; refine ql_pure tabOk rfl rfl ?_; refine ql_gyes rfl ?_)
        refine ql_load1 (v := .int .i64 ws[k].2) tabOk rfl rfl rfl (fun w hs => RdS.at1 (RdE.keep hws hs.chg0) k hk3) ?_
        (refine ql_gyes rfl ?_; refine ql_gtrF tabOk rfl rfl rfl (by omega) ?_; refine ql_pure tabOk rfl rfl ?_; refine q_nil ?_; refine q_cond_false rfl ?_; refine q_skip ?_; refine q_blk ?_; refine q_region ?_; refine ql_ar tabOk rfl rfl rfl rfl (by omega) (by omega) ?_; refine ql_pure tabOk rfl rfl ?_; refine q_nil ?_)
        exact hK4 (k + 1) _ _ (by omega) (by omega) ⟨rfl, rfl, rfl, rfl, rfl, rfl, rfl, rfl, rfl, rfl, rfl, rfl, rfl, rfl, rfl, rfl, trivial⟩ (by repeat (first | exact Sp.nil | exact Sp.refl _ | refine Sp.cons (by repeat constructor) ?_))
      · obtain rfl : k = 5 := by omega
        clear hc hK4
        (refine q_exit _ rfl ?_)
        exact hK3 () _ _ ⟨rfl, rfl, rfl, rfl, rfl, rfl, rfl, rfl, rfl, rfl, trivial⟩ (by repeat (first | exact Sp.nil | exact Sp.refl _ | refine Sp.cons (by repeat constructor) ?_))
    · (refine q_skip ?_)
      exact hK3 () _ _ ⟨rfl, rfl, rfl, rfl, rfl, rfl, rfl, rfl, rfl, rfl, trivial⟩ (by repeat (first | exact Sp.nil | exact Sp.refl _ | refine Sp.cons (by repeat constructor) ?_))
  rintro ⟨⟩
  (refine q_seq ?_; refine q_region ?_; refine ql_loadAB tabOk rfl rfl rfl (by repeat first | exact .head _ | refine .tail _ ?_) (by rfl) (by rfl) ?_; refine ql_pure tabOk rfl rfl ?_)
  refine ql_callv (val := .tuple #[.int .i64 (robV r ws).1, .agg #[.int .i64 (robV r ws).2.1.1, .int .i64 (robV r ws).2.1.2], .int .i64 (blownV r ws)]) tabOk rfl rfl rfl rfl (fun w hs => ?_) ?_; exact by have := robF_ca w _ _ _ r _ ws (Cp.at2 x1 r rfl rfl rfl rfl hs (by repeat first | exact .head _ | refine .tail _ ?_)) hsm (Sat.rdSp hs (t := 32) (k := ws.length) (by repeat first | exact .head _ | refine .tail _ ?_) rfl) (by omega); rw [rob_err] at this; exact this
  (refine ql_pure tabOk rfl rfl ?_; (iterate 3 refine ql_ext tabOk rfl rfl rfl ?_); refine ql_pure tabOk rfl rfl ?_; refine ql_setA tabOk rfl rfl rfl rfl rfl (by repeat constructor) rfl ?_; refine ql_pure tabOk rfl rfl ?_; refine q_nil ?_; refine q_seq ?_; refine q_region ?_; refine ql_loadAB tabOk rfl rfl rfl (by repeat first | exact .head _ | refine .tail _ ?_) (by rfl) (by rfl) ?_; refine ql_pure tabOk rfl rfl ?_)
  refine ql_callv (val := .tuple #[.int .i64 (robV r ws).1, .agg #[.int .i64 (robV r ws).2.1.1, .int .i64 (robV r ws).2.1.2], .int .i64 (blownV r ws)]) tabOk rfl rfl rfl rfl (fun w hs => ?_) ?_; exact by have := rrobust_ca w _ _ _ r _ ws (Cp.at2 x4 r rfl rfl rfl rfl hs (by repeat first | exact .head _ | refine .tail _ ?_)) hsm (RdE.keep hws hs.chg0) (by omega); rw [rob_err] at this; exact this
  (refine ql_pure tabOk rfl rfl ?_; (iterate 3 refine ql_ext tabOk rfl rfl rfl ?_); refine ql_pure tabOk rfl rfl ?_; refine ql_setA tabOk rfl rfl rfl rfl rfl (by repeat constructor) rfl ?_; refine ql_pure tabOk rfl rfl ?_; refine q_nil ?_; refine q_seq ?_; refine q_region ?_; refine ql_loadAB tabOk rfl rfl rfl (by repeat first | exact .head _ | refine .tail _ ?_) (by rfl) (by rfl) ?_; refine ql_pure tabOk rfl rfl ?_)
  refine ql_call (β := (Option Addr × Nat) × List Ck) (L' := fun x => [un x.2]) tabOk [] _ M0 rfl rfl rfl rfl (Sp.refl _) (fun _ h => h.elim) (fun w' hs => against_u w' _ _ _ r _ ws (Cp.at2 x1 r rfl rfl rfl rfl hs (by repeat first | exact .head _ | refine .tail _ ?_)) hsm (Sat.rdSp hs (t := 32) (k := ws.length) (by repeat first | exact .head _ | refine .tail _ ?_) rfl) (by omega)) ?_
  rintro ⟨⟨aa, ac⟩, K2⟩ _ ⟨rfl, haa⟩
  dsimp only at haa ⊢
  (refine ql_pure tabOk rfl rfl ?_; (iterate 2 refine ql_ext tabOk rfl rfl rfl ?_); (iterate 2 refine ql_pure tabOk rfl rfl ?_); refine q_nil ?_; (iterate 2 refine q_seq ?_))
  have hz2 : blownV r ws ≠ 0 → (agL r ws).length = 0 := fun h => by rw [agL, if_neg h]; rfl
  refine q_cut (σ := Unit) (fun _ => [(1, .slice sa ws.length sc), (2, .int .i64 click), (3, .slice wa wl.length wc), (4, .pointer (some ⟨b4, 0, none⟩)), (11, .pointer (some ⟨b11, 0, none⟩)), (14, .pointer (some ⟨b14, 0, none⟩)), (12, x2), (13, x3.1.1), (24, .slice aa (agL r ws).length ac), (16, .pointer (some ⟨b16, 0, none⟩)), (17, .int .i64 (blownV r ws)), (18, .pointer (some ⟨b18, 0, none⟩)), (19, .int .i64 (blownV r ws)), (175, .bool false)]) (fun _ => [.pt b16 [.int .i64 (robV r ws).2.1.1, .int .i64 (robV r ws).2.1.2] 36, .pt b18 [.int .i64 (robV r ws).2.1.1, .int .i64 (robV r ws).2.1.2] 36, un K2, un x1.K, .ow x2 32 2 ws.length (spC ws), un (rowsO x3.1.2), .ow x3.1.1 22 1 wl.length (x3.1.2.map (·.1)), un x4.K, .pt b11 [.int .i64 r.radius, .int .i64 r.unit, .int .i64 r.clicks, .int .i64 r.total, .slice x1.a1 r.group.length x1.c1, .slice x1.a2 r.drifts.length x1.c2, .slice x1.a3 r.first.length x1.c3, .slice x1.a4 r.next.length x1.c4] 25, .pt b14 [.int .i64 r.radius, .int .i64 r.unit, .int .i64 r.clicks, .int .i64 r.total, .slice x4.a1 r.group.length x4.c1, .slice x4.a2 r.drifts.length x4.c2, .slice x4.a3 r.first.length x4.c3, .slice x4.a4 r.next.length x4.c4] 34, .pt b4 [.int .i64 r.radius, .int .i64 r.unit, .int .i64 r.clicks, .int .i64 r.total, .slice ag r.group.length cg, .slice ad r.drifts.length cd, .slice af r.first.length cf, .slice an r.next.length cn] 25]) ?_ (fun K3 hK3 => ?_)
  rotate_left
  · (refine q_region ?_; (iterate 2 refine ql_pure tabOk rfl rfl ?_); refine ql_neqF tabOk rfl rfl rfl (by omega) ?_; refine ql_pure tabOk rfl rfl ?_; refine ql_gyes rfl ?_; refine ql_pure tabOk rfl rfl ?_; refine ql_gyes rfl ?_; refine ql_pure tabOk rfl rfl ?_; refine ql_gyes rfl ?_; refine ql_neqF tabOk rfl rfl rfl (by omega) ?_; (iterate 2 refine ql_pure tabOk rfl rfl ?_); refine ql_gyes rfl ?_; refine ql_pure tabOk rfl rfl ?_; refine ql_gyes rfl ?_; refine ql_pure tabOk rfl rfl ?_; refine ql_gyes rfl ?_; refine ql_neqF tabOk rfl rfl rfl (by omega) ?_; (iterate 2 refine ql_pure tabOk rfl rfl ?_); refine ql_gyes rfl ?_; refine ql_loadAB tabOk rfl rfl rfl (by repeat first | exact .head _ | refine .tail _ ?_) (by rfl) (by rfl) ?_; refine ql_gyes rfl ?_; refine ql_loadAB tabOk rfl rfl rfl (by repeat first | exact .head _ | refine .tail _ ?_) (by rfl) (by rfl) ?_; refine ql_gyes rfl ?_)
    refine ql_neF [some .i64, some .i64] rat_flat rfl rfl rfl rfl rfl ?_; rw [eqL_refl]
    by_cases hE : blownV r ws = 0
    · ((iterate 2 refine ql_pure tabOk rfl rfl ?_); refine ql_gyes rfl ?_; refine ql_pure tabOk rfl rfl ?_; refine ql_gyes rfl ?_; refine ql_neqF tabOk rfl rfl rfl (by omega) ?_; refine ql_gyes rfl ?_; refine ql_pure tabOk rfl rfl ?_; (iterate 3 refine ql_gno rfl rfl rfl ?_); refine ql_gyes rfl ?_; (iterate 2 refine ql_pure tabOk rfl rfl ?_); refine q_nil ?_)
      exact hK3 () _ _ ⟨rfl, rfl, rfl, rfl, rfl, rfl, rfl, rfl, rfl, rfl, rfl, rfl, rfl, rfl, trivial⟩ (by repeat (first | exact Sp.nil | exact Sp.refl _ | refine Sp.cons (by repeat constructor) ?_))
    · have h5 := hz2 hE
      ((iterate 2 refine ql_pure tabOk rfl rfl ?_); refine ql_gyes rfl ?_; refine ql_pure tabOk rfl rfl ?_; refine ql_gyes rfl ?_; refine ql_neqT tabOk rfl rfl rfl (by omega) ?_; refine ql_gyes rfl ?_; refine ql_pure tabOk rfl rfl ?_; refine ql_gyes rfl ?_; refine ql_pure tabOk rfl rfl ?_; refine ql_gyes rfl ?_; refine ql_pure tabOk rfl rfl ?_; refine ql_gyes rfl ?_; refine ql_gtrF tabOk rfl rfl rfl (by omega) ?_; refine ql_gyes rfl ?_; (iterate 2 refine ql_pure tabOk rfl rfl ?_); refine q_nil ?_)
      exact hK3 () _ _ ⟨rfl, rfl, rfl, rfl, rfl, rfl, rfl, rfl, rfl, rfl, rfl, rfl, rfl, rfl, trivial⟩ (by repeat (first | exact Sp.nil | exact Sp.refl _ | refine Sp.cons (by repeat constructor) ?_))
  rintro ⟨⟩
  (refine q_cond_false rfl ?_; refine q_skip ?_; (iterate 2 refine q_seq ?_); refine q_region ?_; (iterate 2 refine ql_pure tabOk rfl rfl ?_); refine q_nil ?_)
  refine q_cut (σ := Unit) (fun _ => [(1, .slice sa ws.length sc), (2, .int .i64 click), (3, .slice wa wl.length wc), (4, .pointer (some ⟨b4, 0, none⟩)), (11, .pointer (some ⟨b11, 0, none⟩)), (14, .pointer (some ⟨b14, 0, none⟩)), (12, x2), (13, x3.1.1), (16, .pointer (some ⟨b16, 0, none⟩)), (18, .pointer (some ⟨b18, 0, none⟩))]) (fun _ => [.pt b16 [.int .i64 (robV r ws).2.1.1, .int .i64 (robV r ws).2.1.2] 36, .pt b18 [.int .i64 (robV r ws).2.1.1, .int .i64 (robV r ws).2.1.2] 36, un K2, un x1.K, .ow x2 32 2 ws.length (spC ws), un (rowsO x3.1.2), .ow x3.1.1 22 1 wl.length (x3.1.2.map (·.1)), un x4.K, .pt b11 [.int .i64 r.radius, .int .i64 r.unit, .int .i64 r.clicks, .int .i64 r.total, .slice x1.a1 r.group.length x1.c1, .slice x1.a2 r.drifts.length x1.c2, .slice x1.a3 r.first.length x1.c3, .slice x1.a4 r.next.length x1.c4] 25, .pt b14 [.int .i64 r.radius, .int .i64 r.unit, .int .i64 r.clicks, .int .i64 r.total, .slice x4.a1 r.group.length x4.c1, .slice x4.a2 r.drifts.length x4.c2, .slice x4.a3 r.first.length x4.c3, .slice x4.a4 r.next.length x4.c4] 34, .pt b4 [.int .i64 r.radius, .int .i64 r.unit, .int .i64 r.clicks, .int .i64 r.total, .slice ag r.group.length cg, .slice ad r.drifts.length cd, .slice af r.first.length cf, .slice an r.next.length cn] 25]) ?_ (fun K3 hK3 => ?_)
  rotate_left
  · refine q_if rfl (fun hc => ?_) (fun hc => ?_)
    · have hE : blownV r ws = 0 := hc
      clear hc
      have hsh := shows_ag hE
      have hck := ((blown_iff r ws).1 hE).1
      have hr := (right_check r).1 hck
      have hC := hr.clicks
      have hw := ((blown_iff r ws).1 hE).2
      have ea : agL r ws = (allC r.clicks).map (worstL r ws) := by rw [agL, if_pos hE]
      have e3 : (agL r ws).length = (2 * r.clicks + 1).toNat := by rw [ea, List.length_map, allC_len]
      have e5 : ∀ l ∈ agL r ws, l.length < 1000000 := fun l hl => by rw [ea] at hl; obtain ⟨c, _, rfl⟩ := List.mem_map.1 hl; rw [worstL_length, hw.len]; omega
      (refine q_seq ?_; refine q_region ?_; refine ql_loadAB tabOk rfl rfl rfl (by repeat first | exact .head _ | refine .tail _ ?_) (by rfl) (by rfl) ?_; (iterate 2 refine ql_pure tabOk rfl rfl ?_))
      refine ql_callv (val := .tuple #[.agg #[.int .i64 (robV r ws).2.1.1, .int .i64 (robV r ws).2.1.2], .int .i64 0]) tabOk rfl rfl rfl rfl (fun w hs => ?_) ?_; exact by have := rshows_ca w _ _ _ _ _ r _ _ ws (agL r ws) (Cp.at2 x4 r rfl rfl rfl rfl hs (by repeat first | exact .head _ | refine .tail _ ?_)) hsm (RdE.keep hws hs.chg0) (by omega) (haa w (fun c hc => hs.un_mem (L := K2) (by repeat first | exact .head _ | refine .tail _ ?_) hc)) (by omega) e5; rw [hsh] at this; exact this
      (refine ql_pure tabOk rfl rfl ?_; (iterate 2 refine ql_ext tabOk rfl rfl rfl ?_))
      refine ql_alloc zero36 rfl (fun b26 => ?_)
      (refine ql_setA tabOk rfl rfl rfl rfl rfl (by repeat constructor) rfl ?_; refine ql_pure tabOk rfl rfl ?_; refine q_nil ?_; refine q_seq ?_; refine q_region ?_; refine ql_pure tabOk rfl rfl ?_; refine ql_neqF tabOk rfl rfl rfl (by omega) ?_; refine ql_pure tabOk rfl rfl ?_; refine ql_gyes rfl ?_; refine ql_loadAB tabOk rfl rfl rfl (by repeat first | exact .head _ | refine .tail _ ?_) (by rfl) (by rfl) ?_; refine ql_gyes rfl ?_; refine ql_loadAB tabOk rfl rfl rfl (by repeat first | exact .head _ | refine .tail _ ?_) (by rfl) (by rfl) ?_; refine ql_gyes rfl ?_)
      refine ql_neF [some .i64, some .i64] rat_flat rfl rfl rfl rfl rfl ?_; rw [eqL_refl]
      (refine ql_pure tabOk rfl rfl ?_; refine q_nil ?_; refine q_cond_false rfl ?_; refine q_skip ?_)
      exact hK3 () _ _ ⟨rfl, rfl, rfl, rfl, rfl, rfl, rfl, rfl, rfl, rfl, trivial⟩ (by repeat (first | exact Sp.nil | exact Sp.refl _ | refine Sp.cons (by repeat constructor) ?_))
    · (refine q_skip ?_)
      exact hK3 () _ _ ⟨rfl, rfl, rfl, rfl, rfl, rfl, rfl, rfl, rfl, rfl, trivial⟩ (by repeat (first | exact Sp.nil | exact Sp.refl _ | refine Sp.cons (by repeat constructor) ?_))
  rintro ⟨⟩
  (refine q_seq ?_; refine q_region ?_; refine ql_loadAB tabOk rfl rfl rfl (by repeat first | exact .head _ | refine .tail _ ?_) (by rfl) (by rfl) ?_; (iterate 2 refine ql_pure tabOk rfl rfl ?_))
  refine ql_callv (val := .tuple #[.agg #[.int .i64 (showsV r ws wl).1.1, .int .i64 (showsV r ws wl).1.2], .int .i64 (showsV r ws wl).2]) tabOk rfl rfl rfl rfl (fun w hs => ?_) ?_; exact showsF_ca w _ _ _ _ _ r _ _ ws wl (Cp.at2 x1 r rfl rfl rfl rfl hs (by repeat first | exact .head _ | refine .tail _ ?_)) hsm (Sat.rdSp hs (t := 32) (k := ws.length) (by repeat first | exact .head _ | refine .tail _ ?_) rfl) (by omega) (CAll.rd (x := x3) hs (by repeat first | exact .head _ | refine .tail _ ?_) (by repeat first | exact .head _ | refine .tail _ ?_)) (by omega)
  (refine ql_pure tabOk rfl rfl ?_; (iterate 2 refine ql_ext tabOk rfl rfl rfl ?_); refine ql_setA tabOk rfl rfl rfl rfl rfl (by repeat constructor) rfl ?_; refine ql_pure tabOk rfl rfl ?_; refine q_nil ?_; refine q_seq ?_; refine q_region ?_; refine ql_loadAB tabOk rfl rfl rfl (by repeat first | exact .head _ | refine .tail _ ?_) (by rfl) (by rfl) ?_; (iterate 2 refine ql_pure tabOk rfl rfl ?_))
  refine ql_callv (val := .tuple #[.agg #[.int .i64 (showsV r ws wl).1.1, .int .i64 (showsV r ws wl).1.2], .int .i64 (showsV r ws wl).2]) tabOk rfl rfl rfl rfl (fun w hs => ?_) ?_; exact rshows_ca w _ _ _ _ _ r _ _ ws wl (Cp.at2 x4 r rfl rfl rfl rfl hs (by repeat first | exact .head _ | refine .tail _ ?_)) hsm (RdE.keep hws hs.chg0) (by omega) (hwl.keep hs.chg0) (by omega) (fun l hl => by have := hrow l hl; omega)
  (refine ql_pure tabOk rfl rfl ?_; (iterate 2 refine ql_ext tabOk rfl rfl rfl ?_); refine ql_setA tabOk rfl rfl rfl rfl rfl (by repeat constructor) rfl ?_; refine ql_pure tabOk rfl rfl ?_; refine q_nil ?_; refine q_seq ?_; refine q_region ?_; (iterate 2 refine ql_pure tabOk rfl rfl ?_); refine ql_eqlT tabOk rfl rfl rfl (by omega) ?_; refine ql_pure tabOk rfl rfl ?_; refine ql_gyes rfl ?_; refine ql_loadAB tabOk rfl rfl rfl (by repeat first | exact .head _ | refine .tail _ ?_) (by rfl) (by rfl) ?_; refine ql_gyes rfl ?_; refine ql_loadAB tabOk rfl rfl rfl (by repeat first | exact .head _ | refine .tail _ ?_) (by rfl) (by rfl) ?_; refine ql_gyes rfl ?_)
  refine ql_eqF [some .i64, some .i64] rat_flat rfl rfl rfl rfl rfl ?_; rw [eqL_refl]
  ((iterate 2 refine ql_pure tabOk rfl rfl ?_); refine ql_gyes rfl ?_; refine ql_loadAB tabOk rfl rfl rfl (by repeat first | exact .head _ | refine .tail _ ?_) (by rfl) (by rfl) ?_; refine ql_gyes rfl ?_; refine ql_loadAB tabOk rfl rfl rfl (by repeat first | exact .head _ | refine .tail _ ?_) (by rfl) (by rfl) ?_; refine ql_gyes rfl ?_)
  refine ql_callv (val := .bool true) tabOk rfl rfl rfl rfl (fun w hs => ?_) ?_; exact same_ca w _ _ r (Cp.at2 x1 r rfl rfl rfl rfl hs (by repeat first | exact .head _ | refine .tail _ ?_)) (h0.keep hs.chg0) hsm
  ((iterate 2 refine ql_pure tabOk rfl rfl ?_); refine ql_gyes rfl ?_; refine ql_pure tabOk rfl rfl ?_; refine ql_gyes rfl ?_; refine ql_pure tabOk rfl rfl ?_; refine ql_gyes rfl ?_)
  refine ql_callv (val := .bool true) tabOk rfl rfl rfl rfl (fun w hs => ?_) ?_; exact eqS_ca w _ _ _ _ _ _ ws (Sat.rdSp hs (t := 32) (k := ws.length) (by repeat first | exact .head _ | refine .tail _ ?_) rfl) (RdE.keep hws hs.chg0) (by omega)
  ((iterate 2 refine ql_pure tabOk rfl rfl ?_); refine ql_gyes rfl ?_; refine ql_pure tabOk rfl rfl ?_; refine ql_gyes rfl ?_; refine ql_pure tabOk rfl rfl ?_; refine ql_gyes rfl ?_)
  refine ql_callv (val := .bool true) tabOk rfl rfl rfl rfl (fun w hs => ?_) ?_; exact eqII_ca w _ _ _ _ _ _ wl (CAll.rd (x := x3) hs (by repeat first | exact .head _ | refine .tail _ ?_) (by repeat first | exact .head _ | refine .tail _ ?_)) (hwl.keep hs.chg0) (by omega) (fun l hl => by have := hrow l hl; omega)
  ((iterate 2 refine ql_pure tabOk rfl rfl ?_); refine ql_gyes rfl ?_)
  refine ql_callv (val := .bool true) tabOk rfl rfl rfl rfl (fun w hs => ?_) ?_; exact awake_ca w
  ((iterate 2 refine ql_pure tabOk rfl rfl ?_); refine q_nil ?_; refine q_ret ?_)
  refine q_fin tabOk rfl (by repeat (first | exact RVs.nil | apply RVs.tmp rfl | apply RVs.cellA rfl rfl (by repeat first | exact .head _ | refine .tail _ ?_) (by rfl) | apply RVs.cell1 rfl rfl (by repeat first | exact .head _ | refine .tail _ ?_))) fun w hs => ?_
  exact ⟨rfl, hs.chg0⟩
end Go.Proofs.YtohlillcaadidaaGreat
