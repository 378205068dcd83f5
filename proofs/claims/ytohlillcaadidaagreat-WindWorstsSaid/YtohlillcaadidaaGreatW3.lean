/- My texts S1, S2, S3, S4, S5, S6, S7, B9, Q0, Q1, B10, B11, Q2, Q3, Q4, Q5, Q6, B12, Q7, joined: a claim takes at most 60 files. -/
import Derived.Test.YtohlillcaadidaaGreatW2

/- Walks: the worst case. -/
namespace Go.Proofs.YtohlillcaadidaaGreat
open Go Go.Eng

theorem slI : SlT Tryz.prog 22 3 1 8 (.int .i64 0) := ⟨by kernel_rfl, by kernel_rfl, by kernel_rfl, by decide⟩

/-- The worst drift of the first k ones, from lo on. -/
def wP (r : Rg) (click lo : Int) : Nat → Int
  | 0 => lo
  | k + 1 => if missS r (wP r click lo k) click < missS r (lo + k) click then lo + k else wP r click lo k
theorem wP_bd (r : Rg) (click lo : Int) : ∀ k, lo ≤ wP r click lo k ∧ (wP r click lo k = lo ∨ wP r click lo k < lo + k)
  | 0 => by simp [wP]
  | k + 1 => by
    have ih := wP_bd r click lo k
    rw [wP]
    split <;> omega
def worstO (r : Rg) (click : Int) (s : Int × Int) : Int := wP r click s.1 (s.2 - s.1 + 1).toNat
def worstL (r : Rg) (ws : List (Int × Int)) (click : Int) : List Int := ws.map (worstO r click)
def worstP (r : Rg) (ws : List (Int × Int)) (click : Int) (k : Nat) : List Int := (ws.take k).map (worstO r click) ++ List.replicate (ws.length - k) 0
theorem worstP_length (r : Rg) (ws : List (Int × Int)) (click : Int) (k : Nat) (hk : k ≤ ws.length) : (worstP r ws click k).length = ws.length := by
  simp [worstP]; omega
theorem worstP_set (r : Rg) (ws : List (Int × Int)) (click : Int) (k : Nat) (hk : k < ws.length) : (worstP r ws click k).set k (worstO r click ws[k]) = worstP r ws click (k + 1) := by
  unfold worstP
  have h1 : ((ws.take k).map (worstO r click)).length = k := by simp; omega
  rw [List.set_append_right _ _ (by omega), h1, Nat.sub_self, show ws.length - k = (ws.length - (k + 1)) + 1 by omega, List.replicate_succ, List.set_cons_zero]
  rw [List.take_succ_eq_append_getElem hk, List.map_append]
  simp
structure WindOk (ws : List (Int × Int)) : Prop where
  len : ws.length = 5
  sp : ∀ s ∈ ws, s.1 ≤ s.2 ∧ -300 ≤ s.1 ∧ s.2 ≤ 300

set_option maxHeartbeats 2000000 in
theorem worst_ca (w : World) (b lo hi : Nat) (r : Rg) (v : Value) (ws : List (Int × Int)) (click : Int) (hd : DkAt w b r) (hr : r.Right) (hl : RdS w lo hi v ws) (hw : WindOk ws) (hck : -1000 ≤ click ∧ click ≤ 1000) :
    Ca Tryz.prog 40 [.pointer (some ⟨b, 0, none⟩), v, .int .i64 click] w fun v w' => ∃ x : Nat, v = .slice (some ⟨x, 0, none⟩) 5 5 ∧ Sat w M0 [.pt x (ints (worstL r ws click)) 3] w' := by
  obtain ⟨a, cap, rfl, hs⟩ := hl.outI
  have hwl := hw.len
  obtain ⟨bs, off, rfl⟩ := hs (by omega)
  refine q_of (Sat.nil w M0) Tryz.func40 rfl (by simp [Tryz.ntmps40]) ?_
  (refine q_seq ?_; refine q_region ?_; refine ql_pure tabOk rfl rfl ?_; refine q_nil ?_; refine q_seq ?_; refine q_region ?_)
  refine ql_makeI (et := 3) (m := 5) slI rfl rfl rfl (by omega) (fun x => ?_)
  (refine ql_pure tabOk rfl rfl ?_; refine q_nil ?_; (iterate 2 refine q_seq ?_); refine q_region ?_; (iterate 3 refine ql_pure tabOk rfl rfl ?_); refine q_nil ?_; refine q_block ?_)
  refine q_conv (H' := [.pt x (ints (worstP r ws click 0)) 3]) (fun w' hs => by
    have e : worstP r ws click 0 = List.replicate 5 0 := by simp [worstP, hwl]
    rw [e]; exact hs) ?_
  refine q_loop (σ := Nat) (fun k => k ≤ ws.length) (fun k => ws.length - k) (fun k => [(0, .pointer (some ⟨b, 0, none⟩)), (2, .int .i64 click), (7, .slice (some ⟨x, 0, none⟩) 5 5), (12, .slice (some ⟨bs, off, none⟩) ws.length cap), (13, .int .i64 ws.length), (14, .int .i64 k)])
    (fun k => [.pt x (ints (worstP r ws click k)) 3]) 0 (by omega) ⟨rfl, rfl, rfl, rfl, rfl, rfl, trivial⟩ (by repeat (first | exact Sp.nil | exact Sp.refl _ | refine Sp.cons (by repeat constructor) ?_)) ?_
  intro k hk K hK
  have hpl := worstP_length r ws click k hk
  (refine q_seq ?_; refine q_region ?_; refine ql_pure tabOk rfl rfl ?_; refine q_nil ?_; refine q_seq ?_)
  refine q_if rfl (fun hc => ?_) (fun hc => ?_)
  · have hk : k < ws.length := by omega
    have hsp := hw.sp _ (List.getElem_mem hk)
    have hset := worstP_set r ws click k hk
    (refine q_skip ?_; refine q_seq ?_; refine q_block ?_; refine q_seq ?_; refine q_region ?_; refine ql_pure tabOk rfl rfl ?_)
    (refine ql_index tabOk rfl rfl rfl rfl rfl (by omega) (by omega) ?_; refine ql_loadA tabOk rfl rfl rfl rfl (fun w hs => RdS.at (RdE.keep hl hs.chg0) k hk) ?_)
    generalize hsk : ws[k] = s at *
    obtain ⟨s1, s2⟩ := s
    simp only at hsp
    skip
    refine ql_alloc zero32 rfl (fun b9 => ?_)
    (refine ql_pure tabOk rfl rfl ?_; refine ql_setA tabOk rfl rfl rfl rfl rfl (by repeat constructor) rfl ?_; refine q_nil ?_; refine q_seq ?_; refine q_region ?_; (iterate 3 refine ql_pure tabOk rfl rfl ?_); refine ql_loadB tabOk rfl rfl rfl (by repeat first | exact .head _ | refine .tail _ ?_) (by rfl) ?_)
    refine ql_index tabOk rfl rfl rfl rfl rfl (by omega) (by omega) ?_
    have hkp : k < (worstP r ws click k).length := by omega
    refine ql_storeI tabOk (k) rfl rfl rfl (by repeat constructor) (by first | rfl | omega | simp) hkp ?_
    (refine q_nil ?_; refine q_seq ?_; refine q_region ?_; refine ql_pure tabOk rfl rfl ?_; refine ql_loadB tabOk rfl rfl rfl (by repeat first | exact .head _ | refine .tail _ ?_) (by rfl) ?_; refine ql_pure tabOk rfl rfl ?_; refine q_nil ?_; refine q_block ?_)
    refine q_loop (σ := Nat) (fun j => (j : Int) ≤ s2 - s1 + 1) (fun j => (s2 - s1 + 1).toNat - j) (fun j => [(0, .pointer (some ⟨b, 0, none⟩)), (2, .int .i64 click), (7, .slice (some ⟨x, 0, none⟩) 5 5), (8, .int .i64 k), (9, .pointer (some ⟨b9, 0, none⟩)), (10, .int .i64 (s1 + j)), (12, .slice (some ⟨bs, off, none⟩) ws.length cap), (13, .int .i64 ws.length), (14, .int .i64 k)])
      (fun j => [.pt x (ints ((worstP r ws click k).set k (wP r click s1 j))) 3, .pt b9 [.int .i64 s1, .int .i64 s2] 32]) 0 (by omega) ⟨rfl, rfl, rfl, rfl, rfl, lookI rfl (by omega), rfl, rfl, rfl, trivial⟩ (by repeat (first | exact Sp.nil | exact Sp.refl _ | refine Sp.cons (by repeat constructor) ?_)) ?_
    intro j hj K2 hK2
    have hwb := wP_bd r click s1 j
    ((iterate 2 refine q_seq ?_); refine q_region ?_; (iterate 2 refine ql_pure tabOk rfl rfl ?_); refine ql_loadB tabOk rfl rfl rfl (by repeat first | exact .head _ | refine .tail _ ?_) (by rfl) ?_; refine ql_pure tabOk rfl rfl ?_; refine q_nil ?_)
    refine q_if rfl (fun hc => ?_) (fun hc => ?_)
    · have hpl2 : k < ((worstP r ws click k).set k (wP r click s1 j)).length := by rw [List.length_set]; exact hkp
      have hget : ((worstP r ws click k).set k (wP r click s1 j))[k] = wP r click s1 j := by simp
      have hsuc : wP r click s1 (j + 1) = if missS r (wP r click s1 j) click < missS r (s1 + j) click then s1 + j else wP r click s1 j := rfl
      (refine q_skip ?_; refine q_seq ?_; refine q_block ?_; refine q_seq ?_)
      refine q_draw _ [] (Sp.refl _) (by kernel_rfl) (by kernel_rfl) ?_
      ((iterate 3 refine qf_pure tabOk rfl rfl rfl ?_))
      refine qf_callv (val := .int .i64 (missS r (s1 + j) click)) tabOk rfl rfl rfl rfl (fun w hs => ?_) ?_; exact missed_ca w b r (s1 + j) click (hd.keep hs.chg0) hr (by omega) hck
      ((iterate 3 refine qf_pure tabOk rfl rfl rfl ?_))
      refine qf_index tabOk rfl rfl rfl rfl rfl (by omega) (by omega) ?_
      refine qf_loadI tabOk (k) rfl rfl rfl (by repeat first | exact .head _ | refine .tail _ ?_) (by first | rfl | omega | simp) hpl2 ?_
      rw [hget]
      (refine qf_pure tabOk rfl rfl rfl ?_)
      refine qf_callv (val := .int .i64 (missS r (wP r click s1 j) click)) tabOk rfl rfl rfl rfl (fun w hs => ?_) ?_; exact missed_ca w b r (wP r click s1 j) click (hd.keep hs.chg0) hr (by omega) hck
      (refine qf_pure tabOk rfl rfl rfl ?_; refine qf_nil ?_)
      refine q_if rfl (fun hc => ?_) (fun hc => ?_)
      · rw [if_pos hc] at hsuc
        (refine q_region ?_; (iterate 3 refine ql_pure tabOk rfl rfl ?_))
        refine ql_index tabOk rfl rfl rfl rfl rfl (by omega) (by omega) ?_
        refine ql_storeI tabOk (k) rfl rfl rfl (by repeat constructor) (by first | rfl | omega | simp) hpl2 ?_
        (refine q_nil ?_; refine q_blk ?_; refine q_region ?_; refine ql_pure tabOk rfl rfl ?_; refine ql_ar tabOk rfl rfl rfl rfl (by omega) (by omega) ?_; refine ql_pure tabOk rfl rfl ?_; refine q_nil ?_)
        exact hK2 (j + 1) _ _ (by omega) (by omega) ⟨rfl, rfl, rfl, rfl, rfl, lookI rfl (by omega), rfl, rfl, rfl, trivial⟩ (by rw [hsuc, List.set_set]; repeat (first | exact Sp.nil | exact Sp.refl _ | refine Sp.cons (by repeat constructor) ?_))
      · rw [if_neg hc] at hsuc
        (refine q_skip ?_; refine q_blk ?_; refine q_region ?_; refine ql_pure tabOk rfl rfl ?_; refine ql_ar tabOk rfl rfl rfl rfl (by omega) (by omega) ?_; refine ql_pure tabOk rfl rfl ?_; refine q_nil ?_)
        exact hK2 (j + 1) _ _ (by omega) (by omega) ⟨rfl, rfl, rfl, rfl, rfl, lookI rfl (by omega), rfl, rfl, rfl, trivial⟩ (by rw [hsuc]; repeat (first | exact Sp.nil | exact Sp.refl _ | refine Sp.cons (by repeat constructor) ?_))
    · have hj2 : j = (s2 - s1 + 1).toNat := by omega
      have hwo : wP r click s1 j = worstO r click (s1, s2) := by rw [hj2]; rfl
      rw [hwo, hset]
      (refine q_exit _ rfl ?_; refine q_blk ?_; refine q_region ?_; refine ql_ar tabOk rfl rfl rfl rfl (by omega) (by omega) ?_; refine ql_pure tabOk rfl rfl ?_; refine q_nil ?_)
      exact hK (k + 1) _ _ (by omega) (by omega) ⟨rfl, rfl, rfl, rfl, rfl, rfl, trivial⟩ (by repeat (first | exact Sp.nil | exact Sp.refl _ | refine Sp.cons (by repeat constructor) ?_))
  · obtain rfl : k = ws.length := by omega
    (refine q_exit _ rfl ?_; refine q_seq ?_; refine q_region ?_; (iterate 2 refine ql_pure tabOk rfl rfl ?_); refine q_nil ?_; refine q_ret ?_)
    refine q_fin tabOk rfl (by repeat (first | exact RVs.nil | apply RVs.tmp rfl | apply RVs.cellA rfl rfl (by repeat first | exact .head _ | refine .tail _ ?_) (by rfl) | apply RVs.cell1 rfl rfl (by repeat first | exact .head _ | refine .tail _ ?_))) fun w hs => ?_
    refine ⟨x, rfl, ?_⟩
    have e : worstP r ws click ws.length = worstL r ws click := by simp [worstP, worstL]
    rw [← e]
    exact hs

end Go.Proofs.YtohlillcaadidaaGreat

/- Walks: winds; the worst case of a click, with errors. -/
namespace Go.Proofs.YtohlillcaadidaaGreat
open Go Go.Eng

def spB (m : Int) (s : Int × Int) : Bool := decide (s.1 ≤ s.2) && (decide (-m ≤ s.1) && decide (s.2 ≤ m))
def pSp (m : Int) : Value → Bool
  | .agg cs => match cs.toList with
    | [.int _ a, .int _ b] => spB m (a, b)
    | _ => false
  | _ => false
theorem pSp_all (m : Int) (l : List (Int × Int)) : (l.map rtV).all (pSp m) = l.all (spB m) := by
  rw [List.all_map]
  rfl
theorem rtV_agg (l : List (Int × Int)) : ∀ i (hi : i < (l.map rtV).length), ∃ c, (l.map rtV)[i] = .agg c := by
  intro i hi
  exact ⟨_, by rw [List.getElem_map]; rfl⟩

theorem blown1_p (w : World) (l : List (Int × Int)) : PredAt Tryz.prog tab w (.func (.func 101) #[] #[]) (l.map rtV) (pSp 300) := by
  refine ⟨_, _, _, rfl, rfl, fun w' hw' x hx => ?_⟩
  obtain ⟨⟨a, b⟩, hy, rfl⟩ := List.mem_map.1 hx
  refine q_of (Sat.nil w' M0) Tryz.func101 rfl (by simp [Tryz.ntmps101]) ?_
  (refine q_seq ?_; refine q_region ?_)
  refine ql_box rfl rfl (fun b1 => ?_)
  (refine ql_pure tabOk rfl rfl ?_; refine q_nil ?_; refine q_seq ?_; refine q_region ?_; refine ql_pure tabOk rfl rfl ?_; refine ql_loadB tabOk rfl rfl rfl (by repeat first | exact .head _ | refine .tail _ ?_) (by rfl) ?_; refine ql_pure tabOk rfl rfl ?_; refine ql_loadB tabOk rfl rfl rfl (by repeat first | exact .head _ | refine .tail _ ?_) (by rfl) ?_; (iterate 2 refine ql_pure tabOk rfl rfl ?_))
  refine ql_split rfl rfl (fun hc => ?_) (fun hc => ?_)
  · (refine ql_gyes rfl ?_; refine ql_pure tabOk rfl rfl ?_; refine ql_gyes rfl ?_; refine ql_loadB tabOk rfl rfl rfl (by repeat first | exact .head _ | refine .tail _ ?_) (by rfl) ?_; refine ql_gyes rfl ?_; (iterate 3 refine ql_pure tabOk rfl rfl ?_))
    refine ql_split rfl rfl (fun hc => ?_) (fun hc => ?_)
    · (refine ql_gyes rfl ?_; refine ql_pure tabOk rfl rfl ?_; refine ql_gyes rfl ?_; refine ql_loadB tabOk rfl rfl rfl (by repeat first | exact .head _ | refine .tail _ ?_) (by rfl) ?_; refine ql_gyes rfl ?_; (iterate 3 refine ql_pure tabOk rfl rfl ?_); refine q_nil ?_; refine q_ret ?_)
      refine q_fin tabOk rfl (by repeat (first | exact RVs.nil | apply RVs.tmp rfl | apply RVs.cellA rfl rfl (by repeat first | exact .head _ | refine .tail _ ?_) (by rfl) | apply RVs.cell1 rfl rfl (by repeat first | exact .head _ | refine .tail _ ?_))) fun w hs => ?_
      exact ⟨by simp at *; simp [retV, pSp, rtV, spB, *], hs.chg0⟩
    · ((iterate 3 refine ql_gno rfl rfl rfl ?_); (iterate 2 refine ql_pure tabOk rfl rfl ?_); refine q_nil ?_; refine q_ret ?_)
      refine q_fin tabOk rfl (by repeat (first | exact RVs.nil | apply RVs.tmp rfl | apply RVs.cellA rfl rfl (by repeat first | exact .head _ | refine .tail _ ?_) (by rfl) | apply RVs.cell1 rfl rfl (by repeat first | exact .head _ | refine .tail _ ?_))) fun w hs => ?_
      refine ⟨?_, hs.chg0⟩
      simp at hc
      simp [retV, pSp, rtV, spB]
      omega
  · ((iterate 3 refine ql_gno rfl rfl rfl ?_); (iterate 2 refine ql_pure tabOk rfl rfl ?_); (iterate 3 refine ql_gno rfl rfl rfl ?_); (iterate 2 refine ql_pure tabOk rfl rfl ?_); refine q_nil ?_; refine q_ret ?_)
    refine q_fin tabOk rfl (by repeat (first | exact RVs.nil | apply RVs.tmp rfl | apply RVs.cellA rfl rfl (by repeat first | exact .head _ | refine .tail _ ?_) (by rfl) | apply RVs.cell1 rfl rfl (by repeat first | exact .head _ | refine .tail _ ?_))) fun w hs => ?_
    refine ⟨?_, hs.chg0⟩
    simp at hc
    simp [retV, pSp, rtV, spB]
    omega

def blownV (r : Rg) (ws : List (Int × Int)) : Int := if checkV r ≠ 0 then checkV r else if (ws.length : Int) ≠ 5 then 2 else if !(ws.all (spB 300)) then 3 else 0
theorem blown_iff (r : Rg) (ws : List (Int × Int)) : blownV r ws = 0 ↔ checkV r = 0 ∧ WindOk ws := by
  unfold blownV
  constructor
  · intro h
    split at h
    · contradiction
    · rename_i h1
      split at h
      · cases h
      · rename_i h2
        split at h
        · cases h
        · rename_i h3
          refine ⟨by simpa using h1, ⟨by omega, fun s hs => ?_⟩⟩
          have := List.all_eq_true.1 (by simpa using h3 : ws.all (spB 300) = true) s hs
          simp [spB] at this
          omega
  · rintro ⟨h1, h2⟩
    have h3 : ws.all (spB 300) = true := List.all_eq_true.2 (fun s hs => by have := h2.sp s hs; simp [spB]; omega)
    have h4 := h2.len
    rw [if_neg (by simpa using h1), if_neg (by omega), h3]
    rfl

set_option maxHeartbeats 1000000 in
theorem blown_no (w : World) (l0 h0' : Nat) (cs : List Value) (r : Rg) (v : Value) (ws : List (Int × Int)) (h : RgC w cs r) (hsm : r.Small) (hl : RdS w l0 h0' v ws) (hlen : ws.length < 1000000) (hne : blownV r ws ≠ 0) : Ca Tryz.prog 38 [.agg cs.toArray, v] w fun v w' => v = .tuple #[.pointer none, .int .i64 (blownV r ws)] ∧ Chg [] w w' := by
  have h0 := h
  obtain ⟨lo, hi, ag, cg, ad, cd, af, cf, an, cn, rfl, hg, hdr, hf, hn⟩ := h
  obtain ⟨a, cap, rfl, hs⟩ := hl.outI
  refine q_of (Sat.nil w M0) Tryz.func38 rfl (by simp [Tryz.ntmps38]) ?_
  (refine q_seq ?_; refine q_region ?_)
  refine ql_box rfl rfl (fun b1 => ?_)
  ((iterate 2 refine ql_pure tabOk rfl rfl ?_); refine q_nil ?_; refine q_seq ?_; refine q_region ?_; refine ql_loadAB tabOk rfl rfl rfl (by repeat first | exact .head _ | refine .tail _ ?_) (by rfl) (by rfl) ?_)
  by_cases hr : checkV r = 0
  · refine ql_call (β := Nat) tabOk [] _ M0 rfl rfl rfl rfl (Sp.refl _) (fun _ h => h.elim) (fun w' hs => opened_ok w' _ r (h0.keep hs.chg0) hsm hr) ?_
    rintro bd _ rfl
    (refine ql_pure tabOk rfl rfl ?_; (iterate 2 refine ql_ext tabOk rfl rfl rfl ?_); (iterate 2 refine ql_pure tabOk rfl rfl ?_); refine q_nil ?_; refine q_seq ?_; refine q_block ?_; refine q_seq ?_; refine q_region ?_; (iterate 3 refine ql_pure tabOk rfl rfl ?_); refine q_nil ?_; refine q_cond_false rfl ?_; refine q_seq ?_; refine q_region ?_; (iterate 4 refine ql_pure tabOk rfl rfl ?_); refine q_nil ?_)
    by_cases h5 : (ws.length : Int) = 5
    · rw [decide_eq_true h5]
      (refine q_cond_false rfl ?_; refine q_seq ?_; refine q_region ?_; refine ql_pure tabOk rfl rfl ?_)
      refine ql_callv (val := .bool (ws.all (spB 300))) tabOk rfl rfl rfl rfl (fun w hs => ?_) ?_; exact by have := all_span w l0 h0' _ _ (ws.map rtV) (pSp 300) (RdE.keep hl hs.chg0) (rtV_agg ws) (by simp; omega) (blown1_p w ws); rw [pSp_all] at this; exact this
      ((iterate 2 refine ql_pure tabOk rfl rfl ?_); refine q_nil ?_)
      have h3 : ws.all (spB 300) = false := by
        cases h : ws.all (spB 300)
        · rfl
        · exact absurd (by unfold blownV; rw [hr, h]; simp [h5]) hne
      rw [h3]
      (refine q_cond_true rfl ?_; refine q_seq ?_; refine q_region ?_; (iterate 2 refine ql_pure tabOk rfl rfl ?_); refine q_nil ?_; refine q_ret ?_)
      refine q_fin tabOk rfl (by repeat (first | exact RVs.nil | apply RVs.tmp rfl | apply RVs.cellA rfl rfl (by repeat first | exact .head _ | refine .tail _ ?_) (by rfl) | apply RVs.cell1 rfl rfl (by repeat first | exact .head _ | refine .tail _ ?_))) fun w hs => ?_
      refine ⟨?_, hs.chg0⟩
      have e : blownV r ws = 3 := by unfold blownV; rw [hr, h3]; simp [h5]
      rw [e]
      rfl
    · rw [decide_eq_false h5]
      (refine q_cond_true rfl ?_; refine q_seq ?_; refine q_region ?_; (iterate 2 refine ql_pure tabOk rfl rfl ?_); refine q_nil ?_; refine q_ret ?_)
      refine q_fin tabOk rfl (by repeat (first | exact RVs.nil | apply RVs.tmp rfl | apply RVs.cellA rfl rfl (by repeat first | exact .head _ | refine .tail _ ?_) (by rfl) | apply RVs.cell1 rfl rfl (by repeat first | exact .head _ | refine .tail _ ?_))) fun w hs => ?_
      refine ⟨?_, hs.chg0⟩
      have e : blownV r ws = 2 := by unfold blownV; rw [hr]; simp [h5]
      rw [e]
      rfl
  · refine ql_callv tabOk rfl rfl rfl rfl (fun w hs => opened_no w _ r (h0.keep hs.chg0) hsm hr) ?_
    (refine ql_pure tabOk rfl rfl ?_; (iterate 2 refine ql_ext tabOk rfl rfl rfl ?_); (iterate 2 refine ql_pure tabOk rfl rfl ?_); refine q_nil ?_; refine q_seq ?_; refine q_block ?_; refine q_seq ?_; refine q_region ?_; (iterate 3 refine ql_pure tabOk rfl rfl ?_); refine q_nil ?_)
    rw [decide_eq_false hr]
    (refine q_cond_true rfl ?_; refine q_seq ?_; refine q_region ?_; (iterate 3 refine ql_pure tabOk rfl rfl ?_); refine q_nil ?_; refine q_ret ?_)
    refine q_fin tabOk rfl (by repeat (first | exact RVs.nil | apply RVs.tmp rfl | apply RVs.cellA rfl rfl (by repeat first | exact .head _ | refine .tail _ ?_) (by rfl) | apply RVs.cell1 rfl rfl (by repeat first | exact .head _ | refine .tail _ ?_))) fun w hs => ?_
    refine ⟨?_, hs.chg0⟩
    have e : blownV r ws = checkV r := by unfold blownV; rw [if_pos hr]
    rw [e]
    rfl

set_option maxHeartbeats 1000000 in
theorem blown_ok (w : World) (l0 h0' : Nat) (cs : List Value) (r : Rg) (v : Value) (ws : List (Int × Int)) (h : RgC w cs r) (hsm : r.Small) (hl : RdS w l0 h0' v ws) (hne : blownV r ws = 0) : Ca Tryz.prog 38 [.agg cs.toArray, v] w fun v w' => ∃ x : Nat, v = .tuple #[.pointer (some ⟨x, 0, none⟩), .int .i64 0] ∧ Sat w M0 [.pt x cs 141] w' := by
  obtain ⟨hr, hw⟩ := (blown_iff r ws).1 hne
  have h3 : ws.all (spB 300) = true := List.all_eq_true.2 (fun s hs => by have := hw.sp s hs; simp [spB]; omega)
  have h5 := hw.len
  have h0 := h
  obtain ⟨lo, hi, ag, cg, ad, cd, af, cf, an, cn, rfl, hg, hdr, hf, hn⟩ := h
  obtain ⟨a, cap, rfl, hs⟩ := hl.outI
  refine q_of (Sat.nil w M0) Tryz.func38 rfl (by simp [Tryz.ntmps38]) ?_
  (refine q_seq ?_; refine q_region ?_)
  refine ql_box rfl rfl (fun b1 => ?_)
  ((iterate 2 refine ql_pure tabOk rfl rfl ?_); refine q_nil ?_; refine q_seq ?_; refine q_region ?_; refine ql_loadAB tabOk rfl rfl rfl (by repeat first | exact .head _ | refine .tail _ ?_) (by rfl) (by rfl) ?_)
  refine ql_call (β := Nat) tabOk [] _ M0 rfl rfl rfl rfl (Sp.refl _) (fun _ h => h.elim) (fun w' hs => opened_ok w' _ r (h0.keep hs.chg0) hsm hr) ?_
  rintro bd _ rfl
  (refine ql_pure tabOk rfl rfl ?_; (iterate 2 refine ql_ext tabOk rfl rfl rfl ?_); (iterate 2 refine ql_pure tabOk rfl rfl ?_); refine q_nil ?_; refine q_seq ?_; refine q_block ?_; refine q_seq ?_; refine q_region ?_; (iterate 3 refine ql_pure tabOk rfl rfl ?_); refine q_nil ?_; refine q_cond_false rfl ?_; refine q_seq ?_; refine q_region ?_; (iterate 4 refine ql_pure tabOk rfl rfl ?_); refine q_nil ?_)
  rw [decide_eq_true (show (ws.length : Int) = 5 by omega)]
  (refine q_cond_false rfl ?_; refine q_seq ?_; refine q_region ?_; refine ql_pure tabOk rfl rfl ?_)
  refine ql_callv (val := .bool (ws.all (spB 300))) tabOk rfl rfl rfl rfl (fun w hs => ?_) ?_; exact by have := all_span w l0 h0' _ _ (ws.map rtV) (pSp 300) (RdE.keep hl hs.chg0) (rtV_agg ws) (by simp; omega) (blown1_p w ws); rw [pSp_all] at this; exact this
  rw [h3]
  ((iterate 2 refine ql_pure tabOk rfl rfl ?_); refine q_nil ?_; refine q_cond_false rfl ?_; refine q_skip ?_; refine q_blk ?_; refine q_seq ?_; refine q_region ?_; (iterate 3 refine ql_pure tabOk rfl rfl ?_); refine q_nil ?_; refine q_ret ?_)
  refine q_fin tabOk rfl (by repeat (first | exact RVs.nil | apply RVs.tmp rfl | apply RVs.cellA rfl rfl (by repeat first | exact .head _ | refine .tail _ ?_) (by rfl) | apply RVs.cell1 rfl rfl (by repeat first | exact .head _ | refine .tail _ ?_))) fun w hs => ?_
  exact ⟨bd, rfl, hs.sp (by repeat (first | exact Sp.nil | exact Sp.refl _ | refine Sp.cons (by repeat constructor) ?_))⟩

end Go.Proofs.YtohlillcaadidaaGreat

/- Walks: Worst, Robust. -/
namespace Go.Proofs.YtohlillcaadidaaGreat
open Go Go.Eng

/-- slices.Clone of a list that is not nil. -/
theorem sclone_ca (w : World) (lo hi b off c : Nat) (l : List Int) (hl : RdI w lo hi (.slice (some ⟨b, off, none⟩) l.length c) l) (hlen : l.length < 1000000) : Ca Tryz.prog 41 [.slice (some ⟨b, off, none⟩) l.length c] w fun v w' => ∃ x : Value, v = x ∧ Sat w M0 [.ow x 3 1 l.length (ints l)] w' := by
  refine q_of (Sat.nil w M0) Tryz.func41 rfl (by simp [Tryz.ntmps41]) ?_
  (refine q_seq ?_; refine q_region ?_; refine ql_pure tabOk rfl rfl ?_; refine q_nil ?_; (iterate 2 refine q_seq ?_); refine q_region ?_; refine ql_pure tabOk rfl rfl ?_)
  refine ql_eqnil tabOk rfl rfl rfl rfl ?_
  (refine q_nil ?_; refine q_cond_false rfl ?_; refine q_skip ?_; refine q_seq ?_; refine q_region ?_)
  refine ql_mkS0 3 (by kernel_rfl) (by kernel_rfl) rfl (fun x => ?_)
  (refine ql_pure tabOk rfl rfl ?_)
  refine ql_append (q := l.length) slI rfl rfl rfl (fun v' => by repeat constructor) (fun w' hs => ⟨lo, hi, RdI.row (RdE.keep hl hs.chg0)⟩) (by simp [oneV]) (by omega) (by omega) (fun v' => ?_)
  (refine ql_pure tabOk rfl rfl ?_; refine q_nil ?_; refine q_ret ?_)
  refine q_fin tabOk rfl (by repeat (first | exact RVs.nil | apply RVs.tmp rfl | apply RVs.cellA rfl rfl (by repeat first | exact .head _ | refine .tail _ ?_) (by rfl) | apply RVs.cell1 rfl rfl (by repeat first | exact .head _ | refine .tail _ ?_))) fun w hs => ?_
  exact ⟨v', rfl, by simpa using hs⟩

def wErr (r : Rg) (ws : List (Int × Int)) (click : Int) : Int := if blownV r ws ≠ 0 then blownV r ws else if !(inB click (-r.clicks) r.clicks) then 3 else 0
theorem worstL_bd {r : Rg} {ws : List (Int × Int)} (hw : WindOk ws) (click : Int) : ∀ x ∈ worstL r ws click, -300 ≤ x ∧ x ≤ 300 := by
  intro x hx
  obtain ⟨s, hs, rfl⟩ := List.mem_map.1 hx
  have h1 := hw.sp s hs
  have h2 := wP_bd r click s.1 (s.2 - s.1 + 1).toNat
  unfold worstO
  omega
theorem worstL_length (r : Rg) (ws : List (Int × Int)) (click : Int) : (worstL r ws click).length = ws.length := by simp [worstL]

set_option maxHeartbeats 1000000 in
theorem worstF_no (w : World) (l0 h1 : Nat) (cs : List Value) (r : Rg) (v : Value) (ws : List (Int × Int)) (click : Int) (h : RgC w cs r) (hsm : r.Small) (hl : RdS w l0 h1 v ws) (hlen : ws.length < 1000000) (hne : wErr r ws click ≠ 0) :
    Ca Tryz.prog 10 [.agg cs.toArray, v, .int .i64 click] w fun v w' => v = .tuple #[.slice none 0 0, rtV (0, 0), .int .i64 (wErr r ws click)] ∧ Chg [] w w' := by
  have h0 := h
  obtain ⟨lo, hi, ag, cg, ad, cd, af, cf, an, cn, rfl, hg, hdr, hf, hn⟩ := h
  obtain ⟨a, cap, rfl, hs⟩ := hl.outI
  refine q_of (Sat.nil w M0) Tryz.func10 rfl (by simp [Tryz.ntmps10]) ?_
  (refine q_seq ?_; refine q_region ?_)
  refine ql_box rfl rfl (fun b1 => ?_)
  (refine ql_pure tabOk rfl rfl ?_)
  refine ql_alloc zero36 rfl (fun b2 => ?_)
  (refine ql_pure tabOk rfl rfl ?_; refine q_nil ?_; refine q_seq ?_; refine q_region ?_; refine ql_loadAB tabOk rfl rfl rfl (by repeat first | exact .head _ | refine .tail _ ?_) (by rfl) (by rfl) ?_; refine ql_pure tabOk rfl rfl ?_)
  by_cases hb : blownV r ws = 0
  · have hR := (right_check r).1 ((blown_iff r ws).1 hb).1
    have hcl := hR.clicks
    refine ql_call (β := Nat) tabOk [] _ M0 rfl rfl rfl rfl (Sp.refl _) (fun _ h => h.elim) (fun w' hs => blown_ok w' l0 h1 _ r _ ws (h0.keep hs.chg0) hsm (RdE.keep hl hs.chg0) hb) ?_
    rintro bd _ rfl
    (refine ql_pure tabOk rfl rfl ?_; (iterate 2 refine ql_ext tabOk rfl rfl rfl ?_); (iterate 2 refine ql_pure tabOk rfl rfl ?_); refine q_nil ?_; refine q_seq ?_; refine q_block ?_; refine q_seq ?_; refine q_region ?_; (iterate 3 refine ql_pure tabOk rfl rfl ?_); refine q_nil ?_; refine q_cond_false rfl ?_; refine q_seq ?_; refine q_region ?_; (iterate 2 refine ql_pure tabOk rfl rfl ?_); refine ql_loadB tabOk rfl rfl rfl (by repeat first | exact .head _ | refine .tail _ ?_) (by rfl) ?_; refine ql_neg tabOk rfl rfl (by omega) (by omega) ?_; refine ql_pure tabOk rfl rfl ?_; refine ql_loadB tabOk rfl rfl rfl (by repeat first | exact .head _ | refine .tail _ ?_) (by rfl) ?_)
    have hi : inB click (-r.clicks) r.clicks = false := by
      cases h : inB click (-r.clicks) r.clicks
      · rfl
      · exact absurd (by unfold wErr; rw [hb, h]; rfl) hne
    refine ql_callv (val := .bool (inB click (-r.clicks) r.clicks)) tabOk rfl rfl rfl rfl (fun w hs => ?_) ?_; exact in_ca click (-r.clicks) r.clicks w
    rw [hi]
    ((iterate 2 refine ql_pure tabOk rfl rfl ?_); refine q_nil ?_; refine q_cond_true rfl ?_; refine q_seq ?_; refine q_region ?_)
    refine ql_mk #[.int .i64 0, .int .i64 0] rfl (by kernel_rfl) rfl ?_
    (refine ql_pure tabOk rfl rfl ?_; refine ql_setA tabOk rfl rfl rfl rfl rfl (by repeat constructor) rfl ?_; refine ql_pure tabOk rfl rfl ?_; refine q_nil ?_; refine q_ret ?_)
    refine q_fin tabOk rfl (by repeat (first | exact RVs.nil | apply RVs.tmp rfl | apply RVs.cellA rfl rfl (by repeat first | exact .head _ | refine .tail _ ?_) (by rfl) | apply RVs.cell1 rfl rfl (by repeat first | exact .head _ | refine .tail _ ?_))) fun w hs => ?_
    refine ⟨?_, hs.chg0⟩
    have e : wErr r ws click = 3 := by unfold wErr; rw [hb, hi]; rfl
    rw [e]
    rfl
  · refine ql_callv tabOk rfl rfl rfl rfl (fun w hs => blown_no w l0 h1 _ r _ ws (h0.keep hs.chg0) hsm (RdE.keep hl hs.chg0) hlen hb) ?_
    (refine ql_pure tabOk rfl rfl ?_; (iterate 2 refine ql_ext tabOk rfl rfl rfl ?_); (iterate 2 refine ql_pure tabOk rfl rfl ?_); refine q_nil ?_; refine q_seq ?_; refine q_block ?_; refine q_seq ?_; refine q_region ?_; (iterate 3 refine ql_pure tabOk rfl rfl ?_); refine q_nil ?_)
    rw [decide_eq_false hb]
    (refine q_cond_true rfl ?_; refine q_seq ?_; refine q_region ?_)
    refine ql_mk #[.int .i64 0, .int .i64 0] rfl (by kernel_rfl) rfl ?_
    ((iterate 2 refine ql_pure tabOk rfl rfl ?_); refine ql_setA tabOk rfl rfl rfl rfl rfl (by repeat constructor) rfl ?_; refine ql_pure tabOk rfl rfl ?_; refine q_nil ?_; refine q_ret ?_)
    refine q_fin tabOk rfl (by repeat (first | exact RVs.nil | apply RVs.tmp rfl | apply RVs.cellA rfl rfl (by repeat first | exact .head _ | refine .tail _ ?_) (by rfl) | apply RVs.cell1 rfl rfl (by repeat first | exact .head _ | refine .tail _ ?_))) fun w hs => ?_
    refine ⟨?_, hs.chg0⟩
    have e : wErr r ws click = blownV r ws := by unfold wErr; rw [if_pos hb]
    rw [e]
    rfl

set_option maxHeartbeats 1000000 in
theorem worstF_ok (w : World) (l0 h1 : Nat) (cs : List Value) (r : Rg) (v : Value) (ws : List (Int × Int)) (click : Int) (h : RgC w cs r) (hsm : r.Small) (hl : RdS w l0 h1 v ws) (hne : wErr r ws click = 0) :
    Ca Tryz.prog 10 [.agg cs.toArray, v, .int .i64 click] w fun v w' => ∃ x : Value, v = .tuple #[x, rtV (facedV r (worstL r ws click) click), .int .i64 0] ∧ Sat w M0 [.ow x 3 1 5 (ints (worstL r ws click))] w' := by
  have hb : blownV r ws = 0 := by
    cases Classical.em (blownV r ws = 0) with
    | inl h => exact h
    | inr h => exact absurd hne (by unfold wErr; rw [if_pos h]; exact h)
  have hin : inB click (-r.clicks) r.clicks = true := by
    cases h : inB click (-r.clicks) r.clicks
    · exact absurd hne (by unfold wErr; rw [hb, h]; simp)
    · rfl
  obtain ⟨hc0, hw⟩ := (blown_iff r ws).1 hb
  have hR := (right_check r).1 hc0
  have hcl := hR.clicks
  have hi' := inB_iff.1 hin
  have hw5 := hw.len
  have hwl := worstL_length r ws click
  have hwb := worstL_bd (r := r) hw click
  have h0 := h
  obtain ⟨lo, hi, ag, cg, ad, cd, af, cf, an, cn, rfl, hg, hdr, hf, hn⟩ := h
  obtain ⟨a, cap, rfl, hs⟩ := hl.outI
  refine q_of (Sat.nil w M0) Tryz.func10 rfl (by simp [Tryz.ntmps10]) ?_
  (refine q_seq ?_; refine q_region ?_)
  refine ql_box rfl rfl (fun b1 => ?_)
  (refine ql_pure tabOk rfl rfl ?_)
  refine ql_alloc zero36 rfl (fun b2 => ?_)
  (refine ql_pure tabOk rfl rfl ?_; refine q_nil ?_; refine q_seq ?_; refine q_region ?_; refine ql_loadAB tabOk rfl rfl rfl (by repeat first | exact .head _ | refine .tail _ ?_) (by rfl) (by rfl) ?_; refine ql_pure tabOk rfl rfl ?_)
  refine ql_call (β := Nat) tabOk [] _ M0 rfl rfl rfl rfl (Sp.refl _) (fun _ h => h.elim) (fun w' hs => blown_ok w' l0 h1 _ r _ ws (h0.keep hs.chg0) hsm (RdE.keep hl hs.chg0) hb) ?_
  rintro bd _ rfl
  (refine ql_pure tabOk rfl rfl ?_; (iterate 2 refine ql_ext tabOk rfl rfl rfl ?_); (iterate 2 refine ql_pure tabOk rfl rfl ?_); refine q_nil ?_; refine q_seq ?_; refine q_block ?_; refine q_seq ?_; refine q_region ?_; (iterate 3 refine ql_pure tabOk rfl rfl ?_); refine q_nil ?_; refine q_cond_false rfl ?_; refine q_seq ?_; refine q_region ?_; (iterate 2 refine ql_pure tabOk rfl rfl ?_); refine ql_loadB tabOk rfl rfl rfl (by repeat first | exact .head _ | refine .tail _ ?_) (by rfl) ?_; refine ql_neg tabOk rfl rfl (by omega) (by omega) ?_; refine ql_pure tabOk rfl rfl ?_; refine ql_loadB tabOk rfl rfl rfl (by repeat first | exact .head _ | refine .tail _ ?_) (by rfl) ?_)
  refine ql_callv (val := .bool (inB click (-r.clicks) r.clicks)) tabOk rfl rfl rfl rfl (fun w hs => ?_) ?_; exact in_ca click (-r.clicks) r.clicks w
  rw [hin]
  ((iterate 2 refine ql_pure tabOk rfl rfl ?_); refine q_nil ?_; refine q_cond_false rfl ?_; refine q_skip ?_; refine q_blk ?_; refine q_seq ?_; refine q_region ?_; (iterate 3 refine ql_pure tabOk rfl rfl ?_))
  refine ql_call (β := Nat) tabOk [] _ M0 rfl rfl rfl rfl (Sp.refl _) (fun _ h => h.elim) (fun w' hs => worst_ca w' bd l0 h1 r _ ws click ⟨_, _, hs.blk (by repeat first | exact .head _ | refine .tail _ ?_), h0.keep hs.chg0⟩ hR (RdE.keep hl hs.chg0) hw (by omega)) ?_
  rintro x _ rfl
  (refine ql_pure tabOk rfl rfl ?_; refine q_nil ?_; refine q_seq ?_; refine q_region ?_; refine ql_pure tabOk rfl rfl ?_)
  refine ql_call (β := Value) tabOk [] _ M0 rfl rfl rfl rfl (Sp.refl _) (fun _ h => h.elim) (fun w' hs => by
    have hbk : Blk w' x (ints (worstL r ws click)) 3 := hs.blk (by repeat first | exact .head _ | refine .tail _ ?_)
    have := sclone_ca w' x (x + 1) x 0 5 (worstL r ws click) (RdI.of (Blk.rd hbk (by simp) 5)) (by omega)
    rw [hwl, hw5] at this
    exact this) ?_
  rintro _ y rfl
  ((iterate 3 refine ql_pure tabOk rfl rfl ?_))
  refine ql_callv (val := rtV (facedV r (worstL r ws click) click)) tabOk rfl rfl rfl rfl (fun w hs => ?_) ?_; exact by have hbk : Blk w x (ints (worstL r ws click)) 3 := hs.blk (by repeat first | exact .head _ | refine .tail _ ?_); have := faced_ca w bd x (x + 1) r (.slice (some ⟨x, 0, none⟩) (worstL r ws click).length 5) (worstL r ws click) click ⟨_, _, hs.blk (by repeat first | exact .head _ | refine .tail _ ?_), h0.keep hs.chg0⟩ hR (RdI.of (Blk.rd hbk (by simp) 5)) (by omega) (fun y hy => by have := hwb y hy; omega) (by omega); rw [hwl, hw5] at this; exact this
  (refine ql_pure tabOk rfl rfl ?_; refine ql_setA tabOk rfl rfl rfl rfl rfl (by repeat constructor) rfl ?_; refine ql_pure tabOk rfl rfl ?_; refine q_nil ?_; refine q_ret ?_)
  refine q_fin tabOk rfl (by repeat (first | exact RVs.nil | apply RVs.tmp rfl | apply RVs.cellA rfl rfl (by repeat first | exact .head _ | refine .tail _ ?_) (by rfl) | apply RVs.cell1 rfl rfl (by repeat first | exact .head _ | refine .tail _ ?_))) fun w hs => ?_
  exact ⟨y, rfl, hs.sp (by repeat (first | exact Sp.nil | exact Sp.refl _ | refine Sp.cons (by repeat constructor) ?_))⟩

end Go.Proofs.YtohlillcaadidaaGreat

/- Walks: Robust, Against. -/
namespace Go.Proofs.YtohlillcaadidaaGreat
open Go Go.Eng

theorem facedV_fine (r : Rg) (hr : r.Right) (l : List Int) (click : Int) (hl : l.length ≤ 5) : Fine (facedV r l click) := by
  have h1 := facS_bd r hr l click l.length
  have h2 := hr.gsum
  exact ratioV_fine (by omega) (by omega)

/-- How bad a click is in the worst case. -/
def robQ (r : Rg) (ws : List (Int × Int)) (c : Int) : Int × Int := facedV r (worstL r ws c) c
theorem robQ_fine (r : Rg) (hr : r.Right) (ws : List (Int × Int)) (hw : WindOk ws) (c : Int) : Fine (robQ r ws c) := facedV_fine r hr _ c (by rw [worstL_length, hw.len]; omega)

set_option maxHeartbeats 1000000 in
theorem rob1_ca (w : World) (b7 b3 bd lo hi : Nat) (t7 t3 : TypeId) (r : Rg) (v : Value) (ws : List (Int × Int)) (c : Int) (hb7 : Blk w b7 [.pointer (some ⟨bd, 0, none⟩)] t7) (hb3 : Blk w b3 [v] t3) (hd : DkAt w bd r) (hr : r.Right) (hl : RdS w lo hi v ws) (hw : WindOk ws) (hc : -1000 ≤ c ∧ c ≤ 1000) :
    Ca Tryz.prog 50 [.int .i64 c, .pointer (some ⟨b7, 0, none⟩), .pointer (some ⟨b3, 0, none⟩)] w fun v w' => v = rtV (robQ r ws c) ∧ Chg [] w w' := by
  have hwl := worstL_length r ws c
  have hw5 := hw.len
  have hwb := worstL_bd (r := r) hw c
  obtain ⟨a, cap, rfl, hs⟩ := hl.outI
  refine q_of (Sat.nil w M0) Tryz.func50 rfl (by simp [Tryz.ntmps50]) ?_
  (refine q_seq ?_; refine q_region ?_)
  refine ql_alloc zero36 rfl (fun b4 => ?_)
  (refine q_nil ?_; refine q_seq ?_)
  refine q_draw _ [.pt b4 _ _] (Sp.cons (by repeat constructor) (Sp.refl _)) (by kernel_rfl) (by kernel_rfl) ?_
  ((iterate 3 refine qf_loadP tabOk rfl rfl rfl (by assumption) (by rfl) ?_); refine qf_pure tabOk rfl rfl rfl ?_)
  refine qf_call (β := Nat) tabOk [] _ M0 rfl rfl rfl rfl (Sp.refl _) (fun _ h => h.elim) (fun w' hs => worst_ca w' bd lo hi r _ ws c (hd.keep hs.chg0) hr (RdE.keep hl hs.chg0) hw hc) ?_
  rintro x _ rfl
  (refine qf_pure tabOk rfl rfl rfl ?_)
  refine qf_callv (val := rtV (robQ r ws c)) tabOk rfl rfl rfl rfl (fun w hs => ?_) ?_; exact by have hbk : Blk w x (ints (worstL r ws c)) 3 := hs.blk (by repeat first | exact .head _ | refine .tail _ ?_); have := faced_ca w bd x (x + 1) r (.slice (some ⟨x, 0, none⟩) (worstL r ws c).length 5) (worstL r ws c) c (hd.keep hs.chg0) hr (RdI.of (Blk.rd hbk (by simp) 5)) (by omega) (fun y hy => by have := hwb y hy; omega) hc; rw [hwl, hw5] at this; exact this
  (refine qf_setA tabOk rfl rfl rfl rfl rfl (by repeat constructor) rfl ?_; refine qf_nil ?_; refine q_ret ?_)
  refine q_fin tabOk rfl (by repeat (first | exact RVs.nil | apply RVs.tmp rfl | apply RVs.cellA rfl rfl (by repeat first | exact .head _ | refine .tail _ ?_) (by rfl) | apply RVs.cell1 rfl rfl (by repeat first | exact .head _ | refine .tail _ ?_))) fun w hs => ?_
  exact ⟨rfl, hs.chg0⟩

/-- The robust click, or the error. -/
def robV (r : Rg) (ws : List (Int × Int)) : Int × (Int × Int) × Int :=
  if blownV r ws ≠ 0 then (0, (0, 0), blownV r ws) else ((bestOf (robQ r ws) (clickL r.clicks 0)).1, (bestOf (robQ r ws) (clickL r.clicks 0)).2, 0)

set_option maxHeartbeats 1000000 in
theorem robF_ca (w : World) (l0 h1 : Nat) (cs : List Value) (r : Rg) (v : Value) (ws : List (Int × Int)) (h : RgC w cs r) (hsm : r.Small) (hl : RdS w l0 h1 v ws) (hlen : ws.length < 1000000) :
    Ca Tryz.prog 13 [.agg cs.toArray, v] w fun v w' => v = .tuple #[.int .i64 (robV r ws).1, rtV (robV r ws).2.1, .int .i64 (robV r ws).2.2] ∧ Chg [] w w' := by
  have h0 := h
  obtain ⟨lo, hi, ag, cg, ad, cd, af, cf, an, cn, rfl, hg, hdr, hf, hn⟩ := h
  obtain ⟨a, cap, rfl, hs⟩ := hl.outI
  refine q_of (Sat.nil w M0) Tryz.func13 rfl (by simp [Tryz.ntmps13]) ?_
  (refine q_seq ?_; refine q_region ?_)
  refine ql_box rfl rfl (fun b2 => ?_)
  skip
  refine ql_box rfl rfl (fun b3 => ?_)
  (refine ql_pure tabOk rfl rfl ?_)
  refine ql_alloc zero36 rfl (fun b5 => ?_)
  (refine ql_pure tabOk rfl rfl ?_; refine q_nil ?_; refine q_seq ?_; refine q_region ?_; refine ql_loadAB tabOk rfl rfl rfl (by repeat first | exact .head _ | refine .tail _ ?_) (by rfl) (by rfl) ?_; refine ql_loadB tabOk rfl rfl rfl (by repeat first | exact .head _ | refine .tail _ ?_) (by rfl) ?_)
  by_cases hb : blownV r ws = 0
  · obtain ⟨hc0, hw⟩ := (blown_iff r ws).1 hb
    have hR := (right_check r).1 hc0
    have hcl := hR.clicks
    refine ql_call (β := Nat) tabOk [] _ M0 rfl rfl rfl rfl (Sp.refl _) (fun _ h => h.elim) (fun w' hs => blown_ok w' l0 h1 _ r _ ws (h0.keep hs.chg0) hsm (RdE.keep hl hs.chg0) hb) ?_
    rintro bd _ rfl
    (refine ql_pure tabOk rfl rfl ?_; (iterate 2 refine ql_ext tabOk rfl rfl rfl ?_))
    refine ql_alloc zero84 rfl (fun b7 => ?_)
    (refine ql_set tabOk rfl rfl rfl rfl (by repeat constructor) ?_; refine ql_pure tabOk rfl rfl ?_; refine q_nil ?_; (iterate 2 refine q_seq ?_); refine q_region ?_; (iterate 2 refine ql_pure tabOk rfl rfl ?_); refine q_nil ?_; refine q_cond_false rfl ?_; refine q_skip ?_; refine q_seq ?_; refine q_region ?_; refine ql_loadB tabOk rfl rfl rfl (by repeat first | exact .head _ | refine .tail _ ?_) (by rfl) ?_; refine ql_pure tabOk rfl rfl ?_)
    refine ql_mk #[.func (.func 50) #[] #[.pointer (some ⟨b7, 0, none⟩), .pointer (some ⟨b3, 0, none⟩)]] rfl (by kernel_rfl) rfl ?_
    skip
    refine ql_callv (val := .tuple #[.int .i64 (bestOf (robQ r ws) (clickL r.clicks 0)).1, rtV (bestOf (robQ r ws) (clickL r.clicks 0)).2]) tabOk rfl rfl rfl rfl (fun w hs => ?_) ?_; exact best_ca w bd r _ (robQ r ws) ⟨_, _, hs.blk (by repeat first | exact .head _ | refine .tail _ ?_), h0.keep hs.chg0⟩ hcl rfl (fun c _ => robQ_fine r hR ws hw c) (fun w' hc' c hcin => CaF.of tabOk (by kernel_rfl) (rob1_ca w' b7 b3 bd l0 h1 _ _ r _ ws c ((hs.blk (b := b7) (by repeat first | exact .head _ | refine .tail _ ?_)).keep hc') ((hs.blk (b := b3) (by repeat first | exact .head _ | refine .tail _ ?_)).keep hc') (DkAt.keep ⟨_, _, hs.blk (b := bd) (by repeat first | exact .head _ | refine .tail _ ?_), h0.keep hs.chg0⟩ hc') hR (RdE.keep (RdE.keep hl hs.chg0) hc') hw (by have := inB_iff.1 hcin; omega)))
    (refine ql_pure tabOk rfl rfl ?_; (iterate 2 refine ql_ext tabOk rfl rfl rfl ?_))
    refine ql_alloc zero36 rfl (fun b10 => ?_)
    (refine ql_pure tabOk rfl rfl ?_; refine ql_setA tabOk rfl rfl rfl rfl rfl (by repeat constructor) rfl ?_; refine q_nil ?_; refine q_seq ?_)
    refine q_draw _ [.pt b5 _ _] (Sp.cons (by repeat constructor) (Sp.refl _)) (by kernel_rfl) (by kernel_rfl) ?_
    (refine qf_pure tabOk rfl rfl rfl ?_; refine qf_loadAB tabOk rfl rfl rfl (by repeat first | exact .head _ | refine .tail _ ?_) (by rfl) (by rfl) ?_; refine qf_pure tabOk rfl rfl rfl ?_; refine qf_setA tabOk rfl rfl rfl rfl rfl (by repeat constructor) rfl ?_; refine qf_pure tabOk rfl rfl rfl ?_; refine qf_nil ?_; refine q_ret ?_)
    refine q_fin tabOk rfl (by repeat (first | exact RVs.nil | apply RVs.tmp rfl | apply RVs.cellA rfl rfl (by repeat first | exact .head _ | refine .tail _ ?_) (by rfl) | apply RVs.cell1 rfl rfl (by repeat first | exact .head _ | refine .tail _ ?_))) fun w hs => ?_
    refine ⟨?_, hs.chg0⟩
    simp [retV, robV, hb, rtV]
  · refine ql_callv tabOk rfl rfl rfl rfl (fun w hs => blown_no w l0 h1 _ r _ ws (h0.keep hs.chg0) hsm (RdE.keep hl hs.chg0) hlen hb) ?_
    (refine ql_pure tabOk rfl rfl ?_; (iterate 2 refine ql_ext tabOk rfl rfl rfl ?_))
    refine ql_alloc zero84 rfl (fun b7 => ?_)
    (refine ql_set tabOk rfl rfl rfl rfl (by repeat constructor) ?_; refine ql_pure tabOk rfl rfl ?_; refine q_nil ?_; (iterate 2 refine q_seq ?_); refine q_region ?_; (iterate 2 refine ql_pure tabOk rfl rfl ?_); refine q_nil ?_)
    rw [decide_eq_false hb]
    (refine q_cond_true rfl ?_; refine q_seq ?_; refine q_region ?_)
    refine ql_mk #[.int .i64 0, .int .i64 0] rfl (by kernel_rfl) rfl ?_
    ((iterate 2 refine ql_pure tabOk rfl rfl ?_); refine ql_setA tabOk rfl rfl rfl rfl rfl (by repeat constructor) rfl ?_; refine ql_pure tabOk rfl rfl ?_; refine q_nil ?_; refine q_ret ?_)
    refine q_fin tabOk rfl (by repeat (first | exact RVs.nil | apply RVs.tmp rfl | apply RVs.cellA rfl rfl (by repeat first | exact .head _ | refine .tail _ ?_) (by rfl) | apply RVs.cell1 rfl rfl (by repeat first | exact .head _ | refine .tail _ ?_))) fun w hs => ?_
    exact ⟨by simp [retV, robV, hb, rtV], hs.chg0⟩

end Go.Proofs.YtohlillcaadidaaGreat

/- Walks: Against. -/
namespace Go.Proofs.YtohlillcaadidaaGreat
open Go Go.Eng

theorem slII : SlT Tryz.prog 23 22 1 24 (.slice none 0 0) := ⟨by kernel_rfl, by kernel_rfl, by kernel_rfl, by decide⟩
/-- Lists, each in a block of its own. -/
def rowsK (xs : List (Nat × List Int)) : List Ck := xs.map fun p => .pt p.1 (ints p.2) 3
def rowsV (xs : List (Nat × List Int)) : List Value := xs.map fun p => .slice (some ⟨p.1, 0, none⟩) p.2.length p.2.length
theorem worstL5 {r : Rg} {ws : List (Int × Int)} (hw : WindOk ws) (c : Int) : (worstL r ws c).length = 5 := by rw [worstL_length, hw.len]

set_option maxHeartbeats 1000000 in
theorem against_no (w : World) (l0 h1 : Nat) (cs : List Value) (r : Rg) (v : Value) (ws : List (Int × Int)) (h : RgC w cs r) (hsm : r.Small) (hl : RdS w l0 h1 v ws) (hlen : ws.length < 1000000) (hb : blownV r ws ≠ 0) :
    Ca Tryz.prog 15 [.agg cs.toArray, v] w fun v w' => v = .tuple #[.slice none 0 0, .int .i64 (blownV r ws)] ∧ Chg [] w w' := by
  have h0 := h
  obtain ⟨lo, hi, ag, cg, ad, cd, af, cf, an, cn, rfl, hg, hdr, hf, hn⟩ := h
  obtain ⟨a, cap, rfl, hs⟩ := hl.outI
  refine q_of (Sat.nil w M0) Tryz.func15 rfl (by simp [Tryz.ntmps15]) ?_
  (refine q_seq ?_; refine q_region ?_)
  refine ql_box rfl rfl (fun b2 => ?_)
  ((iterate 2 refine ql_pure tabOk rfl rfl ?_); refine q_nil ?_; refine q_seq ?_; refine q_region ?_; refine ql_loadAB tabOk rfl rfl rfl (by repeat first | exact .head _ | refine .tail _ ?_) (by rfl) (by rfl) ?_; refine ql_pure tabOk rfl rfl ?_)
  refine ql_callv tabOk rfl rfl rfl rfl (fun w hs => blown_no w l0 h1 _ r _ ws (h0.keep hs.chg0) hsm (RdE.keep hl hs.chg0) hlen hb) ?_
  (refine ql_pure tabOk rfl rfl ?_; (iterate 2 refine ql_ext tabOk rfl rfl rfl ?_); (iterate 2 refine ql_pure tabOk rfl rfl ?_); refine q_nil ?_; (iterate 2 refine q_seq ?_); refine q_region ?_; (iterate 2 refine ql_pure tabOk rfl rfl ?_); refine q_nil ?_)
  rw [decide_eq_false hb]
  (refine q_cond_true rfl ?_; refine q_seq ?_; refine q_region ?_; (iterate 3 refine ql_pure tabOk rfl rfl ?_); refine q_nil ?_; refine q_ret ?_)
  refine q_fin tabOk rfl (by repeat (first | exact RVs.nil | apply RVs.tmp rfl | apply RVs.cellA rfl rfl (by repeat first | exact .head _ | refine .tail _ ?_) (by rfl) | apply RVs.cell1 rfl rfl (by repeat first | exact .head _ | refine .tail _ ?_))) fun w hs => ?_
  exact ⟨rfl, hs.chg0⟩

set_option maxHeartbeats 1000000 in
theorem against_ok (w : World) (l0 h1 : Nat) (cs : List Value) (r : Rg) (v : Value) (ws : List (Int × Int)) (h : RgC w cs r) (hsm : r.Small) (hl : RdS w l0 h1 v ws) (hb : blownV r ws = 0) :
    Ca Tryz.prog 15 [.agg cs.toArray, v] w fun v w' => ∃ x : Value × List (Nat × List Int), (v = .tuple #[x.1, .int .i64 0] ∧ x.2.map (·.2) = (allC r.clicks).map (worstL r ws)) ∧ Sat w M0 [un (rowsK x.2), .ow x.1 22 1 (2 * r.clicks + 1).toNat (rowsV x.2)] w' := by
  obtain ⟨hc0, hw⟩ := (blown_iff r ws).1 hb
  have hR := (right_check r).1 hc0
  have hcl := hR.clicks
  have h0 := h
  obtain ⟨lo, hi, ag, cg, ad, cd, af, cf, an, cn, rfl, hg, hdr, hf, hn⟩ := h
  obtain ⟨a, cap, rfl, hs⟩ := hl.outI
  refine q_of (Sat.nil w M0) Tryz.func15 rfl (by simp [Tryz.ntmps15]) ?_
  (refine q_seq ?_; refine q_region ?_)
  refine ql_box rfl rfl (fun b2 => ?_)
  ((iterate 2 refine ql_pure tabOk rfl rfl ?_); refine q_nil ?_; refine q_seq ?_; refine q_region ?_; refine ql_loadAB tabOk rfl rfl rfl (by repeat first | exact .head _ | refine .tail _ ?_) (by rfl) (by rfl) ?_; refine ql_pure tabOk rfl rfl ?_)
  refine ql_call (β := Nat) tabOk [] _ M0 rfl rfl rfl rfl (Sp.refl _) (fun _ h => h.elim) (fun w' hs => blown_ok w' l0 h1 _ r _ ws (h0.keep hs.chg0) hsm (RdE.keep hl hs.chg0) hb) ?_
  rintro bd _ rfl
  (refine ql_pure tabOk rfl rfl ?_; (iterate 2 refine ql_ext tabOk rfl rfl rfl ?_); (iterate 2 refine ql_pure tabOk rfl rfl ?_); refine q_nil ?_; (iterate 2 refine q_seq ?_); refine q_region ?_; (iterate 2 refine ql_pure tabOk rfl rfl ?_); refine q_nil ?_; refine q_cond_false rfl ?_; refine q_skip ?_; refine q_seq ?_; refine q_region ?_; refine ql_pure tabOk rfl rfl ?_; refine q_nil ?_; (iterate 2 refine q_seq ?_); refine q_region ?_; refine ql_pure tabOk rfl rfl ?_; refine ql_loadB tabOk rfl rfl rfl (by repeat first | exact .head _ | refine .tail _ ?_) (by rfl) ?_; refine ql_neg tabOk rfl rfl (by omega) (by omega) ?_; refine ql_pure tabOk rfl rfl ?_; refine q_nil ?_; refine q_block ?_)
  obtain ⟨CS, hcs⟩ : ∃ CS : List Value, CS = [.int .i64 r.radius, .int .i64 r.unit, .int .i64 r.clicks, .int .i64 r.total, .slice ag r.group.length cg, .slice ad r.drifts.length cd, .slice af r.first.length cf, .slice an r.next.length cn] := ⟨_, rfl⟩
  rw [← hcs] at h0
  have hcs2 : CS[2]? = some (.int .i64 r.clicks) := by rw [hcs]; rfl
  refine q_conv (H' := [un (rowsK []), .ow (.slice none 0 0) 22 1 0 (rowsV []), .pt bd CS 141, .pt b2 CS 25]) (fun w' hs => by rw [hcs]; exact Sat.un_nil (Sat.ownil (hs.sp (by repeat (first | exact Sp.nil | exact Sp.refl _ | refine Sp.cons (by repeat constructor) ?_))) _ _)) ?_
  refine q_loop (σ := Nat × Value × List (Nat × List Int)) (fun s => s.1 ≤ (2 * r.clicks + 1).toNat ∧ s.2.2.map (·.2) = ((allC r.clicks).take s.1).map (worstL r ws)) (fun s => (2 * r.clicks + 1).toNat - s.1)
    (fun s => [(1, .slice a ws.length cap), (2, .pointer (some ⟨b2, 0, none⟩)), (6, .pointer (some ⟨bd, 0, none⟩)), (8, s.2.1), (9, .int .i64 (-r.clicks + s.1))])
    (fun s => [un (rowsK s.2.2), .ow s.2.1 22 1 s.1 (rowsV s.2.2), .pt bd CS 141, .pt b2 CS 25]) (0, .slice none 0 0, []) ⟨by omega, by simp⟩ ⟨rfl, rfl, rfl, rfl, lookI rfl (by simp), trivial⟩ (Sp.refl _) ?_
  rintro ⟨k, va, xs⟩ ⟨hk, hxs⟩ K hK
  simp only at hk hxs
  have hxl : xs.length = k := by
    have := congrArg List.length hxs
    simp [allC] at this
    omega
  ((iterate 2 refine q_seq ?_); refine q_region ?_; (iterate 2 refine ql_pure tabOk rfl rfl ?_))
  refine ql_loadB tabOk rfl rfl rfl (by repeat first | exact .head _ | refine .tail _ ?_) hcs2 ?_
  (refine ql_pure tabOk rfl rfl ?_; refine q_nil ?_)
  refine q_if rfl (fun hc => ?_) (fun hc => ?_)
  · have hk2 : k < (2 * r.clicks + 1).toNat := by simp only at hc; omega
    have hin : -r.clicks ≤ -r.clicks + (k : Int) ∧ -r.clicks + (k : Int) ≤ r.clicks := by omega
    have hw5 := worstL5 (r := r) hw (-r.clicks + (k : Int))
    (refine q_skip ?_; refine q_seq ?_; refine q_block ?_; refine q_region ?_; (iterate 4 refine ql_pure tabOk rfl rfl ?_))
    refine ql_call (β := Nat) tabOk [] _ M0 rfl rfl rfl rfl (Sp.refl _) (fun _ h => h.elim) (fun w' hs => worst_ca w' bd l0 h1 r _ ws (-r.clicks + (k : Int)) ⟨_, _, hs.blk (b := bd) (by repeat first | exact .head _ | refine .tail _ ?_), h0.keep hs.chg0⟩ hR (RdE.keep hl hs.chg0) hw (by omega)) ?_
    rintro x _ rfl
    skip
    refine ql_mkS 22 [.slice (some ⟨x, 0, none⟩) 5 5] rfl (by kernel_rfl) rfl (fun bn => ?_)
    skip
    refine ql_append (q := 1) slII rfl rfl rfl (fun v' => by repeat constructor) (fun w' hs => ⟨_, _, Blk.rd (hs.blk (b := bn) (by repeat first | exact .head _ | refine .tail _ ?_)) rfl 1⟩) (by simp [oneV]) (by omega) (by omega) (fun va' => ?_)
    (refine ql_pure tabOk rfl rfl ?_; refine q_nil ?_; refine q_blk ?_; refine q_region ?_; refine ql_pure tabOk rfl rfl ?_; refine ql_ar tabOk rfl rfl rfl rfl (by omega) (by omega) ?_; refine ql_pure tabOk rfl rfl ?_; refine q_nil ?_)
    have e1 : rowsV (xs ++ [(x, worstL r ws (-r.clicks + (k : Int)))]) = rowsV xs ++ [.slice (some ⟨x, 0, none⟩) 5 5] := by simp [rowsV, hw5]
    have e2 : rowsK (xs ++ [(x, worstL r ws (-r.clicks + (k : Int)))]) = rowsK xs ++ [.pt x (ints (worstL r ws (-r.clicks + (k : Int)))) 3] := by simp [rowsK]
    refine q_conv (H' := [un (rowsK (xs ++ [(x, worstL r ws (-r.clicks + (k : Int)))])), .ow va' 22 1 (k + 1) (rowsV (xs ++ [(x, worstL r ws (-r.clicks + (k : Int)))])), .pt bd CS 141, .pt b2 CS 25]) (fun w' hs => by
      rw [e1, e2]
      have h1 : Sat w M0 (.pt x (ints (worstL r ws (-r.clicks + (k : Int)))) 3 :: un (rowsK xs) :: [.ow va' 22 1 (k + 1) (rowsV xs ++ [.slice (some ⟨x, 0, none⟩) 5 5]), .pt bd CS 141, .pt b2 CS 25]) w' := hs.sp (by repeat (first | exact Sp.nil | exact Sp.refl _ | refine Sp.cons (by repeat constructor) ?_))
      exact h1.un_in.un_perm (List.perm_append_singleton _ _).symm) ?_
    refine hK (k + 1, va', xs ++ [(x, worstL r ws (-r.clicks + (k : Int)))]) _ _ ⟨by simp only; omega, ?_⟩ (by simp only; omega) ⟨rfl, rfl, rfl, rfl, lookI rfl (by simp only; omega), trivial⟩ (Sp.refl _)
    simp only [List.map_append, hxs]
    have e3 : (allC r.clicks).take (k + 1) = (allC r.clicks).take k ++ [-r.clicks + (k : Int)] := by
      rw [List.take_succ_eq_append_getElem (by simpa [allC] using hk2)]
      simp [allC]
      omega
    rw [e3]
    simp
  · have hk2 : k = (2 * r.clicks + 1).toNat := by simp only at hc; omega
    (refine q_exit _ rfl ?_; refine q_seq ?_; refine q_region ?_; (iterate 3 refine ql_pure tabOk rfl rfl ?_); refine q_nil ?_; refine q_ret ?_)
    refine q_fin tabOk rfl (by repeat (first | exact RVs.nil | apply RVs.tmp rfl | apply RVs.cellA rfl rfl (by repeat first | exact .head _ | refine .tail _ ?_) (by rfl) | apply RVs.cell1 rfl rfl (by repeat first | exact .head _ | refine .tail _ ?_))) fun w hs => ?_
    refine ⟨(va, xs), ⟨rfl, ?_⟩, ?_⟩
    · rw [hxs, hk2, List.take_of_length_le (by simp [allC])]
    · rw [← hk2]
      exact hs.sp (by repeat (first | exact Sp.nil | exact Sp.refl _ | refine Sp.cons (by repeat constructor) ?_))

end Go.Proofs.YtohlillcaadidaaGreat

/- Walks: Shows. -/
namespace Go.Proofs.YtohlillcaadidaaGreat
open Go Go.Eng

def shB (l : List Int) : Bool := decide ((l.length : Int) = 5) && true
theorem shows1_p (w : World) (lo hi : Nat) (ll : List (List Int)) : RowP w lo hi (.func (.func 53) #[] #[]) ll shB := by
  refine ⟨_, _, _, rfl, rfl, fun w' hw' l _ v hv => ?_⟩
  obtain ⟨a, c, rfl, _⟩ := RdI.outI hv
  refine q_of (Sat.nil w' M0) Tryz.func53 rfl (by simp [Tryz.ntmps53]) ?_
  (refine q_seq ?_; refine q_region ?_; refine ql_pure tabOk rfl rfl ?_; refine q_nil ?_; refine q_seq ?_; refine q_region ?_; (iterate 4 refine ql_pure tabOk rfl rfl ?_); refine q_nil ?_; refine q_ret ?_)
  refine q_fin tabOk rfl (by repeat (first | exact RVs.nil | apply RVs.tmp rfl | apply RVs.cellA rfl rfl (by repeat first | exact .head _ | refine .tail _ ?_) (by rfl) | apply RVs.cell1 rfl rfl (by repeat first | exact .head _ | refine .tail _ ?_))) fun w hs => ?_
  exact ⟨by simp [retV, shB], hs.chg0⟩

def witB (ws : List (Int × Int)) (l : List Int) : Bool := (List.range l.length).all (fun i => inB (l.getD i 0) (ws.getD i (0, 0)).1 (ws.getD i (0, 0)).2) && true
def shQ (r : Rg) (wl : List (List Int)) (c : Int) : Int × Int := facedV r (wl.getD (c + r.clicks).toNat []) c
def showsV (r : Rg) (ws : List (Int × Int)) (wl : List (List Int)) : (Int × Int) × Int :=
  if blownV r ws ≠ 0 then ((0, 0), blownV r ws) else if (wl.length : Int) ≠ 2 * r.clicks + 1 then ((0, 0), 2) else if !(wl.all shB) then ((0, 0), 2) else if !(wl.all (witB ws)) then ((0, 0), 8) else ((bestOf (shQ r wl) (clickL r.clicks 0)).2, 0)

set_option maxHeartbeats 1000000 in
theorem shows2_ca (w : World) (b8 b5 b3 bd lo hi : Nat) (t8 t5 t3 : TypeId) (cs : List Value) (r : Rg) (v : Value) (wl : List (List Int)) (c : Int) (hb8 : Blk w b8 [.pointer (some ⟨bd, 0, none⟩)] t8) (hb5 : Blk w b5 [v] t5) (hb3 : Blk w b3 cs t3) (hcs : cs[2]? = some (.int .i64 r.clicks)) (hd : DkAt w bd r) (hr : r.Right)
    (hl : RdII w lo hi v wl) (hwl : (wl.length : Int) = 2 * r.clicks + 1) (hw5 : ∀ l ∈ wl, l.length = 5 ∧ ∀ x ∈ l, -300 ≤ x ∧ x ≤ 300) (hc : -r.clicks ≤ c ∧ c ≤ r.clicks) :
    Ca Tryz.prog 54 [.int .i64 c, .pointer (some ⟨b8, 0, none⟩), .pointer (some ⟨b5, 0, none⟩), .pointer (some ⟨b3, 0, none⟩)] w fun v w' => v = rtV (shQ r wl c) ∧ Chg [] w w' := by
  have hcl := hr.clicks
  obtain ⟨a, cap, rfl, hs⟩ := hl.outI
  obtain ⟨b, off, rfl⟩ := hs (by omega)
  obtain ⟨i, hix⟩ : ∃ i : Nat, c + r.clicks = i := ⟨(c + r.clicks).toNat, by omega⟩
  have hil : i < wl.length := by omega
  obtain ⟨ar, cr, hrow, hcell⟩ := hl.row i hil
  obtain ⟨h5, hb⟩ := hw5 _ (List.getElem_mem hil)
  have hq : shQ r wl c = facedV r wl[i] c := by unfold shQ; rw [hix]; simp [hil]
  refine q_of (Sat.nil w M0) Tryz.func54 rfl (by simp [Tryz.ntmps54]) ?_
  (refine q_seq ?_; refine q_region ?_)
  refine ql_alloc zero36 rfl (fun b4 => ?_)
  (refine q_nil ?_; refine q_seq ?_)
  refine q_draw _ [.pt b4 _ _] (Sp.cons (by repeat constructor) (Sp.refl _)) (by kernel_rfl) (by kernel_rfl) ?_
  ((iterate 2 refine qf_loadP tabOk rfl rfl rfl (by assumption) (by rfl) ?_); (iterate 2 refine qf_pure tabOk rfl rfl rfl ?_))
  refine qf_loadP tabOk rfl rfl rfl hb3 hcs ?_
  (refine qf_ar tabOk rfl rfl rfl rfl (by omega) (by omega) ?_)
  rw [hix]
  refine qf_index tabOk rfl rfl rfl rfl rfl (by omega) (by omega) ?_
  refine qf_load1 (v := .slice ar wl[i].length cr) tabOk rfl rfl rfl (fun w' hs => hcell w' hs.chg0) ?_
  (refine qf_pure tabOk rfl rfl rfl ?_)
  refine qf_callv (val := rtV (shQ r wl c)) tabOk rfl rfl rfl rfl (fun w hs => ?_) ?_; exact by rw [hq]; exact faced_ca w bd lo hi r _ wl[i] c (hd.keep hs.chg0) hr (RdE.keep hrow hs.chg0) (by omega) (fun y hy => by have := hb y hy; omega) (by omega)
  (refine qf_setA tabOk rfl rfl rfl rfl rfl (by repeat constructor) rfl ?_; refine qf_nil ?_; refine q_ret ?_)
  refine q_fin tabOk rfl (by repeat (first | exact RVs.nil | apply RVs.tmp rfl | apply RVs.cellA rfl rfl (by repeat first | exact .head _ | refine .tail _ ?_) (by rfl) | apply RVs.cell1 rfl rfl (by repeat first | exact .head _ | refine .tail _ ?_))) fun w hs => ?_
  exact ⟨rfl, hs.chg0⟩

theorem witB_at {ws : List (Int × Int)} {l : List Int} (h : witB ws l = true) (i : Nat) (hi : i < l.length) : inB (l.getD i 0) (ws.getD i (0, 0)).1 (ws.getD i (0, 0)).2 = true := by
  simp only [witB, Bool.and_true] at h
  exact List.all_eq_true.1 h i (List.mem_range.2 hi)
theorem witB_of {ws : List (Int × Int)} {l : List Int} (h : ∀ i, i < l.length → inB (l.getD i 0) (ws.getD i (0, 0)).1 (ws.getD i (0, 0)).2 = true) : witB ws l = true := by
  simp only [witB, Bool.and_true]
  exact List.all_eq_true.2 (fun i hi => h i (List.mem_range.1 hi))

set_option maxHeartbeats 4000000 in
theorem showsF_ca (w : World) (l0 h1 l2 h2 : Nat) (cs : List Value) (r : Rg) (v u : Value) (ws : List (Int × Int)) (wl : List (List Int)) (h : RgC w cs r) (hsm : r.Small) (hl : RdS w l0 h1 v ws) (hlen : ws.length < 1000000) (hu : RdII w l2 h2 u wl) (hwlen : wl.length < 1000000) :
    Ca Tryz.prog 17 [.agg cs.toArray, v, u] w fun v w' => v = .tuple #[rtV (showsV r ws wl).1, .int .i64 (showsV r ws wl).2] ∧ Chg [] w w' := by
  have h0 := h
  obtain ⟨lo, hi, ag, cg, ad, cd, af, cf, an, cn, rfl, hg, hdr, hf, hn⟩ := h
  obtain ⟨a, cap, rfl, hs⟩ := hl.outI
  obtain ⟨au, capu, rfl, hsu⟩ := hu.outI
  refine q_of (Sat.nil w M0) Tryz.func17 rfl (by simp [Tryz.ntmps17]) ?_
  (refine q_seq ?_; refine q_region ?_)
  refine ql_box rfl rfl (fun b3 => ?_)
  skip
  refine ql_box rfl rfl (fun b5 => ?_)
  skip
  refine ql_alloc zero36 rfl (fun b6 => ?_)
  (refine ql_pure tabOk rfl rfl ?_; refine q_nil ?_; refine q_seq ?_; refine q_region ?_; refine ql_loadAB tabOk rfl rfl rfl (by repeat first | exact .head _ | refine .tail _ ?_) (by rfl) (by rfl) ?_; refine ql_pure tabOk rfl rfl ?_)
  by_cases hb : blownV r ws = 0
  · obtain ⟨hc0, hw⟩ := (blown_iff r ws).1 hb
    have hR := (right_check r).1 hc0
    have hcl := hR.clicks
    have hw5 := hw.len
    refine ql_call (β := Nat) tabOk [] _ M0 rfl rfl rfl rfl (Sp.refl _) (fun _ h => h.elim) (fun w' hs => blown_ok w' l0 h1 _ r _ ws (h0.keep hs.chg0) hsm (RdE.keep hl hs.chg0) hb) ?_
    rintro bd _ rfl
    (refine ql_pure tabOk rfl rfl ?_; (iterate 2 refine ql_ext tabOk rfl rfl rfl ?_))
    refine ql_alloc zero84 rfl (fun b8 => ?_)
    (refine ql_set tabOk rfl rfl rfl rfl (by repeat constructor) ?_; refine ql_pure tabOk rfl rfl ?_; refine q_nil ?_; refine q_seq ?_; refine q_block ?_; refine q_seq ?_; refine q_region ?_; (iterate 3 refine ql_pure tabOk rfl rfl ?_); refine q_nil ?_; refine q_cond_false rfl ?_; refine q_seq ?_; refine q_region ?_; refine ql_loadB tabOk rfl rfl rfl (by repeat first | exact .head _ | refine .tail _ ?_) (by rfl) ?_; (iterate 2 refine ql_pure tabOk rfl rfl ?_); refine ql_loadB tabOk rfl rfl rfl (by repeat first | exact .head _ | refine .tail _ ?_) (by rfl) ?_; (iterate 2 refine ql_ar tabOk rfl rfl rfl rfl (by omega) (by omega) ?_); (iterate 2 refine ql_pure tabOk rfl rfl ?_))
    by_cases hn1 : (wl.length : Int) = 2 * r.clicks + 1
    · rw [decide_eq_true hn1]
      (refine ql_gyes rfl ?_; refine ql_loadB tabOk rfl rfl rfl (by repeat first | exact .head _ | refine .tail _ ?_) (by rfl) ?_; refine ql_gyes rfl ?_)
      refine ql_callv (val := .bool (wl.all shB)) tabOk rfl rfl rfl rfl (fun w hs => ?_) ?_; exact allR w l2 h2 _ _ wl _ (hu.keep hs.chg0) hwlen (shows1_p w l2 h2 wl)
      (refine ql_gyes rfl ?_; (iterate 3 refine ql_pure tabOk rfl rfl ?_); refine q_nil ?_)
      cases hsh : wl.all shB with
      | false =>
        (refine q_cond_true rfl ?_; refine q_seq ?_; refine q_region ?_)
        refine ql_mk #[.int .i64 0, .int .i64 0] rfl (by kernel_rfl) rfl ?_
        (refine ql_setA tabOk rfl rfl rfl rfl rfl (by repeat constructor) rfl ?_; refine ql_pure tabOk rfl rfl ?_; refine q_nil ?_; refine q_ret ?_)
        refine q_fin tabOk rfl (by repeat (first | exact RVs.nil | apply RVs.tmp rfl | apply RVs.cellA rfl rfl (by repeat first | exact .head _ | refine .tail _ ?_) (by rfl) | apply RVs.cell1 rfl rfl (by repeat first | exact .head _ | refine .tail _ ?_))) fun w hs => ?_
        refine ⟨?_, hs.chg0⟩
        have e : showsV r ws wl = ((0, 0), 2) := by unfold showsV; rw [hb, hsh]; simp [hn1]
        rw [e]
        rfl
      | true =>
        have hl5 : ∀ l ∈ wl, l.length = 5 := fun l hl => by
          have := List.all_eq_true.1 hsh l hl
          simp [shB] at this
          omega
        (refine q_cond_false rfl ?_; refine q_skip ?_; refine q_blk ?_; (iterate 2 refine q_seq ?_); refine q_region ?_; refine ql_loadB tabOk rfl rfl rfl (by repeat first | exact .head _ | refine .tail _ ?_) (by rfl) ?_; (iterate 2 refine ql_pure tabOk rfl rfl ?_); refine q_nil ?_; refine q_block ?_)
        refine q_loop (σ := Nat) (fun k => k ≤ wl.length ∧ ∀ j (hj : j < wl.length), j < k → witB ws wl[j] = true) (fun k => wl.length - k)
          (fun k => [(1, .slice a ws.length cap), (3, .pointer (some ⟨b3, 0, none⟩)), (5, .pointer (some ⟨b5, 0, none⟩)), (6, .pointer (some ⟨b6, 0, none⟩)), (8, .pointer (some ⟨b8, 0, none⟩)), (41, .slice au wl.length capu), (42, .int .i64 wl.length), (43, .int .i64 k)])
          (fun k => [.pt b8 [.pointer (some ⟨bd, 0, none⟩)] 84, .pt bd [.int .i64 r.radius, .int .i64 r.unit, .int .i64 r.clicks, .int .i64 r.total, .slice ag r.group.length cg, .slice ad r.drifts.length cd, .slice af r.first.length cf, .slice an r.next.length cn] 141, .pt b6 [.int .i64 0, .int .i64 0] 36, .pt b5 [.slice au wl.length capu] 23, .pt b3 [.int .i64 r.radius, .int .i64 r.unit, .int .i64 r.clicks, .int .i64 r.total, .slice ag r.group.length cg, .slice ad r.drifts.length cd, .slice af r.first.length cf, .slice an r.next.length cn] 25])
          0 ⟨by omega, fun j _ h => by omega⟩ ⟨rfl, rfl, rfl, rfl, rfl, rfl, rfl, rfl, trivial⟩ (by repeat (first | exact Sp.nil | exact Sp.refl _ | refine Sp.cons (by repeat constructor) ?_)) ?_
        rintro k ⟨hk, hpre⟩ K hK
        (refine q_seq ?_; refine q_region ?_; refine ql_pure tabOk rfl rfl ?_; refine q_nil ?_; refine q_seq ?_)
        refine q_if rfl (fun hc => ?_) (fun hc => ?_)
        · have hk : k < wl.length := by omega
          obtain ⟨bu, ou, rfl⟩ := hsu (by omega)
          obtain ⟨ar, cr, hrow, hcell⟩ := hu.row k hk
          have hk5 := hl5 _ (List.getElem_mem hk)
          (refine q_skip ?_; refine q_seq ?_; refine q_block ?_; refine q_seq ?_; refine q_region ?_)
          refine ql_index tabOk rfl rfl rfl rfl rfl (by omega) (by omega) ?_
          refine ql_load1 (v := .slice ar wl[k].length cr) tabOk rfl rfl rfl (fun w' hs => hcell w' hs.chg0) ?_
          (refine ql_pure tabOk rfl rfl ?_; refine q_nil ?_; refine q_seq ?_; refine q_region ?_; (iterate 3 refine ql_pure tabOk rfl rfl ?_); refine q_nil ?_; refine q_block ?_)
          obtain ⟨bws, ows, hax⟩ := hs (show 0 < ws.length by omega)
          subst hax
          obtain ⟨a2, c2, hsl2, hsd2⟩ := RdI.outI hrow
          cases hsl2
          obtain ⟨br, orr, hax2⟩ := hsd2 (by omega)
          subst hax2
          refine q_loop (σ := Nat) (fun i => i ≤ wl[k].length ∧ ∀ j, j < i → inB (wl[k].getD j 0) (ws.getD j (0, 0)).1 (ws.getD j (0, 0)).2 = true) (fun i => wl[k].length - i)
            (fun i => [(1, .slice (some ⟨bws, ows, none⟩) ws.length cap), (3, .pointer (some ⟨b3, 0, none⟩)), (5, .pointer (some ⟨b5, 0, none⟩)), (6, .pointer (some ⟨b6, 0, none⟩)), (8, .pointer (some ⟨b8, 0, none⟩)), (41, .slice (some ⟨bu, ou, none⟩) wl.length capu), (42, .int .i64 wl.length), (43, .int .i64 k), (47, .slice (some ⟨br, orr, none⟩) wl[k].length cr), (48, .int .i64 wl[k].length), (49, .int .i64 i)])
            (fun i => [.pt b8 [.pointer (some ⟨bd, 0, none⟩)] 84, .pt bd [.int .i64 r.radius, .int .i64 r.unit, .int .i64 r.clicks, .int .i64 r.total, .slice ag r.group.length cg, .slice ad r.drifts.length cd, .slice af r.first.length cf, .slice an r.next.length cn] 141, .pt b6 [.int .i64 0, .int .i64 0] 36, .pt b5 [.slice (some ⟨bu, ou, none⟩) wl.length capu] 23, .pt b3 [.int .i64 r.radius, .int .i64 r.unit, .int .i64 r.clicks, .int .i64 r.total, .slice ag r.group.length cg, .slice ad r.drifts.length cd, .slice af r.first.length cf, .slice an r.next.length cn] 25])
            0 ⟨by omega, fun j h => by omega⟩ ⟨rfl, rfl, rfl, rfl, rfl, rfl, rfl, rfl, rfl, rfl, rfl, trivial⟩ (by repeat (first | exact Sp.nil | exact Sp.refl _ | refine Sp.cons (by repeat constructor) ?_)) ?_
          rintro i ⟨hi5, hpi⟩ K2 hK2
          (refine q_seq ?_; refine q_region ?_; refine ql_pure tabOk rfl rfl ?_; refine q_nil ?_; refine q_seq ?_)
          refine q_if rfl (fun hc => ?_) (fun hc => ?_)
          · have hi6 : i < wl[k].length := by omega
            have hi7 : i < ws.length := by omega
            (refine q_skip ?_; refine q_seq ?_; refine q_block ?_; refine q_seq ?_; refine q_region ?_; refine ql_pure tabOk rfl rfl ?_)
            (refine ql_index tabOk rfl rfl rfl rfl rfl (by omega) (by omega) ?_; refine ql_load1 tabOk rfl rfl rfl (fun w hs => RdI.at (RdE.keep hrow hs.chg0) i hi6) ?_)
            ((iterate 2 refine ql_pure tabOk rfl rfl ?_); refine q_nil ?_; refine q_seq ?_)
            refine q_draw _ [] (Sp.refl _) (by kernel_rfl) (by kernel_rfl) ?_
            ((iterate 3 refine qf_pure tabOk rfl rfl rfl ?_))
            refine qf_index tabOk rfl rfl rfl rfl rfl (by omega) (by omega) ?_
            (refine qf_pure tabOk rfl rfl rfl ?_)
            refine qf_load1 tabOk rfl rfl rfl (fun w hs => RdS.at0 (RdE.keep hl hs.chg0) i hi7) ?_
            ((iterate 2 refine qf_pure tabOk rfl rfl rfl ?_))
            refine qf_index tabOk rfl rfl rfl rfl rfl (by omega) (by omega) ?_
            (refine qf_pure tabOk rfl rfl rfl ?_)
            refine qf_load1 tabOk rfl rfl rfl (fun w hs => RdS.at1 (RdE.keep hl hs.chg0) i hi7) ?_
            skip
            have e1 : wl[k].getD i 0 = wl[k][i] := by simp [hi6]
            have e2 : ws.getD i (0, 0) = ws[i] := by simp [hi7]
            refine qf_callv (val := .bool (inB wl[k][i] ws[i].1 ws[i].2)) tabOk rfl rfl rfl rfl (fun w hs => ?_) ?_; exact in_ca _ _ _ w
            cases hin : inB wl[k][i] ws[i].1 ws[i].2 with
            | true =>
              (refine qf_pure tabOk rfl rfl rfl ?_; refine qf_nil ?_; refine q_cond_false rfl ?_; refine q_skip ?_; refine q_blk ?_; refine q_region ?_; refine ql_ar tabOk rfl rfl rfl rfl (by omega) (by omega) ?_; refine ql_pure tabOk rfl rfl ?_; refine q_nil ?_)
              refine hK2 (i + 1) _ _ ⟨by omega, fun j hj => ?_⟩ (by omega) ⟨rfl, rfl, rfl, rfl, rfl, rfl, rfl, rfl, rfl, rfl, rfl, trivial⟩ (by repeat (first | exact Sp.nil | exact Sp.refl _ | refine Sp.cons (by repeat constructor) ?_))
              by_cases hji : j < i
              · exact hpi j hji
              · obtain rfl : j = i := by omega
                rw [e1, e2]; exact hin
            | false =>
              (refine qf_pure tabOk rfl rfl rfl ?_; refine qf_nil ?_; refine q_cond_true rfl ?_; refine q_seq ?_; refine q_region ?_)
              refine ql_mk #[.int .i64 0, .int .i64 0] rfl (by kernel_rfl) rfl ?_
              (refine ql_setA tabOk rfl rfl rfl rfl rfl (by repeat constructor) rfl ?_; refine ql_pure tabOk rfl rfl ?_; refine q_nil ?_; refine q_ret ?_)
              refine q_fin tabOk rfl (by repeat (first | exact RVs.nil | apply RVs.tmp rfl | apply RVs.cellA rfl rfl (by repeat first | exact .head _ | refine .tail _ ?_) (by rfl) | apply RVs.cell1 rfl rfl (by repeat first | exact .head _ | refine .tail _ ?_))) fun w hs => ?_
              refine ⟨?_, hs.chg0⟩
              have hall : wl.all (witB ws) = false := by
                cases h : wl.all (witB ws)
                · rfl
                · have := witB_at (List.all_eq_true.1 h _ (List.getElem_mem hk)) i hi6
                  rw [e1, e2, hin] at this
                  cases this
              have e : showsV r ws wl = ((0, 0), 8) := by unfold showsV; rw [hb, hsh, hall]; simp [hn1]
              rw [e]
              rfl
          · have hi8 : i = wl[k].length := by omega
            (refine q_exit _ rfl ?_; refine q_blk ?_; refine q_region ?_; refine ql_ar tabOk rfl rfl rfl rfl (by omega) (by omega) ?_; refine ql_pure tabOk rfl rfl ?_; refine q_nil ?_)
            refine hK (k + 1) _ _ ⟨by omega, fun j hj hjk => ?_⟩ (by omega) ⟨rfl, rfl, rfl, rfl, rfl, rfl, rfl, rfl, trivial⟩ (by repeat (first | exact Sp.nil | exact Sp.refl _ | refine Sp.cons (by repeat constructor) ?_))
            by_cases hj2 : j < k
            · exact hpre j hj hj2
            · obtain rfl : j = k := by omega
              exact witB_of (fun i hi => hpi i (by omega))
        · have hk2 : k = wl.length := by omega
          have hall : wl.all (witB ws) = true := List.all_eq_true.2 (fun l hl => by
            obtain ⟨j, hj, rfl⟩ := List.getElem_of_mem hl
            exact hpre j hj (by omega))
          have hwb : ∀ l ∈ wl, l.length = 5 ∧ ∀ x ∈ l, -300 ≤ x ∧ x ≤ 300 := fun l hl => by
            refine ⟨hl5 l hl, fun x hx => ?_⟩
            obtain ⟨i, hi, rfl⟩ := List.getElem_of_mem hx
            have h1 := inB_iff.1 (witB_at (List.all_eq_true.1 hall l hl) i hi)
            have h5 := hl5 l hl
            have hi7 : i < ws.length := by omega
            have h2 := hw.sp _ (List.getElem_mem hi7)
            simp only [List.getD_eq_getElem?_getD, List.getElem?_eq_getElem hi, List.getElem?_eq_getElem hi7, Option.getD_some] at h1
            omega
          (refine q_exit _ rfl ?_; refine q_seq ?_; refine q_region ?_; refine ql_loadB tabOk rfl rfl rfl (by repeat first | exact .head _ | refine .tail _ ?_) (by rfl) ?_; refine ql_pure tabOk rfl rfl ?_)
          refine ql_mk #[.func (.func 54) #[] #[.pointer (some ⟨b8, 0, none⟩), .pointer (some ⟨b5, 0, none⟩), .pointer (some ⟨b3, 0, none⟩)]] rfl (by kernel_rfl) rfl ?_
          skip
          refine ql_callv (val := .tuple #[.int .i64 (bestOf (shQ r wl) (clickL r.clicks 0)).1, rtV (bestOf (shQ r wl) (clickL r.clicks 0)).2]) tabOk rfl rfl rfl rfl (fun w hs => ?_) ?_; exact best_ca w bd r _ (shQ r wl) ⟨_, _, hs.blk (b := bd) (by repeat first | exact .head _ | refine .tail _ ?_), h0.keep hs.chg0⟩ hcl rfl (fun c hcin => facedV_fine r hR _ c (by have h3 := inB_iff.1 hcin; have h4 : (c + r.clicks).toNat < wl.length := (by omega); have := hl5 _ (List.getElem_mem h4); simp only [List.getD_eq_getElem?_getD, List.getElem?_eq_getElem h4, Option.getD_some]; omega)) (fun w' hc' c hcin => CaF.of tabOk (by kernel_rfl) (shows2_ca w' b8 b5 b3 bd l2 h2 _ _ _ _ r _ wl c ((hs.blk (b := b8) (by repeat first | exact .head _ | refine .tail _ ?_)).keep hc') ((hs.blk (b := b5) (by repeat first | exact .head _ | refine .tail _ ?_)).keep hc') ((hs.blk (b := b3) (by repeat first | exact .head _ | refine .tail _ ?_)).keep hc') rfl (DkAt.keep ⟨_, _, hs.blk (b := bd) (by repeat first | exact .head _ | refine .tail _ ?_), h0.keep hs.chg0⟩ hc') hR (RdII.keep (RdII.keep hu hs.chg0) hc') hn1 hwb (inB_iff.1 hcin)))
          (refine ql_pure tabOk rfl rfl ?_; (iterate 2 refine ql_ext tabOk rfl rfl rfl ?_))
          refine ql_alloc zero36 rfl (fun b15 => ?_)
          (refine ql_pure tabOk rfl rfl ?_; refine ql_setA tabOk rfl rfl rfl rfl rfl (by repeat constructor) rfl ?_; refine q_nil ?_; refine q_seq ?_; refine q_region ?_; refine ql_loadAB tabOk rfl rfl rfl (by repeat first | exact .head _ | refine .tail _ ?_) (by rfl) (by rfl) ?_; refine ql_setA tabOk rfl rfl rfl rfl rfl (by repeat constructor) rfl ?_; refine ql_pure tabOk rfl rfl ?_; refine q_nil ?_; refine q_ret ?_)
          refine q_fin tabOk rfl (by repeat (first | exact RVs.nil | apply RVs.tmp rfl | apply RVs.cellA rfl rfl (by repeat first | exact .head _ | refine .tail _ ?_) (by rfl) | apply RVs.cell1 rfl rfl (by repeat first | exact .head _ | refine .tail _ ?_))) fun w hs => ?_
          refine ⟨?_, hs.chg0⟩
          have e : showsV r ws wl = ((bestOf (shQ r wl) (clickL r.clicks 0)).2, 0) := by unfold showsV; rw [hb, hsh, hall]; simp [hn1]
          rw [e]
          rfl
    · rw [decide_eq_false hn1]
      ((iterate 3 refine ql_gno rfl rfl rfl ?_); (iterate 2 refine ql_pure tabOk rfl rfl ?_); refine q_nil ?_; refine q_cond_true rfl ?_; refine q_seq ?_; refine q_region ?_)
      refine ql_mk #[.int .i64 0, .int .i64 0] rfl (by kernel_rfl) rfl ?_
      (refine ql_setA tabOk rfl rfl rfl rfl rfl (by repeat constructor) rfl ?_; refine ql_pure tabOk rfl rfl ?_; refine q_nil ?_; refine q_ret ?_)
      refine q_fin tabOk rfl (by repeat (first | exact RVs.nil | apply RVs.tmp rfl | apply RVs.cellA rfl rfl (by repeat first | exact .head _ | refine .tail _ ?_) (by rfl) | apply RVs.cell1 rfl rfl (by repeat first | exact .head _ | refine .tail _ ?_))) fun w hs => ?_
      refine ⟨?_, hs.chg0⟩
      have e : showsV r ws wl = ((0, 0), 2) := by unfold showsV; rw [hb]; simp [hn1]
      rw [e]
      rfl
  · refine ql_callv tabOk rfl rfl rfl rfl (fun w hs => blown_no w l0 h1 _ r _ ws (h0.keep hs.chg0) hsm (RdE.keep hl hs.chg0) hlen hb) ?_
    (refine ql_pure tabOk rfl rfl ?_; (iterate 2 refine ql_ext tabOk rfl rfl rfl ?_))
    refine ql_alloc zero84 rfl (fun b8 => ?_)
    (refine ql_set tabOk rfl rfl rfl rfl (by repeat constructor) ?_; refine ql_pure tabOk rfl rfl ?_; refine q_nil ?_; refine q_seq ?_; refine q_block ?_; refine q_seq ?_; refine q_region ?_; (iterate 3 refine ql_pure tabOk rfl rfl ?_); refine q_nil ?_)
    rw [decide_eq_false hb]
    (refine q_cond_true rfl ?_; refine q_seq ?_; refine q_region ?_)
    refine ql_mk #[.int .i64 0, .int .i64 0] rfl (by kernel_rfl) rfl ?_
    (refine ql_pure tabOk rfl rfl ?_; refine ql_setA tabOk rfl rfl rfl rfl rfl (by repeat constructor) rfl ?_; refine ql_pure tabOk rfl rfl ?_; refine q_nil ?_; refine q_ret ?_)
    refine q_fin tabOk rfl (by repeat (first | exact RVs.nil | apply RVs.tmp rfl | apply RVs.cellA rfl rfl (by repeat first | exact .head _ | refine .tail _ ?_) (by rfl) | apply RVs.cell1 rfl rfl (by repeat first | exact .head _ | refine .tail _ ?_))) fun w hs => ?_
    refine ⟨?_, hs.chg0⟩
    have e : showsV r ws wl = ((0, 0), blownV r ws) := by unfold showsV; rw [if_pos hb]
    rw [e]
    rfl

end Go.Proofs.YtohlillcaadidaaGreat

/- Walks: Drift, Zero. -/
namespace Go.Proofs.YtohlillcaadidaaGreat
open Go Go.Eng

theorem drift1_p (w : World) (l : List (Int × Int)) : PredAt Tryz.prog tab w (.func (.func 99) #[] #[]) (l.map rtV) (pSp 1000) := by
  refine ⟨_, _, _, rfl, rfl, fun w' hw' x hx => ?_⟩
  obtain ⟨⟨a, b⟩, hy, rfl⟩ := List.mem_map.1 hx
  refine q_of (Sat.nil w' M0) Tryz.func99 rfl (by simp [Tryz.ntmps99]) ?_
  (refine q_seq ?_; refine q_region ?_)
  refine ql_box rfl rfl (fun b1 => ?_)
  (refine ql_pure tabOk rfl rfl ?_; refine q_nil ?_; refine q_seq ?_; refine q_region ?_; refine ql_pure tabOk rfl rfl ?_; refine ql_loadB tabOk rfl rfl rfl (by repeat first | exact .head _ | refine .tail _ ?_) (by rfl) ?_; refine ql_pure tabOk rfl rfl ?_; refine ql_loadB tabOk rfl rfl rfl (by repeat first | exact .head _ | refine .tail _ ?_) (by rfl) ?_; (iterate 2 refine ql_pure tabOk rfl rfl ?_))
  refine ql_split rfl rfl (fun hc => ?_) (fun hc => ?_)
  · (refine ql_gyes rfl ?_; refine ql_pure tabOk rfl rfl ?_; refine ql_gyes rfl ?_; refine ql_loadB tabOk rfl rfl rfl (by repeat first | exact .head _ | refine .tail _ ?_) (by rfl) ?_; refine ql_gyes rfl ?_; (iterate 3 refine ql_pure tabOk rfl rfl ?_))
    refine ql_split rfl rfl (fun hc => ?_) (fun hc => ?_)
    · (refine ql_gyes rfl ?_; refine ql_pure tabOk rfl rfl ?_; refine ql_gyes rfl ?_; refine ql_loadB tabOk rfl rfl rfl (by repeat first | exact .head _ | refine .tail _ ?_) (by rfl) ?_; refine ql_gyes rfl ?_; (iterate 3 refine ql_pure tabOk rfl rfl ?_); refine q_nil ?_; refine q_ret ?_)
      refine q_fin tabOk rfl (by repeat (first | exact RVs.nil | apply RVs.tmp rfl | apply RVs.cellA rfl rfl (by repeat first | exact .head _ | refine .tail _ ?_) (by rfl) | apply RVs.cell1 rfl rfl (by repeat first | exact .head _ | refine .tail _ ?_))) fun w hs => ?_
      exact ⟨by simp at *; simp [retV, pSp, rtV, spB, *], hs.chg0⟩
    · ((iterate 3 refine ql_gno rfl rfl rfl ?_); (iterate 2 refine ql_pure tabOk rfl rfl ?_); refine q_nil ?_; refine q_ret ?_)
      refine q_fin tabOk rfl (by repeat (first | exact RVs.nil | apply RVs.tmp rfl | apply RVs.cellA rfl rfl (by repeat first | exact .head _ | refine .tail _ ?_) (by rfl) | apply RVs.cell1 rfl rfl (by repeat first | exact .head _ | refine .tail _ ?_))) fun w hs => ?_
      refine ⟨?_, hs.chg0⟩
      simp at hc
      simp [retV, pSp, rtV, spB]
      omega
  · ((iterate 3 refine ql_gno rfl rfl rfl ?_); (iterate 2 refine ql_pure tabOk rfl rfl ?_); (iterate 3 refine ql_gno rfl rfl rfl ?_); (iterate 2 refine ql_pure tabOk rfl rfl ?_); refine q_nil ?_; refine q_ret ?_)
    refine q_fin tabOk rfl (by repeat (first | exact RVs.nil | apply RVs.tmp rfl | apply RVs.cellA rfl rfl (by repeat first | exact .head _ | refine .tail _ ?_) (by rfl) | apply RVs.cell1 rfl rfl (by repeat first | exact .head _ | refine .tail _ ?_))) fun w hs => ?_
    refine ⟨?_, hs.chg0⟩
    simp at hc
    simp [retV, pSp, rtV, spB]
    omega
theorem drift2_p (w : World) (es : List Int) : PredAt Tryz.prog tab w (.func (.func 100) #[] #[]) (ints es) (pI 0 100) := by
  refine ⟨_, _, _, rfl, rfl, fun w' hw' x hx => ?_⟩
  obtain ⟨y, hy, rfl⟩ := List.mem_map.1 hx
  refine q_of (Sat.nil w' M0) Tryz.func100 rfl (by simp [Tryz.ntmps100]) ?_
  (refine q_seq ?_; refine q_region ?_; refine ql_pure tabOk rfl rfl ?_; refine q_nil ?_; refine q_seq ?_; refine q_region ?_; refine ql_pure tabOk rfl rfl ?_)
  refine ql_callv tabOk rfl rfl rfl rfl (fun w hs => in_ca y 0 100 w) ?_
  (refine ql_pure tabOk rfl rfl ?_; refine q_nil ?_; refine q_ret ?_)
  refine q_fin tabOk rfl (by repeat (first | exact RVs.nil | apply RVs.tmp rfl | apply RVs.cellA rfl rfl (by repeat first | exact .head _ | refine .tail _ ?_) (by rfl) | apply RVs.cell1 rfl rfl (by repeat first | exact .head _ | refine .tail _ ?_))) fun w hs => ?_
  exact ⟨rfl, hs.chg0⟩
theorem zero1_p (w : World) (es : List Int) : PredAt Tryz.prog tab w (.func (.func 88) #[] #[]) (ints es) (pI (-1000) 1000) := by
  refine ⟨_, _, _, rfl, rfl, fun w' hw' x hx => ?_⟩
  obtain ⟨y, hy, rfl⟩ := List.mem_map.1 hx
  refine q_of (Sat.nil w' M0) Tryz.func88 rfl (by simp [Tryz.ntmps88]) ?_
  (refine q_seq ?_; refine q_region ?_; refine ql_pure tabOk rfl rfl ?_; refine q_nil ?_; refine q_seq ?_; refine q_region ?_; refine ql_pure tabOk rfl rfl ?_)
  refine ql_callv tabOk rfl rfl rfl rfl (fun w hs => in_ca y (-1000) 1000 w) ?_
  (refine ql_pure tabOk rfl rfl ?_; refine q_nil ?_; refine q_ret ?_)
  refine q_fin tabOk rfl (by repeat (first | exact RVs.nil | apply RVs.tmp rfl | apply RVs.cellA rfl rfl (by repeat first | exact .head _ | refine .tail _ ?_) (by rfl) | apply RVs.cell1 rfl rfl (by repeat first | exact .head _ | refine .tail _ ?_))) fun w hs => ?_
  exact ⟨rfl, hs.chg0⟩

def drLo (fl : List (Int × Int)) (we : List Int) (n : Nat) : Int := sumR (fun i => we.getD i 0 * (fl.getD i (0, 0)).1) n
def drHi (fl : List (Int × Int)) (we : List Int) (n : Nat) : Int := sumR (fun i => we.getD i 0 * (fl.getD i (0, 0)).2) n
def driftV (fl : List (Int × Int)) (we : List Int) : (Int × Int) × Int :=
  if !(inB fl.length 1 6) then ((0, 0), 2) else if (we.length : Int) ≠ fl.length then ((0, 0), 2) else if !(fl.all (spB 1000)) then ((0, 0), 3) else if !(we.all (fun n => inB n 0 100)) then ((0, 0), 3) else ((drLo fl we fl.length, drHi fl we fl.length), 0)

set_option maxHeartbeats 4000000 in
theorem driftF_ca (w : World) (l0 h1 l2 h2 : Nat) (v u : Value) (fl : List (Int × Int)) (we : List Int) (hl : RdS w l0 h1 v fl) (hlen : fl.length < 1000000) (hu : RdI w l2 h2 u we) (hwlen : we.length < 1000000) :
    Ca Tryz.prog 36 [v, u] w fun v w' => v = .tuple #[rtV (driftV fl we).1, .int .i64 (driftV fl we).2] ∧ Chg [] w w' := by
  obtain ⟨a, cap, rfl, hs⟩ := RdS.outI hl
  obtain ⟨au, capu, rfl, hsu⟩ := RdI.outI hu
  refine q_of (Sat.nil w M0) Tryz.func36 rfl (by simp [Tryz.ntmps36]) ?_
  (refine q_seq ?_; refine q_region ?_)
  refine ql_alloc zero32 rfl (fun b4 => ?_)
  (refine ql_pure tabOk rfl rfl ?_; refine q_nil ?_; refine q_seq ?_; refine q_block ?_; refine q_seq ?_; refine q_region ?_; (iterate 2 refine ql_pure tabOk rfl rfl ?_))
  refine ql_callv (val := .bool (inB fl.length 1 6)) tabOk rfl rfl rfl rfl (fun w hs => ?_) ?_; exact in_ca _ _ _ w
  cases h1' : inB fl.length 1 6 with
  | false =>
    ((iterate 2 refine ql_pure tabOk rfl rfl ?_); (iterate 5 refine ql_gno rfl rfl rfl ?_); (iterate 2 refine ql_pure tabOk rfl rfl ?_); refine q_nil ?_; refine q_cond_true rfl ?_; refine q_seq ?_; refine q_region ?_)
    refine ql_mk #[.int .i64 0, .int .i64 0] rfl (by kernel_rfl) rfl ?_
    (refine ql_setA tabOk rfl rfl rfl rfl rfl (by repeat constructor) rfl ?_; refine ql_pure tabOk rfl rfl ?_; refine q_nil ?_; refine q_ret ?_)
    refine q_fin tabOk rfl (by repeat (first | exact RVs.nil | apply RVs.tmp rfl | apply RVs.cellA rfl rfl (by repeat first | exact .head _ | refine .tail _ ?_) (by rfl) | apply RVs.cell1 rfl rfl (by repeat first | exact .head _ | refine .tail _ ?_))) fun w hs => ?_
    refine ⟨?_, hs.chg0⟩
    have e : driftV fl we = ((0, 0), 2) := by unfold driftV; rw [h1']; simp
    rw [e]; rfl
  | true =>
    have hf6 := inB_iff.1 h1'
    by_cases h2' : (we.length : Int) = fl.length
    · ((iterate 2 refine ql_pure tabOk rfl rfl ?_); refine ql_gyes rfl ?_; refine ql_pure tabOk rfl rfl ?_; refine ql_gyes rfl ?_; refine ql_pure tabOk rfl rfl ?_; refine ql_gyes rfl ?_; refine ql_pure tabOk rfl rfl ?_; refine ql_gyes rfl ?_; refine ql_pure tabOk rfl rfl ?_; refine ql_gyes rfl ?_; (iterate 3 refine ql_pure tabOk rfl rfl ?_); refine q_nil ?_)
      rw [decide_eq_true h2']
      (refine q_cond_false rfl ?_; refine q_seq ?_; refine q_region ?_; refine ql_pure tabOk rfl rfl ?_)
      refine ql_callv (val := .bool (fl.all (spB 1000))) tabOk rfl rfl rfl rfl (fun w hs => ?_) ?_; exact by have := all_span w l0 h1 _ _ (fl.map rtV) (pSp 1000) (RdE.keep hl hs.chg0) (rtV_agg fl) (by simp; omega) (drift1_p w fl); rw [pSp_all] at this; exact this
      cases h3' : fl.all (spB 1000) with
      | false =>
        ((iterate 2 refine ql_pure tabOk rfl rfl ?_); (iterate 3 refine ql_gno rfl rfl rfl ?_); (iterate 2 refine ql_pure tabOk rfl rfl ?_); refine q_nil ?_; refine q_cond_true rfl ?_; refine q_seq ?_; refine q_region ?_)
        refine ql_mk #[.int .i64 0, .int .i64 0] rfl (by kernel_rfl) rfl ?_
        (refine ql_setA tabOk rfl rfl rfl rfl rfl (by repeat constructor) rfl ?_; refine ql_pure tabOk rfl rfl ?_; refine q_nil ?_; refine q_ret ?_)
        refine q_fin tabOk rfl (by repeat (first | exact RVs.nil | apply RVs.tmp rfl | apply RVs.cellA rfl rfl (by repeat first | exact .head _ | refine .tail _ ?_) (by rfl) | apply RVs.cell1 rfl rfl (by repeat first | exact .head _ | refine .tail _ ?_))) fun w hs => ?_
        refine ⟨?_, hs.chg0⟩
        have e : driftV fl we = ((0, 0), 3) := by unfold driftV; rw [h1', h3']; simp [h2']
        rw [e]; rfl
      | true =>
        ((iterate 2 refine ql_pure tabOk rfl rfl ?_); refine ql_gyes rfl ?_; refine ql_pure tabOk rfl rfl ?_; refine ql_gyes rfl ?_)
        refine ql_callv (val := .bool (we.all (fun n => inB n 0 100))) tabOk rfl rfl rfl rfl (fun w hs => ?_) ?_; exact by have := all_int w l2 h2 _ _ (ints we) (pI 0 100) (RdE.keep hu hs.chg0) (ints_one _) (by simp; omega) (drift2_p w we); rw [pI_all] at this; exact this
        cases h4' : we.all (fun n => inB n 0 100) with
        | false =>
          (refine ql_gyes rfl ?_; (iterate 3 refine ql_pure tabOk rfl rfl ?_); refine q_nil ?_; refine q_cond_true rfl ?_; refine q_seq ?_; refine q_region ?_)
          refine ql_mk #[.int .i64 0, .int .i64 0] rfl (by kernel_rfl) rfl ?_
          (refine ql_setA tabOk rfl rfl rfl rfl rfl (by repeat constructor) rfl ?_; refine ql_pure tabOk rfl rfl ?_; refine q_nil ?_; refine q_ret ?_)
          refine q_fin tabOk rfl (by repeat (first | exact RVs.nil | apply RVs.tmp rfl | apply RVs.cellA rfl rfl (by repeat first | exact .head _ | refine .tail _ ?_) (by rfl) | apply RVs.cell1 rfl rfl (by repeat first | exact .head _ | refine .tail _ ?_))) fun w hs => ?_
          refine ⟨?_, hs.chg0⟩
          have e : driftV fl we = ((0, 0), 3) := by unfold driftV; rw [h1', h3', h4']; simp [h2']
          rw [e]; rfl
        | true =>
          have hfb : ∀ i (hi : i < fl.length), -1000 ≤ fl[i].1 ∧ fl[i].1 ≤ 1000 ∧ -1000 ≤ fl[i].2 ∧ fl[i].2 ≤ 1000 := fun i hi => by
            have := List.all_eq_true.1 h3' _ (List.getElem_mem hi)
            simp [spB] at this
            omega
          have hwb : ∀ i (hi : i < we.length), 0 ≤ we[i] ∧ we[i] ≤ 100 := fun i hi => inB_iff.1 (List.all_eq_true.1 h4' _ (List.getElem_mem hi))
          have hbd : ∀ n, n ≤ fl.length → -(100000 * (n : Int)) ≤ drLo fl we n ∧ drLo fl we n ≤ 100000 * n ∧ -(100000 * (n : Int)) ≤ drHi fl we n ∧ drHi fl we n ≤ 100000 * n := by
            intro n
            induction n with
            | zero => intro _; simp [drLo, drHi, sumR]
            | succ n ih =>
              intro hn
              have ih := ih (by omega)
              have hn1 : n < fl.length := by omega
              have hn2 : n < we.length := by omega
              have b1 := hfb n hn1
              have b2 := hwb n hn2
              have m1 := mul_bd (A := 100) (B := 1000) (show -100 ≤ we[n] ∧ we[n] ≤ 100 by omega) (show -1000 ≤ fl[n].1 ∧ fl[n].1 ≤ 1000 by omega)
              have m2 := mul_bd (A := 100) (B := 1000) (show -100 ≤ we[n] ∧ we[n] ≤ 100 by omega) (show -1000 ≤ fl[n].2 ∧ fl[n].2 ≤ 1000 by omega)
              have e1 : drLo fl we (n + 1) = drLo fl we n + we[n] * fl[n].1 := by simp [drLo, sumR, hn1, hn2]
              have e2 : drHi fl we (n + 1) = drHi fl we n + we[n] * fl[n].2 := by simp [drHi, sumR, hn1, hn2]
              omega
          obtain ⟨b, off, rfl⟩ := hs (by omega)
          obtain ⟨bu, ou, rfl⟩ := hsu (by omega)
          (refine ql_gyes rfl ?_; (iterate 3 refine ql_pure tabOk rfl rfl ?_); refine q_nil ?_; refine q_cond_false rfl ?_; refine q_skip ?_; refine q_blk ?_; refine q_seq ?_; refine q_region ?_)
          refine ql_alloc zero32 rfl (fun b6 => ?_)
          (refine q_nil ?_; (iterate 2 refine q_seq ?_); refine q_region ?_; (iterate 3 refine ql_pure tabOk rfl rfl ?_); refine q_nil ?_; refine q_block ?_)
          refine q_loop (σ := Nat) (fun k => k ≤ fl.length) (fun k => fl.length - k) (fun k => [(1, .slice (some ⟨bu, ou, none⟩) we.length capu), (4, .pointer (some ⟨b4, 0, none⟩)), (6, .pointer (some ⟨b6, 0, none⟩)), (32, .slice (some ⟨b, off, none⟩) fl.length cap), (33, .int .i64 fl.length), (34, .int .i64 k)])
            (fun k => [.pt b6 [.int .i64 (drLo fl we k), .int .i64 (drHi fl we k)] 32, .pt b4 [.int .i64 0, .int .i64 0] 32]) 0 (by omega) ⟨rfl, rfl, rfl, rfl, rfl, rfl, trivial⟩ (by repeat (first | exact Sp.nil | exact Sp.refl _ | refine Sp.cons (by repeat constructor) ?_)) ?_
          intro k hk K hK
          (refine q_seq ?_; refine q_region ?_; refine ql_pure tabOk rfl rfl ?_; refine q_nil ?_; refine q_seq ?_)
          refine q_if rfl (fun hc => ?_) (fun hc => ?_)
          · have hk : k < fl.length := by omega
            have hk2 : k < we.length := by omega
            have b1 := hfb k hk
            have b2 := hwb k hk2
            have b3 := hbd k (by omega)
            have m1 := mul_bd (A := 100) (B := 1000) (show -100 ≤ we[k] ∧ we[k] ≤ 100 by omega) (show -1000 ≤ fl[k].1 ∧ fl[k].1 ≤ 1000 by omega)
            have m2 := mul_bd (A := 100) (B := 1000) (show -100 ≤ we[k] ∧ we[k] ≤ 100 by omega) (show -1000 ≤ fl[k].2 ∧ fl[k].2 ≤ 1000 by omega)
            have e1 : drLo fl we (k + 1) = drLo fl we k + we[k] * fl[k].1 := by simp [drLo, sumR, hk, hk2]
            have e2 : drHi fl we (k + 1) = drHi fl we k + we[k] * fl[k].2 := by simp [drHi, sumR, hk, hk2]
            (refine q_skip ?_; refine q_seq ?_; refine q_block ?_; refine q_seq ?_; refine q_region ?_; refine ql_pure tabOk rfl rfl ?_)
            (refine ql_index tabOk rfl rfl rfl rfl rfl (by omega) (by omega) ?_; refine ql_loadA tabOk rfl rfl rfl rfl (fun w hs => RdS.at (RdE.keep hl hs.chg0) k hk) ?_)
            skip
            refine ql_alloc zero32 rfl (fun b8 => ?_)
            (refine ql_pure tabOk rfl rfl ?_; refine ql_setA tabOk rfl rfl rfl rfl rfl (by repeat constructor) rfl ?_; refine q_nil ?_; refine q_seq ?_)
            refine q_drawS 10 _ [.pt b6 _ _] (Sp.cons (by repeat constructor) (Sp.refl _)) (by kernel_rfl) (by kernel_rfl) (by kernel_rfl) fun K1 hK1 => ?_
            (refine qf_pure tabOk rfl rfl rfl ?_; refine qf_loadB tabOk rfl rfl rfl (by repeat first | exact .head _ | refine .tail _ ?_) (by rfl) ?_; (iterate 2 refine qf_pure tabOk rfl rfl rfl ?_))
            (refine qf_index tabOk rfl rfl rfl rfl rfl (by omega) (by omega) ?_; refine qf_load1 tabOk rfl rfl rfl (fun w hs => RdI.at (RdE.keep hu hs.chg0) k hk2) ?_)
            (refine qf_pure tabOk rfl rfl rfl ?_; refine qf_loadB tabOk rfl rfl rfl (by repeat first | exact .head _ | refine .tail _ ?_) (by rfl) ?_; (iterate 2 refine qf_ar tabOk rfl rfl rfl rfl (by omega) (by omega) ?_); refine qf_nil ?_)
            refine hK1 _ _ [.pt b6 _ _] (Sp.cons (by repeat constructor) ((by repeat (first | exact Sp.nil | exact Sp.refl _ | refine Sp.cons (by repeat constructor) ?_)))) ?_
            (refine qf_pure tabOk rfl rfl rfl ?_; refine qf_st0 tabOk rfl rfl rfl rfl (by repeat constructor) ?_; refine qf_nil ?_)
            refine q_drawS 10 _ [.pt b6 _ _] (Sp.cons (by repeat constructor) (Sp.refl _)) (by kernel_rfl) (by kernel_rfl) (by kernel_rfl) fun K1 hK1 => ?_
            (refine qf_pure tabOk rfl rfl rfl ?_; refine qf_loadB tabOk rfl rfl rfl (by repeat first | exact .head _ | refine .tail _ ?_) (by rfl) ?_; (iterate 2 refine qf_pure tabOk rfl rfl rfl ?_))
            (refine qf_index tabOk rfl rfl rfl rfl rfl (by omega) (by omega) ?_; refine qf_load1 tabOk rfl rfl rfl (fun w hs => RdI.at (RdE.keep hu hs.chg0) k hk2) ?_)
            (refine qf_pure tabOk rfl rfl rfl ?_; refine qf_loadB tabOk rfl rfl rfl (by repeat first | exact .head _ | refine .tail _ ?_) (by rfl) ?_; (iterate 2 refine qf_ar tabOk rfl rfl rfl rfl (by omega) (by omega) ?_); refine qf_nil ?_)
            refine hK1 _ _ [.pt b6 _ _] (Sp.cons (by repeat constructor) ((by repeat (first | exact Sp.nil | exact Sp.refl _ | refine Sp.cons (by repeat constructor) ?_)))) ?_
            (refine qf_pure tabOk rfl rfl rfl ?_; refine qf_st1 tabOk rfl rfl rfl rfl (by repeat constructor) ?_; refine qf_nil ?_; refine q_blk ?_; refine q_region ?_; refine ql_ar tabOk rfl rfl rfl rfl (by omega) (by omega) ?_; refine ql_pure tabOk rfl rfl ?_; refine q_nil ?_)
            exact hK (k + 1) _ _ (by omega) (by omega) ⟨rfl, rfl, rfl, rfl, rfl, rfl, trivial⟩ (by rw [e1, e2]; repeat (first | exact Sp.nil | exact Sp.refl _ | refine Sp.cons (by repeat constructor) ?_))
          · obtain rfl : k = fl.length := by omega
            (refine q_exit _ rfl ?_; refine q_seq ?_; refine q_region ?_; refine ql_loadAB tabOk rfl rfl rfl (by repeat first | exact .head _ | refine .tail _ ?_) (by rfl) (by rfl) ?_; refine ql_setA tabOk rfl rfl rfl rfl rfl (by repeat constructor) rfl ?_; refine ql_pure tabOk rfl rfl ?_; refine q_nil ?_; refine q_ret ?_)
            refine q_fin tabOk rfl (by repeat (first | exact RVs.nil | apply RVs.tmp rfl | apply RVs.cellA rfl rfl (by repeat first | exact .head _ | refine .tail _ ?_) (by rfl) | apply RVs.cell1 rfl rfl (by repeat first | exact .head _ | refine .tail _ ?_))) fun w hs => ?_
            refine ⟨?_, hs.chg0⟩
            have e : driftV fl we = ((drLo fl we fl.length, drHi fl we fl.length), 0) := by unfold driftV; rw [h1', h3', h4']; simp [h2']
            rw [e]; rfl
    · ((iterate 2 refine ql_pure tabOk rfl rfl ?_); refine ql_gyes rfl ?_; refine ql_pure tabOk rfl rfl ?_; refine ql_gyes rfl ?_; refine ql_pure tabOk rfl rfl ?_; refine ql_gyes rfl ?_; refine ql_pure tabOk rfl rfl ?_; refine ql_gyes rfl ?_; refine ql_pure tabOk rfl rfl ?_; refine ql_gyes rfl ?_; (iterate 3 refine ql_pure tabOk rfl rfl ?_); refine q_nil ?_)
      rw [decide_eq_false h2']
      (refine q_cond_true rfl ?_; refine q_seq ?_; refine q_region ?_)
      refine ql_mk #[.int .i64 0, .int .i64 0] rfl (by kernel_rfl) rfl ?_
      (refine ql_setA tabOk rfl rfl rfl rfl rfl (by repeat constructor) rfl ?_; refine ql_pure tabOk rfl rfl ?_; refine q_nil ?_; refine q_ret ?_)
      refine q_fin tabOk rfl (by repeat (first | exact RVs.nil | apply RVs.tmp rfl | apply RVs.cellA rfl rfl (by repeat first | exact .head _ | refine .tail _ ?_) (by rfl) | apply RVs.cell1 rfl rfl (by repeat first | exact .head _ | refine .tail _ ?_))) fun w hs => ?_
      refine ⟨?_, hs.chg0⟩
      have e : driftV fl we = ((0, 0), 2) := by unfold driftV; rw [h1']; simp [h2']
      rw [e]; rfl

/-! Zero -/
def zerN (r : Rg) (l : List Int) (c : Int) (n : Nat) : Int := sumR (fun i => if hitB r (l.getD i 0 + c * r.unit) then 0 else 1) n
def zerQ (r : Rg) (l : List Int) (c : Int) : Int × Int := ratioV (zerN r l c l.length) 1
theorem zerN_bd (r : Rg) (l : List Int) (c : Int) (n : Nat) : 0 ≤ zerN r l c n ∧ zerN r l c n ≤ 1 * n := sumR_bd _ 1 n (fun i _ => by split <;> omega)
def zeroV (r : Rg) (l : List Int) : Int × Int :=
  if checkV r ≠ 0 then (0, checkV r) else if 20 < (l.length : Int) then (0, 2) else if !(l.all (fun n => inB n (-1000) 1000)) then (0, 3) else ((bestOf (zerQ r l) (clickL r.clicks 0)).1, 0)

set_option maxHeartbeats 2000000 in
theorem zero2_ca (w : World) (b3 b6 bd lo hi : Nat) (t3 t6 : TypeId) (r : Rg) (v : Value) (l : List Int) (c : Int) (hb3 : Blk w b3 [v] t3) (hb6 : Blk w b6 [.pointer (some ⟨bd, 0, none⟩)] t6) (hd : DkAt w bd r) (hr : r.Right) (hl : RdI w lo hi v l) (hlen : l.length ≤ 20) (hbl : ∀ x ∈ l, -1000 ≤ x ∧ x ≤ 1000) (hcb : -1000 ≤ c ∧ c ≤ 1000) :
    Ca Tryz.prog 89 [.int .i64 c, .pointer (some ⟨b3, 0, none⟩), .pointer (some ⟨b6, 0, none⟩)] w fun v w' => v = rtV (zerQ r l c) ∧ Chg [] w w' := by
  have hd0 := hd
  obtain ⟨cs, bt, hblk, lo, hi, ag, cg, ad, cd, af, cf, an, cn, rfl, hg, hdr, hf, hn⟩ := hd
  have hun := hr.unit
  obtain ⟨a, cap, rfl, hs⟩ := RdI.outI hl
  refine q_of (Sat.nil w M0) Tryz.func89 rfl (by simp [Tryz.ntmps89]) ?_
  (refine q_seq ?_; refine q_region ?_)
  refine ql_alloc zero36 rfl (fun b4 => ?_)
  (refine q_nil ?_; refine q_seq ?_; refine q_region ?_; refine ql_pure tabOk rfl rfl ?_; refine q_nil ?_; (iterate 2 refine q_seq ?_); refine q_region ?_; refine ql_loadP tabOk rfl rfl rfl (by assumption) (by rfl) ?_; (iterate 2 refine ql_pure tabOk rfl rfl ?_); refine q_nil ?_; refine q_block ?_)
  refine q_loop (σ := Nat) (fun k => k ≤ l.length) (fun k => l.length - k) (fun k => [(0, .int .i64 c), (2, .pointer (some ⟨b6, 0, none⟩)), (4, .pointer (some ⟨b4, 0, none⟩)), (5, .int .i64 (zerN r l c k)), (8, .slice a l.length cap), (9, .int .i64 l.length), (10, .int .i64 k)])
    (fun _ => [.pt b4 [.int .i64 0, .int .i64 0] 36]) 0 (by omega) ⟨rfl, rfl, rfl, rfl, rfl, rfl, rfl, trivial⟩ (by repeat (first | exact Sp.nil | exact Sp.refl _ | refine Sp.cons (by repeat constructor) ?_)) ?_
  intro k hk K hK
  have hzb := zerN_bd r l c k
  (refine q_seq ?_; refine q_region ?_; refine ql_pure tabOk rfl rfl ?_; refine q_nil ?_; refine q_seq ?_)
  refine q_if rfl (fun hc => ?_) (fun hc => ?_)
  · have hk : k < l.length := by omega
    obtain ⟨b0, off, rfl⟩ := hs (by omega)
    have h1 := hbl _ (List.getElem_mem hk)
    have h2 := mul_bd (A := 1000) (B := 20) hcb (show -20 ≤ r.unit ∧ r.unit ≤ 20 by omega)
    have h3 : zerN r l c (k + 1) = zerN r l c k + (if hitB r (l[k] + c * r.unit) then 0 else 1) := by simp [zerN, sumR, hk]
    (refine q_skip ?_; refine q_seq ?_; refine q_block ?_; refine q_seq ?_; refine q_region ?_)
    (refine ql_index tabOk rfl rfl rfl rfl rfl (by omega) (by omega) ?_; refine ql_load1 tabOk rfl rfl rfl (fun w hs => RdI.at (RdE.keep hl hs.chg0) k hk) ?_)
    (refine ql_pure tabOk rfl rfl ?_; refine q_nil ?_; refine q_seq ?_)
    refine q_draw _ [] (Sp.refl _) (by kernel_rfl) (by kernel_rfl) ?_
    (refine qf_loadP tabOk rfl rfl rfl (by assumption) (by rfl) ?_; (iterate 2 refine qf_pure tabOk rfl rfl rfl ?_); refine qf_loadP tabOk rfl rfl rfl (by assumption) (by rfl) ?_; (iterate 3 refine qf_pure tabOk rfl rfl rfl ?_); refine qf_loadP tabOk rfl rfl rfl (by assumption) (by rfl) ?_; (iterate 2 refine qf_ar tabOk rfl rfl rfl rfl (by omega) (by omega) ?_))
    refine qf_callv (val := .bool (hitB r (l[k] + c * r.unit))) tabOk rfl rfl rfl rfl (fun w hs => ?_) ?_; exact hits_ca w bd r _ (hd0.keep hs.chg0) hr.radius
    cases hh : hitB r (l[k] + c * r.unit) with
    | true =>
      rw [hh] at h3
      (refine qf_pure tabOk rfl rfl rfl ?_; refine qf_nil ?_; refine q_cond_false rfl ?_; refine q_skip ?_; refine q_blk ?_; refine q_region ?_; refine ql_ar tabOk rfl rfl rfl rfl (by omega) (by omega) ?_; refine ql_pure tabOk rfl rfl ?_; refine q_nil ?_)
      exact hK (k + 1) _ _ (by omega) (by omega) ⟨rfl, rfl, rfl, lookI rfl (by rw [h3]; simp), rfl, rfl, rfl, trivial⟩ (by repeat (first | exact Sp.nil | exact Sp.refl _ | refine Sp.cons (by repeat constructor) ?_))
    | false =>
      rw [hh] at h3
      (refine qf_pure tabOk rfl rfl rfl ?_; refine qf_nil ?_; refine q_cond_true rfl ?_; refine q_region ?_; refine ql_pure tabOk rfl rfl ?_; refine ql_ar tabOk rfl rfl rfl rfl (by omega) (by omega) ?_; refine ql_pure tabOk rfl rfl ?_; refine q_nil ?_; refine q_blk ?_; refine q_region ?_; refine ql_ar tabOk rfl rfl rfl rfl (by omega) (by omega) ?_; refine ql_pure tabOk rfl rfl ?_; refine q_nil ?_)
      exact hK (k + 1) _ _ (by omega) (by omega) ⟨rfl, rfl, rfl, lookI rfl (by rw [h3]; simp), rfl, rfl, rfl, trivial⟩ (by repeat (first | exact Sp.nil | exact Sp.refl _ | refine Sp.cons (by repeat constructor) ?_))
  · obtain rfl : k = l.length := by omega
    (refine q_exit _ rfl ?_; refine q_seq ?_; refine q_region ?_; refine ql_pure tabOk rfl rfl ?_)
    refine ql_callv (val := rtV (zerQ r l c)) tabOk rfl rfl rfl rfl (fun w hs => ?_) ?_; exact ratio_ca _ 1 w (by omega) (by omega) (by omega) (by omega)
    (refine ql_setA tabOk rfl rfl rfl rfl rfl (by repeat constructor) rfl ?_; refine q_nil ?_; refine q_ret ?_)
    refine q_fin tabOk rfl (by repeat (first | exact RVs.nil | apply RVs.tmp rfl | apply RVs.cellA rfl rfl (by repeat first | exact .head _ | refine .tail _ ?_) (by rfl) | apply RVs.cell1 rfl rfl (by repeat first | exact .head _ | refine .tail _ ?_))) fun w hs => ?_
    exact ⟨rfl, hs.chg0⟩

set_option maxHeartbeats 2000000 in
theorem zeroF_ca (w : World) (l0 h1 : Nat) (cs : List Value) (r : Rg) (v : Value) (l : List Int) (h : RgC w cs r) (hsm : r.Small) (hl : RdI w l0 h1 v l) (hlen : l.length < 1000000) :
    Ca Tryz.prog 32 [.agg cs.toArray, v] w fun v w' => v = .tuple #[.int .i64 (zeroV r l).1, .int .i64 (zeroV r l).2] ∧ Chg [] w w' := by
  have h0 := h
  obtain ⟨lo, hi, ag, cg, ad, cd, af, cf, an, cn, rfl, hg, hdr, hf, hn⟩ := h
  obtain ⟨a, cap, rfl, hs⟩ := RdI.outI hl
  refine q_of (Sat.nil w M0) Tryz.func32 rfl (by simp [Tryz.ntmps32]) ?_
  (refine q_seq ?_; refine q_region ?_)
  refine ql_box rfl rfl (fun b2 => ?_)
  skip
  refine ql_box rfl rfl (fun b3 => ?_)
  ((iterate 2 refine ql_pure tabOk rfl rfl ?_); refine q_nil ?_; refine q_seq ?_; refine q_region ?_; refine ql_loadAB tabOk rfl rfl rfl (by repeat first | exact .head _ | refine .tail _ ?_) (by rfl) (by rfl) ?_)
  by_cases hr : checkV r = 0
  · have hR := (right_check r).1 hr
    have hcl := hR.clicks
    refine ql_call (β := Nat) tabOk [] _ M0 rfl rfl rfl rfl (Sp.refl _) (fun _ h => h.elim) (fun w' hs => opened_ok w' _ r (h0.keep hs.chg0) hsm hr) ?_
    rintro bd _ rfl
    (refine ql_pure tabOk rfl rfl ?_; (iterate 2 refine ql_ext tabOk rfl rfl rfl ?_))
    refine ql_alloc zero84 rfl (fun b6 => ?_)
    (refine ql_set tabOk rfl rfl rfl rfl (by repeat constructor) ?_; refine ql_pure tabOk rfl rfl ?_; refine q_nil ?_; refine q_seq ?_; refine q_block ?_; refine q_seq ?_; refine q_region ?_; (iterate 3 refine ql_pure tabOk rfl rfl ?_); refine q_nil ?_; refine q_cond_false rfl ?_; refine q_seq ?_; refine q_region ?_; refine ql_loadB tabOk rfl rfl rfl (by repeat first | exact .head _ | refine .tail _ ?_) (by rfl) ?_; (iterate 3 refine ql_pure tabOk rfl rfl ?_); refine q_nil ?_)
    by_cases h20 : 20 < (l.length : Int)
    · rw [decide_eq_true h20]
      (refine q_cond_true rfl ?_; refine q_seq ?_; refine q_region ?_; (iterate 2 refine ql_pure tabOk rfl rfl ?_); refine q_nil ?_; refine q_ret ?_)
      refine q_fin tabOk rfl (by repeat (first | exact RVs.nil | apply RVs.tmp rfl | apply RVs.cellA rfl rfl (by repeat first | exact .head _ | refine .tail _ ?_) (by rfl) | apply RVs.cell1 rfl rfl (by repeat first | exact .head _ | refine .tail _ ?_))) fun w hs => ?_
      refine ⟨?_, hs.chg0⟩
      have e : zeroV r l = (0, 2) := by unfold zeroV; rw [hr]; simp only [ne_eq, not_true_eq_false, if_false]; rw [if_pos h20]
      rw [e]; rfl
    · rw [decide_eq_false h20]
      (refine q_cond_false rfl ?_; refine q_seq ?_; refine q_region ?_; refine ql_loadB tabOk rfl rfl rfl (by repeat first | exact .head _ | refine .tail _ ?_) (by rfl) ?_)
      refine ql_callv (val := .bool (l.all (fun n => inB n (-1000) 1000))) tabOk rfl rfl rfl rfl (fun w hs => ?_) ?_; exact by have := all_int w l0 h1 _ _ (ints l) (pI (-1000) 1000) (RdE.keep hl hs.chg0) (ints_one _) (by simp; omega) (zero1_p w l); rw [pI_all] at this; exact this
      cases h4' : l.all (fun n => inB n (-1000) 1000) with
      | false =>
        ((iterate 2 refine ql_pure tabOk rfl rfl ?_); refine q_nil ?_; refine q_cond_true rfl ?_; refine q_seq ?_; refine q_region ?_; (iterate 2 refine ql_pure tabOk rfl rfl ?_); refine q_nil ?_; refine q_ret ?_)
        refine q_fin tabOk rfl (by repeat (first | exact RVs.nil | apply RVs.tmp rfl | apply RVs.cellA rfl rfl (by repeat first | exact .head _ | refine .tail _ ?_) (by rfl) | apply RVs.cell1 rfl rfl (by repeat first | exact .head _ | refine .tail _ ?_))) fun w hs => ?_
        refine ⟨?_, hs.chg0⟩
        have e : zeroV r l = (0, 3) := by unfold zeroV; rw [hr, h4']; simp only [ne_eq, not_true_eq_false, if_false]; rw [if_neg h20]; rfl
        rw [e]; rfl
      | true =>
        have hbl : ∀ x ∈ l, -1000 ≤ x ∧ x ≤ 1000 := fun x hx => inB_iff.1 (List.all_eq_true.1 h4' x hx)
        ((iterate 2 refine ql_pure tabOk rfl rfl ?_); refine q_nil ?_; refine q_cond_false rfl ?_; refine q_skip ?_; refine q_blk ?_; refine q_seq ?_; refine q_region ?_; refine ql_loadB tabOk rfl rfl rfl (by repeat first | exact .head _ | refine .tail _ ?_) (by rfl) ?_; refine ql_pure tabOk rfl rfl ?_)
        refine ql_mk #[.func (.func 89) #[] #[.pointer (some ⟨b3, 0, none⟩), .pointer (some ⟨b6, 0, none⟩)]] rfl (by kernel_rfl) rfl ?_
        skip
        refine ql_callv (val := .tuple #[.int .i64 (bestOf (zerQ r l) (clickL r.clicks 0)).1, rtV (bestOf (zerQ r l) (clickL r.clicks 0)).2]) tabOk rfl rfl rfl rfl (fun w hs => ?_) ?_; exact best_ca w bd r _ (zerQ r l) ⟨_, _, hs.blk (b := bd) (by repeat first | exact .head _ | refine .tail _ ?_), h0.keep hs.chg0⟩ hcl rfl (fun c hcin => ratioV_fine (by have := zerN_bd r l c l.length; omega) (by omega)) (fun w' hc' c hcin => CaF.of tabOk (by kernel_rfl) (zero2_ca w' b3 b6 bd l0 h1 _ _ r _ l c ((hs.blk (b := b3) (by repeat first | exact .head _ | refine .tail _ ?_)).keep hc') ((hs.blk (b := b6) (by repeat first | exact .head _ | refine .tail _ ?_)).keep hc') (DkAt.keep ⟨_, _, hs.blk (b := bd) (by repeat first | exact .head _ | refine .tail _ ?_), h0.keep hs.chg0⟩ hc') hR (RdE.keep (RdE.keep hl hs.chg0) hc') (by omega) hbl (by have := inB_iff.1 hcin; omega)))
        (refine ql_pure tabOk rfl rfl ?_; (iterate 2 refine ql_ext tabOk rfl rfl rfl ?_))
        refine ql_alloc zero36 rfl (fun b9 => ?_)
        (refine ql_pure tabOk rfl rfl ?_; refine ql_setA tabOk rfl rfl rfl rfl rfl (by repeat constructor) rfl ?_; refine q_nil ?_; refine q_seq ?_; refine q_region ?_; (iterate 3 refine ql_pure tabOk rfl rfl ?_); refine q_nil ?_; refine q_ret ?_)
        refine q_fin tabOk rfl (by repeat (first | exact RVs.nil | apply RVs.tmp rfl | apply RVs.cellA rfl rfl (by repeat first | exact .head _ | refine .tail _ ?_) (by rfl) | apply RVs.cell1 rfl rfl (by repeat first | exact .head _ | refine .tail _ ?_))) fun w hs => ?_
        refine ⟨?_, hs.chg0⟩
        have e : zeroV r l = ((bestOf (zerQ r l) (clickL r.clicks 0)).1, 0) := by unfold zeroV; rw [hr, h4']; simp only [ne_eq, not_true_eq_false, if_false]; rw [if_neg h20]; rfl
        rw [e]; rfl
  · refine ql_callv tabOk rfl rfl rfl rfl (fun w hs => opened_no w _ r (h0.keep hs.chg0) hsm hr) ?_
    (refine ql_pure tabOk rfl rfl ?_; (iterate 2 refine ql_ext tabOk rfl rfl rfl ?_))
    refine ql_alloc zero84 rfl (fun b6 => ?_)
    (refine ql_set tabOk rfl rfl rfl rfl (by repeat constructor) ?_; refine ql_pure tabOk rfl rfl ?_; refine q_nil ?_; refine q_seq ?_; refine q_block ?_; refine q_seq ?_; refine q_region ?_; (iterate 3 refine ql_pure tabOk rfl rfl ?_); refine q_nil ?_)
    rw [decide_eq_false hr]
    (refine q_cond_true rfl ?_; refine q_seq ?_; refine q_region ?_; (iterate 3 refine ql_pure tabOk rfl rfl ?_); refine q_nil ?_; refine q_ret ?_)
    refine q_fin tabOk rfl (by repeat (first | exact RVs.nil | apply RVs.tmp rfl | apply RVs.cellA rfl rfl (by repeat first | exact .head _ | refine .tail _ ?_) (by rfl) | apply RVs.cell1 rfl rfl (by repeat first | exact .head _ | refine .tail _ ?_))) fun w hs => ?_
    refine ⟨?_, hs.chg0⟩
    have e : zeroV r l = (0, checkV r) := by unfold zeroV; rw [if_pos hr]
    rw [e]; rfl

end Go.Proofs.YtohlillcaadidaaGreat

/- The engine, part B9: maps that were there before. -/
namespace Go.Eng
open Go Go.RowKit

section
variable {P : Program} {T : Tab}
variable {ro : Cx} {n : Nat} {F : Fin} {w0 : World} {M : Nat → Prop} {k : List It} {ops : Array Oper} {rest : List Oper} {e : Env} {H Hq : List Ck}
variable {K : Value → Prop} {q : Value → Value → Bool} {kt et mt : TypeId}

theorem MapAt.keep {w w' : World} {b : Nat} {f : Value → Option Value} (h : MapAt w b K q f) (c : Chg [] w w') : MapAt w' b K q f := by
  obtain ⟨es, clock, h1, h2⟩ := h
  exact ⟨es, clock, (c.block b (Array.getElem?_eq_some_iff.1 h1).1 (by simp)).trans h1, h2⟩
theorem MapAt.congr {w : World} {b : Nat} {f g : Value → Option Value} (h : MapAt w b K q f) (he : ∀ k, K k → f k = g k) : MapAt w b K q g := by
  obtain ⟨es, clock, h1, h2, h3⟩ := h
  exact ⟨es, clock, h1, h2, fun k hk => (h3 k hk).trans (he k hk)⟩
theorem qf_lookP {d b : Nat} {x ix : Operand} {f : Value → Option Value} {key z v : Value} {ty : TypeId} {pos : String} {af : Array Edge} (hK : KeyT P kt K q) (ht : P.underlying mt = some (.map kt et)) (hz : ZeroOf P et z)
    (hx : opv e x = some (.map (some b))) (hi : opv e ix = some key) (hd : Nat.blt d n = true) (hm : MapAt w0 b K q f) (hk : K key) (hv : (f key).getD z = v)
    (h : QF P ro n F w0 M0 k ops Hq rest ((d, v) :: e) H) : QF P ro n F w0 M0 k ops Hq (⟨some d, .lookup mt x ix false, ty, pos, af, none⟩ :: rest) e H := .mk fun w hw =>
  yf_quiet rfl hd (fun a hf w' hs => by
    simp only [execOp, hf.op hx, hf.op hi]
    simp [run_mapLook hK ht (zero_run hz w') (hm.keep hs.chg0) hk, hv]) (h.h w hw)
theorem qf_look2 {d b : Nat} {x ix : Operand} {f : Value → Option Value} {key v z : Value} {o : Bool} {ty : TypeId} {pos : String} {af : Array Edge} (hK : KeyT P kt K q) (ht : P.underlying mt = some (.map kt et)) (hz : ZeroOf P et z)
    (hx : opv e x = some (.map (some b))) (hi : opv e ix = some key) (hd : Nat.blt d n = true) (hm : mpP K q b f ∈ Hq) (hk : K key) (hv : (f key).getD z = v) (ho : (f key).isSome = o)
    (h : QF P ro n F w0 M k ops Hq rest ((d, .tuple #[v, .bool o]) :: e) H) : QF P ro n F w0 M k ops Hq (⟨some d, .lookup mt x ix true, ty, pos, af, none⟩ :: rest) e H := .mk fun w hw =>
  yf_quiet rfl hd (fun a hf w' hs => by
    simp only [execOp, hf.op hx, hf.op hi]
    simp [run_mapLook hK ht (zero_run hz w') (hs.mem hm) hk, hv, ho]) (h.h w hw)
theorem Sat.turn {w : World} {c c' : Ck} {R : List Ck} (h : Sat w0 M (c :: R) w) (hD : ∀ b, c'.D b → c.D b) (hp : c.p w → c'.p w) : Sat w0 M (c' :: R) w :=
  h.rep .z (Chg.refl [] w) (by simp) (hp (h.all _ List.mem_cons_self)) (fun b hb => ⟨.inl (hD b hb), (h.bd _ List.mem_cons_self b (hD b hb)).1⟩)
theorem Sat.mapC {w : World} {b : Nat} {f g : Value → Option Value} {R : List Ck} (h : Sat w0 M (mpP K q b f :: R) w) (he : ∀ k, K k → f k = g k) : Sat w0 M (mpP K q b g :: R) w :=
  h.turn (fun _ h => h) (fun hm => MapAt.congr hm he)
theorem map_sat {w : World} {b : Nat} {f : Value → Option Value} (h : MapAt w b K q f) : Sat w (fun x => x = b) [mpP K q b f] w := by
  have hb : b < w.heap.size := by
    obtain ⟨es, clock, h1, _⟩ := h
    exact (Array.getElem?_eq_some_iff.1 h1).1
  refine ⟨ChgP.refl _ _, fun c hc => ?_, List.pairwise_singleton _ _, fun c hc x hx => ?_⟩
  · rw [List.mem_singleton.1 hc]
    exact h
  · rw [List.mem_singleton.1 hc] at hx
    have hx' : x = b := hx
    subst hx'
    exact ⟨hb, .inl rfl⟩
end
end Go.Eng

/- A plan, as data; walks: CheckRules, parts, follows. -/
namespace Go.Proofs.YtohlillcaadidaaGreat
open Go Go.Eng

abbrev k4 : List (Option IntKind) := [some .i64, some .i64, some .i64, some .i64]
theorem plc_flat : flatB Tryz.prog 110 k4 = true := by kernel_rfl
theorem plc_key : KeyT Tryz.prog 110 (keyF k4) eqV := keyT_flat plc_flat
theorem plc_map : Tryz.prog.underlying 111 = some (.map 110 3) := by kernel_rfl
theorem zero_int : ZeroOf Tryz.prog 3 (.int .i64 0) := ⟨by kernel_rfl⟩
/-- A situation. -/
abbrev plcV (a b c d : Int) : Value := .agg #[.int .i64 a, .int .i64 b, .int .i64 c, .int .i64 d]
theorem plcV_key (a b c d : Int) : keyF k4 (plcV a b c d) := ⟨[.int .i64 a, .int .i64 b, .int .i64 c, .int .i64 d], rfl, rfl⟩
/-- Values of situations. -/
abbrev Vf := Int → Int → Int → Int → Option Int
def liftF (vf : Vf) : Value → Option Value
  | .agg cs => match cs.toList with
    | [.int _ a, .int _ b, .int _ c, .int _ d] => (vf a b c d).map (Value.int .i64)
    | _ => none
  | _ => none
theorem liftF_get (vf : Vf) (a b c d : Int) : (liftF vf (plcV a b c d)).getD (.int .i64 0) = .int .i64 ((vf a b c d).getD 0) := by
  show ((vf a b c d).map (Value.int .i64)).getD _ = _
  cases vf a b c d <;> rfl
theorem liftF_some (vf : Vf) (a b c d : Int) : (liftF vf (plcV a b c d)).isSome = (vf a b c d).isSome := by
  show ((vf a b c d).map (Value.int .i64)).isSome = _
  cases vf a b c d <;> rfl

/-- A plan in block bp, with its desk in bd and its map in bm. -/
def PlAt (w : World) (bp bd bm : Nat) (r : Rg) (p : Ru) : Prop := ∃ t, Blk w bp [.pointer (some ⟨bd, 0, none⟩), .int .i64 p.miss, .int .i64 p.click, .int .i64 p.wait, .int .i64 p.waits, .map (some bm)] t ∧ DkAt w bd r
theorem PlAt.keep {w w' : World} {bp bd bm : Nat} {r : Rg} {p : Ru} (h : PlAt w bp bd bm r p) (c : Chg [] w w') : PlAt w' bp bd bm r p := by
  obtain ⟨t, h1, h2⟩ := h
  exact ⟨t, h1.keep c, h2.keep c⟩

/-- The error of a range and rules. -/
def rulesV (r : Rg) (p : Ru) : Int := if checkV r ≠ 0 then checkV r else if !(inB p.miss 0 6000) then 3 else if !(inB p.click 0 600) then 3 else if !(inB p.wait 0 600) then 3 else if !(inB p.waits 0 3) then 3 else 0
theorem rules_iff (r : Rg) (p : Ru) : rulesV r p = 0 ↔ checkV r = 0 ∧ p.Right := by
  unfold rulesV
  constructor
  · intro h
    split at h
    · contradiction
    rename_i h0
    split at h
    · cases h
    rename_i h1
    split at h
    · cases h
    rename_i h2
    split at h
    · cases h
    rename_i h3
    split at h
    · cases h
    rename_i h4
    exact ⟨by simpa using h0, inB_iff.1 (by simpa using h1), inB_iff.1 (by simpa using h2), inB_iff.1 (by simpa using h3), inB_iff.1 (by simpa using h4)⟩
  · rintro ⟨h0, h1⟩
    rw [if_neg (by simpa using h0), inB_iff.2 h1.miss, inB_iff.2 h1.click, inB_iff.2 h1.wait, inB_iff.2 h1.waits]
    rfl

set_option maxHeartbeats 1000000 in
theorem chkRules_ca (w : World) (cs : List Value) (r : Rg) (p : Ru) (h : RgC w cs r) (hsm : r.Small) : Ca Tryz.prog 67 [.agg cs.toArray, .agg #[.int .i64 p.miss, .int .i64 p.click, .int .i64 p.wait, .int .i64 p.waits]] w fun v w' => v = .int .i64 (rulesV r p) ∧ Chg [] w w' := by
  have h0 := h
  obtain ⟨lo, hi, ag, cg, ad, cd, af, cf, an, cn, rfl, hg, hdr, hf, hn⟩ := h
  refine q_of (Sat.nil w M0) Tryz.func67 rfl (by simp [Tryz.ntmps67]) ?_
  (refine q_seq ?_; refine q_region ?_)
  refine ql_box rfl rfl (fun b2 => ?_)
  skip
  refine ql_box rfl rfl (fun b3 => ?_)
  (refine ql_pure tabOk rfl rfl ?_; refine q_nil ?_; refine q_seq ?_; refine q_region ?_; refine ql_loadAB tabOk rfl rfl rfl (by repeat first | exact .head _ | refine .tail _ ?_) (by rfl) (by rfl) ?_)
  refine ql_callv (val := .int .i64 (checkV r)) tabOk rfl rfl rfl rfl (fun w hs => ?_) ?_; exact check_ca w _ r (h0.keep hs.chg0) hsm
  (refine ql_pure tabOk rfl rfl ?_; refine q_nil ?_; (iterate 2 refine q_seq ?_); refine q_region ?_; (iterate 3 refine ql_pure tabOk rfl rfl ?_))
  by_cases hc0 : checkV r = 0
  · rw [decide_eq_true hc0]
    (refine ql_gyes rfl ?_; refine ql_pure tabOk rfl rfl ?_; refine ql_gyes rfl ?_; refine ql_loadB tabOk rfl rfl rfl (by repeat first | exact .head _ | refine .tail _ ?_) (by rfl) ?_; refine ql_gyes rfl ?_)
    refine ql_callv (val := .bool (inB p.miss 0 6000)) tabOk rfl rfl rfl rfl (fun w hs => ?_) ?_; exact in_ca _ _ _ w
    cases h1 : inB p.miss 0 6000 with
    | false =>
      (refine ql_gyes rfl ?_; refine ql_pure tabOk rfl rfl ?_; refine ql_gyes rfl ?_; refine ql_pure tabOk rfl rfl ?_; (iterate 4 refine ql_gno rfl rfl rfl ?_); refine ql_gyes rfl ?_; refine ql_pure tabOk rfl rfl ?_; refine ql_gyes rfl ?_; refine ql_pure tabOk rfl rfl ?_; (iterate 4 refine ql_gno rfl rfl rfl ?_); refine ql_gyes rfl ?_; refine ql_pure tabOk rfl rfl ?_; refine ql_gyes rfl ?_; refine ql_pure tabOk rfl rfl ?_; (iterate 4 refine ql_gno rfl rfl rfl ?_); refine ql_gyes rfl ?_; (iterate 2 refine ql_pure tabOk rfl rfl ?_); refine q_nil ?_; refine q_cond_true rfl ?_; refine q_region ?_; refine ql_pure tabOk rfl rfl ?_; refine q_nil ?_; refine q_seq ?_; refine q_region ?_; (iterate 2 refine ql_pure tabOk rfl rfl ?_); refine q_nil ?_; refine q_ret ?_)
      refine q_fin tabOk rfl (by repeat (first | exact RVs.nil | apply RVs.tmp rfl | apply RVs.cellA rfl rfl (by repeat first | exact .head _ | refine .tail _ ?_) (by rfl) | apply RVs.cell1 rfl rfl (by repeat first | exact .head _ | refine .tail _ ?_))) fun w hs => ?_
      refine ⟨?_, hs.chg0⟩
      have e : rulesV r p = 3 := by unfold rulesV; rw [hc0, h1]; rfl
      rw [e]; rfl
    | true =>
      (refine ql_gyes rfl ?_; refine ql_pure tabOk rfl rfl ?_; refine ql_gyes rfl ?_; refine ql_pure tabOk rfl rfl ?_; refine ql_gyes rfl ?_; refine ql_pure tabOk rfl rfl ?_; refine ql_gyes rfl ?_; refine ql_loadB tabOk rfl rfl rfl (by repeat first | exact .head _ | refine .tail _ ?_) (by rfl) ?_; refine ql_gyes rfl ?_)
      refine ql_callv (val := .bool (inB p.click 0 600)) tabOk rfl rfl rfl rfl (fun w hs => ?_) ?_; exact in_ca _ _ _ w
      cases h2 : inB p.click 0 600 with
      | false =>
        (refine ql_gyes rfl ?_; refine ql_pure tabOk rfl rfl ?_; refine ql_gyes rfl ?_; refine ql_pure tabOk rfl rfl ?_; refine ql_gyes rfl ?_; refine ql_pure tabOk rfl rfl ?_; (iterate 4 refine ql_gno rfl rfl rfl ?_); refine ql_gyes rfl ?_; refine ql_pure tabOk rfl rfl ?_; refine ql_gyes rfl ?_; refine ql_pure tabOk rfl rfl ?_; (iterate 4 refine ql_gno rfl rfl rfl ?_); refine ql_gyes rfl ?_; (iterate 2 refine ql_pure tabOk rfl rfl ?_); refine q_nil ?_; refine q_cond_true rfl ?_; refine q_region ?_; refine ql_pure tabOk rfl rfl ?_; refine q_nil ?_; refine q_seq ?_; refine q_region ?_; (iterate 2 refine ql_pure tabOk rfl rfl ?_); refine q_nil ?_; refine q_ret ?_)
        refine q_fin tabOk rfl (by repeat (first | exact RVs.nil | apply RVs.tmp rfl | apply RVs.cellA rfl rfl (by repeat first | exact .head _ | refine .tail _ ?_) (by rfl) | apply RVs.cell1 rfl rfl (by repeat first | exact .head _ | refine .tail _ ?_))) fun w hs => ?_
        refine ⟨?_, hs.chg0⟩
        have e : rulesV r p = 3 := by unfold rulesV; rw [hc0, h1, h2]; rfl
        rw [e]; rfl
      | true =>
        (refine ql_gyes rfl ?_; refine ql_pure tabOk rfl rfl ?_; refine ql_gyes rfl ?_; refine ql_pure tabOk rfl rfl ?_; refine ql_gyes rfl ?_; refine ql_pure tabOk rfl rfl ?_; refine ql_gyes rfl ?_; refine ql_pure tabOk rfl rfl ?_; refine ql_gyes rfl ?_; refine ql_loadB tabOk rfl rfl rfl (by repeat first | exact .head _ | refine .tail _ ?_) (by rfl) ?_; refine ql_gyes rfl ?_)
        refine ql_callv (val := .bool (inB p.wait 0 600)) tabOk rfl rfl rfl rfl (fun w hs => ?_) ?_; exact in_ca _ _ _ w
        cases h3 : inB p.wait 0 600 with
        | false =>
          (refine ql_gyes rfl ?_; refine ql_pure tabOk rfl rfl ?_; refine ql_gyes rfl ?_; refine ql_pure tabOk rfl rfl ?_; refine ql_gyes rfl ?_; refine ql_pure tabOk rfl rfl ?_; (iterate 4 refine ql_gno rfl rfl rfl ?_); refine ql_gyes rfl ?_; (iterate 2 refine ql_pure tabOk rfl rfl ?_); refine q_nil ?_; refine q_cond_true rfl ?_; refine q_region ?_; refine ql_pure tabOk rfl rfl ?_; refine q_nil ?_; refine q_seq ?_; refine q_region ?_; (iterate 2 refine ql_pure tabOk rfl rfl ?_); refine q_nil ?_; refine q_ret ?_)
          refine q_fin tabOk rfl (by repeat (first | exact RVs.nil | apply RVs.tmp rfl | apply RVs.cellA rfl rfl (by repeat first | exact .head _ | refine .tail _ ?_) (by rfl) | apply RVs.cell1 rfl rfl (by repeat first | exact .head _ | refine .tail _ ?_))) fun w hs => ?_
          refine ⟨?_, hs.chg0⟩
          have e : rulesV r p = 3 := by unfold rulesV; rw [hc0, h1, h2, h3]; rfl
          rw [e]; rfl
        | true =>
          (refine ql_gyes rfl ?_; refine ql_pure tabOk rfl rfl ?_; refine ql_gyes rfl ?_; refine ql_pure tabOk rfl rfl ?_; refine ql_gyes rfl ?_; refine ql_pure tabOk rfl rfl ?_; refine ql_gyes rfl ?_; refine ql_pure tabOk rfl rfl ?_; refine ql_gyes rfl ?_; refine ql_loadB tabOk rfl rfl rfl (by repeat first | exact .head _ | refine .tail _ ?_) (by rfl) ?_; refine ql_gyes rfl ?_)
          refine ql_callv (val := .bool (inB p.waits 0 3)) tabOk rfl rfl rfl rfl (fun w hs => ?_) ?_; exact in_ca _ _ _ w
          cases h4 : inB p.waits 0 3 with
          | false =>
            (refine ql_gyes rfl ?_; refine ql_pure tabOk rfl rfl ?_; refine ql_gyes rfl ?_; (iterate 2 refine ql_pure tabOk rfl rfl ?_); refine q_nil ?_; refine q_cond_true rfl ?_; refine q_region ?_; refine ql_pure tabOk rfl rfl ?_; refine q_nil ?_; refine q_seq ?_; refine q_region ?_; (iterate 2 refine ql_pure tabOk rfl rfl ?_); refine q_nil ?_; refine q_ret ?_)
            refine q_fin tabOk rfl (by repeat (first | exact RVs.nil | apply RVs.tmp rfl | apply RVs.cellA rfl rfl (by repeat first | exact .head _ | refine .tail _ ?_) (by rfl) | apply RVs.cell1 rfl rfl (by repeat first | exact .head _ | refine .tail _ ?_))) fun w hs => ?_
            refine ⟨?_, hs.chg0⟩
            have e : rulesV r p = 3 := by unfold rulesV; rw [hc0, h1, h2, h3, h4]; rfl
            rw [e]; rfl
          | true =>
            (refine ql_gyes rfl ?_; refine ql_pure tabOk rfl rfl ?_; refine ql_gyes rfl ?_; (iterate 2 refine ql_pure tabOk rfl rfl ?_); refine q_nil ?_; refine q_cond_false rfl ?_; refine q_skip ?_; refine q_seq ?_; refine q_region ?_; (iterate 2 refine ql_pure tabOk rfl rfl ?_); refine q_nil ?_; refine q_ret ?_)
            refine q_fin tabOk rfl (by repeat (first | exact RVs.nil | apply RVs.tmp rfl | apply RVs.cellA rfl rfl (by repeat first | exact .head _ | refine .tail _ ?_) (by rfl) | apply RVs.cell1 rfl rfl (by repeat first | exact .head _ | refine .tail _ ?_))) fun w hs => ?_
            refine ⟨?_, hs.chg0⟩
            have e : rulesV r p = 0 := by unfold rulesV; rw [hc0, h1, h2, h3, h4]; rfl
            rw [hc0, e]; rfl
  · rw [decide_eq_false hc0]
    ((iterate 5 refine ql_gno rfl rfl rfl ?_); (iterate 4 refine ql_gnone rfl rfl ?_); (iterate 2 refine ql_gno rfl rfl rfl ?_); (iterate 4 refine ql_gnone rfl rfl ?_); (iterate 2 refine ql_gno rfl rfl rfl ?_); (iterate 4 refine ql_gnone rfl rfl ?_); refine ql_gno rfl rfl rfl ?_; refine ql_pure tabOk rfl rfl ?_; refine q_nil ?_; refine q_cond_false rfl ?_; refine q_skip ?_; refine q_seq ?_; refine q_region ?_; (iterate 2 refine ql_pure tabOk rfl rfl ?_); refine q_nil ?_; refine q_ret ?_)
    refine q_fin tabOk rfl (by repeat (first | exact RVs.nil | apply RVs.tmp rfl | apply RVs.cellA rfl rfl (by repeat first | exact .head _ | refine .tail _ ?_) (by rfl) | apply RVs.cell1 rfl rfl (by repeat first | exact .head _ | refine .tail _ ?_))) fun w hs => ?_
    refine ⟨?_, hs.chg0⟩
    have e : rulesV r p = checkV r := by unfold rulesV; rw [if_pos hc0]
    rw [e]; rfl

set_option maxHeartbeats 1000000 in
theorem parts_ca (w : World) (bp bd bm : Nat) (r : Rg) (p : Ru) (shot wt : Nat) (st cl : Int) (h : PlAt w bp bd bm r p) (hr : r.Right) (hs4 : shot ≤ 4) (hw3 : wt ≤ 3) :
    Ca Tryz.prog 95 [.pointer (some ⟨bp, 0, none⟩), plcV shot wt st cl] w fun v w' => v = .int .i64 (partsV r shot wt) ∧ Chg [] w w' := by
  obtain ⟨tp, hplb, hdk⟩ := h; have hdk0 := hdk; obtain ⟨cs, bt, hblk, lo, hi, ag, cg, ad, cd, af, cf, an, cn, rfl, hg, hdr, hf, hn⟩ := hdk
  have hgs := hr.gsum
  have htt := hr.total
  refine q_of (Sat.nil w M0) Tryz.func95 rfl (by simp [Tryz.ntmps95]) ?_
  (refine q_seq ?_; refine q_region ?_)
  refine ql_box rfl rfl (fun b3 => ?_)
  (refine ql_pure tabOk rfl rfl ?_; refine q_nil ?_; refine q_seq ?_; refine q_region ?_; (iterate 3 refine ql_pure tabOk rfl rfl ?_); refine ql_loadP tabOk rfl rfl rfl (by assumption) (by rfl) ?_)
  refine ql_callv (val := .int .i64 r.group.sum) tabOk rfl rfl rfl rfl (fun w hs => ?_) ?_; exact group_ca w bd r (hdk0.keep hs.chg0) hr
  (refine ql_pure tabOk rfl rfl ?_; refine q_nil ?_; (iterate 2 refine q_seq ?_); refine q_region ?_; refine ql_pure tabOk rfl rfl ?_; refine ql_loadB tabOk rfl rfl rfl (by repeat first | exact .head _ | refine .tail _ ?_) (by rfl) ?_; refine ql_ar tabOk rfl rfl rfl rfl (by omega) (by omega) ?_; refine ql_pure tabOk rfl rfl ?_; refine ql_loadB tabOk rfl rfl rfl (by repeat first | exact .head _ | refine .tail _ ?_) (by rfl) ?_; refine ql_ar tabOk rfl rfl rfl rfl (by omega) (by omega) ?_; refine ql_pure tabOk rfl rfl ?_; refine q_nil ?_; refine q_block ?_)
  refine q_loop (σ := Nat) (fun k => k ≤ 4 - shot + wt) (fun k => 4 - shot + wt - k) (fun k => [(0, .pointer (some ⟨bp, 0, none⟩)), (5, .int .i64 (r.group.sum * r.total ^ k)), (16, .int .i64 (4 - (shot : Int) + wt)), (17, .int .i64 k)]) (fun _ => []) 0 (by omega) ⟨rfl, lookI rfl (by simp), rfl, rfl, trivial⟩ (by repeat (first | exact Sp.nil | exact Sp.refl _ | refine Sp.cons (by repeat constructor) ?_)) ?_
  intro k hk K hK
  have ht := tot7 r hr k (by omega)
  have hb := mul_bd0 (show 0 ≤ r.group.sum ∧ r.group.sum ≤ 100 by omega) (show 0 ≤ r.total ^ k ∧ r.total ^ k ≤ 35831808 by omega)
  have hb2 := mul_bd0 hb (show 0 ≤ r.total ∧ r.total ≤ 12 by omega)
  (refine q_seq ?_; refine q_region ?_; refine ql_pure tabOk rfl rfl ?_; refine q_nil ?_; refine q_seq ?_)
  refine q_if rfl (fun hc => ?_) (fun hc => ?_)
  · have hk : k < 4 - shot + wt := by omega
    (refine q_skip ?_; refine q_seq ?_; refine q_block ?_; refine q_region ?_; (iterate 4 refine ql_pure tabOk rfl rfl ?_); refine ql_loadP tabOk rfl rfl rfl (by assumption) (by rfl) ?_; (iterate 3 refine ql_pure tabOk rfl rfl ?_); refine ql_loadP tabOk rfl rfl rfl (by assumption) (by rfl) ?_; refine ql_ar tabOk rfl rfl rfl rfl (by omega) (by omega) ?_; refine ql_pure tabOk rfl rfl ?_; refine q_nil ?_; refine q_blk ?_; refine q_region ?_; refine ql_ar tabOk rfl rfl rfl rfl (by omega) (by omega) ?_; refine ql_pure tabOk rfl rfl ?_; refine q_nil ?_)
    exact hK (k + 1) _ _ (by omega) (by omega) ⟨rfl, lookI rfl (by rw [Int.pow_succ, Int.mul_assoc]), rfl, rfl, trivial⟩ (by repeat (first | exact Sp.nil | exact Sp.refl _ | refine Sp.cons (by repeat constructor) ?_))
  · obtain rfl : k = 4 - shot + wt := by omega
    (refine q_exit _ rfl ?_; refine q_seq ?_; refine q_region ?_; (iterate 2 refine ql_pure tabOk rfl rfl ?_); refine q_nil ?_; refine q_ret ?_)
    refine q_fin tabOk rfl (by repeat (first | exact RVs.nil | apply RVs.tmp rfl | apply RVs.cellA rfl rfl (by repeat first | exact .head _ | refine .tail _ ?_) (by rfl) | apply RVs.cell1 rfl rfl (by repeat first | exact .head _ | refine .tail _ ?_))) fun w hs => ?_
    exact ⟨rfl, hs.chg0⟩

end Go.Proofs.YtohlillcaadidaaGreat

/- Walks: follows, shoot, wait. -/
namespace Go.Proofs.YtohlillcaadidaaGreat
open Go Go.Eng

/-- The values of situations, 0 where there is none. -/
abbrev gvF (vf : Vf) (shot wt : Nat) (t : Nat) (cl : Int) : Int := (vf shot wt t cl).getD 0

set_option maxHeartbeats 2000000 in
theorem follows_ca (w : World) (bp bd bm : Nat) (r : Rg) (p : Ru) (vf : Vf) (shot wt st : Nat) (s0 cl : Int) (h : PlAt w bp bd bm r p) (hm : MapAt w bm (keyF k4) eqV (liftF vf)) (hr : r.Right) (hst : st < r.drifts.length) (hb : shot < 5 → ∀ t, t < r.drifts.length → 0 ≤ gvF vf shot wt t cl ∧ gvF vf shot wt t cl ≤ 1000000000000000) :
    Ca Tryz.prog 132 [.pointer (some ⟨bp, 0, none⟩), plcV shot wt s0 cl, .int .i64 st] w fun v w' => v = .int .i64 (if shot < 5 then folS r (fun t => gvF vf shot wt t cl) st else 0) ∧ Chg [] w w' := by
  obtain ⟨tp, hplb, hdk⟩ := h; have hdk0 := hdk; obtain ⟨cs, bt, hblk, lo, hi, ag, cg, ad, cd, af, cf, an, cn, rfl, hg, hdr, hf, hn⟩ := hdk
  have hst2 : st < r.next.length := by rw [hr.next]; exact hst
  have hrl := hr.rows _ (List.getElem_mem hst2)
  have hd5 := hr.d2
  obtain ⟨an', cn', hsl, hsd⟩ := RdII.outI hn
  cases hsl
  obtain ⟨bn, on, rfl⟩ := hsd (by omega)
  obtain ⟨ar, cr, hrow, hcell⟩ := hn.row st hst2
  obtain ⟨ar', cr', hsl2, hsd2⟩ := RdI.outI hrow
  cases hsl2
  obtain ⟨br, orr, rfl⟩ := hsd2 (by omega)
  have hgd : r.next.getD st [] = r.next[st] := by simp [hst2]
  refine q_of (Sat.nil w M0) Tryz.func132 rfl (by simp [Tryz.ntmps132]) ?_
  (refine q_seq ?_; refine q_region ?_)
  refine ql_box rfl rfl (fun b4 => ?_)
  (refine ql_pure tabOk rfl rfl ?_; refine q_nil ?_; refine q_seq ?_; refine q_region ?_; refine ql_pure tabOk rfl rfl ?_; refine q_nil ?_; (iterate 2 refine q_seq ?_); refine q_region ?_; refine ql_pure tabOk rfl rfl ?_; refine ql_loadB tabOk rfl rfl rfl (by repeat first | exact .head _ | refine .tail _ ?_) (by rfl) ?_; refine ql_pure tabOk rfl rfl ?_; refine q_nil ?_)
  by_cases h5 : shot < 5
  · have hb := hb h5
    rw [if_pos h5, decide_eq_true (show (shot : Int) < 5 by omega)]
    (refine q_cond_true rfl ?_; refine q_seq ?_; refine q_region ?_; (iterate 3 refine ql_pure tabOk rfl rfl ?_); refine ql_loadP tabOk rfl rfl rfl (by assumption) (by rfl) ?_; (iterate 3 refine ql_pure tabOk rfl rfl ?_); refine ql_loadP tabOk rfl rfl rfl (by assumption) (by rfl) ?_; refine ql_pure tabOk rfl rfl ?_)
    refine ql_index tabOk rfl rfl rfl rfl rfl (by omega) (by omega) ?_
    refine ql_load1 (v := .slice (some ⟨br, orr, none⟩) r.next[st].length cr) tabOk rfl rfl rfl (fun w' hs => hcell w' hs.chg0) ?_
    ((iterate 2 refine ql_pure tabOk rfl rfl ?_); refine q_nil ?_; refine q_block ?_)
    refine q_loop (σ := Nat × Int) (fun s => s.1 ≤ r.drifts.length) (fun s => r.drifts.length - s.1) (fun s => [(0, .pointer (some ⟨bp, 0, none⟩)), (4, .pointer (some ⟨b4, 0, none⟩)), (7, .int .i64 (sumR (fun t => (r.next.getD st []).getD t 0 * gvF vf shot wt t cl) s.1)), (23, .slice (some ⟨br, orr, none⟩) r.next[st].length cr), (24, .int .i64 r.next[st].length), (25, .int .i64 s.1)])
      (fun s => [.pt b4 [.int .i64 shot, .int .i64 wt, .int .i64 s.2, .int .i64 cl] 110]) (0, s0) (by simp) ⟨rfl, rfl, rfl, rfl, rfl, rfl, trivial⟩ (by repeat (first | exact Sp.nil | exact Sp.refl _ | refine Sp.cons (by repeat constructor) ?_)) ?_
    rintro ⟨k, s⟩ hk K hK
    simp only at hk
    dsimp only
    have hfb := fol_bd r hr (fun t => gvF vf shot wt t cl) 1000000000000000 hb st k hk
    (refine q_seq ?_; refine q_region ?_; refine ql_pure tabOk rfl rfl ?_; refine q_nil ?_; refine q_seq ?_)
    refine q_if rfl (fun hc => ?_) (fun hc => ?_)
    · have hk : k < r.drifts.length := by omega
      have hk2 : k < r.next[st].length := by omega
      have hgk := hb k hk
      have hnk := next_bd r hr st k
      have hm2 := mul_bd0 hnk hgk
      have he : (r.next.getD st []).getD k 0 = r.next[st][k] := by rw [hgd]; simp [hk2]
      have hsu : sumR (fun t => (r.next.getD st []).getD t 0 * gvF vf shot wt t cl) (k + 1) = sumR (fun t => (r.next.getD st []).getD t 0 * gvF vf shot wt t cl) k + r.next[st][k] * gvF vf shot wt k cl := by rw [sumR, he]
      rw [he] at hm2
      (refine q_skip ?_; refine q_seq ?_; refine q_block ?_; refine q_seq ?_; refine q_region ?_; refine ql_pure tabOk rfl rfl ?_)
      (refine ql_index tabOk rfl rfl rfl rfl rfl (by omega) (by omega) ?_; refine ql_load1 tabOk rfl rfl rfl (fun w hs => RdI.at (RdE.keep hrow hs.chg0) k hk2) ?_)
      ((iterate 2 refine ql_pure tabOk rfl rfl ?_); refine q_nil ?_; refine q_seq ?_; refine q_region ?_; (iterate 2 refine ql_pure tabOk rfl rfl ?_); refine ql_st2 tabOk rfl rfl rfl rfl (by repeat constructor) ?_; refine q_nil ?_)
      refine q_draw _ [] (Sp.refl _) (by kernel_rfl) (by kernel_rfl) ?_
      ((iterate 5 refine qf_pure tabOk rfl rfl rfl ?_); refine qf_loadP tabOk rfl rfl rfl (by assumption) (by rfl) ?_; refine qf_loadAB tabOk rfl rfl rfl (by repeat first | exact .head _ | refine .tail _ ?_) (by rfl) (by rfl) ?_)
      refine qf_lookP (v := .int .i64 (gvF vf shot wt k cl)) plc_key plc_map zero_int rfl rfl rfl hm (plcV_key _ _ _ _) (liftF_get vf _ _ _ _) ?_
      ((iterate 2 refine qf_ar tabOk rfl rfl rfl rfl (by omega) (by omega) ?_); refine qf_pure tabOk rfl rfl rfl ?_; refine qf_nil ?_; refine q_blk ?_; refine q_region ?_; refine ql_ar tabOk rfl rfl rfl rfl (by omega) (by omega) ?_; refine ql_pure tabOk rfl rfl ?_; refine q_nil ?_)
      exact hK (k + 1, (k : Int)) _ _ (by simp only; omega) (by simp only; omega) ⟨rfl, rfl, lookI rfl hsu.symm, rfl, rfl, rfl, trivial⟩ (by repeat (first | exact Sp.nil | exact Sp.refl _ | refine Sp.cons (by repeat constructor) ?_))
    · obtain rfl : k = r.drifts.length := by omega
      (refine q_exit _ rfl ?_; refine q_seq ?_; refine q_region ?_; (iterate 2 refine ql_pure tabOk rfl rfl ?_); refine q_nil ?_; refine q_ret ?_)
      refine q_fin tabOk rfl (by repeat (first | exact RVs.nil | apply RVs.tmp rfl | apply RVs.cellA rfl rfl (by repeat first | exact .head _ | refine .tail _ ?_) (by rfl) | apply RVs.cell1 rfl rfl (by repeat first | exact .head _ | refine .tail _ ?_))) fun w hs => ?_
      exact ⟨rfl, hs.chg0⟩
  · rw [if_neg h5, decide_eq_false (show ¬ (shot : Int) < 5 by omega)]
    (refine q_cond_false rfl ?_; refine q_skip ?_; refine q_seq ?_; refine q_region ?_; (iterate 2 refine ql_pure tabOk rfl rfl ?_); refine q_nil ?_; refine q_ret ?_)
    refine q_fin tabOk rfl (by repeat (first | exact RVs.nil | apply RVs.tmp rfl | apply RVs.cellA rfl rfl (by repeat first | exact .head _ | refine .tail _ ?_) (by rfl) | apply RVs.cell1 rfl rfl (by repeat first | exact .head _ | refine .tail _ ?_))) fun w hs => ?_
    exact ⟨rfl, hs.chg0⟩


/-- Values behind a situation are not too great. -/
def FineV (r : Rg) (vf : Vf) (shot wt : Nat) : Prop := ∀ t c, t < r.drifts.length → -r.clicks ≤ c ∧ c ≤ r.clicks → 0 ≤ gvF vf shot wt t c ∧ gvF vf shot wt t c ≤ 1000000000000000

set_option maxHeartbeats 2000000 in
theorem shoot_ca (w : World) (bp bd bm : Nat) (r : Rg) (p : Ru) (vf : Vf) (shot wt st : Nat) (cl click : Int) (h : PlAt w bp bd bm r p) (hm : MapAt w bm (keyF k4) eqV (liftF vf)) (hr : r.Right) (hp : p.Right) (h4 : shot ≤ 4) (hw3 : wt ≤ 3) (hst : st < r.drifts.length)
    (hcl : -r.clicks ≤ cl ∧ cl ≤ r.clicks) (hck : -r.clicks ≤ click ∧ click ≤ r.clicks) (hb : shot < 4 → FineV r vf (shot + 1) wt) :
    Ca Tryz.prog 121 [.pointer (some ⟨bp, 0, none⟩), plcV shot wt st cl, .int .i64 click] w fun v w' => v = .int .i64 (shootV r p (gvF vf (shot + 1) wt) shot wt st cl click) ∧ Chg [] w w' := by
  have h0 := h
  obtain ⟨tp, hplb, hdk⟩ := h; have hdk0 := hdk; obtain ⟨cs, bt, hblk, lo, hi, ag, cg, ad, cd, af, cf, an, cn, rfl, hg, hdr, hf, hn⟩ := hdk
  have hC := hr.clicks
  have hd5 := hr.d2
  have hgs := hr.gsum
  have hpt := parts_bd r hr shot wt hw3
  have htt := tot7 r hr (4 - shot + wt) (by omega)
  have hdv := parts_div r hr shot wt
  have hms := missS_bd r hr r.drifts[st] click
  have hdb := hr.drift _ (List.getElem_mem hst)
  have hgd : r.drifts.getD st 0 = r.drifts[st] := by simp [hst]
  have hfar := far_bd hC.2 hcl hck
  have a1 := mul_bd0 hp.click hfar
  have a2 := mul_bd0 a1 (show 0 ≤ partsV r shot wt ∧ partsV r shot wt ≤ 3583180800 by omega)
  have b1 := mul_bd0 hp.miss (show 0 ≤ missS r r.drifts[st] click ∧ missS r r.drifts[st] click ≤ 100 by omega)
  have b2 := mul_bd0 b1 (show 0 ≤ partsV r shot wt / r.group.sum ∧ partsV r shot wt / r.group.sum ≤ 35831808 by omega)
  obtain ⟨ad', cd', hsl, hsd⟩ := RdI.outI hdr
  cases hsl
  obtain ⟨bn, on, rfl⟩ := hsd (by omega)
  have hfol : 0 ≤ (if shot < 4 then folS r (fun t => gvF vf (shot + 1) wt t click) st else 0) ∧ (if shot < 4 then folS r (fun t => gvF vf (shot + 1) wt t click) st else 0) ≤ 60000000000000000 := by
    split
    · have : 0 ≤ folS r (fun t => gvF vf (shot + 1) wt t click) st ∧ folS r (fun t => gvF vf (shot + 1) wt t click) st ≤ 12 * 1000000000000000 * (r.drifts.length : Int) := fol_bd r hr (fun t => gvF vf (shot + 1) wt t click) 1000000000000000 (fun t ht => hb (by assumption) t click ht hck) st r.drifts.length (Nat.le_refl _)
      omega
    · omega
  have hfe : (if shot + 1 < 5 then folS r (fun t => gvF vf (shot + 1) wt t click) st else 0) = (if shot < 4 then folS r (fun t => gvF vf (shot + 1) wt t click) st else 0) := by
    by_cases h : shot < 4
    · rw [if_pos h, if_pos (by omega)]
    · rw [if_neg h, if_neg (by omega)]
  refine q_of (Sat.nil w M0) Tryz.func121 rfl (by simp [Tryz.ntmps121]) ?_
  (refine q_seq ?_; refine q_region ?_)
  refine ql_box rfl rfl (fun b4 => ?_)
  (refine ql_pure tabOk rfl rfl ?_; refine q_nil ?_; refine q_seq ?_; refine q_region ?_; refine ql_pure tabOk rfl rfl ?_; refine ql_loadAB tabOk rfl rfl rfl (by repeat first | exact .head _ | refine .tail _ ?_) (by rfl) (by rfl) ?_)
  refine ql_callv (val := .int .i64 (partsV r shot wt)) tabOk rfl rfl rfl rfl (fun w hs => ?_) ?_; exact parts_ca w bp bd bm r p shot wt st cl (h0.keep hs.chg0) hr h4 hw3
  (refine ql_pure tabOk rfl rfl ?_; refine q_nil ?_; refine q_seq ?_)
  refine q_draw _ [] (Sp.refl _) (by kernel_rfl) (by kernel_rfl) ?_
  ((iterate 4 refine qf_pure tabOk rfl rfl rfl ?_); refine qf_loadP tabOk rfl rfl rfl (by assumption) (by rfl) ?_; (iterate 2 refine qf_pure tabOk rfl rfl rfl ?_); refine qf_loadB tabOk rfl rfl rfl (by repeat first | exact .head _ | refine .tail _ ?_) (by rfl) ?_; refine qf_ar tabOk rfl rfl rfl rfl (by omega) (by omega) ?_; refine qf_pure tabOk rfl rfl rfl ?_; refine qf_loadB tabOk rfl rfl rfl (by repeat first | exact .head _ | refine .tail _ ?_) (by rfl) ?_; refine qf_pure tabOk rfl rfl rfl ?_; refine qf_ar tabOk rfl rfl rfl rfl (by omega) (by omega) ?_; refine qf_pure tabOk rfl rfl rfl ?_; refine qf_ar tabOk rfl rfl rfl rfl (by omega) (by omega) ?_; refine qf_pure tabOk rfl rfl rfl ?_; refine qf_ar tabOk rfl rfl rfl rfl (by omega) (by omega) ?_; refine qf_pure tabOk rfl rfl rfl ?_; refine qf_nil ?_; refine q_seq ?_)
  refine q_draw _ [] (Sp.refl _) (by kernel_rfl) (by kernel_rfl) ?_
  ((iterate 4 refine qf_pure tabOk rfl rfl rfl ?_); refine qf_loadP tabOk rfl rfl rfl (by assumption) (by rfl) ?_; (iterate 3 refine qf_pure tabOk rfl rfl rfl ?_); refine qf_loadP tabOk rfl rfl rfl (by assumption) (by rfl) ?_; (iterate 3 refine qf_pure tabOk rfl rfl rfl ?_); refine qf_loadP tabOk rfl rfl rfl (by assumption) (by rfl) ?_; (iterate 3 refine qf_pure tabOk rfl rfl rfl ?_); refine qf_loadP tabOk rfl rfl rfl (by assumption) (by rfl) ?_; refine qf_pure tabOk rfl rfl rfl ?_; refine qf_loadB tabOk rfl rfl rfl (by repeat first | exact .head _ | refine .tail _ ?_) (by rfl) ?_)
  (refine qf_index tabOk rfl rfl rfl rfl rfl (by omega) (by omega) ?_; refine qf_load1 tabOk rfl rfl rfl (fun w hs => RdI.at (RdE.keep hdr hs.chg0) st hst) ?_)
  (refine qf_pure tabOk rfl rfl rfl ?_)
  refine qf_callv (val := .int .i64 (missS r r.drifts[st] click)) tabOk rfl rfl rfl rfl (fun w hs => ?_) ?_; exact missed_ca w bd r r.drifts[st] click (hdk0.keep hs.chg0) hr (by omega) (by omega)
  (refine qf_ar tabOk rfl rfl rfl rfl (by omega) (by omega) ?_; (iterate 4 refine qf_pure tabOk rfl rfl rfl ?_); refine qf_loadP tabOk rfl rfl rfl (by assumption) (by rfl) ?_)
  refine qf_callv (val := .int .i64 r.group.sum) tabOk rfl rfl rfl rfl (fun w hs => ?_) ?_; exact group_ca w bd r (hdk0.keep hs.chg0) hr
  (refine qf_quoN rfl rfl rfl (by omega) (by omega) (by omega) ?_; refine qf_ar tabOk rfl rfl rfl rfl (by omega) (by omega) ?_; refine qf_pure tabOk rfl rfl rfl ?_; refine qf_nil ?_; refine q_seq ?_; refine q_region ?_; (iterate 2 refine ql_pure tabOk rfl rfl ?_); refine ql_ar tabOk rfl rfl rfl rfl (by omega) (by omega) ?_; (iterate 2 refine ql_pure tabOk rfl rfl ?_); refine ql_loadB tabOk rfl rfl rfl (by repeat first | exact .head _ | refine .tail _ ?_) (by rfl) ?_; refine ql_ar tabOk rfl rfl rfl rfl (by omega) (by omega) ?_; refine ql_pure tabOk rfl rfl ?_; refine ql_loadB tabOk rfl rfl rfl (by repeat first | exact .head _ | refine .tail _ ?_) (by rfl) ?_; refine ql_pure tabOk rfl rfl ?_)
  refine ql_mk #[.int .i64 ((shot : Int) + 1), .int .i64 wt, .int .i64 0, .int .i64 click] rfl (by kernel_rfl) rfl ?_
  (refine ql_pure tabOk rfl rfl ?_; refine ql_loadB tabOk rfl rfl rfl (by repeat first | exact .head _ | refine .tail _ ?_) (by rfl) ?_)
  refine ql_callv (val := .int .i64 (if shot < 4 then folS r (fun t => gvF vf (shot + 1) wt t click) st else 0)) tabOk rfl rfl rfl rfl (fun w hs => ?_) ?_; exact by have := follows_ca w bp bd bm r p vf (shot + 1) wt st 0 click (h0.keep hs.chg0) (hm.keep hs.chg0) hr hst (fun h5 t ht => hb (by omega) t click ht hck); rw [hfe] at this; exact this
  (refine ql_ar tabOk rfl rfl rfl rfl (by omega) (by omega) ?_; refine ql_pure tabOk rfl rfl ?_; refine q_nil ?_; refine q_ret ?_)
  refine q_fin tabOk rfl (by repeat (first | exact RVs.nil | apply RVs.tmp rfl | apply RVs.cellA rfl rfl (by repeat first | exact .head _ | refine .tail _ ?_) (by rfl) | apply RVs.cell1 rfl rfl (by repeat first | exact .head _ | refine .tail _ ?_))) fun w hs => ?_
  refine ⟨?_, hs.chg0⟩
  unfold shootV
  rw [hgd]
  rfl

set_option maxHeartbeats 2000000 in
theorem waitF_ca (w : World) (bp bd bm : Nat) (r : Rg) (p : Ru) (vf : Vf) (shot wt st : Nat) (cl : Int) (h : PlAt w bp bd bm r p) (hm : MapAt w bm (keyF k4) eqV (liftF vf)) (hr : r.Right) (hp : p.Right) (h4 : shot ≤ 4) (hw0 : 0 < wt) (hw3 : wt ≤ 3) (hst : st < r.drifts.length)
    (hcl : -r.clicks ≤ cl ∧ cl ≤ r.clicks) (hb : FineV r vf shot (wt - 1)) :
    Ca Tryz.prog 122 [.pointer (some ⟨bp, 0, none⟩), plcV shot wt st cl] w fun v w' => v = .int .i64 (waitV r p (gvF vf shot (wt - 1)) shot wt st cl) ∧ Chg [] w w' := by
  have h0 := h
  obtain ⟨tp, hplb, hdk⟩ := h; have hdk0 := hdk; obtain ⟨cs, bt, hblk, lo, hi, ag, cg, ad, cd, af, cf, an, cn, rfl, hg, hdr, hf, hn⟩ := hdk
  have hd5 := hr.d2
  have hpt := parts_bd r hr shot wt hw3
  have a1 := mul_bd0 hp.wait (show 0 ≤ partsV r shot wt ∧ partsV r shot wt ≤ 3583180800 by omega)
  have hfol := fol_bd r hr (fun t => gvF vf shot (wt - 1) t cl) 1000000000000000 (fun t ht => hb t cl ht hcl) st r.drifts.length (Nat.le_refl _)
  have hfs : folS r (fun t => gvF vf shot (wt - 1) t cl) st = sumR (fun t => (r.next.getD st []).getD t 0 * gvF vf shot (wt - 1) t cl) r.drifts.length := rfl
  rw [← hfs] at hfol
  have hw1 : ((wt - 1 : Nat) : Int) = (wt : Int) - 1 := by omega
  refine q_of (Sat.nil w M0) Tryz.func122 rfl (by simp [Tryz.ntmps122]) ?_
  (refine q_seq ?_; refine q_region ?_)
  refine ql_box rfl rfl (fun b3 => ?_)
  (refine ql_pure tabOk rfl rfl ?_; refine q_nil ?_; refine q_seq ?_)
  refine q_draw _ [] (Sp.refl _) (by kernel_rfl) (by kernel_rfl) ?_
  ((iterate 4 refine qf_pure tabOk rfl rfl rfl ?_); refine qf_loadP tabOk rfl rfl rfl (by assumption) (by rfl) ?_; refine qf_pure tabOk rfl rfl rfl ?_; refine qf_loadAB tabOk rfl rfl rfl (by repeat first | exact .head _ | refine .tail _ ?_) (by rfl) (by rfl) ?_)
  refine qf_callv (val := .int .i64 (partsV r shot wt)) tabOk rfl rfl rfl rfl (fun w hs => ?_) ?_; exact parts_ca w bp bd bm r p shot wt st cl (h0.keep hs.chg0) hr h4 hw3
  (refine qf_ar tabOk rfl rfl rfl rfl (by omega) (by omega) ?_; (iterate 2 refine qf_pure tabOk rfl rfl rfl ?_); refine qf_loadB tabOk rfl rfl rfl (by repeat first | exact .head _ | refine .tail _ ?_) (by rfl) ?_; refine qf_pure tabOk rfl rfl rfl ?_; refine qf_loadB tabOk rfl rfl rfl (by repeat first | exact .head _ | refine .tail _ ?_) (by rfl) ?_; refine qf_ar tabOk rfl rfl rfl rfl (by omega) (by omega) ?_; refine qf_pure tabOk rfl rfl rfl ?_; refine qf_loadB tabOk rfl rfl rfl (by repeat first | exact .head _ | refine .tail _ ?_) (by rfl) ?_)
  refine qf_mk #[.int .i64 shot, .int .i64 ((wt : Int) - 1), .int .i64 0, .int .i64 cl] rfl (by kernel_rfl) rfl ?_
  (refine qf_pure tabOk rfl rfl rfl ?_; refine qf_loadB tabOk rfl rfl rfl (by repeat first | exact .head _ | refine .tail _ ?_) (by rfl) ?_)
  refine qf_callv (val := .int .i64 (folS r (fun t => gvF vf shot (wt - 1) t cl) st)) tabOk rfl rfl rfl rfl (fun w hs => ?_) ?_; exact by have := follows_ca w bp bd bm r p vf shot (wt - 1) st 0 cl (h0.keep hs.chg0) (hm.keep hs.chg0) hr hst (fun h5 t ht => hb t cl ht hcl); rw [if_pos (by omega), hw1] at this; exact this
  (refine qf_ar tabOk rfl rfl rfl rfl (by omega) (by omega) ?_; refine qf_pure tabOk rfl rfl rfl ?_; refine qf_nil ?_; refine q_ret ?_)
  refine q_fin tabOk rfl (by repeat (first | exact RVs.nil | apply RVs.tmp rfl | apply RVs.cellA rfl rfl (by repeat first | exact .head _ | refine .tail _ ?_) (by rfl) | apply RVs.cell1 rfl rfl (by repeat first | exact .head _ | refine .tail _ ?_))) fun w hs => ?_
  exact ⟨rfl, hs.chg0⟩

end Go.Proofs.YtohlillcaadidaaGreat

/- The engine, part B10: a region that draws its order, in which some operations that act may stand in any order: one walk for each such order. -/
namespace Go.Eng
open Go Go.RowKit

section
variable {P : Program} {ops : Array Oper} {C : World → Prop} {K : Act → World → Prop}

theorem apart_symm {x y : Oper} (h : x.apart ops y = true) : y.apart ops x = true := by
  obtain ⟨h1, h2, h3⟩ := Oper.apart_spec h
  simp only [Oper.apart, Bool.and_eq_true]
  constructor
  · cases hy : y.dst with
    | none => rfl
    | some d =>
      simp only [Bool.and_eq_true, Bool.not_eq_true', bne_iff_ne, ne_eq]
      refine ⟨?_, fun hx => h2 d hx hy⟩
      have := h3 d hy
      simpa using this
  · cases hx : x.dst with
    | none => rfl
    | some d =>
      have := h1 d hx
      simpa using this

/-- Each operation against all others. -/
def pairsB (ops : Array Oper) (ms : List Nat) : Bool := (List.range ops.size).all fun j => match ops[j]? with
  | none => true
  | some oj => (kindOk oj.op && oj.after.all (fun e => Nat.blt e.on ops.size)) && (!(eff oj.op) || oj.guard.isNone) && (List.range j).all fun i => match ops[i]? with
    | none => true
    | some oi => (ms.getD j 0).testBit i || oi.apart ops oj
structure FlM (ops : Array Oper) : Prop where
  kind : ∀ (j : Nat) o, ops[j]? = some o → kindOk o.op = true
  edge : ∀ (j : Nat) o, ops[j]? = some o → ∀ e ∈ o.after, Region.binds .any e = true → ¬ e.on < ops.size → False
  guard : ∀ (j : Nat) o, ops[j]? = some o → eff o.op = true → o.guard = none
  pair : ∀ (i j : Nat) oi oj, i ≠ j → ops[i]? = some oi → ops[j]? = some oj → ((masks ops.toList).getD j 0).testBit i = true ∨ ((masks ops.toList).getD i 0).testBit j = true ∨ oi.apart ops oj = true
theorem pairsB_spec (h : pairsB ops (masks ops.toList) = true) : FlM ops := by
  have hj : ∀ (j : Nat) oj, ops[j]? = some oj → ((kindOk oj.op = true ∧ (oj.after.all (fun e => Nat.blt e.on ops.size)) = true) ∧ (eff oj.op = true → oj.guard = none)) ∧ ∀ i oi, i < j → ops[i]? = some oi → ((masks ops.toList).getD j 0).testBit i = true ∨ oi.apart ops oj = true := by
    intro j oj hoj
    have h1 := List.all_eq_true.1 h j (List.mem_range.2 (Array.getElem?_eq_some_iff.1 hoj).1)
    simp only [hoj, Bool.and_eq_true, Bool.or_eq_true, Bool.not_eq_true', Option.isNone_iff_eq_none] at h1
    refine ⟨⟨⟨h1.1.1.1, h1.1.1.2⟩, fun he => ?_⟩, fun i oi hi hoi => ?_⟩
    · rcases h1.1.2 with h2 | h2
      · rw [he] at h2; cases h2
      · exact h2
    · have h2 := List.all_eq_true.1 h1.2 i (List.mem_range.2 hi)
      simpa only [hoi, Bool.or_eq_true] using h2
  refine ⟨fun j o ho => (hj j o ho).1.1.1, fun j o ho e he _ hn => hn (by have := Array.all_eq_true'.1 (hj j o ho).1.1.2 e he; simpa [Nat.blt_eq] using this), fun j o ho => (hj j o ho).1.2, fun i j oi oj hij hoi hoj => ?_⟩
  rcases Nat.lt_or_gt_of_ne hij with h1 | h1
  · rcases (hj j oj hoj).2 i oi h1 hoi with h2 | h2
    · exact .inl h2
    · exact .inr (.inr h2)
  · rcases (hj i oi hoi).2 j oj h1 hoj with h2 | h2
    · exact .inr (.inl h2)
    · exact .inr (.inr (apart_symm h2))

/-- Orders: alternatives share what stands ahead. -/
inductive OT where
  | nil
  | op (i : Nat) (t : OT)
  | alt (t u : OT)
def wpT (P : Program) (ops : Array Oper) (C : World → Prop) (K : Act → World → Prop) : OT → Act → World → Prop
  | .nil, a, w => K a w
  | .op i t, a, w => match ops[i]? with
    | none => False
    | some o => if Region.wanted o (yielded ops a.tmps) = true then
        (if eff o.op = true then effStep P o a w (fun v w' => C w' ∧ wpT P ops C K t (a.put o.dst v) w')
         else ∃ v, (∀ w', C w' → (execOp a.eval o).run P w' = .ok (.value v) w') ∧ wpT P ops C K t (a.put o.dst v) w)
      else wpT P ops C K t (a.put o.dst undef) w
  | .alt t u, a, w => wpT P ops C K t a w ∧ wpT P ops C K u a w
def OT.del (j : Nat) : OT → OT
  | .nil => .nil
  | .op i t => if i = j then t else .op i (t.del j)
  | .alt t u => .alt (t.del j) (u.del j)
def isEff (ops : Array Oper) (i : Nat) : Bool := match ops[i]? with | some o => eff o.op | none => false
def OT.take (ops : Array Oper) (j : Nat) : OT → Option OT
  | .nil => none
  | .op i t => if i = j then some t else if isEff ops i = true then none else (t.take ops j).map (.op i)
  | .alt t u => match t.take ops j with | some x => some x | none => u.take ops j
def effsT (ops : Array Oper) : OT → List Nat
  | .nil => []
  | .op i t => if isEff ops i = true then i :: effsT ops t else effsT ops t
  | .alt t _ => effsT ops t
def covT (ops : Array Oper) (ms : List Nat) : Nat → OT → Bool
  | 0, t => (effsT ops t).isEmpty
  | n + 1, t => (effsT ops t).all fun j => (effsT ops t).any (fun i => (ms.getD j 0).testBit i) || (match t.take ops j with | some t' => covT ops ms n t' | none => false)
def OkT (ops : Array Oper) : OT → List Nat → Prop
  | .nil, rem => rem = []
  | .op i t, rem => (∃ o, ops[i]? = some o ∧ ∀ e ∈ o.after, Region.binds .any e = true → e.on ∉ rem) ∧ i ∈ rem ∧ (∀ b ∈ rem, ((masks ops.toList).getD i 0).testBit b = false) ∧ OkT ops t (rem.erase i)
  | .alt t u, rem => OkT ops t rem ∧ OkT ops u rem
def okT (ops : Array Oper) (ms : List Nat) : OT → List Nat → Bool
  | .nil, rem => rem.isEmpty
  | .op i t, rem => (match ops[i]? with | none => false | some o => o.after.all fun e => !(Region.binds .any e) || !(rem.contains e.on)) && rem.contains i && rem.all (fun b => !((ms.getD i 0).testBit b)) && okT ops ms t (rem.erase i)
  | .alt t u, rem => okT ops ms t rem && okT ops ms u rem
theorem okT_spec : ∀ (t : OT) (rem : List Nat), okT ops (masks ops.toList) t rem = true → OkT ops t rem
  | .nil, rem, h => by simpa [okT, OkT] using h
  | .op i t, rem, h => by
    simp only [okT, Bool.and_eq_true] at h
    obtain ⟨⟨⟨h1, h2⟩, h3⟩, h4⟩ := h
    refine ⟨?_, by simpa using h2, fun b hb => by simpa using List.all_eq_true.1 h3 b hb, okT_spec t _ h4⟩
    cases ho : ops[i]? with
    | none => rw [ho] at h1; cases h1
    | some o =>
      rw [ho] at h1
      refine ⟨o, rfl, fun e he hb => ?_⟩
      have := Array.all_eq_true'.1 h1 e he
      simp only [hb, Bool.not_true, Bool.false_or, Bool.not_eq_true'] at this
      simpa using this
  | .alt t u, rem, h => by
    simp only [okT, Bool.and_eq_true] at h
    exact ⟨okT_spec t rem h.1, okT_spec u rem h.2⟩

theorem del_ok {j : Nat} : ∀ (t : OT) (rem : List Nat), rem.Nodup → OkT ops t rem → j ∈ rem → OkT ops (t.del j) (rem.erase j)
  | .nil, rem, _, h, hj => by
    have : rem = [] := h
    subst this
    cases hj
  | .op i t, rem, hn, ⟨⟨o, h1, h1'⟩, h2, h3, h4⟩, hj => by
    unfold OT.del
    split
    · rename_i hij
      subst hij
      exact h4
    · rename_i hij
      refine ⟨⟨o, h1, fun e he hb hm => h1' e he hb (List.mem_of_mem_erase hm)⟩, (List.mem_erase_of_ne hij).2 h2, fun b hb => h3 b (List.mem_of_mem_erase hb), ?_⟩
      rw [List.erase_comm]
      exact del_ok t _ (hn.erase i) h4 ((List.mem_erase_of_ne (fun h => hij h.symm)).2 hj)
  | .alt t u, rem, hn, ⟨h1, h2⟩, hj => ⟨del_ok t rem hn h1 hj, del_ok u rem hn h2 hj⟩
theorem take_ok {j : Nat} : ∀ (t t' : OT) (rem : List Nat), rem.Nodup → OkT ops t rem → j ∈ rem → t.take ops j = some t' → OkT ops t' (rem.erase j)
  | .nil, _, _, _, _, _, h => by simp [OT.take] at h
  | .op i t, t', rem, hn, ⟨⟨o, h1, h1'⟩, h2, h3, h4⟩, hj, h => by
    unfold OT.take at h
    split at h
    · rename_i hij
      subst hij
      cases h
      exact h4
    · rename_i hij
      split at h
      · cases h
      · cases hx : t.take ops j with
        | none => rw [hx] at h; cases h
        | some x =>
          rw [hx] at h
          cases h
          refine ⟨⟨o, h1, fun e he hb hm => h1' e he hb (List.mem_of_mem_erase hm)⟩, (List.mem_erase_of_ne hij).2 h2, fun b hb => h3 b (List.mem_of_mem_erase hb), ?_⟩
          rw [List.erase_comm]
          exact take_ok t x _ (hn.erase i) h4 ((List.mem_erase_of_ne (fun h => hij h.symm)).2 hj) hx
  | .alt t u, t', rem, hn, ⟨h1, h2⟩, hj, h => by
    unfold OT.take at h
    split at h
    · rename_i x hx
      cases h
      exact take_ok t _ rem hn h1 hj hx
    · exact take_ok u t' rem hn h2 hj h
theorem take_del {j q : Nat} (hq : isEff ops q = false) (hj : isEff ops j = true) : ∀ t : OT, (t.del q).take ops j = (t.take ops j).map (OT.del q)
  | .nil => rfl
  | .op i t => by
    have hjq : j ≠ q := fun h => by rw [h, hq] at hj; cases hj
    by_cases hiq : i = q
    · subst hiq
      have e1 : (OT.op i t).del i = t := by simp [OT.del]
      rw [e1]
      simp only [OT.take, if_neg (fun h : i = j => hjq h.symm), hq, Bool.false_eq_true, if_false]
      cases t.take ops j with
      | none => rfl
      | some x => simp [OT.del]
    · have e1 : (OT.op i t).del q = .op i (t.del q) := by simp [OT.del, hiq]
      rw [e1]
      simp only [OT.take]
      split
      · rfl
      · split
        · rfl
        · rw [take_del hq hj t]
          cases t.take ops j with
          | none => rfl
          | some x => simp [OT.del, hiq]
  | .alt t u => by
    simp only [OT.del, OT.take, take_del hq hj t, take_del hq hj u]
    cases t.take ops j with
    | none => rfl
    | some x => rfl
theorem effs_del {q : Nat} (hq : isEff ops q = false) : ∀ t : OT, effsT ops (t.del q) = effsT ops t
  | .nil => rfl
  | .op i t => by
    unfold OT.del
    split
    · rename_i h
      subst h
      simp [effsT, hq]
    · simp only [effsT, effs_del hq t]
  | .alt t _ => by simp only [OT.del, effsT, effs_del hq t]
theorem effs_eff : ∀ (t : OT) (j : Nat), j ∈ effsT ops t → isEff ops j = true
  | .nil, j, h => by simp [effsT] at h
  | .op i t, j, h => by
    unfold effsT at h
    split at h
    · rename_i hi
      rcases List.mem_cons.1 h with rfl | h
      · exact hi
      · exact effs_eff t j h
    · exact effs_eff t j h
  | .alt t _, j, h => effs_eff t j h
theorem effs_rem : ∀ (t : OT) (rem : List Nat), OkT ops t rem → (∀ j, j ∈ effsT ops t → j ∈ rem) ∧ ∀ j, j ∈ rem → isEff ops j = true → j ∈ effsT ops t
  | .nil, rem, h => by
    have : rem = [] := h
    subst this
    exact ⟨fun j h => by simp [effsT] at h, fun j h => by cases h⟩
  | .op i t, rem, ⟨_, h2, _, h4⟩ => by
    obtain ⟨ih1, ih2⟩ := effs_rem t _ h4
    unfold effsT
    constructor
    · intro j hj
      split at hj
      · rcases List.mem_cons.1 hj with rfl | hj
        · exact h2
        · exact List.mem_of_mem_erase (ih1 j hj)
      · exact List.mem_of_mem_erase (ih1 j hj)
    · intro j hj he
      by_cases hij : j = i
      · subst hij
        rw [if_pos he]
        exact List.mem_cons_self
      · have := ih2 j ((List.mem_erase_of_ne hij).2 hj) he
        split
        · exact List.mem_cons_of_mem _ this
        · exact this
  | .alt t _, rem, ⟨h, _⟩ => effs_rem t rem h
theorem cov_del {q : Nat} (hq : isEff ops q = false) (ms : List Nat) : ∀ (n : Nat) (t : OT), covT ops ms n t = true → covT ops ms n (t.del q) = true
  | 0, t, h => by simpa [covT, effs_del hq] using h
  | n + 1, t, h => by
    simp only [covT, effs_del hq, List.all_eq_true] at h ⊢
    intro j hj
    have h1 := h j hj
    rw [Bool.or_eq_true] at h1 ⊢
    rcases h1 with h1 | h1
    · exact .inl h1
    · refine .inr ?_
      rw [take_del hq (effs_eff t j hj)]
      cases hx : t.take ops j with
      | none => rw [hx] at h1; cases h1
      | some x =>
        rw [hx] at h1
        exact cov_del hq ms n x h1

theorem pair_apart (hF : FlM ops) {i j : Nat} {oi oj : Oper} (hij : i ≠ j) (hi : ops[i]? = some oi) (hj : ops[j]? = some oj) (h1 : ((masks ops.toList).getD j 0).testBit i = false) (h2 : ((masks ops.toList).getD i 0).testBit j = false) : oi.apart ops oj = true := by
  rcases hF.pair i j oi oj hij hi hj with h | h | h
  · rw [h1] at h; cases h
  · rw [h2] at h; cases h
  · exact h

theorem swapT_quiet (hF : FlM ops) {j : Nat} {oj : Oper} (hj : ops[j]? = some oj) (hne : eff oj.op = false) : ∀ (t : OT) (rem : List Nat) (a : Act) (w : World), rem.Nodup → OkT ops t rem → j ∈ rem → (∀ i ∈ rem, ((masks ops.toList).getD j 0).testBit i = false) →
    Region.wanted oj (yielded ops a.tmps) = true → C w → wpT P ops C K t a w → ∃ v, (∀ w', C w' → (execOp a.eval oj).run P w' = .ok (.value v) w') ∧ wpT P ops C K (t.del j) (a.put oj.dst v) w
  | .nil, rem, a, w, hn, hok, hjr, hm, hw, hC, h => by
    have : rem = [] := hok
    subst this
    cases hjr
  | .alt t u, rem, a, w, hn, ⟨o1, o2⟩, hjr, hm, hw, hC, ⟨h1, h2⟩ => by
    obtain ⟨v, hv, h3⟩ := swapT_quiet hF hj hne t rem a w hn o1 hjr hm hw hC h1
    obtain ⟨v', hv', h4⟩ := swapT_quiet hF hj hne u rem a w hn o2 hjr hm hw hC h2
    have e1 := hv w hC
    have e2 := hv' w hC
    rw [e1] at e2
    have : v = v' := by simpa using e2
    subst this
    exact ⟨v, hv, h3, h4⟩
  | .op i t, rem, a, w, hn, ⟨⟨oi, hi, _⟩, hir, him, hok⟩, hjr, hm, hw, hC, h => by
    by_cases hij : i = j
    · subst hij
      rw [hj] at hi
      obtain rfl := Option.some.inj hi
      simp only [wpT, hj, hw, if_true, hne, Bool.false_eq_true, if_false] at h
      simpa [OT.del] using h
    · have hji : j ∈ rem.erase i := (List.mem_erase_of_ne (fun h => hij h.symm)).2 hjr
      have ih' := fun a w => swapT_quiet hF hj hne t (rem.erase i) a w (hn.erase i) hok hji (fun b hb => hm b (List.mem_of_mem_erase hb))
      have hap := pair_apart hF hij hi hj (hm i hir) (him j hjr)
      obtain ⟨p1, p2, p3⟩ := Oper.apart_spec hap
      have kj := hF.kind j oj hj
      have ki := hF.kind i oi hi
      have ej : ∀ (a : Act) v, execOp (a.put oi.dst v).eval oj = execOp a.eval oj := fun a v => exec_put kj a oi.dst v p1
      have ei : ∀ (a : Act) v, execOp (a.put oj.dst v).eval oi = execOp a.eval oi := fun a v => exec_put ki a oj.dst v p3
      have wj : ∀ (a : Act) v, Region.wanted oj (yielded ops (a.put oi.dst v).tmps) = Region.wanted oj (yielded ops a.tmps) := fun a v => wanted_put oj a oi.dst v p1
      have wi : ∀ (a : Act) v, Region.wanted oi (yielded ops (a.put oj.dst v).tmps) = Region.wanted oi (yielded ops a.tmps) := fun a v => wanted_put oi a oj.dst v p3
      have cm : ∀ (a : Act) u v, (a.put oi.dst u).put oj.dst v = (a.put oj.dst v).put oi.dst u := fun a u v => Act.put_comm a u v p2
      have ed : (OT.op i t).del j = .op i (t.del j) := by simp [OT.del, hij]
      rw [ed]
      simp only [wpT, hi] at h ⊢
      by_cases hwi : Region.wanted oi (yielded ops a.tmps) = true
      · simp only [hwi, if_true] at h
        by_cases he : eff oi.op = true
        · simp only [he, if_true] at h
          obtain ⟨v0, w0, hC0, h0⟩ := h.some
          obtain ⟨v, hv, _⟩ := ih' _ w0 (by rw [wj]; exact hw) hC0 h0
          simp only [ej] at hv
          refine ⟨v, hv, ?_⟩
          rw [wi]
          simp only [hwi, if_true, he]
          have h1 : effStep P oi (a.put oj.dst v) w (fun u w' => C w' ∧ wpT P ops C K t (a.put oi.dst u) w') := by
            unfold effStep at h ⊢
            rw [ei]
            exact h
          refine h1.mono fun u w' ⟨hC', h2⟩ => ⟨hC', ?_⟩
          obtain ⟨v', hv', h3⟩ := ih' _ w' (by rw [wj]; exact hw) hC' h2
          simp only [ej] at hv'
          have e1 := hv w hC
          have e2 := hv' w hC
          rw [e1] at e2
          have : v = v' := by simpa using e2
          subst this
          rw [cm] at h3
          exact h3
        · simp only [he] at h
          obtain ⟨u, hu, h⟩ := h
          obtain ⟨v, hv, h3⟩ := ih' _ w (by rw [wj]; exact hw) hC h
          simp only [ej] at hv
          refine ⟨v, hv, ?_⟩
          rw [wi]
          simp only [hwi, if_true, he]
          refine ⟨u, fun w' hC' => by rw [ei]; exact hu w' hC', ?_⟩
          rw [cm] at h3
          exact h3
      · simp only [hwi] at h
        obtain ⟨v, hv, h3⟩ := ih' _ w (by rw [wj]; exact hw) hC h
        simp only [ej] at hv
        refine ⟨v, hv, ?_⟩
        rw [wi]
        simp only [hwi]
        rw [cm] at h3
        exact h3

theorem swapT_skip (hF : FlM ops) {j : Nat} {oj : Oper} (hj : ops[j]? = some oj) : ∀ (t : OT) (rem : List Nat) (a : Act) (w : World), rem.Nodup → OkT ops t rem → j ∈ rem → (∀ i ∈ rem, ((masks ops.toList).getD j 0).testBit i = false) →
    Region.wanted oj (yielded ops a.tmps) = false → wpT P ops C K t a w → wpT P ops C K (t.del j) (a.put oj.dst undef) w
  | .nil, rem, a, w, hn, hok, hjr, hm, hw, h => by
    have : rem = [] := hok
    subst this
    cases hjr
  | .alt t u, rem, a, w, hn, ⟨o1, o2⟩, hjr, hm, hw, ⟨h1, h2⟩ => ⟨swapT_skip hF hj t rem a w hn o1 hjr hm hw h1, swapT_skip hF hj u rem a w hn o2 hjr hm hw h2⟩
  | .op i t, rem, a, w, hn, ⟨⟨oi, hi, _⟩, hir, him, hok⟩, hjr, hm, hw, h => by
    by_cases hij : i = j
    · subst hij
      rw [hj] at hi
      obtain rfl := Option.some.inj hi
      simp only [wpT, hj, hw, Bool.false_eq_true, if_false] at h
      simpa [OT.del] using h
    · have hji : j ∈ rem.erase i := (List.mem_erase_of_ne (fun h => hij h.symm)).2 hjr
      have ih' := fun a w => swapT_skip hF hj t (rem.erase i) a w (hn.erase i) hok hji (fun b hb => hm b (List.mem_of_mem_erase hb))
      have hap := pair_apart hF hij hi hj (hm i hir) (him j hjr)
      obtain ⟨p1, p2, p3⟩ := Oper.apart_spec hap
      have ki := hF.kind i oi hi
      have ei : ∀ (a : Act) v, execOp (a.put oj.dst v).eval oi = execOp a.eval oi := fun a v => exec_put ki a oj.dst v p3
      have wj : ∀ (a : Act) v, Region.wanted oj (yielded ops (a.put oi.dst v).tmps) = Region.wanted oj (yielded ops a.tmps) := fun a v => wanted_put oj a oi.dst v p1
      have wi : ∀ (a : Act) v, Region.wanted oi (yielded ops (a.put oj.dst v).tmps) = Region.wanted oi (yielded ops a.tmps) := fun a v => wanted_put oi a oj.dst v p3
      have cm : ∀ (a : Act) u v, (a.put oi.dst u).put oj.dst v = (a.put oj.dst v).put oi.dst u := fun a u v => Act.put_comm a u v p2
      have ed : (OT.op i t).del j = .op i (t.del j) := by simp [OT.del, hij]
      rw [ed]
      simp only [wpT, hi] at h ⊢
      rw [wi]
      by_cases hwi : Region.wanted oi (yielded ops a.tmps) = true
      · simp only [hwi, if_true] at h ⊢
        by_cases he : eff oi.op = true
        · simp only [he, if_true] at h ⊢
          have h1 : effStep P oi (a.put oj.dst undef) w (fun u w' => C w' ∧ wpT P ops C K t (a.put oi.dst u) w') := by
            unfold effStep at h ⊢
            rw [ei]
            exact h
          refine h1.mono fun u w' ⟨hC', h2⟩ => ⟨hC', ?_⟩
          have h3 := ih' _ w' (by rw [wj]; exact hw) h2
          rw [cm] at h3
          exact h3
        · simp only [he] at h ⊢
          obtain ⟨u, hu, h⟩ := h
          have h3 := ih' _ w (by rw [wj]; exact hw) h
          refine ⟨u, fun w' hC' => by rw [ei]; exact hu w' hC', ?_⟩
          rw [cm] at h3
          exact h3
      · simp only [hwi] at h ⊢
        have h3 := ih' _ w (by rw [wj]; exact hw) h
        rw [cm] at h3
        exact h3

theorem swapT_eff (hF : FlM ops) {j : Nat} {oj : Oper} (hj : ops[j]? = some oj) (he : eff oj.op = true) : ∀ (t t' : OT) (rem : List Nat) (a : Act) (w : World), rem.Nodup → OkT ops t rem → j ∈ rem → (∀ i ∈ rem, ((masks ops.toList).getD j 0).testBit i = false) →
    Region.wanted oj (yielded ops a.tmps) = true → t.take ops j = some t' → wpT P ops C K t a w → effStep P oj a w (fun v w' => C w' ∧ wpT P ops C K t' (a.put oj.dst v) w')
  | .nil, _, _, _, _, _, _, _, _, _, ht, _ => by simp [OT.take] at ht
  | .alt t u, t', rem, a, w, hn, ⟨o1, o2⟩, hjr, hm, hw, ht, ⟨h1, h2⟩ => by
    unfold OT.take at ht
    split at ht
    · rename_i x hx
      cases ht
      exact swapT_eff hF hj he t _ rem a w hn o1 hjr hm hw hx h1
    · exact swapT_eff hF hj he u t' rem a w hn o2 hjr hm hw ht h2
  | .op i t, t', rem, a, w, hn, ⟨⟨oi, hi, _⟩, hir, him, hok⟩, hjr, hm, hw, ht, h => by
    unfold OT.take at ht
    split at ht
    · rename_i hij
      subst hij
      cases ht
      rw [hj] at hi
      obtain rfl := Option.some.inj hi
      simp only [wpT, hj, hw, if_true, he] at h
      exact h
    · rename_i hij
      split at ht
      · cases ht
      · rename_i hei0
        have hei : eff oi.op = false := by simpa [isEff, hi] using hei0
        cases hx : t.take ops j with
        | none => rw [hx] at ht; cases ht
        | some x =>
          rw [hx] at ht
          cases ht
          have hji : j ∈ rem.erase i := (List.mem_erase_of_ne (fun h => hij h.symm)).2 hjr
          have ih' := fun a w => swapT_eff hF hj he t x (rem.erase i) a w (hn.erase i) hok hji (fun b hb => hm b (List.mem_of_mem_erase hb))
          have hap := pair_apart hF hij hi hj (hm i hir) (him j hjr)
          obtain ⟨p1, p2, p3⟩ := Oper.apart_spec hap
          have kj := hF.kind j oj hj
          have ki := hF.kind i oi hi
          have ej : ∀ (a : Act) v, execOp (a.put oi.dst v).eval oj = execOp a.eval oj := fun a v => exec_put kj a oi.dst v p1
          have ei : ∀ (a : Act) v, execOp (a.put oj.dst v).eval oi = execOp a.eval oi := fun a v => exec_put ki a oj.dst v p3
          have wj : ∀ (a : Act) v, Region.wanted oj (yielded ops (a.put oi.dst v).tmps) = Region.wanted oj (yielded ops a.tmps) := fun a v => wanted_put oj a oi.dst v p1
          have wi : ∀ (a : Act) v, Region.wanted oi (yielded ops (a.put oj.dst v).tmps) = Region.wanted oi (yielded ops a.tmps) := fun a v => wanted_put oi a oj.dst v p3
          have cm : ∀ (a : Act) u v, (a.put oi.dst u).put oj.dst v = (a.put oj.dst v).put oi.dst u := fun a u v => Act.put_comm a u v p2
          simp only [wpT, hi] at h
          by_cases hwi : Region.wanted oi (yielded ops a.tmps) = true
          · simp only [hwi, if_true, hei, Bool.false_eq_true, if_false] at h
            obtain ⟨u, hu, h⟩ := h
            have h3 := ih' _ w (by rw [wj]; exact hw) hx h
            have h4 : effStep P oj a w (fun v w' => C w' ∧ wpT P ops C K x ((a.put oi.dst u).put oj.dst v) w') := by
              unfold effStep at h3 ⊢
              rw [ej] at h3
              exact h3
            refine h4.mono fun v w' ⟨hC', h5⟩ => ⟨hC', ?_⟩
            simp only [wpT, hi]
            rw [wi]
            simp only [hwi, if_true, hei, Bool.false_eq_true, if_false]
            refine ⟨u, fun w' hC' => by rw [ei]; exact hu w' hC', ?_⟩
            rw [cm] at h5
            exact h5
          · simp only [hwi, Bool.false_eq_true, if_false] at h
            have h3 := ih' _ w (by rw [wj]; exact hw) hx h
            have h4 : effStep P oj a w (fun v w' => C w' ∧ wpT P ops C K x ((a.put oi.dst undef).put oj.dst v) w') := by
              unfold effStep at h3 ⊢
              rw [ej] at h3
              exact h3
            refine h4.mono fun v w' ⟨hC', h5⟩ => ⟨hC', ?_⟩
            simp only [wpT, hi]
            rw [wi]
            simp only [hwi, Bool.false_eq_true, if_false]
            rw [cm] at h5
            exact h5

theorem okT_end : ∀ (t : OT) (a : Act) (w : World), OkT ops t [] → wpT P ops C K t a w → K a w
  | .nil, _, _, _, h => h
  | .op i t, _, _, ⟨_, h2, _⟩, _ => by cases h2
  | .alt t _, a, w, ⟨h1, _⟩, ⟨h2, _⟩ => okT_end t a w h1 h2
theorem okT_first : ∀ (t : OT) (rem : List Nat), OkT ops t rem → rem ≠ [] → ∃ i ∈ rem, ∃ o, ops[i]? = some o ∧ ∀ e ∈ o.after, Region.binds .any e = true → e.on ∉ rem
  | .nil, rem, h, hne => absurd h hne
  | .op i t, rem, ⟨h1, h2, _⟩, _ => ⟨i, h2, h1⟩
  | .alt t _, rem, ⟨h1, _⟩, hne => okT_first t rem h1 hne

variable {ro : Cx} {Q : Fin}
theorem any_of_T (hF : FlM ops) (hK : ∀ a w, C w → K a w → Q .normal a w) : ∀ (fuel m : Nat) (t : OT) (rem : List Nat) (listed : Array Bool) (a : Act) (w : World),
    rem.length = fuel → rem.Nodup → listed.size = ops.size → (∀ i, i ∈ rem ↔ i < ops.size ∧ listed.getD i true = false) →
    (∀ (m : Nat) o, ops[m]? = some o → listed.getD m false = true → ∀ e ∈ o.after, Region.binds .any e = true → listed.getD e.on false = true) →
    OkT ops t rem → covT ops (masks ops.toList) m t = true → C w → wpT P ops C K t a w → wpAnyIn (FR ro.ro) 0 P .any ops Q fuel listed a w := by
  intro fuel
  induction fuel with
  | zero =>
    intro m t rem listed a w hl hn hsz hmem hcl hok hcov hC h
    have : rem = [] := by simpa using hl
    subst this
    refine ⟨?_, hK _ _ hC (okT_end t a w hok h)⟩
    refine List.eq_nil_iff_forall_not_mem.2 fun i hi => ?_
    obtain ⟨h0, o, ho, _⟩ := mem_ready.1 hi
    exact absurd ((hmem i).2 ⟨(Array.getElem?_eq_some_iff.1 ho).1, h0⟩) (by simp)
  | succ fuel ih =>
    intro m t rem listed a w hl hn hsz hmem hcl hok hcov hC h
    have hlist : ∀ x, x < ops.size → x ∉ rem → listed.getD x false = true := by
      intro x hx hr
      have h3 : ¬ (x < ops.size ∧ listed.getD x true = false) := fun hx => hr ((hmem x).2 hx)
      have h4 : x < listed.size := by omega
      simp only [Array.getD_eq_getD_getElem?, Array.getElem?_eq_getElem h4, Option.getD_some] at h3 ⊢
      cases hc : listed[x] with
      | true => rfl
      | false => exact absurd ⟨hx, hc⟩ h3
    have hunl : ∀ x, listed.getD x false = true → x ∉ rem := by
      intro x hx hr
      have h0 := ((hmem x).1 hr).2
      simp only [Array.getD_eq_getD_getElem?] at hx h0
      cases hc : listed[x]? <;> simp [hc] at hx h0
      simp [hx] at h0
    refine ⟨fun h0 => ?_, fun j hj => ?_⟩
    · exfalso
      obtain ⟨i, hir, o, ho, hd⟩ := okT_first t rem hok (by rintro rfl; simp at hl)
      have hrd : i ∈ Region.ready .any ops listed := by
        refine mem_ready.2 ⟨((hmem i).1 hir).2, o, ho, fun e he hb => ?_⟩
        by_cases hes : e.on < ops.size
        · exact hlist _ hes (hd e he hb)
        · exact (hF.edge i o ho e he hb hes).elim
      rw [h0] at hrd
      cases hrd
    · obtain ⟨h0, oj, hoj, hre⟩ := mem_ready.1 hj
      have hjr : j ∈ rem := (hmem j).2 ⟨(Array.getElem?_eq_some_iff.1 hoj).1, h0⟩
      have hun : ∀ i ∈ rem, ((masks ops.toList).getD j 0).testBit i = false := fun i hi => by
        cases hb : ((masks ops.toList).getD j 0).testBit i with
        | false => rfl
        | true => exact absurd hi (hunl i (masks_spec (D := fun m => listed.getD m false = true) (fun m o hm hD e he hb => hcl m o hm hD e he hb) j oj hoj (fun e he hb => hre e he hb) i hb))
      have next : ∀ m (t' : OT) a w, OkT ops t' (rem.erase j) → covT ops (masks ops.toList) m t' = true → C w → wpT P ops C K t' a w → wpAnyIn (FR ro.ro) 0 P .any ops Q fuel (listed.setIfInBounds j true) a w := by
        intro m t' a w hok hcov hC h
        refine ih m t' (rem.erase j) _ a w ?_ (hn.erase j) (by simp [hsz]) ?_ ?_ hok hcov hC h
        · rw [List.length_erase_of_mem hjr]; omega
        · intro i
          constructor
          · intro hi
            have hne : j ≠ i := fun e => by subst e; exact absurd hi (hn.not_mem_erase)
            have h1 := (hmem i).1 (List.mem_of_mem_erase hi)
            exact ⟨h1.1, by rw [getD_set_ne true hne]; exact h1.2⟩
          · rintro ⟨h1, h2⟩
            have hne : j ≠ i := fun e => by
              subst e
              simp [hsz, h1] at h2
            rw [getD_set_ne true hne] at h2
            exact (List.mem_erase_of_ne (fun h => hne h.symm)).2 ((hmem i).2 ⟨h1, h2⟩)
        · intro m o hm hD e he hb
          by_cases hmj : j = m
          · subst hmj
            rw [hoj] at hm
            obtain rfl := Option.some.inj hm
            exact getD_set_true (hre e he hb)
          · rw [getD_set_ne false hmj] at hD
            exact getD_set_true (hcl m o hm hD e he hb)
      unfold wpOpIn
      simp only [hoj]
      by_cases hw : Region.wanted oj (yielded ops a.tmps) = true
      · simp only [hw, if_true]
        cases he : eff oj.op with
        | true =>
          have hej : isEff ops j = true := by simp [isEff, hoj, he]
          have hje := (effs_rem t rem hok).2 j hjr hej
          cases m with
          | zero =>
            simp only [covT, List.isEmpty_iff] at hcov
            rw [hcov] at hje
            cases hje
          | succ m =>
            simp only [covT, List.all_eq_true] at hcov
            have h1 := hcov j hje
            rw [Bool.or_eq_true] at h1
            rcases h1 with h1 | h1
            · obtain ⟨i, hi, hb⟩ := List.any_eq_true.1 h1
              rw [hun i ((effs_rem t rem hok).1 i hi)] at hb
              cases hb
            · cases hx : t.take ops j with
              | none => rw [hx] at h1; cases h1
              | some x =>
                rw [hx] at h1
                have h2 := swapT_eff hF hoj he t x rem a w hn hok hjr hun hw hx h
                exact effStep.wpIn (hF.kind j oj hoj) (h2.mono fun v w' ⟨hC', h3⟩ => next m x _ _ (take_ok t x rem hn hok hjr hx) h1 hC' h3)
        | false =>
          have hej : isEff ops j = false := by simp [isEff, hoj, he]
          obtain ⟨v, hv, h2⟩ := swapT_quiet hF hoj he t rem a w hn hok hjr hun hw hC h
          exact upon_FR (fun c hc => by have := hF.kind j oj hoj; rw [hc] at this; cases this) (hv w hC) (next m _ _ _ (del_ok t rem hn hok hjr) (cov_del hej _ m t hcov) hC h2)
      · have hw' : Region.wanted oj (yielded ops a.tmps) = false := by simpa using hw
        have he : eff oj.op = false := by
          cases he : eff oj.op with
          | false => rfl
          | true =>
            have hg := hF.guard j oj hoj he
            exact absurd (by simp [Region.wanted, hg]) hw
        have hej : isEff ops j = false := by simp [isEff, hoj, he]
        simp only [hw', Bool.false_eq_true, if_false]
        exact ⟨fun f _ => fr_fn f, next m _ _ _ (del_ok t rem hn hok hjr) (cov_del hej _ m t hcov) hC (swapT_skip hF hoj t rem a w hn hok hjr hun hw' h)⟩

/-- The whole check. -/
def treeB (ops : Array Oper) (t : OT) : Bool := pairsB ops (masks ops.toList) && okT ops (masks ops.toList) t (List.range ops.size) && covT ops (masks ops.toList) ops.size t
theorem wpIn_region_T {id : Nat} {a : Act} {w : World} (t : OT) (hm : P.follows .mixedOrders = true) (hB : treeB ops t = true) (hC : C { w with drawn := w.drawn + 1 })
    (hK : ∀ a w, C w → K a w → Q .normal a w) (h : wpT P ops C K t a { w with drawn := w.drawn + 1 }) : (Code.region id ops true).wpIn (FR ro.ro) 0 P Q a w := by
  simp only [treeB, Bool.and_eq_true] at hB
  obtain ⟨⟨h1, h2⟩, h3⟩ := hB
  refine wpIn_region_any hm (any_of_T (pairsB_spec h1) hK ops.size ops.size t (List.range ops.size) _ a _ (by simp) List.nodup_range (by simp) ?_ ?_ (okT_spec t _ h2) h3 hC h)
  · intro i
    simp only [List.mem_range]
    constructor
    · intro hi
      exact ⟨hi, by simp [hi]⟩
    · exact fun hi => hi.1
  · intro m o _ hD
    simp only [Array.getD_eq_getD_getElem?, Array.getElem?_replicate] at hD
    split at hD <;> simp at hD
end
end Go.Eng

/- The engine, part B11: walks of a region by a tree of orders. -/
namespace Go.Eng
open Go Go.RowKit

section
variable {P : Program} {ro : Cx} {n : Nat} {F : Fin} {w0 : World} {M : Nat → Prop} {k : List It} {ops : Array Oper} {e : Env} {H Hq : List Ck}

structure QT (P : Program) (ro : Cx) (n : Nat) (F : Fin) (w0 : World) (M : Nat → Prop) (k : List It) (ops : Array Oper) (Hq : List Ck) (t : OT) (e : Env) (H : List Ck) : Prop where
  h : ∀ w, Sat w0 M (H ++ Hq) w → ∀ a, Fits n e a → a.defers = ro.ds → wpT P ops (Sat w0 M Hq) (fun a w => S P ro.ro F k .normal a w) t a w
def chainT : List Nat → OT → OT
  | [], t => t
  | i :: l, t => .op i (chainT l t)

theorem q_drawT {id : Nat} {l : List Oper} (t : OT) (Hq Hm : List Ck) (hH : Sp H (Hm ++ Hq)) (hm : P.follows .mixedOrders = true) (hB : treeB l.toArray t = true) (h : QT P ro n F w0 M k l.toArray Hq t e Hm) :
    Q P ro n F w0 M (.code (.region id l.toArray true) :: k) e H := .mk fun w hs a hf hd => by
  have hs1 := (hs.sp hH).keep (Chg.drew (N := []) w)
  exact wpIn_region_T t hm hB (C := Sat w0 M Hq) hs1.right (fun _ _ _ h => h) (h.h _ hs1 a hf hd)
theorem qt_nil (h : Q P ro n F w0 M k e (H ++ Hq)) : QT P ro n F w0 M k ops Hq .nil e H := ⟨fun w hs a hf hd => h.h w hs a hf hd⟩
theorem qt_alt {t u : OT} (h1 : QT P ro n F w0 M k ops Hq t e H) (h2 : QT P ro n F w0 M k ops Hq u e H) : QT P ro n F w0 M k ops Hq (.alt t u) e H :=
  ⟨fun w hs a hf hd => ⟨h1.h w hs a hf hd, h2.h w hs a hf hd⟩⟩
theorem wpT_chain {C : World → Prop} {K : Act → World → Prop} {t : OT} : ∀ (l : List Nat) (lo : List Oper) (a : Act) (w : World), l.map (fun i => ops[i]?) = lo.map some → wpFlL P ops C (wpT P ops C K t) lo a w → wpT P ops C K (chainT l t) a w
  | [], [], a, w, _, h => h
  | [], _ :: _, _, _, hl, _ => by cases hl
  | _ :: _, [], _, _, hl, _ => by cases hl
  | i :: l, o :: lo, a, w, hl, h => by
    simp only [List.map_cons, List.cons.injEq] at hl
    have ih : ∀ a w, wpFlL P ops C (wpT P ops C K t) lo a w → wpT P ops C K (chainT l t) a w := fun a w => wpT_chain l lo a w hl.2
    simp only [chainT, wpT, hl.1]
    simp only [wpFlL] at h
    split
    · rename_i hw
      rw [if_pos hw] at h
      split
      · rename_i he
        rw [if_pos he] at h
        exact h.mono fun v w' ⟨hC, h2⟩ => ⟨hC, ih _ _ h2⟩
      · rename_i he
        rw [if_neg he] at h
        obtain ⟨v, hv, h2⟩ := h
        exact ⟨v, hv, ih _ _ h2⟩
    · rename_i hw
      rw [if_neg hw] at h
      exact ih _ _ h
/-- The operations of these numbers. -/
inductive PickL (ops : Array Oper) : List Nat → List Oper → Prop
  | nil : PickL ops [] []
  | cons {i : Nat} {o : Oper} {l : List Nat} {lo : List Oper} : ops[i]? = some o → PickL ops l lo → PickL ops (i :: l) (o :: lo)
theorem PickL.map {l : List Nat} {lo : List Oper} (h : PickL ops l lo) : l.map (fun i => ops[i]?) = lo.map some := by
  induction h with
  | nil => rfl
  | cons h1 _ ih => simp [h1, ih]
theorem qt_seg {l : List Nat} {lo : List Oper} {t : OT} (hl : PickL ops l lo)
    (h : ∀ K1 : Act → World → Prop, (∀ e' H', QT P ro n F w0 M k ops Hq t e' H' → Q P ro n F w0 M (.k K1 :: k) e' (H' ++ Hq)) → QF P ro n F w0 M (.k K1 :: k) ops Hq lo e H) : QT P ro n F w0 M k ops Hq (chainT l t) e H :=
  ⟨fun w hs a hf hd => by
    have h1 := h (wpT P ops (Sat w0 M Hq) (fun a w => S P ro.ro F k .normal a w) t) (fun e' H' hq => .mk fun w' hs' a' hf' hd' => hq.h w' hs' a' hf' hd')
    exact wpT_chain l lo a w hl.map (h1.h w hs a hf hd)⟩

/-- What follows, once for all the ways that lead there. -/
theorem q_cut {σ : Type} {c : Code} (env : σ → Env) (hp : σ → List Ck) (main : ∀ s, Q P ro n F w0 M k (env s) (hp s))
    (first : ∀ K2 : Act → World → Prop, (∀ s e' H', Sub (env s) e' → Sp H' (hp s) → Q P ro n F w0 M (.k K2 :: k) e' H') → Q P ro n F w0 M (.code c :: .k K2 :: k) e H) : Q P ro n F w0 M (.code c :: k) e H := by
  have h1 := first (fun a w => S P ro.ro F k .normal a w) (fun s e' H' hs hH => .mk fun w hw a hf hd => (main s).h w (hw.sp hH) a (hf.sub hs) hd)
  have e1 : S P ro.ro F (.k (fun a w => S P ro.ro F k .normal a w) :: k) = S P ro.ro F k := by
    funext x a w
    cases x <;> rfl
  refine .mk fun w hs a hf hd => ?_
  have h2 := h1.h w hs a hf hd
  simp only [S] at h2 ⊢
  simp only [S] at e1
  rw [e1] at h2
  exact h2
end
end Go.Eng

/- Walks: the best choice. -/
namespace Go.Proofs.YtohlillcaadidaaGreat
open Go Go.Eng

set_option maxHeartbeats 4000000 in
theorem choose_ca (w : World) (bp bd bm : Nat) (r : Rg) (p : Ru) (vf : Vf) (shot wt st : Nat) (cl : Int) (h : PlAt w bp bd bm r p) (hm : MapAt w bm (keyF k4) eqV (liftF vf)) (hr : r.Right) (hp : p.Right) (h4 : shot ≤ 4) (hw3 : wt ≤ 3) (hst : st < r.drifts.length)
    (hcl : -r.clicks ≤ cl ∧ cl ≤ r.clicks) (hb : shot < 4 → FineV r vf (shot + 1) wt) (hbw : 0 < wt → FineV r vf shot (wt - 1)) :
    Ca Tryz.prog 94 [.pointer (some ⟨bp, 0, none⟩), plcV shot wt st cl] w fun v w' =>
      v = .tuple #[.agg #[.bool (chV r p (gvF vf (shot + 1) wt) (gvF vf shot (wt - 1)) shot wt st cl).1.1, .int .i64 (chV r p (gvF vf (shot + 1) wt) (gvF vf shot (wt - 1)) shot wt st cl).1.2], .int .i64 (chV r p (gvF vf (shot + 1) wt) (gvF vf shot (wt - 1)) shot wt st cl).2] ∧ Chg [] w w' := by
  have h0 := h
  have hm0 := hm
  obtain ⟨tp, hplb, hdk⟩ := h; have hdk0 := hdk; obtain ⟨cs, bt, hblk, lo, hi, ag, cg, ad, cd, af, cf, an, cn, rfl, hg, hdr, hf, hn⟩ := hdk
  have hC := hr.clicks
  have hin0 : inB cl (-r.clicks) r.clicks = true := inB_iff.2 hcl
  refine q_ofM (Sat.nil w M0) Tryz.func94 rfl (by simp [Tryz.ntmps94]) ?_
  (refine q_seq ?_; refine q_region ?_)
  refine ql_box rfl rfl (fun b2 => ?_)
  skip
  refine ql_box rfl rfl (fun b3 => ?_)
  skip
  refine ql_alloc zero74 rfl (fun b4 => ?_)
  (refine ql_pure tabOk rfl rfl ?_; refine q_nil ?_; refine q_seq ?_)
  refine q_cut (σ := Nat × Nat) (fun s => [(2, .pointer (some ⟨b2, 0, none⟩)), (3, .pointer (some ⟨b3, 0, none⟩)), (4, .pointer (some ⟨b4, 0, none⟩)), (6, .pointer (some ⟨s.1, 0, none⟩)), (7, .pointer (some ⟨s.2, 0, none⟩))])
    (fun s => [.pt s.2 [.int .i64 (shootV r p (gvF vf (shot + 1) wt) shot wt st cl cl)] 3, .pt s.1 [.bool false, .int .i64 cl] 74, .pt b4 [.bool false, .int .i64 0] 74, .pt b3 [.int .i64 shot, .int .i64 wt, .int .i64 st, .int .i64 cl] 110, .pt b2 [.pointer (some ⟨bp, 0, none⟩)] 105]) ?main (fun K2 hK2 => ?_)
  case main =>
    rintro ⟨b6, b7⟩
    dsimp only
    ((iterate 2 refine q_seq ?_))
    refine q_draw _ [] (Sp.refl _) (by kernel_rfl) (by kernel_rfl) ?_
    (refine qf_loadB tabOk rfl rfl rfl (by repeat first | exact .head _ | refine .tail _ ?_) (by rfl) ?_; (iterate 2 refine qf_pure tabOk rfl rfl rfl ?_); refine qf_loadP tabOk rfl rfl rfl (by assumption) (by rfl) ?_; refine qf_pure tabOk rfl rfl rfl ?_; refine qf_loadB tabOk rfl rfl rfl (by repeat first | exact .head _ | refine .tail _ ?_) (by rfl) ?_)
    refine qf_call (β := Nat × Nat) tabOk [] _ M0 rfl rfl rfl rfl (Sp.refl _) (fun _ h => h.elim) (fun w' hs => clicks_ca w' bd cl) ?_
    rintro ⟨bx, bn⟩ _ rfl
    (refine qf_nil ?_; refine q_block ?_)
    refine q_range (fun c => [Value.int .i64 c]) (Int × Int) (clickL r.clicks cl) (fun pre s => s = pre.foldl (chStep r p (gvF vf (shot + 1) wt) shot wt st cl) (cl, shootV r p (gvF vf (shot + 1) wt) shot wt st cl cl)) (fun _ _ => False)
      (fun s => [.pt b7 [.int .i64 s.2] 3, .pt b6 [.bool false, .int .i64 s.1] 74, .pt b3 [.int .i64 shot, .int .i64 wt, .int .i64 st, .int .i64 cl] 110, .pt b2 [.pointer (some ⟨bp, 0, none⟩)] 105]) [.pt bn [.int .i64 cl] 3, .pt bx [.pointer (some ⟨bd, 0, none⟩)] 84, .pt b4 [.bool false, .int .i64 0] 74] (cl, shootV r p (gvF vf (shot + 1) wt) shot wt st cl cl)
      rfl (by kernel_rfl) rfl (fun _ _ => rfl) rfl (by repeat (first | exact Sp.nil | exact Sp.refl _ | refine Sp.cons (by repeat constructor) ?_)) ?_ ?_ ?_ (fun _ _ _ h => h.elim)
    · intro w1 D hs hD
      exact clicks_it w w1 D bd bx bn cl r hdk0 (fun w' hc => hs.chg0.old hc (fun k hk => (hD k hk).2.resolve_left (fun h => h))) hC hin0 (hs.blk (by repeat first | exact .head _ | refine .tail _ ?_)) (hs.blk (by repeat first | exact .head _ | refine .tail _ ?_)) (fun h => (hD _ h).1 ⟨.pt bx [.pointer (some ⟨bd, 0, none⟩)] _, (by repeat first | exact .head _ | refine .tail _ ?_), rfl⟩) (fun h => (hD _ h).1 ⟨.pt bn [.int .i64 cl] _, (by repeat first | exact .head _ | refine .tail _ ?_), rfl⟩)
    · intro pre x post s w1 l rdy bsy K F' hx hI hsat hR hbegin hend hret hexit
      have hxin : -r.clicks ≤ x ∧ x ≤ r.clicks := inB_iff.1 (clickL_in _ _ hin0 x (by rw [hx]; simp))
      (refine q_region ?_; refine ql_pure tabOk rfl rfl ?_; refine q_nil ?_)
      refine hbegin _ _ ?_
      (refine q_block ?_; refine q_seq ?_; refine q_region ?_; refine ql_loadB tabOk rfl rfl rfl (by repeat first | exact .head _ | refine .tail _ ?_) (by rfl) ?_; refine ql_loadAB tabOk rfl rfl rfl (by repeat first | exact .head _ | refine .tail _ ?_) (by rfl) (by rfl) ?_; refine ql_pure tabOk rfl rfl ?_)
      refine ql_callv (val := .int .i64 (shootV r p (gvF vf (shot + 1) wt) shot wt st cl x)) tabOk rfl rfl rfl rfl (fun w hs => ?_) ?_; exact shoot_ca w bp bd bm r p vf shot wt st cl x (h0.keep (hR w hs.chg).chg0) (hm0.keep (hR w hs.chg).chg0) hr hp h4 hw3 hst hcl hxin hb
      (refine ql_pure tabOk rfl rfl ?_; refine q_nil ?_; refine q_seq ?_; refine q_region ?_; refine ql_pure tabOk rfl rfl ?_; refine ql_loadB tabOk rfl rfl rfl (by repeat first | exact .head _ | refine .tail _ ?_) (by rfl) ?_; refine ql_pure tabOk rfl rfl ?_; refine q_nil ?_)
      refine q_if rfl (fun hc => ?_) (fun hc => ?_)
      · (refine q_region ?_; refine ql_pure tabOk rfl rfl ?_)
        refine ql_mk #[.bool false, .int .i64 x] rfl (by kernel_rfl) rfl ?_
        (refine ql_pure tabOk rfl rfl ?_; refine ql_setA tabOk rfl rfl rfl rfl rfl (by repeat constructor) rfl ?_; refine ql_set tabOk rfl rfl rfl rfl (by repeat constructor) ?_; refine q_nil ?_; refine q_blk ?_)
        refine hend _ _ (x, shootV r p (gvF vf (shot + 1) wt) shot wt st cl x) ?_ (by repeat (first | exact Sp.nil | exact Sp.refl _ | refine Sp.cons (by repeat constructor) ?_))
        rw [List.foldl_append, ← hI]
        simp [chStep, hc]
      · (refine q_skip ?_; refine q_blk ?_)
        refine hend _ _ s ?_ (by repeat (first | exact Sp.nil | exact Sp.refl _ | refine Sp.cons (by repeat constructor) ?_))
        rw [List.foldl_append, ← hI]
        simp [chStep, hc]
    · rintro D s rfl
      (refine q_blk ?_; (iterate 2 refine q_seq ?_); refine q_region ?_; refine ql_pure tabOk rfl rfl ?_; refine ql_loadB tabOk rfl rfl rfl (by repeat first | exact .head _ | refine .tail _ ?_) (by rfl) ?_; refine ql_pure tabOk rfl rfl ?_; refine q_nil ?_)
      have hcs : (clickL r.clicks cl).foldl (chStep r p (gvF vf (shot + 1) wt) shot wt st cl) (cl, shootV r p (gvF vf (shot + 1) wt) shot wt st cl cl) = chClick r p (gvF vf (shot + 1) wt) shot wt st cl := rfl
      rw [hcs]
      refine q_if rfl (fun hc => ?_) (fun hc => ?_)
      · have hw0 : 0 < wt := by omega
        (refine q_seq ?_; refine q_region ?_; refine ql_loadB tabOk rfl rfl rfl (by repeat first | exact .head _ | refine .tail _ ?_) (by rfl) ?_; refine ql_loadAB tabOk rfl rfl rfl (by repeat first | exact .head _ | refine .tail _ ?_) (by rfl) (by rfl) ?_)
        refine ql_callv (val := .int .i64 (waitV r p (gvF vf shot (wt - 1)) shot wt st cl)) tabOk rfl rfl rfl rfl (fun w hs => ?_) ?_; exact waitF_ca w bp bd bm r p vf shot wt st cl (h0.keep hs.chg0) (hm0.keep hs.chg0) hr hp h4 hw0 hw3 hst hcl (hbw hw0)
        (refine ql_pure tabOk rfl rfl ?_; refine q_nil ?_; refine q_seq ?_; refine q_region ?_; refine ql_pure tabOk rfl rfl ?_; refine ql_loadB tabOk rfl rfl rfl (by repeat first | exact .head _ | refine .tail _ ?_) (by rfl) ?_; refine ql_pure tabOk rfl rfl ?_; refine q_nil ?_)
        refine q_if rfl (fun hc => ?_) (fun hc => ?_)
        · (refine q_region ?_)
          refine ql_mk #[.bool true, .int .i64 0] rfl (by kernel_rfl) rfl ?_
          (refine ql_pure tabOk rfl rfl ?_; refine ql_setA tabOk rfl rfl rfl rfl rfl (by repeat constructor) rfl ?_; refine ql_set tabOk rfl rfl rfl rfl (by repeat constructor) ?_; refine q_nil ?_; refine q_seq ?_)
          refine q_draw _ [.pt b4 _ _] (Sp.cons (by repeat constructor) (Sp.refl _)) (by kernel_rfl) (by kernel_rfl) ?_
          (refine qf_loadAB tabOk rfl rfl rfl (by repeat first | exact .head _ | refine .tail _ ?_) (by rfl) (by rfl) ?_; refine qf_loadB tabOk rfl rfl rfl (by repeat first | exact .head _ | refine .tail _ ?_) (by rfl) ?_; refine qf_setA tabOk rfl rfl rfl rfl rfl (by repeat constructor) rfl ?_; refine qf_pure tabOk rfl rfl rfl ?_; refine qf_nil ?_; refine q_ret ?_)
          refine q_finMD tabOk (by repeat constructor) rfl (by repeat (first | exact RVs.nil | apply RVs.tmp rfl | apply RVs.cellA rfl rfl (by repeat first | exact .head _ | refine .tail _ ?_) (by rfl) | apply RVs.cell1 rfl rfl (by repeat first | exact .head _ | refine .tail _ ?_))) fun w hs => ?_
          refine ⟨?_, hs.chg0⟩
          have e : chV r p (gvF vf (shot + 1) wt) (gvF vf shot (wt - 1)) shot wt st cl = ((true, 0), waitV r p (gvF vf shot (wt - 1)) shot wt st cl) := by unfold chV; simp only; rw [if_pos hw0, if_pos hc]
          rw [e]; rfl
        · (refine q_skip ?_; refine q_seq ?_)
          refine q_draw _ [.pt b4 _ _] (Sp.cons (by repeat constructor) (Sp.refl _)) (by kernel_rfl) (by kernel_rfl) ?_
          (refine qf_loadAB tabOk rfl rfl rfl (by repeat first | exact .head _ | refine .tail _ ?_) (by rfl) (by rfl) ?_; refine qf_loadB tabOk rfl rfl rfl (by repeat first | exact .head _ | refine .tail _ ?_) (by rfl) ?_; refine qf_setA tabOk rfl rfl rfl rfl rfl (by repeat constructor) rfl ?_; refine qf_pure tabOk rfl rfl rfl ?_; refine qf_nil ?_; refine q_ret ?_)
          refine q_finMD tabOk (by repeat constructor) rfl (by repeat (first | exact RVs.nil | apply RVs.tmp rfl | apply RVs.cellA rfl rfl (by repeat first | exact .head _ | refine .tail _ ?_) (by rfl) | apply RVs.cell1 rfl rfl (by repeat first | exact .head _ | refine .tail _ ?_))) fun w hs => ?_
          refine ⟨?_, hs.chg0⟩
          have e : chV r p (gvF vf (shot + 1) wt) (gvF vf shot (wt - 1)) shot wt st cl = ((false, (chClick r p (gvF vf (shot + 1) wt) shot wt st cl).1), (chClick r p (gvF vf (shot + 1) wt) shot wt st cl).2) := by unfold chV; simp only; rw [if_pos hw0, if_neg hc]
          rw [e]; rfl
      · have hw0 : ¬ 0 < wt := by omega
        (refine q_skip ?_; refine q_seq ?_)
        refine q_draw _ [.pt b4 _ _] (Sp.cons (by repeat constructor) (Sp.refl _)) (by kernel_rfl) (by kernel_rfl) ?_
        (refine qf_loadAB tabOk rfl rfl rfl (by repeat first | exact .head _ | refine .tail _ ?_) (by rfl) (by rfl) ?_; refine qf_loadB tabOk rfl rfl rfl (by repeat first | exact .head _ | refine .tail _ ?_) (by rfl) ?_; refine qf_setA tabOk rfl rfl rfl rfl rfl (by repeat constructor) rfl ?_; refine qf_pure tabOk rfl rfl rfl ?_; refine qf_nil ?_; refine q_ret ?_)
        refine q_finMD tabOk (by repeat constructor) rfl (by repeat (first | exact RVs.nil | apply RVs.tmp rfl | apply RVs.cellA rfl rfl (by repeat first | exact .head _ | refine .tail _ ?_) (by rfl) | apply RVs.cell1 rfl rfl (by repeat first | exact .head _ | refine .tail _ ?_))) fun w hs => ?_
        refine ⟨?_, hs.chg0⟩
        have e : chV r p (gvF vf (shot + 1) wt) (gvF vf shot (wt - 1)) shot wt st cl = ((false, (chClick r p (gvF vf (shot + 1) wt) shot wt st cl).1), (chClick r p (gvF vf (shot + 1) wt) shot wt st cl).2) := by unfold chV; simp only; rw [if_neg hw0]
        rw [e]; rfl
  refine q_drawT (chainT [0, 1, 2, 3, 4, 5, 6] (.alt (chainT [7] (.alt (chainT [8, 9, 10, 11] .nil) (chainT [9, 8, 10, 11] .nil))) (.alt (chainT [8] (.alt (chainT [7, 9, 10, 11] .nil) (chainT [9, 7, 10, 11] .nil))) (chainT [9] (.alt (chainT [7, 8, 10, 11] .nil) (chainT [8, 7, 10, 11] .nil)))))) _ [] (Sp.refl _) (by kernel_rfl) (by kernel_rfl) ?_
  refine qt_seg (by repeat (first | exact PickL.nil | (apply PickL.cons; rfl))) fun K1 hK1 => ?_
  (refine qf_pure tabOk rfl rfl rfl ?_; refine qf_loadB tabOk rfl rfl rfl (by repeat first | exact .head _ | refine .tail _ ?_) (by rfl) ?_)
  refine qf_mk #[.bool false, .int .i64 cl] rfl (by kernel_rfl) rfl ?_
  (refine qf_loadB tabOk rfl rfl rfl (by repeat first | exact .head _ | refine .tail _ ?_) (by rfl) ?_; refine qf_loadAB tabOk rfl rfl rfl (by repeat first | exact .head _ | refine .tail _ ?_) (by rfl) (by rfl) ?_; refine qf_pure tabOk rfl rfl rfl ?_; refine qf_loadB tabOk rfl rfl rfl (by repeat first | exact .head _ | refine .tail _ ?_) (by rfl) ?_; refine qf_nil ?_)
  refine hK1 _ _ (qt_alt (qt_seg (by repeat (first | exact PickL.nil | (apply PickL.cons; rfl))) fun K3 hK3 => ?_) (qt_alt (qt_seg (by repeat (first | exact PickL.nil | (apply PickL.cons; rfl))) fun K3 hK3 => ?_) (qt_seg (by repeat (first | exact PickL.nil | (apply PickL.cons; rfl))) fun K3 hK3 => ?_)))
  · refine qf_callv (val := .int .i64 (shootV r p (gvF vf (shot + 1) wt) shot wt st cl cl)) tabOk rfl rfl rfl rfl (fun w hs => ?_) ?_; exact shoot_ca w bp bd bm r p vf shot wt st cl cl (h0.keep hs.chg0) (hm0.keep hs.chg0) hr hp h4 hw3 hst hcl hcl hb
    (refine qf_nil ?_)
    refine hK3 _ _ (qt_alt (qt_seg (by repeat (first | exact PickL.nil | (apply PickL.cons; rfl))) fun K4 hK4 => ?_) (qt_seg (by repeat (first | exact PickL.nil | (apply PickL.cons; rfl))) fun K4 hK4 => ?_))
    · refine qf_alloc zero74 rfl (fun b6 => ?_)
      refine qf_alloc zero3 rfl (fun b7 => ?_)
      (refine qf_setA tabOk rfl rfl rfl rfl rfl (by repeat constructor) rfl ?_; refine qf_set tabOk rfl rfl rfl rfl (by repeat constructor) ?_; refine qf_nil ?_)
      exact hK4 _ _ (qt_nil (hK2 (b6, b7) _ _ ⟨rfl, rfl, rfl, rfl, rfl, trivial⟩ (by repeat (first | exact Sp.nil | exact Sp.refl _ | refine Sp.cons (by repeat constructor) ?_))))
    · refine qf_alloc zero3 rfl (fun b7 => ?_)
      refine qf_alloc zero74 rfl (fun b6 => ?_)
      (refine qf_setA tabOk rfl rfl rfl rfl rfl (by repeat constructor) rfl ?_; refine qf_set tabOk rfl rfl rfl rfl (by repeat constructor) ?_; refine qf_nil ?_)
      exact hK4 _ _ (qt_nil (hK2 (b6, b7) _ _ ⟨rfl, rfl, rfl, rfl, rfl, trivial⟩ (by repeat (first | exact Sp.nil | exact Sp.refl _ | refine Sp.cons (by repeat constructor) ?_))))
  · refine qf_alloc zero74 rfl (fun b6 => ?_)
    (refine qf_nil ?_)
    refine hK3 _ _ (qt_alt (qt_seg (by repeat (first | exact PickL.nil | (apply PickL.cons; rfl))) fun K4 hK4 => ?_) (qt_seg (by repeat (first | exact PickL.nil | (apply PickL.cons; rfl))) fun K4 hK4 => ?_))
    · refine qf_callv (val := .int .i64 (shootV r p (gvF vf (shot + 1) wt) shot wt st cl cl)) tabOk rfl rfl rfl rfl (fun w hs => ?_) ?_; exact shoot_ca w bp bd bm r p vf shot wt st cl cl (h0.keep hs.chg0) (hm0.keep hs.chg0) hr hp h4 hw3 hst hcl hcl hb
      skip
      refine qf_alloc zero3 rfl (fun b7 => ?_)
      (refine qf_setA tabOk rfl rfl rfl rfl rfl (by repeat constructor) rfl ?_; refine qf_set tabOk rfl rfl rfl rfl (by repeat constructor) ?_; refine qf_nil ?_)
      exact hK4 _ _ (qt_nil (hK2 (b6, b7) _ _ ⟨rfl, rfl, rfl, rfl, rfl, trivial⟩ (by repeat (first | exact Sp.nil | exact Sp.refl _ | refine Sp.cons (by repeat constructor) ?_))))
    · refine qf_alloc zero3 rfl (fun b7 => ?_)
      refine qf_callv (val := .int .i64 (shootV r p (gvF vf (shot + 1) wt) shot wt st cl cl)) tabOk rfl rfl rfl rfl (fun w hs => ?_) ?_; exact shoot_ca w bp bd bm r p vf shot wt st cl cl (h0.keep hs.chg0) (hm0.keep hs.chg0) hr hp h4 hw3 hst hcl hcl hb
      (refine qf_setA tabOk rfl rfl rfl rfl rfl (by repeat constructor) rfl ?_; refine qf_set tabOk rfl rfl rfl rfl (by repeat constructor) ?_; refine qf_nil ?_)
      exact hK4 _ _ (qt_nil (hK2 (b6, b7) _ _ ⟨rfl, rfl, rfl, rfl, rfl, trivial⟩ (by repeat (first | exact Sp.nil | exact Sp.refl _ | refine Sp.cons (by repeat constructor) ?_))))
  · refine qf_alloc zero3 rfl (fun b7 => ?_)
    (refine qf_nil ?_)
    refine hK3 _ _ (qt_alt (qt_seg (by repeat (first | exact PickL.nil | (apply PickL.cons; rfl))) fun K4 hK4 => ?_) (qt_seg (by repeat (first | exact PickL.nil | (apply PickL.cons; rfl))) fun K4 hK4 => ?_))
    · refine qf_callv (val := .int .i64 (shootV r p (gvF vf (shot + 1) wt) shot wt st cl cl)) tabOk rfl rfl rfl rfl (fun w hs => ?_) ?_; exact shoot_ca w bp bd bm r p vf shot wt st cl cl (h0.keep hs.chg0) (hm0.keep hs.chg0) hr hp h4 hw3 hst hcl hcl hb
      skip
      refine qf_alloc zero74 rfl (fun b6 => ?_)
      (refine qf_setA tabOk rfl rfl rfl rfl rfl (by repeat constructor) rfl ?_; refine qf_set tabOk rfl rfl rfl rfl (by repeat constructor) ?_; refine qf_nil ?_)
      exact hK4 _ _ (qt_nil (hK2 (b6, b7) _ _ ⟨rfl, rfl, rfl, rfl, rfl, trivial⟩ (by repeat (first | exact Sp.nil | exact Sp.refl _ | refine Sp.cons (by repeat constructor) ?_))))
    · refine qf_alloc zero74 rfl (fun b6 => ?_)
      refine qf_callv (val := .int .i64 (shootV r p (gvF vf (shot + 1) wt) shot wt st cl cl)) tabOk rfl rfl rfl rfl (fun w hs => ?_) ?_; exact shoot_ca w bp bd bm r p vf shot wt st cl cl (h0.keep hs.chg0) (hm0.keep hs.chg0) hr hp h4 hw3 hst hcl hcl hb
      (refine qf_setA tabOk rfl rfl rfl rfl rfl (by repeat constructor) rfl ?_; refine qf_set tabOk rfl rfl rfl rfl (by repeat constructor) ?_; refine qf_nil ?_)
      exact hK4 _ _ (qt_nil (hK2 (b6, b7) _ _ ⟨rfl, rfl, rfl, rfl, rfl, trivial⟩ (by repeat (first | exact Sp.nil | exact Sp.refl _ | refine Sp.cons (by repeat constructor) ?_))))

end Go.Proofs.YtohlillcaadidaaGreat

/- Walks: all situations, one after the other. -/
namespace Go.Proofs.YtohlillcaadidaaGreat
open Go Go.Eng

abbrev Plc := Nat × Nat × Nat × Int
def encP (x : Plc) : List Value := [plcV x.1 x.2.1 x.2.2.1 x.2.2.2]
def pl4 (r : Rg) (sh wt st : Nat) (i : Nat) : List Plc := [(sh, wt, st, -r.clicks + (i : Int))]
def pl3 (r : Rg) (sh wt st : Nat) : List Plc := (List.range (2 * r.clicks + 1).toNat).flatMap (pl4 r sh wt st)
def pl2 (r : Rg) (sh wt : Nat) : List Plc := (List.range r.drifts.length).flatMap (pl3 r sh wt)
def pl1 (r : Rg) (p : Ru) (sh : Nat) : List Plc := (List.range (p.waits + 1).toNat).flatMap (pl2 r sh)
/-- All situations, in their order. -/
def plcL (r : Rg) (p : Ru) : List Plc := (List.range 5).flatMap (pl1 r p)
theorem rangeF_succ {α : Type} (f : Nat → List α) (k : Nat) : (List.range (k + 1)).flatMap f = (List.range k).flatMap f ++ f k := by simp [List.range_succ]
theorem rangeF_split {α : Type} (f : Nat → List α) {k n : Nat} (h : k < n) : ∃ rest, (List.range n).flatMap f = (List.range k).flatMap f ++ (f k ++ rest) := by
  induction n with
  | zero => omega
  | succ n ih =>
    by_cases h2 : k = n
    · subst h2
      exact ⟨[], by rw [rangeF_succ, List.append_nil]⟩
    · obtain ⟨rest, hr⟩ := ih (by omega)
      exact ⟨rest ++ f n, by rw [rangeF_succ, hr]; simp⟩
theorem plcL_split (r : Rg) (p : Ru) {sh wt st i : Nat} (h1 : sh < 5) (h2 : wt < (p.waits + 1).toNat) (h3 : st < r.drifts.length) (h4 : i < (2 * r.clicks + 1).toNat) :
    ∃ post, plcL r p = ((List.range sh).flatMap (pl1 r p) ++ ((List.range wt).flatMap (pl2 r sh) ++ ((List.range st).flatMap (pl3 r sh wt) ++ (List.range i).flatMap (pl4 r sh wt st)))) ++ (sh, wt, st, -r.clicks + (i : Int)) :: post := by
  obtain ⟨a, ha⟩ := rangeF_split (pl1 r p) h1
  obtain ⟨b, hb⟩ := rangeF_split (pl2 r sh) h2
  obtain ⟨c, hc⟩ := rangeF_split (pl3 r sh wt) h3
  obtain ⟨d, hd⟩ := rangeF_split (pl4 r sh wt st) h4
  refine ⟨d ++ (c ++ (b ++ a)), ?_⟩
  unfold plcL
  rw [ha]
  have e1 : pl1 r p sh = (List.range (p.waits + 1).toNat).flatMap (pl2 r sh) := rfl
  have e2 : pl2 r sh wt = (List.range r.drifts.length).flatMap (pl3 r sh wt) := rfl
  have e3 : pl3 r sh wt st = (List.range (2 * r.clicks + 1).toNat).flatMap (pl4 r sh wt st) := rfl
  rw [e1, hb, e2, hc, e3, hd]
  simp [pl4]

/-- What is known of a function that is called for each situation. -/
theorem eachF {α σ : Type} {enc : α → List Value} {xs : List α} {w : World} {fv : Value} {L : σ → List Ck} {I : List α → σ → Prop} {s0 : σ}
    (hcb : ∀ pre x post s w', xs = pre ++ x :: post → I pre s → Sat w (DL (L s0)) (L s) w' → CaF Tryz.prog fv (enc x) w' (fun _ w'' => ∃ s', I (pre ++ [x]) s' ∧ Sat w' (DL (L s)) (L s') w''))
    {pre : List α} {x : α} {post : List α} {s : σ} (hx : xs = pre ++ x :: post) (hI : I pre s) {R : List Ck} : ∀ w', Sat w (DL (L s0)) ([un (L s)] ++ R) w' →
      CaF Tryz.prog fv (enc x) w' (fun v w'' => ∃ s', I (pre ++ [x]) s' ∧ Sat w' (DL (L s)) [un (L s')] w'') := fun w' hs => by
  have h1 : Sat w (DL (L s0)) (L s) w' := (Sat.un_iff.1 hs).sp (by
    have key : ∀ (A B : List Ck), Sp (A ++ B) A := by
      intro A B
      induction A with
      | nil => exact .nil
      | cons a A ih => exact .cons .z ih
    exact key _ _)
  exact (hcb pre x post s w' hx hI h1).mono fun v w'' ⟨s', h2, h3⟩ => ⟨s', h2, Sat.un1.2 h3⟩

set_option maxHeartbeats 4000000 in
theorem situations_ca {σ : Type} (w : World) (bp bd bm : Nat) (r : Rg) (p : Ru) (fv : Value) (L : σ → List Ck) (I : List Plc → σ → Prop) (s0 : σ) (tp td : TypeId) (cs : List Value) (hrg : RgC w cs r) (hr : r.Right) (hp : p.Right)
    (hplb : ∀ w', ChgP (DL (L s0)) w w' → Blk w' bp [.pointer (some ⟨bd, 0, none⟩), .int .i64 p.miss, .int .i64 p.click, .int .i64 p.wait, .int .i64 p.waits, .map (some bm)] tp) (hdkb : ∀ w', ChgP (DL (L s0)) w w' → Blk w' bd cs td)
    (hI0 : I [] s0) (hsat : Sat w (DL (L s0)) (L s0) w)
    (hcb : ∀ pre x post s w', plcL r p = pre ++ x :: post → I pre s → Sat w (DL (L s0)) (L s) w' → CaF Tryz.prog fv (encP x) w' (fun _ w'' => ∃ s', I (pre ++ [x]) s' ∧ Sat w' (DL (L s)) (L s') w'')) :
    Ca Tryz.prog 58 [.pointer (some ⟨bp, 0, none⟩), fv] w fun _ w' => ∃ s', I (plcL r p) s' ∧ Sat w (DL (L s0)) (L s') w' := by
  obtain ⟨lo, hi, ag, cg, ad, cd, af, cf, an, cn, rfl, hg, hdr, hf, hn⟩ := hrg
  have hC := hr.clicks
  have hD := hr.d2
  have hW := hp.waits
  refine q_of (H := [un (L s0)]) (Sat.un1.2 hsat) Tryz.func58 rfl (by simp [Tryz.ntmps58]) ?_
  (refine q_seq ?_; refine q_region ?_; refine ql_pure tabOk rfl rfl ?_; refine q_nil ?_; refine q_block ?_)
  refine q_loop (σ := Nat × σ) (fun q => q.1 ≤ 5 ∧ I ((List.range q.1).flatMap (pl1 r p)) q.2) (fun q => 5 - q.1) (fun q => [(0, .pointer (some ⟨bp, 0, none⟩)), (1, fv), (8, .int .i64 q.1)]) (fun q => [un (L q.2)]) (0, s0) ⟨by omega, hI0⟩ ⟨rfl, rfl, rfl, trivial⟩ (Sp.refl _) ?_
  rintro ⟨sh, s⟩ ⟨hsh, hI⟩ K1 hK1
  simp only at hsh hI
  dsimp only
  (refine q_seq ?_; refine q_region ?_; refine ql_pure tabOk rfl rfl ?_; refine q_nil ?_; refine q_seq ?_)
  refine q_if rfl (fun hc => ?_) (fun hc => ?_)
  · have hsh2 : sh < 5 := by omega
    clear hc
    (refine q_skip ?_; refine q_seq ?_; refine q_block ?_; refine q_seq ?_; refine q_region ?_; (iterate 2 refine ql_pure tabOk rfl rfl ?_); refine q_nil ?_; refine q_seq ?_; refine q_region ?_; (iterate 4 refine ql_pure tabOk rfl rfl ?_); refine ql_loadG tabOk rfl rfl rfl (by assumption) (by rfl) ?_; refine ql_ar tabOk rfl rfl rfl rfl (by omega) (by omega) ?_; refine ql_pure tabOk rfl rfl ?_; refine q_nil ?_; refine q_block ?_)
    refine q_loop (σ := Nat × σ) (fun q => q.1 ≤ (p.waits + 1).toNat ∧ I ((List.range sh).flatMap (pl1 r p) ++ (List.range q.1).flatMap (pl2 r sh)) q.2) (fun q => (p.waits + 1).toNat - q.1) (fun q => [(0, .pointer (some ⟨bp, 0, none⟩)), (1, fv), (4, .int .i64 sh), (8, .int .i64 sh), (16, .int .i64 (p.waits + 1)), (17, .int .i64 q.1)]) (fun q => [un (L q.2)]) (0, s) ⟨by omega, by simpa using hI⟩ ⟨rfl, rfl, rfl, rfl, rfl, rfl, trivial⟩ (Sp.refl _) ?_
    clear hI
    rintro ⟨wt, s⟩ ⟨hwt, hI⟩ K2 hK2
    simp only at hwt hI
    dsimp only
    (refine q_seq ?_; refine q_region ?_; refine ql_pure tabOk rfl rfl ?_; refine q_nil ?_; refine q_seq ?_)
    refine q_if rfl (fun hc => ?_) (fun hc => ?_)
    · have hwt2 : wt < (p.waits + 1).toNat := by omega
      clear hc
      (refine q_skip ?_; refine q_seq ?_; refine q_block ?_; refine q_seq ?_; refine q_region ?_; (iterate 2 refine ql_pure tabOk rfl rfl ?_); refine q_nil ?_; refine q_seq ?_; refine q_region ?_; (iterate 3 refine ql_pure tabOk rfl rfl ?_); refine ql_loadG tabOk rfl rfl rfl (by assumption) (by rfl) ?_; (iterate 3 refine ql_pure tabOk rfl rfl ?_); refine ql_loadG tabOk rfl rfl rfl (by assumption) (by rfl) ?_; (iterate 2 refine ql_pure tabOk rfl rfl ?_); refine q_nil ?_; refine q_block ?_)
      refine q_loop (σ := Nat × σ) (fun q => q.1 ≤ r.drifts.length ∧ I ((List.range sh).flatMap (pl1 r p) ++ ((List.range wt).flatMap (pl2 r sh) ++ (List.range q.1).flatMap (pl3 r sh wt))) q.2) (fun q => r.drifts.length - q.1) (fun q => [(0, .pointer (some ⟨bp, 0, none⟩)), (1, fv), (4, .int .i64 sh), (5, .int .i64 wt), (8, .int .i64 sh), (16, .int .i64 (p.waits + 1)), (17, .int .i64 wt), (28, .int .i64 r.drifts.length), (29, .int .i64 q.1)]) (fun q => [un (L q.2)]) (0, s) ⟨by omega, by simpa using hI⟩ ⟨rfl, rfl, rfl, rfl, rfl, rfl, rfl, rfl, rfl, trivial⟩ (Sp.refl _) ?_
      clear hI
      rintro ⟨st, s⟩ ⟨hst, hI⟩ K3 hK3
      simp only at hst hI
      dsimp only
      (refine q_seq ?_; refine q_region ?_; refine ql_pure tabOk rfl rfl ?_; refine q_nil ?_; refine q_seq ?_)
      refine q_if rfl (fun hc => ?_) (fun hc => ?_)
      · have hst2 : st < r.drifts.length := by omega
        clear hc
        (refine q_skip ?_; refine q_seq ?_; refine q_block ?_; refine q_seq ?_; refine q_region ?_; (iterate 2 refine ql_pure tabOk rfl rfl ?_); refine q_nil ?_; refine q_seq ?_; refine q_region ?_; (iterate 3 refine ql_pure tabOk rfl rfl ?_); refine ql_loadG tabOk rfl rfl rfl (by assumption) (by rfl) ?_; (iterate 3 refine ql_pure tabOk rfl rfl ?_); refine ql_loadG tabOk rfl rfl rfl (by assumption) (by rfl) ?_; refine ql_neg tabOk rfl rfl (by omega) (by omega) ?_; refine ql_pure tabOk rfl rfl ?_; refine q_nil ?_; refine q_block ?_)
        refine q_loop (σ := Nat × σ) (fun q => q.1 ≤ (2 * r.clicks + 1).toNat ∧ I ((List.range sh).flatMap (pl1 r p) ++ ((List.range wt).flatMap (pl2 r sh) ++ ((List.range st).flatMap (pl3 r sh wt) ++ (List.range q.1).flatMap (pl4 r sh wt st)))) q.2) (fun q => (2 * r.clicks + 1).toNat - q.1) (fun q => [(0, .pointer (some ⟨bp, 0, none⟩)), (1, fv), (4, .int .i64 sh), (5, .int .i64 wt), (6, .int .i64 st), (7, .int .i64 (-r.clicks + (q.1 : Int))), (8, .int .i64 sh), (16, .int .i64 (p.waits + 1)), (17, .int .i64 wt), (28, .int .i64 r.drifts.length), (29, .int .i64 st)]) (fun q => [un (L q.2)]) (0, s) ⟨by omega, by simpa using hI⟩ ⟨rfl, rfl, rfl, rfl, rfl, lookI rfl (by simp), rfl, rfl, rfl, rfl, rfl, trivial⟩ (Sp.refl _) ?_
        clear hI
        rintro ⟨i, s⟩ ⟨hi, hI⟩ K4 hK4
        simp only at hi hI
        dsimp only
        ((iterate 2 refine q_seq ?_); refine q_region ?_; (iterate 4 refine ql_pure tabOk rfl rfl ?_); refine ql_loadG tabOk rfl rfl rfl (by assumption) (by rfl) ?_; (iterate 3 refine ql_pure tabOk rfl rfl ?_); refine ql_loadG tabOk rfl rfl rfl (by assumption) (by rfl) ?_; refine ql_pure tabOk rfl rfl ?_; refine q_nil ?_)
        refine q_if rfl (fun hc => ?_) (fun hc => ?_)
        · have hi2 : i < (2 * r.clicks + 1).toNat := by omega
          clear hc
          obtain ⟨post, hpost⟩ := plcL_split r p hsh2 hwt2 hst2 hi2
          (refine q_skip ?_; refine q_seq ?_; refine q_block ?_; refine q_region ?_; (iterate 5 refine ql_pure tabOk rfl rfl ?_))
          refine ql_mk #[.int .i64 sh, .int .i64 wt, .int .i64 st, .int .i64 (-r.clicks + (i : Int))] rfl (by kernel_rfl) rfl ?_
          skip
          refine ql_callF [un (L s)] [] (DL (L s)) rfl rfl rfl (Sp.refl _) (fun b hb => ⟨_, .head _, hb⟩) (eachF hcb hpost hI) ?_
          rintro s2 v2 hI2
          (refine q_nil ?_; refine q_blk ?_; refine q_region ?_; refine ql_pure tabOk rfl rfl ?_; refine ql_ar tabOk rfl rfl rfl rfl (by omega) (by omega) ?_; refine ql_pure tabOk rfl rfl ?_; refine q_nil ?_)
          exact hK4 (i + 1, s2) _ _ ⟨by simp only; omega, by rw [rangeF_succ]; simpa [pl4] using hI2⟩ (by simp only; omega) ⟨rfl, rfl, rfl, rfl, rfl, lookI rfl (by simp only; omega), rfl, rfl, rfl, rfl, rfl, trivial⟩ (Sp.refl _)
        · obtain rfl : i = (2 * r.clicks + 1).toNat := by omega
          (refine q_exit _ rfl ?_; refine q_blk ?_; refine q_region ?_; refine ql_ar tabOk rfl rfl rfl rfl (by omega) (by omega) ?_; refine ql_pure tabOk rfl rfl ?_; refine q_nil ?_)
          exact hK3 (st + 1, s) _ _ ⟨by simp only; omega, by rw [rangeF_succ]; simpa [pl3] using hI⟩ (by simp only; omega) ⟨rfl, rfl, rfl, rfl, rfl, rfl, rfl, rfl, rfl, trivial⟩ (Sp.refl _)
      · obtain rfl : st = r.drifts.length := by omega
        (refine q_exit _ rfl ?_; refine q_blk ?_; refine q_region ?_; refine ql_ar tabOk rfl rfl rfl rfl (by omega) (by omega) ?_; refine ql_pure tabOk rfl rfl ?_; refine q_nil ?_)
        exact hK2 (wt + 1, s) _ _ ⟨by simp only; omega, by rw [rangeF_succ]; simpa [pl2] using hI⟩ (by simp only; omega) ⟨rfl, rfl, rfl, rfl, rfl, rfl, trivial⟩ (Sp.refl _)
    · obtain rfl : wt = (p.waits + 1).toNat := by omega
      (refine q_exit _ rfl ?_; refine q_blk ?_; refine q_region ?_; refine ql_ar tabOk rfl rfl rfl rfl (by omega) (by omega) ?_; refine ql_pure tabOk rfl rfl ?_; refine q_nil ?_)
      exact hK1 (sh + 1, s) _ _ ⟨by simp only; omega, by rw [rangeF_succ]; simpa [pl1] using hI⟩ (by simp only; omega) ⟨rfl, rfl, rfl, trivial⟩ (Sp.refl _)
  · obtain rfl : sh = 5 := by omega
    (refine q_exit _ rfl ?_)
    refine q_end tabOk rfl (by repeat (first | exact RVs.nil | apply RVs.tmp rfl | apply RVs.cellA rfl rfl (by repeat first | exact .head _ | refine .tail _ ?_) (by rfl) | apply RVs.cell1 rfl rfl (by repeat first | exact .head _ | refine .tail _ ?_))) fun w hs => ?_
    exact ⟨s, hI, Sat.un1.1 hs⟩

end Go.Proofs.YtohlillcaadidaaGreat

/- The plan, as plain numbers: what a choice hangs on. -/
namespace Go.Proofs.YtohlillcaadidaaGreat
open Go Go.Eng

theorem sumR_congr (f g : Nat → Int) : ∀ n, (∀ i, i < n → f i = g i) → sumR f n = sumR g n
  | 0, _ => rfl
  | n + 1, h => by rw [sumR, sumR, sumR_congr f g n (fun i hi => h i (by omega)), h n (by omega)]
theorem shootV_congr (r : Rg) (p : Ru) (g g' : Nat → Int → Int) (shot wt st : Nat) (cl click : Int) (h : shot < 4 → ∀ t, t < r.drifts.length → g t click = g' t click) : shootV r p g shot wt st cl click = shootV r p g' shot wt st cl click := by
  unfold shootV
  congr 1
  split
  · unfold folS
    exact sumR_congr _ _ _ (fun t ht => by show _ * g t click = _ * g' t click; rw [h (by assumption) t ht])
  · rfl
theorem foldl_congr {α β : Type} (f f' : α → β → α) : ∀ (l : List β) (a : α), (∀ a, ∀ b ∈ l, f a b = f' a b) → l.foldl f a = l.foldl f' a
  | [], _, _ => rfl
  | b :: l, a, h => by
    rw [List.foldl_cons, List.foldl_cons, h a b List.mem_cons_self]
    exact foldl_congr f f' l _ (fun a b hb => h a b (List.mem_cons_of_mem _ hb))
theorem chClick_congr (r : Rg) (p : Ru) (g g' : Nat → Int → Int) (shot wt st : Nat) (cl : Int) (hc : -r.clicks ≤ cl ∧ cl ≤ r.clicks) (h : shot < 4 → ∀ t c, t < r.drifts.length → -r.clicks ≤ c ∧ c ≤ r.clicks → g t c = g' t c) : chClick r p g shot wt st cl = chClick r p g' shot wt st cl := by
  unfold chClick
  rw [shootV_congr r p g g' shot wt st cl cl (fun h4 t ht => h h4 t cl ht hc)]
  refine foldl_congr _ _ _ _ (fun a c hcl => ?_)
  have hcr := inB_iff.1 (clickL_in _ _ (inB_iff.2 hc) c hcl)
  unfold chStep
  rw [shootV_congr r p g g' shot wt st cl c (fun h4 t ht => h h4 t c ht hcr)]
theorem waitV_congr (r : Rg) (p : Ru) (h h' : Nat → Int → Int) (shot wt st : Nat) (cl : Int) (he : ∀ t, t < r.drifts.length → h t cl = h' t cl) : waitV r p h shot wt st cl = waitV r p h' shot wt st cl := by
  unfold waitV
  congr 1
  exact sumR_congr _ _ _ (fun t ht => by show _ * h t cl = _ * h' t cl; rw [he t ht])
theorem chV_congr (r : Rg) (p : Ru) (g g' h h' : Nat → Int → Int) (shot wt st : Nat) (cl : Int) (hc : -r.clicks ≤ cl ∧ cl ≤ r.clicks) (hg : shot < 4 → ∀ t c, t < r.drifts.length → -r.clicks ≤ c ∧ c ≤ r.clicks → g t c = g' t c) (hh : 0 < wt → ∀ t, t < r.drifts.length → h t cl = h' t cl) :
    chV r p g h shot wt st cl = chV r p g' h' shot wt st cl := by
  unfold chV
  simp only [chClick_congr r p g g' shot wt st cl hc hg]
  split
  · rename_i hw
    rw [waitV_congr r p h h' shot wt st cl (hh hw)]
  · rfl

/-- Some values, each the right one. -/
def GoodV (r : Rg) (p : Ru) (vf : Vf) : Prop := ∀ a b c d v, vf a b c d = some v → ∃ sh wt st : Nat, a = sh ∧ b = wt ∧ c = st ∧ sh < 5 ∧ (wt : Int) ≤ p.waits ∧ st < r.drifts.length ∧ (-r.clicks ≤ d ∧ d ≤ r.clicks) ∧ v = valV r p sh wt st d
theorem GoodV.at {r : Rg} {p : Ru} {vf : Vf} (h : GoodV r p vf) {sh wt st : Nat} {d : Int} (hs : (vf sh wt st d).isSome = true) : vf sh wt st d = some (valV r p sh wt st d) := by
  cases hv : vf sh wt st d with
  | none => rw [hv] at hs; cases hs
  | some v =>
    obtain ⟨sh', wt', st', h1, h2, h3, _, _, _, _, h4⟩ := h _ _ _ _ _ hv
    obtain rfl : sh = sh' := by omega
    obtain rfl : wt = wt' := by omega
    obtain rfl : st = st' := by omega
    rw [h4]
def LeV (vf vf' : Vf) : Prop := ∀ a b c d v, vf a b c d = some v → vf' a b c d = some v
theorem LeV.refl (vf : Vf) : LeV vf vf := fun _ _ _ _ _ h => h
theorem LeV.trans {a b c : Vf} (h : LeV a b) (g : LeV b c) : LeV a c := fun _ _ _ _ _ hv => g _ _ _ _ _ (h _ _ _ _ _ hv)
theorem LeV.some {vf vf' : Vf} (h : LeV vf vf') {a b c d : Int} (hs : (vf a b c d).isSome = true) : (vf' a b c d).isSome = true := by
  cases hv : vf a b c d with
  | none => rw [hv] at hs; cases hs
  | some v => rw [h _ _ _ _ _ hv]; rfl
def updF (vf : Vf) (a b c d v : Int) : Vf := fun a' b' c' d' => if a' = a ∧ b' = b ∧ c' = c ∧ d' = d then some v else vf a' b' c' d'
theorem updF_self (vf : Vf) (a b c d v : Int) : updF vf a b c d v a b c d = some v := by simp [updF]
theorem updF_lift (vf : Vf) (a b c d v : Int) : ∀ k, keyF k4 k → (if eqV k (plcV a b c d) = true then some (Value.int .i64 v) else liftF vf k) = liftF (updF vf a b c d v) k := by
  rintro _ ⟨xs, rfl, hx⟩
  obtain ⟨v1, l1, rfl, h1, hv1⟩ := fitV_cons hx
  obtain ⟨v2, l2, rfl, h2, hv2⟩ := fitV_cons h1
  obtain ⟨v3, l3, rfl, h3, hv3⟩ := fitV_cons h2
  obtain ⟨v4, l4, rfl, h4, hv4⟩ := fitV_cons h3
  have hl4 : l4 = [] := by cases l4 <;> simp [fitV] at h4 ⊢
  subst hl4
  have gi : ∀ {v : Value}, ((∃ q a, (some IntKind.i64 : Option IntKind) = some q ∧ v = .int q a) ∨ (∃ b, (some IntKind.i64 : Option IntKind) = none ∧ v = .bool b)) → ∃ a, v = .int .i64 a := by
    rintro v (⟨q, a, hq, rfl⟩ | ⟨b, hq, _⟩)
    · cases hq; exact ⟨a, rfl⟩
    · cases hq
  obtain ⟨x1, rfl⟩ := gi hv1
  obtain ⟨x2, rfl⟩ := gi hv2
  obtain ⟨x3, rfl⟩ := gi hv3
  obtain ⟨x4, rfl⟩ := gi hv4
  show (if (decide (x1 = a) && (decide (x2 = b) && (decide (x3 = c) && (decide (x4 = d) && true)))) = true then some (Value.int .i64 v) else (vf x1 x2 x3 x4).map (Value.int .i64)) = ((updF vf a b c d v) x1 x2 x3 x4).map (Value.int .i64)
  unfold updF
  by_cases h : x1 = a ∧ x2 = b ∧ x3 = c ∧ x4 = d
  · rw [if_pos h]
    obtain ⟨rfl, rfl, rfl, rfl⟩ := h
    simp
  · rw [if_neg h, if_neg (by simpa using h)]
theorem updF_good {r : Rg} {p : Ru} {vf : Vf} (h : GoodV r p vf) {sh wt st : Nat} {d : Int} (h5 : sh < 5) (hw : (wt : Int) ≤ p.waits) (hs : st < r.drifts.length) (hd : -r.clicks ≤ d ∧ d ≤ r.clicks) : GoodV r p (updF vf sh wt st d (valV r p sh wt st d)) := by
  intro a b c e v hv
  unfold updF at hv
  split at hv
  · rename_i hq
    obtain ⟨rfl, rfl, rfl, rfl⟩ := hq
    cases hv
    exact ⟨sh, wt, st, rfl, rfl, rfl, h5, hw, hs, hd, rfl⟩
  · exact h _ _ _ _ _ hv
theorem updF_le {r : Rg} {p : Ru} {vf : Vf} (h : GoodV r p vf) {sh wt st : Nat} {d : Int} : LeV vf (updF vf sh wt st d (valV r p sh wt st d)) := by
  intro a b c e v hv
  unfold updF
  split
  · rename_i hq
    obtain ⟨rfl, rfl, rfl, rfl⟩ := hq
    rw [← hv, h.at (by rw [hv]; rfl)]
  · exact hv

theorem val_fine (r : Rg) (hr : r.Right) (p : Ru) (hp : p.Right) (sh wt st : Nat) (cl : Int) (hw : (wt : Int) ≤ p.waits) (hs : st < r.drifts.length) (hc : -r.clicks ≤ cl ∧ cl ≤ r.clicks) : 0 ≤ valV r p sh wt st cl ∧ valV r p sh wt st cl ≤ 1000000000000000 := by
  have h1 := valV_bd r hr p hp (5 - sh) wt sh st cl rfl hw hs hc
  have hw3 : wt ≤ 3 := by have := hp.waits; omega
  have h2 := parts_bd r hr sh wt hw3
  have h3 := (mul_bd0 (show 0 ≤ 6000 * ((5 - sh : Nat) : Int) ∧ 6000 * ((5 - sh : Nat) : Int) ≤ 30000 by omega) (show 0 ≤ partsV r sh wt ∧ partsV r sh wt ≤ 3583180800 by omega)).2
  omega
theorem good_fine2 {r : Rg} (hr : r.Right) {p : Ru} (hp : p.Right) {vf : Vf} (h : GoodV r p vf) {sh wt : Nat} (hw : (wt : Int) ≤ p.waits) : FineV r vf sh wt := by
  intro t c ht hc
  cases hv : vf sh wt t c with
  | none =>
    have : gvF vf sh wt t c = 0 := by unfold gvF; rw [hv]; rfl
    rw [this]; omega
  | some v =>
    have : gvF vf sh wt t c = valV r p sh wt t c := by unfold gvF; rw [h.at (by rw [hv]; rfl)]; rfl
    rw [this]
    exact val_fine r hr p hp sh wt t c hw ht hc

end Go.Proofs.YtohlillcaadidaaGreat

/- Walks: the memo of values. -/
namespace Go.Proofs.YtohlillcaadidaaGreat
open Go Go.Eng

section
variable {w w' : World} {b : Nat} {K : Value → Prop} {q : Value → Value → Bool} {f : Value → Option Value}
theorem Blk.mapC {x : Nat} {cs : List Value} {t : TypeId} (h : Blk w x cs t) (hm : MapAt w b K q f) (c : ChgP (· = b) w w') : Blk w' x cs t := by
  obtain ⟨es, clock, h1, _⟩ := hm
  refine (c.block x h.lt ?_).trans h
  rintro rfl
  unfold Blk at h
  rw [h] at h1
  cases h1
theorem Rd.mapC {lo hi : Nat} {v : Value} {size n : Nat} {cs : List Value} (h : Rd w lo hi v size n cs) (hm : MapAt w b K q f) (c : ChgP (· = b) w w') : Rd w' lo hi v size n cs := by
  obtain ⟨es, clock, hb1, _⟩ := hm
  obtain ⟨h1, h2⟩ := h
  refine ⟨h1, ?_⟩
  rcases h2 with h2 | ⟨x, off, cap, hv, hb, hc⟩
  · exact .inl h2
  · refine .inr ⟨x, off, cap, hv, fun hp => ⟨(hb hp).1, (hb hp).2.1, Nat.lt_of_lt_of_le (hb hp).2.2 c.size⟩, fun j hj => ?_⟩
    have hb' := hb (by omega)
    have hc' := hc j hj
    have hne : ¬ x = b := by
      rintro rfl
      rw [List.getElem?_eq_getElem hj] at hc'
      simp [World.cell?, hb1] at hc'
    rw [← hc']
    exact World.cell?_of_block (w := w) (c.block x hb'.2.2 hne)
theorem RdE.mapC {lo hi : Nat} {v : Value} {sz : Nat} {es : List Value} (h : RdE w lo hi v sz es) (hm : MapAt w b K q f) (c : ChgP (· = b) w w') : RdE w' lo hi v sz es := ⟨Rd.mapC h.rd hm c, h.sz⟩
theorem RdII.mapC {lo hi : Nat} {v : Value} {ll : List (List Int)} (h : RdII w lo hi v ll) (hm : MapAt w b K q f) (c : ChgP (· = b) w w') : RdII w' lo hi v ll := by
  obtain ⟨vs, h1, h2, h3⟩ := h
  exact ⟨vs, RdE.mapC h1 hm c, h2, fun i hi hi' => RdE.mapC (h3 i hi hi') hm c⟩
theorem DkAt.mapC {x : Nat} {r : Rg} (h : DkAt w x r) (hm : MapAt w b K q f) (c : ChgP (· = b) w w') : DkAt w' x r := by
  obtain ⟨cs, t, h0, lo, hi, ag, cg, ad, cd, af, cf, an, cn, h1, h2, h3, h4, h5⟩ := h
  exact ⟨cs, t, Blk.mapC h0 hm c, lo, hi, ag, cg, ad, cd, af, cf, an, cn, h1, RdE.mapC h2 hm c, RdE.mapC h3 hm c, RdE.mapC h4 hm c, RdII.mapC h5 hm c⟩
theorem PlAt.mapC {bp bd bm : Nat} {r : Rg} {p : Ru} (h : PlAt w bp bd bm r p) (hm : MapAt w b K q f) (c : ChgP (· = b) w w') : PlAt w' bp bd bm r p := by
  obtain ⟨t, h1, h2⟩ := h
  exact ⟨t, Blk.mapC h1 hm c, DkAt.mapC h2 hm c⟩
end

/-- The closure that computes values. -/
abbrev valF (b1 b2 : Nat) : Value := .func (.func 107) #[] #[.pointer (some ⟨b1, 0, none⟩), .pointer (some ⟨b2, 0, none⟩)]
/-- A plan and its closure. -/
def FillAt (w : World) (bp bd bm b1 b2 : Nat) (r : Rg) (p : Ru) : Prop := PlAt w bp bd bm r p ∧ (∃ t, Blk w b1 [.pointer (some ⟨bp, 0, none⟩)] t) ∧ ∃ t, Blk w b2 [valF b1 b2] t
theorem FillAt.mapC {w w' : World} {b bp bd bm b1 b2 : Nat} {r : Rg} {p : Ru} {K : Value → Prop} {q : Value → Value → Bool} {f : Value → Option Value} (h : FillAt w bp bd bm b1 b2 r p) (hm : MapAt w b K q f) (c : ChgP (· = b) w w') : FillAt w' bp bd bm b1 b2 r p :=
  ⟨PlAt.mapC h.1 hm c, let ⟨t, h1⟩ := h.2.1; ⟨t, Blk.mapC h1 hm c⟩, let ⟨t, h1⟩ := h.2.2; ⟨t, Blk.mapC h1 hm c⟩⟩

abbrev mpV (bm : Nat) (vf : Vf) : Ck := mpP (keyF k4) eqV bm (liftF vf)

set_option maxHeartbeats 4000000 in
theorem value_ca (bp bd bm b1 b2 : Nat) (r : Rg) (p : Ru) (hr : r.Right) (hp : p.Right) : ∀ (n sh wt st : Nat) (cl : Int) (w : World) (vf : Vf), (5 - sh) * 4 + wt = n → sh < 5 → (wt : Int) ≤ p.waits → st < r.drifts.length → (-r.clicks ≤ cl ∧ cl ≤ r.clicks) →
    FillAt w bp bd bm b1 b2 r p → MapAt w bm (keyF k4) eqV (liftF vf) → GoodV r p vf →
    Ca Tryz.prog 107 [plcV sh wt st cl, .pointer (some ⟨b1, 0, none⟩), .pointer (some ⟨b2, 0, none⟩)] w fun v w' => ∃ vf', v = .int .i64 (valV r p sh wt st cl) ∧ GoodV r p vf' ∧ LeV vf vf' ∧ (vf' sh wt st cl).isSome = true ∧ Sat w (· = bm) [mpV bm vf'] w' := by
  intro n
  induction n using Nat.strongRecOn with
  | ind n ih =>
  intro sh wt st cl w vf hn1 h5 hwt hst hcl hF hm hgood
  have hF0 := hF
  have hm0 := hm
  obtain ⟨h, ⟨t1, hb1⟩, t2, hb2⟩ := hF
  obtain ⟨tp, hplb, hdk⟩ := h; have hdk0 := hdk; obtain ⟨cs, bt, hblk, lo, hi, ag, cg, ad, cd, af, cf, an, cn, rfl, hg, hdr, hf, hn⟩ := hdk
  have hC := hr.clicks
  have hD := hr.d2
  have hW := hp.waits
  have hw3 : wt ≤ 3 := by omega
  have hb1 := fun w' (c : ChgP (· = bm) w w') => Blk.mapC hb1 hm0 c
  have hb2 := fun w' (c : ChgP (· = bm) w w') => Blk.mapC hb2 hm0 c
  have hplb := fun w' (c : ChgP (· = bm) w w') => Blk.mapC hplb hm0 c
  have hblk := fun w' (c : ChgP (· = bm) w w') => Blk.mapC hblk hm0 c
  have hfine := val_fine r hr p hp
  refine q_of (H := [mpV bm vf]) (map_sat hm) Tryz.func107 rfl (by simp [Tryz.ntmps107]) ?_
  (refine q_seq ?_; refine q_region ?_)
  refine ql_box rfl rfl (fun b3 => ?_)
  (refine ql_pure tabOk rfl rfl ?_; refine q_nil ?_; (iterate 2 refine q_seq ?_))
  refine q_draw _ [] (Sp.refl _) (by kernel_rfl) (by kernel_rfl) ?_
  (refine qf_loadG tabOk rfl rfl rfl (by assumption) (by rfl) ?_; (iterate 2 refine qf_pure tabOk rfl rfl rfl ?_); refine qf_loadG tabOk rfl rfl rfl (by assumption) (by rfl) ?_; refine qf_loadAB tabOk rfl rfl rfl (by repeat first | exact .head _ | refine .tail _ ?_) (by rfl) (by rfl) ?_)
  cases hv : vf sh wt st cl with
  | some v0 =>
    have hv1 := hgood.at (sh := sh) (wt := wt) (st := st) (d := cl) (by rw [hv]; rfl)
    refine qf_look2 (v := .int .i64 (valV r p sh wt st cl)) (o := true) plc_key plc_map zero_int rfl rfl rfl (by repeat first | exact .head _ | refine .tail _ ?_) (plcV_key _ _ _ _) ((liftF_get vf sh wt st cl).trans (by rw [hv1]; rfl)) ((liftF_some vf sh wt st cl).trans (by rw [hv1]; rfl)) ?_
    (refine qf_pure tabOk rfl rfl rfl ?_; (iterate 2 refine qf_ext tabOk rfl rfl rfl ?_); (iterate 2 refine qf_pure tabOk rfl rfl rfl ?_); refine qf_nil ?_; refine q_seq ?_; refine q_region ?_; refine ql_pure tabOk rfl rfl ?_; refine q_nil ?_; refine q_cond_true rfl ?_; refine q_seq ?_; refine q_region ?_; (iterate 2 refine ql_pure tabOk rfl rfl ?_); refine q_nil ?_; refine q_ret ?_)
    refine q_fin tabOk rfl (by repeat (first | exact RVs.nil | apply RVs.tmp rfl | apply RVs.cellA rfl rfl (by repeat first | exact .head _ | refine .tail _ ?_) (by rfl) | apply RVs.cell1 rfl rfl (by repeat first | exact .head _ | refine .tail _ ?_))) fun w hs => ?_
    exact ⟨vf, rfl, hgood, LeV.refl _, by rw [hv1]; rfl, hs.sp (by repeat (first | exact Sp.nil | exact Sp.refl _ | refine Sp.cons (by repeat constructor) ?_))⟩
  | none =>
    refine qf_look2 (v := .int .i64 0) (o := false) plc_key plc_map zero_int rfl rfl rfl (by repeat first | exact .head _ | refine .tail _ ?_) (plcV_key _ _ _ _) ((liftF_get vf sh wt st cl).trans (by rw [hv]; rfl)) ((liftF_some vf sh wt st cl).trans (by rw [hv]; rfl)) ?_
    (refine qf_pure tabOk rfl rfl rfl ?_; (iterate 2 refine qf_ext tabOk rfl rfl rfl ?_); (iterate 2 refine qf_pure tabOk rfl rfl rfl ?_); refine qf_nil ?_; refine q_seq ?_; refine q_region ?_; refine ql_pure tabOk rfl rfl ?_; refine q_nil ?_; refine q_cond_false rfl ?_; refine q_skip ?_; (iterate 2 refine q_seq ?_); refine q_region ?_; refine ql_loadG tabOk rfl rfl rfl (by assumption) (by rfl) ?_; (iterate 2 refine ql_pure tabOk rfl rfl ?_); refine ql_loadG tabOk rfl rfl rfl (by assumption) (by rfl) ?_; (iterate 3 refine ql_pure tabOk rfl rfl ?_); refine ql_loadG tabOk rfl rfl rfl (by assumption) (by rfl) ?_; (iterate 2 refine ql_pure tabOk rfl rfl ?_); refine q_nil ?_; refine q_block ?_)
    refine q_loop (σ := Nat × Vf) (fun s => s.1 ≤ r.drifts.length ∧ GoodV r p s.2 ∧ LeV vf s.2 ∧ (sh < 4 → ∀ t c, t < s.1 → -r.clicks ≤ c ∧ c ≤ r.clicks → (s.2 ((sh + 1 : Nat) : Int) wt t c).isSome = true) ∧ (0 < wt → ∀ t, t < s.1 → (s.2 sh ((wt - 1 : Nat) : Int) t cl).isSome = true)) (fun s => r.drifts.length - s.1)
      (fun s => [(1, .pointer (some ⟨b1, 0, none⟩)), (2, .pointer (some ⟨b2, 0, none⟩)), (3, .pointer (some ⟨b3, 0, none⟩)), (30, .int .i64 r.drifts.length), (31, .int .i64 s.1)])
      (fun s => [.pt b3 [.int .i64 sh, .int .i64 wt, .int .i64 st, .int .i64 cl] 110, mpV bm s.2]) (0, vf) ⟨by simp, hgood, LeV.refl _, fun _ t c ht => absurd ht (Nat.not_lt_zero _), fun _ t ht => absurd ht (Nat.not_lt_zero _)⟩ ⟨rfl, rfl, rfl, rfl, rfl, trivial⟩ (by repeat (first | exact Sp.nil | exact Sp.refl _ | refine Sp.cons (by repeat constructor) ?_)) ?_
    rintro ⟨k, vf1⟩ ⟨hk, hg1, hl1, hs1, hw1⟩ K hK
    simp only at hk hg1 hl1 hs1 hw1
    dsimp only
    (refine q_seq ?_; refine q_region ?_; refine ql_pure tabOk rfl rfl ?_; refine q_nil ?_; refine q_seq ?_)
    refine q_if rfl (fun hc => ?_) (fun hc => ?_)
    · have hk2 : k < r.drifts.length := by omega
      clear hc
      (refine q_skip ?_; refine q_seq ?_; refine q_block ?_; refine q_seq ?_; refine q_region ?_; (iterate 2 refine ql_pure tabOk rfl rfl ?_); refine q_nil ?_; (iterate 2 refine q_seq ?_); refine q_region ?_; refine ql_loadG tabOk rfl rfl rfl (by assumption) (by rfl) ?_; (iterate 2 refine ql_pure tabOk rfl rfl ?_); refine ql_loadG tabOk rfl rfl rfl (by assumption) (by rfl) ?_; (iterate 3 refine ql_pure tabOk rfl rfl ?_); refine ql_loadG tabOk rfl rfl rfl (by assumption) (by rfl) ?_; refine ql_neg tabOk rfl rfl (by omega) (by omega) ?_; refine ql_pure tabOk rfl rfl ?_; refine q_nil ?_; refine q_block ?_)
      refine q_loop (σ := Nat × Vf) (fun s => s.1 ≤ (2 * r.clicks + 1).toNat ∧ (sh < 4 ∨ s.1 = 0) ∧ GoodV r p s.2 ∧ LeV vf1 s.2 ∧ (sh < 4 → ∀ j, j < s.1 → (s.2 ((sh + 1 : Nat) : Int) wt k (-r.clicks + (j : Int))).isSome = true)) (fun s => (2 * r.clicks + 1).toNat - s.1)
        (fun s => [(1, .pointer (some ⟨b1, 0, none⟩)), (2, .pointer (some ⟨b2, 0, none⟩)), (3, .pointer (some ⟨b3, 0, none⟩)), (7, .int .i64 k), (8, .int .i64 (-r.clicks + (s.1 : Int))), (30, .int .i64 r.drifts.length), (31, .int .i64 k)])
        (fun s => [.pt b3 [.int .i64 sh, .int .i64 wt, .int .i64 st, .int .i64 cl] 110, mpV bm s.2]) (0, vf1) ⟨by simp, .inr rfl, hg1, LeV.refl _, fun _ t ht => absurd ht (Nat.not_lt_zero _)⟩ ⟨rfl, rfl, rfl, rfl, lookI rfl (by simp), rfl, rfl, trivial⟩ (by repeat (first | exact Sp.nil | exact Sp.refl _ | refine Sp.cons (by repeat constructor) ?_)) ?_
      rintro ⟨i, vf2⟩ ⟨hi2, hi0, hg2, hl2, hs2⟩ K2 hK2
      simp only at hi2 hi0 hg2 hl2 hs2
      dsimp only
      have hend : (sh < 4 → i = (2 * r.clicks + 1).toNat) → (sh < 4 → ∀ t c, t < k + 1 → -r.clicks ≤ c ∧ c ≤ r.clicks → (vf2 ((sh + 1 : Nat) : Int) wt t c).isSome = true) := by
        intro he h4 t c ht hc
        by_cases htk : t < k
        · exact hl2.some (hs1 h4 t c htk hc)
        · obtain rfl : t = k := by omega
          have := hs2 h4 (c + r.clicks).toNat (by rw [he h4]; omega)
          rw [show -r.clicks + ((c + r.clicks).toNat : Int) = c by omega] at this
          exact this
      by_cases hgo : sh < 4 ∧ i < (2 * r.clicks + 1).toNat
      · obtain ⟨h4, hi3⟩ := hgo
        ((iterate 2 refine q_seq ?_); refine q_region ?_; refine ql_pure tabOk rfl rfl ?_; refine ql_loadG tabOk rfl rfl rfl (by assumption) (by rfl) ?_; (iterate 2 refine ql_pure tabOk rfl rfl ?_); refine ql_loadG tabOk rfl rfl rfl (by assumption) (by rfl) ?_; (iterate 3 refine ql_pure tabOk rfl rfl ?_); refine ql_loadG tabOk rfl rfl rfl (by assumption) (by rfl) ?_; (iterate 2 refine ql_pure tabOk rfl rfl ?_))
        refine ql_split rfl rfl (fun hc => ?_) (fun hc => ?_)
        · clear hc
          (refine ql_gyes rfl ?_; refine ql_pure tabOk rfl rfl ?_; refine ql_gyes rfl ?_; refine ql_loadB tabOk rfl rfl rfl (by repeat first | exact .head _ | refine .tail _ ?_) (by rfl) ?_; refine ql_gyes rfl ?_; refine ql_ar tabOk rfl rfl rfl rfl (by omega) (by omega) ?_; refine ql_gyes rfl ?_; (iterate 2 refine ql_pure tabOk rfl rfl ?_); refine q_nil ?_)
          refine q_if rfl (fun hc => ?_) (fun hc => ?_)
          · clear hc
            (refine q_skip ?_; refine q_seq ?_; refine q_block ?_; refine q_region ?_; refine ql_loadG tabOk rfl rfl rfl (by assumption) (by rfl) ?_; refine ql_pure tabOk rfl rfl ?_; refine ql_loadB tabOk rfl rfl rfl (by repeat first | exact .head _ | refine .tail _ ?_) (by rfl) ?_; refine ql_ar tabOk rfl rfl rfl rfl (by omega) (by omega) ?_; refine ql_pure tabOk rfl rfl ?_; refine ql_loadB tabOk rfl rfl rfl (by repeat first | exact .head _ | refine .tail _ ?_) (by rfl) ?_; (iterate 2 refine ql_pure tabOk rfl rfl ?_))
            refine ql_mk #[.int .i64 ((sh : Int) + 1), .int .i64 wt, .int .i64 k, .int .i64 (-r.clicks + (i : Int))] rfl (by kernel_rfl) rfl ?_
            skip
            refine ql_call (β := Vf) (ψ := fun vf' v => v = .int .i64 (valV r p (sh + 1) wt k (-r.clicks + (i : Int))) ∧ GoodV r p vf' ∧ LeV vf2 vf' ∧ (vf' ((sh + 1 : Nat) : Int) wt k (-r.clicks + (i : Int))).isSome = true) (L' := fun vf' => [mpV bm vf']) tabOk
              [mpV bm vf2] _ (· = bm) rfl rfl rfl rfl (Sp.cons (by repeat constructor) (Sp.refl _)) (fun b hb => ⟨_, .head _, hb⟩) (fun w' hs => (ih ((5 - (sh + 1)) * 4 + wt) (by omega) (sh + 1) wt k (-r.clicks + (i : Int)) w' vf2 rfl (by omega) hwt hk2 (by omega) (hF0.mapC hm0 hs.chg) (hs.mem (show mpV bm vf2 ∈ _ from .head _)) hg2).mono fun v w'' ⟨vf', g1, g2, g3, g4, g5⟩ => ⟨vf', ⟨g1, g2, g3, g4⟩, g5⟩) ?_
            rintro vf3 _ ⟨rfl, g2, g3, g4⟩
            (refine q_nil ?_; refine q_blk ?_; refine q_region ?_; refine ql_pure tabOk rfl rfl ?_; refine ql_ar tabOk rfl rfl rfl rfl (by omega) (by omega) ?_; refine ql_pure tabOk rfl rfl ?_; refine q_nil ?_)
            refine hK2 (i + 1, vf3) _ _ ⟨by simp only; omega, .inl h4, g2, hl2.trans g3, fun h4 j hj => ?_⟩ (by simp only; omega) ⟨rfl, rfl, rfl, rfl, lookI rfl (by simp only; omega), rfl, rfl, trivial⟩ (by repeat (first | exact Sp.nil | exact Sp.refl _ | refine Sp.cons (by repeat constructor) ?_))
            by_cases hji : j < i
            · exact g3.some (hs2 h4 j hji)
            · obtain rfl : j = i := by simp only at hj; omega
              exact g4
          · exfalso; simp at hc; omega
        · exfalso; simp at hc; omega
      · have hend := hend (by omega)
        have hrest : ∀ vf3, GoodV r p vf3 → LeV vf2 vf3 → (0 < wt → (vf3 sh ((wt - 1 : Nat) : Int) k cl).isSome = true) → ((k + 1, vf3) : Nat × Vf).1 ≤ r.drifts.length ∧ GoodV r p vf3 ∧ LeV vf vf3 ∧ (sh < 4 → ∀ t c, t < k + 1 → -r.clicks ≤ c ∧ c ≤ r.clicks → (vf3 ((sh + 1 : Nat) : Int) wt t c).isSome = true) ∧ (0 < wt → ∀ t, t < k + 1 → (vf3 sh ((wt - 1 : Nat) : Int) t cl).isSome = true) := by
          intro vf3 g1 g2 g3
          refine ⟨by simp only; omega, g1, hl1.trans (hl2.trans g2), fun h4 t c ht hc => g2.some (hend h4 t c ht hc), fun h0 t ht => ?_⟩
          by_cases htk : t < k
          · exact (hl2.trans g2).some (hw1 h0 t htk)
          · obtain rfl : t = k := by omega
            exact g3 h0
        ((iterate 2 refine q_seq ?_); refine q_region ?_; refine ql_pure tabOk rfl rfl ?_; refine ql_loadG tabOk rfl rfl rfl (by assumption) (by rfl) ?_; (iterate 2 refine ql_pure tabOk rfl rfl ?_); refine ql_loadG tabOk rfl rfl rfl (by assumption) (by rfl) ?_; (iterate 3 refine ql_pure tabOk rfl rfl ?_); refine ql_loadG tabOk rfl rfl rfl (by assumption) (by rfl) ?_; (iterate 2 refine ql_pure tabOk rfl rfl ?_))
        refine ql_split rfl rfl (fun hc => ?_) (fun hc => ?_)
        · (refine ql_gyes rfl ?_; refine ql_pure tabOk rfl rfl ?_; refine ql_gyes rfl ?_; refine ql_loadB tabOk rfl rfl rfl (by repeat first | exact .head _ | refine .tail _ ?_) (by rfl) ?_; refine ql_gyes rfl ?_; refine ql_ar tabOk rfl rfl rfl rfl (by omega) (by omega) ?_; refine ql_gyes rfl ?_; (iterate 2 refine ql_pure tabOk rfl rfl ?_); refine q_nil ?_)
          refine q_if rfl (fun hc => ?_) (fun hc => ?_)
          · exfalso; rename_i hc0; simp at hc0; omega
          · clear hc
            rename_i hc
            clear hc
            (refine q_exit _ rfl ?_; refine q_seq ?_; refine q_region ?_; refine ql_pure tabOk rfl rfl ?_; refine ql_loadB tabOk rfl rfl rfl (by repeat first | exact .head _ | refine .tail _ ?_) (by rfl) ?_; refine ql_pure tabOk rfl rfl ?_; refine q_nil ?_)
            refine q_if rfl (fun hc => ?_) (fun hc => ?_)
            · have h0 : 0 < wt := by omega
              have hwe : ((wt - 1 : Nat) : Int) = (wt : Int) - 1 := by omega
              (refine q_region ?_; refine ql_loadG tabOk rfl rfl rfl (by assumption) (by rfl) ?_; refine ql_pure tabOk rfl rfl ?_; refine ql_loadB tabOk rfl rfl rfl (by repeat first | exact .head _ | refine .tail _ ?_) (by rfl) ?_; refine ql_pure tabOk rfl rfl ?_; refine ql_loadB tabOk rfl rfl rfl (by repeat first | exact .head _ | refine .tail _ ?_) (by rfl) ?_; refine ql_ar tabOk rfl rfl rfl rfl (by omega) (by omega) ?_; (iterate 2 refine ql_pure tabOk rfl rfl ?_); refine ql_loadB tabOk rfl rfl rfl (by repeat first | exact .head _ | refine .tail _ ?_) (by rfl) ?_)
              refine ql_mk #[.int .i64 sh, .int .i64 ((wt : Int) - 1), .int .i64 k, .int .i64 cl] rfl (by kernel_rfl) rfl ?_
              skip
              refine ql_call (β := Vf) (ψ := fun vf' v => v = .int .i64 (valV r p sh (wt - 1) k cl) ∧ GoodV r p vf' ∧ LeV vf2 vf' ∧ (vf' sh ((wt - 1 : Nat) : Int) k cl).isSome = true) (L' := fun vf' => [mpV bm vf']) tabOk
                [mpV bm vf2] _ (· = bm) rfl rfl rfl rfl (Sp.cons (by repeat constructor) (Sp.refl _)) (fun b hb => ⟨_, .head _, hb⟩) (fun w' hs => by have := (ih ((5 - sh) * 4 + (wt - 1)) (by omega) sh (wt - 1) k cl w' vf2 rfl h5 (by omega) hk2 hcl (hF0.mapC hm0 hs.chg) (hs.mem (show mpV bm vf2 ∈ _ from .head _)) hg2).mono fun v w'' ⟨vf', g1, g2, g3, g4, g5⟩ => (⟨vf', ⟨g1, g2, g3, g4⟩, g5⟩ : ∃ vf', (v = Value.int .i64 (valV r p sh (wt - 1) k cl) ∧ GoodV r p vf' ∧ LeV vf2 vf' ∧ (vf' sh ((wt - 1 : Nat) : Int) k cl).isSome = true) ∧ Sat w' (· = bm) [mpV bm vf'] w''); simp only [hwe] at this ⊢; exact this) ?_
              rintro vf3 _ ⟨rfl, g2, g3, g4⟩
              (refine q_nil ?_; refine q_blk ?_; refine q_region ?_; refine ql_ar tabOk rfl rfl rfl rfl (by omega) (by omega) ?_; refine ql_pure tabOk rfl rfl ?_; refine q_nil ?_)
              exact hK (k + 1, vf3) _ _ (hrest vf3 g2 g3 (fun _ => g4)) (by simp only; omega) ⟨rfl, rfl, rfl, rfl, rfl, trivial⟩ (by repeat (first | exact Sp.nil | exact Sp.refl _ | refine Sp.cons (by repeat constructor) ?_))
            · (refine q_skip ?_; refine q_blk ?_; refine q_region ?_; refine ql_ar tabOk rfl rfl rfl rfl (by omega) (by omega) ?_; refine ql_pure tabOk rfl rfl ?_; refine q_nil ?_)
              exact hK (k + 1, vf2) _ _ (hrest vf2 hg2 (LeV.refl _) (fun h0 => absurd h0 (by omega))) (by simp only; omega) ⟨rfl, rfl, rfl, rfl, rfl, trivial⟩ (by repeat (first | exact Sp.nil | exact Sp.refl _ | refine Sp.cons (by repeat constructor) ?_))
        · clear hc
          ((iterate 4 refine ql_gno rfl rfl rfl ?_); refine ql_pure tabOk rfl rfl ?_; refine q_nil ?_; refine q_cond_false rfl ?_; refine q_exit _ rfl ?_; refine q_seq ?_; refine q_region ?_; refine ql_pure tabOk rfl rfl ?_; refine ql_loadB tabOk rfl rfl rfl (by repeat first | exact .head _ | refine .tail _ ?_) (by rfl) ?_; refine ql_pure tabOk rfl rfl ?_; refine q_nil ?_)
          refine q_if rfl (fun hc => ?_) (fun hc => ?_)
          · have h0 : 0 < wt := by omega
            have hwe : ((wt - 1 : Nat) : Int) = (wt : Int) - 1 := by omega
            (refine q_region ?_; refine ql_loadG tabOk rfl rfl rfl (by assumption) (by rfl) ?_; refine ql_pure tabOk rfl rfl ?_; refine ql_loadB tabOk rfl rfl rfl (by repeat first | exact .head _ | refine .tail _ ?_) (by rfl) ?_; refine ql_pure tabOk rfl rfl ?_; refine ql_loadB tabOk rfl rfl rfl (by repeat first | exact .head _ | refine .tail _ ?_) (by rfl) ?_; refine ql_ar tabOk rfl rfl rfl rfl (by omega) (by omega) ?_; (iterate 2 refine ql_pure tabOk rfl rfl ?_); refine ql_loadB tabOk rfl rfl rfl (by repeat first | exact .head _ | refine .tail _ ?_) (by rfl) ?_)
            refine ql_mk #[.int .i64 sh, .int .i64 ((wt : Int) - 1), .int .i64 k, .int .i64 cl] rfl (by kernel_rfl) rfl ?_
            skip
            refine ql_call (β := Vf) (ψ := fun vf' v => v = .int .i64 (valV r p sh (wt - 1) k cl) ∧ GoodV r p vf' ∧ LeV vf2 vf' ∧ (vf' sh ((wt - 1 : Nat) : Int) k cl).isSome = true) (L' := fun vf' => [mpV bm vf']) tabOk
              [mpV bm vf2] _ (· = bm) rfl rfl rfl rfl (Sp.cons (by repeat constructor) (Sp.refl _)) (fun b hb => ⟨_, .head _, hb⟩) (fun w' hs => by have := (ih ((5 - sh) * 4 + (wt - 1)) (by omega) sh (wt - 1) k cl w' vf2 rfl h5 (by omega) hk2 hcl (hF0.mapC hm0 hs.chg) (hs.mem (show mpV bm vf2 ∈ _ from .head _)) hg2).mono fun v w'' ⟨vf', g1, g2, g3, g4, g5⟩ => (⟨vf', ⟨g1, g2, g3, g4⟩, g5⟩ : ∃ vf', (v = Value.int .i64 (valV r p sh (wt - 1) k cl) ∧ GoodV r p vf' ∧ LeV vf2 vf' ∧ (vf' sh ((wt - 1 : Nat) : Int) k cl).isSome = true) ∧ Sat w' (· = bm) [mpV bm vf'] w''); simp only [hwe] at this ⊢; exact this) ?_
            rintro vf3 _ ⟨rfl, g2, g3, g4⟩
            (refine q_nil ?_; refine q_blk ?_; refine q_region ?_; refine ql_ar tabOk rfl rfl rfl rfl (by omega) (by omega) ?_; refine ql_pure tabOk rfl rfl ?_; refine q_nil ?_)
            exact hK (k + 1, vf3) _ _ (hrest vf3 g2 g3 (fun _ => g4)) (by simp only; omega) ⟨rfl, rfl, rfl, rfl, rfl, trivial⟩ (by repeat (first | exact Sp.nil | exact Sp.refl _ | refine Sp.cons (by repeat constructor) ?_))
          · (refine q_skip ?_; refine q_blk ?_; refine q_region ?_; refine ql_ar tabOk rfl rfl rfl rfl (by omega) (by omega) ?_; refine ql_pure tabOk rfl rfl ?_; refine q_nil ?_)
            exact hK (k + 1, vf2) _ _ (hrest vf2 hg2 (LeV.refl _) (fun h0 => absurd h0 (by omega))) (by simp only; omega) ⟨rfl, rfl, rfl, rfl, rfl, trivial⟩ (by repeat (first | exact Sp.nil | exact Sp.refl _ | refine Sp.cons (by repeat constructor) ?_))
    · obtain rfl : k = r.drifts.length := by omega
      clear hc
      have hfb : sh < 4 → FineV r vf1 (sh + 1) wt := fun h4 => good_fine2 hr hp hg1 hwt
      have hfw : 0 < wt → FineV r vf1 sh (wt - 1) := fun h0 => good_fine2 hr hp hg1 (by omega)
      have hch : chV r p (gvF vf1 (sh + 1) wt) (gvF vf1 sh (wt - 1)) sh wt st cl = choV r p sh wt st cl := by
        unfold choV
        refine chV_congr r p _ _ _ _ sh wt st cl hcl (fun h4 t c ht hc => ?_) (fun h0 t ht => ?_)
        · show (vf1 ((sh + 1 : Nat) : Int) wt t c).getD 0 = _
          rw [hg1.at (hs1 h4 t c ht hc)]; rfl
        · show (vf1 sh ((wt - 1 : Nat) : Int) t cl).getD 0 = _
          rw [hg1.at (hw1 h0 t ht)]; rfl
      (refine q_exit _ rfl ?_; refine q_seq ?_; refine q_region ?_; refine ql_loadG tabOk rfl rfl rfl (by assumption) (by rfl) ?_; refine ql_loadAB tabOk rfl rfl rfl (by repeat first | exact .head _ | refine .tail _ ?_) (by rfl) (by rfl) ?_)
      refine ql_callv (val := .tuple #[.agg #[.bool (choV r p sh wt st cl).1.1, .int .i64 (choV r p sh wt st cl).1.2], .int .i64 (valV r p sh wt st cl)]) tabOk rfl rfl rfl rfl (fun w hs => ?_) ?_; exact by have := choose_ca w bp bd bm r p vf1 sh wt st cl (hF0.mapC hm0 hs.chg).1 (hs.mem (show mpV bm vf1 ∈ _ from by repeat first | exact .head _ | refine .tail _ ?_)) hr hp (by omega) hw3 hst hcl hfb hfw; rw [hch, ← valV_eq r p sh wt st cl h5 hwt hst hcl] at this; exact this
      (refine ql_pure tabOk rfl rfl ?_; (iterate 2 refine ql_ext tabOk rfl rfl rfl ?_))
      refine ql_alloc zero74 rfl (fun b9 => ?_)
      (refine ql_setA tabOk rfl rfl rfl rfl rfl (by repeat constructor) rfl ?_; refine ql_pure tabOk rfl rfl ?_; refine q_nil ?_; refine q_seq ?_)
      refine q_draw _ [mpV bm vf1] (Sp.cons (by repeat constructor) (Sp.refl _)) (by kernel_rfl) (by kernel_rfl) ?_
      (refine qf_loadG tabOk rfl rfl rfl (by assumption) (by rfl) ?_; (iterate 2 refine qf_pure tabOk rfl rfl rfl ?_); refine qf_loadG tabOk rfl rfl rfl (by assumption) (by rfl) ?_; refine qf_loadAB tabOk rfl rfl rfl (by repeat first | exact .head _ | refine .tail _ ?_) (by rfl) (by rfl) ?_; refine qf_pure tabOk rfl rfl rfl ?_)
      refine qf_mapUpd plc_key plc_map rfl rfl rfl (plcV_key _ _ _ _) (by repeat constructor) ?_
      (refine qf_nil ?_; refine q_seq ?_; refine q_region ?_; (iterate 2 refine ql_pure tabOk rfl rfl ?_); refine q_nil ?_; refine q_ret ?_)
      refine q_fin tabOk rfl (by repeat (first | exact RVs.nil | apply RVs.tmp rfl | apply RVs.cellA rfl rfl (by repeat first | exact .head _ | refine .tail _ ?_) (by rfl) | apply RVs.cell1 rfl rfl (by repeat first | exact .head _ | refine .tail _ ?_))) fun w hs => ?_
      refine ⟨updF vf1 sh wt st cl (valV r p sh wt st cl), rfl, updF_good hg1 h5 hwt hst hcl, hl1.trans (updF_le hg1), by rw [updF_self]; rfl, ?_⟩
      exact (hs.sp (Sp.cons (by repeat constructor) .nil)).mapC (updF_lift vf1 sh wt st cl _)

end Go.Proofs.YtohlillcaadidaaGreat

/- Walks: begun, fill. -/
namespace Go.Proofs.YtohlillcaadidaaGreat
open Go Go.Eng

theorem RgC.mapC {w w' : World} {b : Nat} {K : Value → Prop} {q : Value → Value → Bool} {f : Value → Option Value} {cs : List Value} {r : Rg} (h : RgC w cs r) (hm : MapAt w b K q f) (c : ChgP (· = b) w w') : RgC w' cs r := by
  obtain ⟨lo, hi, ag, cg, ad, cd, af, cf, an, cn, h1, h2, h3, h4, h5⟩ := h
  exact ⟨lo, hi, ag, cg, ad, cd, af, cf, an, cn, h1, RdE.mapC h2 hm c, RdE.mapC h3 hm c, RdE.mapC h4 hm c, RdII.mapC h5 hm c⟩
theorem plcL_mem (r : Rg) (p : Ru) (sh wt st : Nat) (cl : Int) : (sh, wt, st, cl) ∈ plcL r p ↔ sh < 5 ∧ (wt : Int) ≤ p.waits ∧ st < r.drifts.length ∧ (-r.clicks ≤ cl ∧ cl ≤ r.clicks) := by
  simp only [plcL, pl1, pl2, pl3, pl4, List.mem_flatMap, List.mem_range, List.mem_singleton, Prod.mk.injEq]
  constructor
  · rintro ⟨a, ha, b, hb, c, hc, d, hd, rfl, rfl, rfl, rfl⟩
    exact ⟨ha, by omega, hc, by omega, by omega⟩
  · rintro ⟨h1, h2, h3, h4, h5⟩
    exact ⟨sh, h1, wt, by omega, st, h3, (cl + r.clicks).toNat, by omega, rfl, rfl, rfl, by omega⟩
theorem DL_mpV (bm : Nat) (vf : Vf) : DL [mpV bm vf] = (· = bm) := by
  funext b
  refine propext ⟨?_, ?_⟩
  · rintro ⟨c, hc, hb⟩
    rw [List.mem_singleton.1 hc] at hb
    exact hb
  · rintro rfl
    exact ⟨_, .head _, rfl⟩

set_option maxHeartbeats 2000000 in
theorem begun_no (w : World) (cs : List Value) (r : Rg) (p : Ru) (h : RgC w cs r) (hsm : r.Small) (hr : rulesV r p ≠ 0) : Ca Tryz.prog 56 [.agg cs.toArray, .agg #[.int .i64 p.miss, .int .i64 p.click, .int .i64 p.wait, .int .i64 p.waits]] w fun v w' => v = .tuple #[.pointer none, .int .i64 (rulesV r p)] ∧ Chg [] w w' := by
  have h0 := h
  obtain ⟨lo, hi, ag, cg, ad, cd, af, cf, an, cn, rfl, hg, hdr, hf, hn⟩ := h
  refine q_of (Sat.nil w M0) Tryz.func56 rfl (by simp [Tryz.ntmps56]) ?_
  (refine q_seq ?_; refine q_region ?_)
  refine ql_box rfl rfl (fun b2 => ?_)
  skip
  refine ql_box rfl rfl (fun b3 => ?_)
  ((iterate 2 refine ql_pure tabOk rfl rfl ?_); refine q_nil ?_; (iterate 2 refine q_seq ?_); refine q_region ?_; (iterate 2 refine ql_loadAB tabOk rfl rfl rfl (by repeat first | exact .head _ | refine .tail _ ?_) (by rfl) (by rfl) ?_))
  refine ql_callv (val := .int .i64 (rulesV r p)) tabOk rfl rfl rfl rfl (fun w hs => ?_) ?_; exact chkRules_ca w _ r p (h0.keep hs.chg0) hsm
  (refine ql_pure tabOk rfl rfl ?_; refine q_nil ?_; refine q_seq ?_; refine q_region ?_; (iterate 2 refine ql_pure tabOk rfl rfl ?_); refine q_nil ?_)
  rw [decide_eq_false hr]
  (refine q_cond_true rfl ?_; refine q_seq ?_; refine q_region ?_; (iterate 3 refine ql_pure tabOk rfl rfl ?_); refine q_nil ?_; refine q_ret ?_)
  refine q_fin tabOk rfl (by repeat (first | exact RVs.nil | apply RVs.tmp rfl | apply RVs.cellA rfl rfl (by repeat first | exact .head _ | refine .tail _ ?_) (by rfl) | apply RVs.cell1 rfl rfl (by repeat first | exact .head _ | refine .tail _ ?_))) fun w hs => ?_
  exact ⟨rfl, hs.chg0⟩

set_option maxHeartbeats 2000000 in
theorem begun_ok (w : World) (cs : List Value) (r : Rg) (p : Ru) (h : RgC w cs r) (hsm : r.Small) (hr : rulesV r p = 0) : Ca Tryz.prog 56 [.agg cs.toArray, .agg #[.int .i64 p.miss, .int .i64 p.click, .int .i64 p.wait, .int .i64 p.waits]] w fun v w' =>
    ∃ x : Nat × Nat × Nat, v = .tuple #[.pointer (some ⟨x.1, 0, none⟩), .int .i64 0] ∧
      Sat w M0 [.pt x.1 [.pointer (some ⟨x.2.1, 0, none⟩), .int .i64 p.miss, .int .i64 p.click, .int .i64 p.wait, .int .i64 p.waits, .map (some x.2.2)] 113, mpV x.2.2 (fun _ _ _ _ => none), .pt x.2.1 cs 141] w' := by
  have h0 := h
  obtain ⟨lo, hi, ag, cg, ad, cd, af, cf, an, cn, rfl, hg, hdr, hf, hn⟩ := h
  refine q_of (Sat.nil w M0) Tryz.func56 rfl (by simp [Tryz.ntmps56]) ?_
  (refine q_seq ?_; refine q_region ?_)
  refine ql_box rfl rfl (fun b2 => ?_)
  skip
  refine ql_box rfl rfl (fun b3 => ?_)
  ((iterate 2 refine ql_pure tabOk rfl rfl ?_); refine q_nil ?_; (iterate 2 refine q_seq ?_); refine q_region ?_; (iterate 2 refine ql_loadAB tabOk rfl rfl rfl (by repeat first | exact .head _ | refine .tail _ ?_) (by rfl) (by rfl) ?_))
  refine ql_callv (val := .int .i64 0) tabOk rfl rfl rfl rfl (fun w hs => ?_) ?_; exact by have := chkRules_ca w _ r p (h0.keep hs.chg0) hsm; rw [hr] at this; exact this
  (refine ql_pure tabOk rfl rfl ?_; refine q_nil ?_; refine q_seq ?_; refine q_region ?_; (iterate 2 refine ql_pure tabOk rfl rfl ?_); refine q_nil ?_; refine q_cond_false rfl ?_; refine q_skip ?_; refine q_seq ?_; refine q_region ?_; refine ql_loadAB tabOk rfl rfl rfl (by repeat first | exact .head _ | refine .tail _ ?_) (by rfl) (by rfl) ?_)
  refine ql_mk #[.int .i64 r.radius, .int .i64 r.unit, .int .i64 r.clicks, .int .i64 r.total, .slice ag r.group.length cg, .slice ad r.drifts.length cd, .slice af r.first.length cf, .slice an r.next.length cn] rfl (by kernel_rfl) rfl ?_
  refine ql_box rfl rfl (fun bd => ?_)
  (refine ql_loadAB tabOk rfl rfl rfl (by repeat first | exact .head _ | refine .tail _ ?_) (by rfl) (by rfl) ?_)
  refine ql_makeMap (keyF k4) eqV rfl (fun bm => ?_)
  skip
  refine ql_mk #[.pointer (some ⟨bd, 0, none⟩), .int .i64 p.miss, .int .i64 p.click, .int .i64 p.wait, .int .i64 p.waits, .map (some bm)] rfl (by kernel_rfl) rfl ?_
  refine ql_box rfl rfl (fun bp => ?_)
  ((iterate 2 refine ql_pure tabOk rfl rfl ?_); refine q_nil ?_; refine q_ret ?_)
  refine q_fin tabOk rfl (by repeat (first | exact RVs.nil | apply RVs.tmp rfl | apply RVs.cellA rfl rfl (by repeat first | exact .head _ | refine .tail _ ?_) (by rfl) | apply RVs.cell1 rfl rfl (by repeat first | exact .head _ | refine .tail _ ?_))) fun w hs => ?_
  refine ⟨(bp, bd, bm), rfl, ?_⟩
  have h1 : Sat _ M0 [mpP (keyF k4) eqV bm (fun _ => none), .pt bp [.pointer (some ⟨bd, 0, none⟩), .int .i64 p.miss, .int .i64 p.click, .int .i64 p.wait, .int .i64 p.waits, .map (some bm)] 113, .pt bd [.int .i64 r.radius, .int .i64 r.unit, .int .i64 r.clicks, .int .i64 r.total, .slice ag r.group.length cg, .slice ad r.drifts.length cd, .slice af r.first.length cf, .slice an r.next.length cn] 141] _ := hs.sp (by repeat (first | exact Sp.nil | exact Sp.refl _ | refine Sp.cons (by repeat constructor) ?_))
  refine (h1.mapC (g := liftF (fun _ _ _ _ => none)) (fun k hk => ?_)).sp (by repeat (first | exact Sp.nil | exact Sp.refl _ | refine Sp.cons (by repeat constructor) ?_))
  unfold liftF
  split
  · split <;> rfl
  · rfl

set_option maxHeartbeats 2000000 in
theorem fill2_ca (w : World) (bp bd bm b1 b2 : Nat) (r : Rg) (p : Ru) (hr : r.Right) (hp : p.Right) (sh wt st : Nat) (cl : Int) (vf : Vf) (h5 : sh < 5) (hwt : (wt : Int) ≤ p.waits) (hst : st < r.drifts.length) (hcl : -r.clicks ≤ cl ∧ cl ≤ r.clicks)
    (hF : FillAt w bp bd bm b1 b2 r p) (hm : MapAt w bm (keyF k4) eqV (liftF vf)) (hgood : GoodV r p vf) :
    Ca Tryz.prog 108 [plcV sh wt st cl, .pointer (some ⟨b2, 0, none⟩)] w fun v w' => ∃ vf', v = .tuple #[] ∧ GoodV r p vf' ∧ LeV vf vf' ∧ (vf' sh wt st cl).isSome = true ∧ Sat w (· = bm) [mpV bm vf'] w' := by
  have hF0 := hF
  have hm0 := hm
  obtain ⟨h, ⟨t1, hb1⟩, t2, hb2⟩ := hF
  have hb2 := fun w' (c : ChgP (· = bm) w w') => Blk.mapC hb2 hm0 c
  refine q_of (H := [mpV bm vf]) (map_sat hm) Tryz.func108 rfl (by simp [Tryz.ntmps108]) ?_
  (refine q_seq ?_; refine q_region ?_)
  refine ql_box rfl rfl (fun b3 => ?_)
  (refine q_nil ?_; refine q_region ?_; refine ql_loadG tabOk rfl rfl rfl (by assumption) (by rfl) ?_; refine ql_loadAB tabOk rfl rfl rfl (by repeat first | exact .head _ | refine .tail _ ?_) (by rfl) (by rfl) ?_)
  refine ql_call (β := Vf) (ψ := fun vf' v => v = .int .i64 (valV r p sh wt st cl) ∧ GoodV r p vf' ∧ LeV vf vf' ∧ (vf' sh wt st cl).isSome = true) (L' := fun vf' => [mpV bm vf']) tabOk
    [mpV bm vf] _ (· = bm) rfl rfl rfl rfl (Sp.cons (by repeat constructor) (Sp.refl _)) (fun b hb => ⟨_, .head _, hb⟩) (fun w' hs => (value_ca bp bd bm b1 b2 r p hr hp _ sh wt st cl w' vf rfl h5 hwt hst hcl (hF0.mapC hm0 hs.chg) (hs.mem (show mpV bm vf ∈ _ from .head _)) hgood).mono fun v w'' ⟨vf', g1, g2, g3, g4, g5⟩ => ⟨vf', ⟨g1, g2, g3, g4⟩, g5⟩) ?_
  rintro vf3 _ ⟨rfl, g2, g3, g4⟩
  (refine q_nil ?_)
  refine q_end tabOk rfl (by repeat (first | exact RVs.nil | apply RVs.tmp rfl | apply RVs.cellA rfl rfl (by repeat first | exact .head _ | refine .tail _ ?_) (by rfl) | apply RVs.cell1 rfl rfl (by repeat first | exact .head _ | refine .tail _ ?_))) fun w hs => ?_
  exact ⟨vf3, rfl, g2, g3, g4, hs.sp (by repeat (first | exact Sp.nil | exact Sp.refl _ | refine Sp.cons (by repeat constructor) ?_))⟩

set_option maxHeartbeats 2000000 in
theorem fill_ca (w : World) (bp bd bm : Nat) (r : Rg) (p : Ru) (hr : r.Right) (hp : p.Right) (vf : Vf) (h : PlAt w bp bd bm r p) (hm : MapAt w bm (keyF k4) eqV (liftF vf)) (hgood : GoodV r p vf) :
    Ca Tryz.prog 57 [.pointer (some ⟨bp, 0, none⟩)] w fun v w' => ∃ vf', v = .tuple #[] ∧ GoodV r p vf' ∧ (∀ sh wt st cl, (sh, wt, st, cl) ∈ plcL r p → (vf' sh wt st cl).isSome = true) ∧ Sat w (· = bm) [mpV bm vf'] w' := by
  have h0 := h
  have hm0 := hm
  obtain ⟨tp, hplb, hdk⟩ := h; have hdk0 := hdk; obtain ⟨cs, bt, hblk, lo, hi, ag, cg, ad, cd, af, cf, an, cn, rfl, hg, hdr, hf, hn⟩ := hdk
  refine q_of (H := [mpV bm vf]) (map_sat hm) Tryz.func57 rfl (by simp [Tryz.ntmps57]) ?_
  (refine q_seq ?_; refine q_region ?_)
  refine ql_box rfl rfl (fun b1 => ?_)
  (refine q_nil ?_; refine q_seq ?_; refine q_region ?_)
  refine ql_alloc zero144 rfl (fun b2 => ?_)
  (refine q_nil ?_; refine q_seq ?_; refine q_region ?_; refine ql_pure tabOk rfl rfl ?_; refine ql_set tabOk rfl rfl rfl rfl (by repeat constructor) ?_; refine q_nil ?_; refine q_region ?_; refine ql_loadB tabOk rfl rfl rfl (by repeat first | exact .head _ | refine .tail _ ?_) (by rfl) ?_; refine ql_pure tabOk rfl rfl ?_)
  refine ql_call (β := Vf) (ψ := fun vf' v => GoodV r p vf' ∧ ∀ x ∈ plcL r p, (vf' x.1 x.2.1 x.2.2.1 x.2.2.2).isSome = true) (L' := fun vf' => [mpV bm vf']) tabOk
    [mpV bm vf] _ (· = bm) rfl rfl rfl rfl (Sp.cons (by repeat constructor) (Sp.refl _)) (fun b hb => ⟨_, .head _, hb⟩) (fun w' hs => ?_) ?_
  · have hsat : Sat w' (DL [mpV bm vf]) [mpV bm vf] w' := hs.self
    have hm' : MapAt w' bm (keyF k4) eqV (liftF vf) := hs.mem (show mpV bm vf ∈ _ from .head _)
    have hF : FillAt w' bp bd bm b1 b2 r p := ⟨PlAt.mapC h0 hm0 hs.chg, ⟨_, hs.blk (by repeat first | exact .head _ | refine .tail _ ?_)⟩, ⟨_, hs.blk (by repeat first | exact .head _ | refine .tail _ ?_)⟩⟩
    have hdk' := RgC.mapC ⟨lo, hi, ag, cg, ad, cd, af, cf, an, cn, rfl, hg, hdr, hf, hn⟩ hm0 hs.chg
    have hp' := Blk.mapC hplb hm0 hs.chg
    have hb' := Blk.mapC hblk hm0 hs.chg
    refine (situations_ca (σ := Vf) w' bp bd bm r p (.func (.func 108) #[] #[.pointer (some ⟨b2, 0, none⟩)]) (fun vf => [mpV bm vf]) (fun pre vf => GoodV r p vf ∧ ∀ x ∈ pre, (vf x.1 x.2.1 x.2.2.1 x.2.2.2).isSome = true) vf tp bt _ hdk' hr hp
      (fun w'' hc => by rw [DL_mpV] at hc; exact Blk.mapC hp' hm' hc) (fun w'' hc => by rw [DL_mpV] at hc; exact Blk.mapC hb' hm' hc) ⟨hgood, fun _ h => by cases h⟩ hsat ?_).mono fun v w'' ⟨vf', h1, h2⟩ => ⟨vf', h1, by rw [DL_mpV] at h2; exact h2⟩
    rintro pre ⟨sh, wt, st, cl⟩ post vf1 w1 hx ⟨hg1, hp1⟩ hs1
    obtain ⟨m1, m2, m3, m4⟩ := (plcL_mem r p sh wt st cl).1 (by rw [hx]; simp)
    rw [DL_mpV] at hs1
    have hm1 : MapAt w1 bm (keyF k4) eqV (liftF vf1) := hs1.mem (show mpV bm vf1 ∈ _ from .head _)
    refine CaF.of tabOk rfl ((fill2_ca w1 bp bd bm b1 b2 r p hr hp sh wt st cl vf1 m1 m2 m3 m4 (hF.mapC hm' hs1.chg) hm1 hg1).mono ?_)
    rintro v w2 ⟨vf2, _, g1, g2, g3, g4⟩
    refine ⟨vf2, ⟨g1, fun x hx => ?_⟩, by rw [DL_mpV]; exact g4⟩
    rcases List.mem_append.1 hx with hx | hx
    · exact g2.some (hp1 x hx)
    · rw [List.mem_singleton.1 hx]
      exact g3
  rintro vf' v ⟨g1, g2⟩
  (refine q_nil ?_)
  refine q_end tabOk rfl (by repeat (first | exact RVs.nil | apply RVs.tmp rfl | apply RVs.cellA rfl rfl (by repeat first | exact .head _ | refine .tail _ ?_) (by rfl) | apply RVs.cell1 rfl rfl (by repeat first | exact .head _ | refine .tail _ ?_))) fun w hs => ?_
  exact ⟨vf', rfl, g1, fun sh wt st cl hx => g2 _ hx, hs.sp (by repeat (first | exact Sp.nil | exact Sp.refl _ | refine Sp.cons (by repeat constructor) ?_))⟩

end Go.Proofs.YtohlillcaadidaaGreat

/- The engine, part B12: more about callbacks: pieces that others leave alone; maps in worlds that change. -/
namespace Go.Eng
open Go Go.RowKit

section
variable {P : Program} {T : Tab}
variable {ro : Cx} {n : Nat} {F : Fin} {w0 : World} {M : Nat → Prop} {k : List It} {ops : Array Oper} {rest : List Oper} {e : Env} {H Hq : List Ck}
variable {K : Value → Prop} {q : Value → Value → Bool} {kt et mt : TypeId}

/-- What stands beside is left alone. -/
theorem Sat.aside {w w' : World} {A R : List Ck} (h : Sat w0 M (A ++ R) w) (c : ChgP (DL A) w w') {x : Ck} (hx : x ∈ R) : x.p w' :=
  Ck.st (h.all x (List.mem_append_right _ hx)) c (fun b hb ⟨a, ha, hab⟩ => (List.pairwise_append.1 h.sep).2.2 a ha x hx b hab hb)
/-- What was there before is left alone. -/
theorem Sat.asideOld {w w' : World} {A R : List Ck} (h : Sat w0 M0 (A ++ R) w) (c : ChgP (DL A) w w') : Chg [] w0 w' :=
  h.chg0.old c (fun b ⟨a, ha, hab⟩ => (h.bd a (List.mem_append_left _ ha) b hab).2.resolve_left (fun h => h))

theorem Sat.self' {w : World} {A : List Ck} (h : Sat w0 M A w) : Sat w (DL A) A w := Sat.self (B := []) (by rw [List.append_nil]; exact h)
/-- Later changes of these pieces are changes of the first ones. -/
theorem Sat.later {w w' : World} {A B : List Ck} (h : Sat w0 (DL A) B w) (c : ChgP (DL B) w w') : ChgP (DL A) w0 w' := h.chg.upP c (fun k ⟨x, hx, hk⟩ => (h.bd x hx k hk).2)

theorem qf_fact {φ : Prop} (hf : ∀ w, Sat w0 M (H ++ Hq) w → φ) (h : φ → QF P ro n F w0 M k ops Hq rest e H) : QF P ro n F w0 M k ops Hq rest e H := .mk fun w hs => (h (hf w hs)).h w hs
theorem own_slice {w : World} {base e sz n : Nat} {v : Value} {xs : List Value} (h : w.ownsRow base e sz v n xs) : ∃ a m c, v = .slice a m c := by
  rcases h.2 with ⟨rfl, _⟩ | ⟨g, cap, cur, rfl, _⟩
  · exact ⟨_, _, _, rfl⟩
  · exact ⟨_, _, _, rfl⟩
theorem Sat.slice {w : World} {e sz n : Nat} {v : Value} {xs : List Value} (h : Sat w0 M H w) (hc : Ck.ow v e sz n xs ∈ H) : ∃ a m c, v = .slice a m c := own_slice (h.mem hc)

theorem Sat.slice2 {w : World} {e sz n : Nat} {v : Value} {xs : List Value} (h : Sat w0 M H w) (hc : Ck.ow v e sz n xs ∈ H) : ∃ a c, v = .slice a n c := by
  have h1 : w.ownsRow 0 e sz v n xs := h.all _ hc
  rcases h1.2 with ⟨rfl, rfl, _⟩ | ⟨g, cap, cur, rfl, _⟩
  · exact ⟨_, _, rfl⟩
  · exact ⟨_, _, rfl⟩

theorem Sat.rdI {w : World} {t n : Nat} {v : Value} {l : List Int} (h : Sat w0 M H w) (hc : Ck.ow v t 1 n (ints l) ∈ H) (hn : n = l.length) : RdI w 0 w.heap.size v l := by
  subst hn
  exact RdI.of (own_rd (h.all _ hc))

theorem qf_lookG {d b : Nat} {x ix : Operand} {f : Value → Option Value} {key z v : Value} {ty : TypeId} {pos : String} {af : Array Edge} (hK : KeyT P kt K q) (ht : P.underlying mt = some (.map kt et)) (hz : ZeroOf P et z)
    (hx : opv e x = some (.map (some b))) (hi : opv e ix = some key) (hd : Nat.blt d n = true) (hm : ∀ w', ChgP M w0 w' → MapAt w' b K q f) (hk : K key) (hv : (f key).getD z = v)
    (h : QF P ro n F w0 M k ops Hq rest ((d, v) :: e) H) : QF P ro n F w0 M k ops Hq (⟨some d, .lookup mt x ix false, ty, pos, af, none⟩ :: rest) e H := .mk fun w hw =>
  yf_quiet rfl hd (fun a hf w' hs => by
    simp only [execOp, hf.op hx, hf.op hi]
    simp [run_mapLook hK ht (zero_run hz w') (hm w' hs.chg) hk, hv]) (h.h w hw)
end
end Go.Eng

/- Walks: Values. -/
namespace Go.Proofs.YtohlillcaadidaaGreat
open Go Go.Eng

theorem rangeF_length {α : Type} (f : Nat → List α) (c : Nat) : ∀ n, (∀ i, i < n → (f i).length = c) → ((List.range n).flatMap f).length = n * c
  | 0, _ => by simp
  | n + 1, h => by rw [rangeF_succ, List.length_append, rangeF_length f c n (fun i hi => h i (by omega)), h n (by omega), Nat.succ_mul]
theorem plcL_length (r : Rg) (p : Ru) : (plcL r p).length = 5 * ((p.waits + 1).toNat * (r.drifts.length * ((2 * r.clicks + 1).toNat * 1))) :=
  rangeF_length _ _ _ fun _ _ => rangeF_length _ _ _ fun _ _ => rangeF_length _ _ _ fun _ _ => rangeF_length _ _ _ fun _ _ => rfl
theorem plcL_len_le (r : Rg) (p : Ru) (hr : r.Right) (hp : p.Right) : (plcL r p).length ≤ 1000000 := by
  rw [plcL_length]
  have h1 := hr.clicks
  have h2 := hr.d2
  have h3 := hp.waits
  have a : (2 * r.clicks + 1).toNat * 1 ≤ 2001 := by omega
  have b := Nat.mul_le_mul (show r.drifts.length ≤ 5 by omega) a
  have c := Nat.mul_le_mul (show (p.waits + 1).toNat ≤ 4 by omega) b
  have := Nat.mul_le_mul (show 5 ≤ 5 by omega) c
  omega

abbrev valP (r : Rg) (p : Ru) (x : Plc) : Int := valV r p x.1 x.2.1 x.2.2.1 x.2.2.2
/-- Two pieces: a variable with a slice of numbers, and the numbers. -/
abbrev outL (b : Nat) (s : Value × List Int) : List Ck := [.pt b [s.1] 22, .ow s.1 3 1 s.2.length (ints s.2)]

set_option maxHeartbeats 2000000 in
theorem values1_ca (w : World) (bp bd bm b6 b8 : Nat) (r : Rg) (p : Ru) (tp t6 : TypeId) (vf : Vf) (s : Value × List Int) (sh wt st cl v : Int) (hv : vf sh wt st cl = some v) (hlen : s.2.length ≤ 1000000)
    (hsat : Sat w (DL (outL b8 s)) (outL b8 s) w)
    (hb6 : ∀ w', ChgP (DL (outL b8 s)) w w' → Blk w' b6 [.pointer (some ⟨bp, 0, none⟩)] t6)
    (hplb : ∀ w', ChgP (DL (outL b8 s)) w w' → Blk w' bp [.pointer (some ⟨bd, 0, none⟩), .int .i64 p.miss, .int .i64 p.click, .int .i64 p.wait, .int .i64 p.waits, .map (some bm)] tp)
    (hm : ∀ w', ChgP (DL (outL b8 s)) w w' → MapAt w' bm (keyF k4) eqV (liftF vf)) :
    Ca Tryz.prog 59 [plcV sh wt st cl, .pointer (some ⟨b8, 0, none⟩), .pointer (some ⟨b6, 0, none⟩)] w fun _ w' => ∃ s', s'.2 = s.2 ++ [v] ∧ Sat w (DL (outL b8 s)) (outL b8 s') w' := by
  obtain ⟨v0, l⟩ := s
  simp only at hlen
  refine q_of (H := outL b8 (v0, l)) hsat Tryz.func59 rfl (by simp [Tryz.ntmps59]) ?_
  (refine q_seq ?_; refine q_region ?_)
  refine ql_box rfl rfl (fun b3 => ?_)
  (refine q_nil ?_)
  refine q_drawS 8 _ [.pt b8 _ _, .ow v0 3 1 l.length (ints l)] (Sp.cons (by repeat constructor) (Sp.cons (by repeat constructor) (Sp.refl _))) (by kernel_rfl) (by kernel_rfl) (by kernel_rfl) fun K1 hK1 => ?_
  (refine qf_loadB tabOk rfl rfl rfl (by repeat first | exact .head _ | refine .tail _ ?_) (by rfl) ?_; refine qf_loadG tabOk rfl rfl rfl (by assumption) (by rfl) ?_; (iterate 2 refine qf_pure tabOk rfl rfl rfl ?_); refine qf_loadG tabOk rfl rfl rfl (by assumption) (by rfl) ?_; refine qf_loadAB tabOk rfl rfl rfl (by repeat first | exact .head _ | refine .tail _ ?_) (by rfl) (by rfl) ?_)
  refine qf_lookG (v := .int .i64 v) plc_key plc_map zero_int rfl rfl rfl hm (plcV_key _ _ _ _) ((liftF_get vf sh wt st cl).trans (by rw [hv]; rfl)) ?_
  refine qf_mkS 3 [.int .i64 v] rfl (by kernel_rfl) rfl (fun bn => ?_)
  (refine qf_nil ?_)
  refine hK1 _ _ [.pt b8 _ _, .ow v0 3 1 l.length (ints l), .pt bn _ _] (Sp.cons (by repeat constructor) (Sp.cons (by repeat constructor) (Sp.cons (by repeat constructor) (by repeat (first | exact Sp.nil | exact Sp.refl _ | refine Sp.cons (by repeat constructor) ?_))))) ?_
  refine qf_append (q := 1) slI rfl rfl rfl (fun v' => by repeat constructor) (fun w' hs => ⟨_, _, Blk.rd (hs.blk (b := bn) (by repeat first | exact .head _ | refine .tail _ ?_)) rfl 1⟩) (by simp [oneV]) (by omega) (by omega) (fun va' => ?_)
  refine qf_fact (fun w hs => hs.slice (v := va') (by repeat first | exact .head _ | refine .tail _ ?_)) ?_
  rintro ⟨a1, m1, c1, rfl⟩
  (refine qf_set tabOk rfl rfl rfl rfl (by repeat constructor) ?_; refine qf_nil ?_)
  refine q_end tabOk rfl (by repeat (first | exact RVs.nil | apply RVs.tmp rfl | apply RVs.cellA rfl rfl (by repeat first | exact .head _ | refine .tail _ ?_) (by rfl) | apply RVs.cell1 rfl rfl (by repeat first | exact .head _ | refine .tail _ ?_))) fun w hs => ?_
  refine ⟨(.slice a1 m1 c1, l ++ [v]), rfl, ?_⟩
  have e1 : ints (l ++ [v]) = ints l ++ [.int .i64 v] := by simp [ints]
  have e2 : (l ++ [v]).length = l.length + 1 := by simp
  simp only [outL, e1, e2]
  exact hs.sp (by repeat (first | exact Sp.nil | exact Sp.refl _ | refine Sp.cons (by repeat constructor) ?_))

set_option maxHeartbeats 2000000 in
theorem values_ok (w : World) (cs : List Value) (r : Rg) (p : Ru) (h : RgC w cs r) (hsm : r.Small) (hru : rulesV r p = 0) : Ca Tryz.prog 23 [.agg cs.toArray, .agg #[.int .i64 p.miss, .int .i64 p.click, .int .i64 p.wait, .int .i64 p.waits]] w fun v w' =>
    ∃ x : Value, v = .tuple #[x, .int .i64 0] ∧ Sat w M0 [.ow x 3 1 (plcL r p).length (ints ((plcL r p).map (valP r p)))] w' := by
  have h0 := h
  obtain ⟨hck, hp⟩ := (rules_iff r p).1 hru
  have hr := (right_check r).1 hck
  have hlen := plcL_len_le r p hr hp
  obtain ⟨lo, hi, ag, cg, ad, cd, af, cf, an, cn, rfl, hg, hdr, hf, hn⟩ := h
  refine q_of (Sat.nil w M0) Tryz.func23 rfl (by simp [Tryz.ntmps23]) ?_
  (refine q_seq ?_; refine q_region ?_)
  refine ql_box rfl rfl (fun b2 => ?_)
  skip
  refine ql_box rfl rfl (fun b3 => ?_)
  ((iterate 2 refine ql_pure tabOk rfl rfl ?_); refine q_nil ?_; refine q_seq ?_; refine q_region ?_; (iterate 2 refine ql_loadAB tabOk rfl rfl rfl (by repeat first | exact .head _ | refine .tail _ ?_) (by rfl) (by rfl) ?_))
  refine ql_call (β := Nat × Nat × Nat) tabOk [] _ M0 rfl rfl rfl rfl (Sp.refl _) (fun _ h => h.elim) (fun w' hs => begun_ok w' _ r p (h0.keep hs.chg0) hsm hru) ?_
  rintro ⟨bp, bd, bm⟩ _ rfl
  (refine ql_pure tabOk rfl rfl ?_; (iterate 2 refine ql_ext tabOk rfl rfl rfl ?_))
  refine ql_alloc zero105 rfl (fun b6 => ?_)
  (refine ql_set tabOk rfl rfl rfl rfl (by repeat constructor) ?_; refine ql_pure tabOk rfl rfl ?_; refine q_nil ?_; (iterate 2 refine q_seq ?_); refine q_region ?_; (iterate 2 refine ql_pure tabOk rfl rfl ?_); refine q_nil ?_; refine q_cond_false rfl ?_; refine q_skip ?_; refine q_seq ?_; refine q_region ?_; refine ql_loadB tabOk rfl rfl rfl (by repeat first | exact .head _ | refine .tail _ ?_) (by rfl) ?_)
  refine ql_call (β := Vf) (ψ := fun vf' v => GoodV r p vf' ∧ ∀ sh wt st cl, (sh, wt, st, cl) ∈ plcL r p → (vf' sh wt st cl).isSome = true) (L' := fun vf' => [mpV bm vf']) tabOk
    [mpV bm (fun _ _ _ _ => none)] _ (· = bm) rfl rfl rfl rfl (Sp.cons (by repeat constructor) (Sp.refl _)) (fun b hb => ⟨_, .head _, hb⟩) (fun w' hs => (fill_ca w' bp bd bm r p hr hp (fun _ _ _ _ => none) ⟨_, hs.blk (b := bp) (by repeat first | exact .head _ | refine .tail _ ?_), _, _, hs.blk (b := bd) (by repeat first | exact .head _ | refine .tail _ ?_), h0.keep hs.chg0⟩ (hs.mem (show mpV bm (fun _ _ _ _ => none) ∈ _ from .head _)) (fun _ _ _ _ _ h => by cases h)).mono fun v w'' ⟨vf', _, g1, g2, g3⟩ => ⟨vf', ⟨g1, g2⟩, g3⟩) ?_
  rintro vf v ⟨hgood, hfull⟩
  (refine q_nil ?_; refine q_seq ?_; refine q_region ?_)
  refine ql_alloc zero22 rfl (fun b8 => ?_)
  (refine q_nil ?_; refine q_seq ?_; refine q_region ?_; refine ql_loadB tabOk rfl rfl rfl (by repeat first | exact .head _ | refine .tail _ ?_) (by rfl) ?_; refine ql_pure tabOk rfl rfl ?_)
  refine ql_conv (H' := .ow (.slice none 0 0) 3 1 0 (ints []) :: _) (fun w' hs => Sat.ownil hs _ _) ?_
  refine ql_call (β := Value × List Int) (ψ := fun s' v => s'.2 = (plcL r p).map (valP r p)) (L' := fun s' => outL b8 s') tabOk
    (outL b8 (.slice none 0 0, [])) _ (DL (outL b8 (.slice none 0 0, []))) rfl rfl rfl rfl (Sp.cons (by repeat constructor) (Sp.cons (by repeat constructor) (Sp.refl _))) (fun b hb => hb) (fun w' hs => ?_) ?_
  · refine (situations_ca (σ := Value × List Int) w' bp bd bm r p _ (fun s => outL b8 s) (fun pre s => s.2 = pre.map (valP r p)) (.slice none 0 0, []) _ _ _ (h0.keep hs.chg0) hr hp
      (fun w'' hc => hs.aside hc (x := .pt bp _ _) (by repeat first | exact .head _ | refine .tail _ ?_)) (fun w'' hc => hs.aside hc (x := .pt bd _ _) (by repeat first | exact .head _ | refine .tail _ ?_)) rfl hs.self ?_)
    rintro pre ⟨sh, wt, st, cl⟩ post s w1 hx hI hs1
    have hmem : (sh, wt, st, cl) ∈ plcL r p := by rw [hx]; simp
    refine CaF.of tabOk rfl ((values1_ca w1 bp bd bm b6 b8 r p _ _ vf s sh wt st cl (valP r p (sh, wt, st, cl)) (hgood.at (hfull _ _ _ _ hmem)) ?_ hs1.self' (fun w2 hc => hs.aside (hs1.later hc) (x := .pt b6 _ _) (by repeat first | exact .head _ | refine .tail _ ?_)) (fun w2 hc => hs.aside (hs1.later hc) (x := .pt bp _ _) (by repeat first | exact .head _ | refine .tail _ ?_)) (fun w2 hc => hs.aside (hs1.later hc) (x := mpV bm vf) (by repeat first | exact .head _ | refine .tail _ ?_))).mono ?_)
    · have : (plcL r p).length = (pre ++ (sh, wt, st, cl) :: post).length := by rw [hx]
      rw [hI, List.length_map]
      simp at this
      omega
    · rintro v w2 ⟨s', g1, g2⟩
      exact ⟨s', by rw [g1, hI, List.map_append]; rfl, g2⟩
  · rintro ⟨x, l⟩ _ hl
    simp only at hl
    (refine q_nil ?_; refine q_seq ?_; refine q_region ?_; refine ql_loadB tabOk rfl rfl rfl (by repeat first | exact .head _ | refine .tail _ ?_) (by rfl) ?_; (iterate 2 refine ql_pure tabOk rfl rfl ?_); refine q_nil ?_; refine q_ret ?_)
    refine q_fin tabOk rfl (by repeat (first | exact RVs.nil | apply RVs.tmp rfl | apply RVs.cellA rfl rfl (by repeat first | exact .head _ | refine .tail _ ?_) (by rfl) | apply RVs.cell1 rfl rfl (by repeat first | exact .head _ | refine .tail _ ?_))) fun w hs => ?_
    refine ⟨x, rfl, ?_⟩
    have e := congrArg List.length hl
    simp only [List.length_map] at e
    have h1 := hs.sp (H' := [.ow x 3 1 l.length (ints l)]) (by repeat (first | exact Sp.nil | exact Sp.refl _ | refine Sp.cons (by repeat constructor) ?_))
    rw [e, hl] at h1
    exact h1

end Go.Proofs.YtohlillcaadidaaGreat
