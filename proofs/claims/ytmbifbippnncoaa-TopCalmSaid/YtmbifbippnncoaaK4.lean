/- Walks: by how much one more breath helps. -/
import Derived.Test.YtmbifbippnncoaaK3
namespace Go.Proofs.Ytmbifbippnncoaa
open Go Go.Eng

def gainS (a : List (List Int)) (n : Nat) : Int := (a.getD n []).getD 0 0 - (a.getD n []).getD 1 0
def helpP (a : List (List Int)) (ws : List Int) : Nat → Int × Int
  | 0 => (0, 0)
  | n + 1 => if ws.getD n 0 + 1 < ((a.getD n []).length : Int) ∧ (helpP a ws n).1 < gainS a n then (gainS a n, n) else helpP a ws n
theorem helpP_bd (a : List (List Int)) (ws : List Int) (hok : AimOk a) : ∀ n, n ≤ a.length → 0 ≤ (helpP a ws n).1 ∧ (helpP a ws n).1 ≤ 1000 ∧ 0 ≤ (helpP a ws n).2 ∧ (helpP a ws n).2 ≤ n
  | 0, _ => by simp [helpP]
  | n + 1, h => by
    have ih := helpP_bd a ws hok n (by omega)
    have hn : n < a.length := by omega
    rw [helpP]
    split
    · rename_i hc
      have e : a.getD n [] = a[n] := by simp [hn]
      have hb : ∀ i, 0 ≤ a[n].getD i 0 ∧ a[n].getD i 0 ≤ 1000 := getD_bd (by omega) (hok.bd _ (List.getElem_mem hn))
      have h0 := hb 0
      have h1 := hb 1
      unfold gainS at hc ⊢
      rw [e] at hc ⊢
      simp only
      omega
    · omega

set_option maxHeartbeats 1000000 in
theorem helps_ca (w : World) (lo hi lo2 hi2 : Nat) (v u : Value) (a : List (List Int)) (ws : List Int) (ha : RdII w lo hi v a) (hok : AimOk a) (hu : RdI w lo2 hi2 u ws) (hw : WtOk a ws) : Ca Try.prog 38 [v, u] w fun r w' => r = .tuple #[.int .i64 (helpP a ws ws.length).1, .int .i64 (helpP a ws ws.length).2] ∧ Chg [] w w' := by
  obtain ⟨p, c, rfl, hsl⟩ := RdII.outI ha
  obtain ⟨pu, cu, rfl, hsu⟩ := RdI.outI hu
  have h1 := hok.a1
  have h2 := hok.a2
  have hwl := hw.len
  obtain ⟨b, off, rfl⟩ := hsl (by omega)
  obtain ⟨bu, ofu, rfl⟩ := hsu (by omega)
  refine q_of (Sat.nil w M0) Try.func38 rfl (by simp [Try.ntmps38]) ?_
  (refine q_seq ?_; refine q_region ?_; (iterate 2 refine ql_pure tabOk rfl rfl ?_); refine q_nil ?_; refine q_seq ?_; refine q_region ?_; (iterate 2 refine ql_pure tabOk rfl rfl ?_); refine q_nil ?_; (iterate 2 refine q_seq ?_); refine q_region ?_; (iterate 3 refine ql_pure tabOk rfl rfl ?_); refine q_nil ?_; refine q_block ?_)
  refine q_loop (σ := Nat) (fun k => k ≤ ws.length) (fun k => ws.length - k) (fun k => [(0, .slice (some ⟨b, off, none⟩) a.length c), (6, .int .i64 (helpP a ws k).1), (7, .int .i64 (helpP a ws k).2), (10, .slice (some ⟨bu, ofu, none⟩) ws.length cu), (11, .int .i64 ws.length), (12, .int .i64 k)]) (fun _ => []) 0 (by omega) ⟨rfl, rfl, rfl, rfl, rfl, rfl, trivial⟩ .nil ?_
  intro k hk K hK
  have hmb := helpP_bd a ws hok k (by omega)
  (refine q_seq ?_; refine q_region ?_; refine ql_pure tabOk rfl rfl ?_; refine q_nil ?_; refine q_seq ?_)
  refine q_if rfl (fun hc => ?_) (fun hc => ?_)
  · have hk : k < ws.length := by omega
    have hk' : k < a.length := by omega
    obtain ⟨ar, cr, hrow, hcell⟩ := ha.row k hk'
    have hrw := hok.row _ (List.getElem_mem hk')
    have hwk := hw.wt k hk hk'
    have hb3 := hok.bd _ (List.getElem_mem hk')
    have hst : helpP a ws (k + 1) = if ws[k] + 1 < (a[k].length : Int) ∧ (helpP a ws k).1 < a[k].getD 0 0 - a[k].getD 1 0 then (a[k].getD 0 0 - a[k].getD 1 0, (k : Int)) else helpP a ws k := by
      rw [helpP, gainS]
      simp [List.getElem?_eq_getElem hk', List.getElem?_eq_getElem hk]
    obtain ⟨_, _, hsl', hsd⟩ := RdI.outI hrow
    cases hsl'
    obtain ⟨bl, ofl, rfl⟩ := hsd (by omega)
    obtain ⟨j, hjx⟩ : ∃ j : Nat, ws[k] = j := ⟨ws[k].toNat, by omega⟩
    have hjl : j < a[k].length := by omega
    rw [hjx] at hst
    have hrd : ∀ w', Chg [] w w' → w'.cell? ⟨b, off + k * 1, none⟩ = some (.slice (some ⟨bl, ofl, none⟩) a[k].length cr) := fun w' hc => hcell w' hc
    generalize a[k] = l at *
    (refine q_skip ?_; refine q_seq ?_; refine q_block ?_; refine q_seq ?_; refine q_region ?_; refine ql_pure tabOk rfl rfl ?_)
    (refine ql_index tabOk rfl rfl rfl rfl rfl (by omega) (by omega) ?_; refine ql_load1 tabOk rfl rfl rfl (fun w hs => RdI.at (RdE.keep hu hs.chg0) k hk) ?_)
    rw [hjx]
    ((iterate 2 refine ql_pure tabOk rfl rfl ?_); refine q_nil ?_; refine q_seq ?_)
    refine q_draw _ [] (Sp.refl _) (by kernel_rfl) (by kernel_rfl) ?_
    (refine qf_pure tabOk rfl rfl rfl ?_; refine qf_ar tabOk rfl rfl rfl rfl (by omega) (by omega) ?_; (iterate 2 refine qf_pure tabOk rfl rfl rfl ?_))
    refine qf_index tabOk rfl rfl rfl rfl rfl (by omega) (by omega) ?_
    refine qf_load1 (v := .slice (some ⟨bl, ofl, none⟩) l.length cr) tabOk rfl rfl rfl (fun w' hs => hcell w' hs.chg0) ?_
    ((iterate 3 refine qf_pure tabOk rfl rfl rfl ?_))
    by_cases hx : (j : Int) + 1 < l.length
    · obtain ⟨l0, l1, rfl⟩ : ∃ l0 l1, l = [l0, l1] := by
        match l, hrw, hx with
        | [x, y], _, _ => exact ⟨x, y, rfl⟩
        | [x], _, h => simp at h; omega
      have hj0 : j = 0 := by simp at hx; omega
      have hb0 := hb3 l0 (by simp)
      have hb1 := hb3 l1 (by simp)
      rw [decide_eq_true hx]
      have hj1 : j < [l0, l1].length := by simp; omega
      have hj2 : j + 1 < [l0, l1].length := by simp; omega
      have e0 : [l0, l1][j] = l0 := by subst hj0; rfl
      have e1 : [l0, l1][j + 1] = l1 := by subst hj0; rfl
      simp only [List.getD_cons_zero, List.getD_cons_succ] at hst
      (refine qf_gyes rfl ?_; refine qf_pure tabOk rfl rfl rfl ?_; refine qf_gyes rfl ?_; refine qf_pure tabOk rfl rfl rfl ?_; refine qf_gyes rfl ?_)
      refine qf_index tabOk rfl rfl rfl rfl rfl (by omega) (by omega) ?_
      (refine qf_gyes rfl ?_)
      refine qf_load1 (v := .slice (some ⟨bl, ofl, none⟩) [l0, l1].length cr) tabOk rfl rfl rfl (fun w' hs => hcell w' hs.chg0) ?_
      (refine qf_gyes rfl ?_; refine qf_pure tabOk rfl rfl rfl ?_; refine qf_gyes rfl ?_)
      refine qf_index tabOk rfl rfl rfl rfl rfl (by omega) (by simp only [List.length_cons, List.length_nil]; omega) ?_
      (refine qf_gyes rfl ?_)
      refine qf_load1 tabOk rfl rfl rfl (fun w hs => RdI.at (RdE.keep hrow hs.chg0) j hj1) ?_
      rw [e0]
      (refine qf_gyes rfl ?_; refine qf_pure tabOk rfl rfl rfl ?_; refine qf_gyes rfl ?_; refine qf_pure tabOk rfl rfl rfl ?_; refine qf_gyes rfl ?_)
      refine qf_index tabOk rfl rfl rfl rfl rfl (by omega) (by omega) ?_
      (refine qf_gyes rfl ?_)
      refine qf_load1 (v := .slice (some ⟨bl, ofl, none⟩) [l0, l1].length cr) tabOk rfl rfl rfl (fun w' hs => hcell w' hs.chg0) ?_
      (refine qf_gyes rfl ?_; refine qf_pure tabOk rfl rfl rfl ?_; refine qf_gyes rfl ?_; refine qf_ar tabOk rfl rfl rfl rfl (by omega) (by omega) ?_; refine qf_gyes rfl ?_)
      rw [show (j : Int) + 1 = ((j + 1 : Nat) : Int) from rfl]
      refine qf_index tabOk rfl rfl rfl rfl rfl (by omega) (by simp only [List.length_cons, List.length_nil]; omega) ?_
      (refine qf_gyes rfl ?_)
      refine qf_load1 tabOk rfl rfl rfl (fun w hs => RdI.at (RdE.keep hrow hs.chg0) (j + 1) hj2) ?_
      rw [e1]
      (refine qf_gyes rfl ?_; refine qf_ar tabOk rfl rfl rfl rfl (by omega) (by omega) ?_; refine qf_gyes rfl ?_; refine qf_pure tabOk rfl rfl rfl ?_; refine qf_gyes rfl ?_; (iterate 2 refine qf_pure tabOk rfl rfl rfl ?_); refine qf_nil ?_)
      by_cases hg : (helpP a ws k).1 < l0 - l1
      · rw [decide_eq_true hg]
        rw [if_pos ⟨hx, hg⟩] at hst
        (refine q_cond_true rfl ?_)
        refine q_draw _ [] (Sp.refl _) (by kernel_rfl) (by kernel_rfl) ?_
        ((iterate 2 refine qf_pure tabOk rfl rfl rfl ?_))
        refine qf_index tabOk rfl rfl rfl rfl rfl (by omega) (by omega) ?_
        skip
        refine qf_load1 (v := .slice (some ⟨bl, ofl, none⟩) [l0, l1].length cr) tabOk rfl rfl rfl (fun w' hs => hcell w' hs.chg0) ?_
        (refine qf_pure tabOk rfl rfl rfl ?_)
        refine qf_index tabOk rfl rfl rfl rfl rfl (by omega) (by simp only [List.length_cons, List.length_nil]; omega) ?_
        skip
        refine qf_load1 tabOk rfl rfl rfl (fun w hs => RdI.at (RdE.keep hrow hs.chg0) j hj1) ?_
        rw [e0]
        ((iterate 2 refine qf_pure tabOk rfl rfl rfl ?_))
        refine qf_index tabOk rfl rfl rfl rfl rfl (by omega) (by omega) ?_
        skip
        refine qf_load1 (v := .slice (some ⟨bl, ofl, none⟩) [l0, l1].length cr) tabOk rfl rfl rfl (fun w' hs => hcell w' hs.chg0) ?_
        (refine qf_pure tabOk rfl rfl rfl ?_; refine qf_ar tabOk rfl rfl rfl rfl (by omega) (by omega) ?_)
        rw [show (j : Int) + 1 = ((j + 1 : Nat) : Int) from rfl]
        refine qf_index tabOk rfl rfl rfl rfl rfl (by omega) (by simp only [List.length_cons, List.length_nil]; omega) ?_
        skip
        refine qf_load1 tabOk rfl rfl rfl (fun w hs => RdI.at (RdE.keep hrow hs.chg0) (j + 1) hj2) ?_
        rw [e1]
        (refine qf_ar tabOk rfl rfl rfl rfl (by omega) (by omega) ?_; (iterate 3 refine qf_pure tabOk rfl rfl rfl ?_); refine qf_nil ?_; refine q_blk ?_; refine q_region ?_; refine ql_ar tabOk rfl rfl rfl rfl (by omega) (by omega) ?_; refine ql_pure tabOk rfl rfl ?_; refine q_nil ?_)
        have hv1 : some (Value.int .i64 (l0 - l1)) = some (.int .i64 (helpP a ws (k + 1)).1) := by rw [hst]
        have hv2 : some (Value.int .i64 (k : Int)) = some (.int .i64 (helpP a ws (k + 1)).2) := by rw [hst]
        exact hK (k + 1) _ _ (by omega) (by omega) ⟨rfl, hv1, hv2, rfl, rfl, rfl, trivial⟩ (by repeat (first | exact Sp.nil | exact Sp.refl _ | refine Sp.cons (by repeat constructor) ?_))
      · rw [decide_eq_false hg]
        rw [if_neg (fun h => hg h.2)] at hst
        (refine q_cond_false rfl ?_; refine q_skip ?_; refine q_blk ?_; refine q_region ?_; refine ql_ar tabOk rfl rfl rfl rfl (by omega) (by omega) ?_; refine ql_pure tabOk rfl rfl ?_; refine q_nil ?_)
        have hv1 : some (Value.int .i64 (helpP a ws k).1) = some (.int .i64 (helpP a ws (k + 1)).1) := by rw [hst]
        have hv2 : some (Value.int .i64 (helpP a ws k).2) = some (.int .i64 (helpP a ws (k + 1)).2) := by rw [hst]
        exact hK (k + 1) _ _ (by omega) (by omega) ⟨rfl, hv1, hv2, rfl, rfl, rfl, trivial⟩ (by repeat (first | exact Sp.nil | exact Sp.refl _ | refine Sp.cons (by repeat constructor) ?_))
    · rw [decide_eq_false hx]
      rw [if_neg (fun h => hx h.1)] at hst
      ((iterate 18 refine qf_gno rfl rfl rfl ?_); refine qf_pure tabOk rfl rfl rfl ?_; refine qf_nil ?_; refine q_cond_false rfl ?_; refine q_skip ?_; refine q_blk ?_; refine q_region ?_; refine ql_ar tabOk rfl rfl rfl rfl (by omega) (by omega) ?_; refine ql_pure tabOk rfl rfl ?_; refine q_nil ?_)
      have hv1 : some (Value.int .i64 (helpP a ws k).1) = some (.int .i64 (helpP a ws (k + 1)).1) := by rw [hst]
      have hv2 : some (Value.int .i64 (helpP a ws k).2) = some (.int .i64 (helpP a ws (k + 1)).2) := by rw [hst]
      exact hK (k + 1) _ _ (by omega) (by omega) ⟨rfl, hv1, hv2, rfl, rfl, rfl, trivial⟩ (by repeat (first | exact Sp.nil | exact Sp.refl _ | refine Sp.cons (by repeat constructor) ?_))
  · obtain rfl : k = ws.length := by omega
    (refine q_exit _ rfl ?_; refine q_seq ?_; refine q_region ?_; (iterate 4 refine ql_pure tabOk rfl rfl ?_); refine q_nil ?_; refine q_ret ?_)
    refine q_fin tabOk rfl (by repeat (first | exact RVs.nil | apply RVs.tmp rfl | apply RVs.cellA rfl rfl (by repeat first | exact .head _ | refine .tail _ ?_) (by rfl) | apply RVs.cell1 rfl rfl (by repeat first | exact .head _ | refine .tail _ ?_))) fun w hs => ?_
    exact ⟨rfl, hs.chg0⟩

end Go.Proofs.Ytmbifbippnncoaa
