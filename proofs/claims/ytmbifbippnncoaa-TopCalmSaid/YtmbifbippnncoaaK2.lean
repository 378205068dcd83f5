/- Walks: CheckAim, of aims that are right. -/
import Derived.Test.YtmbifbippnncoaaK1
namespace Go.Proofs.Ytmbifbippnncoaa
open Go Go.Eng

/-- An aim with at most one breath a shot. -/
structure AimOk (a : List (List Int)) : Prop where
  a1 : 1 ≤ a.length
  a2 : a.length ≤ 8
  row : ∀ l ∈ a, 1 ≤ l.length ∧ l.length ≤ 2
  bd : ∀ l ∈ a, ∀ x ∈ l, 0 ≤ x ∧ x ≤ 1000
  ord : ∀ l ∈ a, l.getD 1 0 ≤ l.getD 0 0

theorem aim1_p (w : World) (lo hi : Nat) (ll : List (List Int)) : RowP w lo hi (.func (.func 34) #[] #[]) ll (fun l => inB l.length 1 21) := by
  refine ⟨_, _, _, rfl, rfl, fun w' hw' l _ v hv => ?_⟩
  obtain ⟨a, c, rfl, _⟩ := RdI.outI hv
  refine q_of (Sat.nil w' M0) Try.func34 rfl (by simp [Try.ntmps34]) ?_
  (refine q_seq ?_; refine q_region ?_; refine ql_pure tabOk rfl rfl ?_; refine q_nil ?_; refine q_seq ?_; refine q_region ?_; (iterate 2 refine ql_pure tabOk rfl rfl ?_))
  refine ql_callv tabOk rfl rfl rfl rfl (fun w hs => within_ca (l.length : Int) 1 21 w) ?_
  (refine ql_pure tabOk rfl rfl ?_; refine q_nil ?_; refine q_ret ?_)
  refine q_fin tabOk rfl (by repeat (first | exact RVs.nil | apply RVs.tmp rfl | apply RVs.cellA rfl rfl (by repeat first | exact .head _ | refine .tail _ ?_) (by rfl) | apply RVs.cell1 rfl rfl (by repeat first | exact .head _ | refine .tail _ ?_))) fun w hs => ?_
  exact ⟨rfl, hs.chg0⟩

theorem aim3_p (w : World) (es : List Int) : PredAt Try.prog tab w (.func (.func 37) #[] #[]) (ints es) (pI 0 1000) := by
  refine ⟨_, _, _, rfl, rfl, fun w' hw' x hx => ?_⟩
  obtain ⟨y, hy, rfl⟩ := List.mem_map.1 hx
  refine q_of (Sat.nil w' M0) Try.func37 rfl (by simp [Try.ntmps37]) ?_
  (refine q_seq ?_; refine q_region ?_; refine ql_pure tabOk rfl rfl ?_; refine q_nil ?_; refine q_seq ?_; refine q_region ?_; refine ql_pure tabOk rfl rfl ?_)
  refine ql_callv tabOk rfl rfl rfl rfl (fun w hs => within_ca y 0 1000 w) ?_
  (refine ql_pure tabOk rfl rfl ?_; refine q_nil ?_; refine q_ret ?_)
  refine q_fin tabOk rfl (by repeat (first | exact RVs.nil | apply RVs.tmp rfl | apply RVs.cellA rfl rfl (by repeat first | exact .head _ | refine .tail _ ?_) (by rfl) | apply RVs.cell1 rfl rfl (by repeat first | exact .head _ | refine .tail _ ?_))) fun w hs => ?_
  exact ⟨rfl, hs.chg0⟩

theorem aim2_p (w : World) (lo hi : Nat) (ll : List (List Int)) (hlen : ∀ l ∈ ll, l.length < 1000000) :
    RowP w lo hi (.func (.func 35) #[] #[]) ll (fun l => l.all (fun n => inB n 0 1000)) := by
  refine ⟨_, _, _, rfl, rfl, fun w' hw' l hl v hv => ?_⟩
  refine q_of (Sat.nil w' M0) Try.func35 rfl (by simp [Try.ntmps35]) ?_
  (refine q_seq ?_; refine q_region ?_; refine ql_pure tabOk rfl rfl ?_; refine q_nil ?_; refine q_seq ?_; refine q_region ?_; refine ql_pure tabOk rfl rfl ?_)
  (refine ql_callv tabOk rfl rfl rfl rfl (fun w hs => all_rint w lo hi v _ (ints l) (pI 0 1000) (RdE.keep hv hs.chg0) (ints_one l) (by have := hlen l hl; simp; omega) (aim3_p w l)) ?_)
  (refine ql_pure tabOk rfl rfl ?_; refine q_nil ?_; refine q_ret ?_)
  refine q_fin tabOk rfl (by repeat (first | exact RVs.nil | apply RVs.tmp rfl | apply RVs.cellA rfl rfl (by repeat first | exact .head _ | refine .tail _ ?_) (by rfl) | apply RVs.cell1 rfl rfl (by repeat first | exact .head _ | refine .tail _ ?_))) fun w hs => ?_
  exact ⟨by rw [pI_all]; rfl, hs.chg0⟩

set_option maxHeartbeats 1000000 in
theorem checkAim_ca (w : World) (lo hi : Nat) (v : Value) (a : List (List Int)) (ha : RdII w lo hi v a) (hok : AimOk a) : Ca Try.prog 24 [v] w fun r w' => r = .int .i64 0 ∧ Chg [] w w' := by
  obtain ⟨p, c, rfl, hsl⟩ := RdII.outI ha
  have h1 := hok.a1
  have h2 := hok.a2
  have hr1 : a.all (fun l => inB l.length 1 21) = true := List.all_eq_true.2 fun l hl => inB_iff.2 (by have := hok.row l hl; omega)
  have hr2 : a.all (fun l => l.all (fun n => inB n 0 1000)) = true := List.all_eq_true.2 fun l hl => List.all_eq_true.2 fun x hx => inB_iff.2 (hok.bd l hl x hx)
  obtain ⟨b, off, rfl⟩ := hsl (by omega)
  refine q_of (Sat.nil w M0) Try.func24 rfl (by simp [Try.ntmps24]) ?_
  (refine q_seq ?_; refine q_region ?_; refine ql_pure tabOk rfl rfl ?_; refine q_nil ?_; refine q_seq ?_; refine q_block ?_; refine q_seq ?_; refine q_region ?_; (iterate 2 refine ql_pure tabOk rfl rfl ?_))
  refine ql_callv tabOk rfl rfl rfl rfl (fun w hs => within_ca (a.length : Int) 1 8 w) ?_
  rw [inB_iff.2 (show (1 : Int) ≤ a.length ∧ (a.length : Int) ≤ 8 by omega)]
  ((iterate 2 refine ql_pure tabOk rfl rfl ?_); refine ql_gyes rfl ?_; refine ql_pure tabOk rfl rfl ?_; refine ql_gyes rfl ?_)
  refine ql_callv tabOk rfl rfl rfl rfl (fun w hs => rallR w lo hi _ _ a _ (ha.keep hs.chg0) (by omega) (aim1_p w lo hi a)) ?_
  rw [hr1]
  (refine ql_gyes rfl ?_; (iterate 3 refine ql_pure tabOk rfl rfl ?_); refine q_nil ?_; refine q_cond_false rfl ?_; refine q_seq ?_; refine q_region ?_; refine ql_pure tabOk rfl rfl ?_)
  (refine ql_callv tabOk rfl rfl rfl rfl (fun w hs => rallR w lo hi _ _ a _ (ha.keep hs.chg0) (by omega) (aim2_p w lo hi a (fun l hl => by have := hok.row l hl; omega))) ?_)
  rw [hr2]
  ((iterate 2 refine ql_pure tabOk rfl rfl ?_); refine q_nil ?_; refine q_cond_false rfl ?_; refine q_skip ?_; refine q_blk ?_; (iterate 2 refine q_seq ?_); refine q_region ?_; (iterate 3 refine ql_pure tabOk rfl rfl ?_); refine q_nil ?_; refine q_block ?_)
  refine q_loop (σ := Nat) (fun k => k ≤ a.length) (fun k => a.length - k) (fun k => [(20, .slice (some ⟨b, off, none⟩) a.length c), (21, .int .i64 a.length), (22, .int .i64 k)]) (fun _ => []) 0 (by omega) ⟨rfl, rfl, rfl, trivial⟩ .nil ?_
  intro k hk K hK
  (refine q_seq ?_; refine q_region ?_; refine ql_pure tabOk rfl rfl ?_; refine q_nil ?_; refine q_seq ?_)
  refine q_if rfl (fun hc => ?_) (fun hc => ?_)
  · have hk : k < a.length := by omega
    obtain ⟨ar, cr, hrow, hcell⟩ := ha.row k hk
    have hl := List.getElem_mem hk
    have hb := hok.bd _ hl
    have ho := hok.ord _ hl
    have hrw := hok.row _ hl
    generalize a[k] = l at *
    obtain ⟨_, _, hsl', hsd⟩ := RdI.outI hrow
    cases hsl'
    obtain ⟨bl, ofl, rfl⟩ := hsd (by omega)
    (refine q_skip ?_; refine q_seq ?_; refine q_block ?_; refine q_seq ?_; refine q_region ?_)
    refine ql_index tabOk rfl rfl rfl rfl rfl (by omega) (by omega) ?_
    refine ql_load1 (v := .slice (some ⟨bl, ofl, none⟩) l.length cr) tabOk rfl rfl rfl (fun w' hs => hcell w' hs.chg0) ?_
    (refine ql_pure tabOk rfl rfl ?_; refine q_nil ?_; refine q_seq ?_; refine q_region ?_; refine ql_pure tabOk rfl rfl ?_; refine q_nil ?_; refine q_block ?_)
    refine q_loop (σ := Nat) (fun j => 1 ≤ j ∧ j ≤ l.length) (fun j => l.length - j) (fun j => [(20, .slice (some ⟨b, off, none⟩) a.length c), (21, .int .i64 a.length), (22, .int .i64 k), (4, .slice (some ⟨bl, ofl, none⟩) l.length cr), (5, .int .i64 j)]) (fun _ => []) 1 (by omega) ⟨rfl, rfl, rfl, rfl, rfl, trivial⟩ .nil ?_
    intro j hj K2 hK2
    ((iterate 2 refine q_seq ?_); refine q_region ?_; (iterate 4 refine ql_pure tabOk rfl rfl ?_); refine q_nil ?_)
    refine q_if rfl (fun hc => ?_) (fun hc => ?_)
    · obtain rfl : j = 1 := by omega
      have hl2 : 1 < l.length := by omega
      have hb0 := hb l[0] (List.getElem_mem _)
      have hb1 := hb l[1] (List.getElem_mem _)
      simp only [List.getD_eq_getElem?_getD, List.getElem?_eq_getElem hl2, List.getElem?_eq_getElem (show 0 < l.length by omega), Option.getD_some] at ho
      (refine q_skip ?_; refine q_seq ?_; refine q_block ?_; refine q_seq ?_)
      refine q_draw _ [] (Sp.refl _) (by kernel_rfl) (by kernel_rfl) ?_
      ((iterate 2 refine qf_pure tabOk rfl rfl rfl ?_))
      (refine qf_index tabOk rfl rfl rfl rfl rfl (by omega) (by omega) ?_; refine qf_load1 tabOk rfl rfl rfl (fun w hs => RdI.at (RdE.keep hrow hs.chg0) 1 hl2) ?_)
      ((iterate 2 refine qf_pure tabOk rfl rfl rfl ?_); refine qf_ar tabOk rfl rfl rfl rfl (by omega) (by omega) ?_)
      obtain ⟨j0, hj0⟩ : ∃ j0 : Nat, j0 = 0 := ⟨0, rfl⟩
      have hjl : j0 < l.length := by omega
      have hlj : l[j0] = l[0] := by subst hj0; rfl
      rw [show ((1 : Nat) : Int) - 1 = (j0 : Int) by omega]
      (refine qf_index tabOk rfl rfl rfl rfl rfl (by omega) (by omega) ?_; refine qf_load1 tabOk rfl rfl rfl (fun w hs => RdI.at (RdE.keep hrow hs.chg0) j0 hjl) ?_)
      rw [hlj]
      ((iterate 2 refine qf_pure tabOk rfl rfl rfl ?_))
      rw [decide_eq_false (show ¬ l[0] < l[1] by omega)]
      (refine qf_gyes rfl ?_; refine qf_pure tabOk rfl rfl rfl ?_; refine qf_gyes rfl ?_; refine qf_pure tabOk rfl rfl rfl ?_; refine qf_gyes rfl ?_; refine qf_pure tabOk rfl rfl rfl ?_; (iterate 22 refine qf_gno rfl rfl rfl ?_); refine qf_gyes rfl ?_; (iterate 2 refine qf_pure tabOk rfl rfl rfl ?_); refine qf_nil ?_; refine q_cond_false rfl ?_; refine q_skip ?_; refine q_blk ?_; refine q_region ?_; refine ql_pure tabOk rfl rfl ?_; refine ql_ar tabOk rfl rfl rfl rfl (by omega) (by omega) ?_; refine ql_pure tabOk rfl rfl ?_; refine q_nil ?_)
      exact hK2 2 _ _ (by omega) (by omega) ⟨rfl, rfl, rfl, rfl, rfl, trivial⟩ (by repeat (first | exact Sp.nil | exact Sp.refl _ | refine Sp.cons (by repeat constructor) ?_))
    · (refine q_exit _ rfl ?_; refine q_blk ?_; refine q_region ?_; refine ql_ar tabOk rfl rfl rfl rfl (by omega) (by omega) ?_; refine ql_pure tabOk rfl rfl ?_; refine q_nil ?_)
      exact hK (k + 1) _ _ (by omega) (by omega) ⟨rfl, rfl, rfl, trivial⟩ (by repeat (first | exact Sp.nil | exact Sp.refl _ | refine Sp.cons (by repeat constructor) ?_))
  · (refine q_exit _ rfl ?_; refine q_seq ?_; refine q_region ?_; refine ql_pure tabOk rfl rfl ?_; refine q_nil ?_; refine q_ret ?_)
    refine q_fin tabOk rfl (by repeat (first | exact RVs.nil | apply RVs.tmp rfl | apply RVs.cellA rfl rfl (by repeat first | exact .head _ | refine .tail _ ?_) (by rfl) | apply RVs.cell1 rfl rfl (by repeat first | exact .head _ | refine .tail _ ?_))) fun w hs => ?_
    exact ⟨rfl, hs.chg0⟩

end Go.Proofs.Ytmbifbippnncoaa
