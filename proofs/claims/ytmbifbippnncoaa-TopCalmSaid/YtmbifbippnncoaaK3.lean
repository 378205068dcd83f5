/- Walks: the misses of waits. -/
import Derived.Test.YtmbifbippnncoaaK2
namespace Go.Proofs.Ytmbifbippnncoaa
open Go Go.Eng

structure WtOk (a : List (List Int)) (ws : List Int) : Prop where
  len : ws.length = a.length
  wt : ∀ i (h : i < ws.length) (h' : i < a.length), 0 ≤ ws[i] ∧ ws[i] < a[i].length

set_option maxHeartbeats 1000000 in
theorem waited_ca (w : World) (lo hi lo2 hi2 : Nat) (v u : Value) (a : List (List Int)) (ws : List Int) (ha : RdII w lo hi v a) (hok : AimOk a) (hu : RdI w lo2 hi2 u ws) (hw : WtOk a ws) : Ca Try.prog 22 [v, u] w fun r w' => r = .int .i64 0 ∧ Chg [] w w' := by
  obtain ⟨p, c, rfl, hsl⟩ := RdII.outI ha
  obtain ⟨pu, cu, rfl, hsu⟩ := RdI.outI hu
  have h1 := hok.a1
  have h2 := hok.a2
  have hwl := hw.len
  obtain ⟨b, off, rfl⟩ := hsl (by omega)
  obtain ⟨bu, ofu, rfl⟩ := hsu (by omega)
  refine q_of (Sat.nil w M0) Try.func22 rfl (by simp [Try.ntmps22]) ?_
  (refine q_seq ?_; refine q_region ?_; refine ql_pure tabOk rfl rfl ?_; refine q_nil ?_; (iterate 2 refine q_seq ?_); refine q_region ?_; refine ql_pure tabOk rfl rfl ?_)
  refine ql_callv tabOk rfl rfl rfl rfl (fun w hs => checkAim_ca w lo hi _ a (ha.keep hs.chg0) hok) ?_
  (refine ql_pure tabOk rfl rfl ?_; refine q_nil ?_; refine q_seq ?_; refine q_region ?_; (iterate 2 refine ql_pure tabOk rfl rfl ?_); refine q_nil ?_; refine q_cond_false rfl ?_; refine q_skip ?_; (iterate 2 refine q_seq ?_); refine q_region ?_; (iterate 5 refine ql_pure tabOk rfl rfl ?_); refine q_nil ?_)
  rw [decide_eq_true (show (ws.length : Int) = a.length by omega)]
  (refine q_cond_false rfl ?_; refine q_skip ?_; (iterate 2 refine q_seq ?_); refine q_region ?_; (iterate 3 refine ql_pure tabOk rfl rfl ?_); refine q_nil ?_; refine q_block ?_)
  refine q_loop (σ := Nat) (fun k => k ≤ ws.length) (fun k => ws.length - k) (fun k => [(0, .slice (some ⟨b, off, none⟩) a.length c), (18, .slice (some ⟨bu, ofu, none⟩) ws.length cu), (19, .int .i64 ws.length), (20, .int .i64 k)]) (fun _ => []) 0 (by omega) ⟨rfl, rfl, rfl, rfl, trivial⟩ .nil ?_
  intro k hk K hK
  (refine q_seq ?_; refine q_region ?_; refine ql_pure tabOk rfl rfl ?_; refine q_nil ?_; refine q_seq ?_)
  refine q_if rfl (fun hc => ?_) (fun hc => ?_)
  · have hk : k < ws.length := by omega
    have hk' : k < a.length := by omega
    obtain ⟨ar, cr, hrow, hcell⟩ := ha.row k hk'
    have hrw := hok.row _ (List.getElem_mem hk')
    have hwk := hw.wt k hk hk'
    generalize a[k] = l at *
    (refine q_skip ?_; refine q_seq ?_; refine q_block ?_; refine q_seq ?_; refine q_region ?_; refine ql_pure tabOk rfl rfl ?_)
    (refine ql_index tabOk rfl rfl rfl rfl rfl (by omega) (by omega) ?_; refine ql_load1 tabOk rfl rfl rfl (fun w hs => RdI.at (RdE.keep hu hs.chg0) k hk) ?_)
    generalize ws[k] = x at *
    ((iterate 2 refine ql_pure tabOk rfl rfl ?_); refine q_nil ?_; refine q_seq ?_; refine q_region ?_; (iterate 3 refine ql_pure tabOk rfl rfl ?_))
    refine ql_index tabOk rfl rfl rfl rfl rfl (by omega) (by omega) ?_
    refine ql_load1 (v := .slice ar l.length cr) tabOk rfl rfl rfl (fun w' hs => hcell w' hs.chg0) ?_
    (refine ql_pure tabOk rfl rfl ?_; refine ql_ar tabOk rfl rfl rfl rfl (by omega) (by omega) ?_)
    refine ql_callv tabOk rfl rfl rfl rfl (fun w hs => within_ca x 0 ((l.length : Int) - 1) w) ?_
    rw [inB_iff.2 (show 0 ≤ x ∧ x ≤ (l.length : Int) - 1 by omega)]
    (refine ql_pure tabOk rfl rfl ?_; refine q_nil ?_; refine q_cond_false rfl ?_; refine q_skip ?_; refine q_blk ?_; refine q_region ?_; refine ql_ar tabOk rfl rfl rfl rfl (by omega) (by omega) ?_; refine ql_pure tabOk rfl rfl ?_; refine q_nil ?_)
    exact hK (k + 1) _ _ (by omega) (by omega) ⟨rfl, rfl, rfl, rfl, trivial⟩ (by repeat (first | exact Sp.nil | exact Sp.refl _ | refine Sp.cons (by repeat constructor) ?_))
  · (refine q_exit _ rfl ?_; refine q_seq ?_; refine q_region ?_; refine ql_pure tabOk rfl rfl ?_; refine q_nil ?_; refine q_ret ?_)
    refine q_fin tabOk rfl (by repeat (first | exact RVs.nil | apply RVs.tmp rfl | apply RVs.cellA rfl rfl (by repeat first | exact .head _ | refine .tail _ ?_) (by rfl) | apply RVs.cell1 rfl rfl (by repeat first | exact .head _ | refine .tail _ ?_))) fun w hs => ?_
    exact ⟨rfl, hs.chg0⟩

def mssS (a : List (List Int)) (ws : List Int) (n : Nat) : Int := sumR (fun i => (a.getD i []).getD (ws.getD i 0).toNat 0) n
theorem mssS_bd (a : List (List Int)) (ws : List Int) (hok : AimOk a) (hw : WtOk a ws) : ∀ n, n ≤ ws.length → 0 ≤ mssS a ws n ∧ mssS a ws n ≤ 1000 * n
  | 0, _ => by simp [mssS, sumR]
  | n + 1, h => by
    have ih := mssS_bd a ws hok hw n (by omega)
    have hl := hw.len
    have hn : n < a.length := by omega
    have h1 := hw.wt n (by omega) hn
    have h2 : ws[n].toNat < a[n].length := by omega
    have h3 := hok.bd _ (List.getElem_mem hn) _ (List.getElem_mem h2)
    have e : mssS a ws (n + 1) = mssS a ws n + a[n][ws[n].toNat] := by
      simp [mssS, sumR, List.getElem?_eq_getElem hn, List.getElem?_eq_getElem (show n < ws.length by omega), List.getElem?_eq_getElem h2]
    omega
theorem mssS_succ (a : List (List Int)) (ws : List Int) (n : Nat) (hn : n < a.length) (hw : n < ws.length) (h2 : ws[n].toNat < a[n].length) : mssS a ws (n + 1) = mssS a ws n + a[n][ws[n].toNat] := by
  simp [mssS, sumR, List.getElem?_eq_getElem hn, List.getElem?_eq_getElem hw, List.getElem?_eq_getElem h2]

set_option maxHeartbeats 1000000 in
theorem missedA_ca (w : World) (lo hi lo2 hi2 : Nat) (v u : Value) (a : List (List Int)) (ws : List Int) (ha : RdII w lo hi v a) (hok : AimOk a) (hu : RdI w lo2 hi2 u ws) (hw : WtOk a ws) : Ca Try.prog 23 [v, u] w fun r w' => r = .int .i64 (mssS a ws ws.length) ∧ Chg [] w w' := by
  obtain ⟨p, c, rfl, hsl⟩ := RdII.outI ha
  obtain ⟨pu, cu, rfl, hsu⟩ := RdI.outI hu
  have h1 := hok.a1
  have h2 := hok.a2
  have hwl := hw.len
  obtain ⟨b, off, rfl⟩ := hsl (by omega)
  obtain ⟨bu, ofu, rfl⟩ := hsu (by omega)
  refine q_of (Sat.nil w M0) Try.func23 rfl (by simp [Try.ntmps23]) ?_
  (refine q_seq ?_; refine q_region ?_; refine ql_pure tabOk rfl rfl ?_; refine q_nil ?_; refine q_seq ?_; refine q_region ?_; refine ql_pure tabOk rfl rfl ?_; refine q_nil ?_; (iterate 2 refine q_seq ?_); refine q_region ?_; (iterate 3 refine ql_pure tabOk rfl rfl ?_); refine q_nil ?_; refine q_block ?_)
  refine q_loop (σ := Nat) (fun k => k ≤ ws.length) (fun k => ws.length - k) (fun k => [(0, .slice (some ⟨b, off, none⟩) a.length c), (5, .int .i64 (mssS a ws k)), (8, .slice (some ⟨bu, ofu, none⟩) ws.length cu), (9, .int .i64 ws.length), (10, .int .i64 k)]) (fun _ => []) 0 (by omega) ⟨rfl, rfl, rfl, rfl, rfl, trivial⟩ .nil ?_
  intro k hk K hK
  have hmb := mssS_bd a ws hok hw k hk
  (refine q_seq ?_; refine q_region ?_; refine ql_pure tabOk rfl rfl ?_; refine q_nil ?_; refine q_seq ?_)
  refine q_if rfl (fun hc => ?_) (fun hc => ?_)
  · have hk : k < ws.length := by omega
    have hk' : k < a.length := by omega
    obtain ⟨ar, cr, hrow, hcell⟩ := ha.row k hk'
    have hrw := hok.row _ (List.getElem_mem hk')
    have hwk := hw.wt k hk hk'
    have hj : ws[k].toNat < a[k].length := by omega
    have hsu := mssS_succ a ws k hk' hk hj
    have hb3 := hok.bd _ (List.getElem_mem hk') _ (List.getElem_mem hj)
    obtain ⟨_, _, hsl', hsd⟩ := RdI.outI hrow
    cases hsl'
    obtain ⟨bl, ofl, rfl⟩ := hsd (by omega)
    obtain ⟨j, hjx⟩ : ∃ j : Nat, ws[k] = j := ⟨ws[k].toNat, by omega⟩
    simp only [hjx, Int.toNat_natCast] at hj hsu hb3
    (refine q_skip ?_; refine q_seq ?_; refine q_block ?_; refine q_seq ?_; refine q_region ?_; refine ql_pure tabOk rfl rfl ?_)
    (refine ql_index tabOk rfl rfl rfl rfl rfl (by omega) (by omega) ?_; refine ql_load1 tabOk rfl rfl rfl (fun w hs => RdI.at (RdE.keep hu hs.chg0) k hk) ?_)
    rw [hjx]
    ((iterate 2 refine ql_pure tabOk rfl rfl ?_); refine q_nil ?_; refine q_region ?_; (iterate 3 refine ql_pure tabOk rfl rfl ?_))
    refine ql_index tabOk rfl rfl rfl rfl rfl (by omega) (by omega) ?_
    refine ql_load1 (v := .slice (some ⟨bl, ofl, none⟩) a[k].length cr) tabOk rfl rfl rfl (fun w' hs => hcell w' hs.chg0) ?_
    (refine ql_pure tabOk rfl rfl ?_)
    (refine ql_index tabOk rfl rfl rfl rfl rfl (by omega) (by omega) ?_; refine ql_load1 tabOk rfl rfl rfl (fun w hs => RdI.at (RdE.keep hrow hs.chg0) j hj) ?_)
    (refine ql_ar tabOk rfl rfl rfl rfl (by omega) (by omega) ?_; refine ql_pure tabOk rfl rfl ?_; refine q_nil ?_; refine q_blk ?_; refine q_region ?_; refine ql_ar tabOk rfl rfl rfl rfl (by omega) (by omega) ?_; refine ql_pure tabOk rfl rfl ?_; refine q_nil ?_)
    have hv : some (Value.int .i64 (mssS a ws k + a[k][j])) = some (.int .i64 (mssS a ws (k + 1))) := by rw [hsu]
    exact hK (k + 1) _ _ (by omega) (by omega) ⟨rfl, hv, rfl, rfl, rfl, trivial⟩ (by repeat (first | exact Sp.nil | exact Sp.refl _ | refine Sp.cons (by repeat constructor) ?_))
  · obtain rfl : k = ws.length := by omega
    (refine q_exit _ rfl ?_; refine q_seq ?_; refine q_region ?_; (iterate 2 refine ql_pure tabOk rfl rfl ?_); refine q_nil ?_; refine q_ret ?_)
    refine q_fin tabOk rfl (by repeat (first | exact RVs.nil | apply RVs.tmp rfl | apply RVs.cellA rfl rfl (by repeat first | exact .head _ | refine .tail _ ?_) (by rfl) | apply RVs.cell1 rfl rfl (by repeat first | exact .head _ | refine .tail _ ?_))) fun w hs => ?_
    exact ⟨rfl, hs.chg0⟩

theorem misses_ca (w : World) (lo hi lo2 hi2 : Nat) (v u : Value) (a : List (List Int)) (ws : List Int) (ha : RdII w lo hi v a) (hok : AimOk a) (hu : RdI w lo2 hi2 u ws) (hw : WtOk a ws) : Ca Try.prog 12 [v, u] w fun r w' => r = .tuple #[.int .i64 (mssS a ws ws.length), .int .i64 0] ∧ Chg [] w w' := by
  refine q_of (Sat.nil w M0) Try.func12 rfl (by simp [Try.ntmps12]) ?_
  (refine q_seq ?_; refine q_region ?_; (iterate 2 refine ql_pure tabOk rfl rfl ?_); refine q_nil ?_; (iterate 2 refine q_seq ?_); refine q_region ?_; (iterate 2 refine ql_pure tabOk rfl rfl ?_))
  refine ql_callv tabOk rfl rfl rfl rfl (fun w hs => waited_ca w lo hi lo2 hi2 _ _ a ws (ha.keep hs.chg0) hok (RdE.keep hu hs.chg0) hw) ?_
  (refine ql_pure tabOk rfl rfl ?_; refine q_nil ?_; refine q_seq ?_; refine q_region ?_; (iterate 2 refine ql_pure tabOk rfl rfl ?_); refine q_nil ?_; refine q_cond_false rfl ?_; refine q_skip ?_; refine q_seq ?_; refine q_region ?_; (iterate 2 refine ql_pure tabOk rfl rfl ?_))
  refine ql_callv tabOk rfl rfl rfl rfl (fun w hs => missedA_ca w lo hi lo2 hi2 _ _ a ws (ha.keep hs.chg0) hok (RdE.keep hu hs.chg0) hw) ?_
  ((iterate 2 refine ql_pure tabOk rfl rfl ?_); refine q_nil ?_; refine q_ret ?_)
  refine q_fin tabOk rfl (by repeat (first | exact RVs.nil | apply RVs.tmp rfl | apply RVs.cellA rfl rfl (by repeat first | exact .head _ | refine .tail _ ?_) (by rfl) | apply RVs.cell1 rfl rfl (by repeat first | exact .head _ | refine .tail _ ?_))) fun w hs => ?_
  exact ⟨rfl, hs.chg0⟩

end Go.Proofs.Ytmbifbippnncoaa
