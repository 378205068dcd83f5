/- Walks: which ranges are right. -/
import Derived.Test.YtmbifbippnncoaaV5
namespace Go.Proofs.Ytmbifbippnncoaa
open Go Go.Eng

def pI (lo hi : Int) : Value → Bool
  | .int _ n => inB n lo hi
  | _ => false
theorem pI_all (lo hi : Int) (l : List Int) : (ints l).all (pI lo hi) = l.all (fun n => inB n lo hi) := by
  rw [List.all_map]
  rfl
theorem ints_one (l : List Int) : ∀ i (hi : i < (ints l).length), oneV (ints l)[i] = true := by
  intro i hi
  simp [oneV]

theorem chk1_p (w : World) (lo hi b : Nat) (t : TypeId) (m : Int) (ll : List (List Int)) (hb : Blk w b [.int .i64 m] t) : RowP w lo hi (.func (.func 40) #[] #[.pointer (some ⟨b, 0, none⟩)]) ll (fun l => decide ((l.length : Int) = m) && true) := by
  refine ⟨_, _, _, rfl, rfl, fun w' hw' l _ v hv => ?_⟩
  have hb' := hb.keep hw'
  obtain ⟨a, c, rfl, _⟩ := RdI.outI hv
  refine q_of (Sat.nil w' M0) Try.func40 rfl (by simp [Try.ntmps40]) ?_
  (refine q_seq ?_; refine q_region ?_; refine ql_pure tabOk rfl rfl ?_; refine q_nil ?_; refine q_seq ?_; refine q_region ?_; (iterate 2 refine ql_pure tabOk rfl rfl ?_); refine ql_loadP tabOk rfl rfl rfl (by assumption) (by rfl) ?_; (iterate 2 refine ql_pure tabOk rfl rfl ?_); refine q_nil ?_; refine q_ret ?_)
  refine q_fin tabOk rfl (by repeat (first | exact RVs.nil | apply RVs.tmp rfl | apply RVs.cellA rfl rfl (by repeat first | exact .head _ | refine .tail _ ?_) (by rfl) | apply RVs.cell1 rfl rfl (by repeat first | exact .head _ | refine .tail _ ?_))) fun w hs => ?_
  exact ⟨by simp [retV], hs.chg0⟩

theorem chk2_p (w : World) (b : Nat) (t : TypeId) (r : Rg) (cs : List Value) (es : List Int) (hb : Blk w b cs t) (hc : cs[3]? = some (.int .i64 r.total)) : PredAt Try.prog tab w (.func (.func 41) #[] #[.pointer (some ⟨b, 0, none⟩)]) (ints es) (pI 0 r.total) := by
  refine ⟨_, _, _, rfl, rfl, fun w' hw' x hx => ?_⟩
  have hb' := hb.keep hw'
  obtain ⟨y, hy, rfl⟩ := List.mem_map.1 hx
  refine q_of (Sat.nil w' M0) Try.func41 rfl (by simp [Try.ntmps41]) ?_
  (refine q_seq ?_; refine q_region ?_; refine ql_pure tabOk rfl rfl ?_; refine q_nil ?_; refine q_seq ?_; refine q_region ?_; (iterate 2 refine ql_pure tabOk rfl rfl ?_))
  refine ql_loadP tabOk rfl rfl rfl hb' hc ?_
  skip
  refine ql_callv tabOk rfl rfl rfl rfl (fun w hs => in_ca y 0 r.total w) ?_
  (refine ql_pure tabOk rfl rfl ?_; refine q_nil ?_; refine q_ret ?_)
  refine q_fin tabOk rfl (by repeat (first | exact RVs.nil | apply RVs.tmp rfl | apply RVs.cellA rfl rfl (by repeat first | exact .head _ | refine .tail _ ?_) (by rfl) | apply RVs.cell1 rfl rfl (by repeat first | exact .head _ | refine .tail _ ?_))) fun w hs => ?_
  exact ⟨rfl, hs.chg0⟩

theorem chk3_p (w : World) (es : List Int) : PredAt Try.prog tab w (.func (.func 43) #[] #[]) (ints es) (pI (-300) 300) := by
  refine ⟨_, _, _, rfl, rfl, fun w' hw' x hx => ?_⟩
  obtain ⟨y, hy, rfl⟩ := List.mem_map.1 hx
  refine q_of (Sat.nil w' M0) Try.func43 rfl (by simp [Try.ntmps43]) ?_
  (refine q_seq ?_; refine q_region ?_; refine ql_pure tabOk rfl rfl ?_; refine q_nil ?_; refine q_seq ?_; refine q_region ?_; refine ql_pure tabOk rfl rfl ?_)
  refine ql_callv tabOk rfl rfl rfl rfl (fun w hs => in_ca y (-300) 300 w) ?_
  (refine ql_pure tabOk rfl rfl ?_; refine q_nil ?_; refine q_ret ?_)
  refine q_fin tabOk rfl (by repeat (first | exact RVs.nil | apply RVs.tmp rfl | apply RVs.cellA rfl rfl (by repeat first | exact .head _ | refine .tail _ ?_) (by rfl) | apply RVs.cell1 rfl rfl (by repeat first | exact .head _ | refine .tail _ ?_))) fun w hs => ?_
  exact ⟨rfl, hs.chg0⟩

theorem chk4_p (w : World) (es : List Int) : PredAt Try.prog tab w (.func (.func 44) #[] #[]) (ints es) (pI 0 100) := by
  refine ⟨_, _, _, rfl, rfl, fun w' hw' x hx => ?_⟩
  obtain ⟨y, hy, rfl⟩ := List.mem_map.1 hx
  refine q_of (Sat.nil w' M0) Try.func44 rfl (by simp [Try.ntmps44]) ?_
  (refine q_seq ?_; refine q_region ?_; refine ql_pure tabOk rfl rfl ?_; refine q_nil ?_; refine q_seq ?_; refine q_region ?_; refine ql_pure tabOk rfl rfl ?_)
  refine ql_callv tabOk rfl rfl rfl rfl (fun w hs => in_ca y 0 100 w) ?_
  (refine ql_pure tabOk rfl rfl ?_; refine q_nil ?_; refine q_ret ?_)
  refine q_fin tabOk rfl (by repeat (first | exact RVs.nil | apply RVs.tmp rfl | apply RVs.cellA rfl rfl (by repeat first | exact .head _ | refine .tail _ ?_) (by rfl) | apply RVs.cell1 rfl rfl (by repeat first | exact .head _ | refine .tail _ ?_))) fun w hs => ?_
  exact ⟨rfl, hs.chg0⟩

theorem chk5_p (w : World) (lo hi b b1 : Nat) (t t1 : TypeId) (r : Rg) (cs : List Value) (ll : List (List Int)) (hlen : ∀ l ∈ ll, l.length < 1000000) (hb : Blk w b [.func (.func 41) #[] #[.pointer (some ⟨b1, 0, none⟩)]] t) (hb1 : Blk w b1 cs t1) (hc : cs[3]? = some (.int .i64 r.total)) :
    RowP w lo hi (.func (.func 45) #[] #[.pointer (some ⟨b, 0, none⟩)]) ll (fun l => l.all (fun n => inB n 0 r.total)) := by
  refine ⟨_, _, _, rfl, rfl, fun w' hw' l hl v hv => ?_⟩
  have hb' := hb.keep hw'
  refine q_of (Sat.nil w' M0) Try.func45 rfl (by simp [Try.ntmps45]) ?_
  (refine q_seq ?_; refine q_region ?_; refine ql_pure tabOk rfl rfl ?_; refine q_nil ?_; refine q_seq ?_; refine q_region ?_; refine ql_pure tabOk rfl rfl ?_; refine ql_loadP tabOk rfl rfl rfl (by assumption) (by rfl) ?_)
  (refine ql_callv tabOk rfl rfl rfl rfl (fun w hs => all_int w lo hi v _ (ints l) (pI 0 r.total) (RdE.keep hv hs.chg0) (ints_one l) (by have := hlen l hl; simp; omega) (chk2_p w b1 t1 r cs l (hb1.keep (hw'.trans hs.chg0)) hc)) ?_)
  (refine ql_pure tabOk rfl rfl ?_; refine q_nil ?_; refine q_ret ?_)
  refine q_fin tabOk rfl (by repeat (first | exact RVs.nil | apply RVs.tmp rfl | apply RVs.cellA rfl rfl (by repeat first | exact .head _ | refine .tail _ ?_) (by rfl) | apply RVs.cell1 rfl rfl (by repeat first | exact .head _ | refine .tail _ ?_))) fun w hs => ?_
  exact ⟨by rw [pI_all]; rfl, hs.chg0⟩

theorem chk6_p (w : World) (lo hi b : Nat) (t : TypeId) (r : Rg) (cs : List Value) (ll : List (List Int)) (hlen : ∀ l ∈ ll, l.length < 1000000 ∧ ∀ x ∈ l, -1000000 ≤ x ∧ x ≤ 1000000) (hb : Blk w b cs t) (hc : cs[3]? = some (.int .i64 r.total)) :
    RowP w lo hi (.func (.func 46) #[] #[.pointer (some ⟨b, 0, none⟩)]) ll (fun l => decide (l.sum = r.total) && true) := by
  refine ⟨_, _, _, rfl, rfl, fun w' hw' l hl v hv => ?_⟩
  have hb' := hb.keep hw'
  refine q_of (Sat.nil w' M0) Try.func46 rfl (by simp [Try.ntmps46]) ?_
  (refine q_seq ?_; refine q_region ?_; refine ql_pure tabOk rfl rfl ?_; refine q_nil ?_; refine q_seq ?_)
  refine q_draw _ [] (Sp.refl _) (by kernel_rfl) (by kernel_rfl) ?_
  (refine qf_pure tabOk rfl rfl rfl ?_)
  refine qf_callv tabOk rfl rfl rfl rfl (fun w hs => sum_ca w lo hi v l (RdE.keep hv hs.chg0) (hlen l hl).1 (hlen l hl).2) ?_
  (refine qf_pure tabOk rfl rfl rfl ?_)
  refine qf_loadP tabOk rfl rfl rfl hb' hc ?_
  ((iterate 2 refine qf_pure tabOk rfl rfl rfl ?_); refine qf_nil ?_; refine q_ret ?_)
  refine q_fin tabOk rfl (by repeat (first | exact RVs.nil | apply RVs.tmp rfl | apply RVs.cellA rfl rfl (by repeat first | exact .head _ | refine .tail _ ?_) (by rfl) | apply RVs.cell1 rfl rfl (by repeat first | exact .head _ | refine .tail _ ?_))) fun w hs => ?_
  exact ⟨by simp [retV], hs.chg0⟩

def cntB (r : Rg) : Bool := inB r.group.length 1 21 && !(decide ((r.group.length : Int) % 2 = 0)) && inB r.drifts.length 1 5 && decide ((r.first.length : Int) = r.drifts.length) && decide ((r.next.length : Int) = r.drifts.length) && r.next.all (fun l => decide ((l.length : Int) = r.drifts.length) && true)
def rng1B (r : Rg) : Bool := inB r.radius 0 200 && inB r.unit 1 20 && inB r.clicks 0 6 && inB r.total 1 12
def rng2B (r : Rg) : Bool := r.drifts.all (fun n => inB n (-300) 300) && r.group.all (fun n => inB n 0 100)
def rng3B (r : Rg) : Bool := r.first.all (fun n => inB n 0 r.total) && r.next.all (fun l => l.all (fun n => inB n 0 r.total))
def cnfB (r : Rg) : Bool := inB r.group.sum 1 100 && decide (r.first.sum = r.total) && r.next.all (fun l => decide (l.sum = r.total) && true)
/-- The error of a range. -/
def checkV (r : Rg) : Int := if !cntB r then 2 else if !rng1B r then 3 else if !rng2B r then 3 else if !rng3B r then 3 else if !cnfB r then 7 else 0

set_option maxHeartbeats 2000000 in
theorem check_ca (w : World) (cs : List Value) (r : Rg) (h : RgC w cs r) (hsm : r.Small) : Ca Try.prog 26 [.agg cs.toArray] w fun v w' => v = .int .i64 (checkV r) ∧ Chg [] w w' := by
  obtain ⟨lo, hi, ag, cg, ad, cd, af, cf, an, cn, rfl, hg, hdr, hf, hn⟩ := h
  have s1 := hsm.group
  have s2 := hsm.drifts
  have s3 := hsm.first
  have s4 := hsm.next
  refine q_of (Sat.nil w M0) Try.func26 rfl (by simp [Try.ntmps26]) ?_
  (refine q_seq ?_; refine q_region ?_)
  refine ql_box rfl rfl (fun b1 => ?_)
  (refine ql_pure tabOk rfl rfl ?_; refine q_nil ?_; refine q_seq ?_; refine q_region ?_; refine ql_pure tabOk rfl rfl ?_; refine ql_loadB tabOk rfl rfl rfl (by repeat first | exact .head _ | refine .tail _ ?_) (by rfl) ?_; refine ql_pure tabOk rfl rfl ?_)
  refine ql_alloc zero3 rfl (fun b3 => ?_)
  (refine ql_set tabOk rfl rfl rfl rfl (by repeat constructor) ?_; refine q_nil ?_; (iterate 2 refine q_seq ?_); refine q_region ?_; refine ql_pure tabOk rfl rfl ?_; refine ql_loadB tabOk rfl rfl rfl (by repeat first | exact .head _ | refine .tail _ ?_) (by rfl) ?_; refine ql_pure tabOk rfl rfl ?_)
  refine ql_callv tabOk rfl rfl rfl rfl (fun w hs => in_ca (r.group.length : Int) 1 21 w) ?_
  ((iterate 2 refine ql_pure tabOk rfl rfl ?_))
  refine ql_split rfl rfl (fun hc => ?_) (fun hc => ?_)
  · ((iterate 5 refine ql_gno rfl rfl rfl ?_); (iterate 2 refine ql_pure tabOk rfl rfl ?_); (iterate 3 refine ql_gno rfl rfl rfl ?_); (iterate 2 refine ql_pure tabOk rfl rfl ?_); (iterate 5 refine ql_gno rfl rfl rfl ?_); (iterate 2 refine ql_pure tabOk rfl rfl ?_); (iterate 5 refine ql_gno rfl rfl rfl ?_); (iterate 2 refine ql_pure tabOk rfl rfl ?_); (iterate 5 refine ql_gno rfl rfl rfl ?_); refine ql_pure tabOk rfl rfl ?_; refine q_nil ?_; refine q_cond_true rfl ?_; refine q_seq ?_; refine q_region ?_; refine ql_pure tabOk rfl rfl ?_; refine q_nil ?_; refine q_ret ?_)
    refine q_fin tabOk rfl (by repeat (first | exact RVs.nil | apply RVs.tmp rfl | apply RVs.cellA rfl rfl (by repeat first | exact .head _ | refine .tail _ ?_) (by rfl) | apply RVs.cell1 rfl rfl (by repeat first | exact .head _ | refine .tail _ ?_))) fun w hs => ?_
    exact ⟨by simp at hc; simp [retV, checkV, cntB, hc], hs.chg0⟩
  simp at hc
  have c1 := hc
  (refine ql_gyes rfl ?_; refine ql_pure tabOk rfl rfl ?_; refine ql_gyes rfl ?_; refine ql_loadB tabOk rfl rfl rfl (by repeat first | exact .head _ | refine .tail _ ?_) (by rfl) ?_; refine ql_gyes rfl ?_; refine ql_pure tabOk rfl rfl ?_; refine ql_gyes rfl ?_; refine ql_remN rfl rfl rfl (by omega) (by omega) ?_; refine ql_gyes rfl ?_; (iterate 3 refine ql_pure tabOk rfl rfl ?_))
  refine ql_split rfl rfl (fun hc => ?_) (fun hc => ?_)
  · ((iterate 3 refine ql_gno rfl rfl rfl ?_); (iterate 2 refine ql_pure tabOk rfl rfl ?_); (iterate 5 refine ql_gno rfl rfl rfl ?_); (iterate 2 refine ql_pure tabOk rfl rfl ?_); (iterate 5 refine ql_gno rfl rfl rfl ?_); (iterate 2 refine ql_pure tabOk rfl rfl ?_); (iterate 5 refine ql_gno rfl rfl rfl ?_); refine ql_pure tabOk rfl rfl ?_; refine q_nil ?_; refine q_cond_true rfl ?_; refine q_seq ?_; refine q_region ?_; refine ql_pure tabOk rfl rfl ?_; refine q_nil ?_; refine q_ret ?_)
    refine q_fin tabOk rfl (by repeat (first | exact RVs.nil | apply RVs.tmp rfl | apply RVs.cellA rfl rfl (by repeat first | exact .head _ | refine .tail _ ?_) (by rfl) | apply RVs.cell1 rfl rfl (by repeat first | exact .head _ | refine .tail _ ?_))) fun w hs => ?_
    exact ⟨by simp [retV, checkV, cntB, hc], hs.chg0⟩
  simp at hc
  have c2 := hc
  (refine ql_gyes rfl ?_; refine ql_loadB tabOk rfl rfl rfl (by repeat first | exact .head _ | refine .tail _ ?_) (by rfl) ?_; refine ql_gyes rfl ?_)
  refine ql_callv tabOk rfl rfl rfl rfl (fun w hs => in_ca (r.drifts.length : Int) 1 5 w) ?_
  (refine ql_gyes rfl ?_; (iterate 3 refine ql_pure tabOk rfl rfl ?_))
  refine ql_split rfl rfl (fun hc => ?_) (fun hc => ?_)
  · ((iterate 5 refine ql_gno rfl rfl rfl ?_); (iterate 2 refine ql_pure tabOk rfl rfl ?_); (iterate 5 refine ql_gno rfl rfl rfl ?_); (iterate 2 refine ql_pure tabOk rfl rfl ?_); (iterate 5 refine ql_gno rfl rfl rfl ?_); refine ql_pure tabOk rfl rfl ?_; refine q_nil ?_; refine q_cond_true rfl ?_; refine q_seq ?_; refine q_region ?_; refine ql_pure tabOk rfl rfl ?_; refine q_nil ?_; refine q_ret ?_)
    refine q_fin tabOk rfl (by repeat (first | exact RVs.nil | apply RVs.tmp rfl | apply RVs.cellA rfl rfl (by repeat first | exact .head _ | refine .tail _ ?_) (by rfl) | apply RVs.cell1 rfl rfl (by repeat first | exact .head _ | refine .tail _ ?_))) fun w hs => ?_
    exact ⟨by simp at hc; simp [retV, checkV, cntB, hc], hs.chg0⟩
  simp at hc
  have c3 := hc
  (refine ql_gyes rfl ?_; refine ql_pure tabOk rfl rfl ?_; refine ql_gyes rfl ?_; refine ql_loadB tabOk rfl rfl rfl (by repeat first | exact .head _ | refine .tail _ ?_) (by rfl) ?_; refine ql_gyes rfl ?_; refine ql_pure tabOk rfl rfl ?_; refine ql_gyes rfl ?_; refine ql_loadB tabOk rfl rfl rfl (by repeat first | exact .head _ | refine .tail _ ?_) (by rfl) ?_; refine ql_gyes rfl ?_; (iterate 3 refine ql_pure tabOk rfl rfl ?_))
  refine ql_split rfl rfl (fun hc => ?_) (fun hc => ?_)
  · ((iterate 5 refine ql_gno rfl rfl rfl ?_); (iterate 2 refine ql_pure tabOk rfl rfl ?_); (iterate 5 refine ql_gno rfl rfl rfl ?_); refine ql_pure tabOk rfl rfl ?_; refine q_nil ?_; refine q_cond_true rfl ?_; refine q_seq ?_; refine q_region ?_; refine ql_pure tabOk rfl rfl ?_; refine q_nil ?_; refine q_ret ?_)
    refine q_fin tabOk rfl (by repeat (first | exact RVs.nil | apply RVs.tmp rfl | apply RVs.cellA rfl rfl (by repeat first | exact .head _ | refine .tail _ ?_) (by rfl) | apply RVs.cell1 rfl rfl (by repeat first | exact .head _ | refine .tail _ ?_))) fun w hs => ?_
    exact ⟨by simp [retV, checkV, cntB, hc], hs.chg0⟩
  simp at hc
  have c4 := hc
  (refine ql_gyes rfl ?_; refine ql_pure tabOk rfl rfl ?_; refine ql_gyes rfl ?_; refine ql_loadB tabOk rfl rfl rfl (by repeat first | exact .head _ | refine .tail _ ?_) (by rfl) ?_; refine ql_gyes rfl ?_; refine ql_pure tabOk rfl rfl ?_; refine ql_gyes rfl ?_; refine ql_loadB tabOk rfl rfl rfl (by repeat first | exact .head _ | refine .tail _ ?_) (by rfl) ?_; refine ql_gyes rfl ?_; (iterate 3 refine ql_pure tabOk rfl rfl ?_))
  refine ql_split rfl rfl (fun hc => ?_) (fun hc => ?_)
  · ((iterate 5 refine ql_gno rfl rfl rfl ?_); refine ql_pure tabOk rfl rfl ?_; refine q_nil ?_; refine q_cond_true rfl ?_; refine q_seq ?_; refine q_region ?_; refine ql_pure tabOk rfl rfl ?_; refine q_nil ?_; refine q_ret ?_)
    refine q_fin tabOk rfl (by repeat (first | exact RVs.nil | apply RVs.tmp rfl | apply RVs.cellA rfl rfl (by repeat first | exact .head _ | refine .tail _ ?_) (by rfl) | apply RVs.cell1 rfl rfl (by repeat first | exact .head _ | refine .tail _ ?_))) fun w hs => ?_
    exact ⟨by simp [retV, checkV, cntB, hc], hs.chg0⟩
  simp at hc
  have c5 := hc
  (refine ql_gyes rfl ?_; refine ql_pure tabOk rfl rfl ?_; refine ql_gyes rfl ?_; refine ql_loadB tabOk rfl rfl rfl (by repeat first | exact .head _ | refine .tail _ ?_) (by rfl) ?_; refine ql_gyes rfl ?_; refine ql_pure tabOk rfl rfl ?_; refine ql_gyes rfl ?_)
  refine ql_callv tabOk rfl rfl rfl rfl (fun w hs => allR w lo hi _ _ r.next _ (hn.keep hs.chg0) (by omega) (chk1_p w lo hi b3 _ _ r.next (hs.blk (by repeat first | exact .head _ | refine .tail _ ?_)))) ?_
  (refine ql_gyes rfl ?_; (iterate 2 refine ql_pure tabOk rfl rfl ?_); refine q_nil ?_)
  refine q_cond rfl (fun hc => ?_) (fun hc => ?_)
  · (refine q_seq ?_; refine q_region ?_; refine ql_pure tabOk rfl rfl ?_; refine q_nil ?_; refine q_ret ?_)
    refine q_fin tabOk rfl (by repeat (first | exact RVs.nil | apply RVs.tmp rfl | apply RVs.cellA rfl rfl (by repeat first | exact .head _ | refine .tail _ ?_) (by rfl) | apply RVs.cell1 rfl rfl (by repeat first | exact .head _ | refine .tail _ ?_))) fun w hs => ?_
    exact ⟨by simp only [Bool.not_eq_true'] at hc; simp only [retV, checkV, cntB, hc, Bool.and_false, Bool.false_and, Bool.not_false, Bool.not_true, if_true, if_false, Bool.false_eq_true], hs.chg0⟩
  simp only [Bool.not_eq_false'] at hc
  have cnt : cntB r = true := by
    simp only [cntB, Bool.and_eq_true, Bool.not_eq_true', decide_eq_true_eq, decide_eq_false_iff_not]
    exact ⟨⟨⟨⟨⟨c1, by omega⟩, c3⟩, by omega⟩, by omega⟩, hc⟩
  have hrows : ∀ l ∈ r.next, l.length = r.drifts.length := fun l hl => by
    have := List.all_eq_true.1 hc l hl
    simp at this
    omega
  have c3' := inB_iff.1 c3
  clear c1 c2 c3 c4 c5 hc
  (refine q_skip ?_; refine q_seq ?_; refine q_region ?_; refine ql_pure tabOk rfl rfl ?_)
  refine ql_alloc zero72 rfl (fun b4 => ?_)
  (refine ql_set tabOk rfl rfl rfl rfl (by repeat constructor) ?_; refine q_nil ?_; refine q_seq ?_; refine q_block ?_; refine q_seq ?_; refine q_region ?_; refine ql_pure tabOk rfl rfl ?_; refine ql_loadB tabOk rfl rfl rfl (by repeat first | exact .head _ | refine .tail _ ?_) (by rfl) ?_)
  refine ql_callv tabOk rfl rfl rfl rfl (fun w hs => in_ca r.radius 0 200 w) ?_
  ((iterate 2 refine ql_pure tabOk rfl rfl ?_))
  refine ql_split rfl rfl (fun hc => ?_) (fun hc => ?_)
  · ((iterate 4 refine ql_gno rfl rfl rfl ?_); (iterate 2 refine ql_pure tabOk rfl rfl ?_); (iterate 4 refine ql_gno rfl rfl rfl ?_); (iterate 2 refine ql_pure tabOk rfl rfl ?_); (iterate 4 refine ql_gno rfl rfl rfl ?_); (iterate 2 refine ql_pure tabOk rfl rfl ?_); refine q_nil ?_; refine q_cond_true rfl ?_; refine q_seq ?_; refine q_region ?_; refine ql_pure tabOk rfl rfl ?_; refine q_nil ?_; refine q_ret ?_)
    refine q_fin tabOk rfl (by repeat (first | exact RVs.nil | apply RVs.tmp rfl | apply RVs.cellA rfl rfl (by repeat first | exact .head _ | refine .tail _ ?_) (by rfl) | apply RVs.cell1 rfl rfl (by repeat first | exact .head _ | refine .tail _ ?_))) fun w hs => ?_
    exact ⟨by simp at hc; simp [retV, checkV, cnt, rng1B, hc], hs.chg0⟩
  simp at hc
  have c1 := hc
  (refine ql_gyes rfl ?_; refine ql_pure tabOk rfl rfl ?_; refine ql_gyes rfl ?_; refine ql_loadB tabOk rfl rfl rfl (by repeat first | exact .head _ | refine .tail _ ?_) (by rfl) ?_; refine ql_gyes rfl ?_)
  refine ql_callv tabOk rfl rfl rfl rfl (fun w hs => in_ca r.unit 1 20 w) ?_
  (refine ql_gyes rfl ?_; (iterate 3 refine ql_pure tabOk rfl rfl ?_))
  refine ql_split rfl rfl (fun hc => ?_) (fun hc => ?_)
  · ((iterate 4 refine ql_gno rfl rfl rfl ?_); (iterate 2 refine ql_pure tabOk rfl rfl ?_); (iterate 4 refine ql_gno rfl rfl rfl ?_); (iterate 2 refine ql_pure tabOk rfl rfl ?_); refine q_nil ?_; refine q_cond_true rfl ?_; refine q_seq ?_; refine q_region ?_; refine ql_pure tabOk rfl rfl ?_; refine q_nil ?_; refine q_ret ?_)
    refine q_fin tabOk rfl (by repeat (first | exact RVs.nil | apply RVs.tmp rfl | apply RVs.cellA rfl rfl (by repeat first | exact .head _ | refine .tail _ ?_) (by rfl) | apply RVs.cell1 rfl rfl (by repeat first | exact .head _ | refine .tail _ ?_))) fun w hs => ?_
    exact ⟨by simp at hc; simp [retV, checkV, cnt, rng1B, hc], hs.chg0⟩
  simp at hc
  have c2 := hc
  (refine ql_gyes rfl ?_; refine ql_pure tabOk rfl rfl ?_; refine ql_gyes rfl ?_; refine ql_loadB tabOk rfl rfl rfl (by repeat first | exact .head _ | refine .tail _ ?_) (by rfl) ?_; refine ql_gyes rfl ?_)
  refine ql_callv tabOk rfl rfl rfl rfl (fun w hs => in_ca r.clicks 0 6 w) ?_
  (refine ql_gyes rfl ?_; (iterate 3 refine ql_pure tabOk rfl rfl ?_))
  refine ql_split rfl rfl (fun hc => ?_) (fun hc => ?_)
  · ((iterate 4 refine ql_gno rfl rfl rfl ?_); (iterate 2 refine ql_pure tabOk rfl rfl ?_); refine q_nil ?_; refine q_cond_true rfl ?_; refine q_seq ?_; refine q_region ?_; refine ql_pure tabOk rfl rfl ?_; refine q_nil ?_; refine q_ret ?_)
    refine q_fin tabOk rfl (by repeat (first | exact RVs.nil | apply RVs.tmp rfl | apply RVs.cellA rfl rfl (by repeat first | exact .head _ | refine .tail _ ?_) (by rfl) | apply RVs.cell1 rfl rfl (by repeat first | exact .head _ | refine .tail _ ?_))) fun w hs => ?_
    exact ⟨by simp at hc; simp [retV, checkV, cnt, rng1B, hc], hs.chg0⟩
  simp at hc
  have c3 := hc
  (refine ql_gyes rfl ?_; refine ql_pure tabOk rfl rfl ?_; refine ql_gyes rfl ?_; refine ql_loadB tabOk rfl rfl rfl (by repeat first | exact .head _ | refine .tail _ ?_) (by rfl) ?_; refine ql_gyes rfl ?_)
  refine ql_callv tabOk rfl rfl rfl rfl (fun w hs => in_ca r.total 1 12 w) ?_
  (refine ql_gyes rfl ?_; (iterate 3 refine ql_pure tabOk rfl rfl ?_); refine q_nil ?_)
  refine q_cond rfl (fun hc => ?_) (fun hc => ?_)
  · (refine q_seq ?_; refine q_region ?_; refine ql_pure tabOk rfl rfl ?_; refine q_nil ?_; refine q_ret ?_)
    refine q_fin tabOk rfl (by repeat (first | exact RVs.nil | apply RVs.tmp rfl | apply RVs.cellA rfl rfl (by repeat first | exact .head _ | refine .tail _ ?_) (by rfl) | apply RVs.cell1 rfl rfl (by repeat first | exact .head _ | refine .tail _ ?_))) fun w hs => ?_
    exact ⟨by simp at hc; simp [retV, checkV, cnt, rng1B, hc], hs.chg0⟩
  simp at hc
  have rng1 : rng1B r = true := by simp [rng1B, c1, c2, c3, hc]
  have htot := inB_iff.1 hc
  clear c1 c2 c3 hc
  (refine q_seq ?_; refine q_region ?_; refine ql_pure tabOk rfl rfl ?_; refine ql_loadB tabOk rfl rfl rfl (by repeat first | exact .head _ | refine .tail _ ?_) (by rfl) ?_)
  (refine ql_callv tabOk rfl rfl rfl rfl (fun w hs => all_int w lo hi _ _ (ints r.drifts) (pI (-300) 300) (RdE.keep hdr hs.chg0) (ints_one _) (by simp; omega) (chk3_p w r.drifts)) ?_)
  rw [pI_all]
  ((iterate 2 refine ql_pure tabOk rfl rfl ?_))
  refine ql_split rfl rfl (fun hc => ?_) (fun hc => ?_)
  · ((iterate 4 refine ql_gno rfl rfl rfl ?_); (iterate 2 refine ql_pure tabOk rfl rfl ?_); refine q_nil ?_; refine q_cond_true rfl ?_; refine q_seq ?_; refine q_region ?_; refine ql_pure tabOk rfl rfl ?_; refine q_nil ?_; refine q_ret ?_)
    refine q_fin tabOk rfl (by repeat (first | exact RVs.nil | apply RVs.tmp rfl | apply RVs.cellA rfl rfl (by repeat first | exact .head _ | refine .tail _ ?_) (by rfl) | apply RVs.cell1 rfl rfl (by repeat first | exact .head _ | refine .tail _ ?_))) fun w hs => ?_
    exact ⟨by simp only [Bool.not_eq_true'] at hc; simp only [retV, checkV, cnt, rng1, rng2B, hc, Bool.and_false, Bool.false_and, Bool.not_false, Bool.not_true, if_true, if_false, Bool.false_eq_true], hs.chg0⟩
  simp only [Bool.not_eq_false'] at hc
  have c1 := hc
  (refine ql_gyes rfl ?_; refine ql_pure tabOk rfl rfl ?_; refine ql_gyes rfl ?_; refine ql_loadB tabOk rfl rfl rfl (by repeat first | exact .head _ | refine .tail _ ?_) (by rfl) ?_; refine ql_gyes rfl ?_)
  (refine ql_callv tabOk rfl rfl rfl rfl (fun w hs => all_int w lo hi _ _ (ints r.group) (pI 0 100) (RdE.keep hg hs.chg0) (ints_one _) (by simp; omega) (chk4_p w r.group)) ?_)
  rw [pI_all]
  (refine ql_gyes rfl ?_; (iterate 3 refine ql_pure tabOk rfl rfl ?_); refine q_nil ?_)
  refine q_cond rfl (fun hc => ?_) (fun hc => ?_)
  · (refine q_seq ?_; refine q_region ?_; refine ql_pure tabOk rfl rfl ?_; refine q_nil ?_; refine q_ret ?_)
    refine q_fin tabOk rfl (by repeat (first | exact RVs.nil | apply RVs.tmp rfl | apply RVs.cellA rfl rfl (by repeat first | exact .head _ | refine .tail _ ?_) (by rfl) | apply RVs.cell1 rfl rfl (by repeat first | exact .head _ | refine .tail _ ?_))) fun w hs => ?_
    exact ⟨by simp only [Bool.not_eq_true'] at hc; simp only [retV, checkV, cnt, rng1, rng2B, hc, Bool.and_false, Bool.false_and, Bool.not_false, Bool.not_true, if_true, if_false, Bool.false_eq_true], hs.chg0⟩
  simp only [Bool.not_eq_false'] at hc
  have rng2 : rng2B r = true := by simp only [rng2B, Bool.and_eq_true]; exact ⟨c1, hc⟩
  have hgr : ∀ x ∈ r.group, -1000000 ≤ x ∧ x ≤ 1000000 := fun x hx => by
    have := inB_iff.1 (List.all_eq_true.1 hc x hx)
    omega
  clear c1 hc
  (refine q_seq ?_; refine q_region ?_; refine ql_pure tabOk rfl rfl ?_; (iterate 2 refine ql_loadB tabOk rfl rfl rfl (by repeat first | exact .head _ | refine .tail _ ?_) (by rfl) ?_))
  (refine ql_callv tabOk rfl rfl rfl rfl (fun w hs => all_int w lo hi _ _ (ints r.first) (pI 0 r.total) (RdE.keep hf hs.chg0) (ints_one _) (by simp; omega) (chk2_p w b1 _ r _ r.first (hs.blk (by repeat first | exact .head _ | refine .tail _ ?_)) rfl)) ?_)
  rw [pI_all]
  ((iterate 2 refine ql_pure tabOk rfl rfl ?_))
  refine ql_split rfl rfl (fun hc => ?_) (fun hc => ?_)
  · ((iterate 5 refine ql_gno rfl rfl rfl ?_); (iterate 2 refine ql_pure tabOk rfl rfl ?_); refine q_nil ?_; refine q_cond_true rfl ?_; refine q_seq ?_; refine q_region ?_; refine ql_pure tabOk rfl rfl ?_; refine q_nil ?_; refine q_ret ?_)
    refine q_fin tabOk rfl (by repeat (first | exact RVs.nil | apply RVs.tmp rfl | apply RVs.cellA rfl rfl (by repeat first | exact .head _ | refine .tail _ ?_) (by rfl) | apply RVs.cell1 rfl rfl (by repeat first | exact .head _ | refine .tail _ ?_))) fun w hs => ?_
    exact ⟨by simp only [Bool.not_eq_true'] at hc; simp only [retV, checkV, cnt, rng1, rng2, rng3B, hc, Bool.and_false, Bool.false_and, Bool.not_false, Bool.not_true, if_true, if_false, Bool.false_eq_true], hs.chg0⟩
  simp only [Bool.not_eq_false'] at hc
  have c1 := hc
  (refine ql_gyes rfl ?_; refine ql_pure tabOk rfl rfl ?_; refine ql_gyes rfl ?_; refine ql_loadB tabOk rfl rfl rfl (by repeat first | exact .head _ | refine .tail _ ?_) (by rfl) ?_; refine ql_gyes rfl ?_; refine ql_pure tabOk rfl rfl ?_; refine ql_gyes rfl ?_)
  (refine ql_callv tabOk rfl rfl rfl rfl (fun w hs => allR w lo hi _ _ r.next _ (hn.keep hs.chg0) (by omega) (chk5_p w lo hi b4 b1 _ _ r _ r.next (fun l hl => by have := hrows l hl; omega) (hs.blk (by repeat first | exact .head _ | refine .tail _ ?_)) (hs.blk (by repeat first | exact .head _ | refine .tail _ ?_)) rfl)) ?_)
  (refine ql_gyes rfl ?_; (iterate 3 refine ql_pure tabOk rfl rfl ?_); refine q_nil ?_)
  refine q_cond rfl (fun hc => ?_) (fun hc => ?_)
  · (refine q_seq ?_; refine q_region ?_; refine ql_pure tabOk rfl rfl ?_; refine q_nil ?_; refine q_ret ?_)
    refine q_fin tabOk rfl (by repeat (first | exact RVs.nil | apply RVs.tmp rfl | apply RVs.cellA rfl rfl (by repeat first | exact .head _ | refine .tail _ ?_) (by rfl) | apply RVs.cell1 rfl rfl (by repeat first | exact .head _ | refine .tail _ ?_))) fun w hs => ?_
    exact ⟨by simp only [Bool.not_eq_true'] at hc; simp only [retV, checkV, cnt, rng1, rng2, rng3B, hc, Bool.and_false, Bool.false_and, Bool.not_false, Bool.not_true, if_true, if_false, Bool.false_eq_true], hs.chg0⟩
  simp only [Bool.not_eq_false'] at hc
  have rng3 : rng3B r = true := by simp only [rng3B, Bool.and_eq_true]; exact ⟨c1, hc⟩
  have hfr : ∀ x ∈ r.first, -1000000 ≤ x ∧ x ≤ 1000000 := fun x hx => by
    have := inB_iff.1 (List.all_eq_true.1 c1 x hx)
    omega
  have hnr : ∀ l ∈ r.next, l.length < 1000000 ∧ ∀ x ∈ l, -1000000 ≤ x ∧ x ≤ 1000000 := fun l hl => ⟨by have := hrows l hl; omega, fun x hx => by
    have := inB_iff.1 (List.all_eq_true.1 (List.all_eq_true.1 hc l hl) x hx)
    omega⟩
  clear c1 hc
  (refine q_seq ?_)
  refine q_draw _ [] (Sp.refl _) (by kernel_rfl) (by kernel_rfl) ?_
  (refine qf_pure tabOk rfl rfl rfl ?_; refine qf_loadB tabOk rfl rfl rfl (by repeat first | exact .head _ | refine .tail _ ?_) (by rfl) ?_)
  refine qf_callv tabOk rfl rfl rfl rfl (fun w hs => sum_ca w lo hi _ r.group (RdE.keep hg hs.chg0) (by omega) hgr) ?_
  skip
  refine qf_callv tabOk rfl rfl rfl rfl (fun w hs => in_ca r.group.sum 1 100 w) ?_
  ((iterate 2 refine qf_pure tabOk rfl rfl rfl ?_))
  refine qf_split rfl rfl (fun hc => ?_) (fun hc => ?_)
  · ((iterate 6 refine qf_gno rfl rfl rfl ?_); (iterate 2 refine qf_pure tabOk rfl rfl rfl ?_); (iterate 5 refine qf_gno rfl rfl rfl ?_); (iterate 2 refine qf_pure tabOk rfl rfl rfl ?_); refine qf_nil ?_; refine q_cond_true rfl ?_; refine q_seq ?_; refine q_region ?_; refine ql_pure tabOk rfl rfl ?_; refine q_nil ?_; refine q_ret ?_)
    refine q_fin tabOk rfl (by repeat (first | exact RVs.nil | apply RVs.tmp rfl | apply RVs.cellA rfl rfl (by repeat first | exact .head _ | refine .tail _ ?_) (by rfl) | apply RVs.cell1 rfl rfl (by repeat first | exact .head _ | refine .tail _ ?_))) fun w hs => ?_
    exact ⟨by simp at hc; simp [retV, checkV, cnt, rng1, rng2, rng3, cnfB, hc], hs.chg0⟩
  simp at hc
  have c1 := hc
  (refine qf_gyes rfl ?_; refine qf_pure tabOk rfl rfl rfl ?_; refine qf_gyes rfl ?_; refine qf_loadB tabOk rfl rfl rfl (by repeat first | exact .head _ | refine .tail _ ?_) (by rfl) ?_; refine qf_gyes rfl ?_)
  refine qf_callv tabOk rfl rfl rfl rfl (fun w hs => sum_ca w lo hi _ r.first (RdE.keep hf hs.chg0) (by omega) hfr) ?_
  (refine qf_gyes rfl ?_; refine qf_pure tabOk rfl rfl rfl ?_; refine qf_gyes rfl ?_; refine qf_loadB tabOk rfl rfl rfl (by repeat first | exact .head _ | refine .tail _ ?_) (by rfl) ?_; refine qf_gyes rfl ?_; (iterate 3 refine qf_pure tabOk rfl rfl rfl ?_))
  refine qf_split rfl rfl (fun hc => ?_) (fun hc => ?_)
  · ((iterate 5 refine qf_gno rfl rfl rfl ?_); (iterate 2 refine qf_pure tabOk rfl rfl rfl ?_); refine qf_nil ?_; refine q_cond_true rfl ?_; refine q_seq ?_; refine q_region ?_; refine ql_pure tabOk rfl rfl ?_; refine q_nil ?_; refine q_ret ?_)
    refine q_fin tabOk rfl (by repeat (first | exact RVs.nil | apply RVs.tmp rfl | apply RVs.cellA rfl rfl (by repeat first | exact .head _ | refine .tail _ ?_) (by rfl) | apply RVs.cell1 rfl rfl (by repeat first | exact .head _ | refine .tail _ ?_))) fun w hs => ?_
    exact ⟨by simp at hc; simp [retV, checkV, cnt, rng1, rng2, rng3, cnfB, hc], hs.chg0⟩
  simp at hc
  have c2 := hc
  (refine qf_gyes rfl ?_; refine qf_pure tabOk rfl rfl rfl ?_; refine qf_gyes rfl ?_; refine qf_loadB tabOk rfl rfl rfl (by repeat first | exact .head _ | refine .tail _ ?_) (by rfl) ?_; refine qf_gyes rfl ?_; refine qf_pure tabOk rfl rfl rfl ?_; refine qf_gyes rfl ?_)
  refine qf_callv tabOk rfl rfl rfl rfl (fun w hs => allR w lo hi _ _ r.next _ (hn.keep hs.chg0) (by omega) (chk6_p w lo hi b1 _ r _ r.next hnr (hs.blk (by repeat first | exact .head _ | refine .tail _ ?_)) rfl)) ?_
  (refine qf_gyes rfl ?_; (iterate 3 refine qf_pure tabOk rfl rfl rfl ?_); refine qf_nil ?_)
  refine q_cond rfl (fun hc => ?_) (fun hc => ?_)
  · (refine q_seq ?_; refine q_region ?_; refine ql_pure tabOk rfl rfl ?_; refine q_nil ?_; refine q_ret ?_)
    refine q_fin tabOk rfl (by repeat (first | exact RVs.nil | apply RVs.tmp rfl | apply RVs.cellA rfl rfl (by repeat first | exact .head _ | refine .tail _ ?_) (by rfl) | apply RVs.cell1 rfl rfl (by repeat first | exact .head _ | refine .tail _ ?_))) fun w hs => ?_
    exact ⟨by simp only [Bool.not_eq_true'] at hc; simp only [retV, checkV, cnt, rng1, rng2, rng3, cnfB, hc, Bool.and_false, Bool.false_and, Bool.not_false, Bool.not_true, if_true, if_false, Bool.false_eq_true], hs.chg0⟩
  · simp only [Bool.not_eq_false'] at hc
    (refine q_skip ?_; refine q_blk ?_; refine q_seq ?_; refine q_region ?_; refine ql_pure tabOk rfl rfl ?_; refine q_nil ?_; refine q_ret ?_)
    refine q_fin tabOk rfl (by repeat (first | exact RVs.nil | apply RVs.tmp rfl | apply RVs.cellA rfl rfl (by repeat first | exact .head _ | refine .tail _ ?_) (by rfl) | apply RVs.cell1 rfl rfl (by repeat first | exact .head _ | refine .tail _ ?_))) fun w hs => ?_
    refine ⟨?_, hs.chg0⟩
    have cnf : cnfB r = true := by
      simp only [cnfB, Bool.and_eq_true]
      exact ⟨⟨c1, by simpa using c2⟩, hc⟩
    simp [retV, checkV, cnt, rng1, rng2, rng3, cnf]

end Go.Proofs.Ytmbifbippnncoaa
