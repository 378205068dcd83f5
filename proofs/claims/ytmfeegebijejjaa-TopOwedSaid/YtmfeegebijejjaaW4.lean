/- Walks: which owed loops and sheets are right. -/
import Derived.Test.YtmfeegebijejjaaTab
import Derived.Test.YtmfeegebijejjaaEng8
import Derived.Test.YtmfeegebijejjaaLib2
import Derived.Test.YtmfeegebijejjaaW1
import Derived.Test.YtmfeegebijejjaaEvery
namespace Go.Proofs.Ytmfeegebijejjaa
open Go Go.Eng

structure Sh where
  fr : Int
  to : Int
  lo : Int
  hi : Int

def shV (s : Sh) : Value := .agg #[.int .i64 s.fr, .int .i64 s.to, .int .i64 s.lo, .int .i64 s.hi]
def shs (L : List Sh) : List Value := L.map shV
def shOf : Value → Sh
  | .agg c => match c.toList with
    | [.int _ a, .int _ b, .int _ c, .int _ d] => ⟨a, b, c, d⟩
    | _ => ⟨0, 0, 0, 0⟩
  | _ => ⟨0, 0, 0, 0⟩
theorem shOf_shV (s : Sh) : shOf (shV s) = s := rfl

def Sh.okN (n : Int) (s : Sh) : Prop := 0 ≤ s.fr ∧ s.fr ≤ s.to ∧ s.to < n
def Sh.okL (s : Sh) : Prop := 0 ≤ s.lo ∧ s.lo ≤ s.hi ∧ s.hi ≤ 72
instance (n : Int) (s : Sh) : Decidable (s.okN n) := by unfold Sh.okN; infer_instance
instance (s : Sh) : Decidable s.okL := by unfold Sh.okL; infer_instance

def okI : Value → Bool
  | .int _ x => decide (0 ≤ x ∧ x ≤ 5)
  | _ => false

theorem due1_p (w : World) (l : List Int) : PredAt Try.prog tab w (.func (.func 26) #[] #[]) (ints l) okI := by
  refine ⟨_, #[], #[], rfl, rfl, fun w' hw' x hx => ?_⟩
  obtain ⟨i, _, rfl⟩ := List.mem_map.1 hx
  refine ca_of Try.func26 rfl (by simp [Try.ntmps26]) ?_
  repeat (first | (refine is_lv ?_; first | refine yl_pure tabOk rfl rfl ?_ | (refine yl_isload ?_; first | refine yl_loadB tabOk rfl rfl rfl (by assumption) (by rfl) ?_ | refine yl_loadAB tabOk rfl rfl rfl (by assumption) (by rfl) (by rfl) ?_)) | (refine is_c ?_; first | refine y_seq ?_ | refine y_region ?_ | refine y_skip ?_ | refine y_block ?_ | refine y_ret ?_ | (refine is_cond ?_; first | refine y_cond_true rfl ?_ | refine y_cond_false rfl ?_) | (refine is_exit ?_; refine y_exit _ rfl ?_) | refine y_label ?_) | refine yl_nil ?_ | refine y_blk ?_ | (refine is_lg ?_; first | refine yl_guard_yes rfl ?_ | refine yl_guard_no rfl rfl rfl ?_) | (refine is_fv ?_; first | refine yf_pure tabOk rfl rfl rfl ?_ | (refine yf_isload ?_; first | refine yf_loadB tabOk rfl rfl rfl (by assumption) (by first | assumption | simp) (by rfl) ?_ | refine yf_loadAB tabOk rfl rfl rfl (by assumption) (by first | assumption | simp) (by rfl) (by rfl) ?_)) | refine yf_nil ?_ | (refine is_fg ?_; first | refine yf_guard_yes rfl ?_ | refine yf_guard_no rfl rfl rfl ?_))
  refine yl_call tabOk rfl rfl rfl rfl (within_ca i 0 5 w') ?_
  rintro _ w1 ⟨rfl, hw⟩
  obtain rfl := hw.symm
  repeat (first | (refine is_lv ?_; first | refine yl_pure tabOk rfl rfl ?_ | (refine yl_isload ?_; first | refine yl_loadB tabOk rfl rfl rfl (by assumption) (by rfl) ?_ | refine yl_loadAB tabOk rfl rfl rfl (by assumption) (by rfl) (by rfl) ?_)) | (refine is_c ?_; first | refine y_seq ?_ | refine y_region ?_ | refine y_skip ?_ | refine y_block ?_ | refine y_ret ?_ | (refine is_cond ?_; first | refine y_cond_true rfl ?_ | refine y_cond_false rfl ?_) | (refine is_exit ?_; refine y_exit _ rfl ?_) | refine y_label ?_) | refine yl_nil ?_ | refine y_blk ?_ | (refine is_lg ?_; first | refine yl_guard_yes rfl ?_ | refine yl_guard_no rfl rfl rfl ?_) | (refine is_fv ?_; first | refine yf_pure tabOk rfl rfl rfl ?_ | (refine yf_isload ?_; first | refine yf_loadB tabOk rfl rfl rfl (by assumption) (by first | assumption | simp) (by rfl) ?_ | refine yf_loadAB tabOk rfl rfl rfl (by assumption) (by first | assumption | simp) (by rfl) (by rfl) ?_)) | refine yf_nil ?_ | (refine is_fg ?_; first | refine yf_guard_yes rfl ?_ | refine yf_guard_no rfl rfl rfl ?_))
  exact y_fin1 rfl rfl ⟨rfl, Chg.refl _ _⟩

theorem cs1_p (w : World) (L : List Sh) (b t : Nat) (n : Int) (hb : Blk w b [.int .i64 n] t) :
    PredAt Try.prog tab w (.func (.func 34) #[] #[.pointer (some ⟨b, 0, none⟩)]) (shs L) (fun v => decide ((shOf v).okN n)) := by
  refine ⟨_, #[], #[_], rfl, rfl, fun w' hw' x hx => ?_⟩
  obtain ⟨s, _, rfl⟩ := List.mem_map.1 hx
  have hbw := hb.keep hw'
  refine ca_of (args := [shV s, .pointer (some ⟨b, 0, none⟩)]) Try.func34 rfl (by simp [Try.ntmps34]) ?_
  repeat (first | (refine is_lv ?_; first | refine yl_pure tabOk rfl rfl ?_ | (refine yl_isload ?_; first | refine yl_loadB tabOk rfl rfl rfl (by assumption) (by rfl) ?_ | refine yl_loadAB tabOk rfl rfl rfl (by assumption) (by rfl) (by rfl) ?_)) | (refine is_c ?_; first | refine y_seq ?_ | refine y_region ?_ | refine y_skip ?_ | refine y_block ?_ | refine y_ret ?_ | (refine is_cond ?_; first | refine y_cond_true rfl ?_ | refine y_cond_false rfl ?_) | (refine is_exit ?_; refine y_exit _ rfl ?_) | refine y_label ?_) | refine yl_nil ?_ | refine y_blk ?_ | (refine is_lg ?_; first | refine yl_guard_yes rfl ?_ | refine yl_guard_no rfl rfl rfl ?_) | (refine is_fv ?_; first | refine yf_pure tabOk rfl rfl rfl ?_ | (refine yf_isload ?_; first | refine yf_loadB tabOk rfl rfl rfl (by assumption) (by first | assumption | simp) (by rfl) ?_ | refine yf_loadAB tabOk rfl rfl rfl (by assumption) (by first | assumption | simp) (by rfl) (by rfl) ?_)) | refine yf_nil ?_ | (refine is_fg ?_; first | refine yf_guard_yes rfl ?_ | refine yf_guard_no rfl rfl rfl ?_))
  refine yl_box (v := shV s) rfl rfl (fun w1 hc1 hs1 hb1 => ?_)
  have hb1' : Blk w1 w'.heap.size [.int .i64 s.fr, .int .i64 s.to, .int .i64 s.lo, .int .i64 s.hi] 38 := hb1
  have hbw1 := hbw.keep hc1
  repeat (first | (refine is_lv ?_; first | refine yl_pure tabOk rfl rfl ?_ | (refine yl_isload ?_; first | refine yl_loadB tabOk rfl rfl rfl (by assumption) (by rfl) ?_ | refine yl_loadAB tabOk rfl rfl rfl (by assumption) (by rfl) (by rfl) ?_)) | (refine is_c ?_; first | refine y_seq ?_ | refine y_region ?_ | refine y_skip ?_ | refine y_block ?_ | refine y_ret ?_ | (refine is_cond ?_; first | refine y_cond_true rfl ?_ | refine y_cond_false rfl ?_) | (refine is_exit ?_; refine y_exit _ rfl ?_) | refine y_label ?_) | refine yl_nil ?_ | refine y_blk ?_ | (refine is_lg ?_; first | refine yl_guard_yes rfl ?_ | refine yl_guard_no rfl rfl rfl ?_) | (refine is_fv ?_; first | refine yf_pure tabOk rfl rfl rfl ?_ | (refine yf_isload ?_; first | refine yf_loadB tabOk rfl rfl rfl (by assumption) (by first | assumption | simp) (by rfl) ?_ | refine yf_loadAB tabOk rfl rfl rfl (by assumption) (by first | assumption | simp) (by rfl) (by rfl) ?_)) | refine yf_nil ?_ | (refine is_fg ?_; first | refine yf_guard_yes rfl ?_ | refine yf_guard_no rfl rfl rfl ?_))
  refine yl_call tabOk rfl rfl rfl rfl (within_ca s.fr 0 s.to w1) ?_
  rintro _ w2 ⟨rfl, hw⟩
  obtain rfl := hw.symm
  repeat (first | (refine is_lv ?_; first | refine yl_pure tabOk rfl rfl ?_ | (refine yl_isload ?_; first | refine yl_loadB tabOk rfl rfl rfl (by assumption) (by rfl) ?_ | refine yl_loadAB tabOk rfl rfl rfl (by assumption) (by rfl) (by rfl) ?_)) | (refine is_c ?_; first | refine y_seq ?_ | refine y_region ?_ | refine y_skip ?_ | refine y_block ?_ | refine y_ret ?_ | (refine is_cond ?_; first | refine y_cond_true rfl ?_ | refine y_cond_false rfl ?_) | (refine is_exit ?_; refine y_exit _ rfl ?_) | refine y_label ?_) | refine yl_nil ?_ | refine y_blk ?_ | (refine is_lg ?_; first | refine yl_guard_yes rfl ?_ | refine yl_guard_no rfl rfl rfl ?_) | (refine is_fv ?_; first | refine yf_pure tabOk rfl rfl rfl ?_ | (refine yf_isload ?_; first | refine yf_loadB tabOk rfl rfl rfl (by assumption) (by first | assumption | simp) (by rfl) ?_ | refine yf_loadAB tabOk rfl rfl rfl (by assumption) (by first | assumption | simp) (by rfl) (by rfl) ?_)) | refine yf_nil ?_ | (refine is_fg ?_; first | refine yf_guard_yes rfl ?_ | refine yf_guard_no rfl rfl rfl ?_))
  (first | (refine is_cond ?_; first | refine y_if rfl (fun hc => ?_) (fun hc => ?_) | refine y_ifn rfl (fun hc => ?_) (fun hc => ?_) | refine y_cond rfl (fun hc => ?_) (fun hc => ?_)) | (refine is_lg ?_; refine yl_split rfl rfl (fun hc => ?_) (fun hc => ?_)) | (refine is_fg ?_; refine yf_split rfl rfl (fun hc => ?_) (fun hc => ?_)))
  · repeat (first | (refine is_lv ?_; first | refine yl_pure tabOk rfl rfl ?_ | (refine yl_isload ?_; first | refine yl_loadB tabOk rfl rfl rfl (by assumption) (by rfl) ?_ | refine yl_loadAB tabOk rfl rfl rfl (by assumption) (by rfl) (by rfl) ?_)) | (refine is_c ?_; first | refine y_seq ?_ | refine y_region ?_ | refine y_skip ?_ | refine y_block ?_ | refine y_ret ?_ | (refine is_cond ?_; first | refine y_cond_true rfl ?_ | refine y_cond_false rfl ?_) | (refine is_exit ?_; refine y_exit _ rfl ?_) | refine y_label ?_) | refine yl_nil ?_ | refine y_blk ?_ | (refine is_lg ?_; first | refine yl_guard_yes rfl ?_ | refine yl_guard_no rfl rfl rfl ?_) | (refine is_fv ?_; first | refine yf_pure tabOk rfl rfl rfl ?_ | (refine yf_isload ?_; first | refine yf_loadB tabOk rfl rfl rfl (by assumption) (by first | assumption | simp) (by rfl) ?_ | refine yf_loadAB tabOk rfl rfl rfl (by assumption) (by first | assumption | simp) (by rfl) (by rfl) ?_)) | refine yf_nil ?_ | (refine is_fg ?_; first | refine yf_guard_yes rfl ?_ | refine yf_guard_no rfl rfl rfl ?_))
    refine y_fin1 rfl rfl ⟨?_, hc1⟩
    have hc := of_decide_eq_true hc
    simp [shOf_shV, Sh.okN, hc.1, hc.2]
  · repeat (first | (refine is_lv ?_; first | refine yl_pure tabOk rfl rfl ?_ | (refine yl_isload ?_; first | refine yl_loadB tabOk rfl rfl rfl (by assumption) (by rfl) ?_ | refine yl_loadAB tabOk rfl rfl rfl (by assumption) (by rfl) (by rfl) ?_)) | (refine is_c ?_; first | refine y_seq ?_ | refine y_region ?_ | refine y_skip ?_ | refine y_block ?_ | refine y_ret ?_ | (refine is_cond ?_; first | refine y_cond_true rfl ?_ | refine y_cond_false rfl ?_) | (refine is_exit ?_; refine y_exit _ rfl ?_) | refine y_label ?_) | refine yl_nil ?_ | refine y_blk ?_ | (refine is_lg ?_; first | refine yl_guard_yes rfl ?_ | refine yl_guard_no rfl rfl rfl ?_) | (refine is_fv ?_; first | refine yf_pure tabOk rfl rfl rfl ?_ | (refine yf_isload ?_; first | refine yf_loadB tabOk rfl rfl rfl (by assumption) (by first | assumption | simp) (by rfl) ?_ | refine yf_loadAB tabOk rfl rfl rfl (by assumption) (by first | assumption | simp) (by rfl) (by rfl) ?_)) | refine yf_nil ?_ | (refine is_fg ?_; first | refine yf_guard_yes rfl ?_ | refine yf_guard_no rfl rfl rfl ?_))
    refine y_fin1 rfl rfl ⟨?_, hc1⟩
    have hc := of_decide_eq_false hc
    have : ¬ s.okN n := fun h => hc ⟨h.1, h.2.1⟩
    simp [shOf_shV, this]

theorem cs2_p (w : World) (L : List Sh) :
    PredAt Try.prog tab w (.func (.func 35) #[] #[]) (shs L) (fun v => decide (shOf v).okL) := by
  refine ⟨_, #[], #[], rfl, rfl, fun w' hw' x hx => ?_⟩
  obtain ⟨s, _, rfl⟩ := List.mem_map.1 hx
  refine ca_of (args := [shV s]) Try.func35 rfl (by simp [Try.ntmps35]) ?_
  repeat (first | (refine is_lv ?_; first | refine yl_pure tabOk rfl rfl ?_ | (refine yl_isload ?_; first | refine yl_loadB tabOk rfl rfl rfl (by assumption) (by rfl) ?_ | refine yl_loadAB tabOk rfl rfl rfl (by assumption) (by rfl) (by rfl) ?_)) | (refine is_c ?_; first | refine y_seq ?_ | refine y_region ?_ | refine y_skip ?_ | refine y_block ?_ | refine y_ret ?_ | (refine is_cond ?_; first | refine y_cond_true rfl ?_ | refine y_cond_false rfl ?_) | (refine is_exit ?_; refine y_exit _ rfl ?_) | refine y_label ?_) | refine yl_nil ?_ | refine y_blk ?_ | (refine is_lg ?_; first | refine yl_guard_yes rfl ?_ | refine yl_guard_no rfl rfl rfl ?_) | (refine is_fv ?_; first | refine yf_pure tabOk rfl rfl rfl ?_ | (refine yf_isload ?_; first | refine yf_loadB tabOk rfl rfl rfl (by assumption) (by first | assumption | simp) (by rfl) ?_ | refine yf_loadAB tabOk rfl rfl rfl (by assumption) (by first | assumption | simp) (by rfl) (by rfl) ?_)) | refine yf_nil ?_ | (refine is_fg ?_; first | refine yf_guard_yes rfl ?_ | refine yf_guard_no rfl rfl rfl ?_))
  refine yl_box (v := shV s) rfl rfl (fun w1 hc1 hs1 hb1 => ?_)
  have hb1' : Blk w1 w'.heap.size [.int .i64 s.fr, .int .i64 s.to, .int .i64 s.lo, .int .i64 s.hi] 38 := hb1
  repeat (first | (refine is_lv ?_; first | refine yl_pure tabOk rfl rfl ?_ | (refine yl_isload ?_; first | refine yl_loadB tabOk rfl rfl rfl (by assumption) (by rfl) ?_ | refine yl_loadAB tabOk rfl rfl rfl (by assumption) (by rfl) (by rfl) ?_)) | (refine is_c ?_; first | refine y_seq ?_ | refine y_region ?_ | refine y_skip ?_ | refine y_block ?_ | refine y_ret ?_ | (refine is_cond ?_; first | refine y_cond_true rfl ?_ | refine y_cond_false rfl ?_) | (refine is_exit ?_; refine y_exit _ rfl ?_) | refine y_label ?_) | refine yl_nil ?_ | refine y_blk ?_ | (refine is_lg ?_; first | refine yl_guard_yes rfl ?_ | refine yl_guard_no rfl rfl rfl ?_) | (refine is_fv ?_; first | refine yf_pure tabOk rfl rfl rfl ?_ | (refine yf_isload ?_; first | refine yf_loadB tabOk rfl rfl rfl (by assumption) (by first | assumption | simp) (by rfl) ?_ | refine yf_loadAB tabOk rfl rfl rfl (by assumption) (by first | assumption | simp) (by rfl) (by rfl) ?_)) | refine yf_nil ?_ | (refine is_fg ?_; first | refine yf_guard_yes rfl ?_ | refine yf_guard_no rfl rfl rfl ?_))
  refine yl_call tabOk rfl rfl rfl rfl (within_ca s.lo 0 s.hi w1) ?_
  rintro _ w2 ⟨rfl, hw⟩
  obtain rfl := hw.symm
  repeat (first | (refine is_lv ?_; first | refine yl_pure tabOk rfl rfl ?_ | (refine yl_isload ?_; first | refine yl_loadB tabOk rfl rfl rfl (by assumption) (by rfl) ?_ | refine yl_loadAB tabOk rfl rfl rfl (by assumption) (by rfl) (by rfl) ?_)) | (refine is_c ?_; first | refine y_seq ?_ | refine y_region ?_ | refine y_skip ?_ | refine y_block ?_ | refine y_ret ?_ | (refine is_cond ?_; first | refine y_cond_true rfl ?_ | refine y_cond_false rfl ?_) | (refine is_exit ?_; refine y_exit _ rfl ?_) | refine y_label ?_) | refine yl_nil ?_ | refine y_blk ?_ | (refine is_lg ?_; first | refine yl_guard_yes rfl ?_ | refine yl_guard_no rfl rfl rfl ?_) | (refine is_fv ?_; first | refine yf_pure tabOk rfl rfl rfl ?_ | (refine yf_isload ?_; first | refine yf_loadB tabOk rfl rfl rfl (by assumption) (by first | assumption | simp) (by rfl) ?_ | refine yf_loadAB tabOk rfl rfl rfl (by assumption) (by first | assumption | simp) (by rfl) (by rfl) ?_)) | refine yf_nil ?_ | (refine is_fg ?_; first | refine yf_guard_yes rfl ?_ | refine yf_guard_no rfl rfl rfl ?_))
  (first | (refine is_cond ?_; first | refine y_if rfl (fun hc => ?_) (fun hc => ?_) | refine y_ifn rfl (fun hc => ?_) (fun hc => ?_) | refine y_cond rfl (fun hc => ?_) (fun hc => ?_)) | (refine is_lg ?_; refine yl_split rfl rfl (fun hc => ?_) (fun hc => ?_)) | (refine is_fg ?_; refine yf_split rfl rfl (fun hc => ?_) (fun hc => ?_)))
  · repeat (first | (refine is_lv ?_; first | refine yl_pure tabOk rfl rfl ?_ | (refine yl_isload ?_; first | refine yl_loadB tabOk rfl rfl rfl (by assumption) (by rfl) ?_ | refine yl_loadAB tabOk rfl rfl rfl (by assumption) (by rfl) (by rfl) ?_)) | (refine is_c ?_; first | refine y_seq ?_ | refine y_region ?_ | refine y_skip ?_ | refine y_block ?_ | refine y_ret ?_ | (refine is_cond ?_; first | refine y_cond_true rfl ?_ | refine y_cond_false rfl ?_) | (refine is_exit ?_; refine y_exit _ rfl ?_) | refine y_label ?_) | refine yl_nil ?_ | refine y_blk ?_ | (refine is_lg ?_; first | refine yl_guard_yes rfl ?_ | refine yl_guard_no rfl rfl rfl ?_) | (refine is_fv ?_; first | refine yf_pure tabOk rfl rfl rfl ?_ | (refine yf_isload ?_; first | refine yf_loadB tabOk rfl rfl rfl (by assumption) (by first | assumption | simp) (by rfl) ?_ | refine yf_loadAB tabOk rfl rfl rfl (by assumption) (by first | assumption | simp) (by rfl) (by rfl) ?_)) | refine yf_nil ?_ | (refine is_fg ?_; first | refine yf_guard_yes rfl ?_ | refine yf_guard_no rfl rfl rfl ?_))
    refine y_fin1 rfl rfl ⟨?_, hc1⟩
    have hc := of_decide_eq_true hc
    simp [shOf_shV, Sh.okL, hc.1, hc.2]
  · repeat (first | (refine is_lv ?_; first | refine yl_pure tabOk rfl rfl ?_ | (refine yl_isload ?_; first | refine yl_loadB tabOk rfl rfl rfl (by assumption) (by rfl) ?_ | refine yl_loadAB tabOk rfl rfl rfl (by assumption) (by rfl) (by rfl) ?_)) | (refine is_c ?_; first | refine y_seq ?_ | refine y_region ?_ | refine y_skip ?_ | refine y_block ?_ | refine y_ret ?_ | (refine is_cond ?_; first | refine y_cond_true rfl ?_ | refine y_cond_false rfl ?_) | (refine is_exit ?_; refine y_exit _ rfl ?_) | refine y_label ?_) | refine yl_nil ?_ | refine y_blk ?_ | (refine is_lg ?_; first | refine yl_guard_yes rfl ?_ | refine yl_guard_no rfl rfl rfl ?_) | (refine is_fv ?_; first | refine yf_pure tabOk rfl rfl rfl ?_ | (refine yf_isload ?_; first | refine yf_loadB tabOk rfl rfl rfl (by assumption) (by first | assumption | simp) (by rfl) ?_ | refine yf_loadAB tabOk rfl rfl rfl (by assumption) (by first | assumption | simp) (by rfl) (by rfl) ?_)) | refine yf_nil ?_ | (refine is_fg ?_; first | refine yf_guard_yes rfl ?_ | refine yf_guard_no rfl rfl rfl ?_))
    refine y_fin1 rfl rfl ⟨?_, hc1⟩
    have hc := of_decide_eq_false hc
    have : ¬ s.okL := fun h => hc ⟨h.1, h.2.1⟩
    simp [shOf_shV, this]

theorem shs_agg (L : List Sh) : ∀ i (hi : i < (shs L).length), ∃ c, (shs L)[i] = .agg c := fun i hi => by
  obtain ⟨s, _, h⟩ := List.mem_map.1 (List.getElem_mem hi)
  exact ⟨_, h.symm⟩
theorem shs_len (L : List Sh) : (shs L).length = L.length := by simp [shs]

theorem checkSheets_ca (w : World) (lo hi : Nat) (v : Value) (L : List Sh) (n : Int) (hrd : RdE w lo hi v 4 (shs L)) (hn1 : 1 ≤ n) (hn8 : n ≤ 8) (hL : L.length ≤ 20) (hN : ∀ s ∈ L, s.okN n) (hR : ∀ s ∈ L, s.okL) :
    Ca Try.prog 27 [.int .i64 n, v] w fun r w' => r = .int .i64 0 ∧ Chg [] w w' := by
  obtain ⟨a, cap, rfl, _⟩ := hrd.out
  refine ca_of Try.func27 rfl (by simp [Try.ntmps27]) ?_
  repeat (first | (refine is_lv ?_; first | refine yl_pure tabOk rfl rfl ?_ | (refine yl_isload ?_; first | refine yl_loadB tabOk rfl rfl rfl (by assumption) (by rfl) ?_ | refine yl_loadAB tabOk rfl rfl rfl (by assumption) (by rfl) (by rfl) ?_)) | (refine is_c ?_; first | refine y_seq ?_ | refine y_region ?_ | refine y_skip ?_ | refine y_block ?_ | refine y_ret ?_ | (refine is_cond ?_; first | refine y_cond_true rfl ?_ | refine y_cond_false rfl ?_) | (refine is_exit ?_; refine y_exit _ rfl ?_) | refine y_label ?_) | refine yl_nil ?_ | refine y_blk ?_ | (refine is_lg ?_; first | refine yl_guard_yes rfl ?_ | refine yl_guard_no rfl rfl rfl ?_) | (refine is_fv ?_; first | refine yf_pure tabOk rfl rfl rfl ?_ | (refine yf_isload ?_; first | refine yf_loadB tabOk rfl rfl rfl (by assumption) (by first | assumption | simp) (by rfl) ?_ | refine yf_loadAB tabOk rfl rfl rfl (by assumption) (by first | assumption | simp) (by rfl) (by rfl) ?_)) | refine yf_nil ?_ | (refine is_fg ?_; first | refine yf_guard_yes rfl ?_ | refine yf_guard_no rfl rfl rfl ?_))
  refine yl_box rfl rfl (fun w1 hc1 hs1 hb1 => ?_)
  have hb1' : Blk w1 w.heap.size [.int .i64 n] 3 := hb1
  repeat (first | (refine is_lv ?_; first | refine yl_pure tabOk rfl rfl ?_ | (refine yl_isload ?_; first | refine yl_loadB tabOk rfl rfl rfl (by assumption) (by rfl) ?_ | refine yl_loadAB tabOk rfl rfl rfl (by assumption) (by rfl) (by rfl) ?_)) | (refine is_c ?_; first | refine y_seq ?_ | refine y_region ?_ | refine y_skip ?_ | refine y_block ?_ | refine y_ret ?_ | (refine is_cond ?_; first | refine y_cond_true rfl ?_ | refine y_cond_false rfl ?_) | (refine is_exit ?_; refine y_exit _ rfl ?_) | refine y_label ?_) | refine yl_nil ?_ | refine y_blk ?_ | (refine is_lg ?_; first | refine yl_guard_yes rfl ?_ | refine yl_guard_no rfl rfl rfl ?_) | (refine is_fv ?_; first | refine yf_pure tabOk rfl rfl rfl ?_ | (refine yf_isload ?_; first | refine yf_loadB tabOk rfl rfl rfl (by assumption) (by first | assumption | simp) (by rfl) ?_ | refine yf_loadAB tabOk rfl rfl rfl (by assumption) (by first | assumption | simp) (by rfl) (by rfl) ?_)) | refine yf_nil ?_ | (refine is_fg ?_; first | refine yf_guard_yes rfl ?_ | refine yf_guard_no rfl rfl rfl ?_))
  refine yl_call tabOk rfl rfl rfl rfl (within_ca n 1 8 w1) ?_
  rintro _ w2 ⟨rfl, hw⟩
  obtain rfl := hw.symm
  rw [decide_eq_true (⟨hn1, hn8⟩ : (1 : Int) ≤ n ∧ n ≤ 8)]
  repeat (first | (refine is_lv ?_; first | refine yl_pure tabOk rfl rfl ?_ | (refine yl_isload ?_; first | refine yl_loadB tabOk rfl rfl rfl (by assumption) (by rfl) ?_ | refine yl_loadAB tabOk rfl rfl rfl (by assumption) (by rfl) (by rfl) ?_)) | (refine is_c ?_; first | refine y_seq ?_ | refine y_region ?_ | refine y_skip ?_ | refine y_block ?_ | refine y_ret ?_ | (refine is_cond ?_; first | refine y_cond_true rfl ?_ | refine y_cond_false rfl ?_) | (refine is_exit ?_; refine y_exit _ rfl ?_) | refine y_label ?_) | refine yl_nil ?_ | refine y_blk ?_ | (refine is_lg ?_; first | refine yl_guard_yes rfl ?_ | refine yl_guard_no rfl rfl rfl ?_) | (refine is_fv ?_; first | refine yf_pure tabOk rfl rfl rfl ?_ | (refine yf_isload ?_; first | refine yf_loadB tabOk rfl rfl rfl (by assumption) (by first | assumption | simp) (by rfl) ?_ | refine yf_loadAB tabOk rfl rfl rfl (by assumption) (by first | assumption | simp) (by rfl) (by rfl) ?_)) | refine yf_nil ?_ | (refine is_fg ?_; first | refine yf_guard_yes rfl ?_ | refine yf_guard_no rfl rfl rfl ?_))
  refine y_if rfl (fun hc => ?_) (fun hc => ?_)
  · have := shs_len L
    omega
  repeat (first | (refine is_lv ?_; first | refine yl_pure tabOk rfl rfl ?_ | (refine yl_isload ?_; first | refine yl_loadB tabOk rfl rfl rfl (by assumption) (by rfl) ?_ | refine yl_loadAB tabOk rfl rfl rfl (by assumption) (by rfl) (by rfl) ?_)) | (refine is_c ?_; first | refine y_seq ?_ | refine y_region ?_ | refine y_skip ?_ | refine y_block ?_ | refine y_ret ?_ | (refine is_cond ?_; first | refine y_cond_true rfl ?_ | refine y_cond_false rfl ?_) | (refine is_exit ?_; refine y_exit _ rfl ?_) | refine y_label ?_) | refine yl_nil ?_ | refine y_blk ?_ | (refine is_lg ?_; first | refine yl_guard_yes rfl ?_ | refine yl_guard_no rfl rfl rfl ?_) | (refine is_fv ?_; first | refine yf_pure tabOk rfl rfl rfl ?_ | (refine yf_isload ?_; first | refine yf_loadB tabOk rfl rfl rfl (by assumption) (by first | assumption | simp) (by rfl) ?_ | refine yf_loadAB tabOk rfl rfl rfl (by assumption) (by first | assumption | simp) (by rfl) (by rfl) ?_)) | refine yf_nil ?_ | (refine is_fg ?_; first | refine yf_guard_yes rfl ?_ | refine yf_guard_no rfl rfl rfl ?_))
  refine yl_call tabOk rfl rfl rfl rfl (all_sheet w1 lo hi _ _ (shs L) _ (hrd.keep hc1) (shs_agg L) (by rw [shs_len]; omega) (cs1_p w1 L _ _ n hb1')) ?_
  rintro _ w2 ⟨rfl, hc2⟩
  have h1 : (shs L).all (fun v => decide ((shOf v).okN n)) = true := List.all_eq_true.2 (fun x hx => by
    obtain ⟨s, hs, rfl⟩ := List.mem_map.1 hx
    exact decide_eq_true (hN s hs))
  rw [h1]
  repeat (first | (refine is_lv ?_; first | refine yl_pure tabOk rfl rfl ?_ | (refine yl_isload ?_; first | refine yl_loadB tabOk rfl rfl rfl (by assumption) (by rfl) ?_ | refine yl_loadAB tabOk rfl rfl rfl (by assumption) (by rfl) (by rfl) ?_)) | (refine is_c ?_; first | refine y_seq ?_ | refine y_region ?_ | refine y_skip ?_ | refine y_block ?_ | refine y_ret ?_ | (refine is_cond ?_; first | refine y_cond_true rfl ?_ | refine y_cond_false rfl ?_) | (refine is_exit ?_; refine y_exit _ rfl ?_) | refine y_label ?_) | refine yl_nil ?_ | refine y_blk ?_ | (refine is_lg ?_; first | refine yl_guard_yes rfl ?_ | refine yl_guard_no rfl rfl rfl ?_) | (refine is_fv ?_; first | refine yf_pure tabOk rfl rfl rfl ?_ | (refine yf_isload ?_; first | refine yf_loadB tabOk rfl rfl rfl (by assumption) (by first | assumption | simp) (by rfl) ?_ | refine yf_loadAB tabOk rfl rfl rfl (by assumption) (by first | assumption | simp) (by rfl) (by rfl) ?_)) | refine yf_nil ?_ | (refine is_fg ?_; first | refine yf_guard_yes rfl ?_ | refine yf_guard_no rfl rfl rfl ?_))
  refine yl_call tabOk rfl rfl rfl rfl (all_sheet w2 lo hi _ _ (shs L) _ ((hrd.keep hc1).keep hc2) (shs_agg L) (by rw [shs_len]; omega) (cs2_p w2 L)) ?_
  rintro _ w3 ⟨rfl, hc3⟩
  have h2 : (shs L).all (fun v => decide (shOf v).okL) = true := List.all_eq_true.2 (fun x hx => by
    obtain ⟨s, hs, rfl⟩ := List.mem_map.1 hx
    exact decide_eq_true (hR s hs))
  rw [h2]
  repeat (first | (refine is_lv ?_; first | refine yl_pure tabOk rfl rfl ?_ | (refine yl_isload ?_; first | refine yl_loadB tabOk rfl rfl rfl (by assumption) (by rfl) ?_ | refine yl_loadAB tabOk rfl rfl rfl (by assumption) (by rfl) (by rfl) ?_)) | (refine is_c ?_; first | refine y_seq ?_ | refine y_region ?_ | refine y_skip ?_ | refine y_block ?_ | refine y_ret ?_ | (refine is_cond ?_; first | refine y_cond_true rfl ?_ | refine y_cond_false rfl ?_) | (refine is_exit ?_; refine y_exit _ rfl ?_) | refine y_label ?_) | refine yl_nil ?_ | refine y_blk ?_ | (refine is_lg ?_; first | refine yl_guard_yes rfl ?_ | refine yl_guard_no rfl rfl rfl ?_) | (refine is_fv ?_; first | refine yf_pure tabOk rfl rfl rfl ?_ | (refine yf_isload ?_; first | refine yf_loadB tabOk rfl rfl rfl (by assumption) (by first | assumption | simp) (by rfl) ?_ | refine yf_loadAB tabOk rfl rfl rfl (by assumption) (by first | assumption | simp) (by rfl) (by rfl) ?_)) | refine yf_nil ?_ | (refine is_fg ?_; first | refine yf_guard_yes rfl ?_ | refine yf_guard_no rfl rfl rfl ?_))
  exact y_fin1 rfl rfl ⟨rfl, (hc1.trans hc2).trans hc3⟩

/-- Owed loops and sheets that are right. -/
structure Right (l : List Int) (L : List Sh) : Prop where
  one : 1 ≤ l.length
  most : l.length ≤ 8
  sheets : L.length ≤ 20
  owed : ∀ x ∈ l, 0 ≤ x ∧ x ≤ 5
  place : ∀ s ∈ L, s.okN l.length
  loops : ∀ s ∈ L, s.okL

theorem due_ca (w : World) (lo hi lo' hi' : Nat) (v v' : Value) (l : List Int) (L : List Sh) (h1 : RdI w lo hi v l) (h2 : RdE w lo' hi' v' 4 (shs L)) (hr : Right l L) :
    Ca Try.prog 17 [v, v'] w fun r w' => r = .int .i64 0 ∧ Chg [] w w' := by
  obtain ⟨a, cap, rfl, _⟩ := h1.outI
  have := hr.one
  have := hr.most
  refine ca_of Try.func17 rfl (by simp [Try.ntmps17]) ?_
  repeat (first | (refine is_lv ?_; first | refine yl_pure tabOk rfl rfl ?_ | (refine yl_isload ?_; first | refine yl_loadB tabOk rfl rfl rfl (by assumption) (by rfl) ?_ | refine yl_loadAB tabOk rfl rfl rfl (by assumption) (by rfl) (by rfl) ?_)) | (refine is_c ?_; first | refine y_seq ?_ | refine y_region ?_ | refine y_skip ?_ | refine y_block ?_ | refine y_ret ?_ | (refine is_cond ?_; first | refine y_cond_true rfl ?_ | refine y_cond_false rfl ?_) | (refine is_exit ?_; refine y_exit _ rfl ?_) | refine y_label ?_) | refine yl_nil ?_ | refine y_blk ?_ | (refine is_lg ?_; first | refine yl_guard_yes rfl ?_ | refine yl_guard_no rfl rfl rfl ?_) | (refine is_fv ?_; first | refine yf_pure tabOk rfl rfl rfl ?_ | (refine yf_isload ?_; first | refine yf_loadB tabOk rfl rfl rfl (by assumption) (by first | assumption | simp) (by rfl) ?_ | refine yf_loadAB tabOk rfl rfl rfl (by assumption) (by first | assumption | simp) (by rfl) (by rfl) ?_)) | refine yf_nil ?_ | (refine is_fg ?_; first | refine yf_guard_yes rfl ?_ | refine yf_guard_no rfl rfl rfl ?_))
  refine yl_call tabOk rfl rfl rfl rfl (within_ca l.length 1 8 w) ?_
  rintro _ w2 ⟨rfl, hw⟩
  obtain rfl := hw.symm
  rw [decide_eq_true (⟨by omega, by omega⟩ : (1 : Int) ≤ l.length ∧ (l.length : Int) ≤ 8)]
  repeat (first | (refine is_lv ?_; first | refine yl_pure tabOk rfl rfl ?_ | (refine yl_isload ?_; first | refine yl_loadB tabOk rfl rfl rfl (by assumption) (by rfl) ?_ | refine yl_loadAB tabOk rfl rfl rfl (by assumption) (by rfl) (by rfl) ?_)) | (refine is_c ?_; first | refine y_seq ?_ | refine y_region ?_ | refine y_skip ?_ | refine y_block ?_ | refine y_ret ?_ | (refine is_cond ?_; first | refine y_cond_true rfl ?_ | refine y_cond_false rfl ?_) | (refine is_exit ?_; refine y_exit _ rfl ?_) | refine y_label ?_) | refine yl_nil ?_ | refine y_blk ?_ | (refine is_lg ?_; first | refine yl_guard_yes rfl ?_ | refine yl_guard_no rfl rfl rfl ?_) | (refine is_fv ?_; first | refine yf_pure tabOk rfl rfl rfl ?_ | (refine yf_isload ?_; first | refine yf_loadB tabOk rfl rfl rfl (by assumption) (by first | assumption | simp) (by rfl) ?_ | refine yf_loadAB tabOk rfl rfl rfl (by assumption) (by first | assumption | simp) (by rfl) (by rfl) ?_)) | refine yf_nil ?_ | (refine is_fg ?_; first | refine yf_guard_yes rfl ?_ | refine yf_guard_no rfl rfl rfl ?_))
  refine yl_call tabOk rfl rfl rfl rfl (all_int w lo hi _ _ (ints l) _ h1 (fun i hi => by simp [oneV]) (by simp; omega) (due1_p w l)) ?_
  rintro _ w2 ⟨rfl, hc2⟩
  have h3 : (ints l).all okI = true := List.all_eq_true.2 (fun x hx => by
    obtain ⟨s, hs, rfl⟩ := List.mem_map.1 hx
    exact decide_eq_true (hr.owed s hs))
  rw [h3]
  repeat (first | (refine is_lv ?_; first | refine yl_pure tabOk rfl rfl ?_ | (refine yl_isload ?_; first | refine yl_loadB tabOk rfl rfl rfl (by assumption) (by rfl) ?_ | refine yl_loadAB tabOk rfl rfl rfl (by assumption) (by rfl) (by rfl) ?_)) | (refine is_c ?_; first | refine y_seq ?_ | refine y_region ?_ | refine y_skip ?_ | refine y_block ?_ | refine y_ret ?_ | (refine is_cond ?_; first | refine y_cond_true rfl ?_ | refine y_cond_false rfl ?_) | (refine is_exit ?_; refine y_exit _ rfl ?_) | refine y_label ?_) | refine yl_nil ?_ | refine y_blk ?_ | (refine is_lg ?_; first | refine yl_guard_yes rfl ?_ | refine yl_guard_no rfl rfl rfl ?_) | (refine is_fv ?_; first | refine yf_pure tabOk rfl rfl rfl ?_ | (refine yf_isload ?_; first | refine yf_loadB tabOk rfl rfl rfl (by assumption) (by first | assumption | simp) (by rfl) ?_ | refine yf_loadAB tabOk rfl rfl rfl (by assumption) (by first | assumption | simp) (by rfl) (by rfl) ?_)) | refine yf_nil ?_ | (refine is_fg ?_; first | refine yf_guard_yes rfl ?_ | refine yf_guard_no rfl rfl rfl ?_))
  refine yl_call tabOk rfl rfl rfl rfl (checkSheets_ca w2 lo' hi' v' L l.length (h2.keep hc2) (by omega) (by omega) hr.sheets hr.place hr.loops) ?_
  rintro _ w3 ⟨rfl, hc3⟩
  repeat (first | (refine is_lv ?_; first | refine yl_pure tabOk rfl rfl ?_ | (refine yl_isload ?_; first | refine yl_loadB tabOk rfl rfl rfl (by assumption) (by rfl) ?_ | refine yl_loadAB tabOk rfl rfl rfl (by assumption) (by rfl) (by rfl) ?_)) | (refine is_c ?_; first | refine y_seq ?_ | refine y_region ?_ | refine y_skip ?_ | refine y_block ?_ | refine y_ret ?_ | (refine is_cond ?_; first | refine y_cond_true rfl ?_ | refine y_cond_false rfl ?_) | (refine is_exit ?_; refine y_exit _ rfl ?_) | refine y_label ?_) | refine yl_nil ?_ | refine y_blk ?_ | (refine is_lg ?_; first | refine yl_guard_yes rfl ?_ | refine yl_guard_no rfl rfl rfl ?_) | (refine is_fv ?_; first | refine yf_pure tabOk rfl rfl rfl ?_ | (refine yf_isload ?_; first | refine yf_loadB tabOk rfl rfl rfl (by assumption) (by first | assumption | simp) (by rfl) ?_ | refine yf_loadAB tabOk rfl rfl rfl (by assumption) (by first | assumption | simp) (by rfl) (by rfl) ?_)) | refine yf_nil ?_ | (refine is_fg ?_; first | refine yf_guard_yes rfl ?_ | refine yf_guard_no rfl rfl rfl ?_))
  exact y_fin1 rfl rfl ⟨rfl, hc2.trans hc3⟩

end Go.Proofs.Ytmfeegebijejjaa
