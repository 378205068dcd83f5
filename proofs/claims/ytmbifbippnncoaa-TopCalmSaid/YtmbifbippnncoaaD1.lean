/- Walks: klisterkit's deck. Only the ranges of what it deals are told. -/
import Derived.Test.YtmbifbippnncoaaTab
import Derived.Test.YtmbifbippnncoaaK7
namespace Go.Proofs.Ytmbifbippnncoaa
open Go Go.Eng
attribute [local irreducible] IntKind.wrap Int.tmod Int.tdiv

/-- The deck's own variable, after at most K cards. -/
def DkS (w : World) (b : Nat) (bs : Value) (K : Nat) : Prop :=
  ∃ next st, Blk w b [bs, .int .i64 next, .int .u32 st] 47 ∧ 0 ≤ next ∧ next ≤ K ∧ 0 ≤ st ∧ st < 4294967296
/-- Its bytes. -/
def DkB (w : World) (lo hi : Nat) (bs : Value) : Prop := ∃ nb cs, Rd w lo hi bs 1 nb cs ∧ (∀ c ∈ cs, ∃ x, c = .int .u8 x ∧ 0 ≤ x ∧ x < 256)
theorem DkB.keep {w w' : World} {lo hi : Nat} {bs : Value} (h : DkB w lo hi bs) (c : Chg [] w w') : DkB w' lo hi bs := by
  obtain ⟨nb, cs, h1, h2⟩ := h
  exact ⟨nb, cs, h1.keep c, h2⟩

set_option maxHeartbeats 1000000 in
theorem draw_ca (n : Int) (K : Nat) (hK : K < 4611686018427387904) (w : World) (b lo hi : Nat) (bs : Value) (hby : DkB w lo hi bs) (hlh : hi ≤ b) (hd : DkS w b bs K) :
    Ca Try.prog 6 [.pointer (some ⟨b, 0, none⟩), .int .i64 n] w fun v w' => ∃ r, v = .int .i64 r ∧ 0 ≤ r ∧ (r < n ∨ r = 0) ∧ Chg [b] w w' ∧ w'.heap.size = w.heap.size ∧ DkS w' b bs (K + 1) := by
  obtain ⟨nb, cs, hrd, hcs⟩ := hby
  obtain ⟨next, st, hb, hn0, hnK, hs0, hs1⟩ := hd
  have hd : DkS w b bs (K + 1) := ⟨next, st, hb, hn0, by omega, hs0, hs1⟩
  obtain ⟨a, cap, rfl, hsl⟩ := hrd.out
  refine ca_of Try.func6 rfl (by simp [Try.ntmps6]) ?_
  (refine y_seq ?_; refine y_region ?_; refine yl_pure tabOk rfl rfl ?_; (iterate 2 refine y_seq ?_); refine y_region ?_; (iterate 3 refine yl_pure tabOk rfl rfl ?_))
  refine yl_split rfl rfl (fun hc => ?_) (fun hc => ?_)
  · ((iterate 6 refine yl_guard_no rfl rfl rfl ?_); refine yl_pure tabOk rfl rfl ?_; refine y_cond_true rfl ?_; refine y_seq ?_; refine y_region ?_; refine yl_pure tabOk rfl rfl ?_; refine y_ret ?_)
    exact y_fin1 rfl rfl ⟨0, rfl, by omega, .inr rfl, Chg.refl _ _, rfl, hd⟩
  (refine yl_guard_yes rfl ?_; refine yl_pure tabOk rfl rfl ?_; refine yl_guard_yes rfl ?_; refine yl_pure tabOk rfl rfl ?_; refine yl_guard_yes rfl ?_; refine yl_pure tabOk rfl rfl ?_; refine yl_guard_yes rfl ?_; refine yl_loadB tabOk rfl rfl rfl (by assumption) (by rfl) ?_; refine yl_guard_yes rfl ?_; refine yl_pure tabOk rfl rfl ?_; refine yl_guard_yes rfl ?_; (iterate 2 refine yl_pure tabOk rfl rfl ?_); refine yl_nil ?_)
  have hn := of_decide_eq_false hc
  refine y_if rfl (fun hc => ?_) (fun hc => ?_)
  · (refine y_seq ?_; refine y_region ?_; refine yl_pure tabOk rfl rfl ?_; refine y_ret ?_)
    exact y_fin1 rfl rfl ⟨0, rfl, by omega, .inr rfl, Chg.refl _ _, rfl, hd⟩
  have hnb : 0 < nb := by omega
  obtain ⟨bb, off, rfl, hcell⟩ := hsl hnb
  (refine y_skip ?_; refine y_seq ?_)
  refine y_draw [] (by kernel_rfl) (by kernel_rfl) (fun w1 hc1 hs1 => ?_)
  have hb1 := hb.keep hc1
  ((iterate 3 refine yf_pure tabOk rfl rfl rfl ?_); refine yf_loadB tabOk rfl rfl rfl (by assumption) (by first | assumption | simp) (by rfl) ?_; (iterate 3 refine yf_pure tabOk rfl rfl rfl ?_); refine yf_loadB tabOk rfl rfl rfl (by assumption) (by first | assumption | simp) (by rfl) ?_; (iterate 3 refine yf_pure tabOk rfl rfl rfl ?_); refine yf_loadB tabOk rfl rfl rfl (by assumption) (by first | assumption | simp) (by rfl) ?_; refine yf_pure tabOk rfl rfl rfl ?_)
  have hlen : cs.length = nb := by have := hrd.1; omega
  have hm := tmod_pos hn0 (by omega : (0 : Int) < nb)
  refine yf_rem rfl rfl (by omega) rfl ?_
  refine yf_index tabOk rfl rfl rfl rfl rfl hm.1 hm.2 ?_
  obtain ⟨x, hx, hx0, hx1⟩ := hcs (cs[(next.tmod nb).toNat]'(by omega)) (List.getElem_mem _)
  refine yf_load1 tabOk rfl rfl rfl (fun w' hw' => ?_) (v := .int .u8 x) ?_
  · have h1 := ((hrd.keep hc1).keep hw').cell rfl (next.tmod nb).toNat (by omega)
    rw [Nat.mul_one, h1, List.getElem?_eq_getElem (by omega), hx]
  ((iterate 4 refine yf_pure tabOk rfl rfl rfl ?_); refine yf_loadB tabOk rfl rfl rfl (by assumption) (by first | assumption | simp) (by rfl) ?_; (iterate 3 refine yf_pure tabOk rfl rfl rfl ?_); refine yf_loadB tabOk rfl rfl rfl (by assumption) (by first | assumption | simp) (by rfl) ?_; refine yf_pure tabOk rfl rfl rfl ?_)
  refine yf_quo rfl rfl (by omega) rfl ?_
  ((iterate 3 refine yf_pure tabOk rfl rfl rfl ?_); refine y_seq ?_; refine y_region ?_; (iterate 3 refine yl_pure tabOk rfl rfl ?_); refine yl_loadB tabOk rfl rfl rfl (by assumption) (by rfl) ?_; (iterate 3 refine yl_pure tabOk rfl rfl ?_))
  refine yl_store1 tabOk rfl rfl rfl rfl (by assumption) (by simp) (fun w2 hc2 hs2 hb2 => ?_)
  (refine y_seq ?_; refine y_region ?_; (iterate 4 refine yl_pure tabOk rfl rfl ?_); refine yl_loadB tabOk rfl rfl rfl (by assumption) (by rfl) ?_; (iterate 7 refine yl_pure tabOk rfl rfl ?_))
  refine yl_rem rfl rfl (by omega) rfl ?_
  ((iterate 2 refine yl_pure tabOk rfl rfl ?_))
  refine yl_store1 tabOk rfl rfl rfl rfl (by assumption) (by simp) (fun w3 hc3 hs3 hb3 => ?_)
  have hc03 : Chg [b] w w3 := (hc1.nil.trans hc2).trans hc3
  generalize hq : IntKind.u32.wrap (IntKind.i64.wrap (next.tdiv nb)) = q at *
  clear hq
  generalize hz : Int.tmod _ 65519 = z at *
  have hz0 : 0 ≤ z ∧ z < 65519 := by rw [← hz]; exact tmod_pos (wu32_range _).1 (by omega)
  clear hz
  have hd3 : DkS w3 b (.slice (some ⟨bb, off, none⟩) nb cap) (K + 1) := by
    refine ⟨next + 1, z, ?_, by omega, by omega, hz0.1, by omega⟩
    rw [w64 (by omega) (by omega)] at hb3
    exact hb3
  have hfin : ∀ y : Int, ∃ r, Value.int .i64 ((IntKind.i64.wrap (IntKind.u32.wrap y)).tmod n) = .int .i64 r ∧ 0 ≤ r ∧ (r < n ∨ r = 0) ∧ Chg [b] w w3 ∧ w3.heap.size = w.heap.size ∧ DkS w3 b (.slice (some ⟨bb, off, none⟩) nb cap) (K + 1) := by
    intro y
    have h1 := wu32_range y
    have h2 : IntKind.i64.wrap (IntKind.u32.wrap y) = IntKind.u32.wrap y := w64 (by omega) (by omega)
    rw [h2]
    have h3 := tmod_pos h1.1 (by omega : (0 : Int) < n)
    exact ⟨_, rfl, h3.1, .inl h3.2, hc03, by omega, hd3⟩
  ((iterate 2 refine y_seq ?_); refine y_region ?_; (iterate 3 refine yl_pure tabOk rfl rfl ?_))
  refine yl_split rfl rfl (fun hc => ?_) (fun hc => ?_)
  · (refine yl_guard_yes rfl ?_; refine yl_pure tabOk rfl rfl ?_; refine yl_guard_yes rfl ?_; (iterate 2 refine yl_pure tabOk rfl rfl ?_); refine yl_nil ?_)
    refine y_if rfl (fun hc => ?_) (fun hc => ?_)
    · (refine y_seq ?_; refine y_region ?_; (iterate 3 refine yl_pure tabOk rfl rfl ?_))
      refine yl_rem rfl rfl (by omega) rfl ?_
      (refine yl_pure tabOk rfl rfl ?_; refine y_ret ?_)
      exact y_fin1 rfl rfl (hfin _)
    · (refine y_skip ?_; refine y_seq ?_; refine y_region ?_; (iterate 3 refine yl_pure tabOk rfl rfl ?_); refine yl_loadB tabOk rfl rfl rfl (by assumption) (by rfl) ?_; (iterate 5 refine yl_pure tabOk rfl rfl ?_))
      refine yl_rem rfl rfl (by omega) rfl ?_
      (refine yl_pure tabOk rfl rfl ?_; refine y_ret ?_)
      exact y_fin1 rfl rfl (hfin _)
  · ((iterate 2 refine yl_guard_no rfl rfl rfl ?_); refine yl_pure tabOk rfl rfl ?_; refine y_cond_false rfl ?_; refine y_skip ?_; refine y_seq ?_; refine y_region ?_; (iterate 3 refine yl_pure tabOk rfl rfl ?_); refine yl_loadB tabOk rfl rfl rfl (by assumption) (by rfl) ?_; (iterate 5 refine yl_pure tabOk rfl rfl ?_))
    refine yl_rem rfl rfl (by omega) rfl ?_
    (refine yl_pure tabOk rfl rfl ?_; refine y_ret ?_)
    exact y_fin1 rfl rfl (hfin _)
end Go.Proofs.Ytmbifbippnncoaa
