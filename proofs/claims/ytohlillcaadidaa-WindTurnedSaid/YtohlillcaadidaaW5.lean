/- My texts X4, X5, X6, X7, X8, X9, B14, B15, H0, H1, H2, H7, H4, H5, H6, B16, B17, B18, B19, H8, X12, joined: a claim takes at most 60 files. -/
import Derived.Test.YtohlillcaadidaaW4

/- The plain laws of the wind, part 4. -/
namespace Go.Proofs.Ytohlillcaadidaa
open Go Go.Eng
theorem clickL_near (C near c : Int) (hn : -C ≤ near ∧ near ≤ C) : c ∈ clickL C near ↔ -C ≤ c ∧ c ≤ C := by
  constructor
  · intro h; exact inB_iff.1 (clickL_in C near (inB_iff.2 hn) c h)
  · intro hc
    simp only [clickL, clickP, List.mem_flatMap, List.mem_range]
    refine ⟨(c - near).natAbs, by omega, ?_⟩
    unfold farL
    split
    · simp; omega
    · refine List.mem_filter.2 ⟨?_, inB_iff.2 hc⟩
      simp
      omega
/-- The value of a situation: no choice costs less, and one costs as much. -/
theorem chV_spec (r : Rg) (p : Ru) (g h : Nat → Int → Int) (k w st : Nat) (cl : Int) (hc : -r.clicks ≤ cl ∧ cl ≤ r.clicks) :
    (∀ c, -r.clicks ≤ c ∧ c ≤ r.clicks → (chV r p g h k w st cl).2 ≤ shootV r p g k w st cl c) ∧ (0 < w → (chV r p g h k w st cl).2 ≤ waitV r p h k w st cl) ∧
    ((∃ c, (-r.clicks ≤ c ∧ c ≤ r.clicks) ∧ (chV r p g h k w st cl).2 = shootV r p g k w st cl c ∧ (chV r p g h k w st cl).1 = (false, c)) ∨ (0 < w ∧ (chV r p g h k w st cl).2 = waitV r p h k w st cl ∧ (chV r p g h k w st cl).1 = (true, 0) ∧ ∀ c, -r.clicks ≤ c ∧ c ≤ r.clicks → waitV r p h k w st cl < shootV r p g k w st cl c)) := by
  obtain ⟨h1, h2, h3, h4⟩ := chClick_spec r p g k w st cl hc
  have h5 : ∀ c, -r.clicks ≤ c ∧ c ≤ r.clicks → (chClick r p g k w st cl).2 ≤ shootV r p g k w st cl c := fun c hh => h3 c ((clickL_near _ _ _ hc).2 hh)
  unfold chV
  simp only
  by_cases hw : 0 < w
  · rw [if_pos hw]
    by_cases hlt : waitV r p h k w st cl < (chClick r p g k w st cl).2
    · rw [if_pos hlt]
      refine ⟨fun c hh => ?_, fun _ => Int.le_refl _, .inr ⟨hw, rfl, rfl, fun c hh => ?_⟩⟩
      · have := h5 c hh; simp only; omega
      · have := h5 c hh; omega
    · rw [if_neg hlt]
      exact ⟨h5, fun _ => by simp only; omega, .inl ⟨_, h2, h1, rfl⟩⟩
  · rw [if_neg hw]
    exact ⟨h5, fun h => absurd h hw, .inl ⟨_, h2, h1, rfl⟩⟩
/-- The parts of a sum. -/
theorem fol_mono (r : Rg) (hr : r.Right) {f g : Nat → Int} (st : Nat) (h : ∀ t, t < r.drifts.length → f t ≤ g t) : folS r f st ≤ folS r g st := by
  unfold folS
  exact sumR_mono _ _ _ (fun t ht => Int.mul_le_mul_of_nonneg_left (h t ht) (next_bd r hr st t).1)
theorem fol_mul (r : Rg) (c : Int) (f : Nat → Int) (st : Nat) : folS r (fun t => c * f t) st = c * folS r f st := by
  unfold folS
  rw [← sumR_mul]
  exact sumR_congr _ _ _ (fun t _ => by rw [Int.mul_left_comm])
/-- Values that hold are no greater. -/
theorem hold_le {r : Rg} (hr : r.Right) {p : Ru} (l : List Int) (hl : (plcL r p).all (holdV r p (gV r p l)) = true) : ∀ (n k w st : Nat) (cl : Int), (5 - k) * 10 + w = n → k < 5 → (w : Int) ≤ p.waits → w ≤ 9 → st < r.drifts.length → (-r.clicks ≤ cl ∧ cl ≤ r.clicks) → gV r p l k w st cl ≤ valV r p k w st cl := by
  intro n
  induction n using Nat.strongRecOn with
  | _ n ih =>
    intro k w st cl hn hk hw hw9 hs hc
    have hn1 : (5 - (k + 1)) * 10 + w < n := by clear ih; omega
    have hn2 : 0 < w → (5 - k) * 10 + (w - 1) < n := by clear ih; omega
    have h1 := List.all_eq_true.1 hl (k, w, st, cl) ((plcL_mem r p k w st cl).2 ⟨hk, hw, hs, hc⟩)
    have h2 : gV r p l k w st cl ≤ (chV r p (gV r p l (k + 1) w) (gV r p l k (w - 1)) k w st cl).2 := by simpa [holdV] using h1
    rw [valV_eq r p k w st cl hk hw hs hc]
    refine Int.le_trans h2 ?_
    obtain ⟨a1, a2, _⟩ := chV_spec r p (gV r p l (k + 1) w) (gV r p l k (w - 1)) k w st cl hc
    obtain ⟨_, _, b3⟩ := chV_spec r p (valV r p (k + 1) w) (valV r p k (w - 1)) k w st cl hc
    unfold choV
    rcases b3 with ⟨c, b4, b5, _⟩ | ⟨b4, b5, _⟩
    · rw [b5]
      refine Int.le_trans (a1 c b4) ?_
      unfold shootV
      refine Int.add_le_add_left ?_ _
      split
      · exact fol_mono r hr st (fun t ht => ih ((5 - (k + 1)) * 10 + w) hn1 (k + 1) w t c rfl (by omega) hw hw9 ht b4)
      · exact Int.le_refl _
    · rw [b5]
      refine Int.le_trans (a2 b4) ?_
      unfold waitV
      exact Int.add_le_add_left (fol_mono r hr st (fun t ht => ih ((5 - k) * 10 + (w - 1)) (hn2 b4) k (w - 1) t cl rfl hk (by omega) (by omega) ht hc)) _
/-- One range and rules do no worse than others. -/
structure SimR (r r' : Rg) (p p' : Ru) (e : Nat) : Prop where
  drifts : r'.drifts.length = r.drifts.length
  next : r'.next = r.next
  total : r'.total = r.total
  gsum : r'.group.sum = r.group.sum
  clicks : r.clicks ≤ r'.clicks
  miss : ∀ st c, st < r.drifts.length → missS r' (r'.drifts.getD st 0) c ≤ missS r (r.drifts.getD st 0) c
  pm : 0 ≤ p'.miss ∧ p'.miss ≤ p.miss
  pc : p'.click ≤ p.click
  pw : p'.wait ≤ p.wait
  waits : p.waits + e ≤ p'.waits
theorem parts_more (r : Rg) (k w e : Nat) : partsV r k (w + e) = r.total ^ e * partsV r k w := by
  unfold partsV
  rw [show 4 - k + (w + e) = 4 - k + w + e by omega, Int.pow_add]
  ac_rfl
theorem tot_nonneg {r : Rg} (hr : r.Right) (e : Nat) : 1 ≤ r.total ^ e := (tot_bd r hr e).1
theorem val_sim {r r' : Rg} {p p' : Ru} {e : Nat} (hr : r.Right) (hr' : r'.Right) (h : SimR r r' p p' e) : ∀ (n k w st : Nat) (cl : Int), (5 - k) * 10 + w = n → k < 5 → (w : Int) ≤ p.waits → w ≤ 9 → st < r.drifts.length → (-r.clicks ≤ cl ∧ cl ≤ r.clicks) →
    valV r' p' k (w + e) st cl ≤ r.total ^ e * valV r p k w st cl := by
  intro n
  induction n using Nat.strongRecOn with
  | _ n ih =>
    intro k w st cl hn hk hw hw9 hs hc
    have hn1 : (5 - (k + 1)) * 10 + w < n := by clear ih; omega
    have hn2 : 0 < w → (5 - k) * 10 + (w - 1) < n := by clear ih; omega
    have hC := h.clicks
    have hc' : -r'.clicks ≤ cl ∧ cl ≤ r'.clicks := by omega
    have hwt := h.waits
    rw [valV_eq r p k w st cl hk hw hs hc, valV_eq r' p' k (w + e) st cl hk (by omega) (by rw [h.drifts]; exact hs) hc']
    obtain ⟨a1, a2, _⟩ := chV_spec r' p' (valV r' p' (k + 1) (w + e)) (valV r' p' k (w + e - 1)) k (w + e) st cl hc'
    obtain ⟨_, _, b3⟩ := chV_spec r p (valV r p (k + 1) w) (valV r p k (w - 1)) k w st cl hc
    unfold choV
    have hT := tot_nonneg hr e
    have hpar : partsV r' k (w + e) = r.total ^ e * partsV r k w := by
      rw [← parts_more]
      unfold partsV
      rw [h.total, h.gsum]
    have hp0 : 0 ≤ partsV r k w := Int.mul_nonneg (by have := hr.gsum; omega) (by have := tot_nonneg hr (4 - k + w); omega)
    have hfol : ∀ f, folS r' f st = folS r f st := fun f => by unfold folS; rw [h.next, h.drifts]
    rcases b3 with ⟨c, b4, b5, _⟩ | ⟨b4, b5, _⟩
    · rw [b5]
      refine Int.le_trans (a1 c (by omega)) ?_
      unfold shootV
      rw [Int.mul_add, Int.mul_add, parts_div r' hr', parts_div r hr, hpar, h.total]
      refine Int.add_le_add (Int.add_le_add ?_ ?_) ?_
      · rw [Int.mul_left_comm (r.total ^ e)]
        refine Int.mul_le_mul_of_nonneg_right (Int.mul_le_mul_of_nonneg_right h.pc (by omega)) (Int.mul_nonneg (by omega) hp0)
      · rw [show 4 - k + (w + e) = 4 - k + w + e by omega, Int.pow_add, Int.mul_comm (r.total ^ (4 - k + w)), Int.mul_left_comm (r.total ^ e)]
        refine Int.mul_le_mul_of_nonneg_right ?_ (Int.mul_nonneg (by omega) (by have := tot_nonneg hr (4 - k + w); omega))
        exact Int.mul_le_mul h.pm.2 (h.miss st c hs) (missS_bd r' hr' _ _).1 (by have := h.pm; omega)
      · split
        · rw [hfol, ← fol_mul]
          exact fol_mono r hr st (fun t ht => ih ((5 - (k + 1)) * 10 + w) hn1 (k + 1) w t c rfl (by omega) hw hw9 ht b4)
        · rw [Int.mul_zero]
          exact Int.le_refl _
    · rw [b5]
      refine Int.le_trans (a2 (by omega)) ?_
      unfold waitV
      rw [Int.mul_add, hpar, hfol, ← fol_mul]
      refine Int.add_le_add ?_ (fol_mono r hr st (fun t ht => ?_))
      · rw [Int.mul_left_comm (r.total ^ e)]
        exact Int.mul_le_mul_of_nonneg_right h.pw (Int.mul_nonneg (by omega) hp0)
      · rw [show w + e - 1 = (w - 1) + e by omega]
        exact ih ((5 - k) * 10 + (w - 1)) (hn2 b4) k (w - 1) t cl rfl hk (by omega) (by omega) ht hc
end Go.Proofs.Ytohlillcaadidaa

/- The plain laws of the wind, part 5. -/
namespace Go.Proofs.Ytohlillcaadidaa
open Go Go.Eng
theorem over_frac {x y u v a d b e : Int} (hy : 0 < y) (hv : 0 < v) (hd : 0 < d) (he : 0 < e) (h1 : x * d = a * y) (h2 : u * e = b * v) : overB (x, y) (u, v) = (decide (a * e < b * d) && true) := by
  unfold overB
  have h : x * v < u * y ↔ a * e < b * d := by
    rw [← mul_lt_iff (a := x * v) (b := u * y) (Int.mul_pos hd he), ← mul_lt_iff (a := a * e) (b := b * d) (Int.mul_pos hy hv)]
    have e1 : x * v * (d * e) = x * d * (v * e) := by ac_rfl
    have e2 : u * y * (d * e) = u * e * (y * d) := by ac_rfl
    have e3 : a * y * (v * e) = a * e * (y * v) := by ac_rfl
    have e4 : b * v * (y * d) = b * d * (y * v) := by ac_rfl
    rw [e1, e2, h1, h2, e3, e4]
  rw [decide_eq_decide.2 h]
theorem over_ratio {a d b e : Int} (hd : 0 < d) (he : 0 < e) (ha : 0 ≤ a) (hb : 0 ≤ b) : overB (ratioV a d) (ratioV b e) = (decide (a * e < b * d) && true) := by
  have p1 := ratioV_pos ha hd
  have p2 := ratioV_pos hb he
  exact over_frac (x := (ratioV a d).1) (y := (ratioV a d).2) (u := (ratioV b e).1) (v := (ratioV b e).2) (by omega) (by omega) hd he (ratioV_mul hd) (ratioV_mul he)
/-! The values. -/
abbrev valsL (r : Rg) (p : Ru) : List Int := (plcL r p).map (valP r p)
theorem gV_vals {r : Rg} {p : Ru} {k w st : Nat} {cl : Int} (hm : (k, w, st, cl) ∈ plcL r p) : gV r p (valsL r p) k w st cl = valV r p k w st cl := by
  obtain ⟨pre, post, h⟩ := List.append_of_mem hm
  unfold gV
  rw [idx_at r p h, valsL, h, List.getD_eq_getElem?_getD, List.map_append, List.getElem?_append_right (by simp)]
  simp
theorem vals_hold {r : Rg} {p : Ru} : (plcL r p).all (holdV r p (gV r p (valsL r p))) = true := by
  refine List.all_eq_true.2 fun ⟨k, w, st, cl⟩ hm => ?_
  obtain ⟨h1, h2, h3, h4⟩ := (plcL_mem r p k w st cl).1 hm
  have e := valV_eq r p k w st cl h1 h2 h3 h4
  unfold holdV
  simp only [gV_vals hm]
  have h5 : (chV r p (gV r p (valsL r p) (k + 1) w) (gV r p (valsL r p) k (w - 1)) k w st cl) = chV r p (valV r p (k + 1) w) (valV r p k (w - 1)) k w st cl :=
    chV_congr r p _ _ _ _ k w st cl h4 (fun hk t c ht hcc => gV_vals ((plcL_mem r p _ _ _ _).2 ⟨by omega, h2, ht, hcc⟩)) (fun hw t ht => gV_vals ((plcL_mem r p _ _ _ _).2 ⟨h1, by omega, ht, h4⟩))
  rw [h5, e]
  simp [choV]
def costP (r : Rg) (p : Ru) : Int := sumR (fun s => r.first.getD s 0 * valV r p 0 p.waits.toNat s 0) r.drifts.length
def denP (r : Rg) (p : Ru) : Int := partsV r 0 p.waits.toNat * r.total
def planV (r : Rg) (p : Ru) : Int × Int := ratioV (costP r p) (denP r p)
theorem cost_gV {r : Rg} {p : Ru} (hr : r.Right) (hp : p.Right) : costV r p (gV r p (valsL r p)) = costP r p := by
  unfold costV costP
  have h1 := hp.waits
  have h2 := hr.clicks
  refine sumR_congr _ _ _ (fun s hs => ?_)
  rw [gV_vals ((plcL_mem r p _ _ _ _).2 ⟨by omega, by omega, hs, by omega⟩)]
theorem proof_vals {r : Rg} {p : Ru} (hr : r.Right) (hp : p.Right) : proofV r p (valsL r p) = (planV r p, 0) := by
  have hru : rulesV r p = 0 := (rules_iff r p).2 ⟨(right_check r).2 hr, hp⟩
  have hin : (valsL r p).all (fun n => inB n 0 1000000000000000) = true := by
    refine List.all_eq_true.2 fun n hn => ?_
    obtain ⟨⟨k, w, st, cl⟩, hm, rfl⟩ := List.mem_map.1 hn
    obtain ⟨h1, h2, h3, h4⟩ := (plcL_mem r p k w st cl).1 hm
    exact inB_iff.2 (val_fine r hr p hp k w st cl h2 h3 h4)
  unfold proofV
  rw [hru, cntP_eq hr hp, hin, vals_hold, cost_gV hr hp]
  simp [planV, denP]
theorem first_bd {r : Rg} (hr : r.Right) (s : Nat) : 0 ≤ r.first.getD s 0 ∧ r.first.getD s 0 ≤ r.total := getD_bd (by have := hr.total; omega) hr.chance s
theorem first_sum {r : Rg} (hr : r.Right) : sumR (fun s => r.first.getD s 0) r.drifts.length = r.total := by
  rw [sumR_getD r.first _ (by rw [hr.first]; exact Nat.le_refl _), hr.fsum]
theorem costP_bd {r : Rg} {p : Ru} (hr : r.Right) (hp : p.Right) : 0 ≤ costP r p ∧ costP r p ≤ 30000 * denP r p := by
  have h1 := hp.waits
  have h2 := hr.clicks
  have hv : ∀ s, s < r.drifts.length → 0 ≤ valV r p 0 p.waits.toNat s 0 ∧ valV r p 0 p.waits.toNat s 0 ≤ 30000 * partsV r 0 p.waits.toNat := fun s hs => by
    have := valV_bd r hr p hp 5 p.waits.toNat 0 s 0 rfl (by omega) hs (by omega)
    simpa using this
  constructor
  · have := sumR_mono (fun _ => 0) (fun s => r.first.getD s 0 * valV r p 0 p.waits.toNat s 0) r.drifts.length (fun s hs => Int.mul_nonneg (first_bd hr s).1 (hv s hs).1)
    rw [sumR_zero _ _ (fun _ _ => rfl)] at this
    exact this
  · have := sumR_mono (fun s => r.first.getD s 0 * valV r p 0 p.waits.toNat s 0) (fun s => (30000 * partsV r 0 p.waits.toNat) * r.first.getD s 0) r.drifts.length (fun s hs => by
      rw [Int.mul_comm]
      exact Int.mul_le_mul_of_nonneg_right (hv s hs).2 (first_bd hr s).1)
    rw [sumR_mul, first_sum hr, Int.mul_assoc] at this
    exact this
theorem denP_pos {r : Rg} (hr : r.Right) (p : Ru) : 1 ≤ denP r p := by
  have h1 := hr.gsum
  have h2 := tot_nonneg hr (4 - 0 + p.waits.toNat)
  have h3 := hr.total
  unfold denP partsV
  have h4 := Int.mul_pos (Int.mul_pos (show 0 < r.group.sum by omega) (show 0 < r.total ^ (4 - 0 + p.waits.toNat) by omega)) (show 0 < r.total by omega)
  omega
theorem denP_eq (r : Rg) (p : Ru) : denP r p = r.group.sum * r.total ^ (5 + p.waits.toNat) := by
  unfold denP partsV
  rw [Int.mul_assoc, ← Int.pow_succ]
  congr 2
  omega
theorem denP_low {r : Rg} {p : Ru} (h : r.Low) (hp : p.Right) : denP r p ≤ 62145792 := by
  rw [denP_eq]
  have h1 := totk h (5 + p.waits.toNat)
  have h2 : (6 : Int) ^ (5 + p.waits.toNat) ≤ 1679616 := by
    have hw := hp.waits
    have := Nat.pow_le_pow_right (show 0 < 6 by omega) (show 5 + p.waits.toNat ≤ 8 by omega)
    have e : ((6 ^ (5 + p.waits.toNat) : Nat) : Int) = (6 : Int) ^ (5 + p.waits.toNat) := by simp
    rw [← e]
    omega
  have h3 := h.right.gsum
  have h4 := h.gsum
  have := mul_bd0 (show 0 ≤ r.group.sum ∧ r.group.sum ≤ 37 by omega) (show 0 ≤ r.total ^ (5 + p.waits.toNat) ∧ r.total ^ (5 + p.waits.toNat) ≤ 1679616 by omega)
  omega
theorem planV_bd {r : Rg} {p : Ru} (h : r.Low) (hp : p.Right) : 0 ≤ (planV r p).1 ∧ (planV r p).1 ≤ 2000000000000 ∧ 1 ≤ (planV r p).2 ∧ (planV r p).2 ≤ 62145792 := by
  have h1 := costP_bd h.right hp
  have h2 := denP_pos h.right p
  have h3 := denP_low h hp
  have h4 := ratioV_pos h1.1 (d := denP r p) (by omega)
  unfold planV
  omega
/-- Plans that are no worse. -/
theorem plan_sim {r r' : Rg} {p p' : Ru} {e : Nat} (hr : r.Right) (hr' : r'.Right) (hp : p.Right) (hp' : p'.Right) (h : SimR r r' p p' e) (hf : r'.first = r.first) (hw : p'.waits = p.waits + e) : overB (planV r p) (planV r' p') = false := by
  have hwp := hp.waits
  have hC := hr.clicks
  have hd := denP_pos hr p
  have hd' := denP_pos hr' p'
  unfold planV
  rw [over_ratio (by omega) (by omega) (costP_bd hr hp).1 (costP_bd hr' hp').1]
  have hn : p'.waits.toNat = p.waits.toNat + e := by omega
  have hden : denP r' p' = r.total ^ e * denP r p := by
    rw [denP_eq, denP_eq, hn, h.gsum, h.total, ← Nat.add_assoc, Int.pow_add]
    ac_rfl
  have hcost : costP r' p' ≤ r.total ^ e * costP r p := by
    unfold costP
    rw [← sumR_mul, h.drifts, hf, hn]
    refine sumR_mono _ _ _ (fun s hs => ?_)
    rw [Int.mul_left_comm]
    exact Int.mul_le_mul_of_nonneg_left (val_sim hr hr' h _ 0 p.waits.toNat s 0 rfl (by omega) (by omega) (by omega) hs (by omega)) (first_bd hr s).1
  have : ¬ costP r p * denP r' p' < costP r' p' * denP r p := by
    rw [hden]
    have h1 : costP r' p' * denP r p ≤ r.total ^ e * costP r p * denP r p := Int.mul_le_mul_of_nonneg_right hcost (by omega)
    have e1 : costP r p * (r.total ^ e * denP r p) = r.total ^ e * costP r p * denP r p := by ac_rfl
    omega
  rw [decide_eq_false this]
  rfl
end Go.Proofs.Ytohlillcaadidaa

/- The plain laws of the wind, part 6. -/
namespace Go.Proofs.Ytohlillcaadidaa
open Go Go.Eng
/-! Values that hold prove no more. -/
theorem cost_hold {r : Rg} {p : Ru} (hr : r.Right) (hp : p.Right) (l : List Int) (hl : (plcL r p).all (holdV r p (gV r p l)) = true) : costV r p (gV r p l) ≤ costP r p := by
  have h1 := hp.waits
  have h2 := hr.clicks
  unfold costV costP
  exact sumR_mono _ _ _ (fun s hs => Int.mul_le_mul_of_nonneg_left (hold_le hr l hl _ 0 p.waits.toNat s 0 rfl (by omega) (by omega) (by omega) hs (by omega)) (first_bd hr s).1)
theorem gV_nonneg {r : Rg} {p : Ru} {l : List Int} (h : ∀ x ∈ l, 0 ≤ x) (k w st : Nat) (cl : Int) : 0 ≤ gV r p l k w st cl := by
  unfold gV
  rw [List.getD_eq_getElem?_getD]
  cases hx : l[idxP r p (k, w, st, cl)]? with
  | none => simp
  | some v => exact h v (List.mem_of_getElem? hx)
theorem proof_other {r : Rg} {p : Ru} (h : r.Low) (hp : p.Right) (l : List Int) (hlen : l.length = (plcL r p).length) (hb : ∀ x ∈ l, 0 ≤ x ∧ x ≤ 1000000000000000) :
    (proofV r p l).2 = 8 ∨ (proofV r p l).2 = 0 ∧ overB (planV r p) (proofV r p l).1 = false ∧ 0 ≤ (proofV r p l).1.1 ∧ (proofV r p l).1.1 ≤ 2000000000000 ∧ 1 ≤ (proofV r p l).1.2 ∧ (proofV r p l).1.2 ≤ 62145792 := by
  have hr := h.right
  have hru : rulesV r p = 0 := (rules_iff r p).2 ⟨(right_check r).2 hr, hp⟩
  have hin : l.all (fun n => inB n 0 1000000000000000) = true := List.all_eq_true.2 fun n hn => inB_iff.2 (hb n hn)
  unfold proofV
  rw [hru, cntP_eq hr hp, hin, hlen]
  by_cases hl : (plcL r p).all (holdV r p (gV r p l)) = true
  · refine .inr ?_
    rw [hl]
    simp only [ne_eq, not_true_eq_false, if_false, Bool.not_true, Bool.false_eq_true]
    have hc := cost_hold hr hp l hl
    have hc2 := costP_bd hr hp
    have hd := denP_pos hr p
    have hd2 := denP_low h hp
    have hc0 : 0 ≤ costV r p (gV r p l) := by
      have := sumR_mono (fun _ => 0) (fun s => r.first.getD s 0 * gV r p l 0 p.waits.toNat s 0) r.drifts.length (fun s _ => Int.mul_nonneg (first_bd hr s).1 (gV_nonneg (fun x hx => (hb x hx).1) _ _ _ _))
      rw [sumR_zero _ _ (fun _ _ => rfl)] at this
      exact this
    have h4 := ratioV_pos hc0 (d := denP r p) (by omega)
    refine ⟨trivial, ?_, h4.1, Int.le_trans h4.2.1 (by omega), h4.2.2.1, Int.le_trans h4.2.2.2 hd2⟩
    have e : overB (planV r p) (ratioV (costV r p (gV r p l)) (denP r p)) = false := by
      unfold planV
      rw [over_ratio (by omega) (by omega) hc2.1 hc0, decide_eq_false]
      · rfl
      · have := Int.mul_le_mul_of_nonneg_right hc (show 0 ≤ denP r p by omega)
        omega
    exact e
  · refine .inl ?_
    rw [Bool.not_eq_true] at hl
    rw [hl]
    simp
/-! One click for all shots. -/
/-- The misses that follow, if all shots are shot with a click; m shots are left. -/
def tailM (r : Rg) (c : Int) : Nat → Nat → Int
  | 0, _ => 0
  | m + 1, st => missS r (r.drifts.getD st 0) c * r.total ^ m + folS r (tailM r c m) st
theorem val_tail {r : Rg} {p : Ru} (hr : r.Right) (w : Nat) (hw : (w : Int) ≤ p.waits) (hp0 : 0 ≤ p.miss) (c : Int) (hcc : -r.clicks ≤ c ∧ c ≤ r.clicks) : ∀ (m st : Nat) (cl : Int), m < 5 → st < r.drifts.length → (-r.clicks ≤ cl ∧ cl ≤ r.clicks) →
    valV r p (4 - m) w st cl ≤ p.click * max (c - cl) (cl - c) * partsV r (4 - m) w + p.miss * r.total ^ w * tailM r c (m + 1) st
  | m, st, cl, hm, hs, hc => by
    rw [valV_eq r p (4 - m) w st cl (by omega) hw hs hc]
    refine Int.le_trans ((chV_spec r p (valV r p (4 - m + 1) w) (valV r p (4 - m) (w - 1)) (4 - m) w st cl hc).1 c hcc) ?_
    unfold shootV
    rw [parts_div r hr, Int.add_assoc]
    refine Int.add_le_add_left ?_ _
    have e1 : 4 - (4 - m) + w = m + w := by omega
    rw [e1, tailM, Int.mul_add, Int.pow_add]
    refine Int.add_le_add (Int.le_of_eq (by ac_rfl)) ?_
    cases m with
    | zero =>
      rw [if_neg (by omega)]
      unfold folS
      rw [sumR_zero _ _ (fun t _ => by simp [tailM]), Int.mul_zero]
      exact Int.le_refl _
    | succ m =>
      rw [if_pos (by omega), ← fol_mul]
      refine fol_mono r hr st (fun t ht => ?_)
      have := val_tail hr w hw hp0 c hcc m t c (by omega) ht hcc
      rw [show 4 - (m + 1) + 1 = 4 - m by omega]
      simpa using this
/-- Sums exchanged. -/
theorem sumR_swap (f : Nat → Nat → Int) (n : Nat) : ∀ m, sumR (fun i => sumR (fun j => f i j) m) n = sumR (fun j => sumR (fun i => f i j) n) m
  | 0 => by
    simp only [sumR]
    exact sumR_zero _ _ (fun _ _ => rfl)
  | m + 1 => by
    have : (fun i => sumR (fun j => f i j) (m + 1)) = fun i => sumR (fun j => f i j) m + f i m := funext fun i => rfl
    rw [this, sumR_add, sumR_swap f n m]
    rfl
theorem mul_sumR (c : Int) (g : Nat → Int) (n : Nat) : sumR (fun i => g i * c) n = sumR g n * c := by
  rw [Int.mul_comm, ← sumR_mul]
  exact sumR_congr _ _ _ (fun i _ => Int.mul_comm _ _)
theorem push_wts {r : Rg} (hr : r.Right) (k : Nat) (f : Nat → Int) : sumR (fun s => (wts r k).getD s 0 * folS r f s) r.drifts.length = sumR (fun t => (wts r (k + 1)).getD t 0 * f t) r.drifts.length := by
  have h1 : ∀ s, (wts r k).getD s 0 * folS r f s = sumR (fun t => (wts r k).getD s 0 * (r.next.getD s []).getD t 0 * f t) r.drifts.length := fun s => by
    unfold folS
    rw [← sumR_mul]
    exact sumR_congr _ _ _ (fun t _ => by rw [Int.mul_assoc])
  rw [sumR_congr _ _ _ (fun s _ => h1 s), sumR_swap]
  refine sumR_congr _ _ _ (fun t ht => ?_)
  rw [mul_sumR, wtsS_getD r k t (by have := hr.d2; omega), hr.next]
theorem tail_exp {r : Rg} (hr : r.Right) (c : Int) : ∀ k m, k + m = 5 → sumR (fun s => (wts r k).getD s 0 * tailM r c m s) r.drifts.length + (expP r c k).1 * r.total ^ m = (expP r c 5).1
  | k, 0, h => by
    obtain rfl : k = 5 := by omega
    rw [sumR_zero _ _ (fun s _ => by simp [tailM])]
    simp
  | k, m + 1, h => by
    rw [← tail_exp hr c (k + 1) m (by omega), expP_succ r c k (by omega), ← push_wts hr k]
    have e : ∀ s, (wts r k).getD s 0 * tailM r c (m + 1) s = ((wts r k).getD s 0 * missS r (r.drifts.getD s 0) c) * r.total ^ m + (wts r k).getD s 0 * folS r (tailM r c m) s := fun s => by
      rw [tailM, Int.mul_add, Int.mul_assoc]
    rw [sumR_congr _ _ _ (fun s _ => e s), sumR_add, mul_sumR, Int.add_mul, Int.pow_succ]
    unfold mulN
    have e2 : (expP r c k).1 * (r.total ^ m * r.total) = (expP r c k).1 * r.total * r.total ^ m := by ac_rfl
    rw [e2]
    omega
theorem cost_click {r : Rg} {p : Ru} (hr : r.Right) (hp : p.Right) (c : Int) (hcc : -r.clicks ≤ c ∧ c ≤ r.clicks) : costP r p ≤ p.click * max c (-c) * denP r p + p.miss * (expP r c 5).1 * r.total ^ p.waits.toNat := by
  have hw := hp.waits
  have hC := hr.clicks
  have h1 := sumR_mono (fun s => r.first.getD s 0 * valV r p 0 p.waits.toNat s 0) (fun s => (p.click * max c (-c) * partsV r 0 p.waits.toNat) * r.first.getD s 0 + (p.miss * r.total ^ p.waits.toNat) * (r.first.getD s 0 * tailM r c 5 s)) r.drifts.length (fun s hs => by
    have := Int.mul_le_mul_of_nonneg_left (val_tail hr p.waits.toNat (by omega) hp.miss.1 c hcc 4 s 0 (by omega) hs (by omega)) (first_bd hr s).1
    refine Int.le_trans this (Int.le_of_eq ?_)
    rw [show max (c - 0) (0 - c) = max c (-c) by omega, Int.mul_add]
    congr 1
    · ac_rfl
    · ac_rfl)
  rw [sumR_add, sumR_mul, sumR_mul, first_sum hr] at h1
  have h2 := tail_exp hr c 0 5 rfl
  rw [sumR_congr _ (fun s => r.first.getD s 0 * tailM r c 5 s) _ (fun s _ => by rw [wts0_getD hr]), show (expP r c 0).1 = 0 from rfl] at h2
  simp only [Int.zero_mul, Int.add_zero] at h2
  rw [h2] at h1
  unfold costP denP
  have e1 : p.click * max c (-c) * partsV r 0 p.waits.toNat * r.total = p.click * max c (-c) * (partsV r 0 p.waits.toNat * r.total) := by ac_rfl
  have e2 : p.miss * r.total ^ p.waits.toNat * (expP r c 5).1 = p.miss * (expP r c 5).1 * r.total ^ p.waits.toNat := by ac_rfl
  rw [e1, e2] at h1
  exact h1
/-- What it costs to shoot all with one click, as a fraction. -/
def clickV (r : Rg) (p : Ru) (c : Int) : Int × Int := (p.click * max c (-c) * (expV r c).2 + p.miss * (expV r c).1, (expV r c).2)
theorem clickV_mul {r : Rg} (h : r.Low) (p : Ru) (c : Int) : (clickV r p c).1 * (r.total ^ 5 * r.group.sum) = (p.click * max c (-c) * (r.total ^ 5 * r.group.sum) + p.miss * (expP r c 5).1) * (clickV r p c).2 := by
  have h1 := den6 h 5 (by omega)
  have h2 : (expV r c).1 * (r.total ^ 5 * r.group.sum) = (expP r c 5).1 * (expV r c).2 := ratioV_mul (by omega)
  unfold clickV
  simp only
  rw [Int.add_mul, Int.add_mul, Int.mul_assoc p.miss, h2]
  congr 1
  · ac_rfl
  · ac_rfl
theorem one_over {r : Rg} {p : Ru} (h : r.Low) (hp : p.Right) (c : Int) (hcc : -r.clicks ≤ c ∧ c ≤ r.clicks) : overB (clickV r p c) (planV r p) = false := by
  have hr := h.right
  have h1 := den6 h 5 (by omega)
  have h3 := expV_bd h c
  have h4 := planV_bd h hp
  have hd := denP_pos hr p
  have := over_frac (x := (clickV r p c).1) (y := (clickV r p c).2) (u := (planV r p).1) (v := (planV r p).2) (by unfold clickV; simp only; omega) (by omega) (show 0 < r.total ^ 5 * r.group.sum by omega) (show 0 < denP r p by omega) (clickV_mul h p c) (ratioV_mul (by omega))
  refine this.trans ?_
  rw [decide_eq_false]
  · rfl
  · have h5 := cost_click hr hp c hcc
    have h6 := Int.mul_le_mul_of_nonneg_right h5 (show 0 ≤ r.total ^ 5 * r.group.sum by omega)
    refine Int.not_lt.2 (Int.le_trans h6 (Int.le_of_eq ?_))
    rw [denP_eq, Int.pow_add, Int.add_mul, Int.add_mul]
    congr 1
    · ac_rfl
    · ac_rfl
end Go.Proofs.Ytohlillcaadidaa

/- The plain laws of the wind, part 7. -/
namespace Go.Proofs.Ytohlillcaadidaa
open Go Go.Eng
/-! The worst case. -/
theorem wP_max (r : Rg) (c lo : Int) : ∀ (k i : Nat), i < k → missS r (lo + i) c ≤ missS r (wP r c lo k) c
  | k + 1, i, h => by
    rw [wP]
    rcases Nat.lt_succ_iff_lt_or_eq.1 h with h1 | rfl
    · have := wP_max r c lo k i h1
      split <;> omega
    · split <;> omega
theorem worstO_in (r : Rg) (c : Int) (s : Int × Int) (h : s.1 ≤ s.2) : s.1 ≤ worstO r c s ∧ worstO r c s ≤ s.2 := by
  have h2 := wP_bd r c s.1 (s.2 - s.1 + 1).toNat
  unfold worstO
  omega
theorem worstO_max (r : Rg) (c : Int) (s : Int × Int) (x : Int) (h : s.1 ≤ x ∧ x ≤ s.2) : missS r x c ≤ missS r (worstO r c s) c := by
  have := wP_max r c s.1 (s.2 - s.1 + 1).toNat (x - s.1).toNat (by omega)
  rw [show s.1 + ((x - s.1).toNat : Int) = x by omega] at this
  exact this
theorem worstL_getD (r : Rg) (ws : List (Int × Int)) (c : Int) (i : Nat) (hi : i < ws.length) : (worstL r ws c).getD i 0 = worstO r c (ws.getD i (0, 0)) := by
  simp [worstL, List.getD_eq_getElem?_getD, hi]
theorem ws_mem {ws : List (Int × Int)} {i : Nat} (hi : i < ws.length) : ws.getD i (0, 0) ∈ ws := by
  rw [List.getD_eq_getElem?_getD, List.getElem?_eq_getElem hi, Option.getD_some]
  exact List.getElem_mem hi
abbrev facN (r : Rg) (l : List Int) (c : Int) : Int := facS r l c 5
/-- No case within the bounds is worse. -/
theorem worst_max (r : Rg) {ws : List (Int × Int)} (hw : WindOk ws) (c : Int) (l : List Int) (hin : ∀ i, i < 5 → (ws.getD i (0, 0)).1 ≤ l.getD i 0 ∧ l.getD i 0 ≤ (ws.getD i (0, 0)).2) : facN r l c ≤ facN r (worstL r ws c) c := by
  refine sumR_mono _ _ _ (fun i hi => ?_)
  rw [worstL_getD r ws c i (by rw [hw.len]; exact hi)]
  exact worstO_max r c _ _ (hin i hi)
theorem worst_wider (r : Rg) {ws wt : List (Int × Int)} (hw : WindOk ws) (ht : WindOk wt) (c : Int) (h : ∀ i, i < 5 → (wt.getD i (0, 0)).1 ≤ (ws.getD i (0, 0)).1 ∧ (ws.getD i (0, 0)).2 ≤ (wt.getD i (0, 0)).2) : facN r (worstL r ws c) c ≤ facN r (worstL r wt c) c := by
  refine worst_max r ht c _ (fun i hi => ?_)
  have hl : i < ws.length := by rw [hw.len]; exact hi
  rw [worstL_getD r ws c i hl]
  have h1 := worstO_in r c _ (hw.sp _ (ws_mem hl)).1
  have := h i hi
  omega
theorem facedV_5 (r : Rg) {l : List Int} (hl : l.length = 5) (c : Int) : facedV r l c = ratioV (facN r l c) r.group.sum := by
  unfold facedV
  rw [hl]
theorem facN_bd {r : Rg} (hr : r.Right) (l : List Int) (c : Int) : 0 ≤ facN r l c ∧ facN r l c ≤ 5 * r.group.sum := by
  have h1 := sumR_mono (fun _ => 0) (fun i => missS r (l.getD i 0) c) 5 (fun i _ => (missS_bd r hr _ _).1)
  have h2 := sumR_mono (fun i => missS r (l.getD i 0) c) (fun _ => r.group.sum) 5 (fun i _ => (missS_bd r hr _ _).2)
  rw [sumR_zero _ _ (fun _ _ => rfl)] at h1
  refine ⟨h1, Int.le_trans h2 ?_⟩
  simp only [sumR]
  omega
theorem facR_bd {r : Rg} (hr : r.Right) (l : List Int) (c : Int) : 0 ≤ (ratioV (facN r l c) r.group.sum).1 ∧ (ratioV (facN r l c) r.group.sum).1 ≤ 5 * (ratioV (facN r l c) r.group.sum).2 ∧ 1 ≤ (ratioV (facN r l c) r.group.sum).2 ∧ (ratioV (facN r l c) r.group.sum).2 ≤ 100 := by
  have h1 := facN_bd hr l c
  have h2 := hr.gsum
  have h3 := ratioV_pos h1.1 (d := r.group.sum) (by omega)
  exact ⟨h3.1, ratioV_le (by omega) h1.2 (by omega), h3.2.2.1, Int.le_trans h3.2.2.2 h2.2⟩
theorem fac_less {r : Rg} (hr : r.Right) (l l' : List Int) (c c' : Int) : lessB (ratioV (facN r l c) r.group.sum) (ratioV (facN r l' c') r.group.sum) = (decide (facN r l c < facN r l' c') && true) :=
  less_ratio (by have := hr.gsum; omega) (facN_bd hr l c).1 (facN_bd hr l' c').1
theorem robQ_eq (r : Rg) {ws : List (Int × Int)} (hw : WindOk ws) (c : Int) : robQ r ws c = ratioV (facN r (worstL r ws c) c) r.group.sum :=
  facedV_5 r (by rw [worstL_length, hw.len]) c
/-- The robust click. -/
theorem rob_of {r : Rg} (hr : r.Right) {ws : List (Int × Int)} (hw : WindOk ws) : ∃ m, robV r ws = (m, robQ r ws m, 0) ∧ (-r.clicks ≤ m ∧ m ≤ r.clicks) ∧ (∀ c, -r.clicks ≤ c ∧ c ≤ r.clicks → facN r (worstL r ws m) m ≤ facN r (worstL r ws c) c) ∧
    ∀ c, -r.clicks ≤ c ∧ c ≤ r.clicks → facN r (worstL r ws c) c = facN r (worstL r ws m) m → ¬ (c * c < m * m ∨ c = -m ∧ c < m) := by
  obtain ⟨m, h1, h2, h3, h4⟩ := best_law (robQ r ws) (fun c => facN r (worstL r ws c) c) r.clicks hr.clicks.1 (fun a b _ _ => by rw [robQ_eq r hw, robQ_eq r hw]; exact fac_less hr _ _ _ _)
  refine ⟨m, ?_, h2, h3, h4⟩
  have hb : blownV r ws = 0 := (blown_iff r ws).2 ⟨(right_check r).2 hr, hw⟩
  unfold robV
  rw [hb, h1]
  rfl
/-- What witnesses show: the least of them. -/
theorem shows_of {r : Rg} (hr : r.Right) {ws : List (Int × Int)} (hw : WindOk ws) (wl : List (List Int)) (hlen : (wl.length : Int) = 2 * r.clicks + 1) (h5 : ∀ l ∈ wl, l.length = 5) (hin : ∀ l ∈ wl, ∀ i, i < 5 → (ws.getD i (0, 0)).1 ≤ l.getD i 0 ∧ l.getD i 0 ≤ (ws.getD i (0, 0)).2) :
    ∃ m, showsV r ws wl = (ratioV (facN r (wl.getD (m + r.clicks).toNat []) m) r.group.sum, 0) ∧ (-r.clicks ≤ m ∧ m ≤ r.clicks) ∧ ∀ c, -r.clicks ≤ c ∧ c ≤ r.clicks → facN r (wl.getD (m + r.clicks).toNat []) m ≤ facN r (wl.getD (c + r.clicks).toNat []) c := by
  have hmem : ∀ c, -r.clicks ≤ c ∧ c ≤ r.clicks → wl.getD (c + r.clicks).toNat [] ∈ wl := fun c hc => by
    have : (c + r.clicks).toNat < wl.length := by omega
    rw [List.getD_eq_getElem?_getD, List.getElem?_eq_getElem this, Option.getD_some]
    exact List.getElem_mem this
  have hq : ∀ c, -r.clicks ≤ c ∧ c ≤ r.clicks → shQ r wl c = ratioV (facN r (wl.getD (c + r.clicks).toNat []) c) r.group.sum := fun c hc => facedV_5 r (h5 _ (hmem c hc)) c
  obtain ⟨m, h1, h2, h3, _⟩ := best_law (shQ r wl) (fun c => facN r (wl.getD (c + r.clicks).toNat []) c) r.clicks hr.clicks.1 (fun a b ha hb => by rw [hq a ha, hq b hb]; exact fac_less hr _ _ _ _)
  refine ⟨m, ?_, h2, h3⟩
  have hb : blownV r ws = 0 := (blown_iff r ws).2 ⟨(right_check r).2 hr, hw⟩
  have e1 : wl.all shB = true := List.all_eq_true.2 fun l hl => by simp [shB, h5 l hl]
  have e2 : wl.all (witB ws) = true := List.all_eq_true.2 fun l hl => witB_of fun i hi => inB_iff.2 (hin l hl i (by rw [h5 l hl] at hi; exact hi))
  unfold showsV
  rw [hb, e1, e2, h1, ← hq m h2]
  simp [hlen]
/-! What is more. -/
theorem sum_mono' {a b : List Int} (hl : a.length = b.length) (h : ∀ i, i < a.length → a.getD i 0 ≤ b.getD i 0) : a.sum ≤ b.sum := by
  refine sum_mono a b hl (fun i h1 h2 => ?_)
  have := h i h1
  simpa [List.getD_eq_getElem?_getD, h1, h2] using this
theorem miss_wide {r r' : Rg} (hr : r.Right) (hg : r'.group = r.group) (hu : r'.unit = r.unit) (hrad : r.radius ≤ r'.radius) (d c : Int) : missS r' d c ≤ missS r d c := by
  unfold missS
  refine sum_mono _ _ (by rw [missL_length, missL_length, hg]) (fun k h1 h2 => ?_)
  rw [missL_length] at h1 h2
  rw [missL_get _ _ _ _ h1, missL_get _ _ _ _ h2]
  have hw := (hr.weight _ (List.getElem_mem h2)).1
  simp only [hg, hu]
  split
  · split
    · exact Int.le_refl _
    · exact hw
  · rename_i hh
    rw [if_neg]
    · exact Int.le_refl _
    · intro hh2
      apply hh
      have := inB_iff.1 hh2
      exact inB_iff.2 (by omega)
theorem exp_mono {r r' : Rg} (hr : r.Right) (ht : r'.total = r.total) (hd : r'.drifts = r.drifts) (hf : r'.first = r.first) (hn : r'.next = r.next) (c : Int) (h : ∀ st, st < r.drifts.length → missS r' (r.drifts.getD st 0) c ≤ missS r (r.drifts.getD st 0) c) : ∀ k, k ≤ 5 → (expP r' c k).1 ≤ (expP r c k).1 ∧ wts r' k = wts r k
  | 0, _ => by
    refine ⟨Int.le_refl _, ?_⟩
    unfold wts
    rw [hf]
  | k + 1, hk => by
    obtain ⟨h1, h2⟩ := exp_mono hr ht hd hf hn c h k (by omega)
    constructor
    · rw [expP_succ r c k (by omega), expP_succ r' c k (by omega), ht, h2, hd]
      refine Int.add_le_add (Int.mul_le_mul_of_nonneg_right h1 (by have := hr.total; omega)) ?_
      unfold mulN
      exact sumR_mono _ _ _ (fun i hi => by rw [hd]; exact Int.mul_le_mul_of_nonneg_left (h i hi) (wts_getD r hr k i))
    · rw [wts, wts, h2]
      unfold afterS
      rw [hn]
      generalize r.next.length = n
      induction n with
      | zero => rfl
      | succ n ih => rw [afterP, afterP, ih, hn]
theorem expV_wide {r r' : Rg} (h : r.Low) (hr' : r'.Low) (hg : r'.group = r.group) (ht : r'.total = r.total) (hd : r'.drifts = r.drifts) (hf : r'.first = r.first) (hn : r'.next = r.next) (c : Int) (hm : ∀ st, st < r.drifts.length → missS r' (r.drifts.getD st 0) c ≤ missS r (r.drifts.getD st 0) c) : lessB (expV r c) (expV r' c) = false := by
  have h1 := den6 h 5 (by omega)
  unfold expV
  rw [ht, hg, less_ratio (by omega) (expP_bd r h.right c 5 (by omega)).1 (expP_bd r' hr'.right c 5 (by omega)).1, decide_eq_false]
  · rfl
  · have := (exp_mono h.right ht hd hf hn c hm 5 (by omega)).1
    omega
end Go.Proofs.Ytohlillcaadidaa

/- The plain laws of the wind, part 8. -/
namespace Go.Proofs.Ytohlillcaadidaa
open Go Go.Eng
/-! Left and right. -/
structure Turned (r r' : Rg) : Prop where
  n : r'.drifts.length = r.drifts.length
  next : r'.next = r.next
  first : r'.first = r.first
  total : r'.total = r.total
  gsum : r'.group.sum = r.group.sum
  clicks : r'.clicks = r.clicks
  miss : ∀ st c, st < r.drifts.length → missS r' (r'.drifts.getD st 0) (-c) = missS r (r.drifts.getD st 0) c
theorem Turned.symm {r r' : Rg} (h : Turned r r') : Turned r' r :=
  ⟨h.n.symm, h.next.symm, h.first.symm, h.total.symm, h.gsum.symm, h.clicks.symm, fun st c hs => by
    have := h.miss st (-c) (by rw [← h.n]; exact hs)
    rw [Int.neg_neg] at this
    exact this.symm⟩
def turnR (r : Rg) : Rg := { r with group := r.group.reverse, drifts := r.drifts.map (fun d => d * -1) }
theorem miss_turn {r : Rg} (ho : r.group.length % 2 = 1) (d c : Int) : missS (turnR r) (-d) (-c) = missS r d c := by
  have h : missL (turnR r) (-d) (-c) = (missL r d c).reverse := by
    refine List.ext_getElem (by simp [missL_length, turnR]) (fun i h1 h2 => ?_)
    rw [missL_length] at h1
    have h1' : i < r.group.length := by simpa [turnR] using h1
    rw [missL_get _ _ _ _ h1, List.getElem_reverse, missL_get _ _ _ _ (by rw [missL_length]; omega)]
    simp only [missL_length]
    have e1 : (turnR r).group[i]'h1 = r.group[r.group.length - 1 - i]'(by omega) := by simp [turnR]
    have e2 : hitB (turnR r) (-d + (i : Int) - ((turnR r).group.length : Int) / 2 + -c * (turnR r).unit) = hitB r (d + ((r.group.length - 1 - i : Nat) : Int) - (r.group.length : Int) / 2 + c * r.unit) := by
      have e3 : (turnR r).group.length = r.group.length := by simp [turnR]
      have e4 : (turnR r).unit = r.unit := rfl
      have e5 : (turnR r).radius = r.radius := rfl
      unfold hitB inB
      rw [e3, e4, e5, Int.neg_mul]
      generalize c * r.unit = z
      generalize r.radius = R
      rw [Bool.and_comm]
      congr 1
      · refine decide_eq_decide.2 ⟨fun _ => ?_, fun _ => ?_⟩ <;> omega
      · refine decide_eq_decide.2 ⟨fun _ => ?_, fun _ => ?_⟩ <;> omega
    rw [e1, e2]
  unfold missS
  rw [h, List.sum_reverse]
theorem turn_turned {r : Rg} (hr : r.Right) : Turned r (turnR r) where
  n := by simp [turnR]
  next := rfl
  first := rfl
  total := rfl
  gsum := by simp [turnR]
  clicks := rfl
  miss := fun st c hs => by
    rw [← miss_turn hr.odd]
    congr 1
    simp [turnR, List.getD_eq_getElem?_getD, hs]
theorem turn_right {r : Rg} (hr : r.Right) : (turnR r).Right := by
  obtain ⟨g1, g2, odd, d1, d2, first, next, rows, radius, unit, clicks, total, drift, weight, chance, chances, gsum, fsum, nsum⟩ := hr
  constructor <;> simp only [turnR, List.length_reverse, List.length_map, List.sum_reverse] <;> try assumption
  · intro x hx
    obtain ⟨y, hy, rfl⟩ := List.mem_map.1 hx
    have := drift y hy
    omega
  · intro x hx
    exact weight x (List.mem_reverse.1 hx)
theorem wts_same {r r' : Rg} (hf : r'.first = r.first) (hn : r'.next = r.next) : ∀ k, wts r' k = wts r k
  | 0 => by unfold wts; rw [hf]
  | k + 1 => by
    rw [wts, wts, wts_same hf hn k]
    unfold afterS
    rw [hn]
    generalize r.next.length = n
    induction n with
    | zero => rfl
    | succ n ih => rw [afterP, afterP, ih, hn]
theorem exp_turn {r r' : Rg} (h : Turned r r') (c : Int) : ∀ k, k ≤ 5 → (expP r' (-c) k).1 = (expP r c k).1
  | 0, _ => rfl
  | k + 1, hk => by
    have e : mulN r' (-c) (wts r k) r.drifts.length = mulN r c (wts r k) r.drifts.length := sumR_congr _ _ _ (fun i hi => by rw [h.miss i c hi])
    rw [expP_succ r c k (by omega), expP_succ r' _ k (by omega), exp_turn h c k (by omega), h.total, wts_same h.first h.next, h.n, e]
theorem expV_turn {r r' : Rg} (h : Turned r r') (c : Int) : expV r' (-c) = expV r c := by
  unfold expV
  rw [exp_turn h c 5 (by omega), h.total, h.gsum]
theorem shoot_turn {r r' : Rg} (h : Turned r r') (p : Ru) (g g' : Nat → Int → Int) (k w st : Nat) (cl c : Int) (hs : st < r.drifts.length) (hg : k < 4 → ∀ t, t < r.drifts.length → g' t (-c) = g t c) : shootV r' p g' k w st (-cl) (-c) = shootV r p g k w st cl c := by
  have hpar : partsV r' k w = partsV r k w := by unfold partsV; rw [h.gsum, h.total]
  unfold shootV
  rw [hpar, h.miss st c hs, h.gsum, show max (-c - -cl) (-cl - -c) = max (c - cl) (cl - c) by omega]
  split
  · rename_i hk
    unfold folS
    rw [h.next, h.n]
    congr 1
    exact sumR_congr _ _ _ (fun t ht => by simp only; rw [hg hk t ht])
  · rfl
theorem wait_turn {r r' : Rg} (h : Turned r r') (p : Ru) (g g' : Nat → Int → Int) (k w st : Nat) (cl : Int) (hg : ∀ t, t < r.drifts.length → g' t (-cl) = g t cl) : waitV r' p g' k w st (-cl) = waitV r p g k w st cl := by
  have hpar : partsV r' k w = partsV r k w := by unfold partsV; rw [h.gsum, h.total]
  unfold waitV
  rw [hpar]
  congr 1
  unfold folS
  rw [h.next, h.n]
  exact sumR_congr _ _ _ (fun t ht => by simp only; rw [hg t ht])
theorem val_turn {r r' : Rg} (h : Turned r r') (p : Ru) : ∀ (n k w st : Nat) (cl : Int), (5 - k) * 10 + w = n → k < 5 → (w : Int) ≤ p.waits → w ≤ 9 → st < r.drifts.length → (-r.clicks ≤ cl ∧ cl ≤ r.clicks) → valV r' p k w st (-cl) = valV r p k w st cl := by
  intro n
  induction n using Nat.strongRecOn with
  | _ n ih =>
    intro k w st cl hn hk hw hw9 hs hc
    have hn1 : (5 - (k + 1)) * 10 + w < n := by clear ih; omega
    have hn2 : 0 < w → (5 - k) * 10 + (w - 1) < n := by clear ih; omega
    have hcl := h.clicks
    have hc' : -r'.clicks ≤ -cl ∧ -cl ≤ r'.clicks := by omega
    rw [valV_eq r p k w st cl hk hw hs hc, valV_eq r' p k w st (-cl) hk hw (by rw [h.n]; exact hs) hc']
    unfold choV
    obtain ⟨a1, a2, a3⟩ := chV_spec r' p (valV r' p (k + 1) w) (valV r' p k (w - 1)) k w st (-cl) hc'
    obtain ⟨b1, b2, b3⟩ := chV_spec r p (valV r p (k + 1) w) (valV r p k (w - 1)) k w st cl hc
    have es : ∀ c, -r.clicks ≤ c ∧ c ≤ r.clicks → shootV r' p (valV r' p (k + 1) w) k w st (-cl) (-c) = shootV r p (valV r p (k + 1) w) k w st cl c := fun c hcc =>
      shoot_turn h p _ _ k w st cl c hs (fun hk4 t ht => ih _ hn1 (k + 1) w t c rfl (by omega) hw hw9 ht hcc)
    have ew : 0 < w → waitV r' p (valV r' p k (w - 1)) k w st (-cl) = waitV r p (valV r p k (w - 1)) k w st cl := fun hw0 =>
      wait_turn h p _ _ k w st cl (fun t ht => ih _ (hn2 hw0) k (w - 1) t cl rfl hk (by omega) (by omega) ht hc)
    apply Int.le_antisymm
    · rcases b3 with ⟨c, b4, b5, _⟩ | ⟨b4, b5, _⟩
      · rw [b5, ← es c b4]
        exact a1 (-c) (by omega)
      · rw [b5, ← ew b4]
        exact a2 b4
    · rcases a3 with ⟨c, a4, a5, _⟩ | ⟨a4, a5, _⟩
      · rw [a5]
        have := es (-c) (by omega)
        rw [Int.neg_neg] at this
        rw [this]
        exact b1 (-c) (by omega)
      · rw [a5, ew a4]
        exact b2 a4
theorem plan_turn {r r' : Rg} (hr : r.Right) {p : Ru} (hp : p.Right) (h : Turned r r') : planV r' p = planV r p := by
  have hw := hp.waits
  have hC := hr.clicks
  have hden : denP r' p = denP r p := by unfold denP partsV; rw [h.gsum, h.total]
  have hc : costP r' p = costP r p := by
    unfold costP
    rw [h.first, h.n]
    refine sumR_congr _ _ _ (fun s hs => ?_)
    have := val_turn h p _ 0 p.waits.toNat s 0 rfl (by omega) (by omega) (by omega) hs (by omega)
    rw [show (-0 : Int) = 0 from rfl] at this
    rw [this]
  unfold planV
  rw [hden, hc]
/-! Turned winds. -/
def turnW (ws : List (Int × Int)) : List (Int × Int) := ws.map fun s => (-s.2, -s.1)
theorem turnW_ok {ws : List (Int × Int)} (h : WindOk ws) : WindOk (turnW ws) :=
  ⟨by rw [turnW, List.length_map]; exact h.len, fun s hs => by
    obtain ⟨t, ht, rfl⟩ := List.mem_map.1 hs
    have := h.sp t ht
    simp only
    omega⟩
theorem turnW_getD (ws : List (Int × Int)) (i : Nat) : (turnW ws).getD i (0, 0) = (-(ws.getD i (0, 0)).2, -(ws.getD i (0, 0)).1) := by
  simp only [turnW, List.getD_eq_getElem?_getD, List.getElem?_map]
  cases ws[i]? <;> rfl
theorem fac_turn {r r' : Rg} (hm : ∀ d c, missS r' (-d) (-c) = missS r d c) {ws : List (Int × Int)} (h : WindOk ws) (c : Int) : facN r' (worstL r' (turnW ws) (-c)) (-c) = facN r (worstL r ws c) c := by
  refine sumR_congr _ _ _ (fun i hi => ?_)
  have hl : i < ws.length := by rw [h.len]; exact hi
  rw [worstL_getD r ws c i hl, worstL_getD r' _ _ i (by rw [(turnW_ok h).len]; exact hi), turnW_getD]
  generalize hs : ws.getD i (0, 0) = s
  have hsp : s.1 ≤ s.2 := by rw [← hs]; exact (h.sp _ (ws_mem hl)).1
  have h1 := worstO_in r c s hsp
  have h2 := worstO_in r' (-c) (-s.2, -s.1) (by simp only; omega)
  simp only at h2
  apply Int.le_antisymm
  · have := worstO_max r c s (-(worstO r' (-c) (-s.2, -s.1))) (by omega)
    rw [← hm, Int.neg_neg] at this
    exact this
  · have := worstO_max r' (-c) (-s.2, -s.1) (-(worstO r c s)) (by simp only; omega)
    rw [hm] at this
    exact this
theorem rob_turn {r r' : Rg} (hr : r.Right) (hr' : r'.Right) (hcl : r'.clicks = r.clicks) (hg : r'.group.sum = r.group.sum) (hm : ∀ d c, missS r' (-d) (-c) = missS r d c) {ws : List (Int × Int)} (h : WindOk ws) : (robV r' (turnW ws)).2.1 = (robV r ws).2.1 := by
  obtain ⟨m, h1, h2, h3, _⟩ := rob_of hr h
  obtain ⟨m', h1', h2', h3', _⟩ := rob_of hr' (turnW_ok h)
  rw [h1, h1']
  simp only
  rw [robQ_eq r h, robQ_eq r' (turnW_ok h), hg]
  congr 1
  apply Int.le_antisymm
  · rw [← fac_turn hm h m]
    exact h3' (-m) (by omega)
  · have := fac_turn hm h (-m')
    rw [Int.neg_neg] at this
    rw [this]
    exact h3 (-m') (by omega)
/-! States numbered otherwise. -/
structure Named (r r' : Rg) (σ : Nat → Nat) : Prop where
  n : r'.drifts.length = r.drifts.length
  nn : r'.next.length = r.next.length
  total : r'.total = r.total
  gsum : r'.group = r.group
  clicks : r'.clicks = r.clicks
  radius : r'.radius = r.radius
  unit : r'.unit = r.unit
  perm : ((List.range r.drifts.length).map σ).Perm (List.range r.drifts.length)
  drift : ∀ s, s < r.drifts.length → r'.drifts.getD (σ s) 0 = r.drifts.getD s 0
  first : ∀ s, s < r.drifts.length → r'.first.getD (σ s) 0 = r.first.getD s 0
  next : ∀ s t, s < r.drifts.length → t < r.drifts.length → (r'.next.getD (σ s) []).getD (σ t) 0 = (r.next.getD s []).getD t 0
theorem sumR_perm {σ : Nat → Nat} {n : Nat} (h : ((List.range n).map σ).Perm (List.range n)) (f : Nat → Int) : sumR f n = sumR (fun i => f (σ i)) n := by
  rw [← sumR_eq, ← sumR_eq]
  have key : ∀ {a b : List Int}, a.Perm b → a.sum = b.sum := fun hp => by
    induction hp with
    | nil => rfl
    | cons x _ ih => simp [ih]
    | swap x y l => simp; omega
    | trans _ _ ih1 ih2 => exact ih1.trans ih2
  have := key (h.map f)
  rw [List.map_map] at this
  exact this.symm
theorem Named.lt {r r' : Rg} {σ : Nat → Nat} (h : Named r r' σ) {s : Nat} (hs : s < r.drifts.length) : σ s < r.drifts.length :=
  List.mem_range.1 (h.perm.mem_iff.1 (List.mem_map.2 ⟨s, List.mem_range.2 hs, rfl⟩))
theorem miss_same {r r' : Rg} (hg : r'.group = r.group) (hu : r'.unit = r.unit) (hR : r'.radius = r.radius) (d c : Int) : missS r' d c = missS r d c := by
  unfold missS missL hitB
  rw [hg, hu, hR]
theorem fol_named {r r' : Rg} {σ : Nat → Nat} (h : Named r r' σ) (f f' : Nat → Int) (st : Nat) (hs : st < r.drifts.length) (hf : ∀ t, t < r.drifts.length → f' (σ t) = f t) : folS r' f' (σ st) = folS r f st := by
  unfold folS
  rw [h.n, sumR_perm h.perm]
  exact sumR_congr _ _ _ (fun t ht => by rw [h.next st t hs ht, hf t ht])
theorem wts_named {r r' : Rg} (hr : r.Right) (hr' : r'.Right) {σ : Nat → Nat} (h : Named r r' σ) : ∀ k s, s < r.drifts.length → (wts r' k).getD (σ s) 0 = (wts r k).getD s 0
  | 0, s, hs => by rw [wts0_getD hr', wts0_getD hr, h.first s hs]
  | k + 1, s, hs => by
    have h5 := hr.d2
    have hl := h.lt hs
    rw [wtsS_getD r k s (by omega), wtsS_getD r' k (σ s) (by omega), hr.next, hr'.next, h.n, sumR_perm h.perm]
    exact sumR_congr _ _ _ (fun t ht => by rw [wts_named hr hr' h k t ht, h.next t s ht hs])
theorem exp_named {r r' : Rg} (hr : r.Right) (hr' : r'.Right) {σ : Nat → Nat} (h : Named r r' σ) (c : Int) : ∀ k, k ≤ 5 → (expP r' c k).1 = (expP r c k).1
  | 0, _ => rfl
  | k + 1, hk => by
    have e : mulN r' c (wts r' k) r.drifts.length = mulN r c (wts r k) r.drifts.length := by
      unfold mulN
      rw [sumR_perm h.perm]
      exact sumR_congr _ _ _ (fun i hi => by rw [wts_named hr hr' h k i hi, h.drift i hi, miss_same h.gsum h.unit h.radius])
    rw [expP_succ r c k (by omega), expP_succ r' c k (by omega), exp_named hr hr' h c k (by omega), h.total, h.n, e]
theorem expV_named {r r' : Rg} (hr : r.Right) (hr' : r'.Right) {σ : Nat → Nat} (h : Named r r' σ) (c : Int) : expV r' c = expV r c := by
  unfold expV
  rw [exp_named hr hr' h c 5 (by omega), h.total, h.gsum]
theorem val_named {r r' : Rg} {σ : Nat → Nat} (h : Named r r' σ) (p : Ru) : ∀ (n k w st : Nat) (cl : Int), (5 - k) * 10 + w = n → k < 5 → (w : Int) ≤ p.waits → w ≤ 9 → st < r.drifts.length → (-r.clicks ≤ cl ∧ cl ≤ r.clicks) → valV r' p k w (σ st) cl = valV r p k w st cl := by
  intro n
  induction n using Nat.strongRecOn with
  | _ n ih =>
    intro k w st cl hn hk hw hw9 hs hc
    have hn1 : (5 - (k + 1)) * 10 + w < n := by clear ih; omega
    have hn2 : 0 < w → (5 - k) * 10 + (w - 1) < n := by clear ih; omega
    have hc' : -r'.clicks ≤ cl ∧ cl ≤ r'.clicks := by rw [h.clicks]; exact hc
    rw [valV_eq r p k w st cl hk hw hs hc, valV_eq r' p k w (σ st) cl hk hw (by rw [h.n]; exact h.lt hs) hc']
    unfold choV
    obtain ⟨a1, a2, a3⟩ := chV_spec r' p (valV r' p (k + 1) w) (valV r' p k (w - 1)) k w (σ st) cl hc'
    obtain ⟨b1, b2, b3⟩ := chV_spec r p (valV r p (k + 1) w) (valV r p k (w - 1)) k w st cl hc
    have hpar : partsV r' k w = partsV r k w := by unfold partsV; rw [h.gsum, h.total]
    have es : ∀ c, -r.clicks ≤ c ∧ c ≤ r.clicks → shootV r' p (valV r' p (k + 1) w) k w (σ st) cl c = shootV r p (valV r p (k + 1) w) k w st cl c := fun c hcc => by
      unfold shootV
      rw [hpar, h.drift st hs, miss_same h.gsum h.unit h.radius, h.gsum]
      split
      · rw [fol_named h (fun t => valV r p (k + 1) w t c) (fun t => valV r' p (k + 1) w t c) st hs (fun t ht => ih _ hn1 (k + 1) w t c rfl (by omega) hw hw9 ht hcc)]
      · rfl
    have ew : 0 < w → waitV r' p (valV r' p k (w - 1)) k w (σ st) cl = waitV r p (valV r p k (w - 1)) k w st cl := fun hw0 => by
      unfold waitV
      rw [hpar, fol_named h (fun t => valV r p k (w - 1) t cl) (fun t => valV r' p k (w - 1) t cl) st hs (fun t ht => ih _ (hn2 hw0) k (w - 1) t cl rfl hk (by omega) (by omega) ht hc)]
    apply Int.le_antisymm
    · rcases b3 with ⟨c, b4, b5, _⟩ | ⟨b4, b5, _⟩
      · rw [b5, ← es c b4]
        exact a1 c (by rw [h.clicks]; exact b4)
      · rw [b5, ← ew b4]
        exact a2 b4
    · rcases a3 with ⟨c, a4, a5, _⟩ | ⟨a4, a5, _⟩
      · rw [h.clicks] at a4
        rw [a5, es c a4]
        exact b1 c a4
      · rw [a5, ew a4]
        exact b2 a4
theorem plan_named {r r' : Rg} (hr : r.Right) {p : Ru} (hp : p.Right) {σ : Nat → Nat} (h : Named r r' σ) : planV r' p = planV r p := by
  have hw := hp.waits
  have hC := hr.clicks
  have hden : denP r' p = denP r p := by unfold denP partsV; rw [h.gsum, h.total]
  have hc : costP r' p = costP r p := by
    unfold costP
    rw [h.n, sumR_perm h.perm]
    refine sumR_congr _ _ _ (fun s hs => ?_)
    rw [val_named h p _ 0 p.waits.toNat s 0 rfl (by omega) (by omega) (by omega) hs (by omega), h.first s hs]
  unfold planV
  rw [hden, hc]
end Go.Proofs.Ytohlillcaadidaa

/- The plain laws of the wind, part 9. -/
namespace Go.Proofs.Ytohlillcaadidaa
open Go Go.Eng
/-! A wind that never changes. -/
structure OneSt (r : Rg) : Prop where
  right : r.Right
  one : r.drifts.length = 1
abbrev mis0 (r : Rg) (c : Int) : Int := missS r (r.drifts.getD 0 0) c
theorem one_first {r : Rg} (h : OneSt r) : r.first.getD 0 0 = r.total := by
  have h1 := first_sum h.right
  rw [h.one] at h1
  simpa [sumR] using h1
theorem one_next {r : Rg} (h : OneSt r) : (r.next.getD 0 []).getD 0 0 = r.total := by
  have hl : 0 < r.next.length := by rw [h.right.next, h.one]; omega
  have hm : r.next[0] ∈ r.next := List.getElem_mem hl
  have h1 := h.right.rows _ hm
  have h2 := h.right.nsum _ hm
  have e : r.next.getD 0 [] = r.next[0] := by simp [List.getD_eq_getElem?_getD, hl]
  rw [e]
  rw [h.one] at h1
  obtain ⟨x, hx⟩ := List.length_eq_one_iff.1 h1
  rw [hx] at h2 ⊢
  simpa using h2
theorem one_fol {r : Rg} (h : OneSt r) (f : Nat → Int) : folS r f 0 = r.total * f 0 := by
  unfold folS
  rw [h.one]
  simp only [sumR, Int.zero_add]
  rw [one_next h]
theorem one_wts {r : Rg} (h : OneSt r) (k : Nat) : (wts r k).getD 0 0 = r.total ^ (k + 1) := by
  have := wts_one h.right k
  rw [h.one] at this
  simpa [sumR] using this
theorem one_exp {r : Rg} (h : OneSt r) (c : Int) : ∀ k : Nat, k ≤ 5 → (expP r c k).1 = k * mis0 r c * r.total ^ k
  | 0, _ => by simp [expP]
  | k + 1, hk => by
    have e : mulN r c (wts r k) r.drifts.length = r.total ^ (k + 1) * mis0 r c := by
      unfold mulN
      rw [h.one]
      simp only [sumR, Int.zero_add]
      rw [one_wts h k]
    rw [expP_succ r c k (by omega), one_exp h c k (by omega), e]
    simp only
    rw [Int.natCast_add, Int.add_mul, Int.add_mul, Int.mul_assoc ((k : Int) * mis0 r c), ← Int.pow_succ]
    congr 1
    rw [Int.mul_comm]
    simp
theorem one_expV {r : Rg} (h : OneSt r) (c : Int) : expV r c = ratioV (5 * mis0 r c) r.group.sum := by
  have ht := tot_nonneg h.right 5
  unfold expV
  rw [one_exp h c 5 (by omega), Int.mul_comm (r.total ^ 5)]
  exact ratioV_scale _ _ _ (by omega)
theorem one_hit {r : Rg} (h : OneSt r) (c : Int) : (expV r c).1 * (hitX r 0 c).2 = 5 * ((hitX r 0 c).2 - (hitX r 0 c).1) * (expV r c).2 := by
  have hg := h.right.gsum
  have h1 : (expV r c).1 * r.group.sum = 5 * mis0 r c * (expV r c).2 := by
    rw [one_expV h]
    exact ratioV_mul (by omega)
  have h2 : (hitX r 0 c).1 * r.group.sum = (r.group.sum - mis0 r c) * (hitX r 0 c).2 := ratioV_mul (by omega)
  have h3 : ((hitX r 0 c).2 - (hitX r 0 c).1) * r.group.sum = mis0 r c * (hitX r 0 c).2 := by
    rw [Int.sub_mul, h2, Int.sub_mul, Int.mul_comm r.group.sum]
    omega
  apply Int.eq_of_mul_eq_mul_right (show r.group.sum ≠ 0 by omega)
  have e1 : (expV r c).1 * (hitX r 0 c).2 * r.group.sum = (expV r c).1 * r.group.sum * (hitX r 0 c).2 := by ac_rfl
  have e2 : 5 * ((hitX r 0 c).2 - (hitX r 0 c).1) * (expV r c).2 * r.group.sum = 5 * (((hitX r 0 c).2 - (hitX r 0 c).1) * r.group.sum) * (expV r c).2 := by ac_rfl
  rw [e1, e2, h1, h3]
  ac_rfl
/-- The winds of that drift. -/
abbrev calmW (r : Rg) : List (Int × Int) := List.replicate 5 (r.drifts.getD 0 0, r.drifts.getD 0 0)
theorem one_drift {r : Rg} (h : OneSt r) : -300 ≤ r.drifts.getD 0 0 ∧ r.drifts.getD 0 0 ≤ 300 := by
  have hl : 0 < r.drifts.length := by rw [h.one]; omega
  rw [List.getD_eq_getElem?_getD, List.getElem?_eq_getElem hl, Option.getD_some]
  exact h.right.drift _ (List.getElem_mem hl)
theorem calm_ok {r : Rg} (h : OneSt r) : WindOk (calmW r) := ⟨by simp, fun s hs => by
  obtain ⟨_, rfl⟩ := List.mem_replicate.1 hs
  have := one_drift h
  simp only
  omega⟩
theorem calm_fac {r : Rg} (h : OneSt r) (c : Int) : facN r (worstL r (calmW r) c) c = 5 * mis0 r c := by
  have e : ∀ i, i < 5 → (worstL r (calmW r) c).getD i 0 = r.drifts.getD 0 0 := fun i hi => by
    rw [worstL_getD r _ c i (by simp; exact hi)]
    have e2 : (calmW r).getD i (0, 0) = (r.drifts.getD 0 0, r.drifts.getD 0 0) := by
      rw [List.getD_eq_getElem?_getD, List.getElem?_eq_getElem (by simp; exact hi)]
      simp
    rw [e2]
    have := worstO_in r c (r.drifts.getD 0 0, r.drifts.getD 0 0) (Int.le_refl _)
    simp only at this
    omega
  unfold facN facS
  rw [sumR_congr _ (fun _ => mis0 r c) 5 (fun i hi => by rw [e i hi])]
  simp only [sumR]
  omega
theorem calm_rob {r : Rg} (h : OneSt r) : robQ r (calmW r) = expV r := by
  funext c
  rw [robQ_eq r (calm_ok h), calm_fac h, one_expV h]
/-- Nobody waits. -/
theorem calm_val {r : Rg} {p : Ru} (h : OneSt r) (hp : p.Right) : ∀ (n k w : Nat) (cl : Int), (5 - k) * 10 + w = n → k < 5 → (w : Int) ≤ p.waits → w ≤ 9 → (-r.clicks ≤ cl ∧ cl ≤ r.clicks) →
    valV r p k w 0 cl = r.total ^ w * valV r p k 0 0 cl ∧ (choV r p k w 0 cl).1.1 = false := by
  intro n
  induction n using Nat.strongRecOn with
  | _ n ih =>
    intro k w cl hn hk hw hw9 hc
    have hn1 : (5 - (k + 1)) * 10 + w < n := by clear ih; omega
    have hn2 : 0 < w → (5 - k) * 10 + (w - 1) < n := by clear ih; omega
    have hr := h.right
    have hs : 0 < r.drifts.length := by rw [h.one]; omega
    have hpw := hp.waits
    have e0 := valV_eq r p k 0 0 cl hk (by omega) hs hc
    have ew := valV_eq r p k w 0 cl hk hw hs hc
    have hT := tot_nonneg hr w
    have hpar : partsV r k w = r.total ^ w * partsV r k 0 := by have := parts_more r k 0 w; rwa [Nat.zero_add] at this
    have hsh : ∀ c, -r.clicks ≤ c ∧ c ≤ r.clicks → shootV r p (valV r p (k + 1) w) k w 0 cl c = r.total ^ w * shootV r p (valV r p (k + 1) 0) k 0 0 cl c := fun c hcc => by
      unfold shootV
      rw [Int.mul_add, Int.mul_add, parts_div r hr, parts_div r hr, hpar]
      congr 1
      · congr 1
        · ac_rfl
        · rw [Nat.add_zero, Int.pow_add]
          ac_rfl
      · split
        · rw [one_fol h, one_fol h, (ih _ hn1 (k + 1) w c rfl (by omega) hw hw9 hcc).1]
          ac_rfl
        · rw [Int.mul_zero]
    obtain ⟨a1, a2, a3⟩ := chV_spec r p (valV r p (k + 1) w) (valV r p k (w - 1)) k w 0 cl hc
    obtain ⟨b1, _, b3⟩ := chV_spec r p (valV r p (k + 1) 0) (valV r p k (0 - 1)) k 0 0 cl hc
    obtain ⟨c0, b4, b5, _⟩ := b3.resolve_right (by omega)
    have hv0 : valV r p k 0 0 cl = shootV r p (valV r p (k + 1) 0) k 0 0 cl c0 := e0.trans b5
    rcases a3 with ⟨c, a4, a5, a6⟩ | ⟨a4, a5, _, a6⟩
    · refine ⟨?_, ?_⟩
      · have e1 : valV r p k w 0 cl = shootV r p (valV r p (k + 1) w) k w 0 cl c := ew.trans a5
        apply Int.le_antisymm
        · rw [hv0, ← hsh c0 b4, ew]
          exact a1 c0 b4
        · rw [e1, hsh c a4, e0]
          exact Int.mul_le_mul_of_nonneg_left (b1 c a4) (by omega)
      · unfold choV
        rw [a6]
    · exfalso
      have h1 := a6 c0 b4
      rw [hsh c0 b4, ← hv0] at h1
      unfold waitV at h1
      rw [one_fol h, (ih _ (hn2 a4) k (w - 1) cl rfl hk (by omega) (by omega) hc).1] at h1
      have e1 : r.total * (r.total ^ (w - 1) * valV r p k 0 0 cl) = r.total ^ w * valV r p k 0 0 cl := by
        rw [← Int.mul_assoc, Int.mul_comm r.total, ← Int.pow_succ]
        congr 2
        omega
      have hp0 : 0 ≤ partsV r k w := Int.mul_nonneg (by have := hr.gsum; omega) (by have := tot_nonneg hr (4 - k + w); omega)
      have := Int.mul_nonneg hp.wait.1 hp0
      omega
theorem calm_tail {r : Rg} (h : OneSt r) (c : Int) : ∀ m : Nat, tailM r c (m + 1) 0 = (m + 1) * mis0 r c * r.total ^ m
  | 0 => by
    rw [tailM, one_fol h, show tailM r c 0 0 = 0 from rfl, Int.mul_zero, Int.add_zero]
    show mis0 r c * r.total ^ 0 = _
    rw [show ((0 : Nat) : Int) + 1 = 1 from rfl, Int.one_mul]
  | m + 1 => by
    rw [tailM, one_fol h, calm_tail h c m]
    show mis0 r c * r.total ^ (m + 1) + _ = _
    have e : r.total * (((m : Int) + 1) * mis0 r c * r.total ^ m) = ((m : Int) + 1) * mis0 r c * r.total ^ (m + 1) := by
      rw [Int.pow_succ]
      ac_rfl
    rw [e, ← Int.add_mul]
    congr 1
    rw [show ((m + 1 : Nat) : Int) + 1 = (m : Int) + 1 + 1 by omega, Int.add_mul ((m : Int) + 1) 1]
    omega
/-- One click for all shots is as good as any way. -/
theorem calm_one {r : Rg} {p : Ru} (h : OneSt r) (hp : p.Right) : ∀ (m : Nat) (cl : Int), m < 5 → (-r.clicks ≤ cl ∧ cl ≤ r.clicks) → ∃ c, (-r.clicks ≤ c ∧ c ≤ r.clicks) ∧ valV r p (4 - m) 0 0 cl = r.total ^ m * (p.click * max (c - cl) (cl - c) * r.group.sum + (m + 1) * (p.miss * mis0 r c)) := by
  have hr := h.right
  have hs : 0 < r.drifts.length := by rw [h.one]; omega
  have hpw := hp.waits
  have hup : ∀ (m : Nat) (cl c : Int), m < 5 → (-r.clicks ≤ cl ∧ cl ≤ r.clicks) → (-r.clicks ≤ c ∧ c ≤ r.clicks) → valV r p (4 - m) 0 0 cl ≤ r.total ^ m * (p.click * max (c - cl) (cl - c) * r.group.sum + (m + 1) * (p.miss * mis0 r c)) := fun m cl c hm hc hcc => by
    refine Int.le_trans (val_tail hr 0 (by omega) hp.miss.1 c hcc m 0 cl hm hs hc) (Int.le_of_eq ?_)
    rw [calm_tail h]
    unfold partsV
    rw [show 4 - (4 - m) + 0 = m by omega, Int.mul_add, Int.pow_zero, Int.mul_one]
    congr 1
    · ac_rfl
    · ac_rfl
  intro m
  induction m with
  | zero =>
    intro cl _ hc
    obtain ⟨_, _, b3⟩ := chV_spec r p (valV r p (4 + 1) 0) (valV r p 4 (0 - 1)) 4 0 0 cl hc
    obtain ⟨c0, b4, b5, _⟩ := b3.resolve_right (by omega)
    refine ⟨c0, b4, ?_⟩
    have e0 := valV_eq r p 4 0 0 cl (by omega) (by omega) hs hc
    rw [show 4 - 0 = 4 from rfl, e0]
    unfold choV
    rw [b5]
    unfold shootV
    rw [parts_div r hr, if_neg (by omega)]
    unfold partsV
    rw [show 4 - 4 + 0 = 0 from rfl, Int.pow_zero]
    simp only [Int.mul_one, Int.one_mul, Int.add_zero]
    rw [show ((0 : Nat) : Int) + 1 = 1 from rfl, Int.one_mul]
  | succ m ih =>
    intro cl hm hc
    have hk : 4 - (m + 1) < 4 := by omega
    have q1 : 4 - (m + 1) + 1 = 4 - m := by omega
    have q2 : 4 - (4 - (m + 1)) + 0 = m + 1 := by omega
    obtain ⟨_, _, b3⟩ := chV_spec r p (valV r p (4 - (m + 1) + 1) 0) (valV r p (4 - (m + 1)) (0 - 1)) (4 - (m + 1)) 0 0 cl hc
    obtain ⟨c1, b4, b5, _⟩ := b3.resolve_right (by omega)
    obtain ⟨c2, d4, d5⟩ := ih c1 (by omega) b4
    have e0 := valV_eq r p (4 - (m + 1)) 0 0 cl (by omega) (by omega) hs hc
    have e1 : valV r p (4 - (m + 1)) 0 0 cl = r.total ^ (m + 1) * (p.click * max (c1 - cl) (cl - c1) * r.group.sum + p.miss * mis0 r c1 + (p.click * max (c2 - c1) (c1 - c2) * r.group.sum + (m + 1) * (p.miss * mis0 r c2))) := by
      rw [e0]
      unfold choV
      rw [b5]
      unfold shootV
      rw [parts_div r hr, if_pos hk, one_fol h, q1, d5]
      unfold partsV
      rw [q2, Int.pow_succ]
      show _ + p.miss * mis0 r c1 * _ + _ = _
      generalize mis0 r c1 = z1
      generalize mis0 r c2 = z2
      generalize max (c1 - cl) (cl - c1) = y1
      generalize max (c2 - c1) (c1 - c2) = y2
      rw [Int.mul_add (r.total ^ m * r.total) (p.click * y1 * r.group.sum + p.miss * z1), Int.mul_add (r.total ^ m * r.total) (p.click * y1 * r.group.sum)]
      congr 1
      · congr 1
        · ac_rfl
        · ac_rfl
      · ac_rfl
    have hG : 0 ≤ r.group.sum := by have := hr.gsum; omega
    have hT := tot_nonneg hr (m + 1)
    have tri : p.click * max (c2 - cl) (cl - c2) * r.group.sum ≤ p.click * max (c1 - cl) (cl - c1) * r.group.sum + p.click * max (c2 - c1) (c1 - c2) * r.group.sum := by
      rw [← Int.add_mul, ← Int.mul_add]
      exact Int.mul_le_mul_of_nonneg_right (Int.mul_le_mul_of_nonneg_left (by omega) hp.click.1) hG
    have n1 : 0 ≤ p.click * max (c2 - c1) (c1 - c2) * r.group.sum := Int.mul_nonneg (Int.mul_nonneg hp.click.1 (by omega)) hG
    have hcast : ((m + 1 : Nat) : Int) = (m : Int) + 1 := by omega
    rcases Int.le_total (p.miss * mis0 r c1) (p.miss * mis0 r c2) with hle | hle
    · refine ⟨c1, b4, Int.le_antisymm (hup (m + 1) cl c1 hm hc b4) ?_⟩
      rw [e1]
      refine Int.mul_le_mul_of_nonneg_left ?_ (by omega)
      have := Int.mul_le_mul_of_nonneg_left hle (show 0 ≤ (m : Int) + 1 by omega)
      rw [hcast, Int.add_mul ((m : Int) + 1), Int.one_mul]
      omega
    · refine ⟨c2, d4, Int.le_antisymm (hup (m + 1) cl c2 hm hc d4) ?_⟩
      rw [e1]
      refine Int.mul_le_mul_of_nonneg_left ?_ (by omega)
      rw [hcast, Int.add_mul ((m : Int) + 1), Int.one_mul]
      omega
theorem calm_met {r : Rg} {p : Ru} (hl : r.Low) (h : OneSt r) (hp : p.Right) : ∃ c, (-r.clicks ≤ c ∧ c ≤ r.clicks) ∧ overB (clickV r p c) (planV r p) = false ∧ overB (planV r p) (clickV r p c) = false := by
  have hr := h.right
  have hw := hp.waits
  have hC := hr.clicks
  obtain ⟨c, h1, h2⟩ := calm_one h hp 4 0 (by omega) (by omega)
  refine ⟨c, h1, one_over hl hp c h1, ?_⟩
  have h3 := expV_bd hl c
  have h4 := planV_bd hl hp
  have hd := denP_pos hr p
  have h5 := den6 hl 5 (by omega)
  have := over_frac (x := (planV r p).1) (y := (planV r p).2) (u := (clickV r p c).1) (v := (clickV r p c).2) (by omega) (by unfold clickV; simp only; omega) (show 0 < denP r p by omega) (show 0 < r.total ^ 5 * r.group.sum by omega) (ratioV_mul (by omega)) (clickV_mul hl p c)
  refine this.trans ?_
  rw [decide_eq_false]
  · rfl
  · refine Int.not_lt.2 (Int.le_of_eq ?_)
    have e1 : costP r p = r.total ^ p.waits.toNat * (p.click * max c (-c) * (r.total ^ 5 * r.group.sum) + p.miss * (expP r c 5).1) := by
      unfold costP
      rw [h.one]
      simp only [sumR, Int.zero_add]
      rw [one_first h, (calm_val h hp _ 0 p.waits.toNat 0 rfl (by omega) (by omega) (by omega) (by omega)).1, show (0 : Nat) = 4 - 4 from rfl, h2, one_exp h c 5 (by omega), show max (c - 0) (0 - c) = max c (-c) by omega]
      have e2 : r.total ^ 5 = r.total ^ 4 * r.total := Int.pow_succ _ _
      rw [e2]
      simp only [Int.mul_add]
      congr 1
      · ac_rfl
      · rw [show ((4 : Nat) : Int) + 1 = ((5 : Nat) : Int) from rfl]
        ac_rfl
    rw [e1, denP_eq, Int.pow_add]
    ac_rfl
end Go.Proofs.Ytohlillcaadidaa

/- The engine, part B14: a subtree of orders walked once for all the ways that lead there. -/
namespace Go.Eng
open Go Go.RowKit

section
variable {P : Program} {ro : Cx} {n : Nat} {F : Fin} {w0 : World} {M : Nat → Prop} {k : List It} {ops : Array Oper} {e : Env} {H Hq : List Ck}
theorem qt_let {σ : Type} (t : OT) {t0 : OT} (env : σ → Env) (pc : σ → List Ck) (main : ∀ s, QT P ro n F w0 M k ops Hq t (env s) (pc s))
    (use : (∀ s e' H', Sub (env s) e' → Sp H' (pc s) → QT P ro n F w0 M k ops Hq t e' H') → QT P ro n F w0 M k ops Hq t0 e H) : QT P ro n F w0 M k ops Hq t0 e H :=
  use (fun s _ _ he hH => ⟨fun w hs a hf hd => (main s).h w (hs.sp (Sp.app hH Hq)) a (hf.sub he) hd⟩)
end
end Go.Eng

/- The engine, part B15: comparisons that are decided at once. -/
namespace Go.Eng
open Go Go.RowKit

section
variable {P : Program} {T : Tab} {ro : Cx} {n : Nat} {F : Fin} {w0 : World} {M : Nat → Prop} {k : List It} {ops : Array Oper} {rest : List Oper} {e : Env} {H Hq : List Ck}
theorem bin_lssT {a b : Int} (h : a < b) : binV .lss .i64 a b = some (.bool true) := by simp [binV]; omega
theorem ql_lssT (hT : T.Ok P) {d : Nat} {t t' : Nat} {x y : Operand} {a b : Int} {ty : TypeId} {pos : String} {af : Array Edge} (hx : opv e x = some (.int .i64 a)) (hy : opv e y = some (.int .i64 b)) (hd : Nat.blt d n = true) (hp : a < b)
    (h : QL P ro n F w0 M k ops rest ((d, .bool true) :: e) H) : QL P ro n F w0 M k ops (⟨some d, .binOp .lss t x y t', ty, pos, af, none⟩ :: rest) e H := ql_pure hT ((evp_arith hx hy).trans (bin_lssT hp)) hd h
theorem qf_lssT (hT : T.Ok P) {d : Nat} {t t' : Nat} {x y : Operand} {a b : Int} {ty : TypeId} {pos : String} {af : Array Edge} (hx : opv e x = some (.int .i64 a)) (hy : opv e y = some (.int .i64 b)) (hd : Nat.blt d n = true) (hp : a < b)
    (h : QF P ro n F w0 M k ops Hq rest ((d, .bool true) :: e) H) : QF P ro n F w0 M k ops Hq (⟨some d, .binOp .lss t x y t', ty, pos, af, none⟩ :: rest) e H := qf_pure hT ((evp_arith hx hy).trans (bin_lssT hp)) rfl hd h
theorem bin_lssF {a b : Int} (h : ¬ a < b) : binV .lss .i64 a b = some (.bool false) := by simp [binV]; omega
theorem ql_lssF (hT : T.Ok P) {d : Nat} {t t' : Nat} {x y : Operand} {a b : Int} {ty : TypeId} {pos : String} {af : Array Edge} (hx : opv e x = some (.int .i64 a)) (hy : opv e y = some (.int .i64 b)) (hd : Nat.blt d n = true) (hp : ¬ a < b)
    (h : QL P ro n F w0 M k ops rest ((d, .bool false) :: e) H) : QL P ro n F w0 M k ops (⟨some d, .binOp .lss t x y t', ty, pos, af, none⟩ :: rest) e H := ql_pure hT ((evp_arith hx hy).trans (bin_lssF hp)) hd h
theorem qf_lssF (hT : T.Ok P) {d : Nat} {t t' : Nat} {x y : Operand} {a b : Int} {ty : TypeId} {pos : String} {af : Array Edge} (hx : opv e x = some (.int .i64 a)) (hy : opv e y = some (.int .i64 b)) (hd : Nat.blt d n = true) (hp : ¬ a < b)
    (h : QF P ro n F w0 M k ops Hq rest ((d, .bool false) :: e) H) : QF P ro n F w0 M k ops Hq (⟨some d, .binOp .lss t x y t', ty, pos, af, none⟩ :: rest) e H := qf_pure hT ((evp_arith hx hy).trans (bin_lssF hp)) rfl hd h
theorem bin_leqT {a b : Int} (h : a ≤ b) : binV .leq .i64 a b = some (.bool true) := by simp [binV]; omega
theorem ql_leqT (hT : T.Ok P) {d : Nat} {t t' : Nat} {x y : Operand} {a b : Int} {ty : TypeId} {pos : String} {af : Array Edge} (hx : opv e x = some (.int .i64 a)) (hy : opv e y = some (.int .i64 b)) (hd : Nat.blt d n = true) (hp : a ≤ b)
    (h : QL P ro n F w0 M k ops rest ((d, .bool true) :: e) H) : QL P ro n F w0 M k ops (⟨some d, .binOp .leq t x y t', ty, pos, af, none⟩ :: rest) e H := ql_pure hT ((evp_arith hx hy).trans (bin_leqT hp)) hd h
theorem qf_leqT (hT : T.Ok P) {d : Nat} {t t' : Nat} {x y : Operand} {a b : Int} {ty : TypeId} {pos : String} {af : Array Edge} (hx : opv e x = some (.int .i64 a)) (hy : opv e y = some (.int .i64 b)) (hd : Nat.blt d n = true) (hp : a ≤ b)
    (h : QF P ro n F w0 M k ops Hq rest ((d, .bool true) :: e) H) : QF P ro n F w0 M k ops Hq (⟨some d, .binOp .leq t x y t', ty, pos, af, none⟩ :: rest) e H := qf_pure hT ((evp_arith hx hy).trans (bin_leqT hp)) rfl hd h
theorem bin_leqF {a b : Int} (h : ¬ a ≤ b) : binV .leq .i64 a b = some (.bool false) := by simp [binV]; omega
theorem ql_leqF (hT : T.Ok P) {d : Nat} {t t' : Nat} {x y : Operand} {a b : Int} {ty : TypeId} {pos : String} {af : Array Edge} (hx : opv e x = some (.int .i64 a)) (hy : opv e y = some (.int .i64 b)) (hd : Nat.blt d n = true) (hp : ¬ a ≤ b)
    (h : QL P ro n F w0 M k ops rest ((d, .bool false) :: e) H) : QL P ro n F w0 M k ops (⟨some d, .binOp .leq t x y t', ty, pos, af, none⟩ :: rest) e H := ql_pure hT ((evp_arith hx hy).trans (bin_leqF hp)) hd h
theorem qf_leqF (hT : T.Ok P) {d : Nat} {t t' : Nat} {x y : Operand} {a b : Int} {ty : TypeId} {pos : String} {af : Array Edge} (hx : opv e x = some (.int .i64 a)) (hy : opv e y = some (.int .i64 b)) (hd : Nat.blt d n = true) (hp : ¬ a ≤ b)
    (h : QF P ro n F w0 M k ops Hq rest ((d, .bool false) :: e) H) : QF P ro n F w0 M k ops Hq (⟨some d, .binOp .leq t x y t', ty, pos, af, none⟩ :: rest) e H := qf_pure hT ((evp_arith hx hy).trans (bin_leqF hp)) rfl hd h
theorem bin_gtrT {a b : Int} (h : b < a) : binV .gtr .i64 a b = some (.bool true) := by simp [binV]; omega
theorem ql_gtrT (hT : T.Ok P) {d : Nat} {t t' : Nat} {x y : Operand} {a b : Int} {ty : TypeId} {pos : String} {af : Array Edge} (hx : opv e x = some (.int .i64 a)) (hy : opv e y = some (.int .i64 b)) (hd : Nat.blt d n = true) (hp : b < a)
    (h : QL P ro n F w0 M k ops rest ((d, .bool true) :: e) H) : QL P ro n F w0 M k ops (⟨some d, .binOp .gtr t x y t', ty, pos, af, none⟩ :: rest) e H := ql_pure hT ((evp_arith hx hy).trans (bin_gtrT hp)) hd h
theorem qf_gtrT (hT : T.Ok P) {d : Nat} {t t' : Nat} {x y : Operand} {a b : Int} {ty : TypeId} {pos : String} {af : Array Edge} (hx : opv e x = some (.int .i64 a)) (hy : opv e y = some (.int .i64 b)) (hd : Nat.blt d n = true) (hp : b < a)
    (h : QF P ro n F w0 M k ops Hq rest ((d, .bool true) :: e) H) : QF P ro n F w0 M k ops Hq (⟨some d, .binOp .gtr t x y t', ty, pos, af, none⟩ :: rest) e H := qf_pure hT ((evp_arith hx hy).trans (bin_gtrT hp)) rfl hd h
theorem bin_gtrF {a b : Int} (h : ¬ b < a) : binV .gtr .i64 a b = some (.bool false) := by simp [binV]; omega
theorem ql_gtrF (hT : T.Ok P) {d : Nat} {t t' : Nat} {x y : Operand} {a b : Int} {ty : TypeId} {pos : String} {af : Array Edge} (hx : opv e x = some (.int .i64 a)) (hy : opv e y = some (.int .i64 b)) (hd : Nat.blt d n = true) (hp : ¬ b < a)
    (h : QL P ro n F w0 M k ops rest ((d, .bool false) :: e) H) : QL P ro n F w0 M k ops (⟨some d, .binOp .gtr t x y t', ty, pos, af, none⟩ :: rest) e H := ql_pure hT ((evp_arith hx hy).trans (bin_gtrF hp)) hd h
theorem qf_gtrF (hT : T.Ok P) {d : Nat} {t t' : Nat} {x y : Operand} {a b : Int} {ty : TypeId} {pos : String} {af : Array Edge} (hx : opv e x = some (.int .i64 a)) (hy : opv e y = some (.int .i64 b)) (hd : Nat.blt d n = true) (hp : ¬ b < a)
    (h : QF P ro n F w0 M k ops Hq rest ((d, .bool false) :: e) H) : QF P ro n F w0 M k ops Hq (⟨some d, .binOp .gtr t x y t', ty, pos, af, none⟩ :: rest) e H := qf_pure hT ((evp_arith hx hy).trans (bin_gtrF hp)) rfl hd h
theorem bin_geqT {a b : Int} (h : b ≤ a) : binV .geq .i64 a b = some (.bool true) := by simp [binV]; omega
theorem ql_geqT (hT : T.Ok P) {d : Nat} {t t' : Nat} {x y : Operand} {a b : Int} {ty : TypeId} {pos : String} {af : Array Edge} (hx : opv e x = some (.int .i64 a)) (hy : opv e y = some (.int .i64 b)) (hd : Nat.blt d n = true) (hp : b ≤ a)
    (h : QL P ro n F w0 M k ops rest ((d, .bool true) :: e) H) : QL P ro n F w0 M k ops (⟨some d, .binOp .geq t x y t', ty, pos, af, none⟩ :: rest) e H := ql_pure hT ((evp_arith hx hy).trans (bin_geqT hp)) hd h
theorem qf_geqT (hT : T.Ok P) {d : Nat} {t t' : Nat} {x y : Operand} {a b : Int} {ty : TypeId} {pos : String} {af : Array Edge} (hx : opv e x = some (.int .i64 a)) (hy : opv e y = some (.int .i64 b)) (hd : Nat.blt d n = true) (hp : b ≤ a)
    (h : QF P ro n F w0 M k ops Hq rest ((d, .bool true) :: e) H) : QF P ro n F w0 M k ops Hq (⟨some d, .binOp .geq t x y t', ty, pos, af, none⟩ :: rest) e H := qf_pure hT ((evp_arith hx hy).trans (bin_geqT hp)) rfl hd h
theorem bin_geqF {a b : Int} (h : ¬ b ≤ a) : binV .geq .i64 a b = some (.bool false) := by simp [binV]; omega
theorem ql_geqF (hT : T.Ok P) {d : Nat} {t t' : Nat} {x y : Operand} {a b : Int} {ty : TypeId} {pos : String} {af : Array Edge} (hx : opv e x = some (.int .i64 a)) (hy : opv e y = some (.int .i64 b)) (hd : Nat.blt d n = true) (hp : ¬ b ≤ a)
    (h : QL P ro n F w0 M k ops rest ((d, .bool false) :: e) H) : QL P ro n F w0 M k ops (⟨some d, .binOp .geq t x y t', ty, pos, af, none⟩ :: rest) e H := ql_pure hT ((evp_arith hx hy).trans (bin_geqF hp)) hd h
theorem qf_geqF (hT : T.Ok P) {d : Nat} {t t' : Nat} {x y : Operand} {a b : Int} {ty : TypeId} {pos : String} {af : Array Edge} (hx : opv e x = some (.int .i64 a)) (hy : opv e y = some (.int .i64 b)) (hd : Nat.blt d n = true) (hp : ¬ b ≤ a)
    (h : QF P ro n F w0 M k ops Hq rest ((d, .bool false) :: e) H) : QF P ro n F w0 M k ops Hq (⟨some d, .binOp .geq t x y t', ty, pos, af, none⟩ :: rest) e H := qf_pure hT ((evp_arith hx hy).trans (bin_geqF hp)) rfl hd h
theorem bin_eqlT {a b : Int} (h : a = b) : binV .eql .i64 a b = some (.bool true) := by simp [binV]; omega
theorem ql_eqlT (hT : T.Ok P) {d : Nat} {t t' : Nat} {x y : Operand} {a b : Int} {ty : TypeId} {pos : String} {af : Array Edge} (hx : opv e x = some (.int .i64 a)) (hy : opv e y = some (.int .i64 b)) (hd : Nat.blt d n = true) (hp : a = b)
    (h : QL P ro n F w0 M k ops rest ((d, .bool true) :: e) H) : QL P ro n F w0 M k ops (⟨some d, .binOp .eql t x y t', ty, pos, af, none⟩ :: rest) e H := ql_pure hT ((evp_arith hx hy).trans (bin_eqlT hp)) hd h
theorem qf_eqlT (hT : T.Ok P) {d : Nat} {t t' : Nat} {x y : Operand} {a b : Int} {ty : TypeId} {pos : String} {af : Array Edge} (hx : opv e x = some (.int .i64 a)) (hy : opv e y = some (.int .i64 b)) (hd : Nat.blt d n = true) (hp : a = b)
    (h : QF P ro n F w0 M k ops Hq rest ((d, .bool true) :: e) H) : QF P ro n F w0 M k ops Hq (⟨some d, .binOp .eql t x y t', ty, pos, af, none⟩ :: rest) e H := qf_pure hT ((evp_arith hx hy).trans (bin_eqlT hp)) rfl hd h
theorem bin_eqlF {a b : Int} (h : a ≠ b) : binV .eql .i64 a b = some (.bool false) := by simp [binV]; omega
theorem ql_eqlF (hT : T.Ok P) {d : Nat} {t t' : Nat} {x y : Operand} {a b : Int} {ty : TypeId} {pos : String} {af : Array Edge} (hx : opv e x = some (.int .i64 a)) (hy : opv e y = some (.int .i64 b)) (hd : Nat.blt d n = true) (hp : a ≠ b)
    (h : QL P ro n F w0 M k ops rest ((d, .bool false) :: e) H) : QL P ro n F w0 M k ops (⟨some d, .binOp .eql t x y t', ty, pos, af, none⟩ :: rest) e H := ql_pure hT ((evp_arith hx hy).trans (bin_eqlF hp)) hd h
theorem qf_eqlF (hT : T.Ok P) {d : Nat} {t t' : Nat} {x y : Operand} {a b : Int} {ty : TypeId} {pos : String} {af : Array Edge} (hx : opv e x = some (.int .i64 a)) (hy : opv e y = some (.int .i64 b)) (hd : Nat.blt d n = true) (hp : a ≠ b)
    (h : QF P ro n F w0 M k ops Hq rest ((d, .bool false) :: e) H) : QF P ro n F w0 M k ops Hq (⟨some d, .binOp .eql t x y t', ty, pos, af, none⟩ :: rest) e H := qf_pure hT ((evp_arith hx hy).trans (bin_eqlF hp)) rfl hd h
theorem bin_neqT {a b : Int} (h : a ≠ b) : binV .neq .i64 a b = some (.bool true) := by simp [binV]; omega
theorem ql_neqT (hT : T.Ok P) {d : Nat} {t t' : Nat} {x y : Operand} {a b : Int} {ty : TypeId} {pos : String} {af : Array Edge} (hx : opv e x = some (.int .i64 a)) (hy : opv e y = some (.int .i64 b)) (hd : Nat.blt d n = true) (hp : a ≠ b)
    (h : QL P ro n F w0 M k ops rest ((d, .bool true) :: e) H) : QL P ro n F w0 M k ops (⟨some d, .binOp .neq t x y t', ty, pos, af, none⟩ :: rest) e H := ql_pure hT ((evp_arith hx hy).trans (bin_neqT hp)) hd h
theorem qf_neqT (hT : T.Ok P) {d : Nat} {t t' : Nat} {x y : Operand} {a b : Int} {ty : TypeId} {pos : String} {af : Array Edge} (hx : opv e x = some (.int .i64 a)) (hy : opv e y = some (.int .i64 b)) (hd : Nat.blt d n = true) (hp : a ≠ b)
    (h : QF P ro n F w0 M k ops Hq rest ((d, .bool true) :: e) H) : QF P ro n F w0 M k ops Hq (⟨some d, .binOp .neq t x y t', ty, pos, af, none⟩ :: rest) e H := qf_pure hT ((evp_arith hx hy).trans (bin_neqT hp)) rfl hd h
theorem bin_neqF {a b : Int} (h : a = b) : binV .neq .i64 a b = some (.bool false) := by simp [binV]; omega
theorem ql_neqF (hT : T.Ok P) {d : Nat} {t t' : Nat} {x y : Operand} {a b : Int} {ty : TypeId} {pos : String} {af : Array Edge} (hx : opv e x = some (.int .i64 a)) (hy : opv e y = some (.int .i64 b)) (hd : Nat.blt d n = true) (hp : a = b)
    (h : QL P ro n F w0 M k ops rest ((d, .bool false) :: e) H) : QL P ro n F w0 M k ops (⟨some d, .binOp .neq t x y t', ty, pos, af, none⟩ :: rest) e H := ql_pure hT ((evp_arith hx hy).trans (bin_neqF hp)) hd h
theorem qf_neqF (hT : T.Ok P) {d : Nat} {t t' : Nat} {x y : Operand} {a b : Int} {ty : TypeId} {pos : String} {af : Array Edge} (hx : opv e x = some (.int .i64 a)) (hy : opv e y = some (.int .i64 b)) (hd : Nat.blt d n = true) (hp : a = b)
    (h : QF P ro n F w0 M k ops Hq rest ((d, .bool false) :: e) H) : QF P ro n F w0 M k ops Hq (⟨some d, .binOp .neq t x y t', ty, pos, af, none⟩ :: rest) e H := qf_pure hT ((evp_arith hx hy).trans (bin_neqF hp)) rfl hd h
end
end Go.Eng

/- Walks: the law's fractions. -/
namespace Go.Proofs.Ytohlillcaadidaa
open Go Go.Eng

theorem fair_ca (a : Int × Int) (m : Int) (w : World) (h1 : 1 ≤ a.2) (h2 : 0 ≤ a.1) (h3 : a.1 ≤ m * a.2) (h4 : a.2 ≤ 1000000000000) (hm : 0 ≤ m ∧ m ≤ 100) :
    Ca Try.prog 44 [rtV a, .int .i64 m] w fun v w' => v = .bool true ∧ Chg [] w w' := by
  obtain ⟨n, d⟩ := a
  simp only at h1 h2 h3 h4
  change Ca Try.prog _ [.agg #[.int .i64 n, .int .i64 d], .int .i64 m] w _
  have hb := mul_bd0 hm (show 0 ≤ d ∧ d ≤ 1000000000000 by omega)
  refine q_of (Sat.nil w M0) Try.func44 rfl (by simp [Try.ntmps44]) ?_
  (refine q_seq ?_; refine q_region ?_)
  refine ql_box rfl rfl (fun b2 => ?_)
  (refine ql_pure tabOk rfl rfl ?_; refine q_nil ?_; refine q_seq ?_; refine q_region ?_; refine ql_pure tabOk rfl rfl ?_; refine ql_loadB tabOk rfl rfl rfl (by repeat first | exact .head _ | refine .tail _ ?_) (by rfl) ?_; refine ql_geqT tabOk rfl rfl rfl (by omega) ?_; refine ql_pure tabOk rfl rfl ?_; refine ql_gyes rfl ?_; refine ql_pure tabOk rfl rfl ?_; refine ql_gyes rfl ?_; refine ql_loadB tabOk rfl rfl rfl (by repeat first | exact .head _ | refine .tail _ ?_) (by rfl) ?_; refine ql_gyes rfl ?_; refine ql_geqT tabOk rfl rfl rfl (by omega) ?_; (iterate 2 refine ql_pure tabOk rfl rfl ?_); refine ql_gyes rfl ?_; refine ql_pure tabOk rfl rfl ?_; refine ql_gyes rfl ?_; refine ql_loadB tabOk rfl rfl rfl (by repeat first | exact .head _ | refine .tail _ ?_) (by rfl) ?_; refine ql_gyes rfl ?_; refine ql_pure tabOk rfl rfl ?_; refine ql_gyes rfl ?_; refine ql_pure tabOk rfl rfl ?_; refine ql_gyes rfl ?_; refine ql_loadB tabOk rfl rfl rfl (by repeat first | exact .head _ | refine .tail _ ?_) (by rfl) ?_; refine ql_gyes rfl ?_; refine ql_ar tabOk rfl rfl rfl rfl (by omega) (by omega) ?_; refine ql_gyes rfl ?_; refine ql_leqT tabOk rfl rfl rfl (by omega) ?_; (iterate 2 refine ql_pure tabOk rfl rfl ?_); refine q_nil ?_; refine q_ret ?_)
  refine q_fin tabOk rfl (by repeat (first | exact RVs.nil | apply RVs.tmp rfl | apply RVs.cellA rfl rfl (by repeat first | exact .head _ | refine .tail _ ?_) (by rfl) | apply RVs.cell1 rfl rfl (by repeat first | exact .head _ | refine .tail _ ?_))) fun w hs => ?_
  exact ⟨rfl, hs.chg0⟩
theorem lessL_ca (p q : Int × Int) (w : World) (hp : Fine p) (hq : Fine q) :
    Ca Try.prog 62 [rtV p, rtV q] w fun v w' => v = .bool (lessB p q) ∧ Chg [] w w' := by
  refine q_of (Sat.nil w M0) Try.func62 rfl (by simp [Try.ntmps62]) ?_
  obtain ⟨p1, p2, p3, p4⟩ := hp
  obtain ⟨q1, q2, q3, q4⟩ := hq
  have h1 := mul_bd0 ⟨p1, p2⟩ (show 0 ≤ q.2 ∧ q.2 ≤ 1000000000 by omega)
  have h2 := mul_bd0 ⟨q1, q2⟩ (show 0 ≤ p.2 ∧ p.2 ≤ 1000000000 by omega)
  (refine q_seq ?_; refine q_region ?_)
  refine ql_box rfl rfl (fun b2 => ?_)
  refine ql_box rfl rfl (fun b3 => ?_)
  (refine ql_pure tabOk rfl rfl ?_; refine q_nil ?_; refine q_seq ?_; refine q_region ?_; refine ql_pure tabOk rfl rfl ?_; refine ql_loadB tabOk rfl rfl rfl (by repeat first | exact .head _ | refine .tail _ ?_) (by rfl) ?_; refine ql_pure tabOk rfl rfl ?_; refine ql_loadB tabOk rfl rfl rfl (by repeat first | exact .head _ | refine .tail _ ?_) (by rfl) ?_; refine ql_ar tabOk rfl rfl rfl rfl (by omega) (by omega) ?_; refine ql_pure tabOk rfl rfl ?_; refine ql_loadB tabOk rfl rfl rfl (by repeat first | exact .head _ | refine .tail _ ?_) (by rfl) ?_; refine ql_pure tabOk rfl rfl ?_; refine ql_loadB tabOk rfl rfl rfl (by repeat first | exact .head _ | refine .tail _ ?_) (by rfl) ?_; refine ql_ar tabOk rfl rfl rfl rfl (by omega) (by omega) ?_; (iterate 2 refine ql_pure tabOk rfl rfl ?_); refine q_nil ?_; refine q_ret ?_)
  refine q_fin tabOk rfl (by repeat (first | exact RVs.nil | apply RVs.tmp rfl | apply RVs.cellA rfl rfl (by repeat first | exact .head _ | refine .tail _ ?_) (by rfl) | apply RVs.cell1 rfl rfl (by repeat first | exact .head _ | refine .tail _ ?_))) fun w hs => ?_
  exact ⟨by simp [retV, lessB], hs.chg0⟩
set_option maxHeartbeats 2000000 in
theorem plus_ca (p q : Int × Int) (w : World) (hp : 0 ≤ p.1 ∧ p.1 ≤ 2147483648 ∧ 1 ≤ p.2 ∧ p.2 ≤ 1073741824) (hq : 0 ≤ q.1 ∧ q.1 ≤ 2147483648 ∧ 1 ≤ q.2 ∧ q.2 ≤ 1073741824) :
    Ca Try.prog 63 [rtV p, rtV q] w fun v w' => v = .tuple #[rtV (plusV p q), .bool true] ∧ Chg [] w w' := by
  obtain ⟨a, b⟩ := p
  obtain ⟨c, d⟩ := q
  simp only at hp hq
  change Ca Try.prog _ [.agg #[.int .i64 a, .int .i64 b], .agg #[.int .i64 c, .int .i64 d]] w _
  refine q_of (Sat.nil w M0) Try.func63 rfl (by simp [Try.ntmps63]) ?_
  have h1 := mul_bd0 (show 0 ≤ a ∧ a ≤ 2147483648 by omega) (show 0 ≤ d ∧ d ≤ 1073741824 by omega)
  have h2 := mul_bd0 (show 0 ≤ c ∧ c ≤ 2147483648 by omega) (show 0 ≤ b ∧ b ≤ 1073741824 by omega)
  have h3 := mul_bd0 (show 0 ≤ b ∧ b ≤ 1073741824 by omega) (show 0 ≤ d ∧ d ≤ 1073741824 by omega)
  have h4 : 0 < b * d := Int.mul_pos (by omega) (by omega)
  (refine q_seq ?_; refine q_region ?_)
  refine ql_box rfl rfl (fun b2 => ?_)
  refine ql_box rfl rfl (fun b3 => ?_)
  skip
  refine ql_alloc zero42 rfl (fun b4 => ?_)
  (refine ql_pure tabOk rfl rfl ?_; refine q_nil ?_; (iterate 2 refine q_seq ?_); refine q_region ?_; refine ql_pure tabOk rfl rfl ?_; refine ql_loadB tabOk rfl rfl rfl (by repeat first | exact .head _ | refine .tail _ ?_) (by rfl) ?_; refine ql_lssF tabOk rfl rfl rfl (by omega) ?_; refine ql_pure tabOk rfl rfl ?_; refine ql_gyes rfl ?_; refine ql_pure tabOk rfl rfl ?_; refine ql_gyes rfl ?_; refine ql_loadB tabOk rfl rfl rfl (by repeat first | exact .head _ | refine .tail _ ?_) (by rfl) ?_; refine ql_gyes rfl ?_; refine ql_lssF tabOk rfl rfl rfl (by omega) ?_; (iterate 2 refine ql_pure tabOk rfl rfl ?_); refine ql_gyes rfl ?_; refine ql_pure tabOk rfl rfl ?_; refine ql_gyes rfl ?_; refine ql_loadB tabOk rfl rfl rfl (by repeat first | exact .head _ | refine .tail _ ?_) (by rfl) ?_; refine ql_gyes rfl ?_; refine ql_gtrF tabOk rfl rfl rfl (by omega) ?_; (iterate 2 refine ql_pure tabOk rfl rfl ?_); refine ql_gyes rfl ?_; refine ql_pure tabOk rfl rfl ?_; refine ql_gyes rfl ?_; refine ql_loadB tabOk rfl rfl rfl (by repeat first | exact .head _ | refine .tail _ ?_) (by rfl) ?_; refine ql_gyes rfl ?_; refine ql_gtrF tabOk rfl rfl rfl (by omega) ?_; (iterate 2 refine ql_pure tabOk rfl rfl ?_); refine ql_gyes rfl ?_; refine ql_pure tabOk rfl rfl ?_; refine ql_gyes rfl ?_; refine ql_loadB tabOk rfl rfl rfl (by repeat first | exact .head _ | refine .tail _ ?_) (by rfl) ?_; refine ql_gyes rfl ?_; refine ql_lssF tabOk rfl rfl rfl (by omega) ?_; (iterate 2 refine ql_pure tabOk rfl rfl ?_); refine ql_gyes rfl ?_; refine ql_pure tabOk rfl rfl ?_; refine ql_gyes rfl ?_; refine ql_loadB tabOk rfl rfl rfl (by repeat first | exact .head _ | refine .tail _ ?_) (by rfl) ?_; refine ql_gyes rfl ?_; refine ql_lssF tabOk rfl rfl rfl (by omega) ?_; (iterate 2 refine ql_pure tabOk rfl rfl ?_); refine ql_gyes rfl ?_; refine ql_pure tabOk rfl rfl ?_; refine ql_gyes rfl ?_; refine ql_loadB tabOk rfl rfl rfl (by repeat first | exact .head _ | refine .tail _ ?_) (by rfl) ?_; refine ql_gyes rfl ?_; refine ql_gtrF tabOk rfl rfl rfl (by omega) ?_; (iterate 2 refine ql_pure tabOk rfl rfl ?_); refine ql_gyes rfl ?_; refine ql_pure tabOk rfl rfl ?_; refine ql_gyes rfl ?_; refine ql_loadB tabOk rfl rfl rfl (by repeat first | exact .head _ | refine .tail _ ?_) (by rfl) ?_; refine ql_gyes rfl ?_; refine ql_gtrF tabOk rfl rfl rfl (by omega) ?_; refine ql_pure tabOk rfl rfl ?_; refine q_nil ?_; refine q_cond_false rfl ?_; refine q_skip ?_; refine q_seq ?_)
  refine q_draw _ [] (Sp.refl _) (by kernel_rfl) (by kernel_rfl) ?_
  (refine qf_pure tabOk rfl rfl rfl ?_; refine qf_loadB tabOk rfl rfl rfl (by repeat first | exact .head _ | refine .tail _ ?_) (by rfl) ?_; refine qf_pure tabOk rfl rfl rfl ?_; refine qf_loadB tabOk rfl rfl rfl (by repeat first | exact .head _ | refine .tail _ ?_) (by rfl) ?_; refine qf_ar tabOk rfl rfl rfl rfl (by omega) (by omega) ?_; refine qf_pure tabOk rfl rfl rfl ?_; refine qf_loadB tabOk rfl rfl rfl (by repeat first | exact .head _ | refine .tail _ ?_) (by rfl) ?_; refine qf_pure tabOk rfl rfl rfl ?_; refine qf_loadB tabOk rfl rfl rfl (by repeat first | exact .head _ | refine .tail _ ?_) (by rfl) ?_; (iterate 2 refine qf_ar tabOk rfl rfl rfl rfl (by omega) (by omega) ?_); refine qf_pure tabOk rfl rfl rfl ?_; refine qf_loadB tabOk rfl rfl rfl (by repeat first | exact .head _ | refine .tail _ ?_) (by rfl) ?_; refine qf_pure tabOk rfl rfl rfl ?_; refine qf_loadB tabOk rfl rfl rfl (by repeat first | exact .head _ | refine .tail _ ?_) (by rfl) ?_; refine qf_ar tabOk rfl rfl rfl rfl (by omega) (by omega) ?_; (iterate 2 refine qf_pure tabOk rfl rfl rfl ?_); refine qf_nil ?_; refine q_seq ?_; refine q_region ?_; (iterate 4 refine ql_pure tabOk rfl rfl ?_); refine q_nil ?_; refine q_seq ?_; refine q_block ?_)
  obtain ⟨n, hn⟩ : ∃ n, n = a * d + c * b := ⟨_, rfl⟩
  obtain ⟨e, he⟩ : ∃ e, e = b * d := ⟨_, rfl⟩
  rw [← hn, ← he]
  refine q_loop (σ := Int × Int) (fun s => 0 ≤ s.1 ∧ 0 ≤ s.2 ∧ s.1 < 9223372036854775808 ∧ s.2 < 9223372036854775808 ∧ Int.gcd s.2 s.1 = Int.gcd n e) (fun s => s.1.toNat) (fun s => [(4, .pointer (some ⟨b4, 0, none⟩)), (6, .int .i64 n), (7, .int .i64 e), (8, .int .i64 s.1), (9, .int .i64 s.2)])
    (fun _ => [.pt b4 [.int .i64 0, .int .i64 0] 42]) (n, e) ⟨by omega, by omega, by omega, by omega, Int.gcd_comm _ _⟩ ⟨rfl, rfl, rfl, rfl, rfl, trivial⟩ (by repeat (first | exact Sp.nil | exact Sp.refl _ | refine Sp.cons (by repeat constructor) ?_)) ?_
  rintro ⟨x, y⟩ ⟨g1, g2, g3, g4, g5⟩ K hK
  simp only at g1 g2 g3 g4 g5
  ((iterate 2 refine q_seq ?_); refine q_region ?_; (iterate 2 refine ql_pure tabOk rfl rfl ?_); refine q_nil ?_)
  refine q_if rfl (fun hc => ?_) (fun hc => ?_)
  · have h6 := Int.emod_nonneg y (show x ≠ 0 by omega)
    have h7 := Int.emod_lt_of_pos y (show 0 < x by omega)
    (refine q_skip ?_; refine q_block ?_; refine q_region ?_; (iterate 2 refine ql_pure tabOk rfl rfl ?_); refine ql_remN rfl rfl rfl (by omega) (by omega) ?_; (iterate 3 refine ql_pure tabOk rfl rfl ?_); refine q_nil ?_; refine q_blk ?_)
    exact hK (y % x, x) _ _ ⟨h6, g1, by simp only; omega, g3, (gcd_step y x).trans g5⟩ (by simp only; omega) ⟨rfl, rfl, rfl, rfl, rfl, trivial⟩ (by repeat (first | exact Sp.nil | exact Sp.refl _ | refine Sp.cons (by repeat constructor) ?_))
  · obtain rfl : x = 0 := by omega
    have h6 : (Int.gcd n e : Int) = y := by
      rw [← g5]
      simp
      omega
    have h7 : 0 < y := by
      have : Int.gcd n e ≠ 0 := by
        intro h
        have := Int.gcd_eq_zero_iff.1 h
        omega
      omega
    (refine q_exit _ rfl ?_; refine q_seq ?_)
    refine q_draw _ [.pt b4 _ _] (Sp.cons (by repeat constructor) (Sp.refl _)) (by kernel_rfl) (by kernel_rfl) ?_
    ((iterate 2 refine qf_pure tabOk rfl rfl rfl ?_); refine qf_quoN rfl rfl rfl (by omega) (by omega) (by omega) ?_; (iterate 2 refine qf_pure tabOk rfl rfl rfl ?_); refine qf_quoN rfl rfl rfl (by omega) (by omega) (by omega) ?_)
    refine qf_mk #[.int .i64 (n / y), .int .i64 (e / y)] rfl (by kernel_rfl) rfl ?_
    (refine qf_setA tabOk rfl rfl rfl rfl rfl (by repeat constructor) rfl ?_; refine qf_pure tabOk rfl rfl rfl ?_; refine qf_nil ?_; refine q_ret ?_)
    refine q_fin tabOk rfl (by repeat (first | exact RVs.nil | apply RVs.tmp rfl | apply RVs.cellA rfl rfl (by repeat first | exact .head _ | refine .tail _ ?_) (by rfl) | apply RVs.cell1 rfl rfl (by repeat first | exact .head _ | refine .tail _ ?_))) fun w hs => ?_
    refine ⟨?_, hs.chg0⟩
    show Value.tuple #[.agg #[.int .i64 (n / y), .int .i64 (e / y)], .bool true] = _
    unfold plusV ratioV
    simp only
    rw [← hn, ← he, h6]
    rfl
set_option maxHeartbeats 4000000 in
theorem over_ca (p q : Int × Int) (w : World) (hp : 0 ≤ p.1 ∧ p.1 < 4611686018427387904 ∧ 1 ≤ p.2 ∧ p.2 < 4611686018427387904) (hq : 0 ≤ q.1 ∧ q.1 < 4611686018427387904 ∧ 1 ≤ q.2 ∧ q.2 < 4611686018427387904) :
    Ca Try.prog 42 [rtV p, rtV q] w fun v w' => v = .bool (overB p q) ∧ Chg [] w w' := by
  obtain ⟨a, b⟩ := p
  obtain ⟨c, d⟩ := q
  simp only at hp hq
  change Ca Try.prog _ [.agg #[.int .i64 a, .int .i64 b], .agg #[.int .i64 c, .int .i64 d]] w _
  obtain ⟨ov, hov⟩ : ∃ ov, ov = overB (a, b) (c, d) := ⟨_, rfl⟩
  have hT : a * d < c * b → ov = true := fun h => by rw [hov, overB]; simp only; rw [decide_eq_true h]; rfl
  have hF : ¬ a * d < c * b → ov = false := fun h => by rw [hov, overB]; simp only; rw [decide_eq_false h]; rfl
  rw [← hov]
  refine q_of (Sat.nil w M0) Try.func42 rfl (by simp [Try.ntmps42]) ?_
  have q1 := Int.ediv_nonneg hp.1 (show 0 ≤ b by omega)
  have q2 := Int.ediv_nonneg hq.1 (show 0 ≤ d by omega)
  have q3 := Int.ediv_le_self b hp.1
  have q4 := Int.ediv_le_self d hq.1
  have m1 := Int.emod_nonneg a (show b ≠ 0 by omega)
  have m2 := Int.emod_lt_of_pos a (show 0 < b by omega)
  have m3 := Int.emod_nonneg c (show d ≠ 0 by omega)
  have m4 := Int.emod_lt_of_pos c (show 0 < d by omega)
  (refine q_seq ?_; refine q_region ?_)
  refine ql_box rfl rfl (fun b2 => ?_)
  refine ql_box rfl rfl (fun b3 => ?_)
  (refine ql_pure tabOk rfl rfl ?_; refine q_nil ?_; (iterate 2 refine q_seq ?_))
  refine q_draw _ [] (Sp.refl _) (by kernel_rfl) (by kernel_rfl) ?_
  (refine qf_pure tabOk rfl rfl rfl ?_; refine qf_loadB tabOk rfl rfl rfl (by repeat first | exact .head _ | refine .tail _ ?_) (by rfl) ?_; refine qf_pure tabOk rfl rfl rfl ?_; refine qf_loadB tabOk rfl rfl rfl (by repeat first | exact .head _ | refine .tail _ ?_) (by rfl) ?_; refine qf_quoN rfl rfl rfl (by omega) (by omega) (by omega) ?_; refine qf_pure tabOk rfl rfl rfl ?_; refine qf_loadB tabOk rfl rfl rfl (by repeat first | exact .head _ | refine .tail _ ?_) (by rfl) ?_; refine qf_pure tabOk rfl rfl rfl ?_; refine qf_loadB tabOk rfl rfl rfl (by repeat first | exact .head _ | refine .tail _ ?_) (by rfl) ?_; refine qf_quoN rfl rfl rfl (by omega) (by omega) (by omega) ?_; refine qf_pure tabOk rfl rfl rfl ?_; refine qf_nil ?_)
  refine q_ifn rfl (fun hc => ?_) (fun hc => ?_)
  · have hc' : a / b ≠ c / d := by omega
    have hqn := quo_ne (show 0 < b by omega) (show 0 < d by omega) hc'
    (refine q_seq ?_)
    refine q_draw _ [] (Sp.refl _) (by kernel_rfl) (by kernel_rfl) ?_
    (refine qf_pure tabOk rfl rfl rfl ?_; refine qf_loadB tabOk rfl rfl rfl (by repeat first | exact .head _ | refine .tail _ ?_) (by rfl) ?_; refine qf_pure tabOk rfl rfl rfl ?_; refine qf_loadB tabOk rfl rfl rfl (by repeat first | exact .head _ | refine .tail _ ?_) (by rfl) ?_; refine qf_quoN rfl rfl rfl (by omega) (by omega) (by omega) ?_; refine qf_pure tabOk rfl rfl rfl ?_; refine qf_loadB tabOk rfl rfl rfl (by repeat first | exact .head _ | refine .tail _ ?_) (by rfl) ?_; refine qf_pure tabOk rfl rfl rfl ?_; refine qf_loadB tabOk rfl rfl rfl (by repeat first | exact .head _ | refine .tail _ ?_) (by rfl) ?_; refine qf_quoN rfl rfl rfl (by omega) (by omega) (by omega) ?_; (iterate 2 refine qf_pure tabOk rfl rfl rfl ?_); refine qf_nil ?_; refine q_ret ?_)
    refine q_fin tabOk rfl (by repeat (first | exact RVs.nil | apply RVs.tmp rfl | apply RVs.cellA rfl rfl (by repeat first | exact .head _ | refine .tail _ ?_) (by rfl) | apply RVs.cell1 rfl rfl (by repeat first | exact .head _ | refine .tail _ ?_))) fun w hs => ?_
    refine ⟨?_, hs.chg0⟩
    show Value.bool (decide (a / b < c / d)) = _
    by_cases hlt : a / b < c / d
    · rw [decide_eq_true hlt, hT (hqn.1 hlt)]
    · rw [decide_eq_false hlt, hF (fun hh => hlt (hqn.2 hh))]
  have hc' : a / b = c / d := by omega
  have hqe := quo_eq (b := c) (e := d) hc'
  (refine q_skip ?_; refine q_seq ?_)
  refine q_draw _ [] (Sp.refl _) (by kernel_rfl) (by kernel_rfl) ?_
  (refine qf_pure tabOk rfl rfl rfl ?_; refine qf_loadB tabOk rfl rfl rfl (by repeat first | exact .head _ | refine .tail _ ?_) (by rfl) ?_; refine qf_pure tabOk rfl rfl rfl ?_; refine qf_loadB tabOk rfl rfl rfl (by repeat first | exact .head _ | refine .tail _ ?_) (by rfl) ?_; refine qf_remN rfl rfl rfl (by omega) (by omega) ?_; refine qf_pure tabOk rfl rfl rfl ?_; refine qf_loadB tabOk rfl rfl rfl (by repeat first | exact .head _ | refine .tail _ ?_) (by rfl) ?_; refine qf_pure tabOk rfl rfl rfl ?_; refine qf_loadB tabOk rfl rfl rfl (by repeat first | exact .head _ | refine .tail _ ?_) (by rfl) ?_; refine qf_pure tabOk rfl rfl rfl ?_; refine qf_loadB tabOk rfl rfl rfl (by repeat first | exact .head _ | refine .tail _ ?_) (by rfl) ?_; refine qf_remN rfl rfl rfl (by omega) (by omega) ?_; refine qf_pure tabOk rfl rfl rfl ?_; refine qf_loadB tabOk rfl rfl rfl (by repeat first | exact .head _ | refine .tail _ ?_) (by rfl) ?_; (iterate 4 refine qf_pure tabOk rfl rfl rfl ?_); refine qf_nil ?_; refine q_seq ?_; refine q_block ?_)
  refine q_loop (σ := Int × Int × Int × Int) (fun s => 0 ≤ s.1 ∧ s.1 < s.2.1 ∧ s.2.1 < 4611686018427387904 ∧ 0 ≤ s.2.2.1 ∧ s.2.2.1 < s.2.2.2 ∧ s.2.2.2 < 4611686018427387904 ∧ (a * d < c * b ↔ s.1 * s.2.2.2 < s.2.2.1 * s.2.1)) (fun s => s.1.toNat) (fun s => [(5, .int .i64 s.1), (6, .int .i64 s.2.1), (7, .int .i64 s.2.2.1), (8, .int .i64 s.2.2.2)])
    (fun _ => []) (a % b, b, c % d, d) ⟨m1, m2, by simp only; omega, m3, m4, by simp only; omega, hqe⟩ ⟨rfl, rfl, rfl, rfl, trivial⟩ (by repeat (first | exact Sp.nil | exact Sp.refl _ | refine Sp.cons (by repeat constructor) ?_)) ?_
  rintro ⟨x, y, u, v⟩ ⟨g1, g2, g3, g4, g5, g6, g7⟩ K hK
  simp only at g1 g2 g3 g4 g5 g6 g7
  dsimp only
  clear q1 q2 q3 q4 m1 m2 m3 m4 hqe hc' hc
  by_cases hx : x = 0 ∨ u = 0
  · have hz := over_0 g1 (show 0 < y by omega) g4 (show 0 < v by omega) hx
    rcases Int.lt_or_eq_of_le g1 with hx0 | rfl
    · obtain rfl : u = 0 := by omega
      ((iterate 2 refine q_seq ?_); refine q_region ?_; refine ql_pure tabOk rfl rfl ?_; refine ql_gtrT tabOk rfl rfl rfl (by omega) ?_; refine ql_pure tabOk rfl rfl ?_; refine ql_gyes rfl ?_; refine ql_pure tabOk rfl rfl ?_; refine ql_gyes rfl ?_; refine ql_gtrF tabOk rfl rfl rfl (by omega) ?_; refine ql_pure tabOk rfl rfl ?_; refine q_nil ?_; refine q_cond_false rfl ?_; refine q_exit _ rfl ?_; refine q_seq ?_; refine q_region ?_; refine ql_pure tabOk rfl rfl ?_; refine ql_eqlF tabOk rfl rfl rfl (by omega) ?_; refine ql_pure tabOk rfl rfl ?_; (iterate 2 refine ql_gno rfl rfl rfl ?_); (iterate 2 refine ql_pure tabOk rfl rfl ?_); refine q_nil ?_; refine q_ret ?_)
      refine q_fin tabOk rfl (by repeat (first | exact RVs.nil | apply RVs.tmp rfl | apply RVs.cellA rfl rfl (by repeat first | exact .head _ | refine .tail _ ?_) (by rfl) | apply RVs.cell1 rfl rfl (by repeat first | exact .head _ | refine .tail _ ?_))) fun w hs => ?_
      refine ⟨?_, hs.chg0⟩
      rw [hF (fun h => by have := hz.1 (g7.1 h); omega)]
      rfl
    · ((iterate 2 refine q_seq ?_); refine q_region ?_; refine ql_pure tabOk rfl rfl ?_; refine ql_gtrF tabOk rfl rfl rfl (by omega) ?_; refine ql_pure tabOk rfl rfl ?_; (iterate 2 refine ql_gno rfl rfl rfl ?_); refine ql_pure tabOk rfl rfl ?_; refine q_nil ?_; refine q_cond_false rfl ?_; refine q_exit _ rfl ?_; refine q_seq ?_; refine q_region ?_; refine ql_pure tabOk rfl rfl ?_; refine ql_eqlT tabOk rfl rfl rfl (by omega) ?_; refine ql_pure tabOk rfl rfl ?_; refine ql_gyes rfl ?_; refine ql_pure tabOk rfl rfl ?_; refine ql_gyes rfl ?_; (iterate 3 refine ql_pure tabOk rfl rfl ?_); refine q_nil ?_; refine q_ret ?_)
      refine q_fin tabOk rfl (by repeat (first | exact RVs.nil | apply RVs.tmp rfl | apply RVs.cellA rfl rfl (by repeat first | exact .head _ | refine .tail _ ?_) (by rfl) | apply RVs.cell1 rfl rfl (by repeat first | exact .head _ | refine .tail _ ?_))) fun w hs => ?_
      refine ⟨?_, hs.chg0⟩
      show Value.bool (decide (0 < u)) = _
      by_cases hu : 0 < u
      · rw [decide_eq_true hu, hT (g7.2 (hz.2 ⟨rfl, hu⟩))]
      · rw [decide_eq_false hu, hF (fun h => hu (hz.1 (g7.1 h)).2)]
  have hx0 : 0 < x := by omega
  have hu0 : 0 < u := by omega
  have q1 := Int.ediv_nonneg (show 0 ≤ y by omega) (show 0 ≤ x by omega)
  have q2 := Int.ediv_nonneg (show 0 ≤ v by omega) (show 0 ≤ u by omega)
  have q3 := Int.ediv_le_self x (show 0 ≤ y by omega)
  have q4 := Int.ediv_le_self u (show 0 ≤ v by omega)
  have m1 := Int.emod_nonneg y (show x ≠ 0 by omega)
  have m2 := Int.emod_lt_of_pos y hx0
  have m3 := Int.emod_nonneg v (show u ≠ 0 by omega)
  have m4 := Int.emod_lt_of_pos v hu0
  ((iterate 2 refine q_seq ?_); refine q_region ?_; refine ql_pure tabOk rfl rfl ?_; refine ql_gtrT tabOk rfl rfl rfl (by omega) ?_; refine ql_pure tabOk rfl rfl ?_; refine ql_gyes rfl ?_; refine ql_pure tabOk rfl rfl ?_; refine ql_gyes rfl ?_; refine ql_gtrT tabOk rfl rfl rfl (by omega) ?_; refine ql_pure tabOk rfl rfl ?_; refine q_nil ?_; refine q_cond_true rfl ?_; refine q_skip ?_; refine q_block ?_; (iterate 2 refine q_seq ?_))
  refine q_draw _ [] (Sp.refl _) (by kernel_rfl) (by kernel_rfl) ?_
  ((iterate 2 refine qf_pure tabOk rfl rfl rfl ?_); refine qf_quoN rfl rfl rfl (by omega) (by omega) (by omega) ?_; (iterate 2 refine qf_pure tabOk rfl rfl rfl ?_); refine qf_quoN rfl rfl rfl (by omega) (by omega) (by omega) ?_; refine qf_pure tabOk rfl rfl rfl ?_; refine qf_nil ?_)
  refine q_ifn rfl (fun hc => ?_) (fun hc => ?_)
  · have hne : v / u ≠ y / x := by omega
    have hqn := quo_ne (a := v) (b := y) hu0 hx0 hne
    rw [Int.mul_comm v, Int.mul_comm y] at hqn
    (refine q_seq ?_)
    refine q_draw _ [] (Sp.refl _) (by kernel_rfl) (by kernel_rfl) ?_
    ((iterate 2 refine qf_pure tabOk rfl rfl rfl ?_); refine qf_quoN rfl rfl rfl (by omega) (by omega) (by omega) ?_; (iterate 2 refine qf_pure tabOk rfl rfl rfl ?_); refine qf_quoN rfl rfl rfl (by omega) (by omega) (by omega) ?_; (iterate 2 refine qf_pure tabOk rfl rfl rfl ?_); refine qf_nil ?_; refine q_ret ?_)
    refine q_fin tabOk rfl (by repeat (first | exact RVs.nil | apply RVs.tmp rfl | apply RVs.cellA rfl rfl (by repeat first | exact .head _ | refine .tail _ ?_) (by rfl) | apply RVs.cell1 rfl rfl (by repeat first | exact .head _ | refine .tail _ ?_))) fun w hs => ?_
    refine ⟨?_, hs.chg0⟩
    show Value.bool (decide (v / u < y / x)) = _
    by_cases hlt : v / u < y / x
    · rw [decide_eq_true hlt, hT (g7.2 (hqn.1 hlt))]
    · rw [decide_eq_false hlt, hF (fun hh => hlt (hqn.2 (g7.1 hh)))]
  have heq : v / u = y / x := by omega
  have hqe := quo_eq (a := v) (b := y) (d := u) (e := x) heq
  rw [Int.mul_comm v, Int.mul_comm y] at hqe
  have g8 := g7.trans hqe
  clear hc
  (refine q_skip ?_; refine q_seq ?_)
  refine q_draw _ [] (Sp.refl _) (by kernel_rfl) (by kernel_rfl) ?_
  ((iterate 2 refine qf_pure tabOk rfl rfl rfl ?_); refine qf_remN rfl rfl rfl (by omega) (by omega) ?_; (iterate 3 refine qf_pure tabOk rfl rfl rfl ?_); refine qf_remN rfl rfl rfl (by omega) (by omega) ?_; (iterate 5 refine qf_pure tabOk rfl rfl rfl ?_); refine qf_nil ?_; (iterate 2 refine q_seq ?_); refine q_region ?_; (iterate 3 refine ql_pure tabOk rfl rfl ?_))
  obtain ⟨x', hx'⟩ : ∃ z, z = y % x := ⟨_, rfl⟩
  obtain ⟨u', hu'⟩ : ∃ z, z = v % u := ⟨_, rfl⟩
  rw [← hx', ← hu'] at g8 ⊢
  rw [← hx'] at m1 m2
  rw [← hu'] at m3 m4
  by_cases hz' : x' = 0 ∨ u' = 0
  · have hz := over_0 m3 hu0 m1 hx0 (Or.comm.1 hz')
    rcases Int.lt_or_eq_of_le m1 with hx1 | rfl
    · obtain rfl : u' = 0 := by omega
      rw [decide_eq_false (show ¬ x' = 0 by omega)]
      (refine ql_gyes rfl ?_; refine ql_pure tabOk rfl rfl ?_; refine ql_gyes rfl ?_; refine ql_eqlT tabOk rfl rfl rfl (by omega) ?_; refine ql_pure tabOk rfl rfl ?_; refine q_nil ?_; refine q_cond_true rfl ?_; refine q_seq ?_; refine q_region ?_; refine ql_pure tabOk rfl rfl ?_; refine ql_neqT tabOk rfl rfl rfl (by omega) ?_; refine ql_pure tabOk rfl rfl ?_; refine ql_gyes rfl ?_; refine ql_pure tabOk rfl rfl ?_; refine ql_gyes rfl ?_; refine ql_eqlT tabOk rfl rfl rfl (by omega) ?_; (iterate 2 refine ql_pure tabOk rfl rfl ?_); refine q_nil ?_; refine q_ret ?_)
      refine q_fin tabOk rfl (by repeat (first | exact RVs.nil | apply RVs.tmp rfl | apply RVs.cellA rfl rfl (by repeat first | exact .head _ | refine .tail _ ?_) (by rfl) | apply RVs.cell1 rfl rfl (by repeat first | exact .head _ | refine .tail _ ?_))) fun w hs => ?_
      refine ⟨?_, hs.chg0⟩
      rw [hT (g8.2 (hz.2 ⟨rfl, hx1⟩))]
      rfl
    · rw [decide_eq_true (rfl : (0 : Int) = 0)]
      ((iterate 2 refine ql_gno rfl rfl rfl ?_); refine ql_pure tabOk rfl rfl ?_; refine q_nil ?_; refine q_cond_true rfl ?_; refine q_seq ?_; refine q_region ?_; refine ql_pure tabOk rfl rfl ?_; refine ql_neqF tabOk rfl rfl rfl (by omega) ?_; refine ql_pure tabOk rfl rfl ?_; (iterate 2 refine ql_gno rfl rfl rfl ?_); (iterate 2 refine ql_pure tabOk rfl rfl ?_); refine q_nil ?_; refine q_ret ?_)
      refine q_fin tabOk rfl (by repeat (first | exact RVs.nil | apply RVs.tmp rfl | apply RVs.cellA rfl rfl (by repeat first | exact .head _ | refine .tail _ ?_) (by rfl) | apply RVs.cell1 rfl rfl (by repeat first | exact .head _ | refine .tail _ ?_))) fun w hs => ?_
      refine ⟨?_, hs.chg0⟩
      rw [hF (fun h => by have := hz.1 (g8.1 h); omega)]
      rfl
  have hx1 : 0 < x' := by omega
  have hu1 : 0 < u' := by omega
  have p1 := Int.ediv_nonneg (show 0 ≤ x by omega) m1
  have p2 := Int.ediv_nonneg (show 0 ≤ u by omega) m3
  have p3 := Int.ediv_le_self x' (show 0 ≤ x by omega)
  have p4 := Int.ediv_le_self u' (show 0 ≤ u by omega)
  have n1 := Int.emod_nonneg x (show x' ≠ 0 by omega)
  have n2 := Int.emod_lt_of_pos x hx1
  have n3 := Int.emod_nonneg u (show u' ≠ 0 by omega)
  have n4 := Int.emod_lt_of_pos u hu1
  rw [decide_eq_false (show ¬ x' = 0 by omega)]
  (refine ql_gyes rfl ?_; refine ql_pure tabOk rfl rfl ?_; refine ql_gyes rfl ?_; refine ql_eqlF tabOk rfl rfl rfl (by omega) ?_; refine ql_pure tabOk rfl rfl ?_; refine q_nil ?_; refine q_cond_false rfl ?_; refine q_skip ?_; (iterate 2 refine q_seq ?_))
  refine q_draw _ [] (Sp.refl _) (by kernel_rfl) (by kernel_rfl) ?_
  ((iterate 2 refine qf_pure tabOk rfl rfl rfl ?_); refine qf_quoN rfl rfl rfl (by omega) (by omega) (by omega) ?_; (iterate 2 refine qf_pure tabOk rfl rfl rfl ?_); refine qf_quoN rfl rfl rfl (by omega) (by omega) (by omega) ?_; refine qf_pure tabOk rfl rfl rfl ?_; refine qf_nil ?_)
  refine q_ifn rfl (fun hc => ?_) (fun hc => ?_)
  · have hne : x / x' ≠ u / u' := by omega
    have hqn := quo_ne (a := x) (b := u) hx1 hu1 hne
    rw [Int.mul_comm x, Int.mul_comm u] at hqn
    (refine q_seq ?_)
    refine q_draw _ [] (Sp.refl _) (by kernel_rfl) (by kernel_rfl) ?_
    ((iterate 2 refine qf_pure tabOk rfl rfl rfl ?_); refine qf_quoN rfl rfl rfl (by omega) (by omega) (by omega) ?_; (iterate 2 refine qf_pure tabOk rfl rfl rfl ?_); refine qf_quoN rfl rfl rfl (by omega) (by omega) (by omega) ?_; (iterate 2 refine qf_pure tabOk rfl rfl rfl ?_); refine qf_nil ?_; refine q_ret ?_)
    refine q_fin tabOk rfl (by repeat (first | exact RVs.nil | apply RVs.tmp rfl | apply RVs.cellA rfl rfl (by repeat first | exact .head _ | refine .tail _ ?_) (by rfl) | apply RVs.cell1 rfl rfl (by repeat first | exact .head _ | refine .tail _ ?_))) fun w hs => ?_
    refine ⟨?_, hs.chg0⟩
    show Value.bool (decide (x / x' < u / u')) = _
    by_cases hlt : x / x' < u / u'
    · rw [decide_eq_true hlt, hT (g8.2 (hqn.1 hlt))]
    · rw [decide_eq_false hlt, hF (fun hh => hlt (hqn.2 (g8.1 hh)))]
  have heq2 : x / x' = u / u' := by omega
  have hqe2 := quo_eq (a := x) (b := u) (d := x') (e := u') heq2
  rw [Int.mul_comm x, Int.mul_comm u] at hqe2
  (refine q_skip ?_)
  refine q_draw _ [] (Sp.refl _) (by kernel_rfl) (by kernel_rfl) ?_
  ((iterate 2 refine qf_pure tabOk rfl rfl rfl ?_); refine qf_remN rfl rfl rfl (by omega) (by omega) ?_; (iterate 3 refine qf_pure tabOk rfl rfl rfl ?_); refine qf_remN rfl rfl rfl (by omega) (by omega) ?_; (iterate 5 refine qf_pure tabOk rfl rfl rfl ?_); refine qf_nil ?_; refine q_blk ?_)
  exact hK (x % x', x', u % u', u') _ _ ⟨n1, n2, by simp only; omega, n3, n4, by simp only; omega, g8.trans hqe2⟩ (by simp only; omega) ⟨rfl, rfl, rfl, rfl, trivial⟩ (by repeat (first | exact Sp.nil | exact Sp.refl _ | refine Sp.cons (by repeat constructor) ?_))
end Go.Proofs.Ytohlillcaadidaa

/- Walks: lists of spans of our own; ranges of our own; rules and winds that are dealt; what impacts hit. -/
namespace Go.Proofs.Ytohlillcaadidaa
open Go Go.Eng

def spC (l : List (Int × Int)) : List Value := l.flatMap fun x => [.int .i64 x.1, .int .i64 x.2]
theorem cells_sp (l : List (Int × Int)) : cellsOf (l.map rtV) = spC l := by
  induction l with
  | nil => rfl
  | cons x l ih => simp only [List.map_cons, cellsOf, spC, List.flatMap_cons] at ih ⊢; rw [ih]; rfl
theorem Sat.rdSp {w0 w : World} {M : Nat → Prop} {H : List Ck} {v : Value} {l : List (Int × Int)} {t k : Nat} (h : Sat w0 M H w) (hc : Ck.ow v t 2 k (spC l) ∈ H) (hk : k = l.length) : RdS w 0 w.heap.size v l := by
  refine RdE.ofOwn (base := 0) (t := t) ?_ (fun e he => by obtain ⟨x, _, rfl⟩ := List.mem_map.1 he; rfl)
  rw [cells_sp, List.length_map, ← hk]
  exact h.all _ hc
theorem slSP : SlT Try.prog 61 64 2 16 (.agg #[.int .i64 0, .int .i64 0]) := ⟨by kernel_rfl, by kernel_rfl, by kernel_rfl, by decide⟩
theorem Blk.rdSp {w : World} {b : Nat} {x y : Int} {t : TypeId} (h : Blk w b [.int .i64 x, .int .i64 y] t) : Rd w b (b + 1) (.slice (some ⟨b, 0, none⟩) 1 1) 2 1 [.int .i64 x, .int .i64 y] :=
  ⟨rfl, .inr ⟨b, 0, 1, rfl, fun _ => ⟨Nat.le_refl _, Nat.lt_succ_self _, h.lt⟩, fun j _ => by rw [Blk.cell h]; simp⟩⟩

/-- The form of a range's cells. -/
def FormR (cs : List Value) (r : Rg) : Prop := ∃ ag cg ad cd af cf an cn, cs = [.int .i64 r.radius, .int .i64 r.unit, .int .i64 r.clicks, .int .i64 r.total, .slice ag r.group.length cg, .slice ad r.drifts.length cd, .slice af r.first.length cf, .slice an r.next.length cn]
theorem OwnR.form {L : List Ck} {cs : List Value} {r : Rg} {w0 w : World} {M : Nat → Prop} {H : List Ck} (h : OwnR L cs r) (hs : Sat w0 M H w) (hm : un L ∈ H) : FormR cs r := by
  obtain ⟨lo, hi, ag, cg, ad, cd, af, cf, an, cn, h1, _⟩ := h.at hs hm
  exact ⟨ag, cg, ad, cd, af, cf, an, cn, h1⟩
theorem OwnR.form2 {L : List Ck} {cs : List Value} {r : Rg} {w0 w : World} {M : Nat → Prop} {H : List Ck} (h : OwnR L cs r) (hr : r.Right) (hs : Sat w0 M H w) (hm : un L ∈ H) :
    ∃ bg og cg bd od cd bf of_ cf bn on_ cn, cs = [.int .i64 r.radius, .int .i64 r.unit, .int .i64 r.clicks, .int .i64 r.total, .slice (some ⟨bg, og, none⟩) r.group.length cg, .slice (some ⟨bd, od, none⟩) r.drifts.length cd, .slice (some ⟨bf, of_, none⟩) r.first.length cf, .slice (some ⟨bn, on_, none⟩) r.next.length cn] := by
  have h1 := hr.g1
  have h2 := hr.d1
  have h3 := hr.first
  have h4 := hr.next
  obtain ⟨lo, hi, ag, cg, ad, cd, af, cf, an, cn, he, g1, g2, g3, g4⟩ := h.at hs hm
  obtain ⟨_, _, e1, k1⟩ := RdI.outI g1
  obtain ⟨_, _, e2, k2⟩ := RdI.outI g2
  obtain ⟨_, _, e3, k3⟩ := RdI.outI g3
  obtain ⟨_, _, e4, k4⟩ := RdII.outI g4
  cases e1; cases e2; cases e3; cases e4
  obtain ⟨bg, og, rfl⟩ := k1 (by omega)
  obtain ⟨bd, od, rfl⟩ := k2 (by omega)
  obtain ⟨bf, of_, rfl⟩ := k3 (by omega)
  obtain ⟨bn, on_, rfl⟩ := k4 (by omega)
  exact ⟨_, _, _, _, _, _, _, _, _, _, _, _, he⟩
theorem MadeR.low {s c : Nat} {r : Rg} (h : MadeR s c 4 r) : r.Low := ⟨h.right, h.total, by have := h.gsum; have := h.group; omega⟩
theorem MadeR.low' {s c d : Nat} {r : Rg} (hd : d ≤ 4) (h : MadeR s c d r) : r.Low := ⟨h.right, h.total, by have := h.gsum; have := h.group; omega⟩

theorem ruled_ca (W : Nat) (hW : W ≤ 3) (K : Nat) (hK : K < 100000) (w : World) (b lo hi : Nat) (bs : Value) (hby : DkB w lo hi bs) (hlh : hi ≤ b) (hd : DkS w b bs K) :
    Ca Try.prog 39 [.pointer (some ⟨b, 0, none⟩), .int .i64 W] w fun v w' => ∃ p : Ru, (v = .agg #[.int .i64 p.miss, .int .i64 p.click, .int .i64 p.wait, .int .i64 p.waits] ∧ (0 ≤ p.miss ∧ p.miss ≤ 390) ∧ (0 ≤ p.click ∧ p.click ≤ 59) ∧ (0 ≤ p.wait ∧ p.wait ≤ 79) ∧ 0 ≤ p.waits ∧ p.waits ≤ W) ∧ Sat w (fun x => x = b) [dkP bs b (K + 4)] w' := by
  refine q_of (dk_sat hd) Try.func39 rfl (by simp [Try.ntmps39]) ?_
  (refine q_seq ?_; refine q_region ?_)
  refine ql_alloc zero27 rfl (fun b4 => ?_)
  (refine q_nil ?_; refine q_seq ?_; refine q_region ?_; refine ql_pure tabOk rfl rfl ?_)
  refine ql_call (β := Int) (ψ := fun x v => v = .int .i64 x ∧ 0 ≤ x ∧ (x < 40 ∨ x = 0)) (L' := fun _ => [dkP bs b (K + 1)]) tabOk [dkP bs b K] _ (fun x => x = b) rfl rfl rfl rfl (Sp.cons (by repeat constructor) (Sp.refl _)) (fun x hx => ⟨_, .head _, hx⟩) (fun w' hs => drawP_ca 40 K (by omega) w' b lo hi bs (hby.keepP hlh hs.chg) hlh (hs.all _ (.head _))) ?_
  rintro mi _ ⟨rfl, hmi⟩
  (refine ql_ar tabOk rfl rfl rfl rfl (by omega) (by omega) ?_; refine ql_pure tabOk rfl rfl ?_)
  refine ql_call (β := Int) (ψ := fun x v => v = .int .i64 x ∧ 0 ≤ x ∧ (x < 60 ∨ x = 0)) (L' := fun _ => [dkP bs b (K + 2)]) tabOk [dkP bs b (K + 1)] _ (fun x => x = b) rfl rfl rfl rfl (Sp.cons (by repeat constructor) (Sp.refl _)) (fun x hx => ⟨_, .head _, hx⟩) (fun w' hs => drawP_ca 60 (K + 1) (by omega) w' b lo hi bs (hby.keepP hlh hs.chg) hlh (hs.all _ (.head _))) ?_
  rintro cl _ ⟨rfl, hcl⟩
  (refine ql_pure tabOk rfl rfl ?_)
  refine ql_call (β := Int) (ψ := fun x v => v = .int .i64 x ∧ 0 ≤ x ∧ (x < 80 ∨ x = 0)) (L' := fun _ => [dkP bs b (K + 3)]) tabOk [dkP bs b (K + 2)] _ (fun x => x = b) rfl rfl rfl rfl (Sp.cons (by repeat constructor) (Sp.refl _)) (fun x hx => ⟨_, .head _, hx⟩) (fun w' hs => drawP_ca 80 (K + 2) (by omega) w' b lo hi bs (hby.keepP hlh hs.chg) hlh (hs.all _ (.head _))) ?_
  rintro wa _ ⟨rfl, hwa⟩
  ((iterate 2 refine ql_pure tabOk rfl rfl ?_); refine ql_ar tabOk rfl rfl rfl rfl (by omega) (by omega) ?_)
  refine ql_call (β := Int) (ψ := fun x v => v = .int .i64 x ∧ 0 ≤ x ∧ (x < (W : Int) + 1 ∨ x = 0)) (L' := fun _ => [dkP bs b (K + 4)]) tabOk [dkP bs b (K + 3)] _ (fun x => x = b) rfl rfl rfl rfl (Sp.cons (by repeat constructor) (Sp.refl _)) (fun x hx => ⟨_, .head _, hx⟩) (fun w' hs => drawP_ca ((W : Int) + 1) (K + 3) (by omega) w' b lo hi bs (hby.keepP hlh hs.chg) hlh (hs.all _ (.head _))) ?_
  rintro ws _ ⟨rfl, hws⟩
  skip
  refine ql_mk #[.int .i64 (10 * mi), .int .i64 cl, .int .i64 wa, .int .i64 ws] rfl (by kernel_rfl) rfl ?_
  (refine ql_setA tabOk rfl rfl rfl rfl rfl (by repeat constructor) rfl ?_; refine q_nil ?_; refine q_ret ?_)
  refine q_fin tabOk rfl (by repeat (first | exact RVs.nil | apply RVs.tmp rfl | apply RVs.cellA rfl rfl (by repeat first | exact .head _ | refine .tail _ ?_) (by rfl) | apply RVs.cell1 rfl rfl (by repeat first | exact .head _ | refine .tail _ ?_))) fun w hs => ?_
  refine ⟨⟨10 * mi, cl, wa, ws⟩, ⟨rfl, ?_⟩, hs.sp (by repeat (first | exact Sp.nil | exact Sp.refl _ | refine Sp.cons (by repeat constructor) ?_))⟩
  simp only
  omega
theorem ruled0 {W K b : Nat} {bs : Value} {w0 w : World} {R : List Ck} (hW : W ≤ 3) (hby : DkB w0 0 w0.heap.size bs) (hs : Sat w0 M0 (dkP bs b K :: R) w) (hK : K < 100000) :
    Ca Try.prog 39 [.pointer (some ⟨b, 0, none⟩), .int .i64 W] w fun v w' => ∃ p : Ru, (v = .agg #[.int .i64 p.miss, .int .i64 p.click, .int .i64 p.wait, .int .i64 p.waits] ∧ (0 ≤ p.miss ∧ p.miss ≤ 390) ∧ (0 ≤ p.click ∧ p.click ≤ 59) ∧ (0 ≤ p.wait ∧ p.wait ≤ 79) ∧ 0 ≤ p.waits ∧ p.waits ≤ W) ∧ Sat w (fun x => x = b) [dkP bs b (K + 4)] w' :=
  ruled_ca W hW K hK w b 0 w0.heap.size _ (hby.keep hs.chg0) (dk_new hs) (hs.all _ (.head _))

/-- Winds that were dealt. -/
def BlownW (ws : List (Int × Int)) : Prop := ws.length = 5 ∧ ∀ s ∈ ws, -15 ≤ s.1 ∧ s.1 ≤ 10 ∧ s.1 ≤ s.2 ∧ s.2 ≤ s.1 + 8
theorem BlownW.ok {ws : List (Int × Int)} (h : BlownW ws) : WindOk ws := ⟨h.1, fun s hs => by have := h.2 s hs; omega⟩
set_option maxHeartbeats 1000000 in
theorem blownL_ca (K : Nat) (hK : K < 100000) (w : World) (b lo hi : Nat) (bs : Value) (hby : DkB w lo hi bs) (hlh : hi ≤ b) (hd : DkS w b bs K) :
    Ca Try.prog 46 [.pointer (some ⟨b, 0, none⟩)] w fun v w' => ∃ x : Value × List (Int × Int), (v = x.1 ∧ BlownW x.2) ∧ Sat w (fun x => x = b) [.ow x.1 64 2 5 (spC x.2), dkP bs b (K + 10)] w' := by
  refine q_of (dk_sat hd) Try.func46 rfl (by simp [Try.ntmps46]) ?_
  (refine q_seq ?_; refine q_region ?_; refine ql_pure tabOk rfl rfl ?_; refine q_nil ?_; refine q_seq ?_; refine q_region ?_; refine ql_pure tabOk rfl rfl ?_; refine q_nil ?_; (iterate 2 refine q_seq ?_); refine q_region ?_; refine ql_pure tabOk rfl rfl ?_; refine q_nil ?_; refine q_block ?_)
  refine q_conv (H' := [.ow (.slice none 0 0) 64 2 0 (spC []), dkP bs b (K + 2 * 0)]) (fun w' hs => Sat.ownil hs _ _) ?_
  refine q_loop (σ := Nat × Value × List (Int × Int)) (fun s => s.1 ≤ 5 ∧ s.2.2.length = s.1 ∧ ∀ x ∈ s.2.2, -15 ≤ x.1 ∧ x.1 ≤ 10 ∧ x.1 ≤ x.2 ∧ x.2 ≤ x.1 + 8) (fun s => 5 - s.1) (fun s => [(0, .pointer (some ⟨b, 0, none⟩)), (3, s.2.1), (5, .int .i64 s.1)])
    (fun s => [.ow s.2.1 64 2 s.1 (spC s.2.2), dkP bs b (K + 2 * s.1)]) (0, .slice none 0 0, []) ⟨by omega, rfl, by simp⟩ ⟨rfl, rfl, rfl, trivial⟩ (Sp.refl _) ?_
  rintro ⟨k, v, l⟩ ⟨hk, hl, hlb⟩ K2 hK2
  simp only at hk hl hlb
  dsimp only
  (refine q_seq ?_; refine q_region ?_; refine ql_pure tabOk rfl rfl ?_; refine q_nil ?_; refine q_seq ?_)
  refine q_if rfl (fun hc => ?_) (fun hc => ?_)
  · have hk2 : k < 5 := by omega
    clear hc
    (refine q_skip ?_; refine q_seq ?_; refine q_block ?_; refine q_seq ?_; refine q_region ?_; refine ql_pure tabOk rfl rfl ?_)
    refine ql_call (β := Int) (ψ := fun x v => v = .int .i64 x ∧ -15 ≤ x ∧ x ≤ 10) (L' := fun _ => [dkP bs b (K + 2 * k + 1)]) tabOk [dkP bs b (K + 2 * k)] _ (fun x => x = b) rfl rfl rfl rfl (Sp.cons (by repeat constructor) (Sp.refl _)) (fun x hx => ⟨_, .head _, hx⟩) (fun w' hs => between_ca (-15) 10 (by omega) (by omega) (by omega) (K + 2 * k) (by omega) w' b lo hi bs (hby.keepP hlh hs.chg) hlh (hs.all _ (.head _))) ?_
    rintro x _ ⟨rfl, hx⟩
    (refine ql_pure tabOk rfl rfl ?_; refine q_nil ?_; refine q_region ?_; (iterate 4 refine ql_pure tabOk rfl rfl ?_))
    refine ql_call (β := Int) (ψ := fun x v => v = .int .i64 x ∧ 0 ≤ x ∧ (x < 9 ∨ x = 0)) (L' := fun _ => [dkP bs b (K + 2 * k + 2)]) tabOk [dkP bs b (K + 2 * k + 1)] _ (fun x => x = b) rfl rfl rfl rfl (Sp.cons (by repeat constructor) (Sp.refl _)) (fun x hx => ⟨_, .head _, hx⟩) (fun w' hs => drawP_ca 9 (K + 2 * k + 1) (by omega) w' b lo hi bs (hby.keepP hlh hs.chg) hlh (hs.all _ (.head _))) ?_
    rintro y _ ⟨rfl, hy⟩
    (refine ql_ar tabOk rfl rfl rfl rfl (by omega) (by omega) ?_)
    refine ql_mk #[.int .i64 x, .int .i64 (x + y)] rfl (by kernel_rfl) rfl ?_
    refine ql_mkS 64 [.int .i64 x, .int .i64 (x + y)] rfl (by kernel_rfl) rfl (fun bn => ?_)
    refine ql_append (q := 1) slSP rfl rfl rfl (fun v' => by repeat constructor) (fun w' hs => ⟨_, _, Blk.rdSp (hs.blk (b := bn) (by repeat first | exact .head _ | refine .tail _ ?_))⟩) (by simp [oneV]) (by omega) (by omega) (fun v' => ?_)
    (refine ql_pure tabOk rfl rfl ?_; refine q_nil ?_; refine q_blk ?_; refine q_region ?_; refine ql_ar tabOk rfl rfl rfl rfl (by omega) (by omega) ?_; refine ql_pure tabOk rfl rfl ?_; refine q_nil ?_)
    have e1 : spC (l ++ [(x, x + y)]) = spC l ++ [.int .i64 x, .int .i64 (x + y)] := by simp [spC]
    have e3 : K + 2 * (k + 1) = K + 2 * k + 2 := by omega
    refine hK2 (k + 1, v', l ++ [(x, x + y)]) _ _ ⟨by simp only; omega, by simp [hl], fun z hz => ?_⟩ (by simp only; omega) ⟨rfl, rfl, rfl, trivial⟩ (by simp only [e1, e3]; repeat (first | exact Sp.nil | exact Sp.refl _ | refine Sp.cons (by repeat constructor) ?_))
    rcases List.mem_append.1 hz with hz | hz
    · exact hlb z hz
    · rw [List.mem_singleton.1 hz]
      simp only
      omega
  · obtain rfl : k = 5 := by omega
    (refine q_exit _ rfl ?_; refine q_seq ?_; refine q_region ?_; (iterate 2 refine ql_pure tabOk rfl rfl ?_); refine q_nil ?_; refine q_ret ?_)
    refine q_fin tabOk rfl (by repeat (first | exact RVs.nil | apply RVs.tmp rfl | apply RVs.cellA rfl rfl (by repeat first | exact .head _ | refine .tail _ ?_) (by rfl) | apply RVs.cell1 rfl rfl (by repeat first | exact .head _ | refine .tail _ ?_))) fun w hs => ?_
    exact ⟨(v, l), ⟨rfl, hl, hlb⟩, hs.sp (by repeat (first | exact Sp.nil | exact Sp.refl _ | refine Sp.cons (by repeat constructor) ?_))⟩
theorem blown0 {K b : Nat} {bs : Value} {w0 w : World} {R : List Ck} (hby : DkB w0 0 w0.heap.size bs) (hs : Sat w0 M0 (dkP bs b K :: R) w) (hK : K < 100000) :
    Ca Try.prog 46 [.pointer (some ⟨b, 0, none⟩)] w fun v w' => ∃ x : Value × List (Int × Int), (v = x.1 ∧ BlownW x.2) ∧ Sat w (fun x => x = b) [.ow x.1 64 2 5 (spC x.2), dkP bs b (K + 10)] w' :=
  blownL_ca K hK w b 0 w0.heap.size _ (hby.keep hs.chg0) (dk_new hs) (hs.all _ (.head _))

/-! What impacts hit. -/
def hitN (r : Rg) (l : List Int) (c : Int) (n : Nat) : Int := sumR (fun i => if hitB r (l.getD i 0 + c * r.unit) then 1 else 0) n
theorem hitN_zer (r : Rg) (l : List Int) (c : Int) : ∀ n, hitN r l c n = n - zerN r l c n
  | 0 => by simp [hitN, zerN, sumR]
  | n + 1 => by
    have ih := hitN_zer r l c n
    simp only [hitN, zerN, sumR] at ih ⊢
    rw [ih]
    split <;> omega
theorem hitN_bd (r : Rg) (l : List Int) (c : Int) (n : Nat) : 0 ≤ hitN r l c n ∧ hitN r l c n ≤ n := by
  have := zerN_bd r l c n
  rw [hitN_zer]
  omega
/-- The click with which most impacts would have been hits. -/
theorem zero_of {r : Rg} (hr : r.Right) (l : List Int) (hlen : l.length ≤ 20) (hb : ∀ x ∈ l, -1000 ≤ x ∧ x ≤ 1000) : ∃ m, zeroV r l = (m, 0) ∧ (-r.clicks ≤ m ∧ m ≤ r.clicks) ∧ (∀ c, -r.clicks ≤ c ∧ c ≤ r.clicks → hitN r l c l.length ≤ hitN r l m l.length) ∧
    ∀ c, -r.clicks ≤ c ∧ c ≤ r.clicks → hitN r l c l.length = hitN r l m l.length → ¬ (c * c < m * m ∨ c = -m ∧ c < m) := by
  obtain ⟨m, h1, h2, h3, h4⟩ := best_law (zerQ r l) (fun c => zerN r l c l.length) r.clicks hr.clicks.1 (fun a b _ _ => less_ratio (by omega) (zerN_bd r l a _).1 (zerN_bd r l b _).1)
  refine ⟨m, ?_, h2, fun c hc => ?_, fun c hc he => h4 c hc ?_⟩
  · have hc := (right_check r).2 hr
    have e : l.all (fun n => inB n (-1000) 1000) = true := List.all_eq_true.2 fun n hn => inB_iff.2 (hb n hn)
    unfold zeroV
    rw [hc, e, h1, if_neg (by simp), if_neg (by omega)]
    rfl
  · have := h3 c hc
    simp only [hitN_zer]
    omega
  · simp only [hitN_zer] at he
    show zerN r l c l.length = zerN r l m l.length
    omega
set_option maxHeartbeats 1000000 in
theorem hitsC_ca (w : World) (b24 b23 lo hi : Nat) (t24 : TypeId) (r : Rg) (v : Value) (l : List Int) (c : Int) (hb24 : Blk w b24 [v] t24) (hd : DkAt w b23 r) (hr : r.Right) (hl : RdI w lo hi v l) (hlen : l.length ≤ 20) (hbl : ∀ x ∈ l, -1000 ≤ x ∧ x ≤ 1000) (hcb : -1000 ≤ c ∧ c ≤ 1000) :
    Ca Try.prog 45 [.int .i64 c, .pointer (some ⟨b24, 0, none⟩), .pointer (some ⟨b23, 0, none⟩)] w fun v w' => v = .int .i64 (hitN r l c l.length) ∧ Chg [] w w' := by
  have hd0 := hd
  obtain ⟨cs, bt, hblk, lo, hi, ag, cg, ad, cd, af, cf, an, cn, rfl, hg, hdr, hf, hn⟩ := hd
  have hun := hr.unit
  have hra := hr.radius
  obtain ⟨a, cap, rfl, hs⟩ := RdI.outI hl
  refine q_of (Sat.nil w M0) Try.func45 rfl (by simp [Try.ntmps45]) ?_
  (refine q_seq ?_; refine q_region ?_; refine ql_pure tabOk rfl rfl ?_; refine q_nil ?_; refine q_seq ?_; refine q_region ?_; refine ql_pure tabOk rfl rfl ?_; refine q_nil ?_; (iterate 2 refine q_seq ?_); refine q_region ?_; refine ql_loadP tabOk rfl rfl rfl (by assumption) (by rfl) ?_; (iterate 2 refine ql_pure tabOk rfl rfl ?_); refine q_nil ?_; refine q_block ?_)
  refine q_loop (σ := Nat) (fun k => k ≤ l.length) (fun k => l.length - k) (fun k => [(0, .int .i64 c), (2, .pointer (some ⟨b23, 0, none⟩)), (5, .int .i64 (hitN r l c k)), (9, .slice a l.length cap), (10, .int .i64 l.length), (11, .int .i64 k)])
    (fun _ => []) 0 (by omega) ⟨rfl, rfl, rfl, rfl, rfl, rfl, trivial⟩ (by repeat (first | exact Sp.nil | exact Sp.refl _ | refine Sp.cons (by repeat constructor) ?_)) ?_
  intro k hk K hK
  have hzb := hitN_bd r l c k
  (refine q_seq ?_; refine q_region ?_; refine ql_pure tabOk rfl rfl ?_; refine q_nil ?_; refine q_seq ?_)
  refine q_if rfl (fun hc => ?_) (fun hc => ?_)
  · have hk : k < l.length := by omega
    obtain ⟨b0, off, rfl⟩ := hs (by omega)
    have h1 := hbl _ (List.getElem_mem hk)
    have h2 := mul_bd (A := 1000) (B := 20) hcb (show -20 ≤ r.unit ∧ r.unit ≤ 20 by omega)
    have h3 : hitN r l c (k + 1) = hitN r l c k + (if hitB r (l[k] + c * r.unit) then 1 else 0) := by simp [hitN, sumR, hk]
    (refine q_skip ?_; refine q_seq ?_; refine q_block ?_; refine q_seq ?_; refine q_region ?_)
    (refine ql_index tabOk rfl rfl rfl rfl rfl (by omega) (by omega) ?_; refine ql_load1 tabOk rfl rfl rfl (fun w hs => RdI.at (RdE.keep hl hs.chg0) k hk) ?_)
    (refine ql_pure tabOk rfl rfl ?_; refine q_nil ?_; refine q_seq ?_; refine q_region ?_; (iterate 3 refine ql_pure tabOk rfl rfl ?_); refine ql_loadP tabOk rfl rfl rfl (by assumption) (by rfl) ?_; (iterate 2 refine ql_ar tabOk rfl rfl rfl rfl (by omega) (by omega) ?_); refine ql_pure tabOk rfl rfl ?_; refine q_nil ?_; refine q_seq ?_; refine q_region ?_; (iterate 2 refine ql_pure tabOk rfl rfl ?_); refine ql_loadP tabOk rfl rfl rfl (by assumption) (by rfl) ?_; (iterate 2 refine ql_pure tabOk rfl rfl ?_))
    cases hh : hitB r (l[k] + c * r.unit) with
    | true =>
      have hin := inB_iff.1 hh
      rw [hh] at h3
      rw [decide_eq_true (show l[k] + c * r.unit ≤ r.radius by omega)]
      (refine ql_gyes rfl ?_; refine ql_pure tabOk rfl rfl ?_; refine ql_gyes rfl ?_; refine ql_neg tabOk rfl rfl (by omega) (by omega) ?_; refine ql_gyes rfl ?_; refine ql_pure tabOk rfl rfl ?_; refine ql_gyes rfl ?_; refine ql_loadP tabOk rfl rfl rfl (by assumption) (by rfl) ?_; refine ql_gyes rfl ?_; refine ql_leqT tabOk rfl rfl rfl (by omega) ?_; refine ql_pure tabOk rfl rfl ?_; refine q_nil ?_; refine q_cond_true rfl ?_; refine q_region ?_; refine ql_pure tabOk rfl rfl ?_; refine ql_ar tabOk rfl rfl rfl rfl (by omega) (by omega) ?_; refine ql_pure tabOk rfl rfl ?_; refine q_nil ?_; refine q_blk ?_; refine q_region ?_; refine ql_ar tabOk rfl rfl rfl rfl (by omega) (by omega) ?_; refine ql_pure tabOk rfl rfl ?_; refine q_nil ?_)
      exact hK (k + 1) _ _ (by omega) (by omega) ⟨rfl, rfl, lookI rfl (by rw [h3]; simp), rfl, rfl, rfl, trivial⟩ (by repeat (first | exact Sp.nil | exact Sp.refl _ | refine Sp.cons (by repeat constructor) ?_))
    | false =>
      have hin : ¬ (-r.radius ≤ l[k] + c * r.unit ∧ l[k] + c * r.unit ≤ r.radius) := fun h => by rw [show hitB r (l[k] + c * r.unit) = true from inB_iff.2 h] at hh; cases hh
      rw [hh] at h3
      by_cases hle : l[k] + c * r.unit ≤ r.radius
      · rw [decide_eq_true hle]
        (refine ql_gyes rfl ?_; refine ql_pure tabOk rfl rfl ?_; refine ql_gyes rfl ?_; refine ql_neg tabOk rfl rfl (by omega) (by omega) ?_; refine ql_gyes rfl ?_; refine ql_pure tabOk rfl rfl ?_; refine ql_gyes rfl ?_; refine ql_loadP tabOk rfl rfl rfl (by assumption) (by rfl) ?_; refine ql_gyes rfl ?_; refine ql_leqF tabOk rfl rfl rfl (by omega) ?_; refine ql_pure tabOk rfl rfl ?_; refine q_nil ?_; refine q_cond_false rfl ?_; refine q_skip ?_; refine q_blk ?_; refine q_region ?_; refine ql_ar tabOk rfl rfl rfl rfl (by omega) (by omega) ?_; refine ql_pure tabOk rfl rfl ?_; refine q_nil ?_)
        exact hK (k + 1) _ _ (by omega) (by omega) ⟨rfl, rfl, lookI rfl (by rw [h3]; simp), rfl, rfl, rfl, trivial⟩ (by repeat (first | exact Sp.nil | exact Sp.refl _ | refine Sp.cons (by repeat constructor) ?_))
      · rw [decide_eq_false hle]
        ((iterate 5 refine ql_gno rfl rfl rfl ?_); refine ql_pure tabOk rfl rfl ?_; refine q_nil ?_; refine q_cond_false rfl ?_; refine q_skip ?_; refine q_blk ?_; refine q_region ?_; refine ql_ar tabOk rfl rfl rfl rfl (by omega) (by omega) ?_; refine ql_pure tabOk rfl rfl ?_; refine q_nil ?_)
        exact hK (k + 1) _ _ (by omega) (by omega) ⟨rfl, rfl, lookI rfl (by rw [h3]; simp), rfl, rfl, rfl, trivial⟩ (by repeat (first | exact Sp.nil | exact Sp.refl _ | refine Sp.cons (by repeat constructor) ?_))
  · obtain rfl : k = l.length := by omega
    (refine q_exit _ rfl ?_; refine q_seq ?_; refine q_region ?_; (iterate 2 refine ql_pure tabOk rfl rfl ?_); refine q_nil ?_; refine q_ret ?_)
    refine q_fin tabOk rfl (by repeat (first | exact RVs.nil | apply RVs.tmp rfl | apply RVs.cellA rfl rfl (by repeat first | exact .head _ | refine .tail _ ?_) (by rfl) | apply RVs.cell1 rfl rfl (by repeat first | exact .head _ | refine .tail _ ?_))) fun w hs => ?_
    exact ⟨rfl, hs.chg0⟩
end Go.Proofs.Ytohlillcaadidaa

/- Walks: what right ranges answer; planned. -/
namespace Go.Proofs.Ytohlillcaadidaa
open Go Go.Eng

theorem expd_ok (w : World) (cs : List Value) (r : Rg) (c : Int) (h : RgC w cs r) (hsm : r.Small) (hr : r.Right) (hc : -r.clicks ≤ c ∧ c ≤ r.clicks) :
    Ca Try.prog 43 [.agg cs.toArray, .int .i64 c] w fun v w' => v = .tuple #[rtV (expV r c), .int .i64 0] ∧ Chg [] w w' := by
  have := expectedF_ca w cs r c h hsm
  have e : expdV r c = (expV r c, 0) := by
    unfold expdV
    rw [(right_check r).2 hr, inB_iff.2 hc]
    rfl
  rw [e] at this
  exact this
theorem hit_ok (w : World) (cs : List Value) (r : Rg) (s : Nat) (c : Int) (h : RgC w cs r) (hsm : r.Small) (hr : r.Right) (hs : s < r.drifts.length) (hc : -r.clicks ≤ c ∧ c ≤ r.clicks) :
    Ca Try.prog 57 [.agg cs.toArray, .int .i64 s, .int .i64 c] w fun v w' => v = .tuple #[rtV (hitX r s c), .int .i64 0] ∧ Chg [] w w' := by
  have := hit_ca w cs r s c h hsm
  have e : hitV r s c = (hitX r s c, 0) := by
    unfold hitV
    rw [(right_check r).2 hr, inB_iff.2 hc, show inB (s : Int) 0 ((r.drifts.length : Int) - 1) = true from inB_iff.2 (by omega)]
    simp [hitX]
  rw [e] at this
  exact this
theorem best_ok (w : World) (cs : List Value) (r : Rg) (m : Int) (h : RgC w cs r) (hsm : r.Small) (hm : bestV r = (m, expV r m, 0)) :
    Ca Try.prog 60 [.agg cs.toArray] w fun v w' => v = .tuple #[.int .i64 m, rtV (expV r m), .int .i64 0] ∧ Chg [] w w' := by
  have := bestF_ca w cs r h hsm
  rw [hm] at this
  exact this
theorem rob_ok (w : World) (l0 h1 : Nat) (cs : List Value) (r : Rg) (v : Value) (ws : List (Int × Int)) (m : Int) (h : RgC w cs r) (hsm : r.Small) (hl : RdS w l0 h1 v ws) (hw : WindOk ws) (hm : robV r ws = (m, robQ r ws m, 0)) :
    Ca Try.prog 50 [.agg cs.toArray, v] w fun v w' => v = .tuple #[.int .i64 m, rtV (robQ r ws m), .int .i64 0] ∧ Chg [] w w' := by
  have := robF_ca w l0 h1 cs r v ws h hsm hl (by rw [hw.len]; omega)
  rw [hm] at this
  exact this
theorem worst_ok (w : World) (l0 h1 : Nat) (cs : List Value) (r : Rg) (v : Value) (ws : List (Int × Int)) (c : Int) (h : RgC w cs r) (hsm : r.Small) (hr : r.Right) (hl : RdS w l0 h1 v ws) (hw : WindOk ws) (hc : -r.clicks ≤ c ∧ c ≤ r.clicks) :
    Ca Try.prog 64 [.agg cs.toArray, v, .int .i64 c] w fun v w' => ∃ x : Value, v = .tuple #[x, rtV (robQ r ws c), .int .i64 0] ∧ Sat w M0 [.ow x 3 1 5 (ints (worstL r ws c))] w' := by
  refine worstF_ok w l0 h1 cs r v ws c h hsm hl ?_
  unfold wErr
  rw [(blown_iff r ws).2 ⟨(right_check r).2 hr, hw⟩, inB_iff.2 hc]
  rfl
theorem Ru.mk_right {p : Ru} (h1 : 0 ≤ p.miss ∧ p.miss ≤ 390) (h2 : 0 ≤ p.click ∧ p.click ≤ 59) (h3 : 0 ≤ p.wait ∧ p.wait ≤ 79) (h4 : 0 ≤ p.waits ∧ p.waits ≤ 3) : p.Right := ⟨by omega, by omega, by omega, h4⟩

set_option maxHeartbeats 2000000 in
theorem planned_ca (w : World) (cs : List Value) (r : Rg) (p : Ru) (h : RgC w cs r) (hsm : r.Small) (hlow : r.Low) (hp : p.Right) :
    Ca Try.prog 51 [.agg cs.toArray, .agg #[.int .i64 p.miss, .int .i64 p.click, .int .i64 p.wait, .int .i64 p.waits]] w fun v w' => v = .tuple #[rtV (planV r p), .bool true] ∧ Chg [] w w' := by
  have h0 := h
  have hr := hlow.right
  have hru : rulesV r p = 0 := (rules_iff r p).2 ⟨(right_check r).2 hr, hp⟩
  have hlen := plcL_len_le r p hr hp
  have hpv := planV_bd hlow hp
  obtain ⟨lo, hi, ag, cg, ad, cd, af, cf, an, cn, rfl, hg, hdr, hf, hn⟩ := h
  refine q_of (Sat.nil w M0) Try.func51 rfl (by simp [Try.ntmps51]) ?_
  (refine q_seq ?_; refine q_region ?_)
  refine ql_box rfl rfl (fun b2 => ?_)
  refine ql_box rfl rfl (fun b3 => ?_)
  skip
  refine ql_alloc zero42 rfl (fun b4 => ?_)
  (refine ql_pure tabOk rfl rfl ?_; refine q_nil ?_; refine q_seq ?_; refine q_region ?_; (iterate 2 refine ql_loadAB tabOk rfl rfl rfl (by repeat first | exact .head _ | refine .tail _ ?_) (by rfl) (by rfl) ?_))
  refine ql_call (β := Value) tabOk [] _ M0 rfl rfl rfl rfl (Sp.refl _) (fun _ h => h.elim) (fun w' hs => values_ok w' _ r p (h0.keep hs.chg0) hsm hru) ?_
  rintro x _ rfl
  refine ql_fact (fun w hs => hs.slice2 (v := x) (by repeat first | exact .head _ | refine .tail _ ?_)) ?_
  rintro ⟨ax, cx, rfl⟩
  (refine ql_pure tabOk rfl rfl ?_; (iterate 2 refine ql_ext tabOk rfl rfl rfl ?_); (iterate 2 refine ql_pure tabOk rfl rfl ?_); refine q_nil ?_; refine q_seq ?_; refine q_region ?_; (iterate 2 refine ql_loadAB tabOk rfl rfl rfl (by repeat first | exact .head _ | refine .tail _ ?_) (by rfl) (by rfl) ?_); refine ql_pure tabOk rfl rfl ?_)
  refine ql_callv (val := .tuple #[.agg #[.int .i64 (planV r p).1, .int .i64 (planV r p).2], .int .i64 0]) tabOk rfl rfl rfl rfl (fun w hs => ?_) ?_; exact by have := proves_ca w 0 w.heap.size _ r p (.slice ax (plcL r p).length cx) (valsL r p) (h0.keep hs.chg0) hsm (hs.rdI (t := 3) (n := (plcL r p).length) (by repeat first | exact .head _ | refine .tail _ ?_) (by simp)) (by simpa using hlen); rw [proof_vals hr hp] at this; exact this
  (refine ql_pure tabOk rfl rfl ?_; (iterate 2 refine ql_ext tabOk rfl rfl rfl ?_))
  refine ql_alloc zero42 rfl (fun b8 => ?_)
  (refine ql_setA tabOk rfl rfl rfl rfl rfl (by repeat constructor) rfl ?_; refine ql_pure tabOk rfl rfl ?_; refine q_nil ?_; refine q_seq ?_)
  refine q_draw _ [.pt b4 _ _] (Sp.cons (by repeat constructor) (Sp.refl _)) (by kernel_rfl) (by kernel_rfl) ?_
  (refine qf_loadAB tabOk rfl rfl rfl (by repeat first | exact .head _ | refine .tail _ ?_) (by rfl) (by rfl) ?_; refine qf_pure tabOk rfl rfl rfl ?_; refine qf_eqlT tabOk rfl rfl rfl (by omega) ?_; refine qf_pure tabOk rfl rfl rfl ?_; refine qf_gyes rfl ?_; refine qf_pure tabOk rfl rfl rfl ?_; refine qf_gyes rfl ?_; refine qf_eqlT tabOk rfl rfl rfl (by omega) ?_; (iterate 2 refine qf_pure tabOk rfl rfl rfl ?_); refine qf_gyes rfl ?_; refine qf_pure tabOk rfl rfl rfl ?_; refine qf_gyes rfl ?_; refine qf_loadB tabOk rfl rfl rfl (by repeat first | exact .head _ | refine .tail _ ?_) (by rfl) ?_; refine qf_gyes rfl ?_; refine qf_geqT tabOk rfl rfl rfl (by omega) ?_; (iterate 2 refine qf_pure tabOk rfl rfl rfl ?_); refine qf_gyes rfl ?_; refine qf_pure tabOk rfl rfl rfl ?_; refine qf_gyes rfl ?_; refine qf_loadB tabOk rfl rfl rfl (by repeat first | exact .head _ | refine .tail _ ?_) (by rfl) ?_; refine qf_gyes rfl ?_; refine qf_leqT tabOk rfl rfl rfl (by omega) ?_; (iterate 2 refine qf_pure tabOk rfl rfl rfl ?_); refine qf_gyes rfl ?_; refine qf_pure tabOk rfl rfl rfl ?_; refine qf_gyes rfl ?_; refine qf_loadB tabOk rfl rfl rfl (by repeat first | exact .head _ | refine .tail _ ?_) (by rfl) ?_; refine qf_gyes rfl ?_; refine qf_geqT tabOk rfl rfl rfl (by omega) ?_; (iterate 2 refine qf_pure tabOk rfl rfl rfl ?_); refine qf_gyes rfl ?_; refine qf_pure tabOk rfl rfl rfl ?_; refine qf_gyes rfl ?_; refine qf_loadB tabOk rfl rfl rfl (by repeat first | exact .head _ | refine .tail _ ?_) (by rfl) ?_; refine qf_gyes rfl ?_; refine qf_leqT tabOk rfl rfl rfl (by omega) ?_; refine qf_pure tabOk rfl rfl rfl ?_; refine qf_setA tabOk rfl rfl rfl rfl rfl (by repeat constructor) rfl ?_; refine qf_pure tabOk rfl rfl rfl ?_; refine qf_nil ?_; refine q_ret ?_)
  refine q_fin tabOk rfl (by repeat (first | exact RVs.nil | apply RVs.tmp rfl | apply RVs.cellA rfl rfl (by repeat first | exact .head _ | refine .tail _ ?_) (by rfl) | apply RVs.cell1 rfl rfl (by repeat first | exact .head _ | refine .tail _ ?_))) fun w hs => ?_
  exact ⟨rfl, hs.chg0⟩
theorem fold0 (v n : Int) (w : World) (hn0 : 0 < n) (hn1 : n < 1000000) : Ca Try.prog 47 [.int .i64 v, .int .i64 n] w fun r w' => ∃ x : Int, (r = .int .i64 x ∧ 0 ≤ x ∧ x < n) ∧ Sat w M0 [] w' :=
  (fold_ca v n hn0 hn1 w).mono fun r w' ⟨⟨x, hx⟩, hw⟩ => ⟨x, hx, hw ▸ Sat.nil w M0⟩
/-- The drifts of a range. -/
theorem RgC.dr {w : World} {r : Rg} {ag ad af an : Option Addr} {cg cd cf cn : Nat} (h : RgC w [.int .i64 r.radius, .int .i64 r.unit, .int .i64 r.clicks, .int .i64 r.total, .slice ag r.group.length cg, .slice ad r.drifts.length cd, .slice af r.first.length cf, .slice an r.next.length cn] r) :
    ∃ lo hi, RdI w lo hi (.slice ad r.drifts.length cd) r.drifts := by
  obtain ⟨lo, hi, ag', cg', ad', cd', af', cf', an', cn', he, _, h2, _⟩ := h
  simp only [List.cons.injEq, Value.slice.injEq] at he
  obtain ⟨_, _, _, _, _, ⟨rfl, _, rfl⟩, _⟩ := he
  exact ⟨lo, hi, h2⟩
theorem OwnR.adr {L : List Ck} {r : Rg} {w0 w : World} {M : Nat → Prop} {H : List Ck} {ag ad af an : Option Addr} {cg cd cf cn : Nat} (h : OwnR L [.int .i64 r.radius, .int .i64 r.unit, .int .i64 r.clicks, .int .i64 r.total, .slice ag r.group.length cg, .slice ad r.drifts.length cd, .slice af r.first.length cf, .slice an r.next.length cn] r)
    (hs : Sat w0 M H w) (hm : un L ∈ H) (h1 : 0 < r.drifts.length) : ∃ b off, ad = some ⟨b, off, none⟩ := by
  obtain ⟨lo, hi, h2⟩ := (h.at hs hm).dr
  obtain ⟨a, cap, h3, h4⟩ := RdI.outI h2
  cases h3
  exact h4 h1
theorem RgC.drAt {w : World} {r : Rg} {ag af an : Option Addr} {b off cg cd cf cn : Nat} (h : RgC w [.int .i64 r.radius, .int .i64 r.unit, .int .i64 r.clicks, .int .i64 r.total, .slice ag r.group.length cg, .slice (some ⟨b, off, none⟩) r.drifts.length cd, .slice af r.first.length cf, .slice an r.next.length cn] r)
    (k : Nat) (hk : k < r.drifts.length) : w.cell? ⟨b, off + k * 1, none⟩ = some (.int .i64 (r.drifts.getD k 0)) := by
  obtain ⟨lo, hi, h2⟩ := h.dr
  have := RdI.at h2 k hk
  rw [this]
  simp [List.getD_eq_getElem?_getD, hk]
end Go.Proofs.Ytohlillcaadidaa

/- Walks: Made, and where its lists lie. -/
namespace Go.Proofs.Ytohlillcaadidaa
open Go Go.Eng

/-- A range that was made: where its lists lie. -/
structure MdS where
  gb : Nat
  gc : Nat
  db : Nat
  dc : Nat
  fb : Nat
  fc : Nat
  nb : Nat
  nc : Nat
  xs : List (Nat × List Int)
  r : Rg
def MdS.K (x : MdS) : List Ck := [un (rowsK x.xs), .ow (.slice (some ⟨x.nb, 0, none⟩) x.r.next.length x.nc) 22 1 x.r.next.length (rowsV x.xs), .pt x.fb (ints x.r.first) 3, .ow (.slice (some ⟨x.db, 0, none⟩) x.r.drifts.length x.dc) 3 1 x.r.drifts.length (ints x.r.drifts), .ow (.slice (some ⟨x.gb, 0, none⟩) x.r.group.length x.gc) 3 1 x.r.group.length (ints x.r.group)]
def MdS.cs (x : MdS) : List Value := [.int .i64 x.r.radius, .int .i64 x.r.unit, .int .i64 x.r.clicks, .int .i64 x.r.total, .slice (some ⟨x.gb, 0, none⟩) x.r.group.length x.gc, .slice (some ⟨x.db, 0, none⟩) x.r.drifts.length x.dc, .slice (some ⟨x.fb, 0, none⟩) x.r.first.length x.fc, .slice (some ⟨x.nb, 0, none⟩) x.r.next.length x.nc]

set_option maxHeartbeats 4000000 in
theorem made_ca1 (states clicks side : Nat) (h1 : 1 ≤ states) (h2 : states ≤ 5) (h3 : clicks ≤ 6) (h4 : side ≤ 4) (K : Nat) (hK : K < 100000) (w : World) (b lo hi : Nat) (bs : Value) (hby : DkB w lo hi bs) (hlh : hi ≤ b) (hd : DkS w b bs K) :
    Ca Try.prog 38 [.pointer (some ⟨b, 0, none⟩), .int .i64 states, .int .i64 clicks, .int .i64 side] w fun v w' => ∃ x : MdS, (v = .agg x.cs.toArray ∧ x.xs.map (·.2) = x.r.next ∧ MadeR states clicks side x.r) ∧ Sat w (fun x => x = b) [un x.K, dkP bs b (K + 100)] w' := by
  refine q_of (dk_sat hd) Try.func38 rfl (by simp [Try.ntmps38]) ?_
  (refine q_seq ?_; refine q_region ?_)
  refine ql_alloc zero25 rfl (fun b8 => ?_)
  (refine q_nil ?_; refine q_seq ?_; refine q_region ?_; refine ql_pure tabOk rfl rfl ?_)
  refine ql_call (β := Int) (ψ := fun x v => v = .int .i64 x ∧ 1 ≤ x ∧ x ≤ 12) (L' := fun _ => [dkP bs b (K + 1)]) tabOk [dkP bs b K] _ (fun x => x = b) rfl rfl rfl rfl (Sp.cons (by repeat constructor) (Sp.refl _)) (fun x hx => ⟨_, .head _, hx⟩) (fun w' hs => between_ca 1 12 (by omega) (by omega) (by omega) K (by omega) w' b lo hi bs (hby.keepP hlh hs.chg) hlh (hs.all _ (.head _))) ?_
  rintro rad _ ⟨rfl, hrad⟩
  (refine ql_pure tabOk rfl rfl ?_)
  refine ql_call (β := Int) (ψ := fun x v => v = .int .i64 x ∧ 1 ≤ x ∧ x ≤ 5) (L' := fun _ => [dkP bs b (K + 2)]) tabOk [dkP bs b (K + 1)] _ (fun x => x = b) rfl rfl rfl rfl (Sp.cons (by repeat constructor) (Sp.refl _)) (fun x hx => ⟨_, .head _, hx⟩) (fun w' hs => between_ca 1 5 (by omega) (by omega) (by omega) (K + 1) (by omega) w' b lo hi bs (hby.keepP hlh hs.chg) hlh (hs.all _ (.head _))) ?_
  rintro unt _ ⟨rfl, hunt⟩
  ((iterate 2 refine ql_pure tabOk rfl rfl ?_); refine ql_ar tabOk rfl rfl rfl rfl (by omega) (by omega) ?_)
  refine ql_call (β := Int) (ψ := fun x v => v = .int .i64 x ∧ 0 ≤ x ∧ (x < (clicks : Int) + 1 ∨ x = 0)) (L' := fun _ => [dkP bs b (K + 3)]) tabOk [dkP bs b (K + 2)] _ (fun x => x = b) rfl rfl rfl rfl (Sp.cons (by repeat constructor) (Sp.refl _)) (fun x hx => ⟨_, .head _, hx⟩) (fun w' hs => drawP_ca ((clicks : Int) + 1) (K + 2) (by omega) w' b lo hi bs (hby.keepP hlh hs.chg) hlh (hs.all _ (.head _))) ?_
  rintro clk _ ⟨rfl, hclk⟩
  (refine ql_pure tabOk rfl rfl ?_)
  refine ql_call (β := Int) (ψ := fun x v => v = .int .i64 x ∧ 1 ≤ x ∧ x ≤ 6) (L' := fun _ => [dkP bs b (K + 4)]) tabOk [dkP bs b (K + 3)] _ (fun x => x = b) rfl rfl rfl rfl (Sp.cons (by repeat constructor) (Sp.refl _)) (fun x hx => ⟨_, .head _, hx⟩) (fun w' hs => between_ca 1 6 (by omega) (by omega) (by omega) (K + 3) (by omega) w' b lo hi bs (hby.keepP hlh hs.chg) hlh (hs.all _ (.head _))) ?_
  rintro tot _ ⟨rfl, htot⟩
  skip
  refine ql_mk #[.int .i64 rad, .int .i64 unt, .int .i64 clk, .int .i64 tot, .slice none 0 0, .slice none 0 0, .slice none 0 0, .slice none 0 0] rfl (by kernel_rfl) rfl ?_
  refine ql_alloc zero25 rfl (fun b9 => ?_)
  (refine ql_setA tabOk rfl rfl rfl rfl rfl (by repeat constructor) rfl ?_; refine q_nil ?_; (iterate 2 refine q_seq ?_); refine q_region ?_; (iterate 2 refine ql_pure tabOk rfl rfl ?_); refine ql_ar tabOk rfl rfl rfl rfl (by omega) (by omega) ?_)
  refine ql_call (β := Int) (ψ := fun x v => v = .int .i64 x ∧ 0 ≤ x ∧ (x < (side : Int) + 1 ∨ x = 0)) (L' := fun _ => [dkP bs b (K + 5)]) tabOk [dkP bs b (K + 4)] _ (fun x => x = b) rfl rfl rfl rfl (Sp.cons (by repeat constructor) (Sp.refl _)) (fun x hx => ⟨_, .head _, hx⟩) (fun w' hs => drawP_ca ((side : Int) + 1) (K + 4) (by omega) w' b lo hi bs (hby.keepP hlh hs.chg) hlh (hs.all _ (.head _))) ?_
  rintro sd _ ⟨rfl, hsd⟩
  obtain ⟨gn, hgn⟩ : ∃ gn : Nat, 2 * sd + 1 = (gn : Int) := ⟨(2 * sd + 1).toNat, by omega⟩
  ((iterate 2 refine ql_ar tabOk rfl rfl rfl rfl (by omega) (by omega) ?_); refine ql_pure tabOk rfl rfl ?_; refine q_nil ?_; refine q_block ?_)
  rw [hgn]
  have hgn2 : gn ≤ 9 := by omega
  refine q_conv (H' := [.ow (.slice none 0 0) 3 1 0 (ints []), dkP bs b (K + 5 + 0), madeB b9 rad unt clk tot (.slice none 0 0) (.slice none 0 0) (.slice none 0 0) (.slice none 0 0), .pt b8 [.int .i64 0, .int .i64 0, .int .i64 0, .int .i64 0, .slice none 0 0, .slice none 0 0, .slice none 0 0, .slice none 0 0] 25]) (fun w' hs => Sat.ownil (hs.sp (by repeat (first | exact Sp.nil | exact Sp.refl _ | refine Sp.cons (by repeat constructor) ?_))) _ _) ?_
  refine q_loop (σ := Nat × Value × List Int) (fun s => s.1 ≤ gn ∧ s.2.2.length = s.1 ∧ ∀ y ∈ s.2.2, 0 ≤ y ∧ y ≤ 4) (fun s => gn - s.1) (fun s => [(0, .pointer (some ⟨b, 0, none⟩)), (1, .int .i64 states), (8, .pointer (some ⟨b8, 0, none⟩)), (9, .pointer (some ⟨b9, 0, none⟩)), (26, .int .i64 gn), (27, .int .i64 s.1)])
    (fun s => [.ow s.2.1 3 1 s.1 (ints s.2.2), dkP bs b (K + 5 + s.1), madeB b9 rad unt clk tot s.2.1 (.slice none 0 0) (.slice none 0 0) (.slice none 0 0), .pt b8 [.int .i64 0, .int .i64 0, .int .i64 0, .int .i64 0, .slice none 0 0, .slice none 0 0, .slice none 0 0, .slice none 0 0] 25]) (0, .slice none 0 0, []) ⟨by omega, rfl, by simp⟩ ⟨rfl, rfl, rfl, rfl, rfl, rfl, trivial⟩ (Sp.refl _) ?_
  rintro ⟨k, gv, l⟩ ⟨hk, hl, hlb⟩ K2 hK2
  simp only at hk hl hlb
  (refine q_seq ?_; refine q_region ?_; refine ql_pure tabOk rfl rfl ?_; refine q_nil ?_; refine q_seq ?_)
  refine q_if rfl (fun hc => ?_) (fun hc => ?_)
  · have hk2 : k < gn := by simp only at hc; omega
    clear hc
    (refine q_skip ?_; refine q_seq ?_; refine q_block ?_)
    refine q_drawS2 5 _ [dkP bs b (K + 5 + k)] [.pt b8 [.int .i64 0, .int .i64 0, .int .i64 0, .int .i64 0, .slice none 0 0, .slice none 0 0, .slice none 0 0, .slice none 0 0] 25] [madeB b9 rad unt clk tot gv (.slice none 0 0) (.slice none 0 0) (.slice none 0 0), .ow gv 3 1 k (ints l)] (Sp.cons (by repeat constructor) (Sp.refl _)) (Sp.cons (by repeat constructor) (Sp.cons (by repeat constructor) (by repeat (first | exact Sp.nil | exact Sp.refl _ | refine Sp.cons (by repeat constructor) ?_)))) (by kernel_rfl) (by kernel_rfl) (by kernel_rfl) fun K1 hK1 => ?_
    (refine qf_pure tabOk rfl rfl rfl ?_; refine qf_loadB tabOk rfl rfl rfl (by repeat first | exact .head _ | refine .tail _ ?_) (by rfl) ?_; refine qf_pure tabOk rfl rfl rfl ?_)
    refine qf_call (β := Int) (ψ := fun x v => v = .int .i64 x ∧ 0 ≤ x ∧ (x < 5 ∨ x = 0)) (L' := fun x => [dkP bs b (K + 5 + k + 1)]) tabOk [dkP bs b (K + 5 + k)] _ (fun x => x = b) rfl rfl rfl rfl (Sp.cons (by repeat constructor) (Sp.refl _)) (fun x hx => ⟨_, .head _, hx⟩) (fun w' hs => drawP_ca 5 (K + 5 + k) (by omega) w' b lo hi bs (hby.keepP hlh hs.chg) hlh (hs.all _ (.head _))) ?_
    rintro y _ ⟨rfl, hy⟩
    skip
    refine qf_mkS 3 [.int .i64 y] rfl (by kernel_rfl) rfl (fun bn => ?_)
    (refine qf_nil ?_)
    refine hK1 _ _ [.pt bn [.int .i64 y] 3, dkP bs b (K + 5 + k + 1), madeB b9 rad unt clk tot gv (.slice none 0 0) (.slice none 0 0) (.slice none 0 0), .ow gv 3 1 k (ints l)] (Sp.cons (by repeat constructor) (Sp.cons (by repeat constructor) (Sp.cons (by repeat constructor) (Sp.cons (by repeat constructor) (by repeat (first | exact Sp.nil | exact Sp.refl _ | refine Sp.cons (by repeat constructor) ?_)))))) ?_
    refine qf_append (q := 1) slI rfl rfl rfl (fun v' => by repeat constructor) (fun w' hs => ⟨_, _, Blk.rd (hs.blk (b := bn) (by repeat first | exact .head _ | refine .tail _ ?_)) rfl 1⟩) (by simp [oneV]) (by omega) (by omega) (fun va' => ?_)
    refine qf_fact (fun w hs => hs.slice (v := va') (by repeat first | exact .head _ | refine .tail _ ?_)) ?_
    rintro ⟨a1, m1, c1, rfl⟩
    (refine qf_pure tabOk rfl rfl rfl ?_; refine qf_st4 tabOk rfl rfl rfl rfl (by repeat constructor) ?_; refine qf_nil ?_; refine q_blk ?_; refine q_region ?_; refine ql_ar tabOk rfl rfl rfl rfl (by omega) (by omega) ?_; refine ql_pure tabOk rfl rfl ?_; refine q_nil ?_)
    have e1 : ints (l ++ [y]) = ints l ++ [.int .i64 y] := by simp [ints]
    refine hK2 (k + 1, .slice a1 m1 c1, l ++ [y]) _ _ ⟨by simp only; omega, by simp [hl], fun z hz => ?_⟩ (by simp only; omega) ⟨rfl, rfl, rfl, rfl, rfl, rfl, trivial⟩ (by rw [e1]; repeat (first | exact Sp.nil | exact Sp.refl _ | refine Sp.cons (by repeat constructor) ?_))
    rcases List.mem_append.1 hz with hz | hz
    · exact hlb z hz
    · rw [List.mem_singleton.1 hz]; omega
  obtain rfl : k = gn := by simp only at hc; omega
  clear hc
  have hgl : k / 2 < l.length := by omega
  have hgi := hlb l[k / 2] (List.getElem_mem hgl)
  dsimp only
  refine q_fact (fun w hs => hs.ownSome (v := gv) (by repeat first | exact .head _ | refine .tail _ ?_) (by omega)) ?_
  rintro ⟨gb, gc, rfl⟩
  (refine q_exit _ rfl ?_; refine q_seq ?_; refine q_region ?_; refine ql_pure tabOk rfl rfl ?_; refine ql_loadB tabOk rfl rfl rfl (by repeat first | exact .head _ | refine .tail _ ?_) (by rfl) ?_; refine ql_pure tabOk rfl rfl ?_; refine ql_loadB tabOk rfl rfl rfl (by repeat first | exact .head _ | refine .tail _ ?_) (by rfl) ?_; refine ql_pure tabOk rfl rfl ?_; refine ql_quoN rfl rfl rfl (by omega) (by omega) (by omega) ?_)
  refine ql_index tabOk rfl rfl rfl rfl rfl (by omega) (by omega) ?_
  refine ql_load1 (v := .int .i64 l[k / 2]) tabOk rfl rfl rfl (fun w hs => (RdI.at (hs.rdI (v := .slice (some ⟨gb, 0, none⟩) k gc) (l := l) (by repeat first | exact .head _ | refine .tail _ ?_) hl.symm) (k / 2) hgl)) ?_
  (refine ql_ar tabOk rfl rfl rfl rfl (by omega) (by omega) ?_)
  refine ql_index tabOk rfl rfl rfl rfl rfl (by omega) (by omega) ?_
  refine ql_storeW tabOk (k / 2) rfl rfl rfl rfl (by repeat constructor) (by first | rfl | omega | simp) (by simpa using hgl) ?_
  (refine q_nil ?_; (iterate 2 refine q_seq ?_); refine q_region ?_; (iterate 2 refine ql_pure tabOk rfl rfl ?_))
  have hk0 : 1 ≤ k := by omega
  obtain ⟨gl, hgle⟩ : ∃ gl, gl = l.set (k / 2) (l[k / 2] + 1) := ⟨_, rfl⟩
  have hgl1 : gl.length = k := by rw [hgle]; simp [hl]
  have hgs := sum_set1 l (k / 2) hgl
  rw [← hgle] at hgs
  have hgb : ∀ y ∈ gl, 0 ≤ y ∧ y ≤ 5 := fun y hy => by
    rw [hgle] at hy
    rcases List.mem_or_eq_of_mem_set hy with hy | rfl
    · have := hlb y hy; omega
    · omega
  have hls := sum_bd (c := 4) l (fun y hy => by have := hlb y hy; omega)
  have hln := sum_nonneg' l (fun y hy => (hlb y hy).1)
  have e0 : (ints l).set (k / 2) (.int .i64 (l[k / 2] + 1)) = ints gl := by rw [hgle]; simp [ints]
  rw [e0]
  clear e0 hgle
  refine ql_call (β := Int) (ψ := fun x v => v = .int .i64 x ∧ 1 ≤ x ∧ x ≤ states) (L' := fun _ => [dkP bs b (K + 5 + k + 1)]) tabOk [dkP bs b (K + 5 + k)] _ (fun x => x = b) rfl rfl rfl rfl (Sp.cons (by repeat constructor) (Sp.refl _)) (fun x hx => ⟨_, .head _, hx⟩) (fun w' hs => between_ca 1 states (by omega) (by omega) (by omega) (K + 5 + k) (by omega) w' b lo hi bs (hby.keepP hlh hs.chg) hlh (hs.all _ (.head _))) ?_
  rintro dn _ ⟨rfl, hdn⟩
  obtain ⟨dn, rfl⟩ := Int.eq_ofNat_of_zero_le (show 0 ≤ dn by omega)
  (refine ql_pure tabOk rfl rfl ?_; refine q_nil ?_; refine q_block ?_)
  refine q_conv (H' := [.ow (.slice none 0 0) 3 1 0 (ints []), dkP bs b (K + 5 + k + 1 + 0), madeB b9 rad unt clk tot (.slice (some ⟨gb, 0, none⟩) k gc) (.slice none 0 0) (.slice none 0 0) (.slice none 0 0), .ow (.slice (some ⟨gb, 0, none⟩) k gc) 3 1 k (ints gl), .pt b8 [.int .i64 0, .int .i64 0, .int .i64 0, .int .i64 0, .slice none 0 0, .slice none 0 0, .slice none 0 0, .slice none 0 0] 25]) (fun w' hs => Sat.ownil (hs.sp (by repeat (first | exact Sp.nil | exact Sp.refl _ | refine Sp.cons (by repeat constructor) ?_))) _ _) ?_
  refine q_loop (σ := Nat × Value × List Int) (fun s => s.1 ≤ dn ∧ s.2.2.length = s.1 ∧ ∀ y ∈ s.2.2, -15 ≤ y ∧ y ≤ 15) (fun s => dn - s.1) (fun s => [(0, .pointer (some ⟨b, 0, none⟩)), (8, .pointer (some ⟨b8, 0, none⟩)), (9, .pointer (some ⟨b9, 0, none⟩)), (49, .int .i64 dn), (50, .int .i64 s.1)])
    (fun s => [.ow s.2.1 3 1 s.1 (ints s.2.2), dkP bs b (K + 5 + k + 1 + s.1), madeB b9 rad unt clk tot (.slice (some ⟨gb, 0, none⟩) k gc) s.2.1 (.slice none 0 0) (.slice none 0 0), .ow (.slice (some ⟨gb, 0, none⟩) k gc) 3 1 k (ints gl), .pt b8 [.int .i64 0, .int .i64 0, .int .i64 0, .int .i64 0, .slice none 0 0, .slice none 0 0, .slice none 0 0, .slice none 0 0] 25]) (0, .slice none 0 0, []) ⟨by omega, rfl, by simp⟩ ⟨rfl, rfl, rfl, rfl, rfl, trivial⟩ (Sp.refl _) ?_
  rintro ⟨d, dv, dl⟩ ⟨hd', hdl, hdb⟩ K2 hK2
  simp only at hd' hdl hdb
  dsimp only
  (refine q_seq ?_; refine q_region ?_; refine ql_pure tabOk rfl rfl ?_; refine q_nil ?_; refine q_seq ?_)
  refine q_if rfl (fun hc => ?_) (fun hc => ?_)
  · have hd2 : d < dn := by omega
    clear hc
    (refine q_skip ?_; refine q_seq ?_; refine q_block ?_)
    refine q_drawS2 5 _ [dkP bs b (K + 5 + k + 1 + d)] [.ow (.slice (some ⟨gb, 0, none⟩) k gc) 3 1 k (ints gl), .pt b8 [.int .i64 0, .int .i64 0, .int .i64 0, .int .i64 0, .slice none 0 0, .slice none 0 0, .slice none 0 0, .slice none 0 0] 25] [madeB b9 rad unt clk tot (.slice (some ⟨gb, 0, none⟩) k gc) dv (.slice none 0 0) (.slice none 0 0), .ow dv 3 1 d (ints dl)] (Sp.cons (by repeat constructor) (Sp.refl _)) (Sp.cons (by repeat constructor) (Sp.cons (by repeat constructor) (by repeat (first | exact Sp.nil | exact Sp.refl _ | refine Sp.cons (by repeat constructor) ?_)))) (by kernel_rfl) (by kernel_rfl) (by kernel_rfl) fun K1 hK1 => ?_
    (refine qf_pure tabOk rfl rfl rfl ?_; refine qf_loadB tabOk rfl rfl rfl (by repeat first | exact .head _ | refine .tail _ ?_) (by rfl) ?_; refine qf_pure tabOk rfl rfl rfl ?_)
    refine qf_call (β := Int) (ψ := fun x v => v = .int .i64 x ∧ -15 ≤ x ∧ x ≤ 15) (L' := fun _ => [dkP bs b (K + 5 + k + 1 + d + 1)]) tabOk [dkP bs b (K + 5 + k + 1 + d)] _ (fun x => x = b) rfl rfl rfl rfl (Sp.cons (by repeat constructor) (Sp.refl _)) (fun x hx => ⟨_, .head _, hx⟩) (fun w' hs => between_ca (-15) 15 (by omega) (by omega) (by omega) (K + 5 + k + 1 + d) (by omega) w' b lo hi bs (hby.keepP hlh hs.chg) hlh (hs.all _ (.head _))) ?_
    rintro y _ ⟨rfl, hy⟩
    skip
    refine qf_mkS 3 [.int .i64 y] rfl (by kernel_rfl) rfl (fun bn => ?_)
    (refine qf_nil ?_)
    refine hK1 _ _ [.pt bn [.int .i64 y] 3, dkP bs b (K + 5 + k + 1 + d + 1), madeB b9 rad unt clk tot (.slice (some ⟨gb, 0, none⟩) k gc) dv (.slice none 0 0) (.slice none 0 0), .ow dv 3 1 d (ints dl)] (Sp.cons (by repeat constructor) (Sp.cons (by repeat constructor) (Sp.cons (by repeat constructor) (Sp.cons (by repeat constructor) (by repeat (first | exact Sp.nil | exact Sp.refl _ | refine Sp.cons (by repeat constructor) ?_)))))) ?_
    refine qf_append (q := 1) slI rfl rfl rfl (fun v' => by repeat constructor) (fun w' hs => ⟨_, _, Blk.rd (hs.blk (b := bn) (by repeat first | exact .head _ | refine .tail _ ?_)) rfl 1⟩) (by simp [oneV]) (by omega) (by omega) (fun va' => ?_)
    refine qf_fact (fun w hs => hs.slice (v := va') (by repeat first | exact .head _ | refine .tail _ ?_)) ?_
    rintro ⟨a1, m1, c1, rfl⟩
    (refine qf_pure tabOk rfl rfl rfl ?_; refine qf_st5 tabOk rfl rfl rfl rfl (by repeat constructor) ?_; refine qf_nil ?_; refine q_blk ?_; refine q_region ?_; refine ql_ar tabOk rfl rfl rfl rfl (by omega) (by omega) ?_; refine ql_pure tabOk rfl rfl ?_; refine q_nil ?_)
    have e1 : ints (dl ++ [y]) = ints dl ++ [.int .i64 y] := by simp [ints]
    refine hK2 (d + 1, .slice a1 m1 c1, dl ++ [y]) _ _ ⟨by simp only; omega, by simp [hdl], fun z hz => ?_⟩ (by simp only; omega) ⟨rfl, rfl, rfl, rfl, rfl, trivial⟩ (by rw [e1]; repeat (first | exact Sp.nil | exact Sp.refl _ | refine Sp.cons (by repeat constructor) ?_))
    rcases List.mem_append.1 hz with hz | hz
    · exact hdb z hz
    · rw [List.mem_singleton.1 hz]; omega
  obtain rfl : d = dn := by omega
  clear hc
  refine q_fact (fun w hs => hs.ownSome (v := dv) (by repeat first | exact .head _ | refine .tail _ ?_) (by omega)) ?_
  rintro ⟨db, dc, rfl⟩
  obtain ⟨T, rfl⟩ := Int.eq_ofNat_of_zero_le (show 0 ≤ tot by omega)
  (refine q_exit _ rfl ?_; refine q_seq ?_; refine q_region ?_; (iterate 2 refine ql_pure tabOk rfl rfl ?_); refine ql_loadB tabOk rfl rfl rfl (by repeat first | exact .head _ | refine .tail _ ?_) (by rfl) ?_; (iterate 2 refine ql_pure tabOk rfl rfl ?_); refine ql_loadB tabOk rfl rfl rfl (by repeat first | exact .head _ | refine .tail _ ?_) (by rfl) ?_)
  refine ql_call (β := Nat × List Int) (ψ := fun x v => v = .slice (some ⟨x.1, 0, none⟩) d d ∧ x.2.length = d ∧ (∀ y ∈ x.2, 0 ≤ y) ∧ x.2.sum = T) (L' := fun x => [.pt x.1 (ints x.2) 3, dkP bs b (K + 5 + k + 1 + d + T)]) tabOk [dkP bs b (K + 5 + k + 1 + d)] _ (fun x => x = b) rfl rfl rfl rfl (Sp.cons (by repeat constructor) (Sp.refl _)) (fun x hx => ⟨_, .head _, hx⟩) (fun w' hs => shared_ca d T (by omega) (by omega) (by omega) (K + 5 + k + 1 + d) (by omega) w' b lo hi bs (hby.keepP hlh hs.chg) hlh (hs.all _ (.head _))) ?_
  rintro ⟨fb, fl⟩ _ ⟨rfl, hfl, hfn, hfs⟩
  simp only at hfl hfn hfs
  (refine ql_pure tabOk rfl rfl ?_; refine ql_st6 tabOk rfl rfl rfl rfl (by repeat constructor) ?_; refine q_nil ?_; (iterate 2 refine q_seq ?_); refine q_region ?_; refine ql_pure tabOk rfl rfl ?_; refine ql_loadB tabOk rfl rfl rfl (by repeat first | exact .head _ | refine .tail _ ?_) (by rfl) ?_; (iterate 2 refine ql_pure tabOk rfl rfl ?_); refine q_nil ?_; refine q_block ?_)
  refine q_conv (H' := [un (rowsK []), .ow (.slice none 0 0) 22 1 0 (rowsV []), dkP bs b (K + 40 + 6 * 0), madeB b9 rad unt clk T (.slice (some ⟨gb, 0, none⟩) k gc) (.slice (some ⟨db, 0, none⟩) d dc) (.slice (some ⟨fb, 0, none⟩) d d) (.slice none 0 0), .pt fb (ints fl) 3, .ow (.slice (some ⟨db, 0, none⟩) d dc) 3 1 d (ints dl), .ow (.slice (some ⟨gb, 0, none⟩) k gc) 3 1 k (ints gl), .pt b8 [.int .i64 0, .int .i64 0, .int .i64 0, .int .i64 0, .slice none 0 0, .slice none 0 0, .slice none 0 0, .slice none 0 0] 25]) (fun w' hs => by
    have h1 : Sat w (fun x => x = b) (dkP bs b (K + 5 + k + 1 + d + T) :: [madeB b9 rad unt clk T (.slice (some ⟨gb, 0, none⟩) k gc) (.slice (some ⟨db, 0, none⟩) d dc) (.slice (some ⟨fb, 0, none⟩) d d) (.slice none 0 0), .pt fb (ints fl) 3, .ow (.slice (some ⟨db, 0, none⟩) d dc) 3 1 d (ints dl), .ow (.slice (some ⟨gb, 0, none⟩) k gc) 3 1 k (ints gl), .pt b8 [.int .i64 0, .int .i64 0, .int .i64 0, .int .i64 0, .slice none 0 0, .slice none 0 0, .slice none 0 0, .slice none 0 0] 25]) w' := hs.sp (by repeat (first | exact Sp.nil | exact Sp.refl _ | refine Sp.cons (by repeat constructor) ?_))
    exact Sat.un_nil (Sat.ownil (Sat.dk h1 (by omega)) _ _)) ?_
  refine q_loop (σ := Nat × Value × List (Nat × List Int)) (fun s => s.1 ≤ d ∧ s.2.2.length = s.1 ∧ ∀ y ∈ s.2.2, y.2.length = d ∧ (∀ z ∈ y.2, 0 ≤ z) ∧ y.2.sum = T) (fun s => d - s.1) (fun s => [(0, .pointer (some ⟨b, 0, none⟩)), (8, .pointer (some ⟨b8, 0, none⟩)), (9, .pointer (some ⟨b9, 0, none⟩)), (70, .int .i64 d), (71, .int .i64 s.1)])
    (fun s => [un (rowsK s.2.2), .ow s.2.1 22 1 s.1 (rowsV s.2.2), dkP bs b (K + 40 + 6 * s.1), madeB b9 rad unt clk T (.slice (some ⟨gb, 0, none⟩) k gc) (.slice (some ⟨db, 0, none⟩) d dc) (.slice (some ⟨fb, 0, none⟩) d d) s.2.1, .pt fb (ints fl) 3, .ow (.slice (some ⟨db, 0, none⟩) d dc) 3 1 d (ints dl), .ow (.slice (some ⟨gb, 0, none⟩) k gc) 3 1 k (ints gl), .pt b8 [.int .i64 0, .int .i64 0, .int .i64 0, .int .i64 0, .slice none 0 0, .slice none 0 0, .slice none 0 0, .slice none 0 0] 25]) (0, .slice none 0 0, []) ⟨by omega, rfl, by simp⟩ ⟨rfl, rfl, rfl, rfl, rfl, trivial⟩ (Sp.refl _) ?_
  rintro ⟨m, nv, xs⟩ ⟨hm, hxl, hxb⟩ K2 hK2
  simp only at hm hxl hxb
  dsimp only
  (refine q_seq ?_; refine q_region ?_; refine ql_pure tabOk rfl rfl ?_; refine q_nil ?_; refine q_seq ?_)
  refine q_if rfl (fun hc => ?_) (fun hc => ?_)
  · have hm2 : m < d := by omega
    clear hc
    (refine q_skip ?_; refine q_seq ?_; refine q_block ?_)
    refine q_drawS2 10 _ [dkP bs b (K + 40 + 6 * m)] [un (rowsK xs), .pt fb (ints fl) 3, .ow (.slice (some ⟨db, 0, none⟩) d dc) 3 1 d (ints dl), .ow (.slice (some ⟨gb, 0, none⟩) k gc) 3 1 k (ints gl), .pt b8 [.int .i64 0, .int .i64 0, .int .i64 0, .int .i64 0, .slice none 0 0, .slice none 0 0, .slice none 0 0, .slice none 0 0] 25] [madeB b9 rad unt clk T (.slice (some ⟨gb, 0, none⟩) k gc) (.slice (some ⟨db, 0, none⟩) d dc) (.slice (some ⟨fb, 0, none⟩) d d) nv, .ow nv 22 1 m (rowsV xs)] (Sp.cons (by repeat constructor) (Sp.refl _)) (Sp.cons (by repeat constructor) (Sp.cons (by repeat constructor) (by repeat (first | exact Sp.nil | exact Sp.refl _ | refine Sp.cons (by repeat constructor) ?_)))) (by kernel_rfl) (by kernel_rfl) (by kernel_rfl) fun K1 hK1 => ?_
    (refine qf_pure tabOk rfl rfl rfl ?_; refine qf_loadB tabOk rfl rfl rfl (by repeat first | exact .head _ | refine .tail _ ?_) (by rfl) ?_; (iterate 2 refine qf_pure tabOk rfl rfl rfl ?_); refine qf_loadB tabOk rfl rfl rfl (by repeat first | exact .head _ | refine .tail _ ?_) (by rfl) ?_; (iterate 2 refine qf_pure tabOk rfl rfl rfl ?_); refine qf_loadB tabOk rfl rfl rfl (by repeat first | exact .head _ | refine .tail _ ?_) (by rfl) ?_)
    refine qf_call (β := Nat × List Int) (ψ := fun x v => v = .slice (some ⟨x.1, 0, none⟩) d d ∧ x.2.length = d ∧ (∀ y ∈ x.2, 0 ≤ y) ∧ x.2.sum = T) (L' := fun x => [.pt x.1 (ints x.2) 3, dkP bs b (K + 40 + 6 * m + T)]) tabOk [dkP bs b (K + 40 + 6 * m)] _ (fun x => x = b) rfl rfl rfl rfl (Sp.cons (by repeat constructor) (Sp.refl _)) (fun x hx => ⟨_, .head _, hx⟩) (fun w' hs => shared_ca d T (by omega) (by omega) (by omega) (K + 40 + 6 * m) (by omega) w' b lo hi bs (hby.keepP hlh hs.chg) hlh (hs.all _ (.head _))) ?_
    rintro ⟨x, rl⟩ _ ⟨rfl, hrl, hrn, hrs⟩
    simp only at hrl hrn hrs
    skip
    refine qf_mkS 22 [.slice (some ⟨x, 0, none⟩) d d] rfl (by kernel_rfl) rfl (fun bn => ?_)
    (refine qf_nil ?_)
    refine hK1 _ _ [.pt bn [.slice (some ⟨x, 0, none⟩) d d] 22, .pt x (ints rl) 3, dkP bs b (K + 40 + 6 * m + T), madeB b9 rad unt clk T (.slice (some ⟨gb, 0, none⟩) k gc) (.slice (some ⟨db, 0, none⟩) d dc) (.slice (some ⟨fb, 0, none⟩) d d) nv, .ow nv 22 1 m (rowsV xs)] (Sp.cons (by repeat constructor) (Sp.cons (by repeat constructor) (Sp.cons (by repeat constructor) (Sp.cons (by repeat constructor) (Sp.cons (by repeat constructor) (by repeat (first | exact Sp.nil | exact Sp.refl _ | refine Sp.cons (by repeat constructor) ?_))))))) ?_
    refine qf_append (q := 1) slII rfl rfl rfl (fun v' => by repeat constructor) (fun w' hs => ⟨_, _, Blk.rd (hs.blk (b := bn) (by repeat first | exact .head _ | refine .tail _ ?_)) rfl 1⟩) (by simp [oneV]) (by omega) (by omega) (fun va' => ?_)
    refine qf_fact (fun w hs => hs.slice (v := va') (by repeat first | exact .head _ | refine .tail _ ?_)) ?_
    rintro ⟨a1, m1, c1, rfl⟩
    (refine qf_pure tabOk rfl rfl rfl ?_; refine qf_st7 tabOk rfl rfl rfl rfl (by repeat constructor) ?_; refine qf_nil ?_; refine q_blk ?_; refine q_region ?_; refine ql_ar tabOk rfl rfl rfl rfl (by omega) (by omega) ?_; refine ql_pure tabOk rfl rfl ?_; refine q_nil ?_)
    have e1 : rowsV (xs ++ [(x, rl)]) = rowsV xs ++ [.slice (some ⟨x, 0, none⟩) d d] := by simp [rowsV, hrl]
    have e2 : rowsK (xs ++ [(x, rl)]) = rowsK xs ++ [.pt x (ints rl) 3] := by simp [rowsK]
    refine q_conv (H' := [un (rowsK (xs ++ [(x, rl)])), .ow (.slice a1 m1 c1) 22 1 (m + 1) (rowsV (xs ++ [(x, rl)])), dkP bs b (K + 40 + 6 * (m + 1)), madeB b9 rad unt clk T (.slice (some ⟨gb, 0, none⟩) k gc) (.slice (some ⟨db, 0, none⟩) d dc) (.slice (some ⟨fb, 0, none⟩) d d) (.slice a1 m1 c1), .pt fb (ints fl) 3, .ow (.slice (some ⟨db, 0, none⟩) d dc) 3 1 d (ints dl), .ow (.slice (some ⟨gb, 0, none⟩) k gc) 3 1 k (ints gl), .pt b8 [.int .i64 0, .int .i64 0, .int .i64 0, .int .i64 0, .slice none 0 0, .slice none 0 0, .slice none 0 0, .slice none 0 0] 25]) (fun w' hs => by
      rw [e1, e2]
      have h1 : Sat w (fun x => x = b) (dkP bs b (K + 40 + 6 * m + T) :: .pt x (ints rl) 3 :: un (rowsK xs) :: [.ow (.slice a1 m1 c1) 22 1 (m + 1) (rowsV xs ++ [.slice (some ⟨x, 0, none⟩) d d]), madeB b9 rad unt clk T (.slice (some ⟨gb, 0, none⟩) k gc) (.slice (some ⟨db, 0, none⟩) d dc) (.slice (some ⟨fb, 0, none⟩) d d) (.slice a1 m1 c1), .pt fb (ints fl) 3, .ow (.slice (some ⟨db, 0, none⟩) d dc) 3 1 d (ints dl), .ow (.slice (some ⟨gb, 0, none⟩) k gc) 3 1 k (ints gl), .pt b8 [.int .i64 0, .int .i64 0, .int .i64 0, .int .i64 0, .slice none 0 0, .slice none 0 0, .slice none 0 0, .slice none 0 0] 25]) w' := hs.sp (by repeat (first | exact Sp.nil | exact Sp.refl _ | refine Sp.cons (by repeat constructor) ?_))
      have h2 := Sat.dk h1 (K' := K + 40 + 6 * (m + 1)) (by omega)
      have h3 : Sat w (fun x => x = b) (.pt x (ints rl) 3 :: un (rowsK xs) :: [.ow (.slice a1 m1 c1) 22 1 (m + 1) (rowsV xs ++ [.slice (some ⟨x, 0, none⟩) d d]), dkP bs b (K + 40 + 6 * (m + 1)), madeB b9 rad unt clk T (.slice (some ⟨gb, 0, none⟩) k gc) (.slice (some ⟨db, 0, none⟩) d dc) (.slice (some ⟨fb, 0, none⟩) d d) (.slice a1 m1 c1), .pt fb (ints fl) 3, .ow (.slice (some ⟨db, 0, none⟩) d dc) 3 1 d (ints dl), .ow (.slice (some ⟨gb, 0, none⟩) k gc) 3 1 k (ints gl), .pt b8 [.int .i64 0, .int .i64 0, .int .i64 0, .int .i64 0, .slice none 0 0, .slice none 0 0, .slice none 0 0, .slice none 0 0] 25]) w' := h2.sp (by repeat (first | exact Sp.nil | exact Sp.refl _ | refine Sp.cons (by repeat constructor) ?_))
      exact h3.un_in.un_perm (List.perm_append_singleton _ _).symm) ?_
    refine hK2 (m + 1, .slice a1 m1 c1, xs ++ [(x, rl)]) _ _ ⟨by simp only; omega, by simp [hxl], fun z hz => ?_⟩ (by simp only; omega) ⟨rfl, rfl, rfl, rfl, rfl, trivial⟩ (Sp.refl _)
    rcases List.mem_append.1 hz with hz | hz
    · exact hxb z hz
    · rw [List.mem_singleton.1 hz]; exact ⟨hrl, hrn, hrs⟩
  obtain rfl : m = d := by omega
  clear hc
  refine q_fact (fun w hs => hs.ownSome (v := nv) (by repeat first | exact .head _ | refine .tail _ ?_) (by omega)) ?_
  rintro ⟨nb, nc, rfl⟩
  (refine q_exit _ rfl ?_; refine q_seq ?_; refine q_region ?_; refine ql_loadAB tabOk rfl rfl rfl (by repeat first | exact .head _ | refine .tail _ ?_) (by rfl) (by rfl) ?_; refine ql_setA tabOk rfl rfl rfl rfl rfl (by repeat constructor) rfl ?_; refine q_nil ?_; refine q_ret ?_)
  refine q_fin tabOk rfl (by repeat (first | exact RVs.nil | apply RVs.tmp rfl | apply RVs.cellA rfl rfl (by repeat first | exact .head _ | refine .tail _ ?_) (by rfl) | apply RVs.cell1 rfl rfl (by repeat first | exact .head _ | refine .tail _ ?_))) fun w hs => ?_
  obtain ⟨sn, rfl⟩ := Int.eq_ofNat_of_zero_le (show 0 ≤ sd by omega)
  have hdl' : dl.length = m := hdl
  have hms : ∀ (q : List Int), (∀ y ∈ q, 0 ≤ y) → q.sum = (T : Int) → ∀ y ∈ q, 0 ≤ y ∧ y ≤ (T : Int) := fun q h1 h2 y hy => ⟨h1 y hy, by have := le_sum q h1 y hy; omega⟩
  refine ⟨⟨gb, gc, db, dc, fb, m, nb, nc, xs, ⟨rad, unt, clk, T, gl, dl, fl, xs.map (·.2)⟩⟩, ⟨?_, rfl, ?_⟩, ?_⟩
  · simp only [MdS.cs, hgl1, hdl', hfl, List.length_map, hxl]
    rfl
  · have hmm : ∀ q ∈ xs.map (·.2), q.length = m ∧ (∀ z ∈ q, 0 ≤ z) ∧ q.sum = (T : Int) := fun q hq => by
      obtain ⟨y, hy, rfl⟩ := List.mem_map.1 hq
      exact hxb y hy
    have r1 : k % 2 = 1 := by omega
    have r2 : (gl.length : Int) = 2 * sn + 1 := by omega
    refine ⟨⟨by simp only; omega, by simp only; omega, by simp only; omega, by simp only; omega, by simp only; omega, by simp only; omega, by simp only [List.length_map]; omega, fun q hq => by simp only; rw [(hmm q hq).1, hdl'], by simp only; omega, by simp only; omega, by simp only; omega, by simp only; omega, fun y hy => by have := hdb y hy; omega, fun y hy => by have := hgb y hy; omega, hms fl hfn hfs, fun q hq => hms q (hmm q hq).2.1 (hmm q hq).2.2, by simp only; omega, hfs, fun q hq => (hmm q hq).2.2⟩,
      ⟨by simp only; omega, by simp only; omega, by simp only; omega, by simp only [List.length_map]; omega, fun q hq => by rw [(hmm q hq).1]; omega⟩, by simp only; omega, by simp only; omega, by simp only; omega, by simp only; omega, by simp only; omega, by simp only; omega, hdb, by simp only; omega, fun y hy => (hgb y hy).2⟩
  · have h1 : Sat _ (fun x => x = b) (dkP bs b (K + 40 + 6 * m) :: [un (rowsK xs), .ow (.slice (some ⟨nb, 0, none⟩) m nc) 22 1 m (rowsV xs), .pt fb (ints fl) 3, .ow (.slice (some ⟨db, 0, none⟩) m dc) 3 1 m (ints dl), .ow (.slice (some ⟨gb, 0, none⟩) k gc) 3 1 k (ints gl)]) _ := hs.sp (by repeat (first | exact Sp.nil | exact Sp.refl _ | refine Sp.cons (by repeat constructor) ?_))
    have h2 := Sat.dk h1 (K' := K + 100) (by omega)
    have h3 : Sat _ (fun x => x = b) ([un (rowsK xs), .ow (.slice (some ⟨nb, 0, none⟩) m nc) 22 1 m (rowsV xs), .pt fb (ints fl) 3, .ow (.slice (some ⟨db, 0, none⟩) m dc) 3 1 m (ints dl), .ow (.slice (some ⟨gb, 0, none⟩) k gc) 3 1 k (ints gl)] ++ [dkP bs b (K + 100)]) _ := h2.sp (by repeat (first | exact Sp.nil | exact Sp.refl _ | refine Sp.cons (by repeat constructor) ?_))
    simp only [MdS.K, hgl1, hdl', hfl, List.length_map, hxl]
    exact Sat.un_iff.2 h3

section
variable {w0 w : World} {M : Nat → Prop} {H : List Ck} {x : MdS}
theorem MdS.rdG (hs : Sat w0 M H w) (hm : un x.K ∈ H) : RdI w 0 w.heap.size (.slice (some ⟨x.gb, 0, none⟩) x.r.group.length x.gc) x.r.group := own_rdI ((hs.mem hm).1 _ (.tail _ (.tail _ (.tail _ (.tail _ (.head _)))))) rfl
theorem MdS.rdD (hs : Sat w0 M H w) (hm : un x.K ∈ H) : RdI w 0 w.heap.size (.slice (some ⟨x.db, 0, none⟩) x.r.drifts.length x.dc) x.r.drifts := own_rdI ((hs.mem hm).1 _ (.tail _ (.tail _ (.tail _ (.head _))))) rfl
theorem MdS.rdF (hs : Sat w0 M H w) (hm : un x.K ∈ H) : RdI w 0 w.heap.size (.slice (some ⟨x.fb, 0, none⟩) x.r.first.length x.fc) x.r.first := by
  have h : Blk w x.fb (ints x.r.first) 3 := (hs.mem hm).1 _ (.tail _ (.tail _ (.head _)))
  exact Blk.rdI h
theorem MdS.rdN (hs : Sat w0 M H w) (hm : un x.K ∈ H) (hx : x.xs.map (·.2) = x.r.next) : RdII w 0 w.heap.size (.slice (some ⟨x.nb, 0, none⟩) x.r.next.length x.nc) x.r.next := by
  have g1 : (un (rowsK x.xs)).p w := (hs.mem hm).1 _ (.head _)
  have g2 : w.ownsRow 0 22 1 (.slice (some ⟨x.nb, 0, none⟩) x.r.next.length x.nc) x.r.next.length (rowsV x.xs) := (hs.mem hm).1 _ (.tail _ (.head _))
  have := rows_rd' g1 g2
  rwa [hx] at this
theorem MdS.at (hs : Sat w0 M H w) (hm : un x.K ∈ H) (hx : x.xs.map (·.2) = x.r.next) : RgC w x.cs x.r :=
  ⟨0, w.heap.size, _, _, _, _, _, _, _, _, rfl, MdS.rdG hs hm, MdS.rdD hs hm, MdS.rdF hs hm, MdS.rdN hs hm hx⟩
/-- The slice of a row, and what the row holds. -/
theorem MdS.rowAt (hs : Sat w0 M H w) (hm : un x.K ∈ H) (i : Nat) (hi : i < x.xs.length) : w.cell? ⟨x.nb, 0 + i * 1, none⟩ = some (.slice (some ⟨x.xs[i].1, 0, none⟩) x.xs[i].2.length x.xs[i].2.length) := by
  have g2 : w.ownsRow 0 22 1 (.slice (some ⟨x.nb, 0, none⟩) x.r.next.length x.nc) x.r.next.length (rowsV x.xs) := (hs.mem hm).1 _ (.tail _ (.head _))
  have h1 := own_rd g2
  have hl : x.r.next.length = (rowsV x.xs).length := by have := g2.1; omega
  rw [hl] at h1
  have h2 : RdE w 0 w.heap.size (.slice (some ⟨x.nb, 0, none⟩) x.r.next.length x.nc) 1 (rowsV x.xs) := RdE.one (by rw [hl]; exact h1) (fun e he => by obtain ⟨p, _, rfl⟩ := List.mem_map.1 he; rfl)
  have := RdE.cell1 h2 i (by simpa [rowsV] using hi) (by simp [rowsV, oneV])
  rw [this]
  simp [rowsV]
theorem MdS.rdRow (hs : Sat w0 M H w) (hm : un x.K ∈ H) (i : Nat) (hi : i < x.xs.length) : RdI w 0 w.heap.size (.slice (some ⟨x.xs[i].1, 0, none⟩) x.xs[i].2.length x.xs[i].2.length) x.xs[i].2 := by
  have g1 : (un (rowsK x.xs)).p w := (hs.mem hm).1 _ (.head _)
  have h2 : Blk w x.xs[i].1 (ints x.xs[i].2) 3 := g1.1 (.pt x.xs[i].1 (ints x.xs[i].2) 3) (List.mem_map.2 ⟨x.xs[i], List.getElem_mem hi, rfl⟩)
  exact RdE.wide (RdI.of (Blk.rd h2 (by simp) _)) (Nat.zero_le _) h2.lt
end
theorem made1 {K b : Nat} {bs : Value} {w0 w : World} {R : List Ck} {states clicks side : Nat} (hby : DkB w0 0 w0.heap.size bs) (hs : Sat w0 M0 (dkP bs b K :: R) w) (h1 : 1 ≤ states) (h2 : states ≤ 5) (h3 : clicks ≤ 6) (h4 : side ≤ 4) (hK : K < 100000) :
    Ca Try.prog 38 [.pointer (some ⟨b, 0, none⟩), .int .i64 states, .int .i64 clicks, .int .i64 side] w fun v w' => ∃ x : MdS, (v = .agg x.cs.toArray ∧ x.xs.map (·.2) = x.r.next ∧ MadeR states clicks side x.r) ∧ Sat w (fun x => x = b) [un x.K, dkP bs b (K + 100)] w' :=
  made_ca1 states clicks side h1 h2 h3 h4 K hK w b 0 w0.heap.size _ (hby.keep hs.chg0) (dk_new hs) (hs.all _ (.head _))
end Go.Proofs.Ytohlillcaadidaa

/- Walks: copies of lists. -/
namespace Go.Proofs.Ytohlillcaadidaa
open Go Go.Eng

theorem cloneI_ca (w : World) (lo hi : Nat) (v : Value) (l : List Int) (h : RdI w lo hi v l) (hlen : l.length ≤ 1000000) :
    Ca Try.prog 18 [v] w fun r w' => ∃ x : Value, r = x ∧ Sat w M0 [.ow x 3 1 l.length (ints l)] w' := by
  refine q_of (Sat.nil w M0) Try.func18 rfl (by simp [Try.ntmps18]) ?_
  (refine q_seq ?_; refine q_region ?_; refine ql_pure tabOk rfl rfl ?_; refine q_nil ?_; refine q_seq ?_; refine q_region ?_; refine ql_pure tabOk rfl rfl ?_)
  refine ql_conv (H' := [.ow (.slice none 0 0) 3 1 0 []]) (fun w' hs => Sat.ownil hs _ _) ?_
  refine ql_append (q := l.length) (news := ints l) slI rfl rfl rfl (fun v' => by repeat constructor) (fun w' hs => ⟨lo, hi, RdI.row (RdE.keep h hs.chg0)⟩) (fun c hc => by obtain ⟨y, _, rfl⟩ := List.mem_map.1 hc; rfl) (by omega) (by omega) (fun x => ?_)
  (refine ql_pure tabOk rfl rfl ?_; refine q_nil ?_; refine q_ret ?_)
  refine q_fin tabOk rfl (by repeat (first | exact RVs.nil | apply RVs.tmp rfl | apply RVs.cellA rfl rfl (by repeat first | exact .head _ | refine .tail _ ?_) (by rfl) | apply RVs.cell1 rfl rfl (by repeat first | exact .head _ | refine .tail _ ?_))) fun w hs => ?_
  exact ⟨x, rfl, by simpa using hs⟩
theorem spC_length (l : List (Int × Int)) : (spC l).length = l.length * 2 := by
  induction l with
  | nil => rfl
  | cons x l ih => simp only [spC, List.flatMap_cons, List.length_append, List.length_cons] at ih ⊢; rw [ih]; simp; omega
theorem RdS.row {w : World} {lo hi : Nat} {v : Value} {l : List (Int × Int)} (h : RdS w lo hi v l) : Rd w lo hi v 2 l.length (spC l) := by
  have := h.rd
  rw [cells_sp, List.length_map] at this
  exact this
theorem cloneS_ca (w : World) (lo hi : Nat) (v : Value) (l : List (Int × Int)) (h : RdS w lo hi v l) (hlen : l.length ≤ 1000000) :
    Ca Try.prog 31 [v] w fun r w' => ∃ x : Value, r = x ∧ Sat w M0 [.ow x 64 2 l.length (spC l)] w' := by
  refine q_of (Sat.nil w M0) Try.func31 rfl (by simp [Try.ntmps31]) ?_
  (refine q_seq ?_; refine q_region ?_; refine ql_pure tabOk rfl rfl ?_; refine q_nil ?_; refine q_seq ?_; refine q_region ?_; refine ql_pure tabOk rfl rfl ?_)
  refine ql_conv (H' := [.ow (.slice none 0 0) 64 2 0 []]) (fun w' hs => Sat.ownil hs _ _) ?_
  refine ql_append (q := l.length) (news := spC l) slSP rfl rfl rfl (fun v' => by repeat constructor) (fun w' hs => ⟨lo, hi, RdS.row (RdE.keep h hs.chg0)⟩) (fun c hc => by obtain ⟨y, _, hy⟩ := List.mem_flatMap.1 hc; simp at hy; rcases hy with rfl | rfl <;> rfl) (by omega) (by omega) (fun x => ?_)
  (refine ql_pure tabOk rfl rfl ?_; refine q_nil ?_; refine q_ret ?_)
  refine q_fin tabOk rfl (by repeat (first | exact RVs.nil | apply RVs.tmp rfl | apply RVs.cellA rfl rfl (by repeat first | exact .head _ | refine .tail _ ?_) (by rfl) | apply RVs.cell1 rfl rfl (by repeat first | exact .head _ | refine .tail _ ?_))) fun w hs => ?_
  exact ⟨x, rfl, by simpa using hs⟩
end Go.Proofs.Ytohlillcaadidaa

/- Walks: copies of ranges. -/
namespace Go.Proofs.Ytohlillcaadidaa
open Go Go.Eng

/-- Rows of our own. -/
def rowsO (xs : List (Value × List Int)) : List Ck := xs.map fun p => .ow p.1 3 1 p.2.length (ints p.2)
theorem own_one' {w : World} {t sz m : Nat} {v : Value} {xs : List Value} (h : w.ownsRow 0 t sz v m xs) : oneV v = true := by
  obtain ⟨a, n, c, rfl⟩ := own_slice h
  rfl
theorem rowsO_rd {w : World} {v : Value} {xs : List (Value × List Int)} {n : Nat} (hu : (un (rowsO xs)).p w) (h1 : w.ownsRow 0 22 1 v n (xs.map (·.1))) : RdII w 0 w.heap.size v (xs.map (·.2)) := by
  have hn : n = (xs.map (·.1)).length := by have := h1.1; omega
  have hp : ∀ p ∈ xs, w.ownsRow 0 3 1 p.1 p.2.length (ints p.2) := fun p hp => hu.1 (.ow p.1 3 1 p.2.length (ints p.2)) (List.mem_map.2 ⟨p, hp, rfl⟩)
  refine ⟨xs.map (·.1), RdE.one (by rw [← hn]; exact own_rd h1) (fun e he => by obtain ⟨p, hm, rfl⟩ := List.mem_map.1 he; exact own_one' (hp p hm)), by simp, fun i hi hi' => ?_⟩
  have hi2 : i < xs.length := by simpa using hi
  simp only [List.getElem_map]
  exact own_rdI (hp _ (List.getElem_mem hi2)) rfl

set_option maxHeartbeats 1000000 in
theorem cloneAll_ca (w : World) (lo hi : Nat) (v : Value) (ll : List (List Int)) (h : RdII w lo hi v ll) (hlen : ll.length ≤ 1000) (hl : ∀ l ∈ ll, l.length ≤ 1000000) :
    Ca Try.prog 69 [v] w fun r w' => ∃ x : Value × List (Value × List Int), (r = x.1 ∧ x.2.map (·.2) = ll) ∧ Sat w M0 [un (rowsO x.2), .ow x.1 22 1 ll.length (x.2.map (·.1))] w' := by
  obtain ⟨a, cap, rfl, hs0⟩ := h.outI
  refine q_of (Sat.nil w M0) Try.func69 rfl (by simp [Try.ntmps69]) ?_
  (refine q_seq ?_; refine q_region ?_; refine ql_pure tabOk rfl rfl ?_; refine q_nil ?_; refine q_seq ?_; refine q_region ?_; refine ql_pure tabOk rfl rfl ?_; refine q_nil ?_; (iterate 2 refine q_seq ?_); refine q_region ?_; (iterate 3 refine ql_pure tabOk rfl rfl ?_); refine q_nil ?_; refine q_block ?_)
  refine q_conv (H' := [un (rowsO []), .ow (.slice none 0 0) 22 1 0 (([] : List (Value × List Int)).map (·.1))]) (fun w' hs => Sat.un_nil (Sat.ownil hs _ _)) ?_
  refine q_loop (σ := Value × List (Value × List Int)) (fun s => s.2.length ≤ ll.length ∧ s.2.map (·.2) = ll.take s.2.length) (fun s => ll.length - s.2.length) (fun s => [(3, s.1), (6, .slice a ll.length cap), (7, .int .i64 ll.length), (8, .int .i64 s.2.length)])
    (fun s => [un (rowsO s.2), .ow s.1 22 1 s.2.length (s.2.map (·.1))]) (.slice none 0 0, []) ⟨by simp, by simp⟩ ⟨rfl, rfl, rfl, rfl, trivial⟩ (Sp.refl _) ?_
  rintro ⟨va, xs⟩ ⟨hk, hxs⟩ K hK
  simp only at hk hxs
  dsimp only
  (refine q_seq ?_; refine q_region ?_; refine ql_pure tabOk rfl rfl ?_; refine q_nil ?_; refine q_seq ?_)
  refine q_if rfl (fun hc => ?_) (fun hc => ?_)
  · have hk2 : xs.length < ll.length := by omega
    clear hc
    obtain ⟨b, off, rfl⟩ := hs0 (by omega)
    obtain ⟨ar, cr, hr1, hr2⟩ := h.row xs.length hk2
    (refine q_skip ?_; refine q_seq ?_; refine q_block ?_; refine q_seq ?_; refine q_region ?_)
    refine ql_index tabOk rfl rfl rfl rfl rfl (by omega) (by omega) ?_
    refine ql_load1 tabOk rfl rfl rfl (fun w hs => hr2 w hs.chg0) ?_
    (refine ql_pure tabOk rfl rfl ?_; refine q_nil ?_; refine q_region ?_; (iterate 2 refine ql_pure tabOk rfl rfl ?_))
    refine ql_call (β := Value) (ψ := fun x v => v = x) (L' := fun x => [.ow x 3 1 ll[xs.length].length (ints ll[xs.length])]) tabOk [] _ M0 rfl rfl rfl rfl (Sp.refl _) (fun _ h => h.elim) (fun w' hs => cloneI_ca w' lo hi _ ll[xs.length] (RdE.keep hr1 hs.chg0) (hl _ (List.getElem_mem hk2))) ?_
    rintro _ y rfl
    skip
    refine ql_fact (fun w hs => hs.slice2 (v := y) (by repeat first | exact .head _ | refine .tail _ ?_)) ?_
    rintro ⟨ay, cy, rfl⟩
    refine ql_mkS 22 [.slice ay ll[xs.length].length cy] rfl (by kernel_rfl) rfl (fun bn => ?_)
    skip
    refine ql_append (q := 1) slII rfl rfl rfl (fun v' => by repeat constructor) (fun w' hs => ⟨_, _, Blk.rd (hs.blk (b := bn) (by repeat first | exact .head _ | refine .tail _ ?_)) rfl 1⟩) (by simp [oneV]) (by omega) (by omega) (fun va' => ?_)
    (refine ql_pure tabOk rfl rfl ?_; refine q_nil ?_; refine q_blk ?_; refine q_region ?_; refine ql_ar tabOk rfl rfl rfl rfl (by omega) (by omega) ?_; refine ql_pure tabOk rfl rfl ?_; refine q_nil ?_)
    refine q_conv (H' := [un (rowsO (xs ++ [(Value.slice ay ll[xs.length].length cy, ll[xs.length])])), .ow va' 22 1 (xs ++ [(Value.slice ay ll[xs.length].length cy, ll[xs.length])]).length ((xs ++ [(Value.slice ay ll[xs.length].length cy, ll[xs.length])]).map (·.1))]) (fun w' hs => by
      have h1 : Sat w M0 [.ow (.slice ay ll[xs.length].length cy) 3 1 ll[xs.length].length (ints ll[xs.length]), un (rowsO xs), .ow va' 22 1 (xs.length + 1) (xs.map (·.1) ++ [.slice ay ll[xs.length].length cy])] w' := hs.sp (by repeat (first | exact Sp.nil | exact Sp.refl _ | refine Sp.cons (by repeat constructor) ?_))
      have h2 := h1.un_in.un_perm (L' := rowsO (xs ++ [(Value.slice ay ll[xs.length].length cy, ll[xs.length])])) (by unfold rowsO; rw [List.map_append]; exact (List.perm_append_comm (l₁ := [_])))
      simpa using h2) ?_
    have e1 : ll.take (xs.length + 1) = ll.take xs.length ++ [ll[xs.length]] := List.take_succ_eq_append_getElem hk2
    have hlen1 : (xs ++ [(Value.slice ay ll[xs.length].length cy, ll[xs.length])]).length = xs.length + 1 := by simp
    refine hK (va', xs ++ [(Value.slice ay ll[xs.length].length cy, ll[xs.length])]) _ _ ⟨by simp only [hlen1]; omega, by simp only [hlen1, e1, List.map_append, hxs]; rfl⟩ (by simp only [hlen1]; omega) ⟨rfl, rfl, rfl, lookI rfl (by simp only [hlen1]; omega), trivial⟩ (Sp.refl _)
  · have hkl : xs.length = ll.length := by omega
    (refine q_exit _ rfl ?_; refine q_seq ?_; refine q_region ?_; (iterate 2 refine ql_pure tabOk rfl rfl ?_); refine q_nil ?_; refine q_ret ?_)
    refine q_fin tabOk rfl (by repeat (first | exact RVs.nil | apply RVs.tmp rfl | apply RVs.cellA rfl rfl (by repeat first | exact .head _ | refine .tail _ ?_) (by rfl) | apply RVs.cell1 rfl rfl (by repeat first | exact .head _ | refine .tail _ ?_))) fun w hs => ?_
    refine ⟨(va, xs), ⟨rfl, by simp only; rw [hxs, hkl, List.take_length]⟩, ?_⟩
    have := hs
    rw [hkl] at this
    exact this

/-- The parts of a copy. -/
def cpK (r : Rg) (vg vd vf vn : Value) (xs : List (Value × List Int)) : List Ck :=
  [.ow vg 3 1 r.group.length (ints r.group), .ow vd 3 1 r.drifts.length (ints r.drifts), .ow vf 3 1 r.first.length (ints r.first), .ow vn 22 1 r.next.length (xs.map (·.1)), un (rowsO xs)]
theorem cp_rg {w : World} {r : Rg} {vg vd vf vn : Value} {xs : List (Value × List Int)} (hx : xs.map (·.2) = r.next) (h : ∀ c ∈ cpK r vg vd vf vn xs, c.p w) : RgC w [.int .i64 r.radius, .int .i64 r.unit, .int .i64 r.clicks, .int .i64 r.total, vg, vd, vf, vn] r := by
  have h1 : w.ownsRow 0 3 1 vg r.group.length (ints r.group) := h _ (.head _)
  have h2 : w.ownsRow 0 3 1 vd r.drifts.length (ints r.drifts) := h _ (.tail _ (.head _))
  have h3 : w.ownsRow 0 3 1 vf r.first.length (ints r.first) := h _ (.tail _ (.tail _ (.head _)))
  have h4 : w.ownsRow 0 22 1 vn r.next.length (xs.map (·.1)) := h _ (.tail _ (.tail _ (.tail _ (.head _))))
  have h5 : (un (rowsO xs)).p w := h _ (.tail _ (.tail _ (.tail _ (.tail _ (.head _)))))
  have k1 := own_rdI h1 rfl
  have k2 := own_rdI h2 rfl
  have k3 := own_rdI h3 rfl
  have k4 := rowsO_rd h5 h4
  rw [hx] at k4
  obtain ⟨a1, c1, rfl, _⟩ := RdI.outI k1
  obtain ⟨a2, c2, rfl, _⟩ := RdI.outI k2
  obtain ⟨a3, c3, rfl, _⟩ := RdI.outI k3
  obtain ⟨a4, c4, rfl, _⟩ := RdII.outI k4
  exact ⟨0, w.heap.size, a1, c1, a2, c2, a3, c3, a4, c4, rfl, k1, k2, k3, k4⟩
theorem cp_own {r : Rg} {vg vd vf vn : Value} {xs : List (Value × List Int)} (hx : xs.map (·.2) = r.next) : OwnR (cpK r vg vd vf vn xs) [.int .i64 r.radius, .int .i64 r.unit, .int .i64 r.clicks, .int .i64 r.total, vg, vd, vf, vn] r := fun _ h => cp_rg hx h

set_option maxRecDepth 20000 in
set_option maxHeartbeats 2000000 in
theorem cloneR_ca0 (w : World) (cs : List Value) (r : Rg) (h : RgC w cs r) (hsm : r.Small) :
    Ca Try.prog 17 [.agg cs.toArray] w fun v w' => ∃ x : Value × Value × Value × Value × List (Value × List Int), (v = .agg #[.int .i64 r.radius, .int .i64 r.unit, .int .i64 r.clicks, .int .i64 r.total, x.1, x.2.1, x.2.2.1, x.2.2.2.1] ∧ x.2.2.2.2.map (·.2) = r.next) ∧ Sat w M0 (cpK r x.1 x.2.1 x.2.2.1 x.2.2.2.1 x.2.2.2.2) w' := by
  have h0 := h
  have s1 := hsm.group
  have s2 := hsm.drifts
  have s3 := hsm.first
  have s4 := hsm.next
  have s5 := hsm.rows
  obtain ⟨lo, hi, ag, cg, ad, cd, af, cf, an, cn, rfl, hg, hdr, hf, hn⟩ := h
  refine q_of (Sat.nil w M0) Try.func17 rfl (by simp [Try.ntmps17]) ?_
  (refine q_seq ?_; refine q_region ?_)
  refine ql_box rfl rfl (fun b1 => ?_)
  skip
  refine ql_alloc zero25 rfl (fun b2 => ?_)
  (refine q_nil ?_; refine q_seq ?_)
  refine q_drawS2 12 _ [] [.pt b2 [.int .i64 0, .int .i64 0, .int .i64 0, .int .i64 0, .slice none 0 0, .slice none 0 0, .slice none 0 0, .slice none 0 0] 25] [.pt b1 [.int .i64 r.radius, .int .i64 r.unit, .int .i64 r.clicks, .int .i64 r.total, .slice ag r.group.length cg, .slice ad r.drifts.length cd, .slice af r.first.length cf, .slice an r.next.length cn] 25] (Sp.refl _) (Sp.cons (by repeat constructor) (by repeat (first | exact Sp.nil | exact Sp.refl _ | refine Sp.cons (by repeat constructor) ?_))) (by kernel_rfl) (by kernel_rfl) (by kernel_rfl) fun K1 hK1 => ?_
  (refine qf_pure tabOk rfl rfl rfl ?_; refine qf_loadB tabOk rfl rfl rfl (by repeat first | exact .head _ | refine .tail _ ?_) (by rfl) ?_)
  refine qf_call (β := Value) tabOk [] _ M0 rfl rfl rfl rfl (Sp.refl _) (fun _ h => h.elim) (fun w' hs => cloneI_ca w' lo hi _ r.group (RdE.keep hg hs.chg0) (by omega)) ?_
  rintro _ vg rfl
  (refine qf_pure tabOk rfl rfl rfl ?_; refine qf_loadB tabOk rfl rfl rfl (by repeat first | exact .head _ | refine .tail _ ?_) (by rfl) ?_)
  refine qf_call (β := Value) tabOk [] _ M0 rfl rfl rfl rfl (Sp.refl _) (fun _ h => h.elim) (fun w' hs => cloneI_ca w' lo hi _ r.drifts (RdE.keep hdr hs.chg0) (by omega)) ?_
  rintro _ vd rfl
  (refine qf_pure tabOk rfl rfl rfl ?_; refine qf_loadB tabOk rfl rfl rfl (by repeat first | exact .head _ | refine .tail _ ?_) (by rfl) ?_)
  refine qf_call (β := Value) tabOk [] _ M0 rfl rfl rfl rfl (Sp.refl _) (fun _ h => h.elim) (fun w' hs => cloneI_ca w' lo hi _ r.first (RdE.keep hf hs.chg0) (by omega)) ?_
  rintro _ vf rfl
  (refine qf_pure tabOk rfl rfl rfl ?_; refine qf_loadB tabOk rfl rfl rfl (by repeat first | exact .head _ | refine .tail _ ?_) (by rfl) ?_)
  refine qf_call (β := Value × List (Value × List Int)) (ψ := fun x v => v = x.1 ∧ x.2.map (·.2) = r.next) tabOk [] _ M0 rfl rfl rfl rfl (Sp.refl _) (fun _ h => h.elim) (fun w' hs => cloneAll_ca w' lo hi _ r.next (hn.keep hs.chg0) (by omega) (fun l hl => by have := s5 l hl; omega)) ?_
  rintro ⟨_, xs⟩ vn ⟨rfl, hxs⟩
  dsimp only at hxs ⊢
  (refine qf_nil ?_)
  refine hK1 _ _ [.pt b1 [.int .i64 r.radius, .int .i64 r.unit, .int .i64 r.clicks, .int .i64 r.total, .slice ag r.group.length cg, .slice ad r.drifts.length cd, .slice af r.first.length cf, .slice an r.next.length cn] 25, .ow vg 3 1 r.group.length (ints r.group), .ow vd 3 1 r.drifts.length (ints r.drifts), .ow vf 3 1 r.first.length (ints r.first), .ow vn 22 1 r.next.length (xs.map (·.1)), un (rowsO xs)] (Sp.cons (by repeat constructor) (Sp.cons (by repeat constructor) (Sp.cons (by repeat constructor) (Sp.cons (by repeat constructor) (Sp.cons (by repeat constructor) (Sp.cons (by repeat constructor) (by repeat (first | exact Sp.nil | exact Sp.refl _ | refine Sp.cons (by repeat constructor) ?_)))))))) ?_
  refine qf_fact (fun w hs => hs.slice (v := vg) (by repeat first | exact .head _ | refine .tail _ ?_)) ?_
  rintro ⟨a1, m1, c1, rfl⟩
  refine qf_fact (fun w hs => hs.slice (v := vd) (by repeat first | exact .head _ | refine .tail _ ?_)) ?_
  rintro ⟨a2, m2, c2, rfl⟩
  refine qf_fact (fun w hs => hs.slice (v := vf) (by repeat first | exact .head _ | refine .tail _ ?_)) ?_
  rintro ⟨a3, m3, c3, rfl⟩
  refine qf_fact (fun w hs => hs.slice (v := vn) (by repeat first | exact .head _ | refine .tail _ ?_)) ?_
  rintro ⟨a4, m4, c4, rfl⟩
  (refine qf_pure tabOk rfl rfl rfl ?_; refine qf_st4 tabOk rfl rfl rfl rfl (by repeat constructor) ?_; refine qf_pure tabOk rfl rfl rfl ?_; refine qf_st5 tabOk rfl rfl rfl rfl (by repeat constructor) ?_; refine qf_pure tabOk rfl rfl rfl ?_; refine qf_st6 tabOk rfl rfl rfl rfl (by repeat constructor) ?_; refine qf_pure tabOk rfl rfl rfl ?_; refine qf_st7 tabOk rfl rfl rfl rfl (by repeat constructor) ?_; refine qf_nil ?_; refine q_seq ?_; refine q_region ?_; refine ql_loadAB tabOk rfl rfl rfl (by repeat first | exact .head _ | refine .tail _ ?_) (by rfl) (by rfl) ?_; refine ql_setA tabOk rfl rfl rfl rfl rfl (by repeat constructor) rfl ?_; refine q_nil ?_; refine q_ret ?_)
  refine q_fin tabOk rfl (by repeat (first | exact RVs.nil | apply RVs.tmp rfl | apply RVs.cellA rfl rfl (by repeat first | exact .head _ | refine .tail _ ?_) (by rfl) | apply RVs.cell1 rfl rfl (by repeat first | exact .head _ | refine .tail _ ?_))) fun w hs => ?_
  exact ⟨(_, _, _, _, xs), ⟨rfl, hxs⟩, hs.sp (by repeat (first | exact Sp.nil | exact Sp.refl _ | refine Sp.cons (by repeat constructor) ?_))⟩
theorem cloneR_ca (w : World) (cs : List Value) (r : Rg) (h : RgC w cs r) (hsm : r.Small) :
    Ca Try.prog 17 [.agg cs.toArray] w fun v w' => ∃ x : List Ck × List Value, (v = .agg x.2.toArray ∧ OwnR x.1 x.2 r) ∧ Sat w M0 [un x.1] w' :=
  (cloneR_ca0 w cs r h hsm).mono fun v w' ⟨(vg, vd, vf, vn, xs), ⟨hv, hx⟩, hs⟩ => ⟨(_, _), ⟨hv, cp_own hx⟩, Sat.un1.2 hs⟩
end Go.Proofs.Ytohlillcaadidaa

/- Walks: lists of spans that are changed; a copy of a range as one piece. -/
namespace Go.Proofs.Ytohlillcaadidaa
open Go Go.Eng

/-- A copy of a range: where its lists lie. -/
structure Cp (r : Rg) where
  a1 : Option Addr
  c1 : Nat
  a2 : Option Addr
  c2 : Nat
  a3 : Option Addr
  c3 : Nat
  a4 : Option Addr
  c4 : Nat
  xs : List (Value × List Int)
  hx : xs.map (·.2) = r.next
def Cp.K {r : Rg} (x : Cp r) : List Ck := cpK r (.slice x.a1 r.group.length x.c1) (.slice x.a2 r.drifts.length x.c2) (.slice x.a3 r.first.length x.c3) (.slice x.a4 r.next.length x.c4) x.xs
theorem cloneR_cp (w : World) (cs : List Value) (r : Rg) (h : RgC w cs r) (hsm : r.Small) :
    Ca Try.prog 17 [.agg cs.toArray] w fun v w' => ∃ x : Cp r, v = .agg #[.int .i64 r.radius, .int .i64 r.unit, .int .i64 r.clicks, .int .i64 r.total, .slice x.a1 r.group.length x.c1, .slice x.a2 r.drifts.length x.c2, .slice x.a3 r.first.length x.c3, .slice x.a4 r.next.length x.c4] ∧ Sat w M0 [un x.K] w' :=
  (cloneR_ca0 w cs r h hsm).mono fun v w' ⟨(vg, vd, vf, vn, xs), ⟨hv, hx⟩, hs⟩ => by
    dsimp only at hv hx hs
    obtain ⟨a1, c1, rfl⟩ := hs.slice2 (v := vg) (e := 3) (sz := 1) (n := r.group.length) (.head _)
    obtain ⟨a2, c2, rfl⟩ := hs.slice2 (v := vd) (e := 3) (sz := 1) (n := r.drifts.length) (.tail _ (.head _))
    obtain ⟨a3, c3, rfl⟩ := hs.slice2 (v := vf) (e := 3) (sz := 1) (n := r.first.length) (.tail _ (.tail _ (.head _)))
    obtain ⟨a4, c4, rfl⟩ := hs.slice2 (v := vn) (e := 22) (sz := 1) (n := r.next.length) (.tail _ (.tail _ (.tail _ (.head _))))
    exact ⟨⟨a1, c1, a2, c2, a3, c3, a4, c4, xs, hx⟩, hv, Sat.un1.2 hs⟩
/-- Other numbers, the same lists. -/
theorem Cp.at2 {r : Rg} (x : Cp r) (r' : Rg) (hg : r'.group = r.group) (hd : r'.drifts = r.drifts) (hf : r'.first = r.first) (hn : r'.next = r.next) {w0 w : World} {M : Nat → Prop} {H : List Ck} (hs : Sat w0 M H w) (hm : un x.K ∈ H) :
    RgC w [.int .i64 r'.radius, .int .i64 r'.unit, .int .i64 r'.clicks, .int .i64 r'.total, .slice x.a1 r.group.length x.c1, .slice x.a2 r.drifts.length x.c2, .slice x.a3 r.first.length x.c3, .slice x.a4 r.next.length x.c4] r' := by
  refine cp_rg (xs := x.xs) (by rw [hn]; exact x.hx) (fun c hc => (hs.mem hm).1 c ?_)
  unfold Cp.K
  unfold cpK at hc ⊢
  rw [hg, hd, hf, hn] at hc
  exact hc

/-! Spans that are changed in place. -/
theorem spC_get1 (l : List (Int × Int)) (i : Nat) (hi : i < l.length) : (spC l)[i * 2 + 0]? = some (.int .i64 l[i].1) ∧ (spC l)[i * 2 + 1]? = some (.int .i64 l[i].2) := by
  induction l generalizing i with
  | nil => simp at hi
  | cons x l ih =>
    cases i with
    | zero => simp [spC]
    | succ i =>
      have := ih i (by simpa using hi)
      simp only [spC, List.flatMap_cons] at this ⊢
      have e1 : (i + 1) * 2 + 0 = (i * 2 + 0) + 2 := by omega
      have e2 : (i + 1) * 2 + 1 = (i * 2 + 1) + 2 := by omega
      rw [e1, e2]
      simpa using this
theorem spC_set0 (l : List (Int × Int)) (i : Nat) (hi : i < l.length) (z : Int) : (spC l).set (i * 2 + 0) (.int .i64 z) = spC (l.set i (z, l[i].2)) := by
  induction l generalizing i with
  | nil => simp at hi
  | cons x l ih =>
    cases i with
    | zero => simp [spC]
    | succ i =>
      have := ih i (by simpa using hi)
      simp only [spC, List.flatMap_cons, List.set_cons_succ, List.getElem_cons_succ] at this ⊢
      rw [show (i + 1) * 2 + 0 = (i * 2 + 0) + 1 + 1 by omega]
      simp only [List.cons_append, List.nil_append, List.set_cons_succ, Nat.add_zero] at this ⊢
      rw [this]
theorem spC_set1 (l : List (Int × Int)) (i : Nat) (hi : i < l.length) (z : Int) : (spC l).set (i * 2 + 1) (.int .i64 z) = spC (l.set i (l[i].1, z)) := by
  induction l generalizing i with
  | nil => simp at hi
  | cons x l ih =>
    cases i with
    | zero => simp [spC]
    | succ i =>
      have := ih i (by simpa using hi)
      simp only [spC, List.flatMap_cons, List.set_cons_succ, List.getElem_cons_succ] at this ⊢
      rw [show (i + 1) * 2 + 1 = (i * 2 + 1) + 1 + 1 by omega]
      simp only [List.cons_append, List.nil_append, List.set_cons_succ]
      rw [this]
theorem cellsS {w : World} {g : Nat} {l : List (Int × Int)} {sp : List Value} {t : TypeId} (h : Blk w g (spC l ++ sp) t) (i : Nat) (hi : i < l.length) : w.cell? ⟨g, 0 + i * 2 + 0, none⟩ = some (.int .i64 l[i].1) ∧ w.cell? ⟨g, 0 + i * 2 + 1, none⟩ = some (.int .i64 l[i].2) := by
  have hl := spC_length l
  have hg := spC_get1 l i hi
  rw [Blk.cell h, Blk.cell h]
  rw [List.getElem?_append_left (by omega), List.getElem?_append_left (by omega)]
  rw [show 0 + i * 2 + 0 = i * 2 + 0 by omega, show 0 + i * 2 + 1 = i * 2 + 1 by omega]
  exact hg
theorem setS0 (l : List (Int × Int)) (sp : List Value) (i : Nat) (hi : i < l.length) (z : Int) : (spC l ++ sp).set (0 + i * 2 + 0) (.int .i64 z) = spC (l.set i (z, l[i].2)) ++ sp := by
  have hl := spC_length l
  rw [List.set_append_left _ _ (by omega), show 0 + i * 2 + 0 = i * 2 + 0 by omega, spC_set0 l i hi]
theorem setS1 (l : List (Int × Int)) (sp : List Value) (i : Nat) (hi : i < l.length) (z : Int) : (spC l ++ sp).set (0 + i * 2 + 1) (.int .i64 z) = spC (l.set i (l[i].1, z)) ++ sp := by
  have hl := spC_length l
  rw [List.set_append_left _ _ (by omega), show 0 + i * 2 + 1 = i * 2 + 1 by omega, spC_set1 l i hi]
theorem blk_rdS {w : World} {g n cap : Nat} {l : List (Int × Int)} {sp : List Value} {t : TypeId} (h : Blk w g (spC l ++ sp) t) (hn : n = l.length) (hc : True) : RdS w 0 w.heap.size (.slice (some ⟨g, 0, none⟩) n cap) l := by
  subst hn
  have hl := spC_length l
  refine ⟨?_, fun e he => by obtain ⟨x, _, rfl⟩ := List.mem_map.1 he; rfl⟩
  rw [cells_sp, List.length_map]
  refine ⟨by omega, .inr ⟨g, 0, cap, rfl, fun _ => ⟨Nat.zero_le _, h.lt, h.lt⟩, fun j hj => ?_⟩⟩
  rw [Blk.cell h]
  rw [List.getElem?_append_left (by omega), Nat.zero_add]
end Go.Proofs.Ytohlillcaadidaa

/- The engine, part B16: shifts, and the last bit. -/
namespace Go.Eng
open Go Go.RowKit

section
variable {P : Program} {ro : Cx} {n : Nat} {F : Fin} {w0 : World} {M : Nat → Prop} {k : List It} {ops : Array Oper} {rest : List Oper} {e : Env} {H Hq : List Ck}
theorem run_shl {a b : Int} (hb : 0 ≤ b ∧ b < 64) (h1 : -9223372036854775808 ≤ a * 2 ^ b.toNat) (h2 : a * 2 ^ b.toNat < 9223372036854775808) (w : World) : (Op.shift .shl .i64 a .i64 b).run P w = .ok (.int .i64 (a * 2 ^ b.toNat)) w := by
  have hm : min b.toNat IntKind.i64.bits = b.toNat := by simp [IntKind.bits]; omega
  simp only [Op.shift, if_neg (show ¬ b < 0 by omega), hm]
  rw [w64 h1 h2]
  rfl
theorem run_shr {a b : Int} (ha : 0 ≤ a) (hb : 0 ≤ b ∧ b < 64) (w : World) : (Op.shift .shr .i64 a .i64 b).run P w = .ok (.int .i64 (a / 2 ^ b.toNat)) w := by
  have hm : min b.toNat IntKind.i64.bits = b.toNat := by simp [IntKind.bits]; omega
  simp only [Op.shift, if_neg (show ¬ b < 0 by omega), hm]
  rw [Int.fdiv_eq_ediv_of_nonneg _ (by exact Int.le_of_lt (Int.pow_pos (by omega)))]
  rfl
theorem bit1 (m : Nat) (hm : m < 18446744073709551616) : (BitVec.ofInt 64 (m : Int) &&& BitVec.ofInt 64 1).toNat = m % 2 := by
  rw [BitVec.toNat_and]
  have h1 : (BitVec.ofInt 64 (m : Int)).toNat = m := by simp [BitVec.toNat_ofInt]; omega
  have h2 : (BitVec.ofInt 64 1).toNat = 1 := by decide
  rw [h1, h2, Nat.and_one_is_mod]
theorem run_and1 {a : Int} (ha : 0 ≤ a ∧ a < 9223372036854775808) (w : World) : (Op.intBits .and .i64 a 1).run P w = .ok (.int .i64 (a % 2)) w := by
  obtain ⟨m, rfl⟩ := Int.eq_ofNat_of_zero_le ha.1
  have h := bit1 m (by omega)
  have h3 : (BitVec.ofInt IntKind.i64.bits (m : Int) &&& BitVec.ofInt IntKind.i64.bits 1).toNat = m % 2 := h
  simp only [Op.intBits]
  rw [h3, w64 (by omega) (by omega)]
  have : ((m % 2 : Nat) : Int) = (m : Int) % 2 := by omega
  rw [this]
  rfl
theorem ql_shl {d t t' : Nat} {x y : Operand} {a b : Int} {ty : TypeId} {pos : String} {af : Array Edge} (hx : opv e x = some (.int .i64 a)) (hy : opv e y = some (.int .i64 b)) (hd : Nat.blt d n = true) (hb : 0 ≤ b ∧ b < 64) (h1 : -9223372036854775808 ≤ a * 2 ^ b.toNat) (h2 : a * 2 ^ b.toNat < 9223372036854775808)
    (h : QL P ro n F w0 M k ops rest ((d, .int .i64 (a * 2 ^ b.toNat)) :: e) H) : QL P ro n F w0 M k ops (⟨some d, .binOp .shl t x y t', ty, pos, af, none⟩ :: rest) e H := .mk fun w hw =>
  yl_val (by simp) hd (fun a' hf => by
    have e1 := hf.op hx
    have e2 := hf.op hy
    simp only [execOp, e1, e2]
    have := run_shl (P := P) hb h1 h2 w
    simp [eqGuard, binOp, this]
    exact w64 h1 h2) (h.h w hw)
theorem ql_shr {d t t' : Nat} {x y : Operand} {a b : Int} {ty : TypeId} {pos : String} {af : Array Edge} (hx : opv e x = some (.int .i64 a)) (hy : opv e y = some (.int .i64 b)) (hd : Nat.blt d n = true) (ha : 0 ≤ a) (hb : 0 ≤ b ∧ b < 64)
    (h : QL P ro n F w0 M k ops rest ((d, .int .i64 (a / 2 ^ b.toNat)) :: e) H) : QL P ro n F w0 M k ops (⟨some d, .binOp .shr t x y t', ty, pos, af, none⟩ :: rest) e H := .mk fun w hw =>
  yl_val (by simp) hd (fun a' hf => by
    have e1 := hf.op hx
    have e2 := hf.op hy
    simp only [execOp, e1, e2]
    have := run_shr (P := P) ha hb w
    simp [eqGuard, binOp, this]) (h.h w hw)
theorem ql_and1 {d t t' : Nat} {x y : Operand} {a : Int} {ty : TypeId} {pos : String} {af : Array Edge} (hx : opv e x = some (.int .i64 a)) (hy : opv e y = some (.int .i64 1)) (hd : Nat.blt d n = true) (ha : 0 ≤ a ∧ a < 9223372036854775808)
    (h : QL P ro n F w0 M k ops rest ((d, .int .i64 (a % 2)) :: e) H) : QL P ro n F w0 M k ops (⟨some d, .binOp .and t x y t', ty, pos, af, none⟩ :: rest) e H := .mk fun w hw =>
  yl_val (by simp) hd (fun a' hf => by
    have e1 := hf.op hx
    have e2 := hf.op hy
    simp only [execOp, e1, e2]
    have := run_and1 (P := P) ha w
    simp [eqGuard, binOp, this]) (h.h w hw)
end
end Go.Eng

/- Engine 2: a block of numbers with room behind them. -/
namespace Go.Eng
open Go Go.RowKit

section
variable {P : Program} {T : Tab} {ro : Cx} {n : Nat} {F : Fin} {w0 : World} {M : Nat → Prop} {k : List It} {ops : Array Oper} {rest : List Oper} {e : Env} {H Hq : List Ck}
theorem setP (l : List Int) (sp : List Value) (i : Nat) (hi : i < l.length) (z : Int) : (ints l ++ sp).set i (.int .i64 z) = ints (l.set i z) ++ sp := by
  rw [List.set_append_left _ _ (by simpa using hi), ← List.map_set]
theorem cellP {w : World} {g : Nat} {l : List Int} {sp : List Value} {t : TypeId} (h : Blk w g (ints l ++ sp) t) (i : Nat) (hi : i < l.length) : w.cell? ⟨g, i, none⟩ = some (.int .i64 l[i]) := by
  rw [Blk.cell h, List.getElem?_append_left (by simpa using hi)]
  simp [hi]
theorem rdP {w : World} {g n cap : Nat} {l : List Int} {sp : List Value} {t : TypeId} (h : Blk w g (ints l ++ sp) t) (hn : n = l.length) : RdI w 0 w.heap.size (.slice (some ⟨g, 0, none⟩) n cap) l := by
  subst hn
  refine RdI.of ⟨by simp, .inr ⟨g, 0, cap, rfl, fun _ => ⟨Nat.zero_le _, h.lt, h.lt⟩, fun j hj => ?_⟩⟩
  rw [Blk.cell h, List.getElem?_append_left (by simpa using hj), Nat.zero_add]
theorem ql_loadQ (hT : T.Ok P) {d t : Nat} {x : Operand} {b off : Nat} {l : List Int} {sp : List Value} {bt : TypeId} {ty : TypeId} {pos : String} {af : Array Edge} (i : Nat)
    (hx : opv e x = some (.pointer (some ⟨b, off, none⟩))) (h1 : has T.one t = true) (hd : Nat.blt d n = true) (hb : Ck.pt b (ints l ++ sp) bt ∈ H) (ho : off = i) (hi : i < l.length)
    (h : QL P ro n F w0 M k ops rest ((d, .int .i64 l[i]) :: e) H) : QL P ro n F w0 M k ops (⟨some d, .load t x, ty, pos, af, none⟩ :: rest) e H :=
  ql_load1 hT hx h1 hd (fun _ hs => by subst ho; exact cellP (hs.mem hb) off hi) h
theorem ql_storeQ (hT : T.Ok P) {t : Nat} {x y : Operand} {b off : Nat} {l : List Int} {sp : List Value} {z : Int} {bt : TypeId} {H' : List Ck} {ty : TypeId} {pos : String} {af : Array Edge} (i : Nat)
    (hx : opv e x = some (.pointer (some ⟨b, off, none⟩))) (hy : opv e y = some (.int .i64 z)) (h1 : has T.one t = true) (hr : Rp H (.pt b (ints l ++ sp) bt) (.pt b (ints (l.set i z) ++ sp) bt) H') (ho : off = i) (hi : i < l.length)
    (h : QL P ro n F w0 M k ops rest e H') : QL P ro n F w0 M k ops (⟨none, .store t x y, ty, pos, af, none⟩ :: rest) e H :=
  ql_store1 hT hx hy h1 rfl (by subst ho; rw [setP l sp off hi]; exact hr) (by subst ho; rw [List.length_append, List.length_map]; omega) h
theorem qf_loadQ (hT : T.Ok P) {d t : Nat} {x : Operand} {b off : Nat} {l : List Int} {sp : List Value} {bt : TypeId} {ty : TypeId} {pos : String} {af : Array Edge} (i : Nat)
    (hx : opv e x = some (.pointer (some ⟨b, off, none⟩))) (h1 : has T.one t = true) (hd : Nat.blt d n = true) (hb : Ck.pt b (ints l ++ sp) bt ∈ Hq) (ho : off = i) (hi : i < l.length)
    (h : QF P ro n F w0 M k ops Hq rest ((d, .int .i64 l[i]) :: e) H) : QF P ro n F w0 M k ops Hq (⟨some d, .load t x, ty, pos, af, none⟩ :: rest) e H :=
  qf_load1 hT hx h1 hd (fun _ hs => by subst ho; exact cellP (hs.mem hb) off hi) h
theorem qf_storeQ (hT : T.Ok P) {t : Nat} {x y : Operand} {b off : Nat} {l : List Int} {sp : List Value} {z : Int} {bt : TypeId} {H' : List Ck} {ty : TypeId} {pos : String} {af : Array Edge} (i : Nat)
    (hx : opv e x = some (.pointer (some ⟨b, off, none⟩))) (hy : opv e y = some (.int .i64 z)) (h1 : has T.one t = true) (hr : Rp H (.pt b (ints l ++ sp) bt) (.pt b (ints (l.set i z) ++ sp) bt) H') (ho : off = i) (hi : i < l.length)
    (h : QF P ro n F w0 M k ops Hq rest e H') : QF P ro n F w0 M k ops Hq (⟨none, .store t x y, ty, pos, af, none⟩ :: rest) e H :=
  qf_store1 hT hx hy h1 rfl (by subst ho; rw [setP l sp off hi]; exact hr) (by subst ho; rw [List.length_append, List.length_map]; omega) h
end
end Go.Eng

/- Engine 2: a region that draws, with any marks. -/
namespace Go.Eng
open Go Go.RowKit

section
variable {P : Program} {ro : Cx} {n : Nat} {F : Fin} {w0 : World} {M : Nat → Prop} {k : List It} {ops : Array Oper} {l : List Oper} {e : Env} {H H1 H2 : List Ck} {bs : List Bool}
structure QB (P : Program) (ro : Cx) (n : Nat) (F : Fin) (w0 : World) (M : Nat → Prop) (k : List It) (ops : Array Oper) (H1 H2 : List Ck) (bs : List Bool) (l : List Oper) (e : Env) (H : List Ck) : Prop where
  h : ∀ w, Sat w0 M H w → YB P ro n F k ops (Sat w0 M H1) (Sat w0 M H2) bs l e w
theorem q_drawB {id : Nat} (bs : List Bool) (Hq2 Hm : List Ck) (hH : Sp H (Hm ++ Hq2)) (hm : P.follows .mixedOrders = true) (hB : flB l.toArray = true) (hbs : flagB l.toArray bs = true)
    (h : QB P ro n F w0 M k l.toArray H Hq2 bs l e H) : Q P ro n F w0 M (.code (.region id l.toArray true) :: k) e H := .mk fun w hs a hf hd => by
  have hs1 : Sat w0 M H { w with drawn := w.drawn + 1 } := hs.keep (Chg.drew (N := []) w)
  have h12 : ∀ w, Sat w0 M H w → Sat w0 M Hq2 w := fun w hw => (hw.sp hH).right
  refine wpIn_region_fl2 hm (flB_spec hB) (K := fun a w => S P ro.ro F k .normal a w) (Cq := flagC (Sat w0 M H) (Sat w0 M Hq2) bs) (Ce := flagC (Sat w0 M H) (Sat w0 M Hq2) bs)
    (fun i j oi oj => flagB_spec hbs h12 i j oi oj) (fun i => ?_) (fun _ _ h => h) ?_
  · unfold flagC
    cases bs.getD i false
    · exact h12 _ hs1
    · exact hs1
  · have h2 := wpFlB_eq (P := P) (ops := l.toArray) (C1 := Sat w0 M H) (C2 := Sat w0 M Hq2) (bs := bs) (K := fun a w => S P ro.ro F k .normal a w) l 0 (by simp)
    rw [show List.range l.toArray.size = List.range' 0 l.length from by simp [List.range_eq_range'], h2]
    exact h.h _ hs1 a hf hd
theorem qb_T (c : Nat) (hb : (bs.take c).all (fun x => x == true) = true) (hc : Nat.ble c bs.length = true) (hH : Sp H H1)
    (h : ∀ K1 : Act → World → Prop, (∀ e' H', QB P ro n F w0 M k ops H1 H2 (bs.drop c) (l.drop c) e' H' → Q P ro n F w0 M (.k K1 :: k) e' H') → QF P ro n F w0 M (.k K1 :: k) ops H1 (l.take c) e []) :
    QB P ro n F w0 M k ops H1 H2 bs l e H := .mk fun w hs => by
  refine yb_seg true c hb (Nat.le_of_ble_eq_true hc) (fun K1 hK1 => ?_)
  have h3 := h K1 (fun e' H' hq => .mk fun w' hw' a' hf' hd' => hK1 e' w' (hq.h w' hw') a' hf' hd')
  exact h3.h w (hs.sp hH)
theorem qb_F (c : Nat) (Hm : List Ck) (hb : (bs.take c).all (fun x => x == false) = true) (hc : Nat.ble c bs.length = true) (hH : Sp H (Hm ++ H2))
    (h : ∀ K1 : Act → World → Prop, (∀ e' H', QB P ro n F w0 M k ops H1 H2 (bs.drop c) (l.drop c) e' H' → Q P ro n F w0 M (.k K1 :: k) e' H') → QF P ro n F w0 M (.k K1 :: k) ops H2 (l.take c) e Hm) :
    QB P ro n F w0 M k ops H1 H2 bs l e H := .mk fun w hs => by
  refine yb_seg false c hb (Nat.le_of_ble_eq_true hc) (fun K1 hK1 => ?_)
  have h3 := h K1 (fun e' H' hq => .mk fun w' hw' a' hf' hd' => hK1 e' w' (hq.h w' hw') a' hf' hd')
  exact h3.h w (hs.sp hH)
theorem qb_nil {bs : List Bool} (h : Q P ro n F w0 M k e H) : QB P ro n F w0 M k ops H1 H2 bs [] e H := .mk fun w hs => yb_nil (h.h w hs)
end
end Go.Eng

/- Engine 2: changing an element of a slice of our own, in a region that draws. -/
namespace Go.Eng
open Go Go.RowKit

section
variable {P : Program} {T : Tab}
variable {ro : Cx} {n : Nat} {F : Fin} {w0 : World} {M : Nat → Prop} {k : List It} {ops : Array Oper} {rest : List Oper} {e : Env} {H Hq : List Ck}
theorem qf_storeW (hT : T.Ok P) {t : Nat} {x y : Operand} {g off m c et : Nat} {xs : List Value} {u : Value} {H' : List Ck} {ty : TypeId} {pos : String} {af : Array Edge} (i : Nat)
    (hx : opv e x = some (.pointer (some ⟨g, off, none⟩))) (hy : opv e y = some u) (h1 : has T.one t = true) (hv : oneV u = true)
    (hr : Rp H (.ow (.slice (some ⟨g, 0, none⟩) m c) et 1 m xs) (.ow (.slice (some ⟨g, 0, none⟩) m c) et 1 m (xs.set i u)) H') (ho : off = i) (hi : i < xs.length)
    (h : QF P ro n F w0 M k ops Hq rest e H') : QF P ro n F w0 M k ops Hq (⟨none, .store t x y, ty, pos, af, none⟩ :: rest) e H := .mk fun w hs => by
  subst ho
  obtain ⟨hl, h2⟩ : w.ownsRow 0 et 1 (.slice (some ⟨g, 0, none⟩) m c) m xs := hs.mem (hr.app Hq).mem
  rcases h2 with ⟨hv', _⟩ | ⟨g', cap, cur, hv', hg, hh, hnc, hcm, hcs, ht⟩
  · cases hv'
  cases hv'
  have hb : Blk w g cur.toList et := by simpa [Blk] using hh
  have hcl : off < cur.toList.length := by
    have := congrArg List.length ht
    simp at this
    simp
    omega
  refine yf_store1 hT hx hy h1 hv hb hcl (fun w' hc _ hb' => ?_)
  have hs' := hs.rep (hr.app Hq) hc (fun k hk => by
    obtain rfl : k = g := by simpa using hk
    rfl) (by
    refine ⟨by simpa using hl, .inr ⟨g, c, (cur.toList.set off u).toArray, rfl, hg, by simpa [Blk] using hb', hnc, hcm, by simpa using hcs, ?_⟩⟩
    simp only [List.toList_toArray]
    rw [List.take_set, ht]) (fun b hb2 => by
    have : b = g := by simpa [Ck.D, Value.ownBlock] using hb2.symm
    subst this
    exact ⟨.inl rfl, hb'.lt⟩)
  exact ⟨hs'.right, h.h w' hs'⟩
theorem own_lt {w : World} {et g m c : Nat} {xs : List Value} (h : w.ownsRow 0 et 1 (.slice (some ⟨g, 0, none⟩) m c) m xs) : g < w.heap.size := by
  obtain ⟨hl, h2⟩ := h
  rcases h2 with ⟨hv', _⟩ | ⟨g', cap, cur, hv', hg, hh, hnc, hcm, hcs, ht⟩
  · cases hv'
  cases hv'
  have hb : Blk w g cur.toList et := by simpa [Blk] using hh
  exact hb.lt
theorem own_cell {w : World} {et g m c : Nat} {xs : List Value} (h : w.ownsRow 0 et 1 (.slice (some ⟨g, 0, none⟩) m c) m xs) (i : Nat) (hi : i < xs.length) : w.cell? ⟨g, i, none⟩ = some xs[i] := by
  obtain ⟨hl, h2⟩ := h
  rcases h2 with ⟨hv', _⟩ | ⟨g', cap, cur, hv', hg, hh, hnc, hcm, hcs, ht⟩
  · cases hv'
  cases hv'
  have hb : Blk w g cur.toList et := by simpa [Blk] using hh
  rw [Blk.cell hb i]
  have e : xs[i]? = some xs[i] := List.getElem?_eq_getElem hi
  rw [← e, ← ht, List.getElem?_take, if_pos (by omega)]
theorem Sat.own0 {w : World} {et g m c : Nat} {xs : List Value} (h : w.ownsRow 0 et 1 (.slice (some ⟨g, 0, none⟩) m c) m xs) : Sat w (fun x => x = g) [.ow (.slice (some ⟨g, 0, none⟩) m c) et 1 m xs] w :=
  ⟨ChgP.refl _ _, by simpa [Ck.p] using h, .cons (by simp) .nil, fun ck hc x hx => by
    obtain rfl : ck = .ow (.slice (some ⟨g, 0, none⟩) m c) et 1 m xs := by simpa using hc
    obtain rfl : x = g := by simpa [Ck.D, Value.ownBlock] using hx.symm
    exact ⟨own_lt h, .inl rfl⟩⟩
end
end Go.Eng

/- Walks: a list turned round in place, and a deal of numbers. -/
namespace Go.Proofs.Ytohlillcaadidaa
open Go Go.Eng

theorem set_getD (l : List Int) (i m : Nat) (z : Int) (hi : i < l.length) : (l.set i z).getD m 0 = if m = i then z else l.getD m 0 := by
  rw [List.getD_eq_getElem?_getD, List.getElem?_set]
  by_cases h : i = m
  · subst h; simp [hi]
  · rw [if_neg h, if_neg (fun h' => h h'.symm), List.getD_eq_getElem?_getD]
/-- Turned round at both ends, so far. -/
def RevI (l : List Int) (k : Nat) (l' : List Int) : Prop := l'.length = l.length ∧ 2 * k ≤ l.length ∧ ∀ m, m < l.length → l'.getD m 0 = if m < k ∨ l.length ≤ m + k then l.getD (l.length - 1 - m) 0 else l.getD m 0
theorem RevI.zero (l : List Int) : RevI l 0 l := ⟨rfl, by omega, fun m hm => by rw [if_neg (by omega)]⟩
theorem RevI.step {l l' : List Int} {k : Nat} (h : RevI l k l') (hk : k < l.length - 1 - k) (h1 : k < l'.length) (h2 : l.length - 1 - k < l'.length) : RevI l (k + 1) ((l'.set k l'[l.length - 1 - k]).set (l.length - 1 - k) l'[k]) := by
  obtain ⟨hl, hk2, hv⟩ := h
  refine ⟨by simp [hl], by omega, fun m hm => ?_⟩
  have e1 : l'[l.length - 1 - k] = l.getD (l.length - 1 - k) 0 := by
    have := hv (l.length - 1 - k) (by omega)
    rw [if_neg (by omega), List.getD_eq_getElem?_getD, List.getElem?_eq_getElem h2] at this
    exact this
  have e2 : l'[k] = l.getD k 0 := by
    have := hv k (by omega)
    rw [if_neg (by omega), List.getD_eq_getElem?_getD, List.getElem?_eq_getElem h1] at this
    exact this
  rw [set_getD _ _ _ _ (by simpa using h2), set_getD _ _ _ _ h1, e1, e2]
  by_cases c1 : m = l.length - 1 - k
  · rw [if_pos c1, if_pos (by omega), c1]
    congr 1
    omega
  · rw [if_neg c1]
    by_cases c2 : m = k
    · rw [if_pos c2, if_pos (by omega), c2]
    · rw [if_neg c2, hv m hm]
      by_cases c3 : m < k ∨ l.length ≤ m + k
      · rw [if_pos c3, if_pos (by omega)]
      · rw [if_neg c3, if_neg (by omega)]
theorem RevI.end {l l' : List Int} {k : Nat} (h : RevI l k l') (hk : l.length ≤ 2 * k + 1) : l' = l.reverse := by
  obtain ⟨hl, hk2, hv⟩ := h
  refine List.ext_getElem (by simp [hl]) (fun m h1 h2 => ?_)
  have := hv m (by omega)
  rw [List.getD_eq_getElem?_getD, List.getElem?_eq_getElem h1] at this
  rw [List.getElem_reverse]
  have e : l.getD (l.length - 1 - m) 0 = l[l.length - 1 - m] := by
    rw [List.getD_eq_getElem?_getD, List.getElem?_eq_getElem (by omega)]; rfl
  rw [← e, ← Option.getD_some (a := l'[m]) (b := 0), this]
  split
  · rfl
  · congr 1
    omega

set_option maxHeartbeats 4000000 in
theorem rev_ca (w : World) (g c : Nat) (l : List Int) (hl : l.length ≤ 1000000) (hb : w.ownsRow 0 3 1 (.slice (some ⟨g, 0, none⟩) l.length c) l.length (ints l)) :
    Ca Try.prog 48 [.slice (some ⟨g, 0, none⟩) l.length c] w fun v w' => v = .tuple #[] ∧ Sat w (fun x => x = g) [.ow (.slice (some ⟨g, 0, none⟩) l.length c) 3 1 l.length (ints l.reverse)] w' := by
  refine q_of (Sat.own0 hb) Try.func48 rfl (by simp [Try.ntmps48]) ?_
  (refine q_seq ?_; refine q_region ?_; (iterate 2 refine ql_pure tabOk rfl rfl ?_); refine ql_ar tabOk rfl rfl rfl rfl (by omega) (by omega) ?_; (iterate 2 refine ql_pure tabOk rfl rfl ?_); refine q_nil ?_; refine q_block ?_)
  refine q_loop (σ := Nat × List Int) (fun s => RevI l s.1 s.2) (fun s => l.length - s.1) (fun s => [(0, .slice (some ⟨g, 0, none⟩) l.length c), (2, .int .i64 s.1), (3, .int .i64 (l.length - 1 - s.1))])
    (fun s => [.ow (.slice (some ⟨g, 0, none⟩) l.length c) 3 1 l.length (ints s.2)]) (0, l) (RevI.zero l) ⟨rfl, rfl, lookI rfl (by simp), trivial⟩ (by repeat (first | exact Sp.nil | exact Sp.refl _ | refine Sp.cons (by repeat constructor) ?_)) ?_
  rintro ⟨k, l'⟩ hI K hK
  simp only at hI
  have hI2 := hI
  obtain ⟨hl', hk2, _⟩ := hI2
  dsimp only
  ((iterate 2 refine q_seq ?_); refine q_region ?_; (iterate 3 refine ql_pure tabOk rfl rfl ?_); refine q_nil ?_)
  refine q_if rfl (fun hc => ?_) (fun hc => ?_)
  · have hk : k < l.length - 1 - k := by omega
    have h1 : k < l'.length := by omega
    have h2 : l.length - 1 - k < l'.length := by omega
    clear hc
    have hst := hI.step hk h1 h2
    obtain ⟨q, hq⟩ : ∃ q : Nat, (q : Int) = (l.length : Int) - 1 - k := ⟨l.length - 1 - k, by omega⟩
    have hq2 : l.length - 1 - k = q := by omega
    simp only [hq2] at hst
    rw [hq2] at h2
    rw [← hq]
    (refine q_skip ?_; refine q_seq ?_; refine q_block ?_)
    refine q_drawB [true, true, false, false, true, true, true, true, true, true, true, true, false, false, false, false] [] [.ow (.slice (some ⟨g, 0, none⟩) l.length c) 3 1 l.length (ints l')] (by repeat (first | exact Sp.nil | exact Sp.refl _ | refine Sp.cons (by repeat constructor) ?_)) (by kernel_rfl) (by kernel_rfl) (by kernel_rfl) ?_
    refine qb_T 2 rfl rfl (Sp.refl _) fun K1 hK1 => ?_
    ((iterate 2 refine qf_pure tabOk rfl rfl rfl ?_); refine qf_nil ?_)
    refine hK1 _ _ (qb_F 2 [.ow (.slice (some ⟨g, 0, none⟩) l.length c) 3 1 l.length (ints l')] rfl rfl (by repeat (first | exact Sp.nil | exact Sp.refl _ | refine Sp.cons (by repeat constructor) ?_)) fun K1 hK1 => ?_)
    ((iterate 2 refine qf_pure tabOk rfl rfl rfl ?_); refine qf_nil ?_)
    refine hK1 _ _ (qb_T 8 rfl rfl (by repeat (first | exact Sp.nil | exact Sp.refl _ | refine Sp.cons (by repeat constructor) ?_)) fun K1 hK1 => ?_)
    ((iterate 2 refine qf_pure tabOk rfl rfl rfl ?_))
    (refine qf_index tabOk rfl rfl rfl rfl rfl (by omega) (by omega) ?_; refine qf_load1 tabOk rfl rfl rfl (fun w hs => RdI.at (hs.rdI (l := l') (t := 3) (n := l.length) (by repeat first | exact .head _ | refine .tail _ ?_) hl'.symm) q h2) ?_)
    ((iterate 2 refine qf_pure tabOk rfl rfl rfl ?_))
    (refine qf_index tabOk rfl rfl rfl rfl rfl (by omega) (by omega) ?_; refine qf_load1 tabOk rfl rfl rfl (fun w hs => RdI.at (hs.rdI (l := l') (t := 3) (n := l.length) (by repeat first | exact .head _ | refine .tail _ ?_) hl'.symm) k h1) ?_)
    (refine qf_nil ?_)
    refine hK1 _ _ (qb_F 4 [.ow (.slice (some ⟨g, 0, none⟩) l.length c) 3 1 l.length (ints l')] rfl rfl (by repeat (first | exact Sp.nil | exact Sp.refl _ | refine Sp.cons (by repeat constructor) ?_)) fun K1 hK1 => ?_)
    skip
    refine qf_index tabOk rfl rfl rfl rfl rfl (by omega) (by omega) ?_
    refine qf_storeW tabOk k rfl rfl rfl rfl (by repeat constructor) (by omega) (by simpa using h1) ?_
    skip
    refine qf_index tabOk rfl rfl rfl rfl rfl (by omega) (by omega) ?_
    refine qf_storeW tabOk q rfl rfl rfl rfl (by repeat constructor) (by omega) (by simpa using h2) ?_
    rw [← List.map_set, ← List.map_set]
    (refine qf_nil ?_)
    refine hK1 _ _ (qb_nil ?_)
    (refine q_blk ?_; refine q_region ?_; refine ql_pure tabOk rfl rfl ?_; refine ql_ar tabOk rfl rfl rfl rfl (by omega) (by omega) ?_; refine ql_pure tabOk rfl rfl ?_; refine ql_ar tabOk rfl rfl rfl rfl (by omega) (by omega) ?_; (iterate 2 refine ql_pure tabOk rfl rfl ?_); refine q_nil ?_)
    exact hK (k + 1, _) _ _ hst (by simp only; omega) ⟨rfl, rfl, lookI rfl (by omega), trivial⟩ (by repeat (first | exact Sp.nil | exact Sp.refl _ | refine Sp.cons (by repeat constructor) ?_))
  · obtain rfl := hI.end (by omega)
    (refine q_exit _ rfl ?_)
    refine q_end tabOk rfl (by repeat (first | exact RVs.nil | apply RVs.tmp rfl | apply RVs.cellA rfl rfl (by repeat first | exact .head _ | refine .tail _ ?_) (by rfl) | apply RVs.cell1 rfl rfl (by repeat first | exact .head _ | refine .tail _ ?_))) fun w hs => ?_
    exact ⟨rfl, hs⟩

theorem swap_perm {l : List Nat} {i j : Nat} (hi : i < l.length) (hj : j < l.length) : ((l.set i l[j]).set j l[i]).Perm l := List.set_set_perm hi hj
abbrev upN (l : List Nat) : List Int := l.map fun (s : Nat) => (s : Int)
set_option maxHeartbeats 4000000 in
theorem shuf_ca (m : Nat) (hm1 : 1 ≤ m) (hm2 : m ≤ 1000) (K : Nat) (hK : K < 1000000) (w : World) (b lo hi : Nat) (bs : Value) (hby : DkB w lo hi bs) (hlh : hi ≤ b) (hd : DkS w b bs K) :
    Ca Try.prog 49 [.pointer (some ⟨b, 0, none⟩), .int .i64 m] w fun v w' => ∃ x : Nat × Nat × List Nat × List Value, (v = .slice (some ⟨x.1, 0, none⟩) m x.2.1 ∧ x.2.2.1.Perm (List.range m)) ∧ Sat w (fun x => x = b) [.pt x.1 (ints (upN x.2.2.1) ++ x.2.2.2) 3, dkP bs b (K + (m - 1))] w' := by
  refine q_of (dk_sat hd) Try.func49 rfl (by simp [Try.ntmps49]) ?_
  (refine q_seq ?_; refine q_region ?_; refine ql_pure tabOk rfl rfl ?_; refine q_nil ?_; refine q_seq ?_; refine q_region ?_; refine ql_pure tabOk rfl rfl ?_; refine q_nil ?_; (iterate 2 refine q_seq ?_); refine q_region ?_; (iterate 3 refine ql_pure tabOk rfl rfl ?_); refine q_nil ?_; refine q_block ?_)
  refine q_conv (H' := [.ow (.slice none 0 0) 3 1 0 (ints (upN (List.range 0))), dkP bs b K]) (fun w' hs => Sat.ownil (hs.sp (by repeat (first | exact Sp.nil | exact Sp.refl _ | refine Sp.cons (by repeat constructor) ?_))) _ _) ?_
  refine q_loop (σ := Nat × Value) (fun s => s.1 ≤ m) (fun s => m - s.1) (fun s => [(0, .pointer (some ⟨b, 0, none⟩)), (5, s.2), (10, .int .i64 m), (11, .int .i64 s.1)])
    (fun s => [.ow s.2 3 1 s.1 (ints (upN (List.range s.1))), dkP bs b K]) (0, .slice none 0 0) (by simp) ⟨rfl, rfl, lookI rfl (by omega), rfl, trivial⟩ (Sp.refl _) ?_
  rintro ⟨k, v⟩ hk K1 hK1
  simp only at hk
  dsimp only
  (refine q_seq ?_; refine q_region ?_; refine ql_pure tabOk rfl rfl ?_; refine q_nil ?_; refine q_seq ?_)
  refine q_if rfl (fun hc => ?_) (fun hc => ?_)
  · have hk2 : k < m := by omega
    clear hc
    have eup : ints (upN (List.range (k + 1))) = ints (upN (List.range k)) ++ [.int .i64 (k : Int)] := by rw [List.range_succ]; simp [ints]
    (refine q_skip ?_; refine q_seq ?_; refine q_block ?_; refine q_seq ?_; refine q_region ?_; (iterate 2 refine ql_pure tabOk rfl rfl ?_); refine q_nil ?_; refine q_region ?_; (iterate 2 refine ql_pure tabOk rfl rfl ?_))
    refine ql_mkS 3 [.int .i64 (k : Int)] rfl (by kernel_rfl) rfl (fun bn => ?_)
    refine ql_append (q := 1) slI rfl rfl rfl (fun v' => by repeat constructor) (fun w' hs => ⟨_, _, Blk.rd (hs.blk (b := bn) (by repeat first | exact .head _ | refine .tail _ ?_)) rfl 1⟩) (by simp [oneV]) (by omega) (by omega) (fun v' => ?_)
    (refine ql_pure tabOk rfl rfl ?_; refine q_nil ?_; refine q_blk ?_; refine q_region ?_; refine ql_ar tabOk rfl rfl rfl rfl (by omega) (by omega) ?_; refine ql_pure tabOk rfl rfl ?_; refine q_nil ?_)
    exact hK1 (k + 1, v') _ _ (by simp only; omega) (by simp only; omega) ⟨rfl, rfl, rfl, rfl, trivial⟩ (by simp only [eup]; repeat (first | exact Sp.nil | exact Sp.refl _ | refine Sp.cons (by repeat constructor) ?_))
  obtain rfl : k = m := by omega
  clear hc hK1
  refine q_ow (by omega) (fun g cap sp hv => ?_)
  subst hv
  (refine q_exit _ rfl ?_; (iterate 2 refine q_seq ?_); refine q_region ?_; (iterate 2 refine ql_pure tabOk rfl rfl ?_); refine ql_ar tabOk rfl rfl rfl rfl (by omega) (by omega) ?_; refine ql_pure tabOk rfl rfl ?_; refine q_nil ?_; refine q_block ?_)
  refine q_loop (σ := Nat × List Nat) (fun s => s.1 ≤ k - 1 ∧ s.2.Perm (List.range k)) (fun s => s.1) (fun s => [(0, .pointer (some ⟨b, 0, none⟩)), (5, .slice (some ⟨g, 0, none⟩) k cap), (7, .int .i64 s.1)])
    (fun s => [.pt g (ints (upN s.2) ++ sp) 3, dkP bs b (K + (k - 1 - s.1))]) (k - 1, List.range k) ⟨Nat.le_refl _, .refl _⟩ ⟨rfl, rfl, lookI rfl (by omega), trivial⟩ (by rw [show K + (k - 1 - (k - 1)) = K by omega]; repeat (first | exact Sp.nil | exact Sp.refl _ | refine Sp.cons (by repeat constructor) ?_)) ?_
  rintro ⟨i, l⟩ ⟨hi1, hp⟩ K2 hK2
  simp only at hi1 hp
  dsimp only
  have hl : l.length = k := by rw [hp.length_eq, List.length_range]
  ((iterate 2 refine q_seq ?_); refine q_region ?_; (iterate 2 refine ql_pure tabOk rfl rfl ?_); refine q_nil ?_)
  refine q_if rfl (fun hc => ?_) (fun hc => ?_)
  · have hi2 : 0 < i := by omega
    clear hc
    (refine q_skip ?_; refine q_seq ?_; refine q_block ?_; refine q_seq ?_; refine q_region ?_; (iterate 2 refine ql_pure tabOk rfl rfl ?_); refine ql_ar tabOk rfl rfl rfl rfl (by omega) (by omega) ?_)
    refine ql_call (β := Int) (ψ := fun y v => v = .int .i64 y ∧ 0 ≤ y ∧ (y < (i : Int) + 1 ∨ y = 0)) (L' := fun _ => [dkP bs b (K + (k - 1 - i) + 1)]) tabOk [dkP bs b (K + (k - 1 - i))] [.pt g (ints (upN l) ++ sp) 3] (fun x => x = b) rfl rfl rfl rfl (by repeat (first | exact Sp.nil | exact Sp.refl _ | refine Sp.cons (by repeat constructor) ?_)) (fun x hx => ⟨_, .head _, hx⟩) (fun w' hs => drawP_ca ((i : Int) + 1) (K + (k - 1 - i)) (by omega) w' b lo hi bs (hby.keepP hlh hs.chg) hlh (hs.all _ (.head _))) ?_
    rintro y _ ⟨rfl, hy0, hy1⟩
    obtain ⟨j, rfl⟩ := Int.eq_ofNat_of_zero_le hy0
    have h1 : i < l.length := by omega
    have h2 : j < l.length := by omega
    have g1 : i < (upN l).length := by simpa using h1
    have g2 : j < (upN l).length := by simpa using h2
    have e : ((upN l).set i (upN l)[j]).set j (upN l)[i] = upN ((l.set i l[j]).set j l[i]) := by simp [upN, List.map_set]
    rw [show K + (k - 1 - i) + 1 = K + (k - 1 - (i - 1)) by omega]
    (refine ql_pure tabOk rfl rfl ?_; refine q_nil ?_)
    refine q_drawB [true, true, false, false, true, true, true, true, true, true, true, true, false, false, false, false] [dkP bs b (K + (k - 1 - (i - 1)))] [.pt g (ints (upN l) ++ sp) 3] (by repeat (first | exact Sp.nil | exact Sp.refl _ | refine Sp.cons (by repeat constructor) ?_)) (by kernel_rfl) (by kernel_rfl) (by kernel_rfl) ?_
    refine qb_T 2 rfl rfl (Sp.refl _) fun K1 hK1 => ?_
    ((iterate 2 refine qf_pure tabOk rfl rfl rfl ?_); refine qf_nil ?_)
    refine hK1 _ _ (qb_F 2 [.pt g (ints (upN l) ++ sp) 3] rfl rfl (by repeat (first | exact Sp.nil | exact Sp.refl _ | refine Sp.cons (by repeat constructor) ?_)) fun K1 hK1 => ?_)
    ((iterate 2 refine qf_pure tabOk rfl rfl rfl ?_); refine qf_nil ?_)
    refine hK1 _ _ (qb_T 8 rfl rfl (by repeat (first | exact Sp.nil | exact Sp.refl _ | refine Sp.cons (by repeat constructor) ?_)) fun K1 hK1 => ?_)
    ((iterate 2 refine qf_pure tabOk rfl rfl rfl ?_))
    refine qf_index tabOk rfl rfl rfl rfl rfl (by omega) (by omega) ?_
    refine qf_loadQ (l := upN l) tabOk j rfl rfl rfl (by repeat first | exact .head _ | refine .tail _ ?_) (by omega) g2 ?_
    ((iterate 2 refine qf_pure tabOk rfl rfl rfl ?_))
    refine qf_index tabOk rfl rfl rfl rfl rfl (by omega) (by omega) ?_
    refine qf_loadQ (l := upN l) tabOk i rfl rfl rfl (by repeat first | exact .head _ | refine .tail _ ?_) (by omega) g1 ?_
    (refine qf_nil ?_)
    refine hK1 _ _ (qb_F 4 [.pt g (ints (upN l) ++ sp) 3] rfl rfl (by repeat (first | exact Sp.nil | exact Sp.refl _ | refine Sp.cons (by repeat constructor) ?_)) fun K1 hK1 => ?_)
    skip
    refine qf_index tabOk rfl rfl rfl rfl rfl (by omega) (by omega) ?_
    refine qf_storeQ (l := upN l) tabOk i rfl rfl rfl (by repeat constructor) (by omega) g1 ?_
    skip
    refine qf_index tabOk rfl rfl rfl rfl rfl (by omega) (by omega) ?_
    refine qf_storeQ tabOk j rfl rfl rfl (by repeat constructor) (by omega) (by rw [List.length_set]; exact g2) ?_
    (refine qf_nil ?_)
    refine hK1 _ _ (qb_nil ?_)
    (refine q_blk ?_; refine q_region ?_; refine ql_pure tabOk rfl rfl ?_; refine ql_ar tabOk rfl rfl rfl rfl (by omega) (by omega) ?_; refine ql_pure tabOk rfl rfl ?_; refine q_nil ?_)
    rw [e]
    exact hK2 (i - 1, _) _ _ ⟨by simp only; omega, (swap_perm h1 h2).trans hp⟩ (by simp only; omega) ⟨rfl, rfl, lookI rfl (by omega), trivial⟩ (by repeat (first | exact Sp.nil | exact Sp.refl _ | refine Sp.cons (by repeat constructor) ?_))
  · obtain rfl : i = 0 := by omega
    (refine q_exit _ rfl ?_; refine q_seq ?_; refine q_region ?_; (iterate 2 refine ql_pure tabOk rfl rfl ?_); refine q_nil ?_; refine q_ret ?_)
    refine q_fin tabOk rfl (by repeat (first | exact RVs.nil | apply RVs.tmp rfl | apply RVs.cellA rfl rfl (by repeat first | exact .head _ | refine .tail _ ?_) (by rfl) | apply RVs.cell1 rfl rfl (by repeat first | exact .head _ | refine .tail _ ?_))) fun w hs => ?_
    exact ⟨(g, cap, l, sp), ⟨rfl, hp⟩, hs.sp (by repeat (first | exact Sp.nil | exact Sp.refl _ | refine Sp.cons (by repeat constructor) ?_))⟩
end Go.Proofs.Ytohlillcaadidaa

/- The plain laws of the wind, part 12: new names. -/
namespace Go.Proofs.Ytohlillcaadidaa
open Go Go.Eng

section
variable {r : Rg} {nm : List Nat}
abbrev sg (nm : List Nat) (i : Nat) : Nat := nm.getD i 0
theorem sg_lt {n : Nat} (h : nm.Perm (List.range n)) {i : Nat} (hi : i < n) : sg nm i < n := by
  have hl : nm.length = n := by rw [h.length_eq, List.length_range]
  have h1 : nm[i]'(by omega) ∈ List.range n := h.mem_iff.1 (List.getElem_mem _)
  have e : sg nm i = nm[i]'(by omega) := by simp [sg, List.getD_eq_getElem?_getD, show i < nm.length by omega]
  rw [e]
  exact List.mem_range.1 h1
theorem sg_inj {n : Nat} (h : nm.Perm (List.range n)) {i j : Nat} (hi : i < n) (hj : j < n) (he : sg nm i = sg nm j) : i = j := by
  have hl : nm.length = n := by rw [h.length_eq, List.length_range]
  have hn : nm.Nodup := h.nodup_iff.2 List.nodup_range
  have e1 : sg nm i = nm[i]'(by omega) := by simp [sg, List.getD_eq_getElem?_getD, show i < nm.length by omega]
  have e2 : sg nm j = nm[j]'(by omega) := by simp [sg, List.getD_eq_getElem?_getD, show j < nm.length by omega]
  rw [e1, e2] at he
  have hw := List.pairwise_iff_getElem.1 hn
  rcases Nat.lt_trichotomy i j with h1 | h1 | h1
  · exact absurd he (hw i j (by omega) (by omega) h1)
  · exact h1
  · exact absurd he.symm (hw j i (by omega) (by omega) h1)
theorem sg_map {n : Nat} (h : nm.Perm (List.range n)) : ((List.range n).map (sg nm)).Perm (List.range n) := by
  have hl : nm.length = n := by rw [h.length_eq, List.length_range]
  have e : (List.range n).map (sg nm) = nm := by
    refine List.ext_getElem (by simp [hl]) (fun i h1 h2 => ?_)
    simp [sg, List.getD_eq_getElem?_getD, h2]
  rw [e]
  exact h
theorem sg_sur {n : Nat} (h : nm.Perm (List.range n)) {j : Nat} (hj : j < n) : ∃ i, i < n ∧ sg nm i = j := by
  have h1 : j ∈ (List.range n).map (sg nm) := (sg_map h).mem_iff.2 (List.mem_range.2 hj)
  obtain ⟨i, hi, e⟩ := List.mem_map.1 h1
  exact ⟨i, List.mem_range.1 hi, e⟩
/-- A list that is set by its new names, so far. -/
def DI (n : Nat) (nm : List Nat) (l : List Int) (s : Nat) (D : List Int) : Prop := D.length = n ∧ ∀ i, i < s → i < n → D.getD (sg nm i) 0 = l.getD i 0
theorem DI.step {n : Nat} {l D : List Int} {s : Nat} (hp : nm.Perm (List.range n)) (h : DI n nm l s D) (hs : s < n) : DI n nm l (s + 1) (D.set (sg nm s) (l.getD s 0)) := by
  have hlt := sg_lt hp hs
  refine ⟨by simp [h.1], fun i hi hn => ?_⟩
  rw [set_getD _ _ _ _ (by rw [h.1]; exact hlt)]
  by_cases he : sg nm i = sg nm s
  · rw [if_pos he, sg_inj hp hn hs he]
  · rw [if_neg he]
    refine h.2 i ?_ hn
    have : i ≠ s := fun h => he (by rw [h])
    omega
theorem mapD (Y : List (Value × List Int)) (j : Nat) (hj : j < Y.length) : (Y.map (·.2)).getD j [] = Y[j].2 := by simp [List.getD_eq_getElem?_getD, hj]
/-- Rows that are set by their new names, so far. -/
structure YI (n : Nat) (nm : List Nat) (nx : List (List Int)) (ys : List (Value × List Int)) (s t : Nat) (Y : List (Value × List Int)) : Prop where
  len : Y.length = n
  rows : ∀ y ∈ Y, y.2.length = n
  fst : Y.map (·.1) = ys.map (·.1)
  val : ∀ i u, i < n → u < n → (i < s ∨ (i = s ∧ u < t)) → ((Y.map (·.2)).getD (sg nm i) []).getD (sg nm u) 0 = (nx.getD i []).getD u 0
theorem YI.next {n : Nat} {nx : List (List Int)} {ys Y : List (Value × List Int)} {s : Nat} (h : YI n nm nx ys s n Y) : YI n nm nx ys (s + 1) 0 Y :=
  ⟨h.len, h.rows, h.fst, fun i u hi hu hc => h.val i u hi hu (by omega)⟩
theorem YI.step {n : Nat} {nx : List (List Int)} {ys Y : List (Value × List Int)} {s t : Nat} (hp : nm.Perm (List.range n)) (h : YI n nm nx ys s t Y) (hs : s < n) (ht : t < n) (hi : sg nm s < Y.length) :
    YI n nm nx ys s (t + 1) (Y.set (sg nm s) (Y[sg nm s].1, Y[sg nm s].2.set (sg nm t) ((nx.getD s []).getD t 0))) := by
  have hsl := sg_lt hp hs
  have htl := sg_lt hp ht
  have hrl := h.rows _ (List.getElem_mem hi)
  refine ⟨by simp [h.len], fun y hy => ?_, ?_, fun i u hn hu hc => ?_⟩
  · rcases List.mem_or_eq_of_mem_set hy with hy | rfl
    · exact h.rows y hy
    · simpa using hrl
  · rw [← h.fst, List.map_set]
    refine List.ext_getElem (by simp) (fun j h1 h2 => ?_)
    rw [List.getElem_set]
    split
    · rename_i hj; subst hj; simp
    · rfl
  · rw [List.map_set]
    by_cases he : sg nm i = sg nm s
    · obtain rfl := sg_inj hp hn hs he
      have e : ((Y.map (·.2)).set (sg nm i) (Y[sg nm i].2.set (sg nm t) ((nx.getD i []).getD t 0))).getD (sg nm i) [] = Y[sg nm i].2.set (sg nm t) ((nx.getD i []).getD t 0) := by
        rw [List.getD_eq_getElem?_getD, List.getElem?_set_self (by simpa using hi)]
        rfl
      rw [e, set_getD _ _ _ _ (by rw [hrl]; exact htl)]
      by_cases hf : sg nm u = sg nm t
      · rw [if_pos hf, sg_inj hp hu ht hf]
      · rw [if_neg hf]
        have hut : u ≠ t := fun h => hf (by rw [h])
        have := h.val i u hn hu (by omega)
        have e2 : (Y.map (·.2)).getD (sg nm i) [] = Y[sg nm i].2 := mapD Y _ hi
        rw [e2] at this
        exact this
    · have e : ((Y.map (·.2)).set (sg nm s) (Y[sg nm s].2.set (sg nm t) ((nx.getD s []).getD t 0))).getD (sg nm i) [] = (Y.map (·.2)).getD (sg nm i) [] := by
        rw [List.getD_eq_getElem?_getD, List.getElem?_set_ne (Ne.symm he), List.getD_eq_getElem?_getD]
      have his : i ≠ s := fun h => he (by rw [h])
      rw [e]
      exact h.val i u hn hu (by omega)
/-- The range with new names. -/
def nmR (r : Rg) (D F : List Int) (Y : List (Value × List Int)) : Rg := { r with drifts := D, first := F, next := Y.map (·.2) }
theorem nm_named {D F : List Int} {ys Y : List (Value × List Int)} (hr : r.Right) (hp : nm.Perm (List.range r.drifts.length)) (hD : DI r.drifts.length nm r.drifts r.drifts.length D) (hF : DI r.drifts.length nm r.first r.drifts.length F) (hY : YI r.drifts.length nm r.next ys r.drifts.length 0 Y) : Named r (nmR r D F Y) (sg nm) where
  n := hD.1
  nn := by have := hr.next; simp [nmR, hY.len, this]
  total := rfl
  gsum := rfl
  clicks := rfl
  radius := rfl
  unit := rfl
  perm := sg_map hp
  drift := fun s hs => hD.2 s hs hs
  first := fun s hs => hF.2 s hs hs
  next := fun s t hs ht => hY.val s t hs ht (.inl hs)
theorem perm_sum {n : Nat} {l F : List Int} (hp : nm.Perm (List.range n)) (h : DI n nm l n F) (hl : l.length = n) : F.sum = l.sum := by
  have h1 := sumR_getD F n (by rw [h.1]; exact Nat.le_refl _)
  have h2 := sumR_getD l n (by rw [hl]; exact Nat.le_refl _)
  rw [← h1, ← h2, sumR_perm (sg_map hp)]
  exact sumR_congr _ _ _ (fun i hi => h.2 i hi hi)
theorem DI.mem {n : Nat} {l F : List Int} (hp : nm.Perm (List.range n)) (h : DI n nm l n F) (hl : l.length = n) {x : Int} (hx : x ∈ F) : x ∈ l := by
  obtain ⟨j, hj, rfl⟩ := List.getElem_of_mem hx
  have hjn : j < n := by rw [← h.1]; exact hj
  obtain ⟨i, hi, rfl⟩ := sg_sur hp hjn
  have h1 := h.2 i hi hi
  have e1 : F.getD (sg nm i) 0 = F[sg nm i] := by
    rw [List.getD_eq_getElem?_getD, List.getElem?_eq_getElem hj]; rfl
  have e2 : l.getD i 0 = l[i]'(by omega) := by
    rw [List.getD_eq_getElem?_getD, List.getElem?_eq_getElem (by omega)]; rfl
  rw [← e1, h1, e2]
  exact List.getElem_mem _
theorem YI.row {n : Nat} {nx : List (List Int)} {ys Y : List (Value × List Int)} (hp : nm.Perm (List.range n)) (h : YI n nm nx ys n 0 Y) (hnl : nx.length = n) {y : List Int} (hy : y ∈ Y.map (·.2)) : ∃ l ∈ nx, DI n nm l n y := by
  obtain ⟨j, hj, e⟩ := List.getElem_of_mem hy
  have hjY : j < Y.length := by simpa using hj
  have hjn : j < n := by rw [← h.len]; exact hjY
  obtain ⟨i, hi, rfl⟩ := sg_sur hp hjn
  have e1 : (Y.map (·.2)).getD (sg nm i) [] = y := by
    rw [List.getD_eq_getElem?_getD, List.getElem?_eq_getElem hj, e]; rfl
  have e2 : nx.getD i [] = nx[i]'(by omega) := by
    rw [List.getD_eq_getElem?_getD, List.getElem?_eq_getElem (by omega)]; rfl
  refine ⟨nx[i]'(by omega), List.getElem_mem _, ?_, fun u hu hn => ?_⟩
  · obtain ⟨z, hz, rfl⟩ := List.mem_map.1 hy
    exact h.rows z hz
  · have := h.val i u hi hn (.inl hi)
    rw [e1, e2] at this
    exact this
theorem nm_right {D F : List Int} {ys Y : List (Value × List Int)} (hr : r.Right) (hp : nm.Perm (List.range r.drifts.length)) (hD : DI r.drifts.length nm r.drifts r.drifts.length D) (hF : DI r.drifts.length nm r.first r.drifts.length F) (hY : YI r.drifts.length nm r.next ys r.drifts.length 0 Y) : (nmR r D F Y).Right := by
  have hd := hD.1
  have hf := hF.1
  have hy := hY.len
  have hrow := fun y hy => hY.row hp hr.next (y := y) hy
  have k1 : ∀ x ∈ D, -300 ≤ x ∧ x ≤ 300 := fun x hx => hr.drift x (hD.mem hp rfl hx)
  have k2 : ∀ x ∈ F, 0 ≤ x ∧ x ≤ r.total := fun x hx => hr.chance x (hF.mem hp hr.first hx)
  have k3 : F.sum = r.total := by rw [perm_sum hp hF hr.first]; exact hr.fsum
  obtain ⟨g1, g2, odd, d1, d2, first, next, rows, radius, unit, clicks, total, drift, weight, chance, chances, gsum, fsum, nsum⟩ := hr
  constructor <;> simp only [nmR, hd, List.length_map] <;> try assumption
  · intro l hl
    obtain ⟨_, _, h⟩ := hrow l hl
    exact h.1
  · intro l hl x hx
    obtain ⟨l0, h0, h⟩ := hrow l hl
    exact chances l0 h0 x (h.mem hp (rows l0 h0) hx)
  · intro l hl
    obtain ⟨l0, h0, h⟩ := hrow l hl
    rw [perm_sum hp h (rows l0 h0)]
    exact nsum l0 h0
theorem erase_perm {α : Type} : ∀ (l : List α) (j : Nat) (h : j < l.length), l.Perm (l[j] :: l.eraseIdx j)
  | a :: l, 0, _ => .refl _
  | a :: l, j + 1, h => by
    have := erase_perm l j (by simpa using h)
    simp only [List.getElem_cons_succ, List.eraseIdx_cons_succ]
    exact (this.cons a).trans (.swap _ _ _)
theorem rowsO_out (Y : List (Value × List Int)) (j : Nat) (hj : j < Y.length) : (rowsO Y).Perm (.ow Y[j].1 3 1 Y[j].2.length (ints Y[j].2) :: rowsO (Y.eraseIdx j)) :=
  (erase_perm Y j hj).map _
theorem rows_out {w0 w : World} {M : Nat → Prop} {R : List Ck} {Y : List (Value × List Int)} (j : Nat) (hj : j < Y.length) (h : Sat w0 M (un (rowsO Y) :: R) w) : Sat w0 M (.ow Y[j].1 3 1 Y[j].2.length (ints Y[j].2) :: un (rowsO (Y.eraseIdx j)) :: R) w := by
  have h1 := Sat.un_iff.1 (Sat.un_perm (rowsO_out Y j hj) h)
  rw [List.cons_append] at h1
  have h2 : Sat w0 M (rowsO (Y.eraseIdx j) ++ (.ow Y[j].1 3 1 Y[j].2.length (ints Y[j].2) :: R)) w := h1.perm List.perm_middle.symm
  exact (Sat.un_iff.2 h2).perm (.swap _ _ _)
theorem rows_in {w0 w : World} {M : Nat → Prop} {R : List Ck} {Y : List (Value × List Int)} (j : Nat) (hj : j < Y.length) (l : List Int) (hl : l.length = Y[j].2.length) (h : Sat w0 M (.ow Y[j].1 3 1 Y[j].2.length (ints l) :: un (rowsO (Y.eraseIdx j)) :: R) w) : Sat w0 M (un (rowsO (Y.set j (Y[j].1, l))) :: R) w := by
  have h0 := rowsO_out (Y.set j (Y[j].1, l)) j (by simpa using hj)
  simp only [List.getElem_set_self, List.eraseIdx_set_eq] at h0
  rw [hl] at h0
  exact Sat.un_perm h0.symm (Sat.un_in h)
end
end Go.Proofs.Ytohlillcaadidaa
