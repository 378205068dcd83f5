/- My texts X4, X5, X6, X7, X8, X9, B14, B15, H0, H1, H2, H3, L7, joined: a claim takes at most 60 files. -/
import Derived.Test.YtohlillcaadidaaW4

/- The plain laws of the wind, part 4. -/
namespace Go.Proofs.Ytohlillcaadidaa
open Go Go.Eng
theorem clickL_near (C near c : Int) (hn : -C ≤ near ∧ near ≤ C) : c ∈ clickL C near ↔ -C ≤ c ∧ c ≤ C := by
  constructor
  · intro h; exact inB_iff.1 (clickL_in C near (inB_iff.2 hn) c h)
  · intro hc
    simp only [clickL, clickP, List.mem_flatMap, List.mem_range]
    refine ⟨(c - near).natAbs, by omega, ?_⟩
    unfold farL
    split
    · simp; omega
    · refine List.mem_filter.2 ⟨?_, inB_iff.2 hc⟩
      simp
      omega
/-- The value of a situation: no choice costs less, and one costs as much. -/
theorem chV_spec (r : Rg) (p : Ru) (g h : Nat → Int → Int) (k w st : Nat) (cl : Int) (hc : -r.clicks ≤ cl ∧ cl ≤ r.clicks) :
    (∀ c, -r.clicks ≤ c ∧ c ≤ r.clicks → (chV r p g h k w st cl).2 ≤ shootV r p g k w st cl c) ∧ (0 < w → (chV r p g h k w st cl).2 ≤ waitV r p h k w st cl) ∧
    ((∃ c, (-r.clicks ≤ c ∧ c ≤ r.clicks) ∧ (chV r p g h k w st cl).2 = shootV r p g k w st cl c ∧ (chV r p g h k w st cl).1 = (false, c)) ∨ (0 < w ∧ (chV r p g h k w st cl).2 = waitV r p h k w st cl ∧ (chV r p g h k w st cl).1 = (true, 0) ∧ ∀ c, -r.clicks ≤ c ∧ c ≤ r.clicks → waitV r p h k w st cl < shootV r p g k w st cl c)) := by
  obtain ⟨h1, h2, h3, h4⟩ := chClick_spec r p g k w st cl hc
  have h5 : ∀ c, -r.clicks ≤ c ∧ c ≤ r.clicks → (chClick r p g k w st cl).2 ≤ shootV r p g k w st cl c := fun c hh => h3 c ((clickL_near _ _ _ hc).2 hh)
  unfold chV
  simp only
  by_cases hw : 0 < w
  · rw [if_pos hw]
    by_cases hlt : waitV r p h k w st cl < (chClick r p g k w st cl).2
    · rw [if_pos hlt]
      refine ⟨fun c hh => ?_, fun _ => Int.le_refl _, .inr ⟨hw, rfl, rfl, fun c hh => ?_⟩⟩
      · have := h5 c hh; simp only; omega
      · have := h5 c hh; omega
    · rw [if_neg hlt]
      exact ⟨h5, fun _ => by simp only; omega, .inl ⟨_, h2, h1, rfl⟩⟩
  · rw [if_neg hw]
    exact ⟨h5, fun h => absurd h hw, .inl ⟨_, h2, h1, rfl⟩⟩
/-- The parts of a sum. -/
theorem fol_mono (r : Rg) (hr : r.Right) {f g : Nat → Int} (st : Nat) (h : ∀ t, t < r.drifts.length → f t ≤ g t) : folS r f st ≤ folS r g st := by
  unfold folS
  exact sumR_mono _ _ _ (fun t ht => Int.mul_le_mul_of_nonneg_left (h t ht) (next_bd r hr st t).1)
theorem fol_mul (r : Rg) (c : Int) (f : Nat → Int) (st : Nat) : folS r (fun t => c * f t) st = c * folS r f st := by
  unfold folS
  rw [← sumR_mul]
  exact sumR_congr _ _ _ (fun t _ => by rw [Int.mul_left_comm])
/-- Values that hold are no greater. -/
theorem hold_le {r : Rg} (hr : r.Right) {p : Ru} (l : List Int) (hl : (plcL r p).all (holdV r p (gV r p l)) = true) : ∀ (n k w st : Nat) (cl : Int), (5 - k) * 10 + w = n → k < 5 → (w : Int) ≤ p.waits → w ≤ 9 → st < r.drifts.length → (-r.clicks ≤ cl ∧ cl ≤ r.clicks) → gV r p l k w st cl ≤ valV r p k w st cl := by
  intro n
  induction n using Nat.strongRecOn with
  | _ n ih =>
    intro k w st cl hn hk hw hw9 hs hc
    have hn1 : (5 - (k + 1)) * 10 + w < n := by clear ih; omega
    have hn2 : 0 < w → (5 - k) * 10 + (w - 1) < n := by clear ih; omega
    have h1 := List.all_eq_true.1 hl (k, w, st, cl) ((plcL_mem r p k w st cl).2 ⟨hk, hw, hs, hc⟩)
    have h2 : gV r p l k w st cl ≤ (chV r p (gV r p l (k + 1) w) (gV r p l k (w - 1)) k w st cl).2 := by simpa [holdV] using h1
    rw [valV_eq r p k w st cl hk hw hs hc]
    refine Int.le_trans h2 ?_
    obtain ⟨a1, a2, _⟩ := chV_spec r p (gV r p l (k + 1) w) (gV r p l k (w - 1)) k w st cl hc
    obtain ⟨_, _, b3⟩ := chV_spec r p (valV r p (k + 1) w) (valV r p k (w - 1)) k w st cl hc
    unfold choV
    rcases b3 with ⟨c, b4, b5, _⟩ | ⟨b4, b5, _⟩
    · rw [b5]
      refine Int.le_trans (a1 c b4) ?_
      unfold shootV
      refine Int.add_le_add_left ?_ _
      split
      · exact fol_mono r hr st (fun t ht => ih ((5 - (k + 1)) * 10 + w) hn1 (k + 1) w t c rfl (by omega) hw hw9 ht b4)
      · exact Int.le_refl _
    · rw [b5]
      refine Int.le_trans (a2 b4) ?_
      unfold waitV
      exact Int.add_le_add_left (fol_mono r hr st (fun t ht => ih ((5 - k) * 10 + (w - 1)) (hn2 b4) k (w - 1) t cl rfl hk (by omega) (by omega) ht hc)) _
/-- One range and rules do no worse than others. -/
structure SimR (r r' : Rg) (p p' : Ru) (e : Nat) : Prop where
  drifts : r'.drifts.length = r.drifts.length
  next : r'.next = r.next
  total : r'.total = r.total
  gsum : r'.group.sum = r.group.sum
  clicks : r.clicks ≤ r'.clicks
  miss : ∀ st c, st < r.drifts.length → missS r' (r'.drifts.getD st 0) c ≤ missS r (r.drifts.getD st 0) c
  pm : 0 ≤ p'.miss ∧ p'.miss ≤ p.miss
  pc : p'.click ≤ p.click
  pw : p'.wait ≤ p.wait
  waits : p.waits + e ≤ p'.waits
theorem parts_more (r : Rg) (k w e : Nat) : partsV r k (w + e) = r.total ^ e * partsV r k w := by
  unfold partsV
  rw [show 4 - k + (w + e) = 4 - k + w + e by omega, Int.pow_add]
  ac_rfl
theorem tot_nonneg {r : Rg} (hr : r.Right) (e : Nat) : 1 ≤ r.total ^ e := (tot_bd r hr e).1
theorem val_sim {r r' : Rg} {p p' : Ru} {e : Nat} (hr : r.Right) (hr' : r'.Right) (h : SimR r r' p p' e) : ∀ (n k w st : Nat) (cl : Int), (5 - k) * 10 + w = n → k < 5 → (w : Int) ≤ p.waits → w ≤ 9 → st < r.drifts.length → (-r.clicks ≤ cl ∧ cl ≤ r.clicks) →
    valV r' p' k (w + e) st cl ≤ r.total ^ e * valV r p k w st cl := by
  intro n
  induction n using Nat.strongRecOn with
  | _ n ih =>
    intro k w st cl hn hk hw hw9 hs hc
    have hn1 : (5 - (k + 1)) * 10 + w < n := by clear ih; omega
    have hn2 : 0 < w → (5 - k) * 10 + (w - 1) < n := by clear ih; omega
    have hC := h.clicks
    have hc' : -r'.clicks ≤ cl ∧ cl ≤ r'.clicks := by omega
    have hwt := h.waits
    rw [valV_eq r p k w st cl hk hw hs hc, valV_eq r' p' k (w + e) st cl hk (by omega) (by rw [h.drifts]; exact hs) hc']
    obtain ⟨a1, a2, _⟩ := chV_spec r' p' (valV r' p' (k + 1) (w + e)) (valV r' p' k (w + e - 1)) k (w + e) st cl hc'
    obtain ⟨_, _, b3⟩ := chV_spec r p (valV r p (k + 1) w) (valV r p k (w - 1)) k w st cl hc
    unfold choV
    have hT := tot_nonneg hr e
    have hpar : partsV r' k (w + e) = r.total ^ e * partsV r k w := by
      rw [← parts_more]
      unfold partsV
      rw [h.total, h.gsum]
    have hp0 : 0 ≤ partsV r k w := Int.mul_nonneg (by have := hr.gsum; omega) (by have := tot_nonneg hr (4 - k + w); omega)
    have hfol : ∀ f, folS r' f st = folS r f st := fun f => by unfold folS; rw [h.next, h.drifts]
    rcases b3 with ⟨c, b4, b5, _⟩ | ⟨b4, b5, _⟩
    · rw [b5]
      refine Int.le_trans (a1 c (by omega)) ?_
      unfold shootV
      rw [Int.mul_add, Int.mul_add, parts_div r' hr', parts_div r hr, hpar, h.total]
      refine Int.add_le_add (Int.add_le_add ?_ ?_) ?_
      · rw [Int.mul_left_comm (r.total ^ e)]
        refine Int.mul_le_mul_of_nonneg_right (Int.mul_le_mul_of_nonneg_right h.pc (by omega)) (Int.mul_nonneg (by omega) hp0)
      · rw [show 4 - k + (w + e) = 4 - k + w + e by omega, Int.pow_add, Int.mul_comm (r.total ^ (4 - k + w)), Int.mul_left_comm (r.total ^ e)]
        refine Int.mul_le_mul_of_nonneg_right ?_ (Int.mul_nonneg (by omega) (by have := tot_nonneg hr (4 - k + w); omega))
        exact Int.mul_le_mul h.pm.2 (h.miss st c hs) (missS_bd r' hr' _ _).1 (by have := h.pm; omega)
      · split
        · rw [hfol, ← fol_mul]
          exact fol_mono r hr st (fun t ht => ih ((5 - (k + 1)) * 10 + w) hn1 (k + 1) w t c rfl (by omega) hw hw9 ht b4)
        · rw [Int.mul_zero]
          exact Int.le_refl _
    · rw [b5]
      refine Int.le_trans (a2 (by omega)) ?_
      unfold waitV
      rw [Int.mul_add, hpar, hfol, ← fol_mul]
      refine Int.add_le_add ?_ (fol_mono r hr st (fun t ht => ?_))
      · rw [Int.mul_left_comm (r.total ^ e)]
        exact Int.mul_le_mul_of_nonneg_right h.pw (Int.mul_nonneg (by omega) hp0)
      · rw [show w + e - 1 = (w - 1) + e by omega]
        exact ih ((5 - k) * 10 + (w - 1)) (hn2 b4) k (w - 1) t cl rfl hk (by omega) (by omega) ht hc
end Go.Proofs.Ytohlillcaadidaa

/- The plain laws of the wind, part 5. -/
namespace Go.Proofs.Ytohlillcaadidaa
open Go Go.Eng
theorem over_frac {x y u v a d b e : Int} (hy : 0 < y) (hv : 0 < v) (hd : 0 < d) (he : 0 < e) (h1 : x * d = a * y) (h2 : u * e = b * v) : overB (x, y) (u, v) = (decide (a * e < b * d) && true) := by
  unfold overB
  have h : x * v < u * y ↔ a * e < b * d := by
    rw [← mul_lt_iff (a := x * v) (b := u * y) (Int.mul_pos hd he), ← mul_lt_iff (a := a * e) (b := b * d) (Int.mul_pos hy hv)]
    have e1 : x * v * (d * e) = x * d * (v * e) := by ac_rfl
    have e2 : u * y * (d * e) = u * e * (y * d) := by ac_rfl
    have e3 : a * y * (v * e) = a * e * (y * v) := by ac_rfl
    have e4 : b * v * (y * d) = b * d * (y * v) := by ac_rfl
    rw [e1, e2, h1, h2, e3, e4]
  rw [decide_eq_decide.2 h]
theorem over_ratio {a d b e : Int} (hd : 0 < d) (he : 0 < e) (ha : 0 ≤ a) (hb : 0 ≤ b) : overB (ratioV a d) (ratioV b e) = (decide (a * e < b * d) && true) := by
  have p1 := ratioV_pos ha hd
  have p2 := ratioV_pos hb he
  exact over_frac (x := (ratioV a d).1) (y := (ratioV a d).2) (u := (ratioV b e).1) (v := (ratioV b e).2) (by omega) (by omega) hd he (ratioV_mul hd) (ratioV_mul he)
/-! The values. -/
abbrev valsL (r : Rg) (p : Ru) : List Int := (plcL r p).map (valP r p)
theorem gV_vals {r : Rg} {p : Ru} {k w st : Nat} {cl : Int} (hm : (k, w, st, cl) ∈ plcL r p) : gV r p (valsL r p) k w st cl = valV r p k w st cl := by
  obtain ⟨pre, post, h⟩ := List.append_of_mem hm
  unfold gV
  rw [idx_at r p h, valsL, h, List.getD_eq_getElem?_getD, List.map_append, List.getElem?_append_right (by simp)]
  simp
theorem vals_hold {r : Rg} {p : Ru} : (plcL r p).all (holdV r p (gV r p (valsL r p))) = true := by
  refine List.all_eq_true.2 fun ⟨k, w, st, cl⟩ hm => ?_
  obtain ⟨h1, h2, h3, h4⟩ := (plcL_mem r p k w st cl).1 hm
  have e := valV_eq r p k w st cl h1 h2 h3 h4
  unfold holdV
  simp only [gV_vals hm]
  have h5 : (chV r p (gV r p (valsL r p) (k + 1) w) (gV r p (valsL r p) k (w - 1)) k w st cl) = chV r p (valV r p (k + 1) w) (valV r p k (w - 1)) k w st cl :=
    chV_congr r p _ _ _ _ k w st cl h4 (fun hk t c ht hcc => gV_vals ((plcL_mem r p _ _ _ _).2 ⟨by omega, h2, ht, hcc⟩)) (fun hw t ht => gV_vals ((plcL_mem r p _ _ _ _).2 ⟨h1, by omega, ht, h4⟩))
  rw [h5, e]
  simp [choV]
def costP (r : Rg) (p : Ru) : Int := sumR (fun s => r.first.getD s 0 * valV r p 0 p.waits.toNat s 0) r.drifts.length
def denP (r : Rg) (p : Ru) : Int := partsV r 0 p.waits.toNat * r.total
def planV (r : Rg) (p : Ru) : Int × Int := ratioV (costP r p) (denP r p)
theorem cost_gV {r : Rg} {p : Ru} (hr : r.Right) (hp : p.Right) : costV r p (gV r p (valsL r p)) = costP r p := by
  unfold costV costP
  have h1 := hp.waits
  have h2 := hr.clicks
  refine sumR_congr _ _ _ (fun s hs => ?_)
  rw [gV_vals ((plcL_mem r p _ _ _ _).2 ⟨by omega, by omega, hs, by omega⟩)]
theorem proof_vals {r : Rg} {p : Ru} (hr : r.Right) (hp : p.Right) : proofV r p (valsL r p) = (planV r p, 0) := by
  have hru : rulesV r p = 0 := (rules_iff r p).2 ⟨(right_check r).2 hr, hp⟩
  have hin : (valsL r p).all (fun n => inB n 0 1000000000000000) = true := by
    refine List.all_eq_true.2 fun n hn => ?_
    obtain ⟨⟨k, w, st, cl⟩, hm, rfl⟩ := List.mem_map.1 hn
    obtain ⟨h1, h2, h3, h4⟩ := (plcL_mem r p k w st cl).1 hm
    exact inB_iff.2 (val_fine r hr p hp k w st cl h2 h3 h4)
  unfold proofV
  rw [hru, cntP_eq hr hp, hin, vals_hold, cost_gV hr hp]
  simp [planV, denP]
theorem first_bd {r : Rg} (hr : r.Right) (s : Nat) : 0 ≤ r.first.getD s 0 ∧ r.first.getD s 0 ≤ r.total := getD_bd (by have := hr.total; omega) hr.chance s
theorem first_sum {r : Rg} (hr : r.Right) : sumR (fun s => r.first.getD s 0) r.drifts.length = r.total := by
  rw [sumR_getD r.first _ (by rw [hr.first]; exact Nat.le_refl _), hr.fsum]
theorem costP_bd {r : Rg} {p : Ru} (hr : r.Right) (hp : p.Right) : 0 ≤ costP r p ∧ costP r p ≤ 30000 * denP r p := by
  have h1 := hp.waits
  have h2 := hr.clicks
  have hv : ∀ s, s < r.drifts.length → 0 ≤ valV r p 0 p.waits.toNat s 0 ∧ valV r p 0 p.waits.toNat s 0 ≤ 30000 * partsV r 0 p.waits.toNat := fun s hs => by
    have := valV_bd r hr p hp 5 p.waits.toNat 0 s 0 rfl (by omega) hs (by omega)
    simpa using this
  constructor
  · have := sumR_mono (fun _ => 0) (fun s => r.first.getD s 0 * valV r p 0 p.waits.toNat s 0) r.drifts.length (fun s hs => Int.mul_nonneg (first_bd hr s).1 (hv s hs).1)
    rw [sumR_zero _ _ (fun _ _ => rfl)] at this
    exact this
  · have := sumR_mono (fun s => r.first.getD s 0 * valV r p 0 p.waits.toNat s 0) (fun s => (30000 * partsV r 0 p.waits.toNat) * r.first.getD s 0) r.drifts.length (fun s hs => by
      rw [Int.mul_comm]
      exact Int.mul_le_mul_of_nonneg_right (hv s hs).2 (first_bd hr s).1)
    rw [sumR_mul, first_sum hr, Int.mul_assoc] at this
    exact this
theorem denP_pos {r : Rg} (hr : r.Right) (p : Ru) : 1 ≤ denP r p := by
  have h1 := hr.gsum
  have h2 := tot_nonneg hr (4 - 0 + p.waits.toNat)
  have h3 := hr.total
  unfold denP partsV
  have h4 := Int.mul_pos (Int.mul_pos (show 0 < r.group.sum by omega) (show 0 < r.total ^ (4 - 0 + p.waits.toNat) by omega)) (show 0 < r.total by omega)
  omega
theorem denP_eq (r : Rg) (p : Ru) : denP r p = r.group.sum * r.total ^ (5 + p.waits.toNat) := by
  unfold denP partsV
  rw [Int.mul_assoc, ← Int.pow_succ]
  congr 2
  omega
theorem denP_low {r : Rg} {p : Ru} (h : r.Low) (hp : p.Right) : denP r p ≤ 62145792 := by
  rw [denP_eq]
  have h1 := totk h (5 + p.waits.toNat)
  have h2 : (6 : Int) ^ (5 + p.waits.toNat) ≤ 1679616 := by
    have hw := hp.waits
    have := Nat.pow_le_pow_right (show 0 < 6 by omega) (show 5 + p.waits.toNat ≤ 8 by omega)
    have e : ((6 ^ (5 + p.waits.toNat) : Nat) : Int) = (6 : Int) ^ (5 + p.waits.toNat) := by simp
    rw [← e]
    omega
  have h3 := h.right.gsum
  have h4 := h.gsum
  have := mul_bd0 (show 0 ≤ r.group.sum ∧ r.group.sum ≤ 37 by omega) (show 0 ≤ r.total ^ (5 + p.waits.toNat) ∧ r.total ^ (5 + p.waits.toNat) ≤ 1679616 by omega)
  omega
theorem planV_bd {r : Rg} {p : Ru} (h : r.Low) (hp : p.Right) : 0 ≤ (planV r p).1 ∧ (planV r p).1 ≤ 2000000000000 ∧ 1 ≤ (planV r p).2 ∧ (planV r p).2 ≤ 62145792 := by
  have h1 := costP_bd h.right hp
  have h2 := denP_pos h.right p
  have h3 := denP_low h hp
  have h4 := ratioV_pos h1.1 (d := denP r p) (by omega)
  unfold planV
  omega
/-- Plans that are no worse. -/
theorem plan_sim {r r' : Rg} {p p' : Ru} {e : Nat} (hr : r.Right) (hr' : r'.Right) (hp : p.Right) (hp' : p'.Right) (h : SimR r r' p p' e) (hf : r'.first = r.first) (hw : p'.waits = p.waits + e) : overB (planV r p) (planV r' p') = false := by
  have hwp := hp.waits
  have hC := hr.clicks
  have hd := denP_pos hr p
  have hd' := denP_pos hr' p'
  unfold planV
  rw [over_ratio (by omega) (by omega) (costP_bd hr hp).1 (costP_bd hr' hp').1]
  have hn : p'.waits.toNat = p.waits.toNat + e := by omega
  have hden : denP r' p' = r.total ^ e * denP r p := by
    rw [denP_eq, denP_eq, hn, h.gsum, h.total, ← Nat.add_assoc, Int.pow_add]
    ac_rfl
  have hcost : costP r' p' ≤ r.total ^ e * costP r p := by
    unfold costP
    rw [← sumR_mul, h.drifts, hf, hn]
    refine sumR_mono _ _ _ (fun s hs => ?_)
    rw [Int.mul_left_comm]
    exact Int.mul_le_mul_of_nonneg_left (val_sim hr hr' h _ 0 p.waits.toNat s 0 rfl (by omega) (by omega) (by omega) hs (by omega)) (first_bd hr s).1
  have : ¬ costP r p * denP r' p' < costP r' p' * denP r p := by
    rw [hden]
    have h1 : costP r' p' * denP r p ≤ r.total ^ e * costP r p * denP r p := Int.mul_le_mul_of_nonneg_right hcost (by omega)
    have e1 : costP r p * (r.total ^ e * denP r p) = r.total ^ e * costP r p * denP r p := by ac_rfl
    omega
  rw [decide_eq_false this]
  rfl
end Go.Proofs.Ytohlillcaadidaa

/- The plain laws of the wind, part 6. -/
namespace Go.Proofs.Ytohlillcaadidaa
open Go Go.Eng
/-! Values that hold prove no more. -/
theorem cost_hold {r : Rg} {p : Ru} (hr : r.Right) (hp : p.Right) (l : List Int) (hl : (plcL r p).all (holdV r p (gV r p l)) = true) : costV r p (gV r p l) ≤ costP r p := by
  have h1 := hp.waits
  have h2 := hr.clicks
  unfold costV costP
  exact sumR_mono _ _ _ (fun s hs => Int.mul_le_mul_of_nonneg_left (hold_le hr l hl _ 0 p.waits.toNat s 0 rfl (by omega) (by omega) (by omega) hs (by omega)) (first_bd hr s).1)
theorem gV_nonneg {r : Rg} {p : Ru} {l : List Int} (h : ∀ x ∈ l, 0 ≤ x) (k w st : Nat) (cl : Int) : 0 ≤ gV r p l k w st cl := by
  unfold gV
  rw [List.getD_eq_getElem?_getD]
  cases hx : l[idxP r p (k, w, st, cl)]? with
  | none => simp
  | some v => exact h v (List.mem_of_getElem? hx)
theorem proof_other {r : Rg} {p : Ru} (h : r.Low) (hp : p.Right) (l : List Int) (hlen : l.length = (plcL r p).length) (hb : ∀ x ∈ l, 0 ≤ x ∧ x ≤ 1000000000000000) :
    (proofV r p l).2 = 8 ∨ (proofV r p l).2 = 0 ∧ overB (planV r p) (proofV r p l).1 = false ∧ 0 ≤ (proofV r p l).1.1 ∧ (proofV r p l).1.1 ≤ 2000000000000 ∧ 1 ≤ (proofV r p l).1.2 ∧ (proofV r p l).1.2 ≤ 62145792 := by
  have hr := h.right
  have hru : rulesV r p = 0 := (rules_iff r p).2 ⟨(right_check r).2 hr, hp⟩
  have hin : l.all (fun n => inB n 0 1000000000000000) = true := List.all_eq_true.2 fun n hn => inB_iff.2 (hb n hn)
  unfold proofV
  rw [hru, cntP_eq hr hp, hin, hlen]
  by_cases hl : (plcL r p).all (holdV r p (gV r p l)) = true
  · refine .inr ?_
    rw [hl]
    simp only [ne_eq, not_true_eq_false, if_false, Bool.not_true, Bool.false_eq_true]
    have hc := cost_hold hr hp l hl
    have hc2 := costP_bd hr hp
    have hd := denP_pos hr p
    have hd2 := denP_low h hp
    have hc0 : 0 ≤ costV r p (gV r p l) := by
      have := sumR_mono (fun _ => 0) (fun s => r.first.getD s 0 * gV r p l 0 p.waits.toNat s 0) r.drifts.length (fun s _ => Int.mul_nonneg (first_bd hr s).1 (gV_nonneg (fun x hx => (hb x hx).1) _ _ _ _))
      rw [sumR_zero _ _ (fun _ _ => rfl)] at this
      exact this
    have h4 := ratioV_pos hc0 (d := denP r p) (by omega)
    refine ⟨trivial, ?_, h4.1, Int.le_trans h4.2.1 (by omega), h4.2.2.1, Int.le_trans h4.2.2.2 hd2⟩
    have e : overB (planV r p) (ratioV (costV r p (gV r p l)) (denP r p)) = false := by
      unfold planV
      rw [over_ratio (by omega) (by omega) hc2.1 hc0, decide_eq_false]
      · rfl
      · have := Int.mul_le_mul_of_nonneg_right hc (show 0 ≤ denP r p by omega)
        omega
    exact e
  · refine .inl ?_
    rw [Bool.not_eq_true] at hl
    rw [hl]
    simp
/-! One click for all shots. -/
/-- The misses that follow, if all shots are shot with a click; m shots are left. -/
def tailM (r : Rg) (c : Int) : Nat → Nat → Int
  | 0, _ => 0
  | m + 1, st => missS r (r.drifts.getD st 0) c * r.total ^ m + folS r (tailM r c m) st
theorem val_tail {r : Rg} {p : Ru} (hr : r.Right) (w : Nat) (hw : (w : Int) ≤ p.waits) (hp0 : 0 ≤ p.miss) (c : Int) (hcc : -r.clicks ≤ c ∧ c ≤ r.clicks) : ∀ (m st : Nat) (cl : Int), m < 5 → st < r.drifts.length → (-r.clicks ≤ cl ∧ cl ≤ r.clicks) →
    valV r p (4 - m) w st cl ≤ p.click * max (c - cl) (cl - c) * partsV r (4 - m) w + p.miss * r.total ^ w * tailM r c (m + 1) st
  | m, st, cl, hm, hs, hc => by
    rw [valV_eq r p (4 - m) w st cl (by omega) hw hs hc]
    refine Int.le_trans ((chV_spec r p (valV r p (4 - m + 1) w) (valV r p (4 - m) (w - 1)) (4 - m) w st cl hc).1 c hcc) ?_
    unfold shootV
    rw [parts_div r hr, Int.add_assoc]
    refine Int.add_le_add_left ?_ _
    have e1 : 4 - (4 - m) + w = m + w := by omega
    rw [e1, tailM, Int.mul_add, Int.pow_add]
    refine Int.add_le_add (Int.le_of_eq (by ac_rfl)) ?_
    cases m with
    | zero =>
      rw [if_neg (by omega)]
      unfold folS
      rw [sumR_zero _ _ (fun t _ => by simp [tailM]), Int.mul_zero]
      exact Int.le_refl _
    | succ m =>
      rw [if_pos (by omega), ← fol_mul]
      refine fol_mono r hr st (fun t ht => ?_)
      have := val_tail hr w hw hp0 c hcc m t c (by omega) ht hcc
      rw [show 4 - (m + 1) + 1 = 4 - m by omega]
      simpa using this
/-- Sums exchanged. -/
theorem sumR_swap (f : Nat → Nat → Int) (n : Nat) : ∀ m, sumR (fun i => sumR (fun j => f i j) m) n = sumR (fun j => sumR (fun i => f i j) n) m
  | 0 => by
    simp only [sumR]
    exact sumR_zero _ _ (fun _ _ => rfl)
  | m + 1 => by
    have : (fun i => sumR (fun j => f i j) (m + 1)) = fun i => sumR (fun j => f i j) m + f i m := funext fun i => rfl
    rw [this, sumR_add, sumR_swap f n m]
    rfl
theorem mul_sumR (c : Int) (g : Nat → Int) (n : Nat) : sumR (fun i => g i * c) n = sumR g n * c := by
  rw [Int.mul_comm, ← sumR_mul]
  exact sumR_congr _ _ _ (fun i _ => Int.mul_comm _ _)
theorem push_wts {r : Rg} (hr : r.Right) (k : Nat) (f : Nat → Int) : sumR (fun s => (wts r k).getD s 0 * folS r f s) r.drifts.length = sumR (fun t => (wts r (k + 1)).getD t 0 * f t) r.drifts.length := by
  have h1 : ∀ s, (wts r k).getD s 0 * folS r f s = sumR (fun t => (wts r k).getD s 0 * (r.next.getD s []).getD t 0 * f t) r.drifts.length := fun s => by
    unfold folS
    rw [← sumR_mul]
    exact sumR_congr _ _ _ (fun t _ => by rw [Int.mul_assoc])
  rw [sumR_congr _ _ _ (fun s _ => h1 s), sumR_swap]
  refine sumR_congr _ _ _ (fun t ht => ?_)
  rw [mul_sumR, wtsS_getD r k t (by have := hr.d2; omega), hr.next]
theorem tail_exp {r : Rg} (hr : r.Right) (c : Int) : ∀ k m, k + m = 5 → sumR (fun s => (wts r k).getD s 0 * tailM r c m s) r.drifts.length + (expP r c k).1 * r.total ^ m = (expP r c 5).1
  | k, 0, h => by
    obtain rfl : k = 5 := by omega
    rw [sumR_zero _ _ (fun s _ => by simp [tailM])]
    simp
  | k, m + 1, h => by
    rw [← tail_exp hr c (k + 1) m (by omega), expP_succ r c k (by omega), ← push_wts hr k]
    have e : ∀ s, (wts r k).getD s 0 * tailM r c (m + 1) s = ((wts r k).getD s 0 * missS r (r.drifts.getD s 0) c) * r.total ^ m + (wts r k).getD s 0 * folS r (tailM r c m) s := fun s => by
      rw [tailM, Int.mul_add, Int.mul_assoc]
    rw [sumR_congr _ _ _ (fun s _ => e s), sumR_add, mul_sumR, Int.add_mul, Int.pow_succ]
    unfold mulN
    have e2 : (expP r c k).1 * (r.total ^ m * r.total) = (expP r c k).1 * r.total * r.total ^ m := by ac_rfl
    rw [e2]
    omega
theorem cost_click {r : Rg} {p : Ru} (hr : r.Right) (hp : p.Right) (c : Int) (hcc : -r.clicks ≤ c ∧ c ≤ r.clicks) : costP r p ≤ p.click * max c (-c) * denP r p + p.miss * (expP r c 5).1 * r.total ^ p.waits.toNat := by
  have hw := hp.waits
  have hC := hr.clicks
  have h1 := sumR_mono (fun s => r.first.getD s 0 * valV r p 0 p.waits.toNat s 0) (fun s => (p.click * max c (-c) * partsV r 0 p.waits.toNat) * r.first.getD s 0 + (p.miss * r.total ^ p.waits.toNat) * (r.first.getD s 0 * tailM r c 5 s)) r.drifts.length (fun s hs => by
    have := Int.mul_le_mul_of_nonneg_left (val_tail hr p.waits.toNat (by omega) hp.miss.1 c hcc 4 s 0 (by omega) hs (by omega)) (first_bd hr s).1
    refine Int.le_trans this (Int.le_of_eq ?_)
    rw [show max (c - 0) (0 - c) = max c (-c) by omega, Int.mul_add]
    congr 1
    · ac_rfl
    · ac_rfl)
  rw [sumR_add, sumR_mul, sumR_mul, first_sum hr] at h1
  have h2 := tail_exp hr c 0 5 rfl
  rw [sumR_congr _ (fun s => r.first.getD s 0 * tailM r c 5 s) _ (fun s _ => by rw [wts0_getD hr]), show (expP r c 0).1 = 0 from rfl] at h2
  simp only [Int.zero_mul, Int.add_zero] at h2
  rw [h2] at h1
  unfold costP denP
  have e1 : p.click * max c (-c) * partsV r 0 p.waits.toNat * r.total = p.click * max c (-c) * (partsV r 0 p.waits.toNat * r.total) := by ac_rfl
  have e2 : p.miss * r.total ^ p.waits.toNat * (expP r c 5).1 = p.miss * (expP r c 5).1 * r.total ^ p.waits.toNat := by ac_rfl
  rw [e1, e2] at h1
  exact h1
/-- What it costs to shoot all with one click, as a fraction. -/
def clickV (r : Rg) (p : Ru) (c : Int) : Int × Int := (p.click * max c (-c) * (expV r c).2 + p.miss * (expV r c).1, (expV r c).2)
theorem clickV_mul {r : Rg} (h : r.Low) (p : Ru) (c : Int) : (clickV r p c).1 * (r.total ^ 5 * r.group.sum) = (p.click * max c (-c) * (r.total ^ 5 * r.group.sum) + p.miss * (expP r c 5).1) * (clickV r p c).2 := by
  have h1 := den6 h 5 (by omega)
  have h2 : (expV r c).1 * (r.total ^ 5 * r.group.sum) = (expP r c 5).1 * (expV r c).2 := ratioV_mul (by omega)
  unfold clickV
  simp only
  rw [Int.add_mul, Int.add_mul, Int.mul_assoc p.miss, h2]
  congr 1
  · ac_rfl
  · ac_rfl
theorem one_over {r : Rg} {p : Ru} (h : r.Low) (hp : p.Right) (c : Int) (hcc : -r.clicks ≤ c ∧ c ≤ r.clicks) : overB (clickV r p c) (planV r p) = false := by
  have hr := h.right
  have h1 := den6 h 5 (by omega)
  have h3 := expV_bd h c
  have h4 := planV_bd h hp
  have hd := denP_pos hr p
  have := over_frac (x := (clickV r p c).1) (y := (clickV r p c).2) (u := (planV r p).1) (v := (planV r p).2) (by unfold clickV; simp only; omega) (by omega) (show 0 < r.total ^ 5 * r.group.sum by omega) (show 0 < denP r p by omega) (clickV_mul h p c) (ratioV_mul (by omega))
  refine this.trans ?_
  rw [decide_eq_false]
  · rfl
  · have h5 := cost_click hr hp c hcc
    have h6 := Int.mul_le_mul_of_nonneg_right h5 (show 0 ≤ r.total ^ 5 * r.group.sum by omega)
    refine Int.not_lt.2 (Int.le_trans h6 (Int.le_of_eq ?_))
    rw [denP_eq, Int.pow_add, Int.add_mul, Int.add_mul]
    congr 1
    · ac_rfl
    · ac_rfl
end Go.Proofs.Ytohlillcaadidaa

/- The plain laws of the wind, part 7. -/
namespace Go.Proofs.Ytohlillcaadidaa
open Go Go.Eng
/-! The worst case. -/
theorem wP_max (r : Rg) (c lo : Int) : ∀ (k i : Nat), i < k → missS r (lo + i) c ≤ missS r (wP r c lo k) c
  | k + 1, i, h => by
    rw [wP]
    rcases Nat.lt_succ_iff_lt_or_eq.1 h with h1 | rfl
    · have := wP_max r c lo k i h1
      split <;> omega
    · split <;> omega
theorem worstO_in (r : Rg) (c : Int) (s : Int × Int) (h : s.1 ≤ s.2) : s.1 ≤ worstO r c s ∧ worstO r c s ≤ s.2 := by
  have h2 := wP_bd r c s.1 (s.2 - s.1 + 1).toNat
  unfold worstO
  omega
theorem worstO_max (r : Rg) (c : Int) (s : Int × Int) (x : Int) (h : s.1 ≤ x ∧ x ≤ s.2) : missS r x c ≤ missS r (worstO r c s) c := by
  have := wP_max r c s.1 (s.2 - s.1 + 1).toNat (x - s.1).toNat (by omega)
  rw [show s.1 + ((x - s.1).toNat : Int) = x by omega] at this
  exact this
theorem worstL_getD (r : Rg) (ws : List (Int × Int)) (c : Int) (i : Nat) (hi : i < ws.length) : (worstL r ws c).getD i 0 = worstO r c (ws.getD i (0, 0)) := by
  simp [worstL, List.getD_eq_getElem?_getD, hi]
theorem ws_mem {ws : List (Int × Int)} {i : Nat} (hi : i < ws.length) : ws.getD i (0, 0) ∈ ws := by
  rw [List.getD_eq_getElem?_getD, List.getElem?_eq_getElem hi, Option.getD_some]
  exact List.getElem_mem hi
abbrev facN (r : Rg) (l : List Int) (c : Int) : Int := facS r l c 5
/-- No case within the bounds is worse. -/
theorem worst_max (r : Rg) {ws : List (Int × Int)} (hw : WindOk ws) (c : Int) (l : List Int) (hin : ∀ i, i < 5 → (ws.getD i (0, 0)).1 ≤ l.getD i 0 ∧ l.getD i 0 ≤ (ws.getD i (0, 0)).2) : facN r l c ≤ facN r (worstL r ws c) c := by
  refine sumR_mono _ _ _ (fun i hi => ?_)
  rw [worstL_getD r ws c i (by rw [hw.len]; exact hi)]
  exact worstO_max r c _ _ (hin i hi)
theorem worst_wider (r : Rg) {ws wt : List (Int × Int)} (hw : WindOk ws) (ht : WindOk wt) (c : Int) (h : ∀ i, i < 5 → (wt.getD i (0, 0)).1 ≤ (ws.getD i (0, 0)).1 ∧ (ws.getD i (0, 0)).2 ≤ (wt.getD i (0, 0)).2) : facN r (worstL r ws c) c ≤ facN r (worstL r wt c) c := by
  refine worst_max r ht c _ (fun i hi => ?_)
  have hl : i < ws.length := by rw [hw.len]; exact hi
  rw [worstL_getD r ws c i hl]
  have h1 := worstO_in r c _ (hw.sp _ (ws_mem hl)).1
  have := h i hi
  omega
theorem facedV_5 (r : Rg) {l : List Int} (hl : l.length = 5) (c : Int) : facedV r l c = ratioV (facN r l c) r.group.sum := by
  unfold facedV
  rw [hl]
theorem facN_bd {r : Rg} (hr : r.Right) (l : List Int) (c : Int) : 0 ≤ facN r l c ∧ facN r l c ≤ 5 * r.group.sum := by
  have h1 := sumR_mono (fun _ => 0) (fun i => missS r (l.getD i 0) c) 5 (fun i _ => (missS_bd r hr _ _).1)
  have h2 := sumR_mono (fun i => missS r (l.getD i 0) c) (fun _ => r.group.sum) 5 (fun i _ => (missS_bd r hr _ _).2)
  rw [sumR_zero _ _ (fun _ _ => rfl)] at h1
  refine ⟨h1, Int.le_trans h2 ?_⟩
  simp only [sumR]
  omega
theorem facR_bd {r : Rg} (hr : r.Right) (l : List Int) (c : Int) : 0 ≤ (ratioV (facN r l c) r.group.sum).1 ∧ (ratioV (facN r l c) r.group.sum).1 ≤ 5 * (ratioV (facN r l c) r.group.sum).2 ∧ 1 ≤ (ratioV (facN r l c) r.group.sum).2 ∧ (ratioV (facN r l c) r.group.sum).2 ≤ 100 := by
  have h1 := facN_bd hr l c
  have h2 := hr.gsum
  have h3 := ratioV_pos h1.1 (d := r.group.sum) (by omega)
  exact ⟨h3.1, ratioV_le (by omega) h1.2 (by omega), h3.2.2.1, Int.le_trans h3.2.2.2 h2.2⟩
theorem fac_less {r : Rg} (hr : r.Right) (l l' : List Int) (c c' : Int) : lessB (ratioV (facN r l c) r.group.sum) (ratioV (facN r l' c') r.group.sum) = (decide (facN r l c < facN r l' c') && true) :=
  less_ratio (by have := hr.gsum; omega) (facN_bd hr l c).1 (facN_bd hr l' c').1
theorem robQ_eq (r : Rg) {ws : List (Int × Int)} (hw : WindOk ws) (c : Int) : robQ r ws c = ratioV (facN r (worstL r ws c) c) r.group.sum :=
  facedV_5 r (by rw [worstL_length, hw.len]) c
/-- The robust click. -/
theorem rob_of {r : Rg} (hr : r.Right) {ws : List (Int × Int)} (hw : WindOk ws) : ∃ m, robV r ws = (m, robQ r ws m, 0) ∧ (-r.clicks ≤ m ∧ m ≤ r.clicks) ∧ (∀ c, -r.clicks ≤ c ∧ c ≤ r.clicks → facN r (worstL r ws m) m ≤ facN r (worstL r ws c) c) ∧
    ∀ c, -r.clicks ≤ c ∧ c ≤ r.clicks → facN r (worstL r ws c) c = facN r (worstL r ws m) m → ¬ (c * c < m * m ∨ c = -m ∧ c < m) := by
  obtain ⟨m, h1, h2, h3, h4⟩ := best_law (robQ r ws) (fun c => facN r (worstL r ws c) c) r.clicks hr.clicks.1 (fun a b _ _ => by rw [robQ_eq r hw, robQ_eq r hw]; exact fac_less hr _ _ _ _)
  refine ⟨m, ?_, h2, h3, h4⟩
  have hb : blownV r ws = 0 := (blown_iff r ws).2 ⟨(right_check r).2 hr, hw⟩
  unfold robV
  rw [hb, h1]
  rfl
/-- What witnesses show: the least of them. -/
theorem shows_of {r : Rg} (hr : r.Right) {ws : List (Int × Int)} (hw : WindOk ws) (wl : List (List Int)) (hlen : (wl.length : Int) = 2 * r.clicks + 1) (h5 : ∀ l ∈ wl, l.length = 5) (hin : ∀ l ∈ wl, ∀ i, i < 5 → (ws.getD i (0, 0)).1 ≤ l.getD i 0 ∧ l.getD i 0 ≤ (ws.getD i (0, 0)).2) :
    ∃ m, showsV r ws wl = (ratioV (facN r (wl.getD (m + r.clicks).toNat []) m) r.group.sum, 0) ∧ (-r.clicks ≤ m ∧ m ≤ r.clicks) ∧ ∀ c, -r.clicks ≤ c ∧ c ≤ r.clicks → facN r (wl.getD (m + r.clicks).toNat []) m ≤ facN r (wl.getD (c + r.clicks).toNat []) c := by
  have hmem : ∀ c, -r.clicks ≤ c ∧ c ≤ r.clicks → wl.getD (c + r.clicks).toNat [] ∈ wl := fun c hc => by
    have : (c + r.clicks).toNat < wl.length := by omega
    rw [List.getD_eq_getElem?_getD, List.getElem?_eq_getElem this, Option.getD_some]
    exact List.getElem_mem this
  have hq : ∀ c, -r.clicks ≤ c ∧ c ≤ r.clicks → shQ r wl c = ratioV (facN r (wl.getD (c + r.clicks).toNat []) c) r.group.sum := fun c hc => facedV_5 r (h5 _ (hmem c hc)) c
  obtain ⟨m, h1, h2, h3, _⟩ := best_law (shQ r wl) (fun c => facN r (wl.getD (c + r.clicks).toNat []) c) r.clicks hr.clicks.1 (fun a b ha hb => by rw [hq a ha, hq b hb]; exact fac_less hr _ _ _ _)
  refine ⟨m, ?_, h2, h3⟩
  have hb : blownV r ws = 0 := (blown_iff r ws).2 ⟨(right_check r).2 hr, hw⟩
  have e1 : wl.all shB = true := List.all_eq_true.2 fun l hl => by simp [shB, h5 l hl]
  have e2 : wl.all (witB ws) = true := List.all_eq_true.2 fun l hl => witB_of fun i hi => inB_iff.2 (hin l hl i (by rw [h5 l hl] at hi; exact hi))
  unfold showsV
  rw [hb, e1, e2, h1, ← hq m h2]
  simp [hlen]
/-! What is more. -/
theorem sum_mono' {a b : List Int} (hl : a.length = b.length) (h : ∀ i, i < a.length → a.getD i 0 ≤ b.getD i 0) : a.sum ≤ b.sum := by
  refine sum_mono a b hl (fun i h1 h2 => ?_)
  have := h i h1
  simpa [List.getD_eq_getElem?_getD, h1, h2] using this
theorem miss_wide {r r' : Rg} (hr : r.Right) (hg : r'.group = r.group) (hu : r'.unit = r.unit) (hrad : r.radius ≤ r'.radius) (d c : Int) : missS r' d c ≤ missS r d c := by
  unfold missS
  refine sum_mono _ _ (by rw [missL_length, missL_length, hg]) (fun k h1 h2 => ?_)
  rw [missL_length] at h1 h2
  rw [missL_get _ _ _ _ h1, missL_get _ _ _ _ h2]
  have hw := (hr.weight _ (List.getElem_mem h2)).1
  simp only [hg, hu]
  split
  · split
    · exact Int.le_refl _
    · exact hw
  · rename_i hh
    rw [if_neg]
    · exact Int.le_refl _
    · intro hh2
      apply hh
      have := inB_iff.1 hh2
      exact inB_iff.2 (by omega)
theorem exp_mono {r r' : Rg} (hr : r.Right) (ht : r'.total = r.total) (hd : r'.drifts = r.drifts) (hf : r'.first = r.first) (hn : r'.next = r.next) (c : Int) (h : ∀ st, st < r.drifts.length → missS r' (r.drifts.getD st 0) c ≤ missS r (r.drifts.getD st 0) c) : ∀ k, k ≤ 5 → (expP r' c k).1 ≤ (expP r c k).1 ∧ wts r' k = wts r k
  | 0, _ => by
    refine ⟨Int.le_refl _, ?_⟩
    unfold wts
    rw [hf]
  | k + 1, hk => by
    obtain ⟨h1, h2⟩ := exp_mono hr ht hd hf hn c h k (by omega)
    constructor
    · rw [expP_succ r c k (by omega), expP_succ r' c k (by omega), ht, h2, hd]
      refine Int.add_le_add (Int.mul_le_mul_of_nonneg_right h1 (by have := hr.total; omega)) ?_
      unfold mulN
      exact sumR_mono _ _ _ (fun i hi => by rw [hd]; exact Int.mul_le_mul_of_nonneg_left (h i hi) (wts_getD r hr k i))
    · rw [wts, wts, h2]
      unfold afterS
      rw [hn]
      generalize r.next.length = n
      induction n with
      | zero => rfl
      | succ n ih => rw [afterP, afterP, ih, hn]
theorem expV_wide {r r' : Rg} (h : r.Low) (hr' : r'.Low) (hg : r'.group = r.group) (ht : r'.total = r.total) (hd : r'.drifts = r.drifts) (hf : r'.first = r.first) (hn : r'.next = r.next) (c : Int) (hm : ∀ st, st < r.drifts.length → missS r' (r.drifts.getD st 0) c ≤ missS r (r.drifts.getD st 0) c) : lessB (expV r c) (expV r' c) = false := by
  have h1 := den6 h 5 (by omega)
  unfold expV
  rw [ht, hg, less_ratio (by omega) (expP_bd r h.right c 5 (by omega)).1 (expP_bd r' hr'.right c 5 (by omega)).1, decide_eq_false]
  · rfl
  · have := (exp_mono h.right ht hd hf hn c hm 5 (by omega)).1
    omega
end Go.Proofs.Ytohlillcaadidaa

/- The plain laws of the wind, part 8. -/
namespace Go.Proofs.Ytohlillcaadidaa
open Go Go.Eng
/-! Left and right. -/
structure Turned (r r' : Rg) : Prop where
  n : r'.drifts.length = r.drifts.length
  next : r'.next = r.next
  first : r'.first = r.first
  total : r'.total = r.total
  gsum : r'.group.sum = r.group.sum
  clicks : r'.clicks = r.clicks
  miss : ∀ st c, st < r.drifts.length → missS r' (r'.drifts.getD st 0) (-c) = missS r (r.drifts.getD st 0) c
theorem Turned.symm {r r' : Rg} (h : Turned r r') : Turned r' r :=
  ⟨h.n.symm, h.next.symm, h.first.symm, h.total.symm, h.gsum.symm, h.clicks.symm, fun st c hs => by
    have := h.miss st (-c) (by rw [← h.n]; exact hs)
    rw [Int.neg_neg] at this
    exact this.symm⟩
def turnR (r : Rg) : Rg := { r with group := r.group.reverse, drifts := r.drifts.map (fun d => d * -1) }
theorem miss_turn {r : Rg} (ho : r.group.length % 2 = 1) (d c : Int) : missS (turnR r) (-d) (-c) = missS r d c := by
  have h : missL (turnR r) (-d) (-c) = (missL r d c).reverse := by
    refine List.ext_getElem (by simp [missL_length, turnR]) (fun i h1 h2 => ?_)
    rw [missL_length] at h1
    have h1' : i < r.group.length := by simpa [turnR] using h1
    rw [missL_get _ _ _ _ h1, List.getElem_reverse, missL_get _ _ _ _ (by rw [missL_length]; omega)]
    simp only [missL_length]
    have e1 : (turnR r).group[i]'h1 = r.group[r.group.length - 1 - i]'(by omega) := by simp [turnR]
    have e2 : hitB (turnR r) (-d + (i : Int) - ((turnR r).group.length : Int) / 2 + -c * (turnR r).unit) = hitB r (d + ((r.group.length - 1 - i : Nat) : Int) - (r.group.length : Int) / 2 + c * r.unit) := by
      have e3 : (turnR r).group.length = r.group.length := by simp [turnR]
      have e4 : (turnR r).unit = r.unit := rfl
      have e5 : (turnR r).radius = r.radius := rfl
      unfold hitB inB
      rw [e3, e4, e5, Int.neg_mul]
      generalize c * r.unit = z
      generalize r.radius = R
      rw [Bool.and_comm]
      congr 1
      · refine decide_eq_decide.2 ⟨fun _ => ?_, fun _ => ?_⟩ <;> omega
      · refine decide_eq_decide.2 ⟨fun _ => ?_, fun _ => ?_⟩ <;> omega
    rw [e1, e2]
  unfold missS
  rw [h, List.sum_reverse]
theorem turn_turned {r : Rg} (hr : r.Right) : Turned r (turnR r) where
  n := by simp [turnR]
  next := rfl
  first := rfl
  total := rfl
  gsum := by simp [turnR]
  clicks := rfl
  miss := fun st c hs => by
    rw [← miss_turn hr.odd]
    congr 1
    simp [turnR, List.getD_eq_getElem?_getD, hs]
theorem turn_right {r : Rg} (hr : r.Right) : (turnR r).Right := by
  obtain ⟨g1, g2, odd, d1, d2, first, next, rows, radius, unit, clicks, total, drift, weight, chance, chances, gsum, fsum, nsum⟩ := hr
  constructor <;> simp only [turnR, List.length_reverse, List.length_map, List.sum_reverse] <;> try assumption
  · intro x hx
    obtain ⟨y, hy, rfl⟩ := List.mem_map.1 hx
    have := drift y hy
    omega
  · intro x hx
    exact weight x (List.mem_reverse.1 hx)
theorem wts_same {r r' : Rg} (hf : r'.first = r.first) (hn : r'.next = r.next) : ∀ k, wts r' k = wts r k
  | 0 => by unfold wts; rw [hf]
  | k + 1 => by
    rw [wts, wts, wts_same hf hn k]
    unfold afterS
    rw [hn]
    generalize r.next.length = n
    induction n with
    | zero => rfl
    | succ n ih => rw [afterP, afterP, ih, hn]
theorem exp_turn {r r' : Rg} (h : Turned r r') (c : Int) : ∀ k, k ≤ 5 → (expP r' (-c) k).1 = (expP r c k).1
  | 0, _ => rfl
  | k + 1, hk => by
    have e : mulN r' (-c) (wts r k) r.drifts.length = mulN r c (wts r k) r.drifts.length := sumR_congr _ _ _ (fun i hi => by rw [h.miss i c hi])
    rw [expP_succ r c k (by omega), expP_succ r' _ k (by omega), exp_turn h c k (by omega), h.total, wts_same h.first h.next, h.n, e]
theorem expV_turn {r r' : Rg} (h : Turned r r') (c : Int) : expV r' (-c) = expV r c := by
  unfold expV
  rw [exp_turn h c 5 (by omega), h.total, h.gsum]
theorem shoot_turn {r r' : Rg} (h : Turned r r') (p : Ru) (g g' : Nat → Int → Int) (k w st : Nat) (cl c : Int) (hs : st < r.drifts.length) (hg : k < 4 → ∀ t, t < r.drifts.length → g' t (-c) = g t c) : shootV r' p g' k w st (-cl) (-c) = shootV r p g k w st cl c := by
  have hpar : partsV r' k w = partsV r k w := by unfold partsV; rw [h.gsum, h.total]
  unfold shootV
  rw [hpar, h.miss st c hs, h.gsum, show max (-c - -cl) (-cl - -c) = max (c - cl) (cl - c) by omega]
  split
  · rename_i hk
    unfold folS
    rw [h.next, h.n]
    congr 1
    exact sumR_congr _ _ _ (fun t ht => by simp only; rw [hg hk t ht])
  · rfl
theorem wait_turn {r r' : Rg} (h : Turned r r') (p : Ru) (g g' : Nat → Int → Int) (k w st : Nat) (cl : Int) (hg : ∀ t, t < r.drifts.length → g' t (-cl) = g t cl) : waitV r' p g' k w st (-cl) = waitV r p g k w st cl := by
  have hpar : partsV r' k w = partsV r k w := by unfold partsV; rw [h.gsum, h.total]
  unfold waitV
  rw [hpar]
  congr 1
  unfold folS
  rw [h.next, h.n]
  exact sumR_congr _ _ _ (fun t ht => by simp only; rw [hg t ht])
theorem val_turn {r r' : Rg} (h : Turned r r') (p : Ru) : ∀ (n k w st : Nat) (cl : Int), (5 - k) * 10 + w = n → k < 5 → (w : Int) ≤ p.waits → w ≤ 9 → st < r.drifts.length → (-r.clicks ≤ cl ∧ cl ≤ r.clicks) → valV r' p k w st (-cl) = valV r p k w st cl := by
  intro n
  induction n using Nat.strongRecOn with
  | _ n ih =>
    intro k w st cl hn hk hw hw9 hs hc
    have hn1 : (5 - (k + 1)) * 10 + w < n := by clear ih; omega
    have hn2 : 0 < w → (5 - k) * 10 + (w - 1) < n := by clear ih; omega
    have hcl := h.clicks
    have hc' : -r'.clicks ≤ -cl ∧ -cl ≤ r'.clicks := by omega
    rw [valV_eq r p k w st cl hk hw hs hc, valV_eq r' p k w st (-cl) hk hw (by rw [h.n]; exact hs) hc']
    unfold choV
    obtain ⟨a1, a2, a3⟩ := chV_spec r' p (valV r' p (k + 1) w) (valV r' p k (w - 1)) k w st (-cl) hc'
    obtain ⟨b1, b2, b3⟩ := chV_spec r p (valV r p (k + 1) w) (valV r p k (w - 1)) k w st cl hc
    have es : ∀ c, -r.clicks ≤ c ∧ c ≤ r.clicks → shootV r' p (valV r' p (k + 1) w) k w st (-cl) (-c) = shootV r p (valV r p (k + 1) w) k w st cl c := fun c hcc =>
      shoot_turn h p _ _ k w st cl c hs (fun hk4 t ht => ih _ hn1 (k + 1) w t c rfl (by omega) hw hw9 ht hcc)
    have ew : 0 < w → waitV r' p (valV r' p k (w - 1)) k w st (-cl) = waitV r p (valV r p k (w - 1)) k w st cl := fun hw0 =>
      wait_turn h p _ _ k w st cl (fun t ht => ih _ (hn2 hw0) k (w - 1) t cl rfl hk (by omega) (by omega) ht hc)
    apply Int.le_antisymm
    · rcases b3 with ⟨c, b4, b5, _⟩ | ⟨b4, b5, _⟩
      · rw [b5, ← es c b4]
        exact a1 (-c) (by omega)
      · rw [b5, ← ew b4]
        exact a2 b4
    · rcases a3 with ⟨c, a4, a5, _⟩ | ⟨a4, a5, _⟩
      · rw [a5]
        have := es (-c) (by omega)
        rw [Int.neg_neg] at this
        rw [this]
        exact b1 (-c) (by omega)
      · rw [a5, ew a4]
        exact b2 a4
theorem plan_turn {r r' : Rg} (hr : r.Right) {p : Ru} (hp : p.Right) (h : Turned r r') : planV r' p = planV r p := by
  have hw := hp.waits
  have hC := hr.clicks
  have hden : denP r' p = denP r p := by unfold denP partsV; rw [h.gsum, h.total]
  have hc : costP r' p = costP r p := by
    unfold costP
    rw [h.first, h.n]
    refine sumR_congr _ _ _ (fun s hs => ?_)
    have := val_turn h p _ 0 p.waits.toNat s 0 rfl (by omega) (by omega) (by omega) hs (by omega)
    rw [show (-0 : Int) = 0 from rfl] at this
    rw [this]
  unfold planV
  rw [hden, hc]
/-! Turned winds. -/
def turnW (ws : List (Int × Int)) : List (Int × Int) := ws.map fun s => (-s.2, -s.1)
theorem turnW_ok {ws : List (Int × Int)} (h : WindOk ws) : WindOk (turnW ws) :=
  ⟨by rw [turnW, List.length_map]; exact h.len, fun s hs => by
    obtain ⟨t, ht, rfl⟩ := List.mem_map.1 hs
    have := h.sp t ht
    simp only
    omega⟩
theorem turnW_getD (ws : List (Int × Int)) (i : Nat) : (turnW ws).getD i (0, 0) = (-(ws.getD i (0, 0)).2, -(ws.getD i (0, 0)).1) := by
  simp only [turnW, List.getD_eq_getElem?_getD, List.getElem?_map]
  cases ws[i]? <;> rfl
theorem fac_turn {r r' : Rg} (hm : ∀ d c, missS r' (-d) (-c) = missS r d c) {ws : List (Int × Int)} (h : WindOk ws) (c : Int) : facN r' (worstL r' (turnW ws) (-c)) (-c) = facN r (worstL r ws c) c := by
  refine sumR_congr _ _ _ (fun i hi => ?_)
  have hl : i < ws.length := by rw [h.len]; exact hi
  rw [worstL_getD r ws c i hl, worstL_getD r' _ _ i (by rw [(turnW_ok h).len]; exact hi), turnW_getD]
  generalize hs : ws.getD i (0, 0) = s
  have hsp : s.1 ≤ s.2 := by rw [← hs]; exact (h.sp _ (ws_mem hl)).1
  have h1 := worstO_in r c s hsp
  have h2 := worstO_in r' (-c) (-s.2, -s.1) (by simp only; omega)
  simp only at h2
  apply Int.le_antisymm
  · have := worstO_max r c s (-(worstO r' (-c) (-s.2, -s.1))) (by omega)
    rw [← hm, Int.neg_neg] at this
    exact this
  · have := worstO_max r' (-c) (-s.2, -s.1) (-(worstO r c s)) (by simp only; omega)
    rw [hm] at this
    exact this
theorem rob_turn {r r' : Rg} (hr : r.Right) (hr' : r'.Right) (hcl : r'.clicks = r.clicks) (hg : r'.group.sum = r.group.sum) (hm : ∀ d c, missS r' (-d) (-c) = missS r d c) {ws : List (Int × Int)} (h : WindOk ws) : (robV r' (turnW ws)).2.1 = (robV r ws).2.1 := by
  obtain ⟨m, h1, h2, h3, _⟩ := rob_of hr h
  obtain ⟨m', h1', h2', h3', _⟩ := rob_of hr' (turnW_ok h)
  rw [h1, h1']
  simp only
  rw [robQ_eq r h, robQ_eq r' (turnW_ok h), hg]
  congr 1
  apply Int.le_antisymm
  · rw [← fac_turn hm h m]
    exact h3' (-m) (by omega)
  · have := fac_turn hm h (-m')
    rw [Int.neg_neg] at this
    rw [this]
    exact h3 (-m') (by omega)
/-! States numbered otherwise. -/
structure Named (r r' : Rg) (σ : Nat → Nat) : Prop where
  n : r'.drifts.length = r.drifts.length
  nn : r'.next.length = r.next.length
  total : r'.total = r.total
  gsum : r'.group = r.group
  clicks : r'.clicks = r.clicks
  radius : r'.radius = r.radius
  unit : r'.unit = r.unit
  perm : ((List.range r.drifts.length).map σ).Perm (List.range r.drifts.length)
  drift : ∀ s, s < r.drifts.length → r'.drifts.getD (σ s) 0 = r.drifts.getD s 0
  first : ∀ s, s < r.drifts.length → r'.first.getD (σ s) 0 = r.first.getD s 0
  next : ∀ s t, s < r.drifts.length → t < r.drifts.length → (r'.next.getD (σ s) []).getD (σ t) 0 = (r.next.getD s []).getD t 0
theorem sumR_perm {σ : Nat → Nat} {n : Nat} (h : ((List.range n).map σ).Perm (List.range n)) (f : Nat → Int) : sumR f n = sumR (fun i => f (σ i)) n := by
  rw [← sumR_eq, ← sumR_eq]
  have key : ∀ {a b : List Int}, a.Perm b → a.sum = b.sum := fun hp => by
    induction hp with
    | nil => rfl
    | cons x _ ih => simp [ih]
    | swap x y l => simp; omega
    | trans _ _ ih1 ih2 => exact ih1.trans ih2
  have := key (h.map f)
  rw [List.map_map] at this
  exact this.symm
theorem Named.lt {r r' : Rg} {σ : Nat → Nat} (h : Named r r' σ) {s : Nat} (hs : s < r.drifts.length) : σ s < r.drifts.length :=
  List.mem_range.1 (h.perm.mem_iff.1 (List.mem_map.2 ⟨s, List.mem_range.2 hs, rfl⟩))
theorem miss_same {r r' : Rg} (hg : r'.group = r.group) (hu : r'.unit = r.unit) (hR : r'.radius = r.radius) (d c : Int) : missS r' d c = missS r d c := by
  unfold missS missL hitB
  rw [hg, hu, hR]
theorem fol_named {r r' : Rg} {σ : Nat → Nat} (h : Named r r' σ) (f f' : Nat → Int) (st : Nat) (hs : st < r.drifts.length) (hf : ∀ t, t < r.drifts.length → f' (σ t) = f t) : folS r' f' (σ st) = folS r f st := by
  unfold folS
  rw [h.n, sumR_perm h.perm]
  exact sumR_congr _ _ _ (fun t ht => by rw [h.next st t hs ht, hf t ht])
theorem wts_named {r r' : Rg} (hr : r.Right) (hr' : r'.Right) {σ : Nat → Nat} (h : Named r r' σ) : ∀ k s, s < r.drifts.length → (wts r' k).getD (σ s) 0 = (wts r k).getD s 0
  | 0, s, hs => by rw [wts0_getD hr', wts0_getD hr, h.first s hs]
  | k + 1, s, hs => by
    have h5 := hr.d2
    have hl := h.lt hs
    rw [wtsS_getD r k s (by omega), wtsS_getD r' k (σ s) (by omega), hr.next, hr'.next, h.n, sumR_perm h.perm]
    exact sumR_congr _ _ _ (fun t ht => by rw [wts_named hr hr' h k t ht, h.next t s ht hs])
theorem exp_named {r r' : Rg} (hr : r.Right) (hr' : r'.Right) {σ : Nat → Nat} (h : Named r r' σ) (c : Int) : ∀ k, k ≤ 5 → (expP r' c k).1 = (expP r c k).1
  | 0, _ => rfl
  | k + 1, hk => by
    have e : mulN r' c (wts r' k) r.drifts.length = mulN r c (wts r k) r.drifts.length := by
      unfold mulN
      rw [sumR_perm h.perm]
      exact sumR_congr _ _ _ (fun i hi => by rw [wts_named hr hr' h k i hi, h.drift i hi, miss_same h.gsum h.unit h.radius])
    rw [expP_succ r c k (by omega), expP_succ r' c k (by omega), exp_named hr hr' h c k (by omega), h.total, h.n, e]
theorem expV_named {r r' : Rg} (hr : r.Right) (hr' : r'.Right) {σ : Nat → Nat} (h : Named r r' σ) (c : Int) : expV r' c = expV r c := by
  unfold expV
  rw [exp_named hr hr' h c 5 (by omega), h.total, h.gsum]
theorem val_named {r r' : Rg} {σ : Nat → Nat} (h : Named r r' σ) (p : Ru) : ∀ (n k w st : Nat) (cl : Int), (5 - k) * 10 + w = n → k < 5 → (w : Int) ≤ p.waits → w ≤ 9 → st < r.drifts.length → (-r.clicks ≤ cl ∧ cl ≤ r.clicks) → valV r' p k w (σ st) cl = valV r p k w st cl := by
  intro n
  induction n using Nat.strongRecOn with
  | _ n ih =>
    intro k w st cl hn hk hw hw9 hs hc
    have hn1 : (5 - (k + 1)) * 10 + w < n := by clear ih; omega
    have hn2 : 0 < w → (5 - k) * 10 + (w - 1) < n := by clear ih; omega
    have hc' : -r'.clicks ≤ cl ∧ cl ≤ r'.clicks := by rw [h.clicks]; exact hc
    rw [valV_eq r p k w st cl hk hw hs hc, valV_eq r' p k w (σ st) cl hk hw (by rw [h.n]; exact h.lt hs) hc']
    unfold choV
    obtain ⟨a1, a2, a3⟩ := chV_spec r' p (valV r' p (k + 1) w) (valV r' p k (w - 1)) k w (σ st) cl hc'
    obtain ⟨b1, b2, b3⟩ := chV_spec r p (valV r p (k + 1) w) (valV r p k (w - 1)) k w st cl hc
    have hpar : partsV r' k w = partsV r k w := by unfold partsV; rw [h.gsum, h.total]
    have es : ∀ c, -r.clicks ≤ c ∧ c ≤ r.clicks → shootV r' p (valV r' p (k + 1) w) k w (σ st) cl c = shootV r p (valV r p (k + 1) w) k w st cl c := fun c hcc => by
      unfold shootV
      rw [hpar, h.drift st hs, miss_same h.gsum h.unit h.radius, h.gsum]
      split
      · rw [fol_named h (fun t => valV r p (k + 1) w t c) (fun t => valV r' p (k + 1) w t c) st hs (fun t ht => ih _ hn1 (k + 1) w t c rfl (by omega) hw hw9 ht hcc)]
      · rfl
    have ew : 0 < w → waitV r' p (valV r' p k (w - 1)) k w (σ st) cl = waitV r p (valV r p k (w - 1)) k w st cl := fun hw0 => by
      unfold waitV
      rw [hpar, fol_named h (fun t => valV r p k (w - 1) t cl) (fun t => valV r' p k (w - 1) t cl) st hs (fun t ht => ih _ (hn2 hw0) k (w - 1) t cl rfl hk (by omega) (by omega) ht hc)]
    apply Int.le_antisymm
    · rcases b3 with ⟨c, b4, b5, _⟩ | ⟨b4, b5, _⟩
      · rw [b5, ← es c b4]
        exact a1 c (by rw [h.clicks]; exact b4)
      · rw [b5, ← ew b4]
        exact a2 b4
    · rcases a3 with ⟨c, a4, a5, _⟩ | ⟨a4, a5, _⟩
      · rw [h.clicks] at a4
        rw [a5, es c a4]
        exact b1 c a4
      · rw [a5, ew a4]
        exact b2 a4
theorem plan_named {r r' : Rg} (hr : r.Right) {p : Ru} (hp : p.Right) {σ : Nat → Nat} (h : Named r r' σ) : planV r' p = planV r p := by
  have hw := hp.waits
  have hC := hr.clicks
  have hden : denP r' p = denP r p := by unfold denP partsV; rw [h.gsum, h.total]
  have hc : costP r' p = costP r p := by
    unfold costP
    rw [h.n, sumR_perm h.perm]
    refine sumR_congr _ _ _ (fun s hs => ?_)
    rw [val_named h p _ 0 p.waits.toNat s 0 rfl (by omega) (by omega) (by omega) hs (by omega), h.first s hs]
  unfold planV
  rw [hden, hc]
end Go.Proofs.Ytohlillcaadidaa

/- The plain laws of the wind, part 9. -/
namespace Go.Proofs.Ytohlillcaadidaa
open Go Go.Eng
/-! A wind that never changes. -/
structure OneSt (r : Rg) : Prop where
  right : r.Right
  one : r.drifts.length = 1
abbrev mis0 (r : Rg) (c : Int) : Int := missS r (r.drifts.getD 0 0) c
theorem one_first {r : Rg} (h : OneSt r) : r.first.getD 0 0 = r.total := by
  have h1 := first_sum h.right
  rw [h.one] at h1
  simpa [sumR] using h1
theorem one_next {r : Rg} (h : OneSt r) : (r.next.getD 0 []).getD 0 0 = r.total := by
  have hl : 0 < r.next.length := by rw [h.right.next, h.one]; omega
  have hm : r.next[0] ∈ r.next := List.getElem_mem hl
  have h1 := h.right.rows _ hm
  have h2 := h.right.nsum _ hm
  have e : r.next.getD 0 [] = r.next[0] := by simp [List.getD_eq_getElem?_getD, hl]
  rw [e]
  rw [h.one] at h1
  obtain ⟨x, hx⟩ := List.length_eq_one_iff.1 h1
  rw [hx] at h2 ⊢
  simpa using h2
theorem one_fol {r : Rg} (h : OneSt r) (f : Nat → Int) : folS r f 0 = r.total * f 0 := by
  unfold folS
  rw [h.one]
  simp only [sumR, Int.zero_add]
  rw [one_next h]
theorem one_wts {r : Rg} (h : OneSt r) (k : Nat) : (wts r k).getD 0 0 = r.total ^ (k + 1) := by
  have := wts_one h.right k
  rw [h.one] at this
  simpa [sumR] using this
theorem one_exp {r : Rg} (h : OneSt r) (c : Int) : ∀ k : Nat, k ≤ 5 → (expP r c k).1 = k * mis0 r c * r.total ^ k
  | 0, _ => by simp [expP]
  | k + 1, hk => by
    have e : mulN r c (wts r k) r.drifts.length = r.total ^ (k + 1) * mis0 r c := by
      unfold mulN
      rw [h.one]
      simp only [sumR, Int.zero_add]
      rw [one_wts h k]
    rw [expP_succ r c k (by omega), one_exp h c k (by omega), e]
    simp only
    rw [Int.natCast_add, Int.add_mul, Int.add_mul, Int.mul_assoc ((k : Int) * mis0 r c), ← Int.pow_succ]
    congr 1
    rw [Int.mul_comm]
    simp
theorem one_expV {r : Rg} (h : OneSt r) (c : Int) : expV r c = ratioV (5 * mis0 r c) r.group.sum := by
  have ht := tot_nonneg h.right 5
  unfold expV
  rw [one_exp h c 5 (by omega), Int.mul_comm (r.total ^ 5)]
  exact ratioV_scale _ _ _ (by omega)
theorem one_hit {r : Rg} (h : OneSt r) (c : Int) : (expV r c).1 * (hitX r 0 c).2 = 5 * ((hitX r 0 c).2 - (hitX r 0 c).1) * (expV r c).2 := by
  have hg := h.right.gsum
  have h1 : (expV r c).1 * r.group.sum = 5 * mis0 r c * (expV r c).2 := by
    rw [one_expV h]
    exact ratioV_mul (by omega)
  have h2 : (hitX r 0 c).1 * r.group.sum = (r.group.sum - mis0 r c) * (hitX r 0 c).2 := ratioV_mul (by omega)
  have h3 : ((hitX r 0 c).2 - (hitX r 0 c).1) * r.group.sum = mis0 r c * (hitX r 0 c).2 := by
    rw [Int.sub_mul, h2, Int.sub_mul, Int.mul_comm r.group.sum]
    omega
  apply Int.eq_of_mul_eq_mul_right (show r.group.sum ≠ 0 by omega)
  have e1 : (expV r c).1 * (hitX r 0 c).2 * r.group.sum = (expV r c).1 * r.group.sum * (hitX r 0 c).2 := by ac_rfl
  have e2 : 5 * ((hitX r 0 c).2 - (hitX r 0 c).1) * (expV r c).2 * r.group.sum = 5 * (((hitX r 0 c).2 - (hitX r 0 c).1) * r.group.sum) * (expV r c).2 := by ac_rfl
  rw [e1, e2, h1, h3]
  ac_rfl
/-- The winds of that drift. -/
abbrev calmW (r : Rg) : List (Int × Int) := List.replicate 5 (r.drifts.getD 0 0, r.drifts.getD 0 0)
theorem one_drift {r : Rg} (h : OneSt r) : -300 ≤ r.drifts.getD 0 0 ∧ r.drifts.getD 0 0 ≤ 300 := by
  have hl : 0 < r.drifts.length := by rw [h.one]; omega
  rw [List.getD_eq_getElem?_getD, List.getElem?_eq_getElem hl, Option.getD_some]
  exact h.right.drift _ (List.getElem_mem hl)
theorem calm_ok {r : Rg} (h : OneSt r) : WindOk (calmW r) := ⟨by simp, fun s hs => by
  obtain ⟨_, rfl⟩ := List.mem_replicate.1 hs
  have := one_drift h
  simp only
  omega⟩
theorem calm_fac {r : Rg} (h : OneSt r) (c : Int) : facN r (worstL r (calmW r) c) c = 5 * mis0 r c := by
  have e : ∀ i, i < 5 → (worstL r (calmW r) c).getD i 0 = r.drifts.getD 0 0 := fun i hi => by
    rw [worstL_getD r _ c i (by simp; exact hi)]
    have e2 : (calmW r).getD i (0, 0) = (r.drifts.getD 0 0, r.drifts.getD 0 0) := by
      rw [List.getD_eq_getElem?_getD, List.getElem?_eq_getElem (by simp; exact hi)]
      simp
    rw [e2]
    have := worstO_in r c (r.drifts.getD 0 0, r.drifts.getD 0 0) (Int.le_refl _)
    simp only at this
    omega
  unfold facN facS
  rw [sumR_congr _ (fun _ => mis0 r c) 5 (fun i hi => by rw [e i hi])]
  simp only [sumR]
  omega
theorem calm_rob {r : Rg} (h : OneSt r) : robQ r (calmW r) = expV r := by
  funext c
  rw [robQ_eq r (calm_ok h), calm_fac h, one_expV h]
/-- Nobody waits. -/
theorem calm_val {r : Rg} {p : Ru} (h : OneSt r) (hp : p.Right) : ∀ (n k w : Nat) (cl : Int), (5 - k) * 10 + w = n → k < 5 → (w : Int) ≤ p.waits → w ≤ 9 → (-r.clicks ≤ cl ∧ cl ≤ r.clicks) →
    valV r p k w 0 cl = r.total ^ w * valV r p k 0 0 cl ∧ (choV r p k w 0 cl).1.1 = false := by
  intro n
  induction n using Nat.strongRecOn with
  | _ n ih =>
    intro k w cl hn hk hw hw9 hc
    have hn1 : (5 - (k + 1)) * 10 + w < n := by clear ih; omega
    have hn2 : 0 < w → (5 - k) * 10 + (w - 1) < n := by clear ih; omega
    have hr := h.right
    have hs : 0 < r.drifts.length := by rw [h.one]; omega
    have hpw := hp.waits
    have e0 := valV_eq r p k 0 0 cl hk (by omega) hs hc
    have ew := valV_eq r p k w 0 cl hk hw hs hc
    have hT := tot_nonneg hr w
    have hpar : partsV r k w = r.total ^ w * partsV r k 0 := by have := parts_more r k 0 w; rwa [Nat.zero_add] at this
    have hsh : ∀ c, -r.clicks ≤ c ∧ c ≤ r.clicks → shootV r p (valV r p (k + 1) w) k w 0 cl c = r.total ^ w * shootV r p (valV r p (k + 1) 0) k 0 0 cl c := fun c hcc => by
      unfold shootV
      rw [Int.mul_add, Int.mul_add, parts_div r hr, parts_div r hr, hpar]
      congr 1
      · congr 1
        · ac_rfl
        · rw [Nat.add_zero, Int.pow_add]
          ac_rfl
      · split
        · rw [one_fol h, one_fol h, (ih _ hn1 (k + 1) w c rfl (by omega) hw hw9 hcc).1]
          ac_rfl
        · rw [Int.mul_zero]
    obtain ⟨a1, a2, a3⟩ := chV_spec r p (valV r p (k + 1) w) (valV r p k (w - 1)) k w 0 cl hc
    obtain ⟨b1, _, b3⟩ := chV_spec r p (valV r p (k + 1) 0) (valV r p k (0 - 1)) k 0 0 cl hc
    obtain ⟨c0, b4, b5, _⟩ := b3.resolve_right (by omega)
    have hv0 : valV r p k 0 0 cl = shootV r p (valV r p (k + 1) 0) k 0 0 cl c0 := e0.trans b5
    rcases a3 with ⟨c, a4, a5, a6⟩ | ⟨a4, a5, _, a6⟩
    · refine ⟨?_, ?_⟩
      · have e1 : valV r p k w 0 cl = shootV r p (valV r p (k + 1) w) k w 0 cl c := ew.trans a5
        apply Int.le_antisymm
        · rw [hv0, ← hsh c0 b4, ew]
          exact a1 c0 b4
        · rw [e1, hsh c a4, e0]
          exact Int.mul_le_mul_of_nonneg_left (b1 c a4) (by omega)
      · unfold choV
        rw [a6]
    · exfalso
      have h1 := a6 c0 b4
      rw [hsh c0 b4, ← hv0] at h1
      unfold waitV at h1
      rw [one_fol h, (ih _ (hn2 a4) k (w - 1) cl rfl hk (by omega) (by omega) hc).1] at h1
      have e1 : r.total * (r.total ^ (w - 1) * valV r p k 0 0 cl) = r.total ^ w * valV r p k 0 0 cl := by
        rw [← Int.mul_assoc, Int.mul_comm r.total, ← Int.pow_succ]
        congr 2
        omega
      have hp0 : 0 ≤ partsV r k w := Int.mul_nonneg (by have := hr.gsum; omega) (by have := tot_nonneg hr (4 - k + w); omega)
      have := Int.mul_nonneg hp.wait.1 hp0
      omega
theorem calm_tail {r : Rg} (h : OneSt r) (c : Int) : ∀ m : Nat, tailM r c (m + 1) 0 = (m + 1) * mis0 r c * r.total ^ m
  | 0 => by
    rw [tailM, one_fol h, show tailM r c 0 0 = 0 from rfl, Int.mul_zero, Int.add_zero]
    show mis0 r c * r.total ^ 0 = _
    rw [show ((0 : Nat) : Int) + 1 = 1 from rfl, Int.one_mul]
  | m + 1 => by
    rw [tailM, one_fol h, calm_tail h c m]
    show mis0 r c * r.total ^ (m + 1) + _ = _
    have e : r.total * (((m : Int) + 1) * mis0 r c * r.total ^ m) = ((m : Int) + 1) * mis0 r c * r.total ^ (m + 1) := by
      rw [Int.pow_succ]
      ac_rfl
    rw [e, ← Int.add_mul]
    congr 1
    rw [show ((m + 1 : Nat) : Int) + 1 = (m : Int) + 1 + 1 by omega, Int.add_mul ((m : Int) + 1) 1]
    omega
/-- One click for all shots is as good as any way. -/
theorem calm_one {r : Rg} {p : Ru} (h : OneSt r) (hp : p.Right) : ∀ (m : Nat) (cl : Int), m < 5 → (-r.clicks ≤ cl ∧ cl ≤ r.clicks) → ∃ c, (-r.clicks ≤ c ∧ c ≤ r.clicks) ∧ valV r p (4 - m) 0 0 cl = r.total ^ m * (p.click * max (c - cl) (cl - c) * r.group.sum + (m + 1) * (p.miss * mis0 r c)) := by
  have hr := h.right
  have hs : 0 < r.drifts.length := by rw [h.one]; omega
  have hpw := hp.waits
  have hup : ∀ (m : Nat) (cl c : Int), m < 5 → (-r.clicks ≤ cl ∧ cl ≤ r.clicks) → (-r.clicks ≤ c ∧ c ≤ r.clicks) → valV r p (4 - m) 0 0 cl ≤ r.total ^ m * (p.click * max (c - cl) (cl - c) * r.group.sum + (m + 1) * (p.miss * mis0 r c)) := fun m cl c hm hc hcc => by
    refine Int.le_trans (val_tail hr 0 (by omega) hp.miss.1 c hcc m 0 cl hm hs hc) (Int.le_of_eq ?_)
    rw [calm_tail h]
    unfold partsV
    rw [show 4 - (4 - m) + 0 = m by omega, Int.mul_add, Int.pow_zero, Int.mul_one]
    congr 1
    · ac_rfl
    · ac_rfl
  intro m
  induction m with
  | zero =>
    intro cl _ hc
    obtain ⟨_, _, b3⟩ := chV_spec r p (valV r p (4 + 1) 0) (valV r p 4 (0 - 1)) 4 0 0 cl hc
    obtain ⟨c0, b4, b5, _⟩ := b3.resolve_right (by omega)
    refine ⟨c0, b4, ?_⟩
    have e0 := valV_eq r p 4 0 0 cl (by omega) (by omega) hs hc
    rw [show 4 - 0 = 4 from rfl, e0]
    unfold choV
    rw [b5]
    unfold shootV
    rw [parts_div r hr, if_neg (by omega)]
    unfold partsV
    rw [show 4 - 4 + 0 = 0 from rfl, Int.pow_zero]
    simp only [Int.mul_one, Int.one_mul, Int.add_zero]
    rw [show ((0 : Nat) : Int) + 1 = 1 from rfl, Int.one_mul]
  | succ m ih =>
    intro cl hm hc
    have hk : 4 - (m + 1) < 4 := by omega
    have q1 : 4 - (m + 1) + 1 = 4 - m := by omega
    have q2 : 4 - (4 - (m + 1)) + 0 = m + 1 := by omega
    obtain ⟨_, _, b3⟩ := chV_spec r p (valV r p (4 - (m + 1) + 1) 0) (valV r p (4 - (m + 1)) (0 - 1)) (4 - (m + 1)) 0 0 cl hc
    obtain ⟨c1, b4, b5, _⟩ := b3.resolve_right (by omega)
    obtain ⟨c2, d4, d5⟩ := ih c1 (by omega) b4
    have e0 := valV_eq r p (4 - (m + 1)) 0 0 cl (by omega) (by omega) hs hc
    have e1 : valV r p (4 - (m + 1)) 0 0 cl = r.total ^ (m + 1) * (p.click * max (c1 - cl) (cl - c1) * r.group.sum + p.miss * mis0 r c1 + (p.click * max (c2 - c1) (c1 - c2) * r.group.sum + (m + 1) * (p.miss * mis0 r c2))) := by
      rw [e0]
      unfold choV
      rw [b5]
      unfold shootV
      rw [parts_div r hr, if_pos hk, one_fol h, q1, d5]
      unfold partsV
      rw [q2, Int.pow_succ]
      show _ + p.miss * mis0 r c1 * _ + _ = _
      generalize mis0 r c1 = z1
      generalize mis0 r c2 = z2
      generalize max (c1 - cl) (cl - c1) = y1
      generalize max (c2 - c1) (c1 - c2) = y2
      rw [Int.mul_add (r.total ^ m * r.total) (p.click * y1 * r.group.sum + p.miss * z1), Int.mul_add (r.total ^ m * r.total) (p.click * y1 * r.group.sum)]
      congr 1
      · congr 1
        · ac_rfl
        · ac_rfl
      · ac_rfl
    have hG : 0 ≤ r.group.sum := by have := hr.gsum; omega
    have hT := tot_nonneg hr (m + 1)
    have tri : p.click * max (c2 - cl) (cl - c2) * r.group.sum ≤ p.click * max (c1 - cl) (cl - c1) * r.group.sum + p.click * max (c2 - c1) (c1 - c2) * r.group.sum := by
      rw [← Int.add_mul, ← Int.mul_add]
      exact Int.mul_le_mul_of_nonneg_right (Int.mul_le_mul_of_nonneg_left (by omega) hp.click.1) hG
    have n1 : 0 ≤ p.click * max (c2 - c1) (c1 - c2) * r.group.sum := Int.mul_nonneg (Int.mul_nonneg hp.click.1 (by omega)) hG
    have hcast : ((m + 1 : Nat) : Int) = (m : Int) + 1 := by omega
    rcases Int.le_total (p.miss * mis0 r c1) (p.miss * mis0 r c2) with hle | hle
    · refine ⟨c1, b4, Int.le_antisymm (hup (m + 1) cl c1 hm hc b4) ?_⟩
      rw [e1]
      refine Int.mul_le_mul_of_nonneg_left ?_ (by omega)
      have := Int.mul_le_mul_of_nonneg_left hle (show 0 ≤ (m : Int) + 1 by omega)
      rw [hcast, Int.add_mul ((m : Int) + 1), Int.one_mul]
      omega
    · refine ⟨c2, d4, Int.le_antisymm (hup (m + 1) cl c2 hm hc d4) ?_⟩
      rw [e1]
      refine Int.mul_le_mul_of_nonneg_left ?_ (by omega)
      rw [hcast, Int.add_mul ((m : Int) + 1), Int.one_mul]
      omega
theorem calm_met {r : Rg} {p : Ru} (hl : r.Low) (h : OneSt r) (hp : p.Right) : ∃ c, (-r.clicks ≤ c ∧ c ≤ r.clicks) ∧ overB (clickV r p c) (planV r p) = false ∧ overB (planV r p) (clickV r p c) = false := by
  have hr := h.right
  have hw := hp.waits
  have hC := hr.clicks
  obtain ⟨c, h1, h2⟩ := calm_one h hp 4 0 (by omega) (by omega)
  refine ⟨c, h1, one_over hl hp c h1, ?_⟩
  have h3 := expV_bd hl c
  have h4 := planV_bd hl hp
  have hd := denP_pos hr p
  have h5 := den6 hl 5 (by omega)
  have := over_frac (x := (planV r p).1) (y := (planV r p).2) (u := (clickV r p c).1) (v := (clickV r p c).2) (by omega) (by unfold clickV; simp only; omega) (show 0 < denP r p by omega) (show 0 < r.total ^ 5 * r.group.sum by omega) (ratioV_mul (by omega)) (clickV_mul hl p c)
  refine this.trans ?_
  rw [decide_eq_false]
  · rfl
  · refine Int.not_lt.2 (Int.le_of_eq ?_)
    have e1 : costP r p = r.total ^ p.waits.toNat * (p.click * max c (-c) * (r.total ^ 5 * r.group.sum) + p.miss * (expP r c 5).1) := by
      unfold costP
      rw [h.one]
      simp only [sumR, Int.zero_add]
      rw [one_first h, (calm_val h hp _ 0 p.waits.toNat 0 rfl (by omega) (by omega) (by omega) (by omega)).1, show (0 : Nat) = 4 - 4 from rfl, h2, one_exp h c 5 (by omega), show max (c - 0) (0 - c) = max c (-c) by omega]
      have e2 : r.total ^ 5 = r.total ^ 4 * r.total := Int.pow_succ _ _
      rw [e2]
      simp only [Int.mul_add]
      congr 1
      · ac_rfl
      · rw [show ((4 : Nat) : Int) + 1 = ((5 : Nat) : Int) from rfl]
        ac_rfl
    rw [e1, denP_eq, Int.pow_add]
    ac_rfl
end Go.Proofs.Ytohlillcaadidaa

/- The engine, part B14: a subtree of orders walked once for all the ways that lead there. -/
namespace Go.Eng
open Go Go.RowKit

section
variable {P : Program} {ro : Cx} {n : Nat} {F : Fin} {w0 : World} {M : Nat → Prop} {k : List It} {ops : Array Oper} {e : Env} {H Hq : List Ck}
theorem qt_let {σ : Type} (t : OT) {t0 : OT} (env : σ → Env) (pc : σ → List Ck) (main : ∀ s, QT P ro n F w0 M k ops Hq t (env s) (pc s))
    (use : (∀ s e' H', Sub (env s) e' → Sp H' (pc s) → QT P ro n F w0 M k ops Hq t e' H') → QT P ro n F w0 M k ops Hq t0 e H) : QT P ro n F w0 M k ops Hq t0 e H :=
  use (fun s _ _ he hH => ⟨fun w hs a hf hd => (main s).h w (hs.sp (Sp.app hH Hq)) a (hf.sub he) hd⟩)
end
end Go.Eng

/- The engine, part B15: comparisons that are decided at once. -/
namespace Go.Eng
open Go Go.RowKit

section
variable {P : Program} {T : Tab} {ro : Cx} {n : Nat} {F : Fin} {w0 : World} {M : Nat → Prop} {k : List It} {ops : Array Oper} {rest : List Oper} {e : Env} {H Hq : List Ck}
theorem bin_lssT {a b : Int} (h : a < b) : binV .lss .i64 a b = some (.bool true) := by simp [binV]; omega
theorem ql_lssT (hT : T.Ok P) {d : Nat} {t t' : Nat} {x y : Operand} {a b : Int} {ty : TypeId} {pos : String} {af : Array Edge} (hx : opv e x = some (.int .i64 a)) (hy : opv e y = some (.int .i64 b)) (hd : Nat.blt d n = true) (hp : a < b)
    (h : QL P ro n F w0 M k ops rest ((d, .bool true) :: e) H) : QL P ro n F w0 M k ops (⟨some d, .binOp .lss t x y t', ty, pos, af, none⟩ :: rest) e H := ql_pure hT ((evp_arith hx hy).trans (bin_lssT hp)) hd h
theorem qf_lssT (hT : T.Ok P) {d : Nat} {t t' : Nat} {x y : Operand} {a b : Int} {ty : TypeId} {pos : String} {af : Array Edge} (hx : opv e x = some (.int .i64 a)) (hy : opv e y = some (.int .i64 b)) (hd : Nat.blt d n = true) (hp : a < b)
    (h : QF P ro n F w0 M k ops Hq rest ((d, .bool true) :: e) H) : QF P ro n F w0 M k ops Hq (⟨some d, .binOp .lss t x y t', ty, pos, af, none⟩ :: rest) e H := qf_pure hT ((evp_arith hx hy).trans (bin_lssT hp)) rfl hd h
theorem bin_lssF {a b : Int} (h : ¬ a < b) : binV .lss .i64 a b = some (.bool false) := by simp [binV]; omega
theorem ql_lssF (hT : T.Ok P) {d : Nat} {t t' : Nat} {x y : Operand} {a b : Int} {ty : TypeId} {pos : String} {af : Array Edge} (hx : opv e x = some (.int .i64 a)) (hy : opv e y = some (.int .i64 b)) (hd : Nat.blt d n = true) (hp : ¬ a < b)
    (h : QL P ro n F w0 M k ops rest ((d, .bool false) :: e) H) : QL P ro n F w0 M k ops (⟨some d, .binOp .lss t x y t', ty, pos, af, none⟩ :: rest) e H := ql_pure hT ((evp_arith hx hy).trans (bin_lssF hp)) hd h
theorem qf_lssF (hT : T.Ok P) {d : Nat} {t t' : Nat} {x y : Operand} {a b : Int} {ty : TypeId} {pos : String} {af : Array Edge} (hx : opv e x = some (.int .i64 a)) (hy : opv e y = some (.int .i64 b)) (hd : Nat.blt d n = true) (hp : ¬ a < b)
    (h : QF P ro n F w0 M k ops Hq rest ((d, .bool false) :: e) H) : QF P ro n F w0 M k ops Hq (⟨some d, .binOp .lss t x y t', ty, pos, af, none⟩ :: rest) e H := qf_pure hT ((evp_arith hx hy).trans (bin_lssF hp)) rfl hd h
theorem bin_leqT {a b : Int} (h : a ≤ b) : binV .leq .i64 a b = some (.bool true) := by simp [binV]; omega
theorem ql_leqT (hT : T.Ok P) {d : Nat} {t t' : Nat} {x y : Operand} {a b : Int} {ty : TypeId} {pos : String} {af : Array Edge} (hx : opv e x = some (.int .i64 a)) (hy : opv e y = some (.int .i64 b)) (hd : Nat.blt d n = true) (hp : a ≤ b)
    (h : QL P ro n F w0 M k ops rest ((d, .bool true) :: e) H) : QL P ro n F w0 M k ops (⟨some d, .binOp .leq t x y t', ty, pos, af, none⟩ :: rest) e H := ql_pure hT ((evp_arith hx hy).trans (bin_leqT hp)) hd h
theorem qf_leqT (hT : T.Ok P) {d : Nat} {t t' : Nat} {x y : Operand} {a b : Int} {ty : TypeId} {pos : String} {af : Array Edge} (hx : opv e x = some (.int .i64 a)) (hy : opv e y = some (.int .i64 b)) (hd : Nat.blt d n = true) (hp : a ≤ b)
    (h : QF P ro n F w0 M k ops Hq rest ((d, .bool true) :: e) H) : QF P ro n F w0 M k ops Hq (⟨some d, .binOp .leq t x y t', ty, pos, af, none⟩ :: rest) e H := qf_pure hT ((evp_arith hx hy).trans (bin_leqT hp)) rfl hd h
theorem bin_leqF {a b : Int} (h : ¬ a ≤ b) : binV .leq .i64 a b = some (.bool false) := by simp [binV]; omega
theorem ql_leqF (hT : T.Ok P) {d : Nat} {t t' : Nat} {x y : Operand} {a b : Int} {ty : TypeId} {pos : String} {af : Array Edge} (hx : opv e x = some (.int .i64 a)) (hy : opv e y = some (.int .i64 b)) (hd : Nat.blt d n = true) (hp : ¬ a ≤ b)
    (h : QL P ro n F w0 M k ops rest ((d, .bool false) :: e) H) : QL P ro n F w0 M k ops (⟨some d, .binOp .leq t x y t', ty, pos, af, none⟩ :: rest) e H := ql_pure hT ((evp_arith hx hy).trans (bin_leqF hp)) hd h
theorem qf_leqF (hT : T.Ok P) {d : Nat} {t t' : Nat} {x y : Operand} {a b : Int} {ty : TypeId} {pos : String} {af : Array Edge} (hx : opv e x = some (.int .i64 a)) (hy : opv e y = some (.int .i64 b)) (hd : Nat.blt d n = true) (hp : ¬ a ≤ b)
    (h : QF P ro n F w0 M k ops Hq rest ((d, .bool false) :: e) H) : QF P ro n F w0 M k ops Hq (⟨some d, .binOp .leq t x y t', ty, pos, af, none⟩ :: rest) e H := qf_pure hT ((evp_arith hx hy).trans (bin_leqF hp)) rfl hd h
theorem bin_gtrT {a b : Int} (h : b < a) : binV .gtr .i64 a b = some (.bool true) := by simp [binV]; omega
theorem ql_gtrT (hT : T.Ok P) {d : Nat} {t t' : Nat} {x y : Operand} {a b : Int} {ty : TypeId} {pos : String} {af : Array Edge} (hx : opv e x = some (.int .i64 a)) (hy : opv e y = some (.int .i64 b)) (hd : Nat.blt d n = true) (hp : b < a)
    (h : QL P ro n F w0 M k ops rest ((d, .bool true) :: e) H) : QL P ro n F w0 M k ops (⟨some d, .binOp .gtr t x y t', ty, pos, af, none⟩ :: rest) e H := ql_pure hT ((evp_arith hx hy).trans (bin_gtrT hp)) hd h
theorem qf_gtrT (hT : T.Ok P) {d : Nat} {t t' : Nat} {x y : Operand} {a b : Int} {ty : TypeId} {pos : String} {af : Array Edge} (hx : opv e x = some (.int .i64 a)) (hy : opv e y = some (.int .i64 b)) (hd : Nat.blt d n = true) (hp : b < a)
    (h : QF P ro n F w0 M k ops Hq rest ((d, .bool true) :: e) H) : QF P ro n F w0 M k ops Hq (⟨some d, .binOp .gtr t x y t', ty, pos, af, none⟩ :: rest) e H := qf_pure hT ((evp_arith hx hy).trans (bin_gtrT hp)) rfl hd h
theorem bin_gtrF {a b : Int} (h : ¬ b < a) : binV .gtr .i64 a b = some (.bool false) := by simp [binV]; omega
theorem ql_gtrF (hT : T.Ok P) {d : Nat} {t t' : Nat} {x y : Operand} {a b : Int} {ty : TypeId} {pos : String} {af : Array Edge} (hx : opv e x = some (.int .i64 a)) (hy : opv e y = some (.int .i64 b)) (hd : Nat.blt d n = true) (hp : ¬ b < a)
    (h : QL P ro n F w0 M k ops rest ((d, .bool false) :: e) H) : QL P ro n F w0 M k ops (⟨some d, .binOp .gtr t x y t', ty, pos, af, none⟩ :: rest) e H := ql_pure hT ((evp_arith hx hy).trans (bin_gtrF hp)) hd h
theorem qf_gtrF (hT : T.Ok P) {d : Nat} {t t' : Nat} {x y : Operand} {a b : Int} {ty : TypeId} {pos : String} {af : Array Edge} (hx : opv e x = some (.int .i64 a)) (hy : opv e y = some (.int .i64 b)) (hd : Nat.blt d n = true) (hp : ¬ b < a)
    (h : QF P ro n F w0 M k ops Hq rest ((d, .bool false) :: e) H) : QF P ro n F w0 M k ops Hq (⟨some d, .binOp .gtr t x y t', ty, pos, af, none⟩ :: rest) e H := qf_pure hT ((evp_arith hx hy).trans (bin_gtrF hp)) rfl hd h
theorem bin_geqT {a b : Int} (h : b ≤ a) : binV .geq .i64 a b = some (.bool true) := by simp [binV]; omega
theorem ql_geqT (hT : T.Ok P) {d : Nat} {t t' : Nat} {x y : Operand} {a b : Int} {ty : TypeId} {pos : String} {af : Array Edge} (hx : opv e x = some (.int .i64 a)) (hy : opv e y = some (.int .i64 b)) (hd : Nat.blt d n = true) (hp : b ≤ a)
    (h : QL P ro n F w0 M k ops rest ((d, .bool true) :: e) H) : QL P ro n F w0 M k ops (⟨some d, .binOp .geq t x y t', ty, pos, af, none⟩ :: rest) e H := ql_pure hT ((evp_arith hx hy).trans (bin_geqT hp)) hd h
theorem qf_geqT (hT : T.Ok P) {d : Nat} {t t' : Nat} {x y : Operand} {a b : Int} {ty : TypeId} {pos : String} {af : Array Edge} (hx : opv e x = some (.int .i64 a)) (hy : opv e y = some (.int .i64 b)) (hd : Nat.blt d n = true) (hp : b ≤ a)
    (h : QF P ro n F w0 M k ops Hq rest ((d, .bool true) :: e) H) : QF P ro n F w0 M k ops Hq (⟨some d, .binOp .geq t x y t', ty, pos, af, none⟩ :: rest) e H := qf_pure hT ((evp_arith hx hy).trans (bin_geqT hp)) rfl hd h
theorem bin_geqF {a b : Int} (h : ¬ b ≤ a) : binV .geq .i64 a b = some (.bool false) := by simp [binV]; omega
theorem ql_geqF (hT : T.Ok P) {d : Nat} {t t' : Nat} {x y : Operand} {a b : Int} {ty : TypeId} {pos : String} {af : Array Edge} (hx : opv e x = some (.int .i64 a)) (hy : opv e y = some (.int .i64 b)) (hd : Nat.blt d n = true) (hp : ¬ b ≤ a)
    (h : QL P ro n F w0 M k ops rest ((d, .bool false) :: e) H) : QL P ro n F w0 M k ops (⟨some d, .binOp .geq t x y t', ty, pos, af, none⟩ :: rest) e H := ql_pure hT ((evp_arith hx hy).trans (bin_geqF hp)) hd h
theorem qf_geqF (hT : T.Ok P) {d : Nat} {t t' : Nat} {x y : Operand} {a b : Int} {ty : TypeId} {pos : String} {af : Array Edge} (hx : opv e x = some (.int .i64 a)) (hy : opv e y = some (.int .i64 b)) (hd : Nat.blt d n = true) (hp : ¬ b ≤ a)
    (h : QF P ro n F w0 M k ops Hq rest ((d, .bool false) :: e) H) : QF P ro n F w0 M k ops Hq (⟨some d, .binOp .geq t x y t', ty, pos, af, none⟩ :: rest) e H := qf_pure hT ((evp_arith hx hy).trans (bin_geqF hp)) rfl hd h
theorem bin_eqlT {a b : Int} (h : a = b) : binV .eql .i64 a b = some (.bool true) := by simp [binV]; omega
theorem ql_eqlT (hT : T.Ok P) {d : Nat} {t t' : Nat} {x y : Operand} {a b : Int} {ty : TypeId} {pos : String} {af : Array Edge} (hx : opv e x = some (.int .i64 a)) (hy : opv e y = some (.int .i64 b)) (hd : Nat.blt d n = true) (hp : a = b)
    (h : QL P ro n F w0 M k ops rest ((d, .bool true) :: e) H) : QL P ro n F w0 M k ops (⟨some d, .binOp .eql t x y t', ty, pos, af, none⟩ :: rest) e H := ql_pure hT ((evp_arith hx hy).trans (bin_eqlT hp)) hd h
theorem qf_eqlT (hT : T.Ok P) {d : Nat} {t t' : Nat} {x y : Operand} {a b : Int} {ty : TypeId} {pos : String} {af : Array Edge} (hx : opv e x = some (.int .i64 a)) (hy : opv e y = some (.int .i64 b)) (hd : Nat.blt d n = true) (hp : a = b)
    (h : QF P ro n F w0 M k ops Hq rest ((d, .bool true) :: e) H) : QF P ro n F w0 M k ops Hq (⟨some d, .binOp .eql t x y t', ty, pos, af, none⟩ :: rest) e H := qf_pure hT ((evp_arith hx hy).trans (bin_eqlT hp)) rfl hd h
theorem bin_eqlF {a b : Int} (h : a ≠ b) : binV .eql .i64 a b = some (.bool false) := by simp [binV]; omega
theorem ql_eqlF (hT : T.Ok P) {d : Nat} {t t' : Nat} {x y : Operand} {a b : Int} {ty : TypeId} {pos : String} {af : Array Edge} (hx : opv e x = some (.int .i64 a)) (hy : opv e y = some (.int .i64 b)) (hd : Nat.blt d n = true) (hp : a ≠ b)
    (h : QL P ro n F w0 M k ops rest ((d, .bool false) :: e) H) : QL P ro n F w0 M k ops (⟨some d, .binOp .eql t x y t', ty, pos, af, none⟩ :: rest) e H := ql_pure hT ((evp_arith hx hy).trans (bin_eqlF hp)) hd h
theorem qf_eqlF (hT : T.Ok P) {d : Nat} {t t' : Nat} {x y : Operand} {a b : Int} {ty : TypeId} {pos : String} {af : Array Edge} (hx : opv e x = some (.int .i64 a)) (hy : opv e y = some (.int .i64 b)) (hd : Nat.blt d n = true) (hp : a ≠ b)
    (h : QF P ro n F w0 M k ops Hq rest ((d, .bool false) :: e) H) : QF P ro n F w0 M k ops Hq (⟨some d, .binOp .eql t x y t', ty, pos, af, none⟩ :: rest) e H := qf_pure hT ((evp_arith hx hy).trans (bin_eqlF hp)) rfl hd h
theorem bin_neqT {a b : Int} (h : a ≠ b) : binV .neq .i64 a b = some (.bool true) := by simp [binV]; omega
theorem ql_neqT (hT : T.Ok P) {d : Nat} {t t' : Nat} {x y : Operand} {a b : Int} {ty : TypeId} {pos : String} {af : Array Edge} (hx : opv e x = some (.int .i64 a)) (hy : opv e y = some (.int .i64 b)) (hd : Nat.blt d n = true) (hp : a ≠ b)
    (h : QL P ro n F w0 M k ops rest ((d, .bool true) :: e) H) : QL P ro n F w0 M k ops (⟨some d, .binOp .neq t x y t', ty, pos, af, none⟩ :: rest) e H := ql_pure hT ((evp_arith hx hy).trans (bin_neqT hp)) hd h
theorem qf_neqT (hT : T.Ok P) {d : Nat} {t t' : Nat} {x y : Operand} {a b : Int} {ty : TypeId} {pos : String} {af : Array Edge} (hx : opv e x = some (.int .i64 a)) (hy : opv e y = some (.int .i64 b)) (hd : Nat.blt d n = true) (hp : a ≠ b)
    (h : QF P ro n F w0 M k ops Hq rest ((d, .bool true) :: e) H) : QF P ro n F w0 M k ops Hq (⟨some d, .binOp .neq t x y t', ty, pos, af, none⟩ :: rest) e H := qf_pure hT ((evp_arith hx hy).trans (bin_neqT hp)) rfl hd h
theorem bin_neqF {a b : Int} (h : a = b) : binV .neq .i64 a b = some (.bool false) := by simp [binV]; omega
theorem ql_neqF (hT : T.Ok P) {d : Nat} {t t' : Nat} {x y : Operand} {a b : Int} {ty : TypeId} {pos : String} {af : Array Edge} (hx : opv e x = some (.int .i64 a)) (hy : opv e y = some (.int .i64 b)) (hd : Nat.blt d n = true) (hp : a = b)
    (h : QL P ro n F w0 M k ops rest ((d, .bool false) :: e) H) : QL P ro n F w0 M k ops (⟨some d, .binOp .neq t x y t', ty, pos, af, none⟩ :: rest) e H := ql_pure hT ((evp_arith hx hy).trans (bin_neqF hp)) hd h
theorem qf_neqF (hT : T.Ok P) {d : Nat} {t t' : Nat} {x y : Operand} {a b : Int} {ty : TypeId} {pos : String} {af : Array Edge} (hx : opv e x = some (.int .i64 a)) (hy : opv e y = some (.int .i64 b)) (hd : Nat.blt d n = true) (hp : a = b)
    (h : QF P ro n F w0 M k ops Hq rest ((d, .bool false) :: e) H) : QF P ro n F w0 M k ops Hq (⟨some d, .binOp .neq t x y t', ty, pos, af, none⟩ :: rest) e H := qf_pure hT ((evp_arith hx hy).trans (bin_neqF hp)) rfl hd h
end
end Go.Eng

/- Walks: the law's fractions. -/
namespace Go.Proofs.Ytohlillcaadidaa
open Go Go.Eng

theorem fair_ca (a : Int × Int) (m : Int) (w : World) (h1 : 1 ≤ a.2) (h2 : 0 ≤ a.1) (h3 : a.1 ≤ m * a.2) (h4 : a.2 ≤ 1000000000000) (hm : 0 ≤ m ∧ m ≤ 100) :
    Ca Try.prog 44 [rtV a, .int .i64 m] w fun v w' => v = .bool true ∧ Chg [] w w' := by
  obtain ⟨n, d⟩ := a
  simp only at h1 h2 h3 h4
  change Ca Try.prog _ [.agg #[.int .i64 n, .int .i64 d], .int .i64 m] w _
  have hb := mul_bd0 hm (show 0 ≤ d ∧ d ≤ 1000000000000 by omega)
  refine q_of (Sat.nil w M0) Try.func44 rfl (by simp [Try.ntmps44]) ?_
  (refine q_seq ?_; refine q_region ?_)
  refine ql_box rfl rfl (fun b2 => ?_)
  (refine ql_pure tabOk rfl rfl ?_; refine q_nil ?_; refine q_seq ?_; refine q_region ?_; refine ql_pure tabOk rfl rfl ?_; refine ql_loadB tabOk rfl rfl rfl (by repeat first | exact .head _ | refine .tail _ ?_) (by rfl) ?_; refine ql_geqT tabOk rfl rfl rfl (by omega) ?_; refine ql_pure tabOk rfl rfl ?_; refine ql_gyes rfl ?_; refine ql_pure tabOk rfl rfl ?_; refine ql_gyes rfl ?_; refine ql_loadB tabOk rfl rfl rfl (by repeat first | exact .head _ | refine .tail _ ?_) (by rfl) ?_; refine ql_gyes rfl ?_; refine ql_geqT tabOk rfl rfl rfl (by omega) ?_; (iterate 2 refine ql_pure tabOk rfl rfl ?_); refine ql_gyes rfl ?_; refine ql_pure tabOk rfl rfl ?_; refine ql_gyes rfl ?_; refine ql_loadB tabOk rfl rfl rfl (by repeat first | exact .head _ | refine .tail _ ?_) (by rfl) ?_; refine ql_gyes rfl ?_; refine ql_pure tabOk rfl rfl ?_; refine ql_gyes rfl ?_; refine ql_pure tabOk rfl rfl ?_; refine ql_gyes rfl ?_; refine ql_loadB tabOk rfl rfl rfl (by repeat first | exact .head _ | refine .tail _ ?_) (by rfl) ?_; refine ql_gyes rfl ?_; refine ql_ar tabOk rfl rfl rfl rfl (by omega) (by omega) ?_; refine ql_gyes rfl ?_; refine ql_leqT tabOk rfl rfl rfl (by omega) ?_; (iterate 2 refine ql_pure tabOk rfl rfl ?_); refine q_nil ?_; refine q_ret ?_)
  refine q_fin tabOk rfl (by repeat (first | exact RVs.nil | apply RVs.tmp rfl | apply RVs.cellA rfl rfl (by repeat first | exact .head _ | refine .tail _ ?_) (by rfl) | apply RVs.cell1 rfl rfl (by repeat first | exact .head _ | refine .tail _ ?_))) fun w hs => ?_
  exact ⟨rfl, hs.chg0⟩
theorem lessL_ca (p q : Int × Int) (w : World) (hp : Fine p) (hq : Fine q) :
    Ca Try.prog 62 [rtV p, rtV q] w fun v w' => v = .bool (lessB p q) ∧ Chg [] w w' := by
  refine q_of (Sat.nil w M0) Try.func62 rfl (by simp [Try.ntmps62]) ?_
  obtain ⟨p1, p2, p3, p4⟩ := hp
  obtain ⟨q1, q2, q3, q4⟩ := hq
  have h1 := mul_bd0 ⟨p1, p2⟩ (show 0 ≤ q.2 ∧ q.2 ≤ 1000000000 by omega)
  have h2 := mul_bd0 ⟨q1, q2⟩ (show 0 ≤ p.2 ∧ p.2 ≤ 1000000000 by omega)
  (refine q_seq ?_; refine q_region ?_)
  refine ql_box rfl rfl (fun b2 => ?_)
  refine ql_box rfl rfl (fun b3 => ?_)
  (refine ql_pure tabOk rfl rfl ?_; refine q_nil ?_; refine q_seq ?_; refine q_region ?_; refine ql_pure tabOk rfl rfl ?_; refine ql_loadB tabOk rfl rfl rfl (by repeat first | exact .head _ | refine .tail _ ?_) (by rfl) ?_; refine ql_pure tabOk rfl rfl ?_; refine ql_loadB tabOk rfl rfl rfl (by repeat first | exact .head _ | refine .tail _ ?_) (by rfl) ?_; refine ql_ar tabOk rfl rfl rfl rfl (by omega) (by omega) ?_; refine ql_pure tabOk rfl rfl ?_; refine ql_loadB tabOk rfl rfl rfl (by repeat first | exact .head _ | refine .tail _ ?_) (by rfl) ?_; refine ql_pure tabOk rfl rfl ?_; refine ql_loadB tabOk rfl rfl rfl (by repeat first | exact .head _ | refine .tail _ ?_) (by rfl) ?_; refine ql_ar tabOk rfl rfl rfl rfl (by omega) (by omega) ?_; (iterate 2 refine ql_pure tabOk rfl rfl ?_); refine q_nil ?_; refine q_ret ?_)
  refine q_fin tabOk rfl (by repeat (first | exact RVs.nil | apply RVs.tmp rfl | apply RVs.cellA rfl rfl (by repeat first | exact .head _ | refine .tail _ ?_) (by rfl) | apply RVs.cell1 rfl rfl (by repeat first | exact .head _ | refine .tail _ ?_))) fun w hs => ?_
  exact ⟨by simp [retV, lessB], hs.chg0⟩
set_option maxHeartbeats 2000000 in
theorem plus_ca (p q : Int × Int) (w : World) (hp : 0 ≤ p.1 ∧ p.1 ≤ 2147483648 ∧ 1 ≤ p.2 ∧ p.2 ≤ 1073741824) (hq : 0 ≤ q.1 ∧ q.1 ≤ 2147483648 ∧ 1 ≤ q.2 ∧ q.2 ≤ 1073741824) :
    Ca Try.prog 63 [rtV p, rtV q] w fun v w' => v = .tuple #[rtV (plusV p q), .bool true] ∧ Chg [] w w' := by
  obtain ⟨a, b⟩ := p
  obtain ⟨c, d⟩ := q
  simp only at hp hq
  change Ca Try.prog _ [.agg #[.int .i64 a, .int .i64 b], .agg #[.int .i64 c, .int .i64 d]] w _
  refine q_of (Sat.nil w M0) Try.func63 rfl (by simp [Try.ntmps63]) ?_
  have h1 := mul_bd0 (show 0 ≤ a ∧ a ≤ 2147483648 by omega) (show 0 ≤ d ∧ d ≤ 1073741824 by omega)
  have h2 := mul_bd0 (show 0 ≤ c ∧ c ≤ 2147483648 by omega) (show 0 ≤ b ∧ b ≤ 1073741824 by omega)
  have h3 := mul_bd0 (show 0 ≤ b ∧ b ≤ 1073741824 by omega) (show 0 ≤ d ∧ d ≤ 1073741824 by omega)
  have h4 : 0 < b * d := Int.mul_pos (by omega) (by omega)
  (refine q_seq ?_; refine q_region ?_)
  refine ql_box rfl rfl (fun b2 => ?_)
  refine ql_box rfl rfl (fun b3 => ?_)
  skip
  refine ql_alloc zero42 rfl (fun b4 => ?_)
  (refine ql_pure tabOk rfl rfl ?_; refine q_nil ?_; (iterate 2 refine q_seq ?_); refine q_region ?_; refine ql_pure tabOk rfl rfl ?_; refine ql_loadB tabOk rfl rfl rfl (by repeat first | exact .head _ | refine .tail _ ?_) (by rfl) ?_; refine ql_lssF tabOk rfl rfl rfl (by omega) ?_; refine ql_pure tabOk rfl rfl ?_; refine ql_gyes rfl ?_; refine ql_pure tabOk rfl rfl ?_; refine ql_gyes rfl ?_; refine ql_loadB tabOk rfl rfl rfl (by repeat first | exact .head _ | refine .tail _ ?_) (by rfl) ?_; refine ql_gyes rfl ?_; refine ql_lssF tabOk rfl rfl rfl (by omega) ?_; (iterate 2 refine ql_pure tabOk rfl rfl ?_); refine ql_gyes rfl ?_; refine ql_pure tabOk rfl rfl ?_; refine ql_gyes rfl ?_; refine ql_loadB tabOk rfl rfl rfl (by repeat first | exact .head _ | refine .tail _ ?_) (by rfl) ?_; refine ql_gyes rfl ?_; refine ql_gtrF tabOk rfl rfl rfl (by omega) ?_; (iterate 2 refine ql_pure tabOk rfl rfl ?_); refine ql_gyes rfl ?_; refine ql_pure tabOk rfl rfl ?_; refine ql_gyes rfl ?_; refine ql_loadB tabOk rfl rfl rfl (by repeat first | exact .head _ | refine .tail _ ?_) (by rfl) ?_; refine ql_gyes rfl ?_; refine ql_gtrF tabOk rfl rfl rfl (by omega) ?_; (iterate 2 refine ql_pure tabOk rfl rfl ?_); refine ql_gyes rfl ?_; refine ql_pure tabOk rfl rfl ?_; refine ql_gyes rfl ?_; refine ql_loadB tabOk rfl rfl rfl (by repeat first | exact .head _ | refine .tail _ ?_) (by rfl) ?_; refine ql_gyes rfl ?_; refine ql_lssF tabOk rfl rfl rfl (by omega) ?_; (iterate 2 refine ql_pure tabOk rfl rfl ?_); refine ql_gyes rfl ?_; refine ql_pure tabOk rfl rfl ?_; refine ql_gyes rfl ?_; refine ql_loadB tabOk rfl rfl rfl (by repeat first | exact .head _ | refine .tail _ ?_) (by rfl) ?_; refine ql_gyes rfl ?_; refine ql_lssF tabOk rfl rfl rfl (by omega) ?_; (iterate 2 refine ql_pure tabOk rfl rfl ?_); refine ql_gyes rfl ?_; refine ql_pure tabOk rfl rfl ?_; refine ql_gyes rfl ?_; refine ql_loadB tabOk rfl rfl rfl (by repeat first | exact .head _ | refine .tail _ ?_) (by rfl) ?_; refine ql_gyes rfl ?_; refine ql_gtrF tabOk rfl rfl rfl (by omega) ?_; (iterate 2 refine ql_pure tabOk rfl rfl ?_); refine ql_gyes rfl ?_; refine ql_pure tabOk rfl rfl ?_; refine ql_gyes rfl ?_; refine ql_loadB tabOk rfl rfl rfl (by repeat first | exact .head _ | refine .tail _ ?_) (by rfl) ?_; refine ql_gyes rfl ?_; refine ql_gtrF tabOk rfl rfl rfl (by omega) ?_; refine ql_pure tabOk rfl rfl ?_; refine q_nil ?_; refine q_cond_false rfl ?_; refine q_skip ?_; refine q_seq ?_)
  refine q_draw _ [] (Sp.refl _) (by kernel_rfl) (by kernel_rfl) ?_
  (refine qf_pure tabOk rfl rfl rfl ?_; refine qf_loadB tabOk rfl rfl rfl (by repeat first | exact .head _ | refine .tail _ ?_) (by rfl) ?_; refine qf_pure tabOk rfl rfl rfl ?_; refine qf_loadB tabOk rfl rfl rfl (by repeat first | exact .head _ | refine .tail _ ?_) (by rfl) ?_; refine qf_ar tabOk rfl rfl rfl rfl (by omega) (by omega) ?_; refine qf_pure tabOk rfl rfl rfl ?_; refine qf_loadB tabOk rfl rfl rfl (by repeat first | exact .head _ | refine .tail _ ?_) (by rfl) ?_; refine qf_pure tabOk rfl rfl rfl ?_; refine qf_loadB tabOk rfl rfl rfl (by repeat first | exact .head _ | refine .tail _ ?_) (by rfl) ?_; (iterate 2 refine qf_ar tabOk rfl rfl rfl rfl (by omega) (by omega) ?_); refine qf_pure tabOk rfl rfl rfl ?_; refine qf_loadB tabOk rfl rfl rfl (by repeat first | exact .head _ | refine .tail _ ?_) (by rfl) ?_; refine qf_pure tabOk rfl rfl rfl ?_; refine qf_loadB tabOk rfl rfl rfl (by repeat first | exact .head _ | refine .tail _ ?_) (by rfl) ?_; refine qf_ar tabOk rfl rfl rfl rfl (by omega) (by omega) ?_; (iterate 2 refine qf_pure tabOk rfl rfl rfl ?_); refine qf_nil ?_; refine q_seq ?_; refine q_region ?_; (iterate 4 refine ql_pure tabOk rfl rfl ?_); refine q_nil ?_; refine q_seq ?_; refine q_block ?_)
  obtain ⟨n, hn⟩ : ∃ n, n = a * d + c * b := ⟨_, rfl⟩
  obtain ⟨e, he⟩ : ∃ e, e = b * d := ⟨_, rfl⟩
  rw [← hn, ← he]
  refine q_loop (σ := Int × Int) (fun s => 0 ≤ s.1 ∧ 0 ≤ s.2 ∧ s.1 < 9223372036854775808 ∧ s.2 < 9223372036854775808 ∧ Int.gcd s.2 s.1 = Int.gcd n e) (fun s => s.1.toNat) (fun s => [(4, .pointer (some ⟨b4, 0, none⟩)), (6, .int .i64 n), (7, .int .i64 e), (8, .int .i64 s.1), (9, .int .i64 s.2)])
    (fun _ => [.pt b4 [.int .i64 0, .int .i64 0] 42]) (n, e) ⟨by omega, by omega, by omega, by omega, Int.gcd_comm _ _⟩ ⟨rfl, rfl, rfl, rfl, rfl, trivial⟩ (by repeat (first | exact Sp.nil | exact Sp.refl _ | refine Sp.cons (by repeat constructor) ?_)) ?_
  rintro ⟨x, y⟩ ⟨g1, g2, g3, g4, g5⟩ K hK
  simp only at g1 g2 g3 g4 g5
  ((iterate 2 refine q_seq ?_); refine q_region ?_; (iterate 2 refine ql_pure tabOk rfl rfl ?_); refine q_nil ?_)
  refine q_if rfl (fun hc => ?_) (fun hc => ?_)
  · have h6 := Int.emod_nonneg y (show x ≠ 0 by omega)
    have h7 := Int.emod_lt_of_pos y (show 0 < x by omega)
    (refine q_skip ?_; refine q_block ?_; refine q_region ?_; (iterate 2 refine ql_pure tabOk rfl rfl ?_); refine ql_remN rfl rfl rfl (by omega) (by omega) ?_; (iterate 3 refine ql_pure tabOk rfl rfl ?_); refine q_nil ?_; refine q_blk ?_)
    exact hK (y % x, x) _ _ ⟨h6, g1, by simp only; omega, g3, (gcd_step y x).trans g5⟩ (by simp only; omega) ⟨rfl, rfl, rfl, rfl, rfl, trivial⟩ (by repeat (first | exact Sp.nil | exact Sp.refl _ | refine Sp.cons (by repeat constructor) ?_))
  · obtain rfl : x = 0 := by omega
    have h6 : (Int.gcd n e : Int) = y := by
      rw [← g5]
      simp
      omega
    have h7 : 0 < y := by
      have : Int.gcd n e ≠ 0 := by
        intro h
        have := Int.gcd_eq_zero_iff.1 h
        omega
      omega
    (refine q_exit _ rfl ?_; refine q_seq ?_)
    refine q_draw _ [.pt b4 _ _] (Sp.cons (by repeat constructor) (Sp.refl _)) (by kernel_rfl) (by kernel_rfl) ?_
    ((iterate 2 refine qf_pure tabOk rfl rfl rfl ?_); refine qf_quoN rfl rfl rfl (by omega) (by omega) (by omega) ?_; (iterate 2 refine qf_pure tabOk rfl rfl rfl ?_); refine qf_quoN rfl rfl rfl (by omega) (by omega) (by omega) ?_)
    refine qf_mk #[.int .i64 (n / y), .int .i64 (e / y)] rfl (by kernel_rfl) rfl ?_
    (refine qf_setA tabOk rfl rfl rfl rfl rfl (by repeat constructor) rfl ?_; refine qf_pure tabOk rfl rfl rfl ?_; refine qf_nil ?_; refine q_ret ?_)
    refine q_fin tabOk rfl (by repeat (first | exact RVs.nil | apply RVs.tmp rfl | apply RVs.cellA rfl rfl (by repeat first | exact .head _ | refine .tail _ ?_) (by rfl) | apply RVs.cell1 rfl rfl (by repeat first | exact .head _ | refine .tail _ ?_))) fun w hs => ?_
    refine ⟨?_, hs.chg0⟩
    show Value.tuple #[.agg #[.int .i64 (n / y), .int .i64 (e / y)], .bool true] = _
    unfold plusV ratioV
    simp only
    rw [← hn, ← he, h6]
    rfl
set_option maxHeartbeats 4000000 in
theorem over_ca (p q : Int × Int) (w : World) (hp : 0 ≤ p.1 ∧ p.1 < 4611686018427387904 ∧ 1 ≤ p.2 ∧ p.2 < 4611686018427387904) (hq : 0 ≤ q.1 ∧ q.1 < 4611686018427387904 ∧ 1 ≤ q.2 ∧ q.2 < 4611686018427387904) :
    Ca Try.prog 42 [rtV p, rtV q] w fun v w' => v = .bool (overB p q) ∧ Chg [] w w' := by
  obtain ⟨a, b⟩ := p
  obtain ⟨c, d⟩ := q
  simp only at hp hq
  change Ca Try.prog _ [.agg #[.int .i64 a, .int .i64 b], .agg #[.int .i64 c, .int .i64 d]] w _
  obtain ⟨ov, hov⟩ : ∃ ov, ov = overB (a, b) (c, d) := ⟨_, rfl⟩
  have hT : a * d < c * b → ov = true := fun h => by rw [hov, overB]; simp only; rw [decide_eq_true h]; rfl
  have hF : ¬ a * d < c * b → ov = false := fun h => by rw [hov, overB]; simp only; rw [decide_eq_false h]; rfl
  rw [← hov]
  refine q_of (Sat.nil w M0) Try.func42 rfl (by simp [Try.ntmps42]) ?_
  have q1 := Int.ediv_nonneg hp.1 (show 0 ≤ b by omega)
  have q2 := Int.ediv_nonneg hq.1 (show 0 ≤ d by omega)
  have q3 := Int.ediv_le_self b hp.1
  have q4 := Int.ediv_le_self d hq.1
  have m1 := Int.emod_nonneg a (show b ≠ 0 by omega)
  have m2 := Int.emod_lt_of_pos a (show 0 < b by omega)
  have m3 := Int.emod_nonneg c (show d ≠ 0 by omega)
  have m4 := Int.emod_lt_of_pos c (show 0 < d by omega)
  (refine q_seq ?_; refine q_region ?_)
  refine ql_box rfl rfl (fun b2 => ?_)
  refine ql_box rfl rfl (fun b3 => ?_)
  (refine ql_pure tabOk rfl rfl ?_; refine q_nil ?_; (iterate 2 refine q_seq ?_))
  refine q_draw _ [] (Sp.refl _) (by kernel_rfl) (by kernel_rfl) ?_
  (refine qf_pure tabOk rfl rfl rfl ?_; refine qf_loadB tabOk rfl rfl rfl (by repeat first | exact .head _ | refine .tail _ ?_) (by rfl) ?_; refine qf_pure tabOk rfl rfl rfl ?_; refine qf_loadB tabOk rfl rfl rfl (by repeat first | exact .head _ | refine .tail _ ?_) (by rfl) ?_; refine qf_quoN rfl rfl rfl (by omega) (by omega) (by omega) ?_; refine qf_pure tabOk rfl rfl rfl ?_; refine qf_loadB tabOk rfl rfl rfl (by repeat first | exact .head _ | refine .tail _ ?_) (by rfl) ?_; refine qf_pure tabOk rfl rfl rfl ?_; refine qf_loadB tabOk rfl rfl rfl (by repeat first | exact .head _ | refine .tail _ ?_) (by rfl) ?_; refine qf_quoN rfl rfl rfl (by omega) (by omega) (by omega) ?_; refine qf_pure tabOk rfl rfl rfl ?_; refine qf_nil ?_)
  refine q_ifn rfl (fun hc => ?_) (fun hc => ?_)
  · have hc' : a / b ≠ c / d := by omega
    have hqn := quo_ne (show 0 < b by omega) (show 0 < d by omega) hc'
    (refine q_seq ?_)
    refine q_draw _ [] (Sp.refl _) (by kernel_rfl) (by kernel_rfl) ?_
    (refine qf_pure tabOk rfl rfl rfl ?_; refine qf_loadB tabOk rfl rfl rfl (by repeat first | exact .head _ | refine .tail _ ?_) (by rfl) ?_; refine qf_pure tabOk rfl rfl rfl ?_; refine qf_loadB tabOk rfl rfl rfl (by repeat first | exact .head _ | refine .tail _ ?_) (by rfl) ?_; refine qf_quoN rfl rfl rfl (by omega) (by omega) (by omega) ?_; refine qf_pure tabOk rfl rfl rfl ?_; refine qf_loadB tabOk rfl rfl rfl (by repeat first | exact .head _ | refine .tail _ ?_) (by rfl) ?_; refine qf_pure tabOk rfl rfl rfl ?_; refine qf_loadB tabOk rfl rfl rfl (by repeat first | exact .head _ | refine .tail _ ?_) (by rfl) ?_; refine qf_quoN rfl rfl rfl (by omega) (by omega) (by omega) ?_; (iterate 2 refine qf_pure tabOk rfl rfl rfl ?_); refine qf_nil ?_; refine q_ret ?_)
    refine q_fin tabOk rfl (by repeat (first | exact RVs.nil | apply RVs.tmp rfl | apply RVs.cellA rfl rfl (by repeat first | exact .head _ | refine .tail _ ?_) (by rfl) | apply RVs.cell1 rfl rfl (by repeat first | exact .head _ | refine .tail _ ?_))) fun w hs => ?_
    refine ⟨?_, hs.chg0⟩
    show Value.bool (decide (a / b < c / d)) = _
    by_cases hlt : a / b < c / d
    · rw [decide_eq_true hlt, hT (hqn.1 hlt)]
    · rw [decide_eq_false hlt, hF (fun hh => hlt (hqn.2 hh))]
  have hc' : a / b = c / d := by omega
  have hqe := quo_eq (b := c) (e := d) hc'
  (refine q_skip ?_; refine q_seq ?_)
  refine q_draw _ [] (Sp.refl _) (by kernel_rfl) (by kernel_rfl) ?_
  (refine qf_pure tabOk rfl rfl rfl ?_; refine qf_loadB tabOk rfl rfl rfl (by repeat first | exact .head _ | refine .tail _ ?_) (by rfl) ?_; refine qf_pure tabOk rfl rfl rfl ?_; refine qf_loadB tabOk rfl rfl rfl (by repeat first | exact .head _ | refine .tail _ ?_) (by rfl) ?_; refine qf_remN rfl rfl rfl (by omega) (by omega) ?_; refine qf_pure tabOk rfl rfl rfl ?_; refine qf_loadB tabOk rfl rfl rfl (by repeat first | exact .head _ | refine .tail _ ?_) (by rfl) ?_; refine qf_pure tabOk rfl rfl rfl ?_; refine qf_loadB tabOk rfl rfl rfl (by repeat first | exact .head _ | refine .tail _ ?_) (by rfl) ?_; refine qf_pure tabOk rfl rfl rfl ?_; refine qf_loadB tabOk rfl rfl rfl (by repeat first | exact .head _ | refine .tail _ ?_) (by rfl) ?_; refine qf_remN rfl rfl rfl (by omega) (by omega) ?_; refine qf_pure tabOk rfl rfl rfl ?_; refine qf_loadB tabOk rfl rfl rfl (by repeat first | exact .head _ | refine .tail _ ?_) (by rfl) ?_; (iterate 4 refine qf_pure tabOk rfl rfl rfl ?_); refine qf_nil ?_; refine q_seq ?_; refine q_block ?_)
  refine q_loop (σ := Int × Int × Int × Int) (fun s => 0 ≤ s.1 ∧ s.1 < s.2.1 ∧ s.2.1 < 4611686018427387904 ∧ 0 ≤ s.2.2.1 ∧ s.2.2.1 < s.2.2.2 ∧ s.2.2.2 < 4611686018427387904 ∧ (a * d < c * b ↔ s.1 * s.2.2.2 < s.2.2.1 * s.2.1)) (fun s => s.1.toNat) (fun s => [(5, .int .i64 s.1), (6, .int .i64 s.2.1), (7, .int .i64 s.2.2.1), (8, .int .i64 s.2.2.2)])
    (fun _ => []) (a % b, b, c % d, d) ⟨m1, m2, by simp only; omega, m3, m4, by simp only; omega, hqe⟩ ⟨rfl, rfl, rfl, rfl, trivial⟩ (by repeat (first | exact Sp.nil | exact Sp.refl _ | refine Sp.cons (by repeat constructor) ?_)) ?_
  rintro ⟨x, y, u, v⟩ ⟨g1, g2, g3, g4, g5, g6, g7⟩ K hK
  simp only at g1 g2 g3 g4 g5 g6 g7
  dsimp only
  clear q1 q2 q3 q4 m1 m2 m3 m4 hqe hc' hc
  by_cases hx : x = 0 ∨ u = 0
  · have hz := over_0 g1 (show 0 < y by omega) g4 (show 0 < v by omega) hx
    rcases Int.lt_or_eq_of_le g1 with hx0 | rfl
    · obtain rfl : u = 0 := by omega
      ((iterate 2 refine q_seq ?_); refine q_region ?_; refine ql_pure tabOk rfl rfl ?_; refine ql_gtrT tabOk rfl rfl rfl (by omega) ?_; refine ql_pure tabOk rfl rfl ?_; refine ql_gyes rfl ?_; refine ql_pure tabOk rfl rfl ?_; refine ql_gyes rfl ?_; refine ql_gtrF tabOk rfl rfl rfl (by omega) ?_; refine ql_pure tabOk rfl rfl ?_; refine q_nil ?_; refine q_cond_false rfl ?_; refine q_exit _ rfl ?_; refine q_seq ?_; refine q_region ?_; refine ql_pure tabOk rfl rfl ?_; refine ql_eqlF tabOk rfl rfl rfl (by omega) ?_; refine ql_pure tabOk rfl rfl ?_; (iterate 2 refine ql_gno rfl rfl rfl ?_); (iterate 2 refine ql_pure tabOk rfl rfl ?_); refine q_nil ?_; refine q_ret ?_)
      refine q_fin tabOk rfl (by repeat (first | exact RVs.nil | apply RVs.tmp rfl | apply RVs.cellA rfl rfl (by repeat first | exact .head _ | refine .tail _ ?_) (by rfl) | apply RVs.cell1 rfl rfl (by repeat first | exact .head _ | refine .tail _ ?_))) fun w hs => ?_
      refine ⟨?_, hs.chg0⟩
      rw [hF (fun h => by have := hz.1 (g7.1 h); omega)]
      rfl
    · ((iterate 2 refine q_seq ?_); refine q_region ?_; refine ql_pure tabOk rfl rfl ?_; refine ql_gtrF tabOk rfl rfl rfl (by omega) ?_; refine ql_pure tabOk rfl rfl ?_; (iterate 2 refine ql_gno rfl rfl rfl ?_); refine ql_pure tabOk rfl rfl ?_; refine q_nil ?_; refine q_cond_false rfl ?_; refine q_exit _ rfl ?_; refine q_seq ?_; refine q_region ?_; refine ql_pure tabOk rfl rfl ?_; refine ql_eqlT tabOk rfl rfl rfl (by omega) ?_; refine ql_pure tabOk rfl rfl ?_; refine ql_gyes rfl ?_; refine ql_pure tabOk rfl rfl ?_; refine ql_gyes rfl ?_; (iterate 3 refine ql_pure tabOk rfl rfl ?_); refine q_nil ?_; refine q_ret ?_)
      refine q_fin tabOk rfl (by repeat (first | exact RVs.nil | apply RVs.tmp rfl | apply RVs.cellA rfl rfl (by repeat first | exact .head _ | refine .tail _ ?_) (by rfl) | apply RVs.cell1 rfl rfl (by repeat first | exact .head _ | refine .tail _ ?_))) fun w hs => ?_
      refine ⟨?_, hs.chg0⟩
      show Value.bool (decide (0 < u)) = _
      by_cases hu : 0 < u
      · rw [decide_eq_true hu, hT (g7.2 (hz.2 ⟨rfl, hu⟩))]
      · rw [decide_eq_false hu, hF (fun h => hu (hz.1 (g7.1 h)).2)]
  have hx0 : 0 < x := by omega
  have hu0 : 0 < u := by omega
  have q1 := Int.ediv_nonneg (show 0 ≤ y by omega) (show 0 ≤ x by omega)
  have q2 := Int.ediv_nonneg (show 0 ≤ v by omega) (show 0 ≤ u by omega)
  have q3 := Int.ediv_le_self x (show 0 ≤ y by omega)
  have q4 := Int.ediv_le_self u (show 0 ≤ v by omega)
  have m1 := Int.emod_nonneg y (show x ≠ 0 by omega)
  have m2 := Int.emod_lt_of_pos y hx0
  have m3 := Int.emod_nonneg v (show u ≠ 0 by omega)
  have m4 := Int.emod_lt_of_pos v hu0
  ((iterate 2 refine q_seq ?_); refine q_region ?_; refine ql_pure tabOk rfl rfl ?_; refine ql_gtrT tabOk rfl rfl rfl (by omega) ?_; refine ql_pure tabOk rfl rfl ?_; refine ql_gyes rfl ?_; refine ql_pure tabOk rfl rfl ?_; refine ql_gyes rfl ?_; refine ql_gtrT tabOk rfl rfl rfl (by omega) ?_; refine ql_pure tabOk rfl rfl ?_; refine q_nil ?_; refine q_cond_true rfl ?_; refine q_skip ?_; refine q_block ?_; (iterate 2 refine q_seq ?_))
  refine q_draw _ [] (Sp.refl _) (by kernel_rfl) (by kernel_rfl) ?_
  ((iterate 2 refine qf_pure tabOk rfl rfl rfl ?_); refine qf_quoN rfl rfl rfl (by omega) (by omega) (by omega) ?_; (iterate 2 refine qf_pure tabOk rfl rfl rfl ?_); refine qf_quoN rfl rfl rfl (by omega) (by omega) (by omega) ?_; refine qf_pure tabOk rfl rfl rfl ?_; refine qf_nil ?_)
  refine q_ifn rfl (fun hc => ?_) (fun hc => ?_)
  · have hne : v / u ≠ y / x := by omega
    have hqn := quo_ne (a := v) (b := y) hu0 hx0 hne
    rw [Int.mul_comm v, Int.mul_comm y] at hqn
    (refine q_seq ?_)
    refine q_draw _ [] (Sp.refl _) (by kernel_rfl) (by kernel_rfl) ?_
    ((iterate 2 refine qf_pure tabOk rfl rfl rfl ?_); refine qf_quoN rfl rfl rfl (by omega) (by omega) (by omega) ?_; (iterate 2 refine qf_pure tabOk rfl rfl rfl ?_); refine qf_quoN rfl rfl rfl (by omega) (by omega) (by omega) ?_; (iterate 2 refine qf_pure tabOk rfl rfl rfl ?_); refine qf_nil ?_; refine q_ret ?_)
    refine q_fin tabOk rfl (by repeat (first | exact RVs.nil | apply RVs.tmp rfl | apply RVs.cellA rfl rfl (by repeat first | exact .head _ | refine .tail _ ?_) (by rfl) | apply RVs.cell1 rfl rfl (by repeat first | exact .head _ | refine .tail _ ?_))) fun w hs => ?_
    refine ⟨?_, hs.chg0⟩
    show Value.bool (decide (v / u < y / x)) = _
    by_cases hlt : v / u < y / x
    · rw [decide_eq_true hlt, hT (g7.2 (hqn.1 hlt))]
    · rw [decide_eq_false hlt, hF (fun hh => hlt (hqn.2 (g7.1 hh)))]
  have heq : v / u = y / x := by omega
  have hqe := quo_eq (a := v) (b := y) (d := u) (e := x) heq
  rw [Int.mul_comm v, Int.mul_comm y] at hqe
  have g8 := g7.trans hqe
  clear hc
  (refine q_skip ?_; refine q_seq ?_)
  refine q_draw _ [] (Sp.refl _) (by kernel_rfl) (by kernel_rfl) ?_
  ((iterate 2 refine qf_pure tabOk rfl rfl rfl ?_); refine qf_remN rfl rfl rfl (by omega) (by omega) ?_; (iterate 3 refine qf_pure tabOk rfl rfl rfl ?_); refine qf_remN rfl rfl rfl (by omega) (by omega) ?_; (iterate 5 refine qf_pure tabOk rfl rfl rfl ?_); refine qf_nil ?_; (iterate 2 refine q_seq ?_); refine q_region ?_; (iterate 3 refine ql_pure tabOk rfl rfl ?_))
  obtain ⟨x', hx'⟩ : ∃ z, z = y % x := ⟨_, rfl⟩
  obtain ⟨u', hu'⟩ : ∃ z, z = v % u := ⟨_, rfl⟩
  rw [← hx', ← hu'] at g8 ⊢
  rw [← hx'] at m1 m2
  rw [← hu'] at m3 m4
  by_cases hz' : x' = 0 ∨ u' = 0
  · have hz := over_0 m3 hu0 m1 hx0 (Or.comm.1 hz')
    rcases Int.lt_or_eq_of_le m1 with hx1 | rfl
    · obtain rfl : u' = 0 := by omega
      rw [decide_eq_false (show ¬ x' = 0 by omega)]
      (refine ql_gyes rfl ?_; refine ql_pure tabOk rfl rfl ?_; refine ql_gyes rfl ?_; refine ql_eqlT tabOk rfl rfl rfl (by omega) ?_; refine ql_pure tabOk rfl rfl ?_; refine q_nil ?_; refine q_cond_true rfl ?_; refine q_seq ?_; refine q_region ?_; refine ql_pure tabOk rfl rfl ?_; refine ql_neqT tabOk rfl rfl rfl (by omega) ?_; refine ql_pure tabOk rfl rfl ?_; refine ql_gyes rfl ?_; refine ql_pure tabOk rfl rfl ?_; refine ql_gyes rfl ?_; refine ql_eqlT tabOk rfl rfl rfl (by omega) ?_; (iterate 2 refine ql_pure tabOk rfl rfl ?_); refine q_nil ?_; refine q_ret ?_)
      refine q_fin tabOk rfl (by repeat (first | exact RVs.nil | apply RVs.tmp rfl | apply RVs.cellA rfl rfl (by repeat first | exact .head _ | refine .tail _ ?_) (by rfl) | apply RVs.cell1 rfl rfl (by repeat first | exact .head _ | refine .tail _ ?_))) fun w hs => ?_
      refine ⟨?_, hs.chg0⟩
      rw [hT (g8.2 (hz.2 ⟨rfl, hx1⟩))]
      rfl
    · rw [decide_eq_true (rfl : (0 : Int) = 0)]
      ((iterate 2 refine ql_gno rfl rfl rfl ?_); refine ql_pure tabOk rfl rfl ?_; refine q_nil ?_; refine q_cond_true rfl ?_; refine q_seq ?_; refine q_region ?_; refine ql_pure tabOk rfl rfl ?_; refine ql_neqF tabOk rfl rfl rfl (by omega) ?_; refine ql_pure tabOk rfl rfl ?_; (iterate 2 refine ql_gno rfl rfl rfl ?_); (iterate 2 refine ql_pure tabOk rfl rfl ?_); refine q_nil ?_; refine q_ret ?_)
      refine q_fin tabOk rfl (by repeat (first | exact RVs.nil | apply RVs.tmp rfl | apply RVs.cellA rfl rfl (by repeat first | exact .head _ | refine .tail _ ?_) (by rfl) | apply RVs.cell1 rfl rfl (by repeat first | exact .head _ | refine .tail _ ?_))) fun w hs => ?_
      refine ⟨?_, hs.chg0⟩
      rw [hF (fun h => by have := hz.1 (g8.1 h); omega)]
      rfl
  have hx1 : 0 < x' := by omega
  have hu1 : 0 < u' := by omega
  have p1 := Int.ediv_nonneg (show 0 ≤ x by omega) m1
  have p2 := Int.ediv_nonneg (show 0 ≤ u by omega) m3
  have p3 := Int.ediv_le_self x' (show 0 ≤ x by omega)
  have p4 := Int.ediv_le_self u' (show 0 ≤ u by omega)
  have n1 := Int.emod_nonneg x (show x' ≠ 0 by omega)
  have n2 := Int.emod_lt_of_pos x hx1
  have n3 := Int.emod_nonneg u (show u' ≠ 0 by omega)
  have n4 := Int.emod_lt_of_pos u hu1
  rw [decide_eq_false (show ¬ x' = 0 by omega)]
  (refine ql_gyes rfl ?_; refine ql_pure tabOk rfl rfl ?_; refine ql_gyes rfl ?_; refine ql_eqlF tabOk rfl rfl rfl (by omega) ?_; refine ql_pure tabOk rfl rfl ?_; refine q_nil ?_; refine q_cond_false rfl ?_; refine q_skip ?_; (iterate 2 refine q_seq ?_))
  refine q_draw _ [] (Sp.refl _) (by kernel_rfl) (by kernel_rfl) ?_
  ((iterate 2 refine qf_pure tabOk rfl rfl rfl ?_); refine qf_quoN rfl rfl rfl (by omega) (by omega) (by omega) ?_; (iterate 2 refine qf_pure tabOk rfl rfl rfl ?_); refine qf_quoN rfl rfl rfl (by omega) (by omega) (by omega) ?_; refine qf_pure tabOk rfl rfl rfl ?_; refine qf_nil ?_)
  refine q_ifn rfl (fun hc => ?_) (fun hc => ?_)
  · have hne : x / x' ≠ u / u' := by omega
    have hqn := quo_ne (a := x) (b := u) hx1 hu1 hne
    rw [Int.mul_comm x, Int.mul_comm u] at hqn
    (refine q_seq ?_)
    refine q_draw _ [] (Sp.refl _) (by kernel_rfl) (by kernel_rfl) ?_
    ((iterate 2 refine qf_pure tabOk rfl rfl rfl ?_); refine qf_quoN rfl rfl rfl (by omega) (by omega) (by omega) ?_; (iterate 2 refine qf_pure tabOk rfl rfl rfl ?_); refine qf_quoN rfl rfl rfl (by omega) (by omega) (by omega) ?_; (iterate 2 refine qf_pure tabOk rfl rfl rfl ?_); refine qf_nil ?_; refine q_ret ?_)
    refine q_fin tabOk rfl (by repeat (first | exact RVs.nil | apply RVs.tmp rfl | apply RVs.cellA rfl rfl (by repeat first | exact .head _ | refine .tail _ ?_) (by rfl) | apply RVs.cell1 rfl rfl (by repeat first | exact .head _ | refine .tail _ ?_))) fun w hs => ?_
    refine ⟨?_, hs.chg0⟩
    show Value.bool (decide (x / x' < u / u')) = _
    by_cases hlt : x / x' < u / u'
    · rw [decide_eq_true hlt, hT (g8.2 (hqn.1 hlt))]
    · rw [decide_eq_false hlt, hF (fun hh => hlt (hqn.2 (g8.1 hh)))]
  have heq2 : x / x' = u / u' := by omega
  have hqe2 := quo_eq (a := x) (b := u) (d := x') (e := u') heq2
  rw [Int.mul_comm x, Int.mul_comm u] at hqe2
  (refine q_skip ?_)
  refine q_draw _ [] (Sp.refl _) (by kernel_rfl) (by kernel_rfl) ?_
  ((iterate 2 refine qf_pure tabOk rfl rfl rfl ?_); refine qf_remN rfl rfl rfl (by omega) (by omega) ?_; (iterate 3 refine qf_pure tabOk rfl rfl rfl ?_); refine qf_remN rfl rfl rfl (by omega) (by omega) ?_; (iterate 5 refine qf_pure tabOk rfl rfl rfl ?_); refine qf_nil ?_; refine q_blk ?_)
  exact hK (x % x', x', u % u', u') _ _ ⟨n1, n2, by simp only; omega, n3, n4, by simp only; omega, g8.trans hqe2⟩ (by simp only; omega) ⟨rfl, rfl, rfl, rfl, trivial⟩ (by repeat (first | exact Sp.nil | exact Sp.refl _ | refine Sp.cons (by repeat constructor) ?_))
end Go.Proofs.Ytohlillcaadidaa

/- Walks: lists of spans of our own; ranges of our own; rules and winds that are dealt; what impacts hit. -/
namespace Go.Proofs.Ytohlillcaadidaa
open Go Go.Eng

def spC (l : List (Int × Int)) : List Value := l.flatMap fun x => [.int .i64 x.1, .int .i64 x.2]
theorem cells_sp (l : List (Int × Int)) : cellsOf (l.map rtV) = spC l := by
  induction l with
  | nil => rfl
  | cons x l ih => simp only [List.map_cons, cellsOf, spC, List.flatMap_cons] at ih ⊢; rw [ih]; rfl
theorem Sat.rdSp {w0 w : World} {M : Nat → Prop} {H : List Ck} {v : Value} {l : List (Int × Int)} {t k : Nat} (h : Sat w0 M H w) (hc : Ck.ow v t 2 k (spC l) ∈ H) (hk : k = l.length) : RdS w 0 w.heap.size v l := by
  refine RdE.ofOwn (base := 0) (t := t) ?_ (fun e he => by obtain ⟨x, _, rfl⟩ := List.mem_map.1 he; rfl)
  rw [cells_sp, List.length_map, ← hk]
  exact h.all _ hc
theorem slSP : SlT Try.prog 61 64 2 16 (.agg #[.int .i64 0, .int .i64 0]) := ⟨by kernel_rfl, by kernel_rfl, by kernel_rfl, by decide⟩
theorem Blk.rdSp {w : World} {b : Nat} {x y : Int} {t : TypeId} (h : Blk w b [.int .i64 x, .int .i64 y] t) : Rd w b (b + 1) (.slice (some ⟨b, 0, none⟩) 1 1) 2 1 [.int .i64 x, .int .i64 y] :=
  ⟨rfl, .inr ⟨b, 0, 1, rfl, fun _ => ⟨Nat.le_refl _, Nat.lt_succ_self _, h.lt⟩, fun j _ => by rw [Blk.cell h]; simp⟩⟩

/-- The form of a range's cells. -/
def FormR (cs : List Value) (r : Rg) : Prop := ∃ ag cg ad cd af cf an cn, cs = [.int .i64 r.radius, .int .i64 r.unit, .int .i64 r.clicks, .int .i64 r.total, .slice ag r.group.length cg, .slice ad r.drifts.length cd, .slice af r.first.length cf, .slice an r.next.length cn]
theorem OwnR.form {L : List Ck} {cs : List Value} {r : Rg} {w0 w : World} {M : Nat → Prop} {H : List Ck} (h : OwnR L cs r) (hs : Sat w0 M H w) (hm : un L ∈ H) : FormR cs r := by
  obtain ⟨lo, hi, ag, cg, ad, cd, af, cf, an, cn, h1, _⟩ := h.at hs hm
  exact ⟨ag, cg, ad, cd, af, cf, an, cn, h1⟩
theorem OwnR.form2 {L : List Ck} {cs : List Value} {r : Rg} {w0 w : World} {M : Nat → Prop} {H : List Ck} (h : OwnR L cs r) (hr : r.Right) (hs : Sat w0 M H w) (hm : un L ∈ H) :
    ∃ bg og cg bd od cd bf of_ cf bn on_ cn, cs = [.int .i64 r.radius, .int .i64 r.unit, .int .i64 r.clicks, .int .i64 r.total, .slice (some ⟨bg, og, none⟩) r.group.length cg, .slice (some ⟨bd, od, none⟩) r.drifts.length cd, .slice (some ⟨bf, of_, none⟩) r.first.length cf, .slice (some ⟨bn, on_, none⟩) r.next.length cn] := by
  have h1 := hr.g1
  have h2 := hr.d1
  have h3 := hr.first
  have h4 := hr.next
  obtain ⟨lo, hi, ag, cg, ad, cd, af, cf, an, cn, he, g1, g2, g3, g4⟩ := h.at hs hm
  obtain ⟨_, _, e1, k1⟩ := RdI.outI g1
  obtain ⟨_, _, e2, k2⟩ := RdI.outI g2
  obtain ⟨_, _, e3, k3⟩ := RdI.outI g3
  obtain ⟨_, _, e4, k4⟩ := RdII.outI g4
  cases e1; cases e2; cases e3; cases e4
  obtain ⟨bg, og, rfl⟩ := k1 (by omega)
  obtain ⟨bd, od, rfl⟩ := k2 (by omega)
  obtain ⟨bf, of_, rfl⟩ := k3 (by omega)
  obtain ⟨bn, on_, rfl⟩ := k4 (by omega)
  exact ⟨_, _, _, _, _, _, _, _, _, _, _, _, he⟩
theorem MadeR.low {s c : Nat} {r : Rg} (h : MadeR s c 4 r) : r.Low := ⟨h.right, h.total, by have := h.gsum; have := h.group; omega⟩
theorem MadeR.low' {s c d : Nat} {r : Rg} (hd : d ≤ 4) (h : MadeR s c d r) : r.Low := ⟨h.right, h.total, by have := h.gsum; have := h.group; omega⟩

theorem ruled_ca (W : Nat) (hW : W ≤ 3) (K : Nat) (hK : K < 100000) (w : World) (b lo hi : Nat) (bs : Value) (hby : DkB w lo hi bs) (hlh : hi ≤ b) (hd : DkS w b bs K) :
    Ca Try.prog 39 [.pointer (some ⟨b, 0, none⟩), .int .i64 W] w fun v w' => ∃ p : Ru, (v = .agg #[.int .i64 p.miss, .int .i64 p.click, .int .i64 p.wait, .int .i64 p.waits] ∧ (0 ≤ p.miss ∧ p.miss ≤ 390) ∧ (0 ≤ p.click ∧ p.click ≤ 59) ∧ (0 ≤ p.wait ∧ p.wait ≤ 79) ∧ 0 ≤ p.waits ∧ p.waits ≤ W) ∧ Sat w (fun x => x = b) [dkP bs b (K + 4)] w' := by
  refine q_of (dk_sat hd) Try.func39 rfl (by simp [Try.ntmps39]) ?_
  (refine q_seq ?_; refine q_region ?_)
  refine ql_alloc zero27 rfl (fun b4 => ?_)
  (refine q_nil ?_; refine q_seq ?_; refine q_region ?_; refine ql_pure tabOk rfl rfl ?_)
  refine ql_call (β := Int) (ψ := fun x v => v = .int .i64 x ∧ 0 ≤ x ∧ (x < 40 ∨ x = 0)) (L' := fun _ => [dkP bs b (K + 1)]) tabOk [dkP bs b K] _ (fun x => x = b) rfl rfl rfl rfl (Sp.cons (by repeat constructor) (Sp.refl _)) (fun x hx => ⟨_, .head _, hx⟩) (fun w' hs => drawP_ca 40 K (by omega) w' b lo hi bs (hby.keepP hlh hs.chg) hlh (hs.all _ (.head _))) ?_
  rintro mi _ ⟨rfl, hmi⟩
  (refine ql_ar tabOk rfl rfl rfl rfl (by omega) (by omega) ?_; refine ql_pure tabOk rfl rfl ?_)
  refine ql_call (β := Int) (ψ := fun x v => v = .int .i64 x ∧ 0 ≤ x ∧ (x < 60 ∨ x = 0)) (L' := fun _ => [dkP bs b (K + 2)]) tabOk [dkP bs b (K + 1)] _ (fun x => x = b) rfl rfl rfl rfl (Sp.cons (by repeat constructor) (Sp.refl _)) (fun x hx => ⟨_, .head _, hx⟩) (fun w' hs => drawP_ca 60 (K + 1) (by omega) w' b lo hi bs (hby.keepP hlh hs.chg) hlh (hs.all _ (.head _))) ?_
  rintro cl _ ⟨rfl, hcl⟩
  (refine ql_pure tabOk rfl rfl ?_)
  refine ql_call (β := Int) (ψ := fun x v => v = .int .i64 x ∧ 0 ≤ x ∧ (x < 80 ∨ x = 0)) (L' := fun _ => [dkP bs b (K + 3)]) tabOk [dkP bs b (K + 2)] _ (fun x => x = b) rfl rfl rfl rfl (Sp.cons (by repeat constructor) (Sp.refl _)) (fun x hx => ⟨_, .head _, hx⟩) (fun w' hs => drawP_ca 80 (K + 2) (by omega) w' b lo hi bs (hby.keepP hlh hs.chg) hlh (hs.all _ (.head _))) ?_
  rintro wa _ ⟨rfl, hwa⟩
  ((iterate 2 refine ql_pure tabOk rfl rfl ?_); refine ql_ar tabOk rfl rfl rfl rfl (by omega) (by omega) ?_)
  refine ql_call (β := Int) (ψ := fun x v => v = .int .i64 x ∧ 0 ≤ x ∧ (x < (W : Int) + 1 ∨ x = 0)) (L' := fun _ => [dkP bs b (K + 4)]) tabOk [dkP bs b (K + 3)] _ (fun x => x = b) rfl rfl rfl rfl (Sp.cons (by repeat constructor) (Sp.refl _)) (fun x hx => ⟨_, .head _, hx⟩) (fun w' hs => drawP_ca ((W : Int) + 1) (K + 3) (by omega) w' b lo hi bs (hby.keepP hlh hs.chg) hlh (hs.all _ (.head _))) ?_
  rintro ws _ ⟨rfl, hws⟩
  skip
  refine ql_mk #[.int .i64 (10 * mi), .int .i64 cl, .int .i64 wa, .int .i64 ws] rfl (by kernel_rfl) rfl ?_
  (refine ql_setA tabOk rfl rfl rfl rfl rfl (by repeat constructor) rfl ?_; refine q_nil ?_; refine q_ret ?_)
  refine q_fin tabOk rfl (by repeat (first | exact RVs.nil | apply RVs.tmp rfl | apply RVs.cellA rfl rfl (by repeat first | exact .head _ | refine .tail _ ?_) (by rfl) | apply RVs.cell1 rfl rfl (by repeat first | exact .head _ | refine .tail _ ?_))) fun w hs => ?_
  refine ⟨⟨10 * mi, cl, wa, ws⟩, ⟨rfl, ?_⟩, hs.sp (by repeat (first | exact Sp.nil | exact Sp.refl _ | refine Sp.cons (by repeat constructor) ?_))⟩
  simp only
  omega
theorem ruled0 {W K b : Nat} {bs : Value} {w0 w : World} {R : List Ck} (hW : W ≤ 3) (hby : DkB w0 0 w0.heap.size bs) (hs : Sat w0 M0 (dkP bs b K :: R) w) (hK : K < 100000) :
    Ca Try.prog 39 [.pointer (some ⟨b, 0, none⟩), .int .i64 W] w fun v w' => ∃ p : Ru, (v = .agg #[.int .i64 p.miss, .int .i64 p.click, .int .i64 p.wait, .int .i64 p.waits] ∧ (0 ≤ p.miss ∧ p.miss ≤ 390) ∧ (0 ≤ p.click ∧ p.click ≤ 59) ∧ (0 ≤ p.wait ∧ p.wait ≤ 79) ∧ 0 ≤ p.waits ∧ p.waits ≤ W) ∧ Sat w (fun x => x = b) [dkP bs b (K + 4)] w' :=
  ruled_ca W hW K hK w b 0 w0.heap.size _ (hby.keep hs.chg0) (dk_new hs) (hs.all _ (.head _))

/-- Winds that were dealt. -/
def BlownW (ws : List (Int × Int)) : Prop := ws.length = 5 ∧ ∀ s ∈ ws, -15 ≤ s.1 ∧ s.1 ≤ 10 ∧ s.1 ≤ s.2 ∧ s.2 ≤ s.1 + 8
theorem BlownW.ok {ws : List (Int × Int)} (h : BlownW ws) : WindOk ws := ⟨h.1, fun s hs => by have := h.2 s hs; omega⟩
set_option maxHeartbeats 1000000 in
theorem blownL_ca (K : Nat) (hK : K < 100000) (w : World) (b lo hi : Nat) (bs : Value) (hby : DkB w lo hi bs) (hlh : hi ≤ b) (hd : DkS w b bs K) :
    Ca Try.prog 46 [.pointer (some ⟨b, 0, none⟩)] w fun v w' => ∃ x : Value × List (Int × Int), (v = x.1 ∧ BlownW x.2) ∧ Sat w (fun x => x = b) [.ow x.1 64 2 5 (spC x.2), dkP bs b (K + 10)] w' := by
  refine q_of (dk_sat hd) Try.func46 rfl (by simp [Try.ntmps46]) ?_
  (refine q_seq ?_; refine q_region ?_; refine ql_pure tabOk rfl rfl ?_; refine q_nil ?_; refine q_seq ?_; refine q_region ?_; refine ql_pure tabOk rfl rfl ?_; refine q_nil ?_; (iterate 2 refine q_seq ?_); refine q_region ?_; refine ql_pure tabOk rfl rfl ?_; refine q_nil ?_; refine q_block ?_)
  refine q_conv (H' := [.ow (.slice none 0 0) 64 2 0 (spC []), dkP bs b (K + 2 * 0)]) (fun w' hs => Sat.ownil hs _ _) ?_
  refine q_loop (σ := Nat × Value × List (Int × Int)) (fun s => s.1 ≤ 5 ∧ s.2.2.length = s.1 ∧ ∀ x ∈ s.2.2, -15 ≤ x.1 ∧ x.1 ≤ 10 ∧ x.1 ≤ x.2 ∧ x.2 ≤ x.1 + 8) (fun s => 5 - s.1) (fun s => [(0, .pointer (some ⟨b, 0, none⟩)), (3, s.2.1), (5, .int .i64 s.1)])
    (fun s => [.ow s.2.1 64 2 s.1 (spC s.2.2), dkP bs b (K + 2 * s.1)]) (0, .slice none 0 0, []) ⟨by omega, rfl, by simp⟩ ⟨rfl, rfl, rfl, trivial⟩ (Sp.refl _) ?_
  rintro ⟨k, v, l⟩ ⟨hk, hl, hlb⟩ K2 hK2
  simp only at hk hl hlb
  dsimp only
  (refine q_seq ?_; refine q_region ?_; refine ql_pure tabOk rfl rfl ?_; refine q_nil ?_; refine q_seq ?_)
  refine q_if rfl (fun hc => ?_) (fun hc => ?_)
  · have hk2 : k < 5 := by omega
    clear hc
    (refine q_skip ?_; refine q_seq ?_; refine q_block ?_; refine q_seq ?_; refine q_region ?_; refine ql_pure tabOk rfl rfl ?_)
    refine ql_call (β := Int) (ψ := fun x v => v = .int .i64 x ∧ -15 ≤ x ∧ x ≤ 10) (L' := fun _ => [dkP bs b (K + 2 * k + 1)]) tabOk [dkP bs b (K + 2 * k)] _ (fun x => x = b) rfl rfl rfl rfl (Sp.cons (by repeat constructor) (Sp.refl _)) (fun x hx => ⟨_, .head _, hx⟩) (fun w' hs => between_ca (-15) 10 (by omega) (by omega) (by omega) (K + 2 * k) (by omega) w' b lo hi bs (hby.keepP hlh hs.chg) hlh (hs.all _ (.head _))) ?_
    rintro x _ ⟨rfl, hx⟩
    (refine ql_pure tabOk rfl rfl ?_; refine q_nil ?_; refine q_region ?_; (iterate 4 refine ql_pure tabOk rfl rfl ?_))
    refine ql_call (β := Int) (ψ := fun x v => v = .int .i64 x ∧ 0 ≤ x ∧ (x < 9 ∨ x = 0)) (L' := fun _ => [dkP bs b (K + 2 * k + 2)]) tabOk [dkP bs b (K + 2 * k + 1)] _ (fun x => x = b) rfl rfl rfl rfl (Sp.cons (by repeat constructor) (Sp.refl _)) (fun x hx => ⟨_, .head _, hx⟩) (fun w' hs => drawP_ca 9 (K + 2 * k + 1) (by omega) w' b lo hi bs (hby.keepP hlh hs.chg) hlh (hs.all _ (.head _))) ?_
    rintro y _ ⟨rfl, hy⟩
    (refine ql_ar tabOk rfl rfl rfl rfl (by omega) (by omega) ?_)
    refine ql_mk #[.int .i64 x, .int .i64 (x + y)] rfl (by kernel_rfl) rfl ?_
    refine ql_mkS 64 [.int .i64 x, .int .i64 (x + y)] rfl (by kernel_rfl) rfl (fun bn => ?_)
    refine ql_append (q := 1) slSP rfl rfl rfl (fun v' => by repeat constructor) (fun w' hs => ⟨_, _, Blk.rdSp (hs.blk (b := bn) (by repeat first | exact .head _ | refine .tail _ ?_))⟩) (by simp [oneV]) (by omega) (by omega) (fun v' => ?_)
    (refine ql_pure tabOk rfl rfl ?_; refine q_nil ?_; refine q_blk ?_; refine q_region ?_; refine ql_ar tabOk rfl rfl rfl rfl (by omega) (by omega) ?_; refine ql_pure tabOk rfl rfl ?_; refine q_nil ?_)
    have e1 : spC (l ++ [(x, x + y)]) = spC l ++ [.int .i64 x, .int .i64 (x + y)] := by simp [spC]
    have e3 : K + 2 * (k + 1) = K + 2 * k + 2 := by omega
    refine hK2 (k + 1, v', l ++ [(x, x + y)]) _ _ ⟨by simp only; omega, by simp [hl], fun z hz => ?_⟩ (by simp only; omega) ⟨rfl, rfl, rfl, trivial⟩ (by simp only [e1, e3]; repeat (first | exact Sp.nil | exact Sp.refl _ | refine Sp.cons (by repeat constructor) ?_))
    rcases List.mem_append.1 hz with hz | hz
    · exact hlb z hz
    · rw [List.mem_singleton.1 hz]
      simp only
      omega
  · obtain rfl : k = 5 := by omega
    (refine q_exit _ rfl ?_; refine q_seq ?_; refine q_region ?_; (iterate 2 refine ql_pure tabOk rfl rfl ?_); refine q_nil ?_; refine q_ret ?_)
    refine q_fin tabOk rfl (by repeat (first | exact RVs.nil | apply RVs.tmp rfl | apply RVs.cellA rfl rfl (by repeat first | exact .head _ | refine .tail _ ?_) (by rfl) | apply RVs.cell1 rfl rfl (by repeat first | exact .head _ | refine .tail _ ?_))) fun w hs => ?_
    exact ⟨(v, l), ⟨rfl, hl, hlb⟩, hs.sp (by repeat (first | exact Sp.nil | exact Sp.refl _ | refine Sp.cons (by repeat constructor) ?_))⟩
theorem blown0 {K b : Nat} {bs : Value} {w0 w : World} {R : List Ck} (hby : DkB w0 0 w0.heap.size bs) (hs : Sat w0 M0 (dkP bs b K :: R) w) (hK : K < 100000) :
    Ca Try.prog 46 [.pointer (some ⟨b, 0, none⟩)] w fun v w' => ∃ x : Value × List (Int × Int), (v = x.1 ∧ BlownW x.2) ∧ Sat w (fun x => x = b) [.ow x.1 64 2 5 (spC x.2), dkP bs b (K + 10)] w' :=
  blownL_ca K hK w b 0 w0.heap.size _ (hby.keep hs.chg0) (dk_new hs) (hs.all _ (.head _))

/-! What impacts hit. -/
def hitN (r : Rg) (l : List Int) (c : Int) (n : Nat) : Int := sumR (fun i => if hitB r (l.getD i 0 + c * r.unit) then 1 else 0) n
theorem hitN_zer (r : Rg) (l : List Int) (c : Int) : ∀ n, hitN r l c n = n - zerN r l c n
  | 0 => by simp [hitN, zerN, sumR]
  | n + 1 => by
    have ih := hitN_zer r l c n
    simp only [hitN, zerN, sumR] at ih ⊢
    rw [ih]
    split <;> omega
theorem hitN_bd (r : Rg) (l : List Int) (c : Int) (n : Nat) : 0 ≤ hitN r l c n ∧ hitN r l c n ≤ n := by
  have := zerN_bd r l c n
  rw [hitN_zer]
  omega
/-- The click with which most impacts would have been hits. -/
theorem zero_of {r : Rg} (hr : r.Right) (l : List Int) (hlen : l.length ≤ 20) (hb : ∀ x ∈ l, -1000 ≤ x ∧ x ≤ 1000) : ∃ m, zeroV r l = (m, 0) ∧ (-r.clicks ≤ m ∧ m ≤ r.clicks) ∧ (∀ c, -r.clicks ≤ c ∧ c ≤ r.clicks → hitN r l c l.length ≤ hitN r l m l.length) ∧
    ∀ c, -r.clicks ≤ c ∧ c ≤ r.clicks → hitN r l c l.length = hitN r l m l.length → ¬ (c * c < m * m ∨ c = -m ∧ c < m) := by
  obtain ⟨m, h1, h2, h3, h4⟩ := best_law (zerQ r l) (fun c => zerN r l c l.length) r.clicks hr.clicks.1 (fun a b _ _ => less_ratio (by omega) (zerN_bd r l a _).1 (zerN_bd r l b _).1)
  refine ⟨m, ?_, h2, fun c hc => ?_, fun c hc he => h4 c hc ?_⟩
  · have hc := (right_check r).2 hr
    have e : l.all (fun n => inB n (-1000) 1000) = true := List.all_eq_true.2 fun n hn => inB_iff.2 (hb n hn)
    unfold zeroV
    rw [hc, e, h1, if_neg (by simp), if_neg (by omega)]
    rfl
  · have := h3 c hc
    simp only [hitN_zer]
    omega
  · simp only [hitN_zer] at he
    show zerN r l c l.length = zerN r l m l.length
    omega
set_option maxHeartbeats 1000000 in
theorem hitsC_ca (w : World) (b24 b23 lo hi : Nat) (t24 : TypeId) (r : Rg) (v : Value) (l : List Int) (c : Int) (hb24 : Blk w b24 [v] t24) (hd : DkAt w b23 r) (hr : r.Right) (hl : RdI w lo hi v l) (hlen : l.length ≤ 20) (hbl : ∀ x ∈ l, -1000 ≤ x ∧ x ≤ 1000) (hcb : -1000 ≤ c ∧ c ≤ 1000) :
    Ca Try.prog 45 [.int .i64 c, .pointer (some ⟨b24, 0, none⟩), .pointer (some ⟨b23, 0, none⟩)] w fun v w' => v = .int .i64 (hitN r l c l.length) ∧ Chg [] w w' := by
  have hd0 := hd
  obtain ⟨cs, bt, hblk, lo, hi, ag, cg, ad, cd, af, cf, an, cn, rfl, hg, hdr, hf, hn⟩ := hd
  have hun := hr.unit
  have hra := hr.radius
  obtain ⟨a, cap, rfl, hs⟩ := RdI.outI hl
  refine q_of (Sat.nil w M0) Try.func45 rfl (by simp [Try.ntmps45]) ?_
  (refine q_seq ?_; refine q_region ?_; refine ql_pure tabOk rfl rfl ?_; refine q_nil ?_; refine q_seq ?_; refine q_region ?_; refine ql_pure tabOk rfl rfl ?_; refine q_nil ?_; (iterate 2 refine q_seq ?_); refine q_region ?_; refine ql_loadP tabOk rfl rfl rfl (by assumption) (by rfl) ?_; (iterate 2 refine ql_pure tabOk rfl rfl ?_); refine q_nil ?_; refine q_block ?_)
  refine q_loop (σ := Nat) (fun k => k ≤ l.length) (fun k => l.length - k) (fun k => [(0, .int .i64 c), (2, .pointer (some ⟨b23, 0, none⟩)), (5, .int .i64 (hitN r l c k)), (9, .slice a l.length cap), (10, .int .i64 l.length), (11, .int .i64 k)])
    (fun _ => []) 0 (by omega) ⟨rfl, rfl, rfl, rfl, rfl, rfl, trivial⟩ (by repeat (first | exact Sp.nil | exact Sp.refl _ | refine Sp.cons (by repeat constructor) ?_)) ?_
  intro k hk K hK
  have hzb := hitN_bd r l c k
  (refine q_seq ?_; refine q_region ?_; refine ql_pure tabOk rfl rfl ?_; refine q_nil ?_; refine q_seq ?_)
  refine q_if rfl (fun hc => ?_) (fun hc => ?_)
  · have hk : k < l.length := by omega
    obtain ⟨b0, off, rfl⟩ := hs (by omega)
    have h1 := hbl _ (List.getElem_mem hk)
    have h2 := mul_bd (A := 1000) (B := 20) hcb (show -20 ≤ r.unit ∧ r.unit ≤ 20 by omega)
    have h3 : hitN r l c (k + 1) = hitN r l c k + (if hitB r (l[k] + c * r.unit) then 1 else 0) := by simp [hitN, sumR, hk]
    (refine q_skip ?_; refine q_seq ?_; refine q_block ?_; refine q_seq ?_; refine q_region ?_)
    (refine ql_index tabOk rfl rfl rfl rfl rfl (by omega) (by omega) ?_; refine ql_load1 tabOk rfl rfl rfl (fun w hs => RdI.at (RdE.keep hl hs.chg0) k hk) ?_)
    (refine ql_pure tabOk rfl rfl ?_; refine q_nil ?_; refine q_seq ?_; refine q_region ?_; (iterate 3 refine ql_pure tabOk rfl rfl ?_); refine ql_loadP tabOk rfl rfl rfl (by assumption) (by rfl) ?_; (iterate 2 refine ql_ar tabOk rfl rfl rfl rfl (by omega) (by omega) ?_); refine ql_pure tabOk rfl rfl ?_; refine q_nil ?_; refine q_seq ?_; refine q_region ?_; (iterate 2 refine ql_pure tabOk rfl rfl ?_); refine ql_loadP tabOk rfl rfl rfl (by assumption) (by rfl) ?_; (iterate 2 refine ql_pure tabOk rfl rfl ?_))
    cases hh : hitB r (l[k] + c * r.unit) with
    | true =>
      have hin := inB_iff.1 hh
      rw [hh] at h3
      rw [decide_eq_true (show l[k] + c * r.unit ≤ r.radius by omega)]
      (refine ql_gyes rfl ?_; refine ql_pure tabOk rfl rfl ?_; refine ql_gyes rfl ?_; refine ql_neg tabOk rfl rfl (by omega) (by omega) ?_; refine ql_gyes rfl ?_; refine ql_pure tabOk rfl rfl ?_; refine ql_gyes rfl ?_; refine ql_loadP tabOk rfl rfl rfl (by assumption) (by rfl) ?_; refine ql_gyes rfl ?_; refine ql_leqT tabOk rfl rfl rfl (by omega) ?_; refine ql_pure tabOk rfl rfl ?_; refine q_nil ?_; refine q_cond_true rfl ?_; refine q_region ?_; refine ql_pure tabOk rfl rfl ?_; refine ql_ar tabOk rfl rfl rfl rfl (by omega) (by omega) ?_; refine ql_pure tabOk rfl rfl ?_; refine q_nil ?_; refine q_blk ?_; refine q_region ?_; refine ql_ar tabOk rfl rfl rfl rfl (by omega) (by omega) ?_; refine ql_pure tabOk rfl rfl ?_; refine q_nil ?_)
      exact hK (k + 1) _ _ (by omega) (by omega) ⟨rfl, rfl, lookI rfl (by rw [h3]; simp), rfl, rfl, rfl, trivial⟩ (by repeat (first | exact Sp.nil | exact Sp.refl _ | refine Sp.cons (by repeat constructor) ?_))
    | false =>
      have hin : ¬ (-r.radius ≤ l[k] + c * r.unit ∧ l[k] + c * r.unit ≤ r.radius) := fun h => by rw [show hitB r (l[k] + c * r.unit) = true from inB_iff.2 h] at hh; cases hh
      rw [hh] at h3
      by_cases hle : l[k] + c * r.unit ≤ r.radius
      · rw [decide_eq_true hle]
        (refine ql_gyes rfl ?_; refine ql_pure tabOk rfl rfl ?_; refine ql_gyes rfl ?_; refine ql_neg tabOk rfl rfl (by omega) (by omega) ?_; refine ql_gyes rfl ?_; refine ql_pure tabOk rfl rfl ?_; refine ql_gyes rfl ?_; refine ql_loadP tabOk rfl rfl rfl (by assumption) (by rfl) ?_; refine ql_gyes rfl ?_; refine ql_leqF tabOk rfl rfl rfl (by omega) ?_; refine ql_pure tabOk rfl rfl ?_; refine q_nil ?_; refine q_cond_false rfl ?_; refine q_skip ?_; refine q_blk ?_; refine q_region ?_; refine ql_ar tabOk rfl rfl rfl rfl (by omega) (by omega) ?_; refine ql_pure tabOk rfl rfl ?_; refine q_nil ?_)
        exact hK (k + 1) _ _ (by omega) (by omega) ⟨rfl, rfl, lookI rfl (by rw [h3]; simp), rfl, rfl, rfl, trivial⟩ (by repeat (first | exact Sp.nil | exact Sp.refl _ | refine Sp.cons (by repeat constructor) ?_))
      · rw [decide_eq_false hle]
        ((iterate 5 refine ql_gno rfl rfl rfl ?_); refine ql_pure tabOk rfl rfl ?_; refine q_nil ?_; refine q_cond_false rfl ?_; refine q_skip ?_; refine q_blk ?_; refine q_region ?_; refine ql_ar tabOk rfl rfl rfl rfl (by omega) (by omega) ?_; refine ql_pure tabOk rfl rfl ?_; refine q_nil ?_)
        exact hK (k + 1) _ _ (by omega) (by omega) ⟨rfl, rfl, lookI rfl (by rw [h3]; simp), rfl, rfl, rfl, trivial⟩ (by repeat (first | exact Sp.nil | exact Sp.refl _ | refine Sp.cons (by repeat constructor) ?_))
  · obtain rfl : k = l.length := by omega
    (refine q_exit _ rfl ?_; refine q_seq ?_; refine q_region ?_; (iterate 2 refine ql_pure tabOk rfl rfl ?_); refine q_nil ?_; refine q_ret ?_)
    refine q_fin tabOk rfl (by repeat (first | exact RVs.nil | apply RVs.tmp rfl | apply RVs.cellA rfl rfl (by repeat first | exact .head _ | refine .tail _ ?_) (by rfl) | apply RVs.cell1 rfl rfl (by repeat first | exact .head _ | refine .tail _ ?_))) fun w hs => ?_
    exact ⟨rfl, hs.chg0⟩
end Go.Proofs.Ytohlillcaadidaa

/- Walks: what right ranges answer; planned. -/
namespace Go.Proofs.Ytohlillcaadidaa
open Go Go.Eng

theorem expd_ok (w : World) (cs : List Value) (r : Rg) (c : Int) (h : RgC w cs r) (hsm : r.Small) (hr : r.Right) (hc : -r.clicks ≤ c ∧ c ≤ r.clicks) :
    Ca Try.prog 43 [.agg cs.toArray, .int .i64 c] w fun v w' => v = .tuple #[rtV (expV r c), .int .i64 0] ∧ Chg [] w w' := by
  have := expectedF_ca w cs r c h hsm
  have e : expdV r c = (expV r c, 0) := by
    unfold expdV
    rw [(right_check r).2 hr, inB_iff.2 hc]
    rfl
  rw [e] at this
  exact this
theorem hit_ok (w : World) (cs : List Value) (r : Rg) (s : Nat) (c : Int) (h : RgC w cs r) (hsm : r.Small) (hr : r.Right) (hs : s < r.drifts.length) (hc : -r.clicks ≤ c ∧ c ≤ r.clicks) :
    Ca Try.prog 57 [.agg cs.toArray, .int .i64 s, .int .i64 c] w fun v w' => v = .tuple #[rtV (hitX r s c), .int .i64 0] ∧ Chg [] w w' := by
  have := hit_ca w cs r s c h hsm
  have e : hitV r s c = (hitX r s c, 0) := by
    unfold hitV
    rw [(right_check r).2 hr, inB_iff.2 hc, show inB (s : Int) 0 ((r.drifts.length : Int) - 1) = true from inB_iff.2 (by omega)]
    simp [hitX]
  rw [e] at this
  exact this
theorem best_ok (w : World) (cs : List Value) (r : Rg) (m : Int) (h : RgC w cs r) (hsm : r.Small) (hm : bestV r = (m, expV r m, 0)) :
    Ca Try.prog 60 [.agg cs.toArray] w fun v w' => v = .tuple #[.int .i64 m, rtV (expV r m), .int .i64 0] ∧ Chg [] w w' := by
  have := bestF_ca w cs r h hsm
  rw [hm] at this
  exact this
theorem rob_ok (w : World) (l0 h1 : Nat) (cs : List Value) (r : Rg) (v : Value) (ws : List (Int × Int)) (m : Int) (h : RgC w cs r) (hsm : r.Small) (hl : RdS w l0 h1 v ws) (hw : WindOk ws) (hm : robV r ws = (m, robQ r ws m, 0)) :
    Ca Try.prog 50 [.agg cs.toArray, v] w fun v w' => v = .tuple #[.int .i64 m, rtV (robQ r ws m), .int .i64 0] ∧ Chg [] w w' := by
  have := robF_ca w l0 h1 cs r v ws h hsm hl (by rw [hw.len]; omega)
  rw [hm] at this
  exact this
theorem worst_ok (w : World) (l0 h1 : Nat) (cs : List Value) (r : Rg) (v : Value) (ws : List (Int × Int)) (c : Int) (h : RgC w cs r) (hsm : r.Small) (hr : r.Right) (hl : RdS w l0 h1 v ws) (hw : WindOk ws) (hc : -r.clicks ≤ c ∧ c ≤ r.clicks) :
    Ca Try.prog 64 [.agg cs.toArray, v, .int .i64 c] w fun v w' => ∃ x : Value, v = .tuple #[x, rtV (robQ r ws c), .int .i64 0] ∧ Sat w M0 [.ow x 3 1 5 (ints (worstL r ws c))] w' := by
  refine worstF_ok w l0 h1 cs r v ws c h hsm hl ?_
  unfold wErr
  rw [(blown_iff r ws).2 ⟨(right_check r).2 hr, hw⟩, inB_iff.2 hc]
  rfl
theorem Ru.mk_right {p : Ru} (h1 : 0 ≤ p.miss ∧ p.miss ≤ 390) (h2 : 0 ≤ p.click ∧ p.click ≤ 59) (h3 : 0 ≤ p.wait ∧ p.wait ≤ 79) (h4 : 0 ≤ p.waits ∧ p.waits ≤ 3) : p.Right := ⟨by omega, by omega, by omega, h4⟩

set_option maxHeartbeats 2000000 in
theorem planned_ca (w : World) (cs : List Value) (r : Rg) (p : Ru) (h : RgC w cs r) (hsm : r.Small) (hlow : r.Low) (hp : p.Right) :
    Ca Try.prog 51 [.agg cs.toArray, .agg #[.int .i64 p.miss, .int .i64 p.click, .int .i64 p.wait, .int .i64 p.waits]] w fun v w' => v = .tuple #[rtV (planV r p), .bool true] ∧ Chg [] w w' := by
  have h0 := h
  have hr := hlow.right
  have hru : rulesV r p = 0 := (rules_iff r p).2 ⟨(right_check r).2 hr, hp⟩
  have hlen := plcL_len_le r p hr hp
  have hpv := planV_bd hlow hp
  obtain ⟨lo, hi, ag, cg, ad, cd, af, cf, an, cn, rfl, hg, hdr, hf, hn⟩ := h
  refine q_of (Sat.nil w M0) Try.func51 rfl (by simp [Try.ntmps51]) ?_
  (refine q_seq ?_; refine q_region ?_)
  refine ql_box rfl rfl (fun b2 => ?_)
  refine ql_box rfl rfl (fun b3 => ?_)
  skip
  refine ql_alloc zero42 rfl (fun b4 => ?_)
  (refine ql_pure tabOk rfl rfl ?_; refine q_nil ?_; refine q_seq ?_; refine q_region ?_; (iterate 2 refine ql_loadAB tabOk rfl rfl rfl (by repeat first | exact .head _ | refine .tail _ ?_) (by rfl) (by rfl) ?_))
  refine ql_call (β := Value) tabOk [] _ M0 rfl rfl rfl rfl (Sp.refl _) (fun _ h => h.elim) (fun w' hs => values_ok w' _ r p (h0.keep hs.chg0) hsm hru) ?_
  rintro x _ rfl
  refine ql_fact (fun w hs => hs.slice2 (v := x) (by repeat first | exact .head _ | refine .tail _ ?_)) ?_
  rintro ⟨ax, cx, rfl⟩
  (refine ql_pure tabOk rfl rfl ?_; (iterate 2 refine ql_ext tabOk rfl rfl rfl ?_); (iterate 2 refine ql_pure tabOk rfl rfl ?_); refine q_nil ?_; refine q_seq ?_; refine q_region ?_; (iterate 2 refine ql_loadAB tabOk rfl rfl rfl (by repeat first | exact .head _ | refine .tail _ ?_) (by rfl) (by rfl) ?_); refine ql_pure tabOk rfl rfl ?_)
  refine ql_callv (val := .tuple #[.agg #[.int .i64 (planV r p).1, .int .i64 (planV r p).2], .int .i64 0]) tabOk rfl rfl rfl rfl (fun w hs => ?_) ?_; exact by have := proves_ca w 0 w.heap.size _ r p (.slice ax (plcL r p).length cx) (valsL r p) (h0.keep hs.chg0) hsm (hs.rdI (t := 3) (n := (plcL r p).length) (by repeat first | exact .head _ | refine .tail _ ?_) (by simp)) (by simpa using hlen); rw [proof_vals hr hp] at this; exact this
  (refine ql_pure tabOk rfl rfl ?_; (iterate 2 refine ql_ext tabOk rfl rfl rfl ?_))
  refine ql_alloc zero42 rfl (fun b8 => ?_)
  (refine ql_setA tabOk rfl rfl rfl rfl rfl (by repeat constructor) rfl ?_; refine ql_pure tabOk rfl rfl ?_; refine q_nil ?_; refine q_seq ?_)
  refine q_draw _ [.pt b4 _ _] (Sp.cons (by repeat constructor) (Sp.refl _)) (by kernel_rfl) (by kernel_rfl) ?_
  (refine qf_loadAB tabOk rfl rfl rfl (by repeat first | exact .head _ | refine .tail _ ?_) (by rfl) (by rfl) ?_; refine qf_pure tabOk rfl rfl rfl ?_; refine qf_eqlT tabOk rfl rfl rfl (by omega) ?_; refine qf_pure tabOk rfl rfl rfl ?_; refine qf_gyes rfl ?_; refine qf_pure tabOk rfl rfl rfl ?_; refine qf_gyes rfl ?_; refine qf_eqlT tabOk rfl rfl rfl (by omega) ?_; (iterate 2 refine qf_pure tabOk rfl rfl rfl ?_); refine qf_gyes rfl ?_; refine qf_pure tabOk rfl rfl rfl ?_; refine qf_gyes rfl ?_; refine qf_loadB tabOk rfl rfl rfl (by repeat first | exact .head _ | refine .tail _ ?_) (by rfl) ?_; refine qf_gyes rfl ?_; refine qf_geqT tabOk rfl rfl rfl (by omega) ?_; (iterate 2 refine qf_pure tabOk rfl rfl rfl ?_); refine qf_gyes rfl ?_; refine qf_pure tabOk rfl rfl rfl ?_; refine qf_gyes rfl ?_; refine qf_loadB tabOk rfl rfl rfl (by repeat first | exact .head _ | refine .tail _ ?_) (by rfl) ?_; refine qf_gyes rfl ?_; refine qf_leqT tabOk rfl rfl rfl (by omega) ?_; (iterate 2 refine qf_pure tabOk rfl rfl rfl ?_); refine qf_gyes rfl ?_; refine qf_pure tabOk rfl rfl rfl ?_; refine qf_gyes rfl ?_; refine qf_loadB tabOk rfl rfl rfl (by repeat first | exact .head _ | refine .tail _ ?_) (by rfl) ?_; refine qf_gyes rfl ?_; refine qf_geqT tabOk rfl rfl rfl (by omega) ?_; (iterate 2 refine qf_pure tabOk rfl rfl rfl ?_); refine qf_gyes rfl ?_; refine qf_pure tabOk rfl rfl rfl ?_; refine qf_gyes rfl ?_; refine qf_loadB tabOk rfl rfl rfl (by repeat first | exact .head _ | refine .tail _ ?_) (by rfl) ?_; refine qf_gyes rfl ?_; refine qf_leqT tabOk rfl rfl rfl (by omega) ?_; refine qf_pure tabOk rfl rfl rfl ?_; refine qf_setA tabOk rfl rfl rfl rfl rfl (by repeat constructor) rfl ?_; refine qf_pure tabOk rfl rfl rfl ?_; refine qf_nil ?_; refine q_ret ?_)
  refine q_fin tabOk rfl (by repeat (first | exact RVs.nil | apply RVs.tmp rfl | apply RVs.cellA rfl rfl (by repeat first | exact .head _ | refine .tail _ ?_) (by rfl) | apply RVs.cell1 rfl rfl (by repeat first | exact .head _ | refine .tail _ ?_))) fun w hs => ?_
  exact ⟨rfl, hs.chg0⟩
theorem fold0 (v n : Int) (w : World) (hn0 : 0 < n) (hn1 : n < 1000000) : Ca Try.prog 47 [.int .i64 v, .int .i64 n] w fun r w' => ∃ x : Int, (r = .int .i64 x ∧ 0 ≤ x ∧ x < n) ∧ Sat w M0 [] w' :=
  (fold_ca v n hn0 hn1 w).mono fun r w' ⟨⟨x, hx⟩, hw⟩ => ⟨x, hx, hw ▸ Sat.nil w M0⟩
/-- The drifts of a range. -/
theorem RgC.dr {w : World} {r : Rg} {ag ad af an : Option Addr} {cg cd cf cn : Nat} (h : RgC w [.int .i64 r.radius, .int .i64 r.unit, .int .i64 r.clicks, .int .i64 r.total, .slice ag r.group.length cg, .slice ad r.drifts.length cd, .slice af r.first.length cf, .slice an r.next.length cn] r) :
    ∃ lo hi, RdI w lo hi (.slice ad r.drifts.length cd) r.drifts := by
  obtain ⟨lo, hi, ag', cg', ad', cd', af', cf', an', cn', he, _, h2, _⟩ := h
  simp only [List.cons.injEq, Value.slice.injEq] at he
  obtain ⟨_, _, _, _, _, ⟨rfl, _, rfl⟩, _⟩ := he
  exact ⟨lo, hi, h2⟩
theorem OwnR.adr {L : List Ck} {r : Rg} {w0 w : World} {M : Nat → Prop} {H : List Ck} {ag ad af an : Option Addr} {cg cd cf cn : Nat} (h : OwnR L [.int .i64 r.radius, .int .i64 r.unit, .int .i64 r.clicks, .int .i64 r.total, .slice ag r.group.length cg, .slice ad r.drifts.length cd, .slice af r.first.length cf, .slice an r.next.length cn] r)
    (hs : Sat w0 M H w) (hm : un L ∈ H) (h1 : 0 < r.drifts.length) : ∃ b off, ad = some ⟨b, off, none⟩ := by
  obtain ⟨lo, hi, h2⟩ := (h.at hs hm).dr
  obtain ⟨a, cap, h3, h4⟩ := RdI.outI h2
  cases h3
  exact h4 h1
theorem RgC.drAt {w : World} {r : Rg} {ag af an : Option Addr} {b off cg cd cf cn : Nat} (h : RgC w [.int .i64 r.radius, .int .i64 r.unit, .int .i64 r.clicks, .int .i64 r.total, .slice ag r.group.length cg, .slice (some ⟨b, off, none⟩) r.drifts.length cd, .slice af r.first.length cf, .slice an r.next.length cn] r)
    (k : Nat) (hk : k < r.drifts.length) : w.cell? ⟨b, off + k * 1, none⟩ = some (.int .i64 (r.drifts.getD k 0)) := by
  obtain ⟨lo, hi, h2⟩ := h.dr
  have := RdI.at h2 k hk
  rw [this]
  simp [List.getD_eq_getElem?_getD, hk]
end Go.Proofs.Ytohlillcaadidaa

/- Walks: Chances. -/
namespace Go.Proofs.Ytohlillcaadidaa
open Go Go.Eng

theorem Rd.narrow {w : World} {lo hi b off n c sz : Nat} {cs : List Value} (h : Rd w lo hi (.slice (some ⟨b, off, none⟩) n c) sz n cs) : Rd w b (b + 1) (.slice (some ⟨b, off, none⟩) n c) sz n cs := by
  obtain ⟨h1, h2⟩ := h
  refine ⟨h1, ?_⟩
  rcases h2 with ⟨h, _⟩ | ⟨b', off', c', he, h3, h4⟩
  · cases h
  · cases he
    exact .inr ⟨b, off, c, rfl, fun hp => ⟨Nat.le_refl _, Nat.lt_succ_self _, (h3 hp).2.2⟩, h4⟩
theorem RdI.narrow {w : World} {lo hi b off c : Nat} {l : List Int} (h : RdI w lo hi (.slice (some ⟨b, off, none⟩) l.length c) l) : RdI w b (b + 1) (.slice (some ⟨b, off, none⟩) l.length c) l := RdI.of (Rd.narrow h.row)

theorem RgC.fr {w : World} {r : Rg} {ag ad af an : Option Addr} {cg cd cf cn : Nat} (h : RgC w [.int .i64 r.radius, .int .i64 r.unit, .int .i64 r.clicks, .int .i64 r.total, .slice ag r.group.length cg, .slice ad r.drifts.length cd, .slice af r.first.length cf, .slice an r.next.length cn] r) :
    ∃ lo hi, RdI w lo hi (.slice af r.first.length cf) r.first := by
  obtain ⟨lo, hi, ag', cg', ad', cd', af', cf', an', cn', he, _, _, h2, _⟩ := h
  simp only [List.cons.injEq, Value.slice.injEq] at he
  obtain ⟨_, _, _, _, _, _, ⟨rfl, _, rfl⟩, _⟩ := he
  exact ⟨lo, hi, h2⟩

set_option maxHeartbeats 1000000 in
theorem shots_it2 (w : World) (D : Nat → Prop) (b bd : Nat) (r : Rg) {cs : List Value} {bt : TypeId} (hdk : ∀ w', ChgP D w w' → Blk w' b cs bt ∧ RgC w' cs r) (hr : r.Right)
    {t1 : TypeId} (hbd : Blk w bd [.pointer (some ⟨b, 0, none⟩)] t1) (hDd : ¬ D bd) :
    ItOk Try.prog 143 [.pointer (some ⟨bd, 0, none⟩)] encS (shotL r) w D := by
  intro fv σ L I E s0 hI0 hLD hsat hcb
  obtain ⟨lo, hi, ag, cg, ad, cd, af, cf, an, cn, rfl, _, _, hf0, _⟩ := (hdk w (ChgP.refl _ _)).2
  have hfl := hr.first
  have hd1 := hr.d1
  have hd2 := hr.d2
  obtain ⟨_, _, hse, hsf⟩ := RdI.outI hf0
  cases hse
  obtain ⟨bf, of_, rfl⟩ := hsf (by omega)
  have hf : ∀ w', ChgP D w w' → RdI w' bf (bf + 1) (.slice (some ⟨bf, of_, none⟩) r.first.length cf) r.first := fun w' hc => by
    obtain ⟨lo', hi', h⟩ := (hdk w' hc).2.fr
    exact RdI.narrow h
  have hm : ∀ w', ChgP (DL (L s0)) w w' → ChgP D w w' := fun w' hc => ⟨hc.os, hc.tape, hc.output, hc.size, fun k hk hk2 => hc.block k hk (fun h => hk2 (hLD k h))⟩
  have hP1 : ∀ w', ChgP (DL (L s0)) w w' → Blk w' bd [.pointer (some ⟨b, 0, none⟩)] t1 := fun w' hc => (hc.block bd hbd.lt (fun h => hDd (hLD bd h))).trans hbd
  have hP3 : ∀ w', ChgP (DL (L s0)) w w' → Blk w' b _ bt := fun w' hc => (hdk w' (hm w' hc)).1
  have hblt : bf < w.heap.size := by
    obtain ⟨_, h⟩ := (hf w (ChgP.refl _ _)).row
    rcases h with ⟨h, _⟩ | ⟨_, _, _, he, h3, _⟩
    · cases h
    · cases he; exact (h3 (by omega)).2.2
  have htot := hr.total
  have hpow1 : some (Value.int .i64 r.total) = some (.int .i64 (r.total ^ (0 + 1))) := by rw [Int.pow_succ, Int.pow_zero, Int.one_mul]
  refine q_of (H := [un (L s0)]) (Sat.un1.2 hsat) Try.func143 rfl (by simp [Try.ntmps143]) ?_
  (refine q_seq ?_; refine q_region ?_)
  refine ql_alloc zero168 rfl (fun b3 => ?_)
  (refine q_nil ?_; refine q_seq ?_)
  refine q_draw _ [.pt b3 _ _] (Sp.cons (by repeat constructor) (Sp.refl _)) (by kernel_rfl) (by kernel_rfl) ?_
  refine qf_slA w_arr rfl rfl ?_
  (refine qf_loadG tabOk rfl rfl rfl (by assumption) (by rfl) ?_; (iterate 3 refine qf_pure tabOk rfl rfl rfl ?_); refine qf_loadG tabOk rfl rfl rfl (by assumption) (by rfl) ?_)
  refine qf_copyI (l := r.first) (L := List.replicate 5 0) u22 sz3 rfl rfl rfl (by repeat constructor) (by simp) (by omega) (by omega) rfl (fun w' hs => hf w' (hm w' hs.chg)) ?_
  (refine qf_nil ?_; refine q_seq ?_; refine q_region ?_; refine ql_loadG tabOk rfl rfl rfl (by assumption) (by rfl) ?_; (iterate 3 refine ql_pure tabOk rfl rfl ?_); refine ql_loadG tabOk rfl rfl rfl (by assumption) (by rfl) ?_; refine ql_pure tabOk rfl rfl ?_; refine q_nil ?_; refine q_seq ?_; refine q_region ?_; refine ql_pure tabOk rfl rfl ?_; refine q_nil ?_; refine q_block ?_)
  refine q_loop (σ := Nat × σ) (fun s => s.1 ≤ 5 ∧ I ((shotL r).take s.1) s.2) (fun s => 5 - s.1) (fun s => [(0, fv), (1, .pointer (some ⟨bd, 0, none⟩)), (3, .pointer (some ⟨b3, 0, none⟩)), (4, .int .i64 (r.total ^ (s.1 + 1))), (17, .int .i64 s.1)])
    (fun s => [.pt b3 (ints (wts r s.1)) 168, un (L s.2)]) (0, s0) ⟨by omega, hI0⟩ ⟨rfl, rfl, rfl, hpow1, rfl, trivial⟩ (by repeat (first | exact Sp.nil | exact Sp.refl _ | refine Sp.cons (by repeat constructor) ?_)) ?_
  rintro ⟨k, s⟩ ⟨hk, hI⟩ K hK
  simp only at hk hI
  have hwl := wts_length r hr k
  (refine q_seq ?_; refine q_region ?_; refine ql_pure tabOk rfl rfl ?_; refine q_nil ?_; refine q_seq ?_)
  refine q_if rfl (fun hc => ?_) (fun hc => ?_)
  · have hk5 : k < 5 := by simp only at hc; omega
    clear hc
    have htk := tot_bd6 r hr (k + 1) (by omega)
    have htk2 := tot_bd6 r hr (k + 2) (by omega)
    rw [Int.pow_succ] at htk2
    have hwb := wts_bd r hr k (by omega)
    have hp2 : some (Value.int .i64 (r.total ^ (k + 1) * r.total)) = some (.int .i64 (r.total ^ (k + 1 + 1))) := by rw [Int.pow_succ r.total (k + 1)]
    have hp3 : some (Value.int .i64 (IntKind.i64.wrap (r.total ^ (k + 1) * r.total))) = some (.int .i64 (r.total ^ (k + 1 + 1))) := by rw [Int.pow_succ r.total (k + 1), w64 (by omega) (by omega)]
    (refine q_skip ?_; refine q_seq ?_; refine q_block ?_; (iterate 2 refine q_seq ?_); refine q_region ?_; refine ql_pure tabOk rfl rfl ?_)
    refine ql_loadAB (us := ints (wts r k)) tabOk rfl rfl rfl (by repeat first | exact .head _ | refine .tail _ ?_) (by rw [List.drop_zero]; exact List.take_of_length_le (by simp [hwl])) (by simp [hwl]) ?_
    (refine ql_pure tabOk rfl rfl ?_)
    refine ql_callF [un (L s)] [.pt b3 (ints (wts r k)) 168] (DL (L s)) rfl rfl rfl (by repeat (first | exact Sp.nil | exact Sp.refl _ | refine Sp.cons (by repeat constructor) ?_)) (fun b hb => ⟨_, .head _, hb⟩) (yieldF hcb (shotL_split r k hk5) hI) ?_
    rintro s' v (⟨rfl, hI'⟩ | ⟨rfl, hE⟩)
    · (refine ql_pure tabOk rfl rfl ?_; refine q_nil ?_; refine q_cond_false rfl ?_; refine q_skip ?_)
      refine q_drawS 3 _ [.pt b3 _ _] (Sp.cons (by repeat constructor) (Sp.refl _)) (by kernel_rfl) (by kernel_rfl) (by kernel_rfl) fun K1 hK1 => ?_
      (refine qf_loadG tabOk rfl rfl rfl (by assumption) (by rfl) ?_)
      refine qf_loadAB (us := ints (wts r k)) tabOk rfl rfl rfl (by repeat first | exact .head _ | refine .tail _ ?_) (by rw [List.drop_zero]; exact List.take_of_length_le (by simp [hwl])) (by simp [hwl]) ?_
      refine qf_callv (val := .agg (ints (afterS r (wts r k))).toArray) tabOk rfl rfl rfl rfl (fun w hs => ?_) ?_; exact after_ca w b r (wts r k) ⟨_, _, hP3 w hs.chg, (hdk w (hm w hs.chg)).2⟩ hr hwl hwb
      (refine qf_nil ?_)
      refine hK1 _ _ [.pt b3 _ _] (Sp.cons (by repeat constructor) ((by repeat (first | exact Sp.nil | exact Sp.refl _ | refine Sp.cons (by repeat constructor) ?_)))) ?_
      (refine qf_pure tabOk rfl rfl rfl ?_; refine qf_loadG tabOk rfl rfl rfl (by assumption) (by rfl) ?_; (iterate 3 refine qf_pure tabOk rfl rfl rfl ?_); refine qf_loadG tabOk rfl rfl rfl (by assumption) (by rfl) ?_; refine qf_pure tabOk rfl rfl rfl ?_)
      refine qf_setA (us := ints (afterS r (wts r k))) tabOk rfl rfl rfl (by simp [afterS, afterP_length]) (by simp [oneV]) (by repeat constructor) (by simp [hwl]) ?_
      (refine qf_pure tabOk rfl rfl rfl ?_; refine qf_nil ?_; refine q_blk ?_; refine q_region ?_; refine ql_ar tabOk rfl rfl rfl rfl (by omega) (by omega) ?_; refine ql_pure tabOk rfl rfl ?_; refine q_nil ?_)
      exact hK (k + 1, s') _ _ ⟨by simp only; omega, by simp only; rw [shotL_take r k hk5]; exact hI'⟩ (by simp only; omega) ⟨rfl, rfl, rfl, by first | exact hp2 | exact hp3, rfl, trivial⟩ (by repeat (first | exact Sp.nil | exact Sp.refl _ | refine Sp.cons (by repeat constructor) ?_))
    · (refine ql_pure tabOk rfl rfl ?_; refine q_nil ?_; refine q_cond_true rfl ?_; refine q_ret ?_)
      refine q_fin tabOk rfl (by repeat (first | exact RVs.nil | apply RVs.tmp rfl | apply RVs.cellA rfl rfl (by repeat first | exact .head _ | refine .tail _ ?_) (by rfl) | apply RVs.cell1 rfl rfl (by repeat first | exact .head _ | refine .tail _ ?_))) fun w hs => ?_
      exact ⟨s', .inr hE, Sat.un1.1 (hs.sp (by repeat (first | exact Sp.nil | exact Sp.refl _ | refine Sp.cons (by repeat constructor) ?_)))⟩
  · obtain rfl : k = 5 := by simp only at hc; omega
    (refine q_exit _ rfl ?_)
    refine q_end tabOk rfl (by repeat (first | exact RVs.nil | apply RVs.tmp rfl | apply RVs.cellA rfl rfl (by repeat first | exact .head _ | refine .tail _ ?_) (by rfl) | apply RVs.cell1 rfl rfl (by repeat first | exact .head _ | refine .tail _ ?_))) fun w hs => ?_
    exact ⟨s, .inl (by rwa [List.take_of_length_le (by simp [shotL])] at hI), Sat.un1.1 (hs.sp (by repeat (first | exact Sp.nil | exact Sp.refl _ | refine Sp.cons (by repeat constructor) ?_)))⟩

/-! Chances -/
theorem slRR : SlT Try.prog 94 105 1 24 (.slice none 0 0) := ⟨by kernel_rfl, by kernel_rfl, by kernel_rfl, by decide⟩
theorem slR : SlT Try.prog 105 42 2 16 (.agg #[.int .i64 0, .int .i64 0]) := ⟨by kernel_rfl, by kernel_rfl, by kernel_rfl, by decide⟩
def rowX (r : Rg) (k : Nat) : List (Int × Int) := (List.range r.drifts.length).map (chX r k)
def chK (r : Rg) (vs : List Value) : List Ck := vs.zipIdx.map fun p => .ow p.1 42 2 r.drifts.length (spC (rowX r p.2))
theorem chK_snoc (r : Rg) (vs : List Value) (v : Value) : chK r (vs ++ [v]) = chK r vs ++ [.ow v 42 2 r.drifts.length (spC (rowX r vs.length))] := by
  simp [chK, List.zipIdx_append]
theorem rowX_succ (r : Rg) (k n : Nat) : spC ((List.range (n + 1)).map (chX r k)) = spC ((List.range n).map (chX r k)) ++ [.int .i64 (chX r k n).1, .int .i64 (chX r k n).2] := by
  simp [List.range_succ, spC]

set_option maxHeartbeats 2000000 in
theorem chances_ok (w : World) (cs : List Value) (r : Rg) (h : RgC w cs r) (hsm : r.Small) (hlow : r.Low) :
    Ca Try.prog 54 [.agg cs.toArray] w fun v w' => ∃ x : Value × List Value, (v = .tuple #[x.1, .int .i64 0] ∧ x.2.length = 5) ∧ Sat w M0 [un (chK r x.2), .ow x.1 105 1 5 x.2] w' := by
  have h0 := h
  have hR := hlow.right
  have hck := (right_check r).2 hR
  have hd1 := hR.d1
  have hd2 := hR.d2
  obtain ⟨lo, hi, ag, cg, ad, cd, af, cf, an, cn, rfl, hg, hdr, hf, hn⟩ := h
  refine q_ofM (Sat.nil w M0) Try.func54 rfl (by simp [Try.ntmps54]) ?_
  (refine q_seq ?_; refine q_region ?_)
  refine ql_box rfl rfl (fun b1 => ?_)
  ((iterate 2 refine ql_pure tabOk rfl rfl ?_); refine q_nil ?_; refine q_seq ?_; refine q_region ?_; refine ql_loadAB tabOk rfl rfl rfl (by repeat first | exact .head _ | refine .tail _ ?_) (by rfl) (by rfl) ?_)
  refine ql_call (β := Nat) tabOk [] _ M0 rfl rfl rfl rfl (Sp.refl _) (fun _ h => h.elim) (fun w' hs => opened_ok w' _ r (h0.keep hs.chg0) hsm hck) ?_
  rintro bd _ rfl
  (refine ql_pure tabOk rfl rfl ?_; (iterate 2 refine ql_ext tabOk rfl rfl rfl ?_))
  refine ql_alloc zero123 rfl (fun b4 => ?_)
  (refine ql_set tabOk rfl rfl rfl rfl (by repeat constructor) ?_; refine ql_pure tabOk rfl rfl ?_; refine q_nil ?_; (iterate 2 refine q_seq ?_); refine q_region ?_; refine ql_pure tabOk rfl rfl ?_; refine ql_neqF tabOk rfl rfl rfl (by omega) ?_; refine q_nil ?_; refine q_cond_false rfl ?_; refine q_skip ?_; refine q_seq ?_; refine q_region ?_)
  refine ql_alloc zero94 rfl (fun b6 => ?_)
  (refine q_nil ?_; (iterate 2 refine q_seq ?_); refine q_region ?_; refine ql_loadB tabOk rfl rfl rfl (by repeat first | exact .head _ | refine .tail _ ?_) (by rfl) ?_)
  refine ql_call (β := Nat) tabOk [] _ M0 rfl rfl rfl rfl (Sp.refl _) (fun _ h => h.elim) (fun w' hs => shots_ca w' bd) ?_
  rintro bx _ rfl
  (refine q_nil ?_; refine q_block ?_)
  refine q_conv (H' := [un (chK r []), .ow (.slice none 0 0) 105 1 0 [], .pt b6 [.slice none 0 0] 94, .pt bx [.pointer (some ⟨bd, 0, none⟩)] 123, .pt b4 [.pointer (some ⟨bd, 0, none⟩)] 123, .pt bd [.int .i64 r.radius, .int .i64 r.unit, .int .i64 r.clicks, .int .i64 r.total, .slice ag r.group.length cg, .slice ad r.drifts.length cd, .slice af r.first.length cf, .slice an r.next.length cn] 149]) (fun w' hs => Sat.un_nil (Sat.ownil (hs.sp (by repeat (first | exact Sp.nil | exact Sp.refl _ | refine Sp.cons (by repeat constructor) ?_))) _ _)) ?_
  refine q_range encS (Value × List Value) (shotL r) (fun pre s => s.2.length = pre.length) (fun _ _ => False)
    (fun s => [un (chK r s.2), .ow s.1 105 1 s.2.length s.2, .pt b6 [s.1] 94]) [.pt bx [.pointer (some ⟨bd, 0, none⟩)] 123, .pt b4 [.pointer (some ⟨bd, 0, none⟩)] 123, .pt bd [.int .i64 r.radius, .int .i64 r.unit, .int .i64 r.clicks, .int .i64 r.total, .slice ag r.group.length cg, .slice ad r.drifts.length cd, .slice af r.first.length cf, .slice an r.next.length cn] 149] (.slice none 0 0, [])
    rfl (by kernel_rfl) rfl (fun _ _ => rfl) rfl (by repeat (first | exact Sp.nil | exact Sp.refl _ | refine Sp.cons (by repeat constructor) ?_)) ?_ ?_ ?_ (fun _ _ _ h => h.elim)
  · intro w1 D hs hD
    exact shots_it2 w1 D bd bx r (fun w' hc => ⟨(hc.block bd (hs.blk (b := bd) (by repeat first | exact .head _ | refine .tail _ ?_)).lt (fun h => (hD _ h).1 ⟨.pt bd _ _, (by repeat first | exact .head _ | refine .tail _ ?_), rfl⟩)).trans (hs.blk (b := bd) (by repeat first | exact .head _ | refine .tail _ ?_)), h0.keep (hs.chg0.old hc (fun k hk => (hD k hk).2.resolve_left (fun h => h)))⟩) hR (hs.blk (b := bx) (by repeat first | exact .head _ | refine .tail _ ?_)) (fun h => (hD _ h).1 ⟨.pt bx [.pointer (some ⟨bd, 0, none⟩)] _, (by repeat first | exact .head _ | refine .tail _ ?_), rfl⟩)
  · intro pre x post s w1 l rdy bsy K F' hx hI hsat hRR hbegin hend hret hexit
    obtain ⟨hk5, hpre, rfl⟩ := shotL_mem r hx
    generalize hkk : pre.length = kk at *
    obtain ⟨va, vs⟩ := s
    simp only at hI
    have hwl := wts_length r hR kk
    have hwb := wts_bd r hR kk (by omega)
    have htk := tot_bd6 r hR (kk + 1) (by omega)
    (refine q_seq ?_; refine q_region ?_)
    refine ql_alloc zero168 rfl (fun b7 => ?_)
    skip
    refine ql_setA (us := ints (wts r kk)) tabOk rfl rfl rfl (by simp [hwl]) (by simp [oneV]) (by repeat constructor) (by rfl) ?_
    (refine q_nil ?_; refine q_region ?_; refine ql_pure tabOk rfl rfl ?_; refine q_nil ?_)
    refine q_keep [(8, .int .i64 (r.total ^ (kk + 1))), (7, .pointer (some ⟨b7, 0, none⟩)), (6, .pointer (some ⟨b6, 0, none⟩)), (4, .pointer (some ⟨b4, 0, none⟩))] (rdy :: [.pt b7 (ints (wts r kk)) 168, un (chK r vs), .ow va 105 1 vs.length vs, .pt b6 [va] 94]) ⟨rfl, rfl, rfl, rfl, trivial⟩ (by repeat (first | exact Sp.nil | exact Sp.refl _ | refine Sp.cons (by repeat constructor) ?_)) (hbegin _ _ ?_)
    have hB4 : ∀ w', ChgP (DL (rdy :: [un (chK r vs), .ow va 105 1 vs.length vs, .pt b6 [va] 94])) w1 w' → Blk w' b4 [.pointer (some ⟨bd, 0, none⟩)] 123 := fun w' hc => (hRR w' hc).blk (by repeat first | exact .head _ | refine .tail _ ?_)
    have hPd : ∀ w', ChgP (DL (rdy :: [un (chK r vs), .ow va 105 1 vs.length vs, .pt b6 [va] 94])) w1 w' → Blk w' bd [.int .i64 r.radius, .int .i64 r.unit, .int .i64 r.clicks, .int .i64 r.total, .slice ag r.group.length cg, .slice ad r.drifts.length cd, .slice af r.first.length cf, .slice an r.next.length cn] 149 := fun w' hc => (hRR w' hc).blk (b := bd) (by repeat first | exact .head _ | refine .tail _ ?_)
    (refine q_block ?_; refine q_seq ?_; refine q_region ?_; refine ql_pure tabOk rfl rfl ?_; refine q_nil ?_; (iterate 2 refine q_seq ?_); refine q_region ?_; refine ql_loadG tabOk rfl rfl rfl (by assumption) (by rfl) ?_; (iterate 3 refine ql_pure tabOk rfl rfl ?_); refine ql_loadG tabOk rfl rfl rfl (by assumption) (by rfl) ?_; (iterate 2 refine ql_pure tabOk rfl rfl ?_); refine q_nil ?_; refine q_block ?_)
    refine q_conv (H' := [.ow (.slice none 0 0) 42 2 0 (spC ((List.range 0).map (chX r kk))), bsy, .pt b7 (ints (wts r kk)) 168, un (chK r vs), .ow va 105 1 vs.length vs, .pt b6 [va] 94]) (fun w' hs => Sat.ownil (hs.sp (by repeat (first | exact Sp.nil | exact Sp.refl _ | refine Sp.cons (by repeat constructor) ?_))) _ _) ?_
    refine q_loop (σ := Nat × Value) (fun s => s.1 ≤ r.drifts.length) (fun s => r.drifts.length - s.1) (fun s => [(29, .int .i64 s.1), (28, .int .i64 r.drifts.length), (9, s.2), (4, .pointer (some ⟨b4, 0, none⟩)), (6, .pointer (some ⟨b6, 0, none⟩)), (7, .pointer (some ⟨b7, 0, none⟩)), (8, .int .i64 (r.total ^ (kk + 1)))])
      (fun s => [.ow s.2 42 2 s.1 (spC ((List.range s.1).map (chX r kk))), bsy, .pt b7 (ints (wts r kk)) 168, un (chK r vs), .ow va 105 1 vs.length vs, .pt b6 [va] 94]) (0, .slice none 0 0) (by simp) ⟨rfl, rfl, rfl, rfl, rfl, rfl, rfl, trivial⟩ (Sp.refl _) ?_
    rintro ⟨j, vl⟩ hj K2 hK2
    simp only at hj
    dsimp only
    (refine q_seq ?_; refine q_region ?_; refine ql_pure tabOk rfl rfl ?_; refine q_nil ?_; refine q_seq ?_)
    refine q_if rfl (fun hc => ?_) (fun hc => ?_)
    · have hj2 : j < r.drifts.length := by omega
      clear hc
      have hjw : j < (wts r kk).length := by omega
      have hwx := hwb (wts r kk)[j] (List.getElem_mem hjw)
      have hcx : chX r kk j = ratioV (wts r kk)[j] (r.total ^ (kk + 1)) := by simp [chX, chW, List.getD_eq_getElem?_getD, hjw]
      (refine q_skip ?_; refine q_seq ?_; refine q_block ?_; refine q_seq ?_; refine q_region ?_; (iterate 2 refine ql_pure tabOk rfl rfl ?_); refine q_nil ?_; refine q_region ?_; (iterate 2 refine ql_pure tabOk rfl rfl ?_))
      refine ql_indexA w_arr rfl rfl rfl (by omega) (by omega) ?_
      refine ql_loadI tabOk (j) rfl rfl rfl (by repeat first | exact .head _ | refine .tail _ ?_) (by first | rfl | omega | simp) hjw ?_
      (refine ql_pure tabOk rfl rfl ?_)
      refine ql_callv (val := .agg #[.int .i64 (chX r kk j).1, .int .i64 (chX r kk j).2]) tabOk rfl rfl rfl rfl (fun w hs => ?_) ?_; exact by have := ratio_ca (wts r kk)[j] (r.total ^ (kk + 1)) w (by omega) (by omega) (by omega) (by omega); rw [← hcx] at this; exact this
      skip
      refine ql_mkS 42 [.int .i64 (chX r kk j).1, .int .i64 (chX r kk j).2] rfl (by kernel_rfl) rfl (fun bn => ?_)
      refine ql_append (q := 1) slR rfl rfl rfl (fun v' => by repeat constructor) (fun w' hs => ⟨_, _, Blk.rdSp (hs.blk (b := bn) (by repeat first | exact .head _ | refine .tail _ ?_))⟩) (by simp [oneV]) (by omega) (by omega) (fun vl' => ?_)
      (refine ql_pure tabOk rfl rfl ?_; refine q_nil ?_; refine q_blk ?_; refine q_region ?_; refine ql_ar tabOk rfl rfl rfl rfl (by omega) (by omega) ?_; refine ql_pure tabOk rfl rfl ?_; refine q_nil ?_)
      exact hK2 (j + 1, vl') _ _ (by simp only; omega) (by simp only; omega) ⟨rfl, rfl, rfl, rfl, rfl, rfl, rfl, trivial⟩ (by simp only [rowX_succ]; repeat (first | exact Sp.nil | exact Sp.refl _ | refine Sp.cons (by repeat constructor) ?_))
    · obtain rfl : j = r.drifts.length := by omega
      clear hc hK2
      refine q_fact (fun w hs => hs.slice2 (v := vl) (by repeat first | exact .head _ | refine .tail _ ?_)) ?_
      rintro ⟨al, cl, rfl⟩
      (refine q_exit _ rfl ?_; refine q_region ?_; refine ql_loadB tabOk rfl rfl rfl (by repeat first | exact .head _ | refine .tail _ ?_) (by rfl) ?_; refine ql_pure tabOk rfl rfl ?_)
      refine ql_mkS 105 [.slice al r.drifts.length cl] rfl (by kernel_rfl) rfl (fun bn => ?_)
      refine ql_append (q := 1) slRR rfl rfl rfl (fun v' => by repeat constructor) (fun w' hs => ⟨_, _, Blk.rd (hs.blk (b := bn) (by repeat first | exact .head _ | refine .tail _ ?_)) rfl 1⟩) (by simp [oneV]) (by omega) (by omega) (fun va' => ?_)
      refine ql_fact (fun w hs => hs.slice (v := va') (by repeat first | exact .head _ | refine .tail _ ?_)) ?_
      rintro ⟨a1, m1, c1, rfl⟩
      (refine ql_set tabOk rfl rfl rfl rfl (by repeat constructor) ?_; refine q_nil ?_; refine q_blk ?_)
      refine q_conv (H' := [bsy, un (chK r (vs ++ [.slice al r.drifts.length cl])), .ow (.slice a1 m1 c1) 105 1 (vs ++ [Value.slice al r.drifts.length cl]).length (vs ++ [.slice al r.drifts.length cl]), .pt b6 [.slice a1 m1 c1] 94]) (fun w' hs => by
        have h1 := Sat.sp (H' := [.ow (.slice al r.drifts.length cl) 42 2 r.drifts.length (spC (rowX r kk)), un (chK r vs), bsy, .ow (.slice a1 m1 c1) 105 1 (vs.length + 1) (vs ++ [.slice al r.drifts.length cl]), .pt b6 [.slice a1 m1 c1] 94]) hs (by repeat (first | exact Sp.nil | exact Sp.refl _ | refine Sp.cons (by repeat constructor) ?_))
        have hrk : rowX r kk = rowX r vs.length := by rw [hI]
        rw [hrk] at h1
        have h2 := h1.un_in.un_perm (L' := chK r (vs ++ [.slice al r.drifts.length cl])) (by rw [chK_snoc]; exact (List.perm_append_comm (l₁ := [_])))
        have e : (vs ++ [Value.slice al r.drifts.length cl]).length = vs.length + 1 := by simp
        rw [e]
        exact h2.sp (by repeat (first | exact Sp.nil | exact Sp.refl _ | refine Sp.cons (by repeat constructor) ?_))) ?_
      refine hend _ _ (.slice a1 m1 c1, vs ++ [.slice al r.drifts.length cl]) (by simp [hI, hkk]) (by repeat (first | exact Sp.nil | exact Sp.refl _ | refine Sp.cons (by repeat constructor) ?_))
  · rintro D ⟨va, vs⟩ hsx
    have h5 : vs.length = 5 := by simpa [shotL] using hsx
    dsimp only
    refine q_fact (fun w hs => hs.slice (v := va) (by repeat first | exact .head _ | refine .tail _ ?_)) ?_
    rintro ⟨a1, m1, c1, rfl⟩
    (refine q_blk ?_; refine q_seq ?_; refine q_region ?_; refine ql_loadB tabOk rfl rfl rfl (by repeat first | exact .head _ | refine .tail _ ?_) (by rfl) ?_; (iterate 2 refine ql_pure tabOk rfl rfl ?_); refine q_nil ?_; refine q_ret ?_)
    refine q_finMD tabOk (by repeat constructor) rfl (by repeat (first | exact RVs.nil | apply RVs.tmp rfl | apply RVs.cellA rfl rfl (by repeat first | exact .head _ | refine .tail _ ?_) (by rfl) | apply RVs.cell1 rfl rfl (by repeat first | exact .head _ | refine .tail _ ?_))) fun w hs => ?_
    refine ⟨(.slice a1 m1 c1, vs), ⟨rfl, h5⟩, ?_⟩
    rw [← h5]
    exact hs.sp (by repeat (first | exact Sp.nil | exact Sp.refl _ | refine Sp.cons (by repeat constructor) ?_))
end Go.Proofs.Ytohlillcaadidaa

/- The walk of WindBest. -/
namespace Go.Proofs.Ytohlillcaadidaa
open Go Go.Eng

theorem eqR_ne {p q : Int × Int} (h : p ≠ q) : eqL [.int .i64 p.1, .int .i64 p.2] [.int .i64 q.1, .int .i64 q.2] = false := by
  cases he : eqL [.int .i64 p.1, .int .i64 p.2] [.int .i64 q.1, .int .i64 q.2] with
  | false => rfl
  | true =>
    have := eqL_eq [some .i64, some .i64] _ _ rfl rfl he
    simp only [List.cons.injEq, Value.int.injEq, true_and, and_true] at this
    exact absurd (Prod.ext this.1 this.2) h
theorem cellsV {w : World} {g : Nat} {vs sp : List Value} {t : TypeId} (h : Blk w g (vs ++ sp) t) (i : Nat) (hi : i < vs.length) : w.cell? ⟨g, 0 + i * 1, none⟩ = some vs[i] := by
  rw [Blk.cell h, show 0 + i * 1 = i by omega, List.getElem?_append_left hi, List.getElem?_eq_getElem hi]
theorem chK_mem (r : Rg) (vs : List Value) (i : Nat) (hi : i < vs.length) : Ck.ow vs[i] 42 2 r.drifts.length (spC (rowX r i)) ∈ chK r vs := by
  refine List.mem_map.2 ⟨(vs[i], i), ?_, rfl⟩
  rw [List.mem_zipIdx_iff_getElem?]
  simp [hi]
theorem own_rdS {w : World} {v : Value} {l : List (Int × Int)} {t k : Nat} (h : w.ownsRow 0 t 2 v k (spC l)) (hk : k = l.length) : RdS w 0 w.heap.size v l := by
  refine RdE.ofOwn (base := 0) (t := t) ?_ (fun e he => by obtain ⟨x, _, rfl⟩ := List.mem_map.1 he; rfl)
  rw [cells_sp, List.length_map, ← hk]
  exact h

set_option maxRecDepth 40000 in
set_option maxHeartbeats 16000000 in
theorem windBest_ca (w : World) (a : Option Addr) (n c : Nat) (hbyb1 : DkB w 0 w.heap.size (.slice a n c)) :
    Ca Try.prog 11 [.slice a n c] w fun r w' => r = .bool true ∧ Chg [] w w' := by
  refine q_of (Sat.nil w M0) Try.func11 rfl (by simp [Try.ntmps11]) ?_
  (refine q_seq ?_; refine q_region ?_; refine ql_pure tabOk rfl rfl ?_; refine q_nil ?_; refine q_seq ?_; refine q_region ?_; refine ql_pure tabOk rfl rfl ?_)
  refine ql_call (β := Nat) tabOk [] _ M0 rfl rfl rfl rfl (Sp.refl _) (fun _ h => h.elim) (fun w' hs => of_ca w' a n c) ?_
  rintro b1 _ rfl
  refine ql_call (β := List Ck × List Value × Rg) (ψ := fun x v => v = .agg x.2.1.toArray ∧ OwnR x.1 x.2.1 x.2.2 ∧ MadeR 4 6 4 x.2.2) (L' := fun x => [un x.1, dkP (.slice a n c) b1 (0 + 100)]) tabOk [dkP (.slice a n c) b1 (0)] _ (fun x => x = b1) rfl rfl rfl rfl (Sp.cons (by repeat constructor) (Sp.refl _)) (fun x hx => ⟨_, .head _, hx⟩) (fun w' hs => made0 (states := 4) (clicks := 6) (side := 4) hbyb1 hs (by omega) (by omega) (by omega) (by omega) (by omega)) ?_; rintro ⟨Lr, csr, r⟩ _ ⟨rfl, ownr, mader⟩; refine ql_fact (fun w hs => ownr.form2 mader.right hs (by repeat first | exact .head _ | refine .tail _ ?_)) ?_; rintro ⟨bgr, ogr, cgr, bdr, odr, cdr, bfr, ofr, cfr, bnr, onr, cnr, hcsr⟩; dsimp only at hcsr; subst hcsr; dsimp only at ownr mader ⊢
  have hR := mader.right
  have hC := hR.clicks
  have hlow := mader.low
  have hd1 := hR.d1
  have hd2 := hR.d2
  skip
  refine ql_alloc zero25 rfl (fun b3 => ?_)
  (refine ql_setA tabOk rfl rfl rfl rfl rfl (by repeat constructor) rfl ?_; refine q_nil ?_; refine q_seq ?_; refine q_region ?_; refine ql_loadAB tabOk rfl rfl rfl (by repeat first | exact .head _ | refine .tail _ ?_) (by rfl) (by rfl) ?_)
  refine ql_call (β := Value × List Value) (ψ := fun x v => v = .tuple #[x.1, .int .i64 0] ∧ x.2.length = 5) tabOk [] _ M0 rfl rfl rfl rfl (Sp.refl _) (fun _ h => h.elim) (fun w' hs => chances_ok w' [.int .i64 r.radius, .int .i64 r.unit, .int .i64 r.clicks, .int .i64 r.total, .slice (some ⟨bgr, ogr, none⟩) r.group.length cgr, .slice (some ⟨bdr, odr, none⟩) r.drifts.length cdr, .slice (some ⟨bfr, ofr, none⟩) r.first.length cfr, .slice (some ⟨bnr, onr, none⟩) r.next.length cnr] r (ownr.at hs (by repeat first | exact .head _ | refine .tail _ ?_)) mader.small hlow) ?_
  rintro ⟨va, vs⟩ _ ⟨rfl, hv5⟩
  dsimp only at hv5 ⊢
  refine ql_fact (fun w hs => hs.ownSome (v := va) (by repeat first | exact .head _ | refine .tail _ ?_) (by omega)) ?_
  rintro ⟨gv0, cv0, rfl⟩
  (refine ql_pure tabOk rfl rfl ?_; (iterate 2 refine ql_ext tabOk rfl rfl rfl ?_); (iterate 2 refine ql_pure tabOk rfl rfl ?_); refine q_nil ?_; refine q_seq ?_; refine q_region ?_; refine ql_loadAB tabOk rfl rfl rfl (by repeat first | exact .head _ | refine .tail _ ?_) (by rfl) (by rfl) ?_)
  obtain ⟨m, hm, hm1, hm2, hm3⟩ := best_of hlow
  refine ql_callv (val := .tuple #[.int .i64 m, .agg #[.int .i64 (expV r m).1, .int .i64 (expV r m).2], .int .i64 0]) tabOk rfl rfl rfl rfl (fun w hs => ?_) ?_; exact best_ok w [.int .i64 r.radius, .int .i64 r.unit, .int .i64 r.clicks, .int .i64 r.total, .slice (some ⟨bgr, ogr, none⟩) r.group.length cgr, .slice (some ⟨bdr, odr, none⟩) r.drifts.length cdr, .slice (some ⟨bfr, ofr, none⟩) r.first.length cfr, .slice (some ⟨bnr, onr, none⟩) r.next.length cnr] r m (ownr.at hs (by repeat first | exact .head _ | refine .tail _ ?_)) mader.small hm
  (refine ql_pure tabOk rfl rfl ?_; (iterate 3 refine ql_ext tabOk rfl rfl rfl ?_))
  refine ql_alloc zero42 rfl (fun b7 => ?_)
  (refine ql_pure tabOk rfl rfl ?_; refine ql_setA tabOk rfl rfl rfl rfl rfl (by repeat constructor) rfl ?_; refine ql_pure tabOk rfl rfl ?_; refine q_nil ?_; (iterate 2 refine q_seq ?_); refine q_region ?_; refine ql_pure tabOk rfl rfl ?_; refine ql_neqF tabOk rfl rfl rfl (by omega) ?_; refine ql_pure tabOk rfl rfl ?_; refine ql_gyes rfl ?_; refine ql_pure tabOk rfl rfl ?_; refine ql_gyes rfl ?_; refine ql_neqF tabOk rfl rfl rfl (by omega) ?_; (iterate 2 refine ql_pure tabOk rfl rfl ?_); refine ql_gyes rfl ?_; refine ql_pure tabOk rfl rfl ?_; refine ql_gyes rfl ?_; refine ql_pure tabOk rfl rfl ?_; refine ql_gyes rfl ?_; refine ql_neqF tabOk rfl rfl rfl (by omega) ?_; (iterate 2 refine ql_pure tabOk rfl rfl ?_); refine ql_gyes rfl ?_; refine ql_pure tabOk rfl rfl ?_; refine ql_gyes rfl ?_; refine ql_pure tabOk rfl rfl ?_; refine ql_gyes rfl ?_; refine ql_loadB tabOk rfl rfl rfl (by repeat first | exact .head _ | refine .tail _ ?_) (by rfl) ?_; refine ql_gyes rfl ?_; refine ql_neg tabOk rfl rfl (by omega) (by omega) ?_; refine ql_gyes rfl ?_; refine ql_lssF tabOk rfl rfl rfl (by omega) ?_; (iterate 2 refine ql_pure tabOk rfl rfl ?_); refine ql_gyes rfl ?_; refine ql_pure tabOk rfl rfl ?_; refine ql_gyes rfl ?_; refine ql_pure tabOk rfl rfl ?_; refine ql_gyes rfl ?_; refine ql_loadB tabOk rfl rfl rfl (by repeat first | exact .head _ | refine .tail _ ?_) (by rfl) ?_; refine ql_gyes rfl ?_; refine ql_gtrF tabOk rfl rfl rfl (by omega) ?_; refine ql_pure tabOk rfl rfl ?_; refine q_nil ?_; refine q_cond_false rfl ?_; refine q_skip ?_; (iterate 2 refine q_seq ?_); refine q_region ?_; refine ql_pure tabOk rfl rfl ?_; refine ql_loadB tabOk rfl rfl rfl (by repeat first | exact .head _ | refine .tail _ ?_) (by rfl) ?_; refine ql_neg tabOk rfl rfl (by omega) (by omega) ?_; refine ql_pure tabOk rfl rfl ?_; refine q_nil ?_; refine q_block ?_)
  refine q_conv (H' := [.ow (.slice (some ⟨gv0, 0, none⟩) 5 cv0) 105 1 5 vs, .pt b7 [.int .i64 (expV r m).1, .int .i64 (expV r m).2] 42, un (chK r vs), .pt b3 [.int .i64 r.radius, .int .i64 r.unit, .int .i64 r.clicks, .int .i64 r.total, .slice (some ⟨bgr, ogr, none⟩) r.group.length cgr, .slice (some ⟨bdr, odr, none⟩) r.drifts.length cdr, .slice (some ⟨bfr, ofr, none⟩) r.first.length cfr, .slice (some ⟨bnr, onr, none⟩) r.next.length cnr] 25, un Lr]) (fun w' hs => hs.sp (by repeat (first | exact Sp.nil | exact Sp.refl _ | refine Sp.cons (by repeat constructor) ?_))) ?_
  refine q_ow (by omega) (fun gv cv sp hgv => ?_)
  rw [hgv]
  refine q_loop (σ := Int) (fun s => -r.clicks ≤ s ∧ s ≤ r.clicks + 1) (fun s => (r.clicks + 1 - s).toNat) (fun cc => [(3, .pointer (some ⟨b3, 0, none⟩)), (4, .slice (some ⟨gv, 0, none⟩) 5 cv), (6, .int .i64 m), (7, .pointer (some ⟨b7, 0, none⟩)), (9, .int .i64 cc)])
    (fun _ => [.pt b7 [.int .i64 (expV r m).1, .int .i64 (expV r m).2] 42, un (chK r vs), .pt gv (vs ++ sp) 105, .pt b3 [.int .i64 r.radius, .int .i64 r.unit, .int .i64 r.clicks, .int .i64 r.total, .slice (some ⟨bgr, ogr, none⟩) r.group.length cgr, .slice (some ⟨bdr, odr, none⟩) r.drifts.length cdr, .slice (some ⟨bfr, ofr, none⟩) r.first.length cfr, .slice (some ⟨bnr, onr, none⟩) r.next.length cnr] 25, un Lr]) (-r.clicks) ⟨by omega, by omega⟩ ⟨rfl, rfl, rfl, rfl, rfl, trivial⟩ (by repeat (first | exact Sp.nil | exact Sp.refl _ | refine Sp.cons (by repeat constructor) ?_)) ?_
  intro cc ⟨hc1, hc2⟩ K1 hK1
  ((iterate 2 refine q_seq ?_); refine q_region ?_; (iterate 2 refine ql_pure tabOk rfl rfl ?_); refine ql_loadB tabOk rfl rfl rfl (by repeat first | exact .head _ | refine .tail _ ?_) (by rfl) ?_; refine ql_pure tabOk rfl rfl ?_; refine q_nil ?_)
  refine q_if rfl (fun hc => ?_) (fun hc => ?_)
  · have hcc : -r.clicks ≤ cc ∧ cc ≤ r.clicks := by omega
    clear hc
    have f1 := expV_bd hlow cc
    have f2 := expV_bd hlow m
    (refine q_skip ?_; refine q_seq ?_; refine q_block ?_; refine q_seq ?_; refine q_region ?_; refine ql_loadAB tabOk rfl rfl rfl (by repeat first | exact .head _ | refine .tail _ ?_) (by rfl) (by rfl) ?_; refine ql_pure tabOk rfl rfl ?_)
    refine ql_callv (val := .tuple #[.agg #[.int .i64 (expV r cc).1, .int .i64 (expV r cc).2], .int .i64 0]) tabOk rfl rfl rfl rfl (fun w hs => ?_) ?_; exact expd_ok w [.int .i64 r.radius, .int .i64 r.unit, .int .i64 r.clicks, .int .i64 r.total, .slice (some ⟨bgr, ogr, none⟩) r.group.length cgr, .slice (some ⟨bdr, odr, none⟩) r.drifts.length cdr, .slice (some ⟨bfr, ofr, none⟩) r.first.length cfr, .slice (some ⟨bnr, onr, none⟩) r.next.length cnr] r cc (ownr.at hs (by repeat first | exact .head _ | refine .tail _ ?_)) mader.small hR hcc
    (refine ql_pure tabOk rfl rfl ?_; (iterate 2 refine ql_ext tabOk rfl rfl rfl ?_))
    refine ql_alloc zero42 rfl (fun b10 => ?_)
    (refine ql_setA tabOk rfl rfl rfl rfl rfl (by repeat constructor) rfl ?_; refine ql_pure tabOk rfl rfl ?_; refine q_nil ?_; (iterate 2 refine q_seq ?_))
    refine q_cut (σ := Unit) (fun _ => [(3, .pointer (some ⟨b3, 0, none⟩)), (4, .slice (some ⟨gv, 0, none⟩) 5 cv), (6, .int .i64 m), (7, .pointer (some ⟨b7, 0, none⟩)), (9, .int .i64 cc), (10, .pointer (some ⟨b10, 0, none⟩)), (123, .bool false)]) (fun _ => [.pt b10 [.int .i64 (expV r cc).1, .int .i64 (expV r cc).2] 42, .pt b7 [.int .i64 (expV r m).1, .int .i64 (expV r m).2] 42, un (chK r vs), .pt gv (vs ++ sp) 105, .pt b3 [.int .i64 r.radius, .int .i64 r.unit, .int .i64 r.clicks, .int .i64 r.total, .slice (some ⟨bgr, ogr, none⟩) r.group.length cgr, .slice (some ⟨bdr, odr, none⟩) r.drifts.length cdr, .slice (some ⟨bfr, ofr, none⟩) r.first.length cfr, .slice (some ⟨bnr, onr, none⟩) r.next.length cnr] 25, un Lr]) ?_ (fun K2 hK2 => ?_)
    rotate_left
    · (refine q_region ?_; refine ql_pure tabOk rfl rfl ?_; refine ql_neqF tabOk rfl rfl rfl (by omega) ?_; refine ql_pure tabOk rfl rfl ?_; refine ql_gyes rfl ?_; refine ql_loadAB tabOk rfl rfl rfl (by repeat first | exact .head _ | refine .tail _ ?_) (by rfl) (by rfl) ?_; refine ql_gyes rfl ?_)
      refine ql_callv (val := .bool true) tabOk rfl rfl rfl rfl (fun w hs => ?_) ?_; exact fair_ca (expV r cc) 5 w (by omega) (by omega) (by omega) (by omega) (by omega)
      (refine ql_gyes rfl ?_; (iterate 3 refine ql_pure tabOk rfl rfl ?_); refine ql_gyes rfl ?_; refine ql_loadAB tabOk rfl rfl rfl (by repeat first | exact .head _ | refine .tail _ ?_) (by rfl) (by rfl) ?_; refine ql_gyes rfl ?_; refine ql_loadAB tabOk rfl rfl rfl (by repeat first | exact .head _ | refine .tail _ ?_) (by rfl) (by rfl) ?_; refine ql_gyes rfl ?_)
      refine ql_callv (val := .bool false) tabOk rfl rfl rfl rfl (fun w hs => ?_) ?_; exact by have := lessL_ca (expV r cc) (expV r m) w (expV_fine r hR cc) (expV_fine r hR m); rw [expV_less hlow, decide_eq_false (by have := hm2 cc hcc; omega)] at this; exact this
      ((iterate 2 refine ql_pure tabOk rfl rfl ?_); refine ql_gyes rfl ?_; refine ql_loadAB tabOk rfl rfl rfl (by repeat first | exact .head _ | refine .tail _ ?_) (by rfl) (by rfl) ?_; refine ql_gyes rfl ?_; refine ql_loadAB tabOk rfl rfl rfl (by repeat first | exact .head _ | refine .tail _ ?_) (by rfl) (by rfl) ?_; refine ql_gyes rfl ?_)
      by_cases heq : expV r cc = expV r m
      · have hno := hm3 cc hcc (expV_inj hlow heq)
        obtain ⟨ne1, ne2⟩ := not_or.1 hno
        have hq1 := mul_bd (A := 6) (B := 6) (a := cc) (b := cc) (by omega) (by omega)
        have hq2 := mul_bd (A := 6) (B := 6) (a := m) (b := m) (by omega) (by omega)
        rw [heq]
        refine ql_eqF [some .i64, some .i64] rat_flat rfl rfl rfl rfl rfl ?_; rw [eqL_refl]
        (refine ql_gyes rfl ?_; refine ql_pure tabOk rfl rfl ?_; refine ql_gyes rfl ?_; refine ql_pure tabOk rfl rfl ?_; refine ql_gyes rfl ?_; refine ql_pure tabOk rfl rfl ?_; refine ql_gyes rfl ?_; refine ql_ar tabOk rfl rfl rfl rfl (by omega) (by omega) ?_; refine ql_gyes rfl ?_; refine ql_pure tabOk rfl rfl ?_; refine ql_gyes rfl ?_; refine ql_pure tabOk rfl rfl ?_; refine ql_gyes rfl ?_; refine ql_ar tabOk rfl rfl rfl rfl (by omega) (by omega) ?_; refine ql_gyes rfl ?_; refine ql_lssF tabOk rfl rfl rfl (by omega) ?_; refine ql_gyes rfl ?_; refine ql_pure tabOk rfl rfl ?_; refine ql_gyes rfl ?_; refine ql_pure tabOk rfl rfl ?_; refine ql_gyes rfl ?_; refine ql_pure tabOk rfl rfl ?_; refine ql_gyes rfl ?_; refine ql_neg tabOk rfl rfl (by omega) (by omega) ?_; refine ql_gyes rfl ?_; refine ql_pure tabOk rfl rfl ?_; refine ql_gyes rfl ?_; refine ql_pure tabOk rfl rfl ?_)
        by_cases hz1 : cc = -m
        · rw [decide_eq_true hz1]
          (refine ql_gyes rfl ?_; refine ql_pure tabOk rfl rfl ?_; refine ql_gyes rfl ?_; refine ql_pure tabOk rfl rfl ?_; refine ql_gyes rfl ?_; refine ql_lssF tabOk rfl rfl rfl (by omega) ?_; refine ql_gyes rfl ?_; refine ql_pure tabOk rfl rfl ?_; refine ql_gyes rfl ?_; refine ql_pure tabOk rfl rfl ?_; refine ql_gyes rfl ?_; (iterate 3 refine ql_pure tabOk rfl rfl ?_); refine ql_gyes rfl ?_; refine ql_pure tabOk rfl rfl ?_; refine ql_gyes rfl ?_; refine ql_pure tabOk rfl rfl ?_; refine ql_gyes rfl ?_; refine ql_pure tabOk rfl rfl ?_; refine ql_gyes rfl ?_; refine ql_pure tabOk rfl rfl ?_)
          by_cases hz2 : cc = m
          · rw [decide_eq_true hz2]
            (refine ql_gyes rfl ?_; refine ql_loadAB tabOk rfl rfl rfl (by repeat first | exact .head _ | refine .tail _ ?_) (by rfl) (by rfl) ?_; refine ql_gyes rfl ?_; refine ql_loadAB tabOk rfl rfl rfl (by repeat first | exact .head _ | refine .tail _ ?_) (by rfl) (by rfl) ?_; refine ql_gyes rfl ?_)
            refine ql_neF [some .i64, some .i64] rat_flat rfl rfl rfl rfl rfl ?_; rw [eqL_refl]
            (refine ql_gyes rfl ?_; (iterate 2 refine ql_pure tabOk rfl rfl ?_); refine q_nil ?_)
            exact hK2 () _ _ ⟨rfl, rfl, rfl, rfl, rfl, rfl, rfl, trivial⟩ (by rw [heq]; repeat (first | exact Sp.nil | exact Sp.refl _ | refine Sp.cons (by repeat constructor) ?_))
          · rw [decide_eq_false hz2]
            ((iterate 3 refine ql_gno rfl rfl rfl ?_); refine ql_gyes rfl ?_; (iterate 2 refine ql_pure tabOk rfl rfl ?_); refine q_nil ?_)
            exact hK2 () _ _ ⟨rfl, rfl, rfl, rfl, rfl, rfl, rfl, trivial⟩ (by rw [heq]; repeat (first | exact Sp.nil | exact Sp.refl _ | refine Sp.cons (by repeat constructor) ?_))
        · rw [decide_eq_false hz1]
          ((iterate 3 refine ql_gno rfl rfl rfl ?_); refine ql_gyes rfl ?_; refine ql_pure tabOk rfl rfl ?_; refine ql_gyes rfl ?_; refine ql_pure tabOk rfl rfl ?_; refine ql_gyes rfl ?_; (iterate 3 refine ql_pure tabOk rfl rfl ?_); refine ql_gyes rfl ?_; refine ql_pure tabOk rfl rfl ?_; refine ql_gyes rfl ?_; refine ql_pure tabOk rfl rfl ?_; refine ql_gyes rfl ?_; refine ql_pure tabOk rfl rfl ?_; refine ql_gyes rfl ?_; refine ql_pure tabOk rfl rfl ?_)
          by_cases hz2 : cc = m
          · rw [decide_eq_true hz2]
            (refine ql_gyes rfl ?_; refine ql_loadAB tabOk rfl rfl rfl (by repeat first | exact .head _ | refine .tail _ ?_) (by rfl) (by rfl) ?_; refine ql_gyes rfl ?_; refine ql_loadAB tabOk rfl rfl rfl (by repeat first | exact .head _ | refine .tail _ ?_) (by rfl) (by rfl) ?_; refine ql_gyes rfl ?_)
            refine ql_neF [some .i64, some .i64] rat_flat rfl rfl rfl rfl rfl ?_; rw [eqL_refl]
            (refine ql_gyes rfl ?_; (iterate 2 refine ql_pure tabOk rfl rfl ?_); refine q_nil ?_)
            exact hK2 () _ _ ⟨rfl, rfl, rfl, rfl, rfl, rfl, rfl, trivial⟩ (by rw [heq]; repeat (first | exact Sp.nil | exact Sp.refl _ | refine Sp.cons (by repeat constructor) ?_))
          · rw [decide_eq_false hz2]
            ((iterate 3 refine ql_gno rfl rfl rfl ?_); refine ql_gyes rfl ?_; (iterate 2 refine ql_pure tabOk rfl rfl ?_); refine q_nil ?_)
            exact hK2 () _ _ ⟨rfl, rfl, rfl, rfl, rfl, rfl, rfl, trivial⟩ (by rw [heq]; repeat (first | exact Sp.nil | exact Sp.refl _ | refine Sp.cons (by repeat constructor) ?_))
      · have hne : cc ≠ m := fun h => heq (by rw [h])
        refine ql_eqF (xs := [.int .i64 (expV r cc).1, .int .i64 (expV r cc).2]) (ys := [.int .i64 (expV r m).1, .int .i64 (expV r m).2]) [some .i64, some .i64] rat_flat rfl rfl rfl rfl rfl ?_
        rw [eqR_ne heq]
        (refine ql_gyes rfl ?_; refine ql_pure tabOk rfl rfl ?_; (iterate 8 refine ql_gno rfl rfl rfl ?_); (iterate 9 refine ql_gnone rfl rfl ?_); refine ql_gno rfl rfl rfl ?_; refine ql_gyes rfl ?_; (iterate 3 refine ql_pure tabOk rfl rfl ?_); refine ql_gyes rfl ?_; refine ql_pure tabOk rfl rfl ?_; refine ql_gyes rfl ?_; refine ql_pure tabOk rfl rfl ?_; refine ql_gyes rfl ?_; refine ql_eqlF tabOk rfl rfl rfl (by omega) ?_; refine ql_gyes rfl ?_; refine ql_pure tabOk rfl rfl ?_; (iterate 3 refine ql_gno rfl rfl rfl ?_); refine ql_gyes rfl ?_; (iterate 2 refine ql_pure tabOk rfl rfl ?_); refine q_nil ?_)
        exact hK2 () _ _ ⟨rfl, rfl, rfl, rfl, rfl, rfl, rfl, trivial⟩ (by repeat (first | exact Sp.nil | exact Sp.refl _ | refine Sp.cons (by repeat constructor) ?_))
    intro _
    (refine q_cond_false rfl ?_; refine q_skip ?_; refine q_seq ?_; refine q_region ?_)
    refine ql_mk #[.int .i64 0, .int .i64 1] rfl (by kernel_rfl) rfl ?_
    skip
    refine ql_alloc zero42 rfl (fun b12 => ?_)
    (refine ql_setA tabOk rfl rfl rfl rfl rfl (by repeat constructor) rfl ?_; refine q_nil ?_; (iterate 2 refine q_seq ?_); refine q_region ?_; (iterate 3 refine ql_pure tabOk rfl rfl ?_); refine q_nil ?_; refine q_block ?_)
    refine q_loop (σ := Nat) (fun s => s ≤ 5) (fun s => 5 - s) (fun s => [(3, .pointer (some ⟨b3, 0, none⟩)), (4, .slice (some ⟨gv, 0, none⟩) 5 cv), (6, .int .i64 m), (7, .pointer (some ⟨b7, 0, none⟩)), (9, .int .i64 cc), (10, .pointer (some ⟨b10, 0, none⟩)), (12, .pointer (some ⟨b12, 0, none⟩)), (125, .slice (some ⟨gv, 0, none⟩) 5 cv), (126, .int .i64 5), (127, .int .i64 s)])
      (fun s => [.pt b12 [.int .i64 (bsum r cc s 0).1, .int .i64 (bsum r cc s 0).2] 42, .pt b10 [.int .i64 (expV r cc).1, .int .i64 (expV r cc).2] 42, .pt b7 [.int .i64 (expV r m).1, .int .i64 (expV r m).2] 42, un (chK r vs), .pt gv (vs ++ sp) 105, .pt b3 [.int .i64 r.radius, .int .i64 r.unit, .int .i64 r.clicks, .int .i64 r.total, .slice (some ⟨bgr, ogr, none⟩) r.group.length cgr, .slice (some ⟨bdr, odr, none⟩) r.drifts.length cdr, .slice (some ⟨bfr, ofr, none⟩) r.first.length cfr, .slice (some ⟨bnr, onr, none⟩) r.next.length cnr] 25, un Lr]) 0 (by omega) ⟨rfl, rfl, rfl, rfl, rfl, rfl, rfl, rfl, lookI rfl (by omega), rfl, trivial⟩ (by rw [bsum_00 hlow]; repeat (first | exact Sp.nil | exact Sp.refl _ | refine Sp.cons (by repeat constructor) ?_)) ?_
    intro k hk K2 hK2
    (refine q_seq ?_; refine q_region ?_; refine ql_pure tabOk rfl rfl ?_; refine q_nil ?_; refine q_seq ?_)
    refine q_if rfl (fun hc => ?_) (fun hc => ?_)
    · have hk5 : k < 5 := by omega
      clear hc
      have hkv : k < vs.length := by omega
      (refine q_skip ?_; refine q_seq ?_; refine q_block ?_; refine q_seq ?_; refine q_region ?_)
      refine ql_index tabOk rfl rfl rfl rfl rfl (by omega) (by omega) ?_
      refine ql_load1 tabOk rfl rfl rfl (fun w hs => cellsV (hs.blk (b := gv) (by repeat first | exact .head _ | refine .tail _ ?_)) k hkv) ?_
      refine ql_fact (fun w hs => own_some (hs.un_mem (L := chK r vs) (by repeat first | exact .head _ | refine .tail _ ?_) (chK_mem r vs k hkv)) (by omega)) ?_
      rintro ⟨gk, ck, hgk⟩
      rw [hgk]
      have hrow : ∀ w' H, un (chK r vs) ∈ H → Sat w M0 H w' → RdS w' 0 w'.heap.size (.slice (some ⟨gk, 0, none⟩) r.drifts.length ck) (rowX r k) := fun w' H hm hs => by
        rw [← hgk]
        exact own_rdS (hs.un_mem hm (chK_mem r vs k hkv)) (by simp [rowX])
      (refine ql_pure tabOk rfl rfl ?_; refine q_nil ?_; refine q_seq ?_; refine q_region ?_)
      refine ql_mk #[.int .i64 0, .int .i64 1] rfl (by kernel_rfl) rfl ?_
      skip
      refine ql_alloc zero42 rfl (fun b15 => ?_)
      (refine ql_setA tabOk rfl rfl rfl rfl rfl (by repeat constructor) rfl ?_; refine q_nil ?_; (iterate 2 refine q_seq ?_); refine q_region ?_; (iterate 3 refine ql_pure tabOk rfl rfl ?_); refine ql_loadB tabOk rfl rfl rfl (by repeat first | exact .head _ | refine .tail _ ?_) (by rfl) ?_; refine ql_pure tabOk rfl rfl ?_; refine ql_neqF tabOk rfl rfl rfl (by omega) ?_; refine q_nil ?_; refine q_cond_false rfl ?_; refine q_skip ?_; (iterate 2 refine q_seq ?_); refine q_region ?_; (iterate 3 refine ql_pure tabOk rfl rfl ?_); refine q_nil ?_; refine q_block ?_)
      refine q_loop (σ := Nat) (fun s => s ≤ r.drifts.length) (fun s => r.drifts.length - s) (fun s => [(3, .pointer (some ⟨b3, 0, none⟩)), (4, .slice (some ⟨gv, 0, none⟩) 5 cv), (6, .int .i64 m), (7, .pointer (some ⟨b7, 0, none⟩)), (9, .int .i64 cc), (10, .pointer (some ⟨b10, 0, none⟩)), (12, .pointer (some ⟨b12, 0, none⟩)), (125, .slice (some ⟨gv, 0, none⟩) 5 cv), (126, .int .i64 5), (127, .int .i64 k), (15, .pointer (some ⟨b15, 0, none⟩)), (138, .slice (some ⟨gk, 0, none⟩) r.drifts.length ck), (139, .int .i64 r.drifts.length), (140, .int .i64 s)])
        (fun s => [.pt b15 [.int .i64 (bone r k s).1, .int .i64 (bone r k s).2] 42, .pt b12 [.int .i64 (bsum r cc k s).1, .int .i64 (bsum r cc k s).2] 42, .pt b10 [.int .i64 (expV r cc).1, .int .i64 (expV r cc).2] 42, .pt b7 [.int .i64 (expV r m).1, .int .i64 (expV r m).2] 42, un (chK r vs), .pt gv (vs ++ sp) 105, .pt b3 [.int .i64 r.radius, .int .i64 r.unit, .int .i64 r.clicks, .int .i64 r.total, .slice (some ⟨bgr, ogr, none⟩) r.group.length cgr, .slice (some ⟨bdr, odr, none⟩) r.drifts.length cdr, .slice (some ⟨bfr, ofr, none⟩) r.first.length cfr, .slice (some ⟨bnr, onr, none⟩) r.next.length cnr] 25, un Lr]) 0 (by omega) ⟨rfl, rfl, rfl, rfl, rfl, rfl, rfl, rfl, rfl, rfl, rfl, rfl, rfl, rfl, trivial⟩ (by rw [bone_0 hlow k hk5]; repeat (first | exact Sp.nil | exact Sp.refl _ | refine Sp.cons (by repeat constructor) ?_)) ?_
      intro j hj K3 hK3
      (refine q_seq ?_; refine q_region ?_; refine ql_pure tabOk rfl rfl ?_; refine q_nil ?_; refine q_seq ?_)
      refine q_if rfl (fun hc => ?_) (fun hc => ?_)
      · have hj2 : j < r.drifts.length := by omega
        clear hc
        have hjr : j < (rowX r k).length := by simp [rowX]; exact hj2
        have hrj : (rowX r k)[j] = chX r k j := by simp [rowX]
        have x1 := chX_bd hlow k j hk5
        have x2 := hitX_bd hlow j cc
        have x3 := miss_bd hlow k j cc hk5
        have x4 := miss_at hlow k j cc hk5
        have x5 := bsum_bd hlow cc k j (.inl hk5) (by omega)
        have x6 := bsum_step hlow cc k j hk5 (by omega)
        have x7 := bone_bd hlow k j hk5 (by omega)
        have x8 := bone_step hlow k j hk5
        have hden := den6 hlow (k + 1) (by omega)
        have x9 := wts_le hR k j
        have x10 := missS_bd r hR (r.drifts.getD j 0) cc
        have x11 : 0 ≤ chW r k j * missS r (r.drifts.getD j 0) cc ∧ chW r k j * missS r (r.drifts.getD j 0) cc ≤ r.total ^ (k + 1) * r.group.sum := mul_bd0 x9 x10
        have x12 := ratioV_pos x11.1 (d := r.total ^ (k + 1) * r.group.sum) (by omega)
        generalize hM : ratioV (chW r k j * missS r (r.drifts.getD j 0) cc) (r.total ^ (k + 1) * r.group.sum) = M at *
        (refine q_skip ?_; refine q_seq ?_; refine q_block ?_; refine q_seq ?_; refine q_region ?_; refine ql_pure tabOk rfl rfl ?_)
        refine ql_index tabOk rfl rfl rfl rfl rfl (by omega) (by omega) ?_
        refine ql_loadA (cs := [.int .i64 (chX r k j).1, .int .i64 (chX r k j).2]) tabOk rfl rfl rfl rfl (fun w hs => by have h := hrow w _ (by repeat first | exact .head _ | refine .tail _ ?_) hs; have := RdS.at (l := rowX r k) (len := r.drifts.length) (cap := ck) (by exact h) j hjr; rw [hrj] at this; exact this) ?_
        skip
        refine ql_alloc zero42 rfl (fun b17 => ?_)
        (refine ql_pure tabOk rfl rfl ?_; refine ql_setA tabOk rfl rfl rfl rfl rfl (by repeat constructor) rfl ?_; refine q_nil ?_; refine q_seq ?_; refine q_region ?_; refine ql_loadAB tabOk rfl rfl rfl (by repeat first | exact .head _ | refine .tail _ ?_) (by rfl) (by rfl) ?_; (iterate 2 refine ql_pure tabOk rfl rfl ?_))
        refine ql_callv (val := .tuple #[.agg #[.int .i64 (hitX r j cc).1, .int .i64 (hitX r j cc).2], .int .i64 0]) tabOk rfl rfl rfl rfl (fun w hs => ?_) ?_; exact hit_ok w [.int .i64 r.radius, .int .i64 r.unit, .int .i64 r.clicks, .int .i64 r.total, .slice (some ⟨bgr, ogr, none⟩) r.group.length cgr, .slice (some ⟨bdr, odr, none⟩) r.drifts.length cdr, .slice (some ⟨bfr, ofr, none⟩) r.first.length cfr, .slice (some ⟨bnr, onr, none⟩) r.next.length cnr] r j cc (ownr.at hs (by repeat first | exact .head _ | refine .tail _ ?_)) mader.small hR hj2 hcc
        (refine ql_pure tabOk rfl rfl ?_; (iterate 2 refine ql_ext tabOk rfl rfl rfl ?_))
        refine ql_alloc zero42 rfl (fun b18 => ?_)
        (refine ql_setA tabOk rfl rfl rfl rfl rfl (by repeat constructor) rfl ?_; refine ql_pure tabOk rfl rfl ?_; refine q_nil ?_; (iterate 2 refine q_seq ?_); refine q_region ?_; refine ql_pure tabOk rfl rfl ?_; refine ql_neqF tabOk rfl rfl rfl (by omega) ?_; refine ql_pure tabOk rfl rfl ?_; refine ql_gyes rfl ?_; refine ql_loadAB tabOk rfl rfl rfl (by repeat first | exact .head _ | refine .tail _ ?_) (by rfl) (by rfl) ?_; refine ql_gyes rfl ?_)
        refine ql_callv (val := .bool true) tabOk rfl rfl rfl rfl (fun w hs => ?_) ?_; exact fair_ca (chX r k j) 1 w (by omega) (by omega) (by omega) (by omega) (by omega)
        (refine ql_gyes rfl ?_; (iterate 3 refine ql_pure tabOk rfl rfl ?_); refine ql_gyes rfl ?_; refine ql_loadAB tabOk rfl rfl rfl (by repeat first | exact .head _ | refine .tail _ ?_) (by rfl) (by rfl) ?_; refine ql_gyes rfl ?_)
        refine ql_callv (val := .bool true) tabOk rfl rfl rfl rfl (fun w hs => ?_) ?_; exact fair_ca (hitX r j cc) 1 w (by omega) (by omega) (by omega) (by omega) (by omega)
        (refine ql_gyes rfl ?_; (iterate 3 refine ql_pure tabOk rfl rfl ?_); refine ql_gyes rfl ?_; refine ql_pure tabOk rfl rfl ?_; refine ql_gyes rfl ?_; refine ql_loadB tabOk rfl rfl rfl (by repeat first | exact .head _ | refine .tail _ ?_) (by rfl) ?_; refine ql_gyes rfl ?_; refine ql_gtrF tabOk rfl rfl rfl (by omega) ?_; (iterate 2 refine ql_pure tabOk rfl rfl ?_); refine ql_gyes rfl ?_; refine ql_pure tabOk rfl rfl ?_; refine ql_gyes rfl ?_; refine ql_loadB tabOk rfl rfl rfl (by repeat first | exact .head _ | refine .tail _ ?_) (by rfl) ?_; refine ql_gyes rfl ?_; refine ql_gtrF tabOk rfl rfl rfl (by omega) ?_; refine ql_pure tabOk rfl rfl ?_; refine q_nil ?_; refine q_cond_false rfl ?_; refine q_skip ?_; refine q_seq ?_; refine q_region ?_)
        refine ql_mk #[.int .i64 0, .int .i64 1] rfl (by kernel_rfl) rfl ?_
        (refine ql_pure tabOk rfl rfl ?_; refine ql_loadB tabOk rfl rfl rfl (by repeat first | exact .head _ | refine .tail _ ?_) (by rfl) ?_; refine ql_pure tabOk rfl rfl ?_; refine ql_loadB tabOk rfl rfl rfl (by repeat first | exact .head _ | refine .tail _ ?_) (by rfl) ?_; refine ql_pure tabOk rfl rfl ?_; refine ql_loadB tabOk rfl rfl rfl (by repeat first | exact .head _ | refine .tail _ ?_) (by rfl) ?_; (iterate 2 refine ql_ar tabOk rfl rfl rfl rfl (by omega) (by omega) ?_); refine ql_pure tabOk rfl rfl ?_; refine ql_loadB tabOk rfl rfl rfl (by repeat first | exact .head _ | refine .tail _ ?_) (by rfl) ?_; refine ql_pure tabOk rfl rfl ?_; refine ql_loadB tabOk rfl rfl rfl (by repeat first | exact .head _ | refine .tail _ ?_) (by rfl) ?_; refine ql_ar tabOk rfl rfl rfl rfl (by omega) (by omega) ?_)
        refine ql_mk #[.int .i64 ((chX r k j).1 * ((hitX r j cc).2 - (hitX r j cc).1)), .int .i64 ((chX r k j).2 * (hitX r j cc).2)] rfl (by kernel_rfl) rfl ?_
        refine ql_callv (val := .tuple #[.agg #[.int .i64 M.1, .int .i64 M.2], .bool true]) tabOk rfl rfl rfl rfl (fun w hs => ?_) ?_; exact by have := plus_ca (0, 1) ((chX r k j).1 * ((hitX r j cc).2 - (hitX r j cc).1), (chX r k j).2 * (hitX r j cc).2) w (by simp) (by simp only; omega); rw [x4] at this; exact this
        (refine ql_pure tabOk rfl rfl ?_; (iterate 2 refine ql_ext tabOk rfl rfl rfl ?_))
        refine ql_alloc zero42 rfl (fun b20 => ?_)
        (refine ql_setA tabOk rfl rfl rfl rfl rfl (by repeat constructor) rfl ?_; refine ql_pure tabOk rfl rfl ?_; refine q_nil ?_; (iterate 2 refine q_seq ?_); refine q_region ?_; (iterate 2 refine ql_pure tabOk rfl rfl ?_); refine q_nil ?_; refine q_cond_false rfl ?_; refine q_skip ?_; refine q_seq ?_; refine q_region ?_; (iterate 2 refine ql_pure tabOk rfl rfl ?_); refine q_nil ?_; refine q_seq ?_; refine q_region ?_; (iterate 2 refine ql_loadAB tabOk rfl rfl rfl (by repeat first | exact .head _ | refine .tail _ ?_) (by rfl) (by rfl) ?_))
        refine ql_callv (val := .tuple #[.agg #[.int .i64 (bsum r cc k (j + 1)).1, .int .i64 (bsum r cc k (j + 1)).2], .bool true]) tabOk rfl rfl rfl rfl (fun w hs => ?_) ?_; exact by have := plus_ca (bsum r cc k j) M w (by omega) (by omega); rw [x6] at this; exact this
        (refine ql_pure tabOk rfl rfl ?_; (iterate 2 refine ql_ext tabOk rfl rfl rfl ?_); refine ql_setA tabOk rfl rfl rfl rfl rfl (by repeat constructor) rfl ?_; refine ql_pure tabOk rfl rfl ?_; refine q_nil ?_; refine q_seq ?_; refine q_region ?_; (iterate 2 refine ql_loadAB tabOk rfl rfl rfl (by repeat first | exact .head _ | refine .tail _ ?_) (by rfl) (by rfl) ?_))
        refine ql_callv (val := .tuple #[.agg #[.int .i64 (bone r k (j + 1)).1, .int .i64 (bone r k (j + 1)).2], .bool true]) tabOk rfl rfl rfl rfl (fun w hs => ?_) ?_; exact by have := plus_ca (bone r k j) (chX r k j) w (by omega) (by omega); rw [x8] at this; exact this
        (refine ql_pure tabOk rfl rfl ?_; (iterate 2 refine ql_ext tabOk rfl rfl rfl ?_); refine ql_setA tabOk rfl rfl rfl rfl rfl (by repeat constructor) rfl ?_; refine ql_pure tabOk rfl rfl ?_; refine q_nil ?_; refine q_seq ?_; refine q_region ?_; (iterate 3 refine ql_pure tabOk rfl rfl ?_); refine ql_gyes rfl ?_; refine ql_pure tabOk rfl rfl ?_; refine ql_gyes rfl ?_; (iterate 2 refine ql_pure tabOk rfl rfl ?_); refine q_nil ?_; refine q_cond_false rfl ?_; refine q_skip ?_; refine q_blk ?_; refine q_region ?_; refine ql_ar tabOk rfl rfl rfl rfl (by omega) (by omega) ?_; refine ql_pure tabOk rfl rfl ?_; refine q_nil ?_)
        exact hK3 (j + 1) _ _ (by omega) (by omega) ⟨rfl, rfl, rfl, rfl, rfl, rfl, rfl, rfl, rfl, rfl, rfl, rfl, rfl, rfl, trivial⟩ (by repeat (first | exact Sp.nil | exact Sp.refl _ | refine Sp.cons (by repeat constructor) ?_))
      · obtain rfl : j = r.drifts.length := by omega
        clear hc hK3
        rw [bone_all hlow k hk5, bsum_row hlow cc k hk5]
        dsimp only
        (refine q_exit _ rfl ?_; refine q_seq ?_; refine q_region ?_; refine ql_loadAB tabOk rfl rfl rfl (by repeat first | exact .head _ | refine .tail _ ?_) (by rfl) (by rfl) ?_)
        refine ql_mk #[.int .i64 1, .int .i64 1] rfl (by kernel_rfl) rfl ?_
        refine ql_neF (xs := [.int .i64 1, .int .i64 1]) (ys := [.int .i64 1, .int .i64 1]) [some .i64, some .i64] rat_flat rfl rfl rfl rfl rfl ?_
        rw [eqL_refl]
        (refine q_nil ?_; refine q_cond_false rfl ?_; refine q_skip ?_; refine q_blk ?_; refine q_region ?_; refine ql_ar tabOk rfl rfl rfl rfl (by omega) (by omega) ?_; refine ql_pure tabOk rfl rfl ?_; refine q_nil ?_)
        exact hK2 (k + 1) _ _ (by omega) (by omega) ⟨rfl, rfl, rfl, rfl, rfl, rfl, rfl, rfl, rfl, rfl, trivial⟩ (by repeat (first | exact Sp.nil | exact Sp.refl _ | refine Sp.cons (by repeat constructor) ?_))
    · obtain rfl : k = 5 := by omega
      clear hc hK2
      rw [bsum_5 hlow]
      (refine q_exit _ rfl ?_; refine q_seq ?_; refine q_region ?_; (iterate 2 refine ql_loadAB tabOk rfl rfl rfl (by repeat first | exact .head _ | refine .tail _ ?_) (by rfl) (by rfl) ?_))
      refine ql_neF [some .i64, some .i64] rat_flat rfl rfl rfl rfl rfl ?_; rw [eqL_refl]
      (refine q_nil ?_; refine q_cond_false rfl ?_; refine q_skip ?_; refine q_blk ?_; refine q_region ?_; refine ql_pure tabOk rfl rfl ?_; refine ql_ar tabOk rfl rfl rfl rfl (by omega) (by omega) ?_; refine ql_pure tabOk rfl rfl ?_; refine q_nil ?_)
      exact hK1 (cc + 1) _ _ ⟨by omega, by omega⟩ (by omega) ⟨rfl, rfl, rfl, rfl, rfl, trivial⟩ (by repeat (first | exact Sp.nil | exact Sp.refl _ | refine Sp.cons (by repeat constructor) ?_))
  · clear hc
    (refine q_exit _ rfl ?_; refine q_seq ?_; refine q_region ?_)
    refine ql_callv (val := .bool true) tabOk rfl rfl rfl rfl (fun w hs => ?_) ?_; exact awake_ca w
    (refine ql_pure tabOk rfl rfl ?_; refine q_nil ?_; refine q_ret ?_)
    refine q_fin tabOk rfl (by repeat (first | exact RVs.nil | apply RVs.tmp rfl | apply RVs.cellA rfl rfl (by repeat first | exact .head _ | refine .tail _ ?_) (by rfl) | apply RVs.cell1 rfl rfl (by repeat first | exact .head _ | refine .tail _ ?_))) fun w hs => ?_
    exact ⟨rfl, hs.chg0⟩
end Go.Proofs.Ytohlillcaadidaa
