/- My texts F30, R14, F60, LwO, joined: a claim takes at most 60 files. -/
import Derived.Test.YtopdmadgkjdgcaaGreatJ4

/- Walks of rifle: waits that are given: whether they are right, their misses, and whether a price holds for them. -/
namespace Go.Proofs.YtopdmadgkjdgcaaGreat
set_option maxRecDepth 4000
open Go Go.Eng
def wtB (A : List (List Int)) (W : List Int) (k : Nat) : Bool := (List.range k).all fun i => inB (W.getD i 0) 0 ((amW A i : Int) - 1)
theorem wtB_succ (A : List (List Int)) (W : List Int) (k : Nat) : wtB A W (k + 1) = (wtB A W k && inB (W.getD k 0) 0 ((amW A k : Int) - 1)) := by
  unfold wtB
  rw [List.range_succ, List.all_append]
  simp
/-- The error of an aim and waits. -/
def chkWt (A : List (List Int)) (W : List Int) : Int := if chkA A ≠ 0 then chkA A else if W.length ≠ A.length then 2 else if wtB A W A.length = true then 0 else 3
theorem wtB_of {A : List (List Int)} {V : List Nat} (h : WOk A V) : wtB A (nI V) A.length = true := by
  refine List.all_eq_true.2 fun i hi => ?_
  have hi := List.mem_range.1 hi
  have h1 := h.lt i hi
  have h2 := h.len
  rw [getI (by rw [nI_len]; omega), nI_get (by omega)]
  exact inB_iff.2 (by omega)
theorem chkWt_of {A : List (List Int)} {V : List Nat} (hA : AimOk A) (h : WOk A V) : chkWt A (nI V) = 0 := by
  unfold chkWt
  rw [if_neg (by rw [chkA_zero.2 hA]; simp), if_neg (by rw [nI_len, h.len]; simp), if_pos (wtB_of h)]
set_option maxHeartbeats 1000000 in
theorem waited_ca (w : World) (lo hi lo2 hi2 : Nat) (v wv : Value) (A : List (List Int)) (W : List Int) (h : RdII w lo hi v A) (hW : RdI w lo2 hi2 wv W) (hlA : A.length ≤ maxLen) : Ca Tryz.prog 136 [v, wv] w fun x w' => x = .int .i64 (chkWt A W) ∧ Chg [] w w' := by
  obtain ⟨a, c, rfl, ha⟩ := RdII.outI h
  obtain ⟨wa, wc, rfl, hwa⟩ := RdI.outI hW
  refine q_of (Sat.nil w M0) Tryz.func136 rfl (by simp [Tryz.ntmps136]) ?_
  (refine q_seq (q_region (ql_pure tabOk rfl rfl (q_nil (q_seq (q_seq (q_region (ql_pure tabOk rfl rfl ?_))))))))
  refine ql_callv (val := .int .i64 (chkA A)) tabOk rfl rfl rfl rfl (fun w hs => ?_) ?_; exact checkA_ca w lo hi _ A (h.keep hs.chg0) hlA
  by_cases h0 : chkA A = 0
  · have hA := chkA_zero.1 h0
    have n1 := hA.n1
    have n8 := hA.n8
    rw [h0]
    by_cases hl : W.length = A.length
    · have e : chkWt A W = if wtB A W A.length = true then 0 else 3 := by
        unfold chkWt
        rw [if_neg (by rw [h0]; simp), if_neg (by rw [hl]; simp)]
      rw [e]
      obtain ⟨gb, go, rfl⟩ := ha (by omega)
      obtain ⟨wb, wo, rfl⟩ := hwa (by omega)
      rw [hl] at hW ⊢
      (refine ql_pure tabOk rfl rfl (q_nil (q_seq (q_region (ql_pure tabOk rfl rfl (ql_neqF tabOk rfl rfl rfl (by omega) (q_nil (q_cond_false rfl (q_skip (q_seq (q_seq (q_region ?_))))))))))); (iterate 4 refine ql_pure tabOk rfl rfl ?_); refine ql_neqF tabOk rfl rfl rfl (by omega) (q_nil (q_cond_false rfl (q_skip (q_seq (q_seq (q_region ?_)))))); (iterate 3 refine ql_pure tabOk rfl rfl ?_); refine q_nil (q_block ?_))
      refine q_loop (σ := Nat) (fun k => k ≤ A.length ∧ wtB A W k = true) (fun k => A.length - k) (fun k => [(0, .slice (some ⟨gb, go, none⟩) A.length c), (18, .slice (some ⟨wb, wo, none⟩) A.length wc), (19, .int .i64 A.length), (20, .int .i64 k)]) (fun _ => []) 0 ⟨by omega, rfl⟩ ⟨rfl, rfl, rfl, rfl, trivial⟩ (by repeat constructor) ?_
      rintro k ⟨hk, hok⟩ K hK
      (refine q_seq (q_region (ql_pure tabOk rfl rfl (q_nil (q_seq ?_)))))
      refine q_if rfl (fun hc => ?_) (fun hc => ?_)
      · have hk2 : k < A.length := by omega
        clear hc
        have hrow := hA.row k hk2
        obtain ⟨rb, ro, rc, hr1, hr2⟩ := aim_row h hk2 (by omega)
        have hs1 := wtB_succ A W k
        rw [hok, Bool.true_and] at hs1
        (refine q_skip (q_seq (q_block (q_seq (q_region (ql_pure tabOk rfl rfl ?_))))))
        refine ql_index tabOk rfl rfl rfl rfl rfl (by omega) (by omega) ?_
        refine ql_load1 (v := .int .i64 (W.getD k 0)) tabOk rfl rfl rfl (fun w hs => by
          have := RdI.at (RdE.keep hW hs.chg0) k (by omega)
          rw [getI (by omega)]
          exact this) ?_
        (refine ql_pure tabOk rfl rfl (ql_pure tabOk rfl rfl (q_nil (q_seq (q_region ?_)))); (iterate 3 refine ql_pure tabOk rfl rfl ?_))
        refine ql_index tabOk rfl rfl rfl rfl rfl (by omega) (by omega) ?_
        refine ql_load1 tabOk rfl rfl rfl (fun w hs => hr1 _ hs.chg0) ?_
        (refine ql_pure tabOk rfl rfl (ql_ar tabOk rfl rfl rfl rfl (by omega) (by omega) ?_))
        refine ql_callv (val := .bool (inB (W.getD k 0) 0 ((amW A k : Int) - 1))) tabOk rfl rfl rfl rfl (fun w hs => ?_) ?_; exact rfin_ca (W.getD k 0) 0 ((amW A k : Int) - 1) w
        cases hb : inB (W.getD k 0) 0 ((amW A k : Int) - 1) with
        | true =>
          (refine ql_pure tabOk rfl rfl (q_nil (q_cond_false rfl (q_skip (q_blk (q_region (ql_ar tabOk rfl rfl rfl rfl (by omega) (by omega) (ql_pure tabOk rfl rfl (q_nil ?_)))))))))
          exact hK (k + 1) _ _ ⟨by omega, by rw [hs1, hb]⟩ (by omega) ⟨rfl, rfl, rfl, rfl, trivial⟩ (by repeat constructor)
        | false =>
          have hf : wtB A W A.length = false := all_false (p := fun i => inB (W.getD i 0) 0 ((amW A i : Int) - 1)) hb hk2
          rw [hf]
          (refine ql_pure tabOk rfl rfl (q_nil (q_cond_true rfl (q_seq (q_region (ql_pure tabOk rfl rfl (q_nil (q_ret ?_))))))))
          refine q_fin tabOk rfl (by repeat constructor) fun w hs => ?_
          exact ⟨rfl, hs.chg0⟩
      · obtain rfl : k = A.length := by omega
        rw [hok]
        (refine q_exit _ rfl (q_seq (q_region (ql_pure tabOk rfl rfl (q_nil (q_ret ?_))))))
        refine q_fin tabOk rfl (by repeat constructor) fun w hs => ?_
        exact ⟨rfl, hs.chg0⟩
    · have e : chkWt A W = 2 := by
        unfold chkWt
        rw [if_neg (by rw [h0]; simp), if_pos hl]
      rw [e]
      (refine ql_pure tabOk rfl rfl (q_nil (q_seq (q_region (ql_pure tabOk rfl rfl (ql_neqF tabOk rfl rfl rfl (by omega) (q_nil (q_cond_false rfl (q_skip (q_seq (q_seq (q_region ?_))))))))))); (iterate 4 refine ql_pure tabOk rfl rfl ?_); refine ql_neqT tabOk rfl rfl rfl (by omega) (q_nil (q_cond_true rfl (q_seq (q_region (ql_pure tabOk rfl rfl (q_nil (q_ret ?_))))))))
      refine q_fin tabOk rfl (by repeat constructor) fun w hs => ?_
      exact ⟨rfl, hs.chg0⟩
  · have e : chkWt A W = chkA A := by
      unfold chkWt
      rw [if_pos h0]
    rw [e]
    (refine ql_pure tabOk rfl rfl (q_nil (q_seq (q_region (ql_pure tabOk rfl rfl (ql_neqT tabOk rfl rfl rfl (by omega) (q_nil (q_cond_true rfl (q_seq (q_region (ql_pure tabOk rfl rfl (ql_pure tabOk rfl rfl ?_))))))))))); refine q_nil (q_ret ?_))
    refine q_fin tabOk rfl (by repeat constructor) fun w hs => ?_
    exact ⟨rfl, hs.chg0⟩
theorem amiss_ok (w : World) (lo hi lo2 hi2 : Nat) (v wv : Value) (A : List (List Int)) (V : List Nat) (h : RdII w lo hi v A) (hW : RdI w lo2 hi2 wv (nI V)) (hA : AimOk A) (hV : WOk A V) : Ca Tryz.prog 65 [v, wv] w fun x w' => x = .tuple #[.int .i64 (missV A V), .int .i64 0] ∧ Chg [] w w' := by
  have n8 := hA.n8
  refine q_of (Sat.nil w M0) Tryz.func65 rfl (by simp [Tryz.ntmps65]) ?_
  (refine q_seq (q_region (ql_pure tabOk rfl rfl (ql_pure tabOk rfl rfl (q_nil (q_seq (q_seq (q_region (ql_pure tabOk rfl rfl (ql_pure tabOk rfl rfl ?_))))))))))
  refine ql_callv (val := .int .i64 0) tabOk rfl rfl rfl rfl (fun w hs => ?_) ?_; exact by have := waited_ca w lo hi lo2 hi2 v wv A (nI V) (h.keep hs.chg0) (RdE.keep hW hs.chg0) (by simp only [maxLen]; omega); rw [chkWt_of hA hV] at this; exact this
  (refine ql_pure tabOk rfl rfl (q_nil (q_seq (q_region (ql_pure tabOk rfl rfl (ql_neqF tabOk rfl rfl rfl (by omega) (q_nil (q_cond_false rfl (q_skip (q_seq (q_region (ql_pure tabOk rfl rfl ?_))))))))))); refine ql_pure tabOk rfl rfl ?_)
  refine ql_callv (val := .int .i64 (missV A V)) tabOk rfl rfl rfl rfl (fun w hs => ?_) ?_; exact missed_ca w lo hi lo2 hi2 v wv A V (h.keep hs.chg0) (RdE.keep hW hs.chg0) hA hV
  (refine ql_pure tabOk rfl rfl (ql_pure tabOk rfl rfl (q_nil (q_ret ?_))))
  refine q_fin tabOk rfl (by repeat constructor) fun w hs => ?_
  exact ⟨rfl, hs.chg0⟩
/-- Whether a price holds, shot by shot. -/
def hoR (A : List (List Int)) (V : List Nat) (q : Int) (i k : Nat) : Bool := (List.range k).all fun v => decide (amA A i (wtO V i) + q * wtO V i ≤ amA A i v + q * v)
def hoB (A : List (List Int)) (V : List Nat) (q : Int) (k : Nat) : Bool := (List.range k).all fun i => hoR A V q i (amW A i)
/-- What Holds answers of waits that are right. -/
def hoV (A : List (List Int)) (V : List Nat) (p : Int) : Bool := hoB A V (min p 1001) A.length && true
end Go.Proofs.YtopdmadgkjdgcaaGreat

/- The plain law of RifleAimed: the misses of a shot, as the radius grows. -/
namespace Go.Proofs.YtopdmadgkjdgcaaGreat
set_option maxRecDepth 4000
open Go Go.Eng
/-- A range with a greater radius. -/
def calmR (r : Rg) (d : Int) : Rg := ⟨r.radius + d, r.unit, r.clicks, r.total, r.group, r.drifts, r.first, r.next⟩
theorem calm_right {r : Rg} (h : r.Right) {d : Int} (hd : 0 ≤ d) (h2 : r.radius + d ≤ 200) : (calmR r d).Right := ⟨h.g1, h.g2, h.odd, h.d1, h.d2, h.first, h.next, h.rows, ⟨by have := h.radius; simp only [calmR]; omega, h2⟩, h.unit, h.clicks, h.total, h.drift, h.weight, h.chance, h.chances, h.gsum, h.fsum, h.nsum⟩
theorem calm_miss {r : Rg} (h : r.Right) {d d2 : Int} (hd : d ≤ d2) (drift c : Int) : missS (calmR r d2) drift c ≤ missS (calmR r d) drift c := by
  refine sum_mono _ _ (by rw [missL_length, missL_length]; rfl) fun i hi hi2 => ?_
  rw [missL_length] at hi hi2
  rw [missL_get _ _ _ i hi, missL_get _ _ _ i hi2]
  have h0 : 0 ≤ (calmR r d).group[i] := (h.weight _ (List.getElem_mem hi2)).1
  by_cases h1 : hitB (calmR r d2) (drift + (i : Int) - ((calmR r d2).group.length : Int) / 2 + c * (calmR r d2).unit) = true
  · rw [if_pos h1]
    split
    · exact Int.le_refl _
    · exact h0
  · rw [if_neg h1, if_neg fun h2 => h1 ?_]
    · exact Int.le_refl _
    · have h3 := inB_iff.1 h2
      refine inB_iff.2 ?_
      simp only [calmR] at h3 ⊢
      omega
/-- A chance in lowest terms: by thousand, rounded down. -/
theorem thou_eq {m g : Int} (hg : 0 < g) (h0 : 0 ≤ m) (h1 : m ≤ g) : (0 < (ratioV (g - m) g).2 ∧ (ratioV (g - m) g).2 ≤ g) ∧ (0 ≤ (ratioV (g - m) g).1 ∧ (ratioV (g - m) g).1 ≤ (ratioV (g - m) g).2) ∧ 1000 * ((ratioV (g - m) g).2 - (ratioV (g - m) g).1) / (ratioV (g - m) g).2 = 1000 * m / g := by
  unfold ratioV
  obtain ⟨k, hk⟩ : ∃ k : Int, k = (Int.gcd (g - m) g : Int) := ⟨_, rfl⟩
  have hkp : 0 < k := by
    rw [hk]
    have : Int.gcd (g - m) g ≠ 0 := fun h => by have := (Int.gcd_eq_zero_iff.1 h).2; omega
    omega
  have d1 : k ∣ g - m := hk ▸ Int.gcd_dvd_left ..
  have d2 : k ∣ g := hk ▸ Int.gcd_dvd_right ..
  rw [← hk]
  obtain ⟨a, ha⟩ := d1
  obtain ⟨b, hb⟩ := d2
  rw [ha, hb, Int.mul_ediv_cancel_left _ (by omega), Int.mul_ediv_cancel_left _ (by omega)]
  have hb0 : 0 < b := by
    rcases Int.lt_or_le 0 b with h | h
    · exact h
    · have := Int.mul_nonneg (show 0 ≤ k by omega) (show 0 ≤ -b by omega)
      rw [Int.mul_neg] at this
      omega
  have ha0 : 0 ≤ a := by
    rcases Int.lt_or_le a 0 with h | h
    · have := Int.mul_pos hkp (show 0 < -a by omega)
      rw [Int.mul_neg] at this
      omega
    · exact h
  have hab : a ≤ b := by
    rcases Int.lt_or_le b a with h | h
    · have := Int.mul_lt_mul_of_pos_left h hkp
      omega
    · exact h
  have hbg : b ≤ g := by
    have := Int.mul_le_mul_of_nonneg_right (show 1 ≤ k by omega) (show 0 ≤ b by omega)
    omega
  refine ⟨⟨hb0, by omega⟩, ⟨ha0, hab⟩, ?_⟩
  rw [show m = k * (b - a) by rw [Int.mul_sub]; omega, show 1000 * (k * (b - a)) = k * (1000 * (b - a)) by rw [← Int.mul_assoc, ← Int.mul_assoc, Int.mul_comm 1000 k], Int.mul_ediv_mul_of_pos _ _ hkp]
/-- What a shot misses by thousand, with so many breaths. -/
def missW (r : Rg) (step : Int) (dr c : Int) (w : Nat) : Int := 1000 * missS (calmR r (step * w)) dr c / r.group.sum
def missRow (r : Rg) (step : Int) (dr c : Int) (n : Nat) : List Int := (List.range n).map (missW r step dr c)
theorem missRow_succ (r : Rg) (step dr c : Int) (n : Nat) : missRow r step dr c (n + 1) = missRow r step dr c n ++ [missW r step dr c n] := by simp [missRow, List.range_succ]
theorem missRow_len (r : Rg) (step dr c : Int) (n : Nat) : (missRow r step dr c n).length = n := by simp [missRow]
structure WdR (r : Rg) (step : Int) : Prop where
  right : r.Right
  step : 1 ≤ step ∧ step ≤ 6
  rad : r.radius ≤ 9
theorem missW_bd {r : Rg} {step : Int} (h : WdR r step) (dr c : Int) {w : Nat} (hw : w ≤ 4) : 0 ≤ missW r step dr c w ∧ missW r step dr c w ≤ 1000 := by
  have h1 := h.step
  have h2 := h.rad
  have hx : 0 ≤ step * (w : Int) ∧ step * (w : Int) ≤ 6 * 4 := ⟨Int.mul_nonneg (by omega) (by omega), Int.mul_le_mul (by omega) (by omega) (by omega) (by omega)⟩
  have h3 := missS_bd (calmR r (step * w)) (calm_right h.right hx.1 (by omega)) dr c
  have h4 := h.right.gsum
  have h5 : (calmR r (step * w)).group.sum = r.group.sum := rfl
  unfold missW
  refine ⟨Int.ediv_nonneg (by omega) (by omega), ?_⟩
  have := Int.ediv_le_ediv (a := 1000 * missS (calmR r (step * w)) dr c) (b := 1000 * r.group.sum) (c := r.group.sum) (by omega) (by omega)
  rwa [Int.mul_ediv_cancel _ (by omega)] at this
theorem missW_anti {r : Rg} {step : Int} (h : WdR r step) (dr c : Int) (w : Nat) : missW r step dr c (w + 1) ≤ missW r step dr c w := by
  have h1 := h.step
  have h4 := h.right.gsum
  have h2 : step * (w : Int) ≤ step * ((w + 1 : Nat) : Int) := Int.mul_le_mul_of_nonneg_left (by omega) (by omega)
  have := calm_miss h.right h2 dr c
  exact Int.ediv_le_ediv (by omega) (by omega)
/-- An aim whose shots miss no more with a breath more: right, or it helps more than the one before. -/
theorem chk_aimed {A : List (List Int)} (h1 : 1 ≤ A.length) (h5 : A.length ≤ 5) (hl : ∀ l ∈ A, l.length = 5) (hb : ∀ l ∈ A, ∀ x ∈ l, 0 ≤ x ∧ x ≤ 1000) : chkA A = 4 ∨ chkA A = 0 := by
  unfold chkA
  rw [if_neg, if_neg]
  · split
    · exact .inl rfl
    · exact .inr rfl
  · rw [Bool.not_eq_false]
    exact List.all_eq_true.2 fun l hm => List.all_eq_true.2 fun x hx => inB_iff.2 (hb l hm x hx)
  · rw [Bool.not_eq_false, Bool.and_eq_true]
    exact ⟨inB_iff.2 (by omega), List.all_eq_true.2 fun l hm => by simp only [lenAB, Bool.and_true]; exact inB_iff.2 (by rw [hl l hm]; omega)⟩
theorem missRow_in {r : Rg} {step : Int} (h : WdR r step) (dr c : Int) : ∀ x ∈ missRow r step dr c 5, 0 ≤ x ∧ x ≤ 1000 := fun x hx => by
  obtain ⟨i, hi, rfl⟩ := List.mem_map.1 hx
  exact missW_bd h dr c (by have := List.mem_range.1 hi; omega)
/-- No waits. -/
theorem none_ok {A : List (List Int)} (h : AimOk A) : WOk A (List.replicate A.length 0) := ⟨by simp, fun i hi => by
  have := (h.row i hi).1
  have e : wtO (List.replicate A.length 0) i = 0 := by
    unfold wtO
    rw [List.getD_eq_getElem?_getD, List.getElem?_replicate]
    split <;> rfl
  omega⟩
theorem none_le {A : List (List Int)} (h : AimOk A) (t : Nat) : cvV A t ≤ missV A (List.replicate A.length 0) := cv_best h (none_ok h) (by
  have : sumW (List.replicate A.length 0) A.length = 0 := smF_zero fun i hi => by
    unfold wtO
    rw [List.getD_eq_getElem?_getD, List.getElem?_replicate]
    split <;> rfl
  omega)
end Go.Proofs.YtopdmadgkjdgcaaGreat

/- Walks: Fold; the range of RifleAimed. -/
namespace Go.Proofs.YtopdmadgkjdgcaaGreat
set_option maxRecDepth 4000
open Go Go.Eng
theorem ftm_lt {a b : Int} (hb : 0 < b) : -b < a.tmod b ∧ a.tmod b < b := by
  refine ⟨?_, Int.tmod_lt_of_pos a hb⟩
  have h1 := Int.tmod_lt_of_pos (-a) hb
  rw [Int.neg_tmod] at h1
  omega
theorem fold_ca (v n : Int) (hn0 : 0 < n) (hn1 : n < 1000000) (w : World) : Ca Tryz.prog 95 [.int .i64 v, .int .i64 n] w fun r w' => (∃ x, r = .int .i64 x ∧ 0 ≤ x ∧ x < n) ∧ w' = w := by
  refine ca_of Tryz.func95 rfl (by simp [Tryz.ntmps95]) ?_
  (refine y_seq (y_region (yl_pure tabOk rfl rfl (y_seq (y_seq (y_region (yl_pure tabOk rfl rfl (yl_pure tabOk rfl rfl (yl_nil ?_)))))))))
  refine y_if rfl (fun hc => ?_) (fun hc => ?_)
  · omega
  (refine y_skip (y_seq (y_region (yl_pure tabOk rfl rfl (yl_pure tabOk rfl rfl ?_)))))
  refine yl_rem rfl rfl (by omega) rfl ?_
  ((iterate 3 refine yl_pure tabOk rfl rfl ?_))
  refine yl_rem rfl rfl (by omega) rfl ?_
  have h1 := ftm_lt (a := v) hn0
  rw [w64 (x := v.tmod n + n) (by omega) (by omega)]
  have h2 := tmod_pos (a := v.tmod n + n) (by omega) hn0
  (refine yl_pure tabOk rfl rfl (y_ret ?_))
  exact y_fin1 rfl rfl ⟨⟨_, rfl, h2.1, h2.2⟩, rfl⟩
theorem fold0 (v n : Int) (w : World) (hn0 : 0 < n) (hn1 : n < 1000000) : Ca Tryz.prog 95 [.int .i64 v, .int .i64 n] w fun r w' => ∃ x : Int, (r = .int .i64 x ∧ 0 ≤ x ∧ x < n) ∧ Sat w M0 [] w' :=
  (fold_ca v n hn0 hn1 w).mono fun r w' ⟨⟨x, h1, h2, h3⟩, h4⟩ => ⟨x, ⟨h1, h2, h3⟩, by rw [h4]; exact Sat.nil w M0⟩
/-- The range of RifleAimed. -/
def wdR (rad unit d1 d2 : Int) (g : List Int) : Rg := ⟨rad, unit, 3, 2, g, [d1, d2], [1, 1], [[1, 1], [1, 1]]⟩
structure WdG (m : Nat) (g : List Int) : Prop where
  len : g.length ≤ m
  all : ∀ x ∈ g, 1 ≤ x ∧ x ≤ 10
theorem sum_10 : ∀ (g : List Int), (∀ x ∈ g, 1 ≤ x ∧ x ≤ 10) → (g.length : Int) ≤ g.sum ∧ g.sum ≤ 10 * g.length
  | [], _ => by simp
  | x :: g, h => by
    have h1 := sum_10 g fun y hy => h y (.tail _ hy)
    have h2 := h x (.head _)
    simp only [List.length_cons, List.sum_cons]
    omega
theorem wd_ok {rad unit d1 d2 step : Int} {g : List Int} {q : Nat} (hr : 0 ≤ rad ∧ rad < 10) (hu : 1 ≤ unit ∧ unit ≤ 5) (h1 : -15 ≤ d1 ∧ d1 ≤ 15) (h2 : -15 ≤ d2 ∧ d2 ≤ 15) (hs : 1 ≤ step ∧ step ≤ 6) (hg : ∀ x ∈ g, 1 ≤ x ∧ x ≤ 10) (hl : g.length = 2 * q + 1) (hq : q < 5) : WdR (wdR rad unit d1 d2 g) step := by
  have h3 := sum_10 g hg
  refine ⟨⟨by simp only [wdR]; omega, by simp only [wdR]; omega, by simp only [wdR]; omega, by simp [wdR], by simp [wdR], rfl, rfl, fun l hl => ?_, by simp only [wdR]; omega, by simp only [wdR]; omega, by simp [wdR], by simp [wdR], fun x hx => ?_, fun x hx => by have := hg x hx; omega, fun x hx => ?_, fun l hl x hx => ?_, by simp only [wdR]; omega, rfl, fun l hl => ?_⟩, hs, by simp only [wdR]; omega⟩
  · simp [wdR] at hl
    rw [hl]
    rfl
  · simp [wdR] at hx
    omega
  · simp [wdR] at hx ⊢
    omega
  · simp [wdR] at hl
    rw [hl] at hx
    simp at hx
    simp only [wdR]
    omega
  · simp [wdR] at hl
    rw [hl]
    rfl
theorem wd_small {rad unit d1 d2 d : Int} {g : List Int} {q : Nat} (hl : g.length = 2 * q + 1) (hq : q < 5) : (calmR (wdR rad unit d1 d2 g) d).Small := ⟨by simp only [calmR, wdR]; omega, by simp [calmR, wdR], by simp [calmR, wdR], by simp [calmR, wdR], fun l hl => by
  simp [calmR, wdR] at hl
  rw [hl]
  decide⟩
theorem ones_rd {w : World} {b c : Nat} {t : TypeId} (h : Blk w b (ints [1, 1]) t) : RdI w 0 w.heap.size (.slice (some ⟨b, 0, none⟩) 2 c) [1, 1] := Blk.rdI (c := c) h
/-- A range with lists of our own. -/
theorem wd_rg {w0 w : World} {M : Nat → Prop} {H : List Ck} (hs : Sat w0 M H w) {rad unit d1 d2 d : Int} {g : List Int} {ga : Option Addr} {n gc b1 b2 b3 b4 b5 : Nat} (hn : n = g.length)
    (h0 : Ck.ow (.slice ga n gc) 3 1 n (ints g) ∈ H) (h1 : Ck.pt b1 (ints [1, 1]) 3 ∈ H) (h2 : Ck.pt b2 (ints [1, 1]) 3 ∈ H) (h3 : Ck.pt b3 (ints [1, 1]) 3 ∈ H) (h4 : Ck.pt b4 [.slice (some ⟨b2, 0, none⟩) 2 2, .slice (some ⟨b3, 0, none⟩) 2 2] 29 ∈ H) (h5 : Ck.pt b5 (ints [d1, d2]) 3 ∈ H) :
    RgC w [.int .i64 (rad + d), .int .i64 unit, .int .i64 3, .int .i64 2, .slice ga n gc, .slice (some ⟨b5, 0, none⟩) 2 2, .slice (some ⟨b1, 0, none⟩) 2 2, .slice (some ⟨b4, 0, none⟩) 2 2] (calmR (wdR rad unit d1 d2 g) d) := by
  subst hn
  refine ⟨0, w.heap.size, ga, gc, _, _, _, _, _, _, rfl, own_rdI (l := g) (hs.mem h0) (by simp), Blk.rdI (l := [d1, d2]) (c := 2) (hs.blk h5), ones_rd (c := 2) (hs.blk h1), ?_⟩
  refine ⟨[.slice (some ⟨b2, 0, none⟩) 2 2, .slice (some ⟨b3, 0, none⟩) 2 2], ⟨?_, ?_⟩, rfl, fun i hi hi2 => ?_⟩
  · exact Blk.rdN (c := 2) (sz := 1) (q := 2) (hs.blk h4) rfl
  · intro e he
    simp at he
    rcases he with rfl | rfl <;> rfl
  · match i, hi with
    | 0, _ => exact ones_rd (c := 2) (hs.blk h2)
    | 1, _ => exact ones_rd (c := 2) (hs.blk h3)
theorem whit_ok (w : World) (cs : List Value) (r : Rg) (s : Nat) (c : Int) (h : RgC w cs r) (hsm : r.Small) (hr : r.Right) (hs : s < r.drifts.length) (hc : -r.clicks ≤ c ∧ c ≤ r.clicks) :
    Ca Tryz.prog 96 [.agg cs.toArray, .int .i64 s, .int .i64 c] w fun v w' => v = .tuple #[wrtV (ratioV (r.group.sum - missS r (r.drifts.getD s 0) c) r.group.sum), .int .i64 0] ∧ Chg [] w w' := by
  have := hit_ca w cs r s c h hsm
  have e : hitV r s c = (ratioV (r.group.sum - missS r (r.drifts.getD s 0) c) r.group.sum, 0) := by
    unfold hitV
    rw [(right_check r).2 hr, inB_iff.2 hc, show inB (s : Int) 0 ((r.drifts.length : Int) - 1) = true from inB_iff.2 (by omega)]
    simp
  rw [e] at this
  exact this
/-- What Hit says of a shot with so many breaths. -/
theorem whit_fact {r : Rg} {step : Int} (h : WdR r step) (dr c : Int) {k : Nat} (hk : k ≤ 4) {q : Int × Int} (hq : q = ratioV (r.group.sum - missS (calmR r (step * k)) dr c) r.group.sum) : (1 ≤ q.2 ∧ q.2 ≤ 100) ∧ (0 ≤ q.1 ∧ q.1 ≤ q.2) ∧ 1000 * (q.2 - q.1) / q.2 = missW r step dr c k := by
  have h1 := h.step
  have h2 := h.rad
  have hx : 0 ≤ step * (k : Int) ∧ step * (k : Int) ≤ 6 * 4 := ⟨Int.mul_nonneg (by omega) (by omega), Int.mul_le_mul (by omega) (by omega) (by omega) (by omega)⟩
  have h3 := missS_bd (calmR r (step * k)) (calm_right h.right hx.1 (by omega)) dr c
  have h4 := h.right.gsum
  have h5 : (calmR r (step * k)).group.sum = r.group.sum := rfl
  obtain ⟨a1, a2, a3⟩ := thou_eq (m := missS (calmR r (step * k)) dr c) (g := r.group.sum) (by omega) h3.1 (by omega)
  rw [← hq] at a1 a2 a3
  exact ⟨by omega, a2, a3⟩
end Go.Proofs.YtopdmadgkjdgcaaGreat

/- RifleAimed. Written by gen_LwO.py. -/
namespace Go.Proofs.YtopdmadgkjdgcaaGreat
set_option maxRecDepth 4000
open Go Go.Eng
set_option maxHeartbeats 8000000 in
set_option maxRecDepth 20000 in
theorem rifleAimed_ca (w : World) (a : Option Addr) (nb cb : Nat) (a1 : Int) (ha1 : -128 ≤ a1 ∧ a1 < 128) (hbyb1 : DkB w 0 w.heap.size (.slice a nb cb)) :
    Ca Tryz.prog 16 [.slice a nb cb, .int .i8 a1] w fun r w' => r = .bool true ∧ Chg [] w w' := by
  refine q_of (Sat.nil w M0) Tryz.func16 rfl (by simp [Tryz.ntmps16]) ?_
  (refine q_seq (q_region (ql_pure tabOk rfl rfl (q_nil (q_seq (q_region (ql_pure tabOk rfl rfl ?_)))))))
  refine ql_call (β := Nat) tabOk [] _ M0 rfl rfl rfl rfl (Sp.refl _) (fun _ h => h.elim) (fun w' hs => of_ca w' a nb cb) ?_
  rintro b1 _ rfl
  dsimp only [List.cons_append, List.nil_append]
  (refine ql_pure tabOk rfl rfl (q_nil (q_seq (q_region (ql_pure tabOk rfl rfl ?_)))))
  refine ql_call (β := Int) (ψ := fun zq v => v = .int .i64 zq ∧ 0 ≤ zq ∧ zq ≤ 10 - 1) (L' := fun _ => [dkP (.slice a nb cb) b1 (0 + 1)]) tabOk [dkP (.slice a nb cb) b1 (0)] _ (fun x => x = b1) rfl rfl rfl rfl (Sp.cons (by repeat constructor) (Sp.refl _)) (fun x hx => ⟨_, .head _, hx⟩) (fun w' hs => drw0 hbyb1 hs (by omega) (by omega)) ?_; rintro rad _ ⟨rfl, hrad⟩
  (refine ql_pure tabOk rfl rfl ?_)
  refine ql_call (β := Int) (ψ := fun zq v => v = .int .i64 zq ∧ 1 ≤ zq ∧ zq ≤ 5) (L' := fun _ => [dkP (.slice a nb cb) b1 (0 + 1 + 1)]) tabOk [dkP (.slice a nb cb) b1 (0 + 1)] _ (fun x => x = b1) rfl rfl rfl rfl (Sp.cons (by repeat constructor) (Sp.refl _)) (fun x hx => ⟨_, .head _, hx⟩) (fun w' hs => btw0 hbyb1 hs (by omega) (by omega) (by omega) (by omega)) ?_; rintro unit _ ⟨rfl, hunit⟩
  skip
  refine ql_mkS 3 (ints [1, 1]) rfl (by kernel_rfl) rfl (fun c1 => ?_)
  skip
  refine ql_mkS 3 (ints [1, 1]) rfl (by kernel_rfl) rfl (fun c2 => ?_)
  skip
  refine ql_mkS 3 (ints [1, 1]) rfl (by kernel_rfl) rfl (fun c3 => ?_)
  skip
  refine ql_mkS 29 [.slice (some ⟨c2, 0, none⟩) 2 2, .slice (some ⟨c3, 0, none⟩) 2 2] rfl (by kernel_rfl) rfl (fun c4 => ?_)
  skip
  refine ql_mk #[.int .i64 rad, .int .i64 unit, .int .i64 3, .int .i64 2, .slice none 0 0, .slice none 0 0, .slice (some ⟨c1, 0, none⟩) 2 2, .slice (some ⟨c4, 0, none⟩) 2 2] rfl (by kernel_rfl) rfl ?_
  skip
  refine ql_alloc zero140 rfl (fun b6 => ?_)
  (refine ql_setA tabOk rfl rfl rfl rfl rfl (by repeat constructor) rfl ?_; refine q_nil (q_seq (q_region (ql_pure tabOk rfl rfl ?_))))
  refine ql_call (β := Int) (ψ := fun zq v => v = .int .i64 zq ∧ (-15) ≤ zq ∧ zq ≤ 15) (L' := fun _ => [dkP (.slice a nb cb) b1 (0 + 1 + 1 + 1)]) tabOk [dkP (.slice a nb cb) b1 (0 + 1 + 1)] _ (fun x => x = b1) rfl rfl rfl rfl (Sp.cons (by repeat constructor) (Sp.refl _)) (fun x hx => ⟨_, .head _, hx⟩) (fun w' hs => btw0 hbyb1 hs (by omega) (by omega) (by omega) (by omega)) ?_; rintro d1 _ ⟨rfl, hd1⟩
  (refine ql_pure tabOk rfl rfl ?_)
  refine ql_call (β := Int) (ψ := fun zq v => v = .int .i64 zq ∧ (-15) ≤ zq ∧ zq ≤ 15) (L' := fun _ => [dkP (.slice a nb cb) b1 (0 + 1 + 1 + 1 + 1)]) tabOk [dkP (.slice a nb cb) b1 (0 + 1 + 1 + 1)] _ (fun x => x = b1) rfl rfl rfl rfl (Sp.cons (by repeat constructor) (Sp.refl _)) (fun x hx => ⟨_, .head _, hx⟩) (fun w' hs => btw0 hbyb1 hs (by omega) (by omega) (by omega) (by omega)) ?_; rintro d2 _ ⟨rfl, hd2⟩
  skip
  refine ql_mkS 3 (ints [d1, d2]) rfl (by kernel_rfl) rfl (fun c5 => ?_)
  (refine ql_pure tabOk rfl rfl ?_; refine ql_st5 tabOk rfl rfl rfl rfl (by repeat constructor) ?_; refine q_nil (q_seq (q_seq (q_region (ql_pure tabOk rfl rfl ?_)))))
  refine ql_call (β := Int) (ψ := fun zq v => v = .int .i64 zq ∧ 0 ≤ zq ∧ zq ≤ 5 - 1) (L' := fun _ => [dkP (.slice a nb cb) b1 (0 + 1 + 1 + 1 + 1 + 1)]) tabOk [dkP (.slice a nb cb) b1 (0 + 1 + 1 + 1 + 1)] _ (fun x => x = b1) rfl rfl rfl rfl (Sp.cons (by repeat constructor) (Sp.refl _)) (fun x hx => ⟨_, .head _, hx⟩) (fun w' hs => drw0 hbyb1 hs (by omega) (by omega)) ?_; rintro gq _ ⟨rfl, hgq⟩
  (refine ql_ar tabOk rfl rfl rfl rfl (by omega) (by omega) (ql_ar tabOk rfl rfl rfl rfl (by omega) (by omega) (ql_pure tabOk rfl rfl (q_nil (q_block ?_)))))
  obtain ⟨q, rfl⟩ := Int.eq_ofNat_of_zero_le hgq.1
  refine q_conv (H' := [.ow (.slice none 0 0) 3 1 0 (ints []), dkP (.slice a nb cb) b1 (5 + 0), .pt b6 [.int .i64 rad, .int .i64 unit, .int .i64 3, .int .i64 2, .slice none 0 0, .slice (some ⟨c5, 0, none⟩) 2 2, .slice (some ⟨c1, 0, none⟩) 2 2, .slice (some ⟨c4, 0, none⟩) 2 2] 140, .pt c1 (ints [1, 1]) 3, .pt c2 (ints [1, 1]) 3, .pt c3 (ints [1, 1]) 3, .pt c4 [.slice (some ⟨c2, 0, none⟩) 2 2, .slice (some ⟨c3, 0, none⟩) 2 2] 29, .pt c5 (ints [d1, d2]) 3]) (fun w' hs => (Sat.ownil hs 3 1).sp (by repeat constructor)) ?_
  refine q_loop (σ := (Option Addr × Nat) × List Int) (fun s => s.2.length ≤ 2 * q + 1 ∧ ∀ x ∈ s.2, 1 ≤ x ∧ x ≤ 10) (fun s => 2 * q + 1 - s.2.length) (fun s => [(1, .int .i8 a1), (5, .pointer (some ⟨b1, 0, none⟩)), (6, .pointer (some ⟨b6, 0, none⟩)), (43, .int .i64 (2 * (q : Int) + 1)), (44, .int .i64 s.2.length)])
    (fun s => [.ow (.slice s.1.1 s.2.length s.1.2) 3 1 s.2.length (ints s.2), dkP (.slice a nb cb) b1 (5 + s.2.length), .pt b6 [.int .i64 rad, .int .i64 unit, .int .i64 3, .int .i64 2, .slice s.1.1 s.2.length s.1.2, .slice (some ⟨c5, 0, none⟩) 2 2, .slice (some ⟨c1, 0, none⟩) 2 2, .slice (some ⟨c4, 0, none⟩) 2 2] 140, .pt c1 (ints [1, 1]) 3, .pt c2 (ints [1, 1]) 3, .pt c3 (ints [1, 1]) 3, .pt c4 [.slice (some ⟨c2, 0, none⟩) 2 2, .slice (some ⟨c3, 0, none⟩) 2 2] 29, .pt c5 (ints [d1, d2]) 3]) ((none, 0), []) (by simp) ⟨rfl, rfl, rfl, rfl, rfl, trivial⟩ (by repeat constructor) ?_
  rintro ⟨⟨ga, gc⟩, g⟩ ⟨hgl, hg⟩ K hK
  dsimp only at hgl hg ⊢
  (refine q_seq (q_region (ql_pure tabOk rfl rfl (q_nil (q_seq ?_)))))
  refine q_if rfl (fun hc => ?_) (fun hc => ?_)
  · have hgl2 : g.length < 2 * q + 1 := by omega
    clear hc
    obtain ⟨k, hk⟩ : ∃ k, k = g.length := ⟨_, rfl⟩
    rw [← hk]
    (refine q_skip (q_seq (q_block ?_)))
    refine q_drawB2 [true, true, true, true, true, false, false, false] [.pt b6 [.int .i64 rad, .int .i64 unit, .int .i64 3, .int .i64 2, .slice ga k gc, .slice (some ⟨c5, 0, none⟩) 2 2, .slice (some ⟨c1, 0, none⟩) 2 2, .slice (some ⟨c4, 0, none⟩) 2 2] 140, .ow (.slice ga k gc) 3 1 k (ints g), .pt c1 (ints [1, 1]) 3, .pt c2 (ints [1, 1]) 3, .pt c3 (ints [1, 1]) 3, .pt c4 [.slice (some ⟨c2, 0, none⟩) 2 2, .slice (some ⟨c3, 0, none⟩) 2 2] 29, .pt c5 (ints [d1, d2]) 3] [dkP (.slice a nb cb) b1 (5 + k)] [.pt c1 (ints [1, 1]) 3, .pt c2 (ints [1, 1]) 3, .pt c3 (ints [1, 1]) 3, .pt c4 [.slice (some ⟨c2, 0, none⟩) 2 2, .slice (some ⟨c3, 0, none⟩) 2 2] 29, .pt c5 (ints [d1, d2]) 3] [.pt b6 [.int .i64 rad, .int .i64 unit, .int .i64 3, .int .i64 2, .slice ga k gc, .slice (some ⟨c5, 0, none⟩) 2 2, .slice (some ⟨c1, 0, none⟩) 2 2, .slice (some ⟨c4, 0, none⟩) 2 2] 140, .ow (.slice ga k gc) 3 1 k (ints g)] (by repeat constructor) (by repeat constructor) (by kernel_rfl) (by kernel_rfl) (by kernel_rfl) ?_
    refine qb_T2 5 [dkP (.slice a nb cb) b1 (5 + k)] rfl rfl (by repeat constructor) fun K2 hK2 => ?_
    (refine qf_pure tabOk rfl rfl rfl ?_; refine qf_loadBa tabOk rfl rfl rfl ?_; refine qf_pure tabOk rfl rfl rfl ?_)
    refine qf_call (β := Int) (ψ := fun zq v => v = .int .i64 zq ∧ 1 ≤ zq ∧ zq ≤ 10) (L' := fun _ => [dkP (.slice a nb cb) b1 (5 + k + 1)]) tabOk [dkP (.slice a nb cb) b1 (5 + k)] _ (fun x => x = b1) rfl rfl rfl rfl (Sp.cons (by repeat constructor) (Sp.refl _)) (fun x hx => ⟨_, .head _, hx⟩) (fun w' hs => btw0 hbyb1 hs (by omega) (by omega) (by omega) (by omega)) ?_; rintro gx _ ⟨rfl, hgx⟩
    skip
    refine qf_mkS 3 [.int .i64 gx] rfl (by kernel_rfl) rfl (fun bn => ?_)
    (refine qf_nil ?_)
    refine hK2 _ _ (qb_F 3 [.pt bn [.int .i64 gx] 3, dkP (.slice a nb cb) b1 (5 + k + 1), .pt b6 [.int .i64 rad, .int .i64 unit, .int .i64 3, .int .i64 2, .slice ga k gc, .slice (some ⟨c5, 0, none⟩) 2 2, .slice (some ⟨c1, 0, none⟩) 2 2, .slice (some ⟨c4, 0, none⟩) 2 2] 140, .ow (.slice ga k gc) 3 1 k (ints g)] rfl rfl (by repeat constructor) fun K3 hK3 => ?_)
    refine qf_append (q := 1) (news := [.int .i64 gx]) slI rfl rfl rfl (fun v' => by repeat constructor) (fun w' hs => ⟨_, _, Blk.rdN (hs.blk (b := bn) (by repeat constructor)) rfl⟩) (by simp [oneV]) (by omega) (by omega) (fun u' => ?_)
    refine qf_fact (fun w hs => hs.slice2 (v := u') (by repeat constructor)) ?_
    rintro ⟨ua, uc, rfl⟩
    (refine qf_pure tabOk rfl rfl rfl ?_; refine qf_st4 tabOk rfl rfl rfl rfl (by repeat constructor) ?_; refine qf_nil ?_)
    refine hK3 _ _ (qb_nil ?_)
    (refine q_blk (q_region (ql_ar tabOk rfl rfl rfl rfl (by omega) (by omega) (ql_pure tabOk rfl rfl (q_nil ?_)))))
    have e1 := ints_snoc2 g gx
    have el : (g ++ [gx]).length = k + 1 := by simp [hk]
    exact hK ((ua, uc), g ++ [gx]) _ _ ⟨by simp only [el]; omega, fun x hx => by
      rcases List.mem_append.1 hx with hx | hx
      · exact hg x hx
      · rw [List.mem_singleton.1 hx]; omega⟩ (by simp only [el]; omega) ⟨rfl, rfl, rfl, rfl, lookI rfl (by simp only [el]; omega), trivial⟩ (by simp only [el, e1]; rw [← Nat.add_assoc 5 k 1]; repeat constructor)
  · have hgq2 : g.length = 2 * q + 1 := by omega
    clear hc hK
    rw [hgq2]
    obtain ⟨Kg, hKg⟩ : ∃ Kg, Kg = 5 + (2 * q + 1) := ⟨_, rfl⟩
    rw [← hKg]
    (refine q_exit _ rfl (q_seq (q_region (ql_pure tabOk rfl rfl (ql_pure tabOk rfl rfl ?_)))))
    refine ql_call (β := Int) (ψ := fun x v => v = .int .i64 x ∧ 0 ≤ x ∧ x < 7) (L' := fun _ => []) tabOk [] _ M0 rfl rfl rfl rfl (Sp.refl _) (fun _ h => h.elim) (fun w' hs => fold0 _ 7 w' (by omega) (by omega)) ?_
    rintro cx _ ⟨rfl, hcx⟩
    dsimp only [List.cons_append, List.nil_append]
    (refine ql_ar tabOk rfl rfl rfl rfl (by omega) (by omega) (ql_pure tabOk rfl rfl (q_nil (q_seq (q_region (ql_pure tabOk rfl rfl ?_))))))
    refine ql_call (β := Int) (ψ := fun zq v => v = .int .i64 zq ∧ 1 ≤ zq ∧ zq ≤ 6) (L' := fun _ => [dkP (.slice a nb cb) b1 (Kg + 1)]) tabOk [dkP (.slice a nb cb) b1 (Kg)] _ (fun x => x = b1) rfl rfl rfl rfl (Sp.cons (by repeat constructor) (Sp.refl _)) (fun x hx => ⟨_, .head _, hx⟩) (fun w' hs => btw0 hbyb1 hs (by omega) (by omega) (by omega) (by omega)) ?_; rintro step _ ⟨rfl, hstep⟩
    (refine ql_pure tabOk rfl rfl (q_nil (q_seq (q_region (ql_pure tabOk rfl rfl (q_nil (q_seq (q_seq (q_region (ql_pure tabOk rfl rfl ?_))))))))))
    refine ql_call (β := Int) (ψ := fun zq v => v = .int .i64 zq ∧ 1 ≤ zq ∧ zq ≤ 5) (L' := fun _ => [dkP (.slice a nb cb) b1 (Kg + 1 + 1)]) tabOk [dkP (.slice a nb cb) b1 (Kg + 1)] _ (fun x => x = b1) rfl rfl rfl rfl (Sp.cons (by repeat constructor) (Sp.refl _)) (fun x hx => ⟨_, .head _, hx⟩) (fun w' hs => btw0 hbyb1 hs (by omega) (by omega) (by omega) (by omega)) ?_; rintro mm _ ⟨rfl, hmm⟩
    (refine ql_pure tabOk rfl rfl (q_nil (q_block ?_)))
    obtain ⟨m, rfl⟩ := Int.eq_ofNat_of_zero_le (show 0 ≤ mm by omega)
    obtain ⟨c, hc⟩ : ∃ c, c = cx - 3 := ⟨_, rfl⟩
    rw [← hc]
    have hcb : -3 ≤ c ∧ c ≤ 3 := by omega
    obtain ⟨r, hr⟩ : ∃ r, r = wdR rad unit d1 d2 g := ⟨_, rfl⟩
    have hwd : WdR r step := hr ▸ wd_ok (q := q) ⟨hrad.1, by omega⟩ hunit hd1 hd2 hstep hg hgq2 (by omega)
    have hdl : r.drifts.length = 2 := by rw [hr]; rfl
    have hcl : r.clicks = 3 := by rw [hr]; rfl
    obtain ⟨n, hn⟩ : ∃ n, n = 2 * q + 1 := ⟨_, rfl⟩
    rw [← hn] at hgq2 ⊢
    refine q_conv (H' := [un (rowsO 3 []), .ow (.slice none 0 0) 29 1 0 (([] : List (Value × List Int)).map (·.1)), dkP (.slice a nb cb) b1 (Kg + 2 + 0), .ow (.slice ga n gc) 3 1 n (ints g), .pt b6 [.int .i64 rad, .int .i64 unit, .int .i64 3, .int .i64 2, .slice ga n gc, .slice (some ⟨c5, 0, none⟩) 2 2, .slice (some ⟨c1, 0, none⟩) 2 2, .slice (some ⟨c4, 0, none⟩) 2 2] 140, .pt c1 (ints [1, 1]) 3, .pt c2 (ints [1, 1]) 3, .pt c3 (ints [1, 1]) 3, .pt c4 [.slice (some ⟨c2, 0, none⟩) 2 2, .slice (some ⟨c3, 0, none⟩) 2 2] 29, .pt c5 (ints [d1, d2]) 3]) (fun w' hs => Sat.un_nil (Sat.ownil (hs.sp (by repeat constructor)) _ _)) ?_
    refine q_loop (σ := Value × List (Value × List Int)) (fun s => s.2.length ≤ m ∧ ∀ p ∈ s.2, ∃ dr, p.2 = missRow r step dr c 5) (fun s => m - s.2.length) (fun s => [(5, .pointer (some ⟨b1, 0, none⟩)), (6, .pointer (some ⟨b6, 0, none⟩)), (7, .int .i64 c), (8, .int .i64 step), (9, s.1), (61, .int .i64 m), (62, .int .i64 s.2.length)])
      (fun s => [un (rowsO 3 s.2), .ow s.1 29 1 s.2.length (s.2.map (·.1)), dkP (.slice a nb cb) b1 (Kg + 2 + s.2.length), .ow (.slice ga n gc) 3 1 n (ints g), .pt b6 [.int .i64 rad, .int .i64 unit, .int .i64 3, .int .i64 2, .slice ga n gc, .slice (some ⟨c5, 0, none⟩) 2 2, .slice (some ⟨c1, 0, none⟩) 2 2, .slice (some ⟨c4, 0, none⟩) 2 2] 140, .pt c1 (ints [1, 1]) 3, .pt c2 (ints [1, 1]) 3, .pt c3 (ints [1, 1]) 3, .pt c4 [.slice (some ⟨c2, 0, none⟩) 2 2, .slice (some ⟨c3, 0, none⟩) 2 2] 29, .pt c5 (ints [d1, d2]) 3]) (.slice none 0 0, []) ⟨by simp, by simp⟩ ⟨rfl, rfl, rfl, rfl, rfl, rfl, rfl, trivial⟩ (by repeat constructor) ?_
    rintro ⟨va, xs⟩ ⟨hl, hR⟩ K1 hK1
    dsimp only at hl hR ⊢
    (refine q_seq (q_region (ql_pure tabOk rfl rfl (q_nil (q_seq ?_)))))
    refine q_if rfl (fun hc => ?_) (fun hc => ?_)
    · have hl2 : xs.length < m := by omega
      rename_i hcc
      clear hcc
      obtain ⟨k, hk⟩ : ∃ k, k = xs.length := ⟨_, rfl⟩
      rw [← hk]
      (refine q_skip (q_seq (q_block (q_seq (q_region (ql_pure tabOk rfl rfl ?_))))))
      refine ql_call (β := Int) (ψ := fun zq v => v = .int .i64 zq ∧ 0 ≤ zq ∧ zq ≤ 2 - 1) (L' := fun _ => [dkP (.slice a nb cb) b1 (Kg + 2 + k + 1)]) tabOk [dkP (.slice a nb cb) b1 (Kg + 2 + k)] _ (fun x => x = b1) rfl rfl rfl rfl (Sp.cons (by repeat constructor) (Sp.refl _)) (fun x hx => ⟨_, .head _, hx⟩) (fun w' hs => drw0 hbyb1 hs (by omega) (by omega)) ?_; rintro st _ ⟨rfl, hst⟩
      (refine ql_pure tabOk rfl rfl (q_nil (q_seq (q_region (ql_pure tabOk rfl rfl (q_nil (q_seq (q_seq (q_region (ql_pure tabOk rfl rfl (q_nil (q_block ?_))))))))))))
      obtain ⟨st, rfl⟩ := Int.eq_ofNat_of_zero_le hst.1
      obtain ⟨dr, hdr⟩ : ∃ dr, dr = r.drifts.getD st 0 := ⟨_, rfl⟩
      refine q_conv (H' := [.ow (.slice none 0 0) 3 1 0 (ints (missRow r step dr c 0)), un (rowsO 3 xs), .ow va 29 1 k (xs.map (·.1)), dkP (.slice a nb cb) b1 (Kg + 2 + k + 1), .ow (.slice ga n gc) 3 1 n (ints g), .pt b6 [.int .i64 rad, .int .i64 unit, .int .i64 3, .int .i64 2, .slice ga n gc, .slice (some ⟨c5, 0, none⟩) 2 2, .slice (some ⟨c1, 0, none⟩) 2 2, .slice (some ⟨c4, 0, none⟩) 2 2] 140, .pt c1 (ints [1, 1]) 3, .pt c2 (ints [1, 1]) 3, .pt c3 (ints [1, 1]) 3, .pt c4 [.slice (some ⟨c2, 0, none⟩) 2 2, .slice (some ⟨c3, 0, none⟩) 2 2] 29, .pt c5 (ints [d1, d2]) 3]) (fun w' hs => (Sat.ownil hs 3 1).sp (by repeat constructor)) ?_
      refine q_loop (σ := Nat × (Option Addr × Nat)) (fun s => s.1 ≤ 5) (fun s => 5 - s.1) (fun s => [(10, .int .i64 st), (11, .slice s.2.1 s.1 s.2.2), (66, .int .i64 s.1), (5, .pointer (some ⟨b1, 0, none⟩)), (6, .pointer (some ⟨b6, 0, none⟩)), (7, .int .i64 c), (8, .int .i64 step), (9, va), (61, .int .i64 m), (62, .int .i64 k)])
        (fun s => [.ow (.slice s.2.1 s.1 s.2.2) 3 1 s.1 (ints (missRow r step dr c s.1)), un (rowsO 3 xs), .ow va 29 1 k (xs.map (·.1)), dkP (.slice a nb cb) b1 (Kg + 2 + k + 1), .ow (.slice ga n gc) 3 1 n (ints g), .pt b6 [.int .i64 rad, .int .i64 unit, .int .i64 3, .int .i64 2, .slice ga n gc, .slice (some ⟨c5, 0, none⟩) 2 2, .slice (some ⟨c1, 0, none⟩) 2 2, .slice (some ⟨c4, 0, none⟩) 2 2] 140, .pt c1 (ints [1, 1]) 3, .pt c2 (ints [1, 1]) 3, .pt c3 (ints [1, 1]) 3, .pt c4 [.slice (some ⟨c2, 0, none⟩) 2 2, .slice (some ⟨c3, 0, none⟩) 2 2] 29, .pt c5 (ints [d1, d2]) 3]) (0, none, 0) (by simp) ⟨rfl, rfl, rfl, rfl, rfl, rfl, rfl, rfl, rfl, rfl, trivial⟩ (by repeat constructor) ?_
      rintro ⟨j, ua, uc⟩ hj K2 hK2
      dsimp only at hj ⊢
      (refine q_seq (q_region (ql_pure tabOk rfl rfl (q_nil (q_seq ?_)))))
      refine q_if rfl (fun hc => ?_) (fun hc => ?_)
      · have hj5 : j < 5 := by omega
        rename_i hcc
        clear hcc
        have hx : 0 ≤ step * (j : Int) ∧ step * (j : Int) ≤ 6 * 4 := ⟨Int.mul_nonneg (by omega) (by omega), Int.mul_le_mul (by omega) (by omega) (by omega) (by omega)⟩
        (refine q_skip (q_seq (q_block (q_seq (q_region (ql_pure tabOk rfl rfl (ql_pure tabOk rfl rfl (q_nil (q_seq (q_region ?_))))))))); refine ql_loadABa tabOk rfl rfl rfl ?_)
        refine ql_alloc zero140 rfl (fun b13 => ?_)
        (refine ql_setA tabOk rfl rfl rfl rfl rfl (by repeat constructor) rfl ?_; refine q_nil (q_seq (q_region (ql_pure tabOk rfl rfl ?_))); refine ql_loadBa tabOk rfl rfl rfl ?_; refine ql_pure tabOk rfl rfl (ql_pure tabOk rfl rfl (ql_ar tabOk rfl rfl rfl rfl (by omega) (by omega) (ql_ar tabOk rfl rfl rfl rfl (by omega) (by omega) (ql_pure tabOk rfl rfl ?_)))); refine ql_st0 tabOk rfl rfl rfl rfl (by repeat constructor) ?_; refine q_nil (q_seq (q_region ?_)); refine ql_loadABa tabOk rfl rfl rfl ?_; refine ql_pure tabOk rfl rfl (ql_pure tabOk rfl rfl ?_))
        obtain ⟨z, hz⟩ : ∃ z, z = ratioV (r.group.sum - missS (calmR r (step * j)) dr c) r.group.sum := ⟨_, rfl⟩
        obtain ⟨z1, z2, z3⟩ := whit_fact hwd dr c (k := j) (by omega) hz
        simp only [List.drop_zero, List.take_succ_cons, List.take_zero]
        refine ql_callv (val := .tuple #[.agg #[.int .i64 z.1, .int .i64 z.2], .int .i64 0]) tabOk rfl rfl rfl rfl (fun w hs => ?_) ?_; exact by have := whit_ok w _ (calmR r (step * j)) st c (by rw [hr]; exact wd_rg (b1 := c1) (b2 := c2) (b3 := c3) (b4 := c4) (b5 := c5) hs hgq2.symm (by repeat constructor) (by repeat constructor) (by repeat constructor) (by repeat constructor) (by repeat constructor) (by repeat constructor)) (by rw [hr]; exact wd_small (q := q) (by omega) (by omega)) (calm_right hwd.right hx.1 (by have := hwd.rad; omega)) (by show st < r.drifts.length; omega) (by show -r.clicks ≤ c ∧ c ≤ r.clicks; omega); rw [hz, hdr]; exact this
        (refine ql_pure tabOk rfl rfl (ql_ext tabOk rfl rfl rfl (ql_ext tabOk rfl rfl rfl ?_)))
        refine ql_alloc zero142 rfl (fun b14 => ?_)
        (refine ql_setA tabOk rfl rfl rfl rfl rfl (by repeat constructor) rfl ?_; refine ql_pure tabOk rfl rfl (q_nil (q_seq (q_seq (q_region (ql_pure tabOk rfl rfl (ql_neqF tabOk rfl rfl rfl (by omega) (ql_pure tabOk rfl rfl (ql_gyes rfl (ql_pure tabOk rfl rfl (ql_gyes rfl ?_)))))))))); refine ql_loadBa tabOk rfl rfl rfl ?_; refine ql_gyes rfl (ql_lssF tabOk rfl rfl rfl (by omega) (ql_pure tabOk rfl rfl (ql_pure tabOk rfl rfl (ql_gyes rfl (ql_pure tabOk rfl rfl (ql_gyes rfl ?_)))))); refine ql_loadBa tabOk rfl rfl rfl ?_; refine ql_gyes rfl (ql_lssF tabOk rfl rfl rfl (by omega) (ql_pure tabOk rfl rfl (ql_pure tabOk rfl rfl (ql_gyes rfl (ql_pure tabOk rfl rfl (ql_gyes rfl ?_)))))); refine ql_loadBa tabOk rfl rfl rfl ?_; refine ql_gyes rfl (ql_pure tabOk rfl rfl (ql_gyes rfl ?_)); refine ql_loadBa tabOk rfl rfl rfl ?_; refine ql_gyes rfl (ql_gtrF tabOk rfl rfl rfl (by omega) (ql_pure tabOk rfl rfl (q_nil (q_cond_false rfl (q_skip (q_seq (q_region (ql_pure tabOk rfl rfl (ql_pure tabOk rfl rfl ?_))))))))); refine ql_loadBa tabOk rfl rfl rfl ?_; refine ql_pure tabOk rfl rfl ?_; refine ql_loadBa tabOk rfl rfl rfl ?_; refine ql_ar tabOk rfl rfl rfl rfl (by omega) (by omega) (ql_ar tabOk rfl rfl rfl rfl (by omega) (by omega) (ql_pure tabOk rfl rfl ?_)); refine ql_loadBa tabOk rfl rfl rfl ?_; refine ql_quoN rfl rfl rfl (by omega) (by omega) (by omega) ?_)
        rw [z3]
        refine ql_mkS 3 [.int .i64 (missW r step dr c j)] rfl (by kernel_rfl) rfl (fun bn => ?_)
        skip
        refine ql_append (q := 1) (news := [.int .i64 (missW r step dr c j)]) slI rfl rfl rfl (fun v' => by repeat constructor) (fun w' hs => ⟨_, _, Blk.rdN (hs.blk (b := bn) (by repeat constructor)) rfl⟩) (by simp [oneV]) (by omega) (by omega) (fun u' => ?_)
        refine ql_fact (fun w hs => hs.ownSome (v := u') (by repeat constructor) (by omega)) ?_
        rintro ⟨ub, uc2, rfl⟩
        have e1 : ints (missRow r step dr c j) ++ [.int .i64 (missW r step dr c j)] = ints (missRow r step dr c (j + 1)) := by rw [missRow_succ, ints_snoc2]
        rw [e1]
        have hbd := missW_bd hwd dr c (w := j) (by omega)
        by_cases j0 : j = 0
        · subst j0
          (refine ql_pure tabOk rfl rfl (q_nil (q_seq ?_)))
          refine q_draw _ [] (Sp.refl _) (by kernel_rfl) (by kernel_rfl) ?_
          (refine qf_pure tabOk rfl rfl rfl (qf_gtrF tabOk rfl rfl rfl (by omega) (qf_pure tabOk rfl rfl rfl ?_)); (iterate 10 refine qf_gno rfl rfl rfl ?_); refine qf_pure tabOk rfl rfl rfl (qf_nil (q_cond_false rfl (q_skip (q_blk (q_region (ql_ar tabOk rfl rfl rfl rfl (by omega) (by omega) (ql_pure tabOk rfl rfl (q_nil ?_)))))))))
          exact hK2 (0 + 1, some ⟨ub, 0, none⟩, uc2) _ _ (by simp only; omega) (by simp only; omega) ⟨rfl, rfl, rfl, rfl, rfl, rfl, rfl, rfl, rfl, rfl, trivial⟩ (by repeat constructor)
        · obtain ⟨i, rfl⟩ : ∃ i, j = i + 1 := ⟨j - 1, by omega⟩
          have han := missW_anti hwd dr c i
          have hbd2 := missW_bd hwd dr c (w := i) (by omega)
          have g1 : (missRow r step dr c (i + 1 + 1))[i + 1]'(by rw [missRow_len]; omega) = missW r step dr c (i + 1) := by simp [missRow]
          have g2 : (missRow r step dr c (i + 1 + 1))[i]'(by rw [missRow_len]; omega) = missW r step dr c i := by simp [missRow]
          (refine ql_pure tabOk rfl rfl (q_nil (q_seq ?_)))
          refine q_draw _ [] (Sp.refl _) (by kernel_rfl) (by kernel_rfl) ?_
          (refine qf_pure tabOk rfl rfl rfl (qf_gtrT tabOk rfl rfl rfl (by omega) (qf_pure tabOk rfl rfl rfl (qf_gyes rfl (qf_pure tabOk rfl rfl rfl (qf_gyes rfl (qf_pure tabOk rfl rfl rfl (qf_gyes rfl ?_))))))))
          refine qf_index tabOk rfl rfl rfl rfl rfl (by omega) (by omega) ?_
          (refine qf_gyes rfl ?_)
          refine qf_load1 (v := .int .i64 (missW r step dr c (i + 1))) tabOk rfl rfl rfl (fun w hs => by have := RdI.at (hs.rdI (v := .slice (some ⟨ub, 0, none⟩) (i + 1 + 1) uc2) (l := missRow r step dr c (i + 1 + 1)) (t := 3) (n := i + 1 + 1) (by repeat constructor) (missRow_len r step dr c (i + 1 + 1)).symm) (i + 1) (by rw [missRow_len]; omega); rw [g1] at this; exact this) ?_
          (refine qf_gyes rfl (qf_pure tabOk rfl rfl rfl (qf_gyes rfl (qf_pure tabOk rfl rfl rfl (qf_gyes rfl (qf_ar tabOk rfl rfl rfl rfl (by omega) (by omega) (qf_gyes rfl ?_)))))))
          refine qf_index tabOk rfl rfl rfl rfl rfl (by omega) (by omega) ?_
          (refine qf_gyes rfl ?_)
          refine qf_load1 (v := .int .i64 (missW r step dr c i)) tabOk rfl rfl rfl (fun w hs => by have := RdI.at (hs.rdI (v := .slice (some ⟨ub, 0, none⟩) (i + 1 + 1) uc2) (l := missRow r step dr c (i + 1 + 1)) (t := 3) (n := i + 1 + 1) (by repeat constructor) (missRow_len r step dr c (i + 1 + 1)).symm) i (by rw [missRow_len]; omega); rw [g2] at this; rw [show (((i + 1 : Nat) : Int) - 1).toNat = i from by omega]; exact this) ?_
          (refine qf_gyes rfl (qf_gtrF tabOk rfl rfl rfl (by omega) (qf_pure tabOk rfl rfl rfl (qf_nil (q_cond_false rfl (q_skip (q_blk (q_region (ql_ar tabOk rfl rfl rfl rfl (by omega) (by omega) (ql_pure tabOk rfl rfl (q_nil ?_)))))))))))
          exact hK2 (i + 1 + 1, some ⟨ub, 0, none⟩, uc2) _ _ (by simp only; omega) (by simp only; omega) ⟨rfl, rfl, rfl, rfl, rfl, rfl, rfl, rfl, rfl, rfl, trivial⟩ (by repeat constructor)
      · obtain rfl : j = 5 := by omega
        rename_i hcc
        clear hcc hK2
        (refine q_exit _ rfl (q_region (ql_pure tabOk rfl rfl (ql_pure tabOk rfl rfl ?_))))
        refine ql_mkS 29 [.slice ua 5 uc] rfl (by kernel_rfl) rfl (fun bn => ?_)
        skip
        refine ql_append (q := 1) (news := [.slice ua 5 uc]) slII rfl rfl rfl (fun v' => by repeat constructor) (fun w' hs => ⟨_, _, Blk.rdN (hs.blk (b := bn) (by repeat constructor)) rfl⟩) (by simp [oneV]) (by omega) (by omega) (fun u' => ?_)
        (refine ql_pure tabOk rfl rfl (q_nil (q_blk (q_region (ql_ar tabOk rfl rfl rfl rfl (by omega) (by omega) (ql_pure tabOk rfl rfl (q_nil ?_)))))))
        have hml := missRow_len r step dr c 5
        have hlen1 : (xs ++ [(Value.slice ua 5 uc, missRow r step dr c 5)]).length = k + 1 := by simp [hk]
        refine q_conv (H' := [un (rowsO 3 (xs ++ [(Value.slice ua 5 uc, missRow r step dr c 5)])), .ow u' 29 1 (k + 1) ((xs ++ [(Value.slice ua 5 uc, missRow r step dr c 5)]).map (·.1)), dkP (.slice a nb cb) b1 (Kg + 2 + (k + 1)), .ow (.slice ga n gc) 3 1 n (ints g), .pt b6 [.int .i64 rad, .int .i64 unit, .int .i64 3, .int .i64 2, .slice ga n gc, .slice (some ⟨c5, 0, none⟩) 2 2, .slice (some ⟨c1, 0, none⟩) 2 2, .slice (some ⟨c4, 0, none⟩) 2 2] 140, .pt c1 (ints [1, 1]) 3, .pt c2 (ints [1, 1]) 3, .pt c3 (ints [1, 1]) 3, .pt c4 [.slice (some ⟨c2, 0, none⟩) 2 2, .slice (some ⟨c3, 0, none⟩) 2 2] 29, .pt c5 (ints [d1, d2]) 3]) (fun w' hs => by
          refine rows_add ?_
          rw [List.map_append, hml]
          exact hs.sp (by repeat constructor)) ?_
        exact hK1 (u', xs ++ [(Value.slice ua 5 uc, missRow r step dr c 5)]) _ _ ⟨by simp only [hlen1]; omega, fun p hp => by
          rcases List.mem_append.1 hp with hp | hp
          · exact hR p hp
          · rw [List.mem_singleton.1 hp]; exact ⟨dr, rfl⟩⟩ (by simp only [hlen1]; omega) ⟨rfl, rfl, rfl, rfl, rfl, rfl, lookI rfl (by simp only [hlen1]; omega), trivial⟩ (by simp only [hlen1]; repeat constructor)
    · have hlm : xs.length = m := by omega
      rename_i hcc
      clear hcc hK1
      rw [hlm]
      refine q_fact (fun w hs => hs.ownSome (v := va) (by repeat constructor) (by omega)) ?_
      rintro ⟨vb, vc, rfl⟩
      obtain ⟨A, hA⟩ : ∃ A : List (List Int), A = xs.map (·.2) := ⟨_, rfl⟩
      have hAl : A.length = m := by rw [hA, List.length_map, hlm]
      have hrow : ∀ l ∈ A, ∃ dr, l = missRow r step dr c 5 := fun l hl => by
        rw [hA] at hl
        obtain ⟨p, hp, rfl⟩ := List.mem_map.1 hl
        exact hR p hp
      have hchk := chk_aimed (A := A) (by omega) (by omega) (fun l hl => by obtain ⟨dr, rfl⟩ := hrow l hl; exact missRow_len ..) (fun l hl => by obtain ⟨dr, rfl⟩ := hrow l hl; exact missRow_in hwd dr c)
      have hrd : ∀ w', (un (rowsO 3 xs)).p w' → w'.ownsRow 0 29 1 (.slice (some ⟨vb, 0, none⟩) m vc) m (xs.map (·.1)) → RdII w' 0 w'.heap.size (.slice (some ⟨vb, 0, none⟩) m vc) A := fun w' h1 h2 => hA ▸ rowsO_rd h1 h2
      (refine q_exit _ rfl (q_seq (q_seq (q_region (ql_pure tabOk rfl rfl ?_)))))
      refine ql_callv (val := .int .i64 (chkA A)) tabOk rfl rfl rfl rfl (fun w hs => ?_) ?_; exact checkA_ca w 0 w.heap.size _ A (hrd w (hs.mem (c := un (rowsO 3 xs)) (by repeat constructor)) (hs.mem (c := .ow (.slice (some ⟨vb, 0, none⟩) m vc) 29 1 m (xs.map fun x : Value × List Int => x.1)) (by repeat constructor))) (by simp only [maxLen]; omega)
      rcases hchk with hchk | hchk
      · rw [hchk]
        (refine ql_eqlT tabOk rfl rfl rfl (by omega) (q_nil (q_cond_true rfl (q_seq (q_region ?_)))))
        refine ql_callv (val := .bool true) tabOk rfl rfl rfl rfl (fun w hs => ?_) ?_; exact rawake_ca w
        (refine ql_pure tabOk rfl rfl (q_nil (q_ret ?_)))
        refine q_fin tabOk rfl (by repeat constructor) fun w hs => ?_
        exact ⟨rfl, hs.chg0⟩
      · have hAim := chkA_zero.1 hchk
        rw [hchk]
        (refine ql_eqlF tabOk rfl rfl rfl (by omega) (q_nil (q_cond_false rfl (q_skip (q_seq (q_region ?_))))); (iterate 3 refine ql_pure tabOk rfl rfl ?_))
        have hzl : (List.replicate m (0 : Nat)).length = m := by simp
        refine ql_makeI (m := m) slI rfl rfl rfl (by omega) (fun bz => ?_)
        skip
        have hzi : nI (List.replicate A.length 0) = List.replicate m (0 : Int) := by simp [nI, hAl]
        obtain ⟨N0, hN0⟩ : ∃ N0, N0 = missV A (List.replicate A.length 0) := ⟨_, rfl⟩
        refine ql_callv (val := .tuple #[.int .i64 N0, .int .i64 0]) tabOk rfl rfl rfl rfl (fun w hs => ?_) ?_; exact by have := amiss_ok w 0 w.heap.size 0 w.heap.size _ (.slice (some ⟨bz, 0, none⟩) m m) A (List.replicate A.length 0) (hrd w (hs.mem (c := un (rowsO 3 xs)) (by repeat constructor)) (hs.mem (c := .ow (.slice (some ⟨vb, 0, none⟩) m vc) 29 1 m (xs.map fun x : Value × List Int => x.1)) (by repeat constructor))) (by have := Blk.rdI (c := m) (l := List.replicate m (0 : Int)) (hs.blk (b := bz) (by repeat constructor)); rw [List.length_replicate] at this; rw [hzi]; exact this) hAim (none_ok hAim); rw [← hN0] at this; exact this
        (refine ql_pure tabOk rfl rfl (ql_ext tabOk rfl rfl rfl (ql_ext tabOk rfl rfl rfl (ql_pure tabOk rfl rfl (ql_pure tabOk rfl rfl (q_nil (q_seq (q_region (ql_pure tabOk rfl rfl (ql_pure tabOk rfl rfl ?_))))))))))
        refine ql_call (β := Int) (ψ := fun zq v => v = .int .i64 zq ∧ 0 ≤ zq ∧ zq ≤ 12 - 1) (L' := fun _ => [dkP (.slice a nb cb) b1 (Kg + 2 + m + 1)]) tabOk [dkP (.slice a nb cb) b1 (Kg + 2 + m)] _ (fun x => x = b1) rfl rfl rfl rfl (Sp.cons (by repeat constructor) (Sp.refl _)) (fun x hx => ⟨_, .head _, hx⟩) (fun w' hs => drw0 hbyb1 hs (by omega) (by omega)) ?_; rintro tt _ ⟨rfl, htt⟩
        skip
        obtain ⟨t, rfl⟩ := Int.eq_ofNat_of_zero_le htt.1
        have hle := none_le hAim t
        rw [← hN0] at hle
        obtain ⟨W, hW⟩ : ∃ W, W = wtsV A t := ⟨_, rfl⟩
        have hWok : WOk A W := hW ▸ (gr_all hAim t).ok
        have hWl : (nI W).length = m := by rw [nI_len, hWok.len, hAl]
        refine ql_call (β := Nat) (ψ := fun y v => v = .tuple #[.slice (some ⟨y, 0, none⟩) m m, .int .i64 (cvV A t), .int .i64 0]) (L' := fun y => [.pt y (ints (nI W)) 3]) tabOk [] _ M0 rfl rfl rfl rfl (Sp.refl _) (fun _ h => h.elim) (fun w' hs => by have := abest_ok w' 0 w'.heap.size _ A t (hrd w' (hs.mem (c := un (rowsO 3 xs)) (by repeat constructor)) (hs.mem (c := .ow (.slice (some ⟨vb, 0, none⟩) m vc) 29 1 m (xs.map fun x : Value × List Int => x.1)) (by repeat constructor))) hAim (by omega); rw [hAl, ← hW] at this; exact this) ?_
        rintro bw _ rfl
        dsimp only [List.cons_append, List.nil_append]
        (refine ql_pure tabOk rfl rfl ?_; (iterate 3 refine ql_ext tabOk rfl rfl rfl ?_); (iterate 3 refine ql_pure tabOk rfl rfl ?_); refine q_nil (q_seq (q_region (ql_pure tabOk rfl rfl (ql_pure tabOk rfl rfl ?_)))))
        refine ql_callv (val := .tuple #[.int .i64 (cvV A t), .int .i64 0]) tabOk rfl rfl rfl rfl (fun w hs => ?_) ?_; exact by have := amiss_ok w 0 w.heap.size 0 w.heap.size _ (.slice (some ⟨bw, 0, none⟩) m m) A W (hrd w (hs.mem (c := un (rowsO 3 xs)) (by repeat constructor)) (hs.mem (c := .ow (.slice (some ⟨vb, 0, none⟩) m vc) 29 1 m (xs.map fun x : Value × List Int => x.1)) (by repeat constructor))) (by have := Blk.rdI (c := m) (l := nI W) (hs.blk (b := bw) (by repeat constructor)); rw [hWl] at this; exact this) hAim hWok; rw [hW] at this; exact this
        (refine ql_pure tabOk rfl rfl (ql_ext tabOk rfl rfl rfl (ql_ext tabOk rfl rfl rfl (ql_pure tabOk rfl rfl (ql_pure tabOk rfl rfl (q_nil (q_seq (q_region (ql_pure tabOk rfl rfl (ql_eqlT tabOk rfl rfl rfl (by omega) (ql_pure tabOk rfl rfl (ql_gyes rfl ?_))))))))))); refine ql_pure tabOk rfl rfl (ql_gyes rfl (ql_eqlT tabOk rfl rfl rfl (by omega) (ql_pure tabOk rfl rfl (ql_pure tabOk rfl rfl (ql_gyes rfl (ql_pure tabOk rfl rfl (ql_gyes rfl (ql_eqlT tabOk rfl rfl rfl (by omega) (ql_pure tabOk rfl rfl (ql_pure tabOk rfl rfl (ql_gyes rfl ?_))))))))))); refine ql_pure tabOk rfl rfl (ql_gyes rfl (ql_pure tabOk rfl rfl (ql_gyes rfl (ql_eqlT tabOk rfl rfl rfl (by omega) (ql_pure tabOk rfl rfl (ql_pure tabOk rfl rfl (ql_gyes rfl (ql_pure tabOk rfl rfl (ql_gyes rfl (ql_pure tabOk rfl rfl (ql_gyes rfl ?_))))))))))); refine ql_leqT tabOk rfl rfl rfl (by omega) (ql_pure tabOk rfl rfl (ql_pure tabOk rfl rfl (ql_gyes rfl ?_))))
        refine ql_callv (val := .bool true) tabOk rfl rfl rfl rfl (fun w hs => ?_) ?_; exact rawake_ca w
        (refine ql_pure tabOk rfl rfl (ql_pure tabOk rfl rfl (q_nil (q_ret ?_))))
        refine q_fin tabOk rfl (by repeat constructor) fun w hs => ?_
        exact ⟨rfl, hs.chg0⟩
end Go.Proofs.YtopdmadgkjdgcaaGreat
