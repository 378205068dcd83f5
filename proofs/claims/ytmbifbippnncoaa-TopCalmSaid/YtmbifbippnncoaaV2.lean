/- Walks: fractions; the weight of the offsets that miss. -/
import Derived.Test.YtmbifbippnncoaaV1
namespace Go.Proofs.Ytmbifbippnncoaa
open Go Go.Eng

theorem mul_bd {a b A B : Int} (ha : -A ≤ a ∧ a ≤ A) (hb : -B ≤ b ∧ b ≤ B) : -(A * B) ≤ a * b ∧ a * b ≤ A * B := by
  have hA : 0 ≤ A := by omega
  have hB : 0 ≤ B := by omega
  have h1 : a.natAbs * b.natAbs ≤ A.natAbs * B.natAbs := Nat.mul_le_mul (by omega) (by omega)
  have h2 : (a * b).natAbs ≤ (A * B).natAbs := by rw [Int.natAbs_mul, Int.natAbs_mul]; exact h1
  have h3 : 0 ≤ A * B := Int.mul_nonneg hA hB
  omega
theorem mul_bd0 {a b A B : Int} (ha : 0 ≤ a ∧ a ≤ A) (hb : 0 ≤ b ∧ b ≤ B) : 0 ≤ a * b ∧ a * b ≤ A * B :=
  ⟨Int.mul_nonneg ha.1 hb.1, (mul_bd ⟨by omega, ha.2⟩ ⟨by omega, hb.2⟩).2⟩

/-- A fraction in lowest terms. -/
def ratioV (n d : Int) : Int × Int := (n / (Int.gcd n d : Int), d / (Int.gcd n d : Int))
def rtV (q : Int × Int) : Value := .agg #[.int .i64 q.1, .int .i64 q.2]

theorem gcd_step (a b : Int) : Int.gcd b (a % b) = Int.gcd a b := by
  rw [Int.emod_def, Int.gcd_sub_mul_left_right, Int.gcd_comm]

theorem ratio_ca (n d : Int) (w : World) (hn : 0 ≤ n) (hd : 0 < d) (hn' : n < 9223372036854775808) (hd' : d < 9223372036854775808) :
    Ca Try.prog 18 [.int .i64 n, .int .i64 d] w fun v w' => v = rtV (ratioV n d) ∧ Chg [] w w' := by
  refine q_of (Sat.nil w M0) Try.func18 rfl (by simp [Try.ntmps18]) ?_
  (refine q_seq ?_; refine q_region ?_)
  refine ql_alloc zero33 rfl (fun b4 => ?_)
  (refine q_nil ?_; refine q_seq ?_; refine q_region ?_; (iterate 4 refine ql_pure tabOk rfl rfl ?_); refine q_nil ?_; refine q_seq ?_; refine q_block ?_)
  refine q_loop (σ := Int × Int) (fun s => 0 ≤ s.1 ∧ 0 ≤ s.2 ∧ s.1 < 9223372036854775808 ∧ s.2 < 9223372036854775808 ∧ Int.gcd s.1 s.2 = Int.gcd n d) (fun s => s.2.toNat) (fun s => [(0, .int .i64 n), (1, .int .i64 d), (4, .pointer (some ⟨b4, 0, none⟩)), (5, .int .i64 s.1), (6, .int .i64 s.2)])
    (fun _ => [.pt b4 [.int .i64 0, .int .i64 0] 33]) (n, d) ⟨hn, by omega, hn', hd', rfl⟩ ⟨rfl, rfl, rfl, rfl, rfl, trivial⟩ (Sp.refl _) ?_
  rintro ⟨a, b⟩ ⟨h1, h2, h3, h4, h5⟩ K hK
  simp only at h1 h2 h3 h4 h5
  ((iterate 2 refine q_seq ?_); refine q_region ?_; (iterate 2 refine ql_pure tabOk rfl rfl ?_); refine q_nil ?_)
  refine q_if rfl (fun hc => ?_) (fun hc => ?_)
  · (refine q_skip ?_; refine q_block ?_)
    refine q_draw _ [] (Sp.refl _) (by kernel_rfl) (by kernel_rfl) ?_
    ((iterate 3 refine qf_pure tabOk rfl rfl rfl ?_); refine qf_remN rfl rfl rfl (by omega) (by omega) ?_; (iterate 2 refine qf_pure tabOk rfl rfl rfl ?_); refine qf_nil ?_; refine q_blk ?_)
    have h6 := Int.emod_nonneg a (show b ≠ 0 by omega)
    have h7 := Int.emod_lt_of_pos a (show 0 < b by omega)
    exact hK (b, a % b) _ _ ⟨h2, h6, h4, by simp only; omega, (gcd_step a b).trans h5⟩ (by simp only; omega) ⟨rfl, rfl, rfl, rfl, rfl, trivial⟩ (by repeat (first | exact Sp.nil | exact Sp.refl _ | refine Sp.cons (by repeat constructor) ?_))
  · obtain rfl : b = 0 := by omega
    have h6 : (Int.gcd n d : Int) = a := by
      rw [← h5]
      simp
      omega
    have h7 : 0 < a := by
      have : Int.gcd n d ≠ 0 := by
        intro h
        have := Int.gcd_eq_zero_iff.1 h
        omega
      omega
    (refine q_exit _ rfl ?_; refine q_seq ?_; refine q_region ?_; (iterate 2 refine ql_pure tabOk rfl rfl ?_); refine ql_neg tabOk rfl rfl (by omega) (by omega) ?_; (iterate 2 refine ql_pure tabOk rfl rfl ?_); refine q_nil ?_; refine q_seq ?_)
    rw [show max a (-a) = a by omega]
    skip
    refine q_draw _ [.pt b4 _ _] (Sp.cons (by repeat constructor) (Sp.refl _)) (by kernel_rfl) (by kernel_rfl) ?_
    ((iterate 2 refine qf_pure tabOk rfl rfl rfl ?_); refine qf_quoN rfl rfl rfl (by omega) (by omega) (by omega) ?_; (iterate 2 refine qf_pure tabOk rfl rfl rfl ?_); refine qf_quoN rfl rfl rfl (by omega) (by omega) (by omega) ?_)
    refine qf_mk #[.int .i64 (n / a), .int .i64 (d / a)] rfl (by kernel_rfl) rfl ?_
    (refine qf_setA tabOk rfl rfl rfl rfl rfl (by repeat constructor) rfl ?_; refine qf_nil ?_; refine q_ret ?_)
    refine q_fin tabOk rfl (by repeat (first | exact RVs.nil | apply RVs.tmp rfl | apply RVs.cellA rfl rfl (by repeat first | exact .head _ | refine .tail _ ?_) (by rfl) | apply RVs.cell1 rfl rfl (by repeat first | exact .head _ | refine .tail _ ?_))) fun w hs => ?_
    exact ⟨by rw [ratioV, h6]; rfl, hs.chg0⟩

/-- What can be compared without wrapping. -/
def Fine (q : Int × Int) : Prop := 0 ≤ q.1 ∧ q.1 ≤ 1000000000 ∧ 0 < q.2 ∧ q.2 ≤ 1000000000
def lessB (p q : Int × Int) : Bool := decide (p.1 * q.2 < q.1 * p.2) && true

theorem less_ca (p q : Int × Int) (w : World) (hp : Fine p) (hq : Fine q) :
    Ca Try.prog 31 [rtV p, rtV q] w fun v w' => v = .bool (lessB p q) ∧ Chg [] w w' := by
  refine q_of (Sat.nil w M0) Try.func31 rfl (by simp [Try.ntmps31]) ?_
  obtain ⟨p1, p2, p3, p4⟩ := hp
  obtain ⟨q1, q2, q3, q4⟩ := hq
  have h1 := mul_bd0 ⟨p1, p2⟩ (show 0 ≤ q.2 ∧ q.2 ≤ 1000000000 by omega)
  have h2 := mul_bd0 ⟨q1, q2⟩ (show 0 ≤ p.2 ∧ p.2 ≤ 1000000000 by omega)
  (refine q_seq ?_; refine q_region ?_)
  refine ql_box rfl rfl (fun b2 => ?_)
  refine ql_box rfl rfl (fun b3 => ?_)
  (refine ql_pure tabOk rfl rfl ?_; refine q_nil ?_; refine q_seq ?_; refine q_region ?_; refine ql_pure tabOk rfl rfl ?_; refine ql_loadB tabOk rfl rfl rfl (by repeat first | exact .head _ | refine .tail _ ?_) (by rfl) ?_; refine ql_pure tabOk rfl rfl ?_; refine ql_loadB tabOk rfl rfl rfl (by repeat first | exact .head _ | refine .tail _ ?_) (by rfl) ?_; refine ql_ar tabOk rfl rfl rfl rfl (by omega) (by omega) ?_; refine ql_pure tabOk rfl rfl ?_; refine ql_loadB tabOk rfl rfl rfl (by repeat first | exact .head _ | refine .tail _ ?_) (by rfl) ?_; refine ql_pure tabOk rfl rfl ?_; refine ql_loadB tabOk rfl rfl rfl (by repeat first | exact .head _ | refine .tail _ ?_) (by rfl) ?_; refine ql_ar tabOk rfl rfl rfl rfl (by omega) (by omega) ?_; (iterate 2 refine ql_pure tabOk rfl rfl ?_); refine q_nil ?_; refine q_ret ?_)
  refine q_fin tabOk rfl (by repeat (first | exact RVs.nil | apply RVs.tmp rfl | apply RVs.cellA rfl rfl (by repeat first | exact .head _ | refine .tail _ ?_) (by rfl) | apply RVs.cell1 rfl rfl (by repeat first | exact .head _ | refine .tail _ ?_))) fun w hs => ?_
  exact ⟨by simp [retV, lessB], hs.chg0⟩

/-- The weights of the offsets, those that hit counted 0. -/
def missL (r : Rg) (drift click : Int) : List Int := r.group.zipIdx.map fun p => if hitB r (drift + (p.2 : Int) - (r.group.length : Int) / 2 + click * r.unit) then 0 else p.1
def missS (r : Rg) (drift click : Int) : Int := (missL r drift click).sum
theorem missL_length (r : Rg) (drift click : Int) : (missL r drift click).length = r.group.length := by simp [missL]
theorem missL_get (r : Rg) (drift click : Int) (k : Nat) (hk : k < r.group.length) : (missL r drift click)[k]'(by rw [missL_length]; exact hk) = if hitB r (drift + (k : Int) - (r.group.length : Int) / 2 + click * r.unit) then 0 else r.group[k] := by
  simp [missL]
theorem missL_bd (r : Rg) (hr : r.Right) (drift click : Int) : ∀ x ∈ missL r drift click, -100 ≤ x ∧ x ≤ 100 := by
  intro x hx
  obtain ⟨k, hk, rfl⟩ := List.getElem_of_mem hx
  have hk' : k < r.group.length := by rwa [missL_length] at hk
  have := hr.weight r.group[k] (List.getElem_mem hk')
  rw [missL_get r drift click k hk']
  split <;> omega

theorem missed_ca (w : World) (b : Nat) (r : Rg) (drift click : Int) (hd : DkAt w b r) (hr : r.Right) (h1 : -1000000 ≤ drift ∧ drift ≤ 1000000) (h2 : -1000 ≤ click ∧ click ≤ 1000) :
    Ca Try.prog 20 [.pointer (some ⟨b, 0, none⟩), .int .i64 drift, .int .i64 click] w fun v w' => v = .int .i64 (missS r drift click) ∧ Chg [] w w' := by
  have hd0 := hd
  obtain ⟨cs, bt, hblk, lo, hi, ag, cg, ad, cd, af, cf, an, cn, rfl, hg, hdr, hf, hn⟩ := hd
  obtain ⟨_, _, hsl, hsg⟩ := RdI.outI hg
  cases hsl
  have hlen : r.group.length ≤ 21 := hr.g2
  have hcu := mul_bd h2 (show -20 ≤ r.unit ∧ r.unit ≤ 20 by have := hr.unit; omega)
  refine q_of (Sat.nil w M0) Try.func20 rfl (by simp [Try.ntmps20]) ?_
  (refine q_seq ?_; refine q_region ?_; refine ql_pure tabOk rfl rfl ?_; refine q_nil ?_; refine q_seq ?_; refine q_region ?_; (iterate 3 refine ql_pure tabOk rfl rfl ?_); refine q_nil ?_; refine q_seq ?_; refine q_region ?_; refine ql_pure tabOk rfl rfl ?_; refine q_nil ?_; (iterate 2 refine q_seq ?_); refine q_region ?_; (iterate 4 refine ql_pure tabOk rfl rfl ?_); refine ql_loadP tabOk rfl rfl rfl (by assumption) (by rfl) ?_; (iterate 2 refine ql_pure tabOk rfl rfl ?_); refine q_nil ?_; refine q_block ?_)
  refine q_loop (σ := Nat) (fun k => k ≤ r.group.length) (fun k => r.group.length - k) (fun k => [(0, .pointer (some ⟨b, 0, none⟩)), (1, .int .i64 drift), (2, .int .i64 click), (7, .func (.func 29) #[.pointer (some ⟨b, 0, none⟩)] #[]), (8, .int .i64 ((missL r drift click).take k).sum), (17, .slice ag r.group.length cg), (18, .int .i64 r.group.length), (19, .int .i64 k)]) (fun _ => []) 0 (by omega) ⟨rfl, rfl, rfl, rfl, rfl, rfl, rfl, rfl, trivial⟩ .nil ?_
  intro k hk K hK
  (refine q_seq ?_; refine q_region ?_; refine ql_pure tabOk rfl rfl ?_; refine q_nil ?_; refine q_seq ?_)
  refine q_if rfl (fun hc => ?_) (fun hc => ?_)
  · have hk : k < r.group.length := by omega
    obtain ⟨b0, off, rfl⟩ := hsg (by omega)
    have h3 := sum_take_bd (missL r drift click) k (missL_bd r hr drift click) (show (missL r drift click).length ≤ 21 by rw [missL_length]; omega) (by omega)
    have h4 := hr.weight r.group[k] (List.getElem_mem hk)
    have h5 := sum_take_succ (missL r drift click) k (by rw [missL_length]; exact hk)
    rw [missL_get r drift click k hk] at h5
    (refine q_skip ?_; refine q_seq ?_; refine q_block ?_; refine q_seq ?_; refine q_region ?_; refine ql_pure tabOk rfl rfl ?_)
    (refine ql_index tabOk rfl rfl rfl rfl rfl (by omega) (by omega) ?_; refine ql_load1 tabOk rfl rfl rfl (fun w hs => RdI.at (hg.keep hs.chg0) k hk) ?_)
    ((iterate 2 refine ql_pure tabOk rfl rfl ?_); refine q_nil ?_; refine q_seq ?_)
    refine q_draw _ [] (Sp.refl _) (by kernel_rfl) (by kernel_rfl) ?_
    ((iterate 3 refine qf_pure tabOk rfl rfl rfl ?_); refine qf_ar tabOk rfl rfl rfl rfl (by omega) (by omega) ?_; (iterate 4 refine qf_pure tabOk rfl rfl rfl ?_); refine qf_loadP tabOk rfl rfl rfl (by assumption) (by rfl) ?_; refine qf_pure tabOk rfl rfl rfl ?_; refine qf_quoN rfl rfl rfl (by omega) (by omega) (by omega) ?_; refine qf_ar tabOk rfl rfl rfl rfl (by omega) (by omega) ?_; (iterate 5 refine qf_pure tabOk rfl rfl rfl ?_); refine qf_loadP tabOk rfl rfl rfl (by assumption) (by rfl) ?_; (iterate 2 refine qf_ar tabOk rfl rfl rfl rfl (by omega) (by omega) ?_))
    refine qf_callv tabOk rfl rfl rfl rfl (fun w hs => hits_ca w b r _ (hd0.keep hs.chg0) hr.radius) ?_
    (refine qf_pure tabOk rfl rfl rfl ?_; refine qf_nil ?_)
    refine q_cond rfl (fun hc => ?_) (fun hc => ?_)
    · simp at hc
      rw [hc] at h5
      (refine q_region ?_; (iterate 2 refine ql_pure tabOk rfl rfl ?_); refine ql_ar tabOk rfl rfl rfl rfl (by omega) (by omega) ?_; refine ql_pure tabOk rfl rfl ?_; refine q_nil ?_; refine q_blk ?_; refine q_region ?_; refine ql_ar tabOk rfl rfl rfl rfl (by omega) (by omega) ?_; refine ql_pure tabOk rfl rfl ?_; refine q_nil ?_)
      exact hK (k + 1) _ _ (by omega) (by omega) ⟨rfl, rfl, rfl, rfl, by rw [h5]; rfl, rfl, rfl, rfl, trivial⟩ (by repeat (first | exact Sp.nil | exact Sp.refl _ | refine Sp.cons (by repeat constructor) ?_))
    · simp at hc
      rw [hc] at h5
      (refine q_skip ?_; refine q_blk ?_; refine q_region ?_; refine ql_ar tabOk rfl rfl rfl rfl (by omega) (by omega) ?_; refine ql_pure tabOk rfl rfl ?_; refine q_nil ?_)
      exact hK (k + 1) _ _ (by omega) (by omega) ⟨rfl, rfl, rfl, rfl, by rw [h5]; simp; rfl, rfl, rfl, rfl, trivial⟩ (by repeat (first | exact Sp.nil | exact Sp.refl _ | refine Sp.cons (by repeat constructor) ?_))
  · obtain rfl : k = r.group.length := by omega
    (refine q_exit _ rfl ?_; refine q_seq ?_; refine q_region ?_; (iterate 2 refine ql_pure tabOk rfl rfl ?_); refine q_nil ?_; refine q_ret ?_)
    refine q_fin tabOk rfl (by repeat (first | exact RVs.nil | apply RVs.tmp rfl | apply RVs.cellA rfl rfl (by repeat first | exact .head _ | refine .tail _ ?_) (by rfl) | apply RVs.cell1 rfl rfl (by repeat first | exact .head _ | refine .tail _ ?_))) fun w hs => ?_
    exact ⟨by rw [missS, List.take_of_length_le (by rw [missL_length]; omega)]; rfl, hs.chg0⟩

end Go.Proofs.Ytmbifbippnncoaa
