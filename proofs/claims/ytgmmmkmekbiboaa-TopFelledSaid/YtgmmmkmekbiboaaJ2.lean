/- My texts Gw0, Gw1, B14, B15, B16, B17, B18, B19, B20, B21, B22, B23, B24, B25, Gc0, joined: a claim takes at most 60 files. -/
import Derived.Test.YtgmmmkmekbiboaaJ1

/- Taken over from wind: what V8:hit_ca,D7:made_ca,D8:made0,D8:btw0,D8:drw0,H1:OwnR.form2,H2:RgC.drAt,H2:hit_ok,U0:OwnR.at,D4:of_ca reach. Written by graft.py. -/
namespace Go.Proofs.Ytgmmmkmekbiboaa
open Go Go.Eng
/-- A range. -/
structure Rg where
  radius : Int
  unit : Int
  clicks : Int
  total : Int
  group : List Int
  drifts : List Int
  first : List Int
  next : List (List Int)
/-- Lists of lists that can be read. -/
def RdII (w : World) (lo hi : Nat) (v : Value) (ll : List (List Int)) : Prop :=
  ∃ vs, RdE w lo hi v 1 vs ∧ vs.length = ll.length ∧ ∀ i (h : i < vs.length) (h' : i < ll.length), RdI w lo hi vs[i] ll[i]
theorem RdII.keep {w w' : World} {lo hi : Nat} {v : Value} {ll : List (List Int)} (h : RdII w lo hi v ll) (c : Chg [] w w') : RdII w' lo hi v ll := by
  obtain ⟨vs, h1, h2, h3⟩ := h
  exact ⟨vs, h1.keep c, h2, fun i hi hi' => (h3 i hi hi').keep c⟩
theorem RdII.outI {w : World} {lo hi : Nat} {v : Value} {ll : List (List Int)} (h : RdII w lo hi v ll) : ∃ a cap, v = .slice a ll.length cap ∧ (0 < ll.length → ∃ b off, a = some ⟨b, off, none⟩) := by
  obtain ⟨vs, h1, h2, h3⟩ := h
  have := RdE.out h1
  rwa [h2] at this
/-- One row. -/
theorem RdII.row {w : World} {lo hi : Nat} {b off len cap : Nat} {ll : List (List Int)} (h : RdII w lo hi (.slice (some ⟨b, off, none⟩) len cap) ll) (i : Nat) (hi' : i < ll.length) :
    ∃ a c, RdI w lo hi (.slice a ll[i].length c) ll[i] ∧ ∀ w', Chg [] w w' → w'.cell? ⟨b, off + i * 1, none⟩ = some (.slice a ll[i].length c) := by
  obtain ⟨vs, h1, h2, h3⟩ := h
  have h4 := h3 i (by omega) hi'
  obtain ⟨a, c, hv, _⟩ := RdI.outI h4
  refine ⟨a, c, hv ▸ h4, fun w' hw' => ?_⟩
  rw [RdE.cell1 (h1.keep hw') i (by omega) (by rw [hv]; rfl), hv]
/-- The cells of a range, and what its lists hold. -/
def RgC (w : World) (cs : List Value) (r : Rg) : Prop :=
  ∃ lo hi ag cg ad cd af cf an cn, cs = [.int .i64 r.radius, .int .i64 r.unit, .int .i64 r.clicks, .int .i64 r.total, .slice ag r.group.length cg, .slice ad r.drifts.length cd, .slice af r.first.length cf, .slice an r.next.length cn] ∧
    RdI w lo hi (.slice ag r.group.length cg) r.group ∧ RdI w lo hi (.slice ad r.drifts.length cd) r.drifts ∧ RdI w lo hi (.slice af r.first.length cf) r.first ∧ RdII w lo hi (.slice an r.next.length cn) r.next
theorem RgC.keep {w w' : World} {cs : List Value} {r : Rg} (h : RgC w cs r) (c : Chg [] w w') : RgC w' cs r := by
  obtain ⟨lo, hi, ag, cg, ad, cd, af, cf, an, cn, h1, h2, h3, h4, h5⟩ := h
  exact ⟨lo, hi, ag, cg, ad, cd, af, cf, an, cn, h1, RdE.keep h2 c, RdE.keep h3 c, RdE.keep h4 c, h5.keep c⟩
/-- A desk, in block b. -/
def DkAt (w : World) (b : Nat) (r : Rg) : Prop := ∃ cs t, Blk w b cs t ∧ RgC w cs r
theorem DkAt.keep {w w' : World} {b : Nat} {r : Rg} (h : DkAt w b r) (c : Chg [] w w') : DkAt w' b r := by
  obtain ⟨cs, t, h1, h2⟩ := h
  exact ⟨cs, t, h1.keep c, h2.keep c⟩
/-- From lo to hi. -/
def inB (n lo hi : Int) : Bool := decide (lo ≤ n) && decide (n ≤ hi)
theorem inB_iff {n lo hi : Int} : inB n lo hi = true ↔ lo ≤ n ∧ n ≤ hi := by simp [inB]
/-- The sizes that a range can have. -/
structure Rg.Small (r : Rg) : Prop where
  group : r.group.length ≤ 24
  drifts : r.drifts.length ≤ 7
  first : r.first.length ≤ 7
  next : r.next.length ≤ 7
  rows : ∀ l ∈ r.next, l.length ≤ 7
/-- A right range. -/
structure Rg.Right (r : Rg) : Prop where
  g1 : 1 ≤ r.group.length
  g2 : r.group.length ≤ 21
  odd : r.group.length % 2 = 1
  d1 : 1 ≤ r.drifts.length
  d2 : r.drifts.length ≤ 5
  first : r.first.length = r.drifts.length
  next : r.next.length = r.drifts.length
  rows : ∀ l ∈ r.next, l.length = r.drifts.length
  radius : 0 ≤ r.radius ∧ r.radius ≤ 200
  unit : 1 ≤ r.unit ∧ r.unit ≤ 20
  clicks : 0 ≤ r.clicks ∧ r.clicks ≤ 6
  total : 1 ≤ r.total ∧ r.total ≤ 12
  drift : ∀ x ∈ r.drifts, -300 ≤ x ∧ x ≤ 300
  weight : ∀ x ∈ r.group, 0 ≤ x ∧ x ≤ 100
  chance : ∀ x ∈ r.first, 0 ≤ x ∧ x ≤ r.total
  chances : ∀ l ∈ r.next, ∀ x ∈ l, 0 ≤ x ∧ x ≤ r.total
  gsum : 1 ≤ r.group.sum ∧ r.group.sum ≤ 100
  fsum : r.first.sum = r.total
  nsum : ∀ l ∈ r.next, l.sum = r.total
theorem in_ca (n lo hi : Int) (w : World) : Ca Try.prog 14 [.int .i64 n, .int .i64 lo, .int .i64 hi] w fun v w' => v = .bool (inB n lo hi) ∧ Chg [] w w' := by
  refine q_of (Sat.nil w M0) Try.func14 rfl (by simp [Try.ntmps14]) ?_
  (refine q_seq (q_region (ql_pure tabOk rfl rfl (q_nil (q_seq (q_region ?_))))); (iterate 4 refine ql_pure tabOk rfl rfl ?_))
  refine ql_split rfl rfl (fun hc => ?_) (fun hc => ?_)
  · (refine ql_gyes rfl (ql_pure tabOk rfl rfl (ql_gyes rfl (ql_pure tabOk rfl rfl (ql_gyes rfl ?_)))); (iterate 3 refine ql_pure tabOk rfl rfl ?_); refine q_nil (q_ret ?_))
    exact q_fin1 rfl rfl fun w' hs => ⟨by simp at hc; simp [inB, hc], hs.chg0⟩
  · ((iterate 3 refine ql_gno rfl rfl rfl ?_); refine ql_pure tabOk rfl rfl (ql_pure tabOk rfl rfl (q_nil (q_ret ?_))))
    exact q_fin1 rfl rfl fun w' hs => ⟨by simp at hc; simp [inB]; omega, hs.chg0⟩
theorem sum_bd {c : Int} : ∀ (l : List Int), (∀ x ∈ l, -c ≤ x ∧ x ≤ c) → -(c * l.length) ≤ l.sum ∧ l.sum ≤ c * l.length
  | [], _ => by simp
  | x :: l, h => by
    have h1 := sum_bd l (fun y hy => h y (List.mem_cons_of_mem _ hy))
    have h2 := h x List.mem_cons_self
    have e : c * ((x :: l).length : Int) = c * l.length + c := by simp [Int.mul_add]
    rw [e, List.sum_cons]
    omega
theorem sum_take_bd {c : Int} {m : Nat} (l : List Int) (k : Nat) (h : ∀ x ∈ l, -c ≤ x ∧ x ≤ c) (hl : l.length ≤ m) (hc : 0 ≤ c) : -(c * m) ≤ (l.take k).sum ∧ (l.take k).sum ≤ c * m := by
  have h1 := sum_bd (l.take k) (fun x hx => h x (List.mem_of_mem_take hx))
  have h2 : c * (l.take k).length ≤ c * m := Int.mul_le_mul_of_nonneg_left (by rw [List.length_take]; omega) hc
  omega
theorem sum_take_succ (l : List Int) (k : Nat) (hk : k < l.length) : (l.take (k + 1)).sum = (l.take k).sum + l[k] := by
  rw [List.take_succ_eq_append_getElem hk, List.sum_append]
  simp
theorem sum_ca (w : World) (lo hi : Nat) (v : Value) (l : List Int) (h : RdI w lo hi v l) (hlen : l.length < 1000000) (hb : ∀ x ∈ l, -1000000 ≤ x ∧ x ≤ 1000000) :
    Ca Try.prog 25 [v] w fun r w' => r = .int .i64 l.sum ∧ Chg [] w w' := by
  obtain ⟨a, cap, rfl, hs⟩ := h.outI
  refine q_of (Sat.nil w M0) Try.func25 rfl (by simp [Try.ntmps25]) ?_
  (refine q_seq (q_region (ql_pure tabOk rfl rfl (q_nil (q_seq (q_region (ql_pure tabOk rfl rfl (q_nil (q_seq (q_seq (q_region ?_)))))))))); (iterate 3 refine ql_pure tabOk rfl rfl ?_); refine q_nil (q_block ?_))
  refine q_loop (σ := Nat) (fun k => k ≤ l.length) (fun k => l.length - k) (fun k => [(3, .int .i64 (l.take k).sum), (6, .slice a l.length cap), (7, .int .i64 l.length), (8, .int .i64 k)]) (fun _ => []) 0 (by omega) ⟨rfl, rfl, rfl, rfl, trivial⟩ .nil ?_
  intro k hk K hK
  (refine q_seq (q_region (ql_pure tabOk rfl rfl (q_nil (q_seq ?_)))))
  refine q_if rfl (fun hc => ?_) (fun hc => ?_)
  · have hk : k < l.length := by omega
    obtain ⟨b, off, rfl⟩ := hs (by omega)
    (refine q_skip (q_seq (q_block (q_seq (q_region ?_)))))
    have h1 := sum_take_bd l k hb (show l.length ≤ 1000000 by omega) (by omega)
    have h2 := hb l[k] (List.getElem_mem hk)
    (refine ql_index tabOk rfl rfl rfl rfl rfl (by omega) (by omega) ?_; refine ql_load1 tabOk rfl rfl rfl (fun w hs => RdI.at (h.keep hs.chg0) k hk) ?_)
    (refine ql_pure tabOk rfl rfl (q_nil (q_region (ql_pure tabOk rfl rfl (ql_pure tabOk rfl rfl (ql_ar tabOk rfl rfl rfl rfl (by omega) (by omega) (ql_pure tabOk rfl rfl (q_nil (q_blk (q_region (ql_ar tabOk rfl rfl rfl rfl (by omega) (by omega) (ql_pure tabOk rfl rfl ?_))))))))))); refine q_nil ?_)
    exact hK (k + 1) _ _ (by omega) (by omega) ⟨by rw [sum_take_succ l k hk]; rfl, rfl, rfl, rfl, trivial⟩ (by repeat constructor)
  · obtain rfl : k = l.length := by omega
    (refine q_exit _ rfl (q_seq (q_region (ql_pure tabOk rfl rfl (ql_pure tabOk rfl rfl (q_nil (q_ret ?_)))))))
    exact q_fin1 rfl rfl fun w' hs => ⟨by rw [List.take_length], hs.chg0⟩
theorem group_ca (w : World) (b : Nat) (r : Rg) (hd : DkAt w b r) (hr : r.Right) : Ca Try.prog 16 [.pointer (some ⟨b, 0, none⟩)] w fun v w' => v = .int .i64 r.group.sum ∧ Chg [] w w' := by
  obtain ⟨cs, bt, hblk, lo, hi, ag, cg, ad, cd, af, cf, an, cn, rfl, hg, hdr, hf, hn⟩ := hd
  refine q_of (Sat.nil w M0) Try.func16 rfl (by simp [Try.ntmps16]) ?_
  (refine q_seq (q_region (ql_pure tabOk rfl rfl (q_nil (q_seq (q_region ?_))))); (iterate 4 refine ql_pure tabOk rfl rfl ?_); refine ql_loadP tabOk rfl rfl rfl (by assumption) (by rfl) ?_)
  (refine ql_callv tabOk rfl rfl rfl rfl (fun w hs => sum_ca w lo hi _ r.group (hg.keep hs.chg0) (by have := hr.g2; omega) (fun x hx => by have := hr.weight x hx; omega)) ?_)
  (refine ql_pure tabOk rfl rfl (q_nil (q_ret ?_)))
  exact q_fin1 rfl rfl fun w' hs => ⟨rfl, hs.chg0⟩
/-- An impact hits. -/
def hitB (r : Rg) (n : Int) : Bool := inB n (-r.radius) r.radius
theorem hits_ca (w : World) (b : Nat) (r : Rg) (n : Int) (hd : DkAt w b r) (hr : 0 ≤ r.radius ∧ r.radius ≤ 200) : Ca Try.prog 26 [.pointer (some ⟨b, 0, none⟩), .int .i64 n] w fun v w' => v = .bool (hitB r n) ∧ Chg [] w w' := by
  obtain ⟨cs, bt, hblk, lo, hi, ag, cg, ad, cd, af, cf, an, cn, rfl, hg, hdr, hf, hn⟩ := hd
  refine q_of (Sat.nil w M0) Try.func26 rfl (by simp [Try.ntmps26]) ?_
  (refine q_seq (q_region (ql_pure tabOk rfl rfl (q_nil (q_seq ?_)))))
  refine q_draw _ [] (Sp.refl _) (by kernel_rfl) (by kernel_rfl) ?_
  ((iterate 5 refine qf_pure tabOk rfl rfl rfl ?_); refine qf_loadP tabOk rfl rfl rfl (by assumption) (by rfl) ?_; refine qf_neg tabOk rfl rfl (by omega) (by omega) ?_; (iterate 4 refine qf_pure tabOk rfl rfl rfl ?_); refine qf_loadP tabOk rfl rfl rfl (by assumption) (by rfl) ?_)
  refine qf_callv tabOk rfl rfl rfl rfl (fun w hs => in_ca n (-r.radius) r.radius w) ?_
  (refine qf_pure tabOk rfl rfl rfl (qf_nil (q_ret ?_)))
  exact q_fin1 rfl rfl fun w' hs => ⟨rfl, hs.chg0⟩
theorem mul_bd {a b A B : Int} (ha : -A ≤ a ∧ a ≤ A) (hb : -B ≤ b ∧ b ≤ B) : -(A * B) ≤ a * b ∧ a * b ≤ A * B := by
  have hA : 0 ≤ A := by omega
  have hB : 0 ≤ B := by omega
  have h1 : a.natAbs * b.natAbs ≤ A.natAbs * B.natAbs := Nat.mul_le_mul (by omega) (by omega)
  have h2 : (a * b).natAbs ≤ (A * B).natAbs := by rw [Int.natAbs_mul, Int.natAbs_mul]; exact h1
  have h3 : 0 ≤ A * B := Int.mul_nonneg hA hB
  omega
/-- A fraction in lowest terms. -/
def ratioV (n d : Int) : Int × Int := (n / (Int.gcd n d : Int), d / (Int.gcd n d : Int))
def rtV (q : Int × Int) : Value := .agg #[.int .i64 q.1, .int .i64 q.2]
theorem gcd_step (a b : Int) : Int.gcd b (a % b) = Int.gcd a b := by
  rw [Int.emod_def, Int.gcd_sub_mul_left_right, Int.gcd_comm]
theorem ratio_ca (n d : Int) (w : World) (hn : 0 ≤ n) (hd : 0 < d) (hn' : n < 9223372036854775808) (hd' : d < 9223372036854775808) :
    Ca Try.prog 15 [.int .i64 n, .int .i64 d] w fun v w' => v = rtV (ratioV n d) ∧ Chg [] w w' := by
  refine q_of (Sat.nil w M0) Try.func15 rfl (by simp [Try.ntmps15]) ?_
  (refine q_seq (q_region ?_))
  refine ql_alloc zero32 rfl (fun b4 => ?_)
  (refine q_nil (q_seq (q_region ?_)); (iterate 4 refine ql_pure tabOk rfl rfl ?_); refine q_nil (q_seq (q_block ?_)))
  refine q_loop (σ := Int × Int) (fun s => 0 ≤ s.1 ∧ 0 ≤ s.2 ∧ s.1 < 9223372036854775808 ∧ s.2 < 9223372036854775808 ∧ Int.gcd s.1 s.2 = Int.gcd n d) (fun s => s.2.toNat) (fun s => [(0, .int .i64 n), (1, .int .i64 d), (4, .pointer (some ⟨b4, 0, none⟩)), (5, .int .i64 s.1), (6, .int .i64 s.2)])
    (fun _ => [.pt b4 [.int .i64 0, .int .i64 0] 32]) (n, d) ⟨hn, by omega, hn', hd', rfl⟩ ⟨rfl, rfl, rfl, rfl, rfl, trivial⟩ (Sp.refl _) ?_
  rintro ⟨a, b⟩ ⟨h1, h2, h3, h4, h5⟩ K hK
  simp only at h1 h2 h3 h4 h5
  (refine q_seq (q_seq (q_region (ql_pure tabOk rfl rfl (ql_pure tabOk rfl rfl (q_nil ?_))))))
  refine q_if rfl (fun hc => ?_) (fun hc => ?_)
  · (refine q_skip (q_block ?_))
    refine q_draw _ [] (Sp.refl _) (by kernel_rfl) (by kernel_rfl) ?_
    ((iterate 3 refine qf_pure tabOk rfl rfl rfl ?_); refine qf_remN rfl rfl rfl (by omega) (by omega) (qf_pure tabOk rfl rfl rfl (qf_pure tabOk rfl rfl rfl (qf_nil (q_blk ?_)))))
    have h6 := Int.emod_nonneg a (show b ≠ 0 by omega)
    have h7 := Int.emod_lt_of_pos a (show 0 < b by omega)
    exact hK (b, a % b) _ _ ⟨h2, h6, h4, by simp only; omega, (gcd_step a b).trans h5⟩ (by simp only; omega) ⟨rfl, rfl, rfl, rfl, rfl, trivial⟩ (by repeat constructor)
  · obtain rfl : b = 0 := by omega
    have h6 : (Int.gcd n d : Int) = a := by
      rw [← h5]
      simp
      omega
    have h7 : 0 < a := by
      have : Int.gcd n d ≠ 0 := by
        intro h
        have := Int.gcd_eq_zero_iff.1 h
        omega
      omega
    (refine q_exit _ rfl (q_seq (q_region (ql_pure tabOk rfl rfl (ql_pure tabOk rfl rfl (ql_neg tabOk rfl rfl (by omega) (by omega) (ql_pure tabOk rfl rfl (ql_pure tabOk rfl rfl (q_nil (q_seq ?_))))))))))
    rw [show max a (-a) = a by omega]
    skip
    refine q_draw _ [.pt b4 _ _] (Sp.cons (by repeat constructor) (Sp.refl _)) (by kernel_rfl) (by kernel_rfl) ?_
    (refine qf_pure tabOk rfl rfl rfl (qf_pure tabOk rfl rfl rfl (qf_quoN rfl rfl rfl (by omega) (by omega) (by omega) (qf_pure tabOk rfl rfl rfl (qf_pure tabOk rfl rfl rfl (qf_quoN rfl rfl rfl (by omega) (by omega) (by omega) ?_))))))
    refine qf_mk #[.int .i64 (n / a), .int .i64 (d / a)] rfl (by kernel_rfl) rfl ?_
    (refine qf_setA tabOk rfl rfl rfl rfl rfl (by repeat constructor) rfl ?_; refine qf_nil (q_ret ?_))
    refine q_fin tabOk rfl (by repeat constructor) fun w hs => ?_
    exact ⟨by rw [ratioV, h6]; rfl, hs.chg0⟩
/-- The weights of the offsets, those that hit counted 0. -/
def missL (r : Rg) (drift click : Int) : List Int := r.group.zipIdx.map fun p => if hitB r (drift + (p.2 : Int) - (r.group.length : Int) / 2 + click * r.unit) then 0 else p.1
def missS (r : Rg) (drift click : Int) : Int := (missL r drift click).sum
theorem missL_length (r : Rg) (drift click : Int) : (missL r drift click).length = r.group.length := by simp [missL]
theorem missL_get (r : Rg) (drift click : Int) (k : Nat) (hk : k < r.group.length) : (missL r drift click)[k]'(by rw [missL_length]; exact hk) = if hitB r (drift + (k : Int) - (r.group.length : Int) / 2 + click * r.unit) then 0 else r.group[k] := by
  simp [missL]
theorem missL_bd (r : Rg) (hr : r.Right) (drift click : Int) : ∀ x ∈ missL r drift click, -100 ≤ x ∧ x ≤ 100 := by
  intro x hx
  obtain ⟨k, hk, rfl⟩ := List.getElem_of_mem hx
  have hk' : k < r.group.length := by rwa [missL_length] at hk
  have := hr.weight r.group[k] (List.getElem_mem hk')
  rw [missL_get r drift click k hk']
  split <;> omega
theorem missed_ca (w : World) (b : Nat) (r : Rg) (drift click : Int) (hd : DkAt w b r) (hr : r.Right) (h1 : -1000000 ≤ drift ∧ drift ≤ 1000000) (h2 : -1000 ≤ click ∧ click ≤ 1000) :
    Ca Try.prog 17 [.pointer (some ⟨b, 0, none⟩), .int .i64 drift, .int .i64 click] w fun v w' => v = .int .i64 (missS r drift click) ∧ Chg [] w w' := by
  have hd0 := hd
  obtain ⟨cs, bt, hblk, lo, hi, ag, cg, ad, cd, af, cf, an, cn, rfl, hg, hdr, hf, hn⟩ := hd
  obtain ⟨_, _, hsl, hsg⟩ := RdI.outI hg
  cases hsl
  have hlen : r.group.length ≤ 21 := hr.g2
  have hcu := mul_bd h2 (show -20 ≤ r.unit ∧ r.unit ≤ 20 by have := hr.unit; omega)
  refine q_of (Sat.nil w M0) Try.func17 rfl (by simp [Try.ntmps17]) ?_
  (refine q_seq (q_region (ql_pure tabOk rfl rfl (q_nil (q_seq (q_region ?_))))); (iterate 3 refine ql_pure tabOk rfl rfl ?_); refine q_nil (q_seq (q_region (ql_pure tabOk rfl rfl (q_nil (q_seq (q_seq (q_region ?_))))))); (iterate 4 refine ql_pure tabOk rfl rfl ?_); refine ql_loadP tabOk rfl rfl rfl (by assumption) (by rfl) ?_; refine ql_pure tabOk rfl rfl (ql_pure tabOk rfl rfl (q_nil (q_block ?_))))
  refine q_loop (σ := Nat) (fun k => k ≤ r.group.length) (fun k => r.group.length - k) (fun k => [(0, .pointer (some ⟨b, 0, none⟩)), (1, .int .i64 drift), (2, .int .i64 click), (7, .func (.func 26) #[.pointer (some ⟨b, 0, none⟩)] #[]), (8, .int .i64 ((missL r drift click).take k).sum), (17, .slice ag r.group.length cg), (18, .int .i64 r.group.length), (19, .int .i64 k)]) (fun _ => []) 0 (by omega) ⟨rfl, rfl, rfl, rfl, rfl, rfl, rfl, rfl, trivial⟩ .nil ?_
  intro k hk K hK
  (refine q_seq (q_region (ql_pure tabOk rfl rfl (q_nil (q_seq ?_)))))
  refine q_if rfl (fun hc => ?_) (fun hc => ?_)
  · have hk : k < r.group.length := by omega
    obtain ⟨b0, off, rfl⟩ := hsg (by omega)
    have h3 := sum_take_bd (missL r drift click) k (missL_bd r hr drift click) (show (missL r drift click).length ≤ 21 by rw [missL_length]; omega) (by omega)
    have h4 := hr.weight r.group[k] (List.getElem_mem hk)
    have h5 := sum_take_succ (missL r drift click) k (by rw [missL_length]; exact hk)
    rw [missL_get r drift click k hk] at h5
    (refine q_skip (q_seq (q_block (q_seq (q_region (ql_pure tabOk rfl rfl ?_))))))
    (refine ql_index tabOk rfl rfl rfl rfl rfl (by omega) (by omega) ?_; refine ql_load1 tabOk rfl rfl rfl (fun w hs => RdI.at (hg.keep hs.chg0) k hk) ?_)
    (refine ql_pure tabOk rfl rfl (ql_pure tabOk rfl rfl (q_nil (q_seq ?_))))
    refine q_draw _ [] (Sp.refl _) (by kernel_rfl) (by kernel_rfl) ?_
    ((iterate 3 refine qf_pure tabOk rfl rfl rfl ?_); refine qf_ar tabOk rfl rfl rfl rfl (by omega) (by omega) ?_; (iterate 4 refine qf_pure tabOk rfl rfl rfl ?_); refine qf_loadP tabOk rfl rfl rfl (by assumption) (by rfl) ?_; refine qf_pure tabOk rfl rfl rfl (qf_quoN rfl rfl rfl (by omega) (by omega) (by omega) (qf_ar tabOk rfl rfl rfl rfl (by omega) (by omega) ?_)); (iterate 5 refine qf_pure tabOk rfl rfl rfl ?_); refine qf_loadP tabOk rfl rfl rfl (by assumption) (by rfl) ?_; refine qf_ar tabOk rfl rfl rfl rfl (by omega) (by omega) (qf_ar tabOk rfl rfl rfl rfl (by omega) (by omega) ?_))
    refine qf_callv tabOk rfl rfl rfl rfl (fun w hs => hits_ca w b r _ (hd0.keep hs.chg0) hr.radius) ?_
    (refine qf_pure tabOk rfl rfl rfl (qf_nil ?_))
    refine q_cond rfl (fun hc => ?_) (fun hc => ?_)
    · simp at hc
      rw [hc] at h5
      (refine q_region (ql_pure tabOk rfl rfl (ql_pure tabOk rfl rfl (ql_ar tabOk rfl rfl rfl rfl (by omega) (by omega) (ql_pure tabOk rfl rfl (q_nil (q_blk (q_region (ql_ar tabOk rfl rfl rfl rfl (by omega) (by omega) (ql_pure tabOk rfl rfl (q_nil ?_)))))))))))
      exact hK (k + 1) _ _ (by omega) (by omega) ⟨rfl, rfl, rfl, rfl, by rw [h5]; rfl, rfl, rfl, rfl, trivial⟩ (by repeat constructor)
    · simp at hc
      rw [hc] at h5
      (refine q_skip (q_blk (q_region (ql_ar tabOk rfl rfl rfl rfl (by omega) (by omega) (ql_pure tabOk rfl rfl (q_nil ?_))))))
      exact hK (k + 1) _ _ (by omega) (by omega) ⟨rfl, rfl, rfl, rfl, by rw [h5]; simp; rfl, rfl, rfl, rfl, trivial⟩ (by repeat constructor)
  · obtain rfl : k = r.group.length := by omega
    (refine q_exit _ rfl (q_seq (q_region (ql_pure tabOk rfl rfl (ql_pure tabOk rfl rfl (q_nil (q_ret ?_)))))))
    refine q_fin tabOk rfl (by repeat constructor) fun w hs => ?_
    exact ⟨by rw [missS, List.take_of_length_le (by rw [missL_length]; omega)]; rfl, hs.chg0⟩
/-- The clicks that are so far. -/
def farL (C near : Int) (far : Nat) : List Int := if far = 0 then [near] else [near - far, near + far].filter (fun c => inB c (-C) C)
def clickP (C near : Int) (n : Nat) : List Int := (List.range n).flatMap (farL C near)
/-- All clicks, the ones nearest to one first. -/
def clickL (C near : Int) : List Int := clickP C near (2 * C + 1).toNat
set_option maxHeartbeats 1000000 in
theorem idxF_int (w : World) (lo hi : Nat) (v cv : Value) (es : List Value) (p : Value → Bool) (hrd : RdE w lo hi v 1 es) (hone : ∀ i (hi : i < es.length), oneV es[i] = true) (hlen : es.length < 4611686018427387904) (hp : PredAt Try.prog tab w cv es p) :
    Ca Try.prog 67 [v, cv] w fun r w' => ((∃ i : Nat, r = .int .i64 i ∧ ∃ hi : i < es.length, p es[i] = true) ∨ (r = .int .i64 (-1) ∧ ∀ x ∈ es, p x = false)) ∧ Chg [] w w' := by
  obtain ⟨a, cap, rfl, hsl⟩ := hrd.out
  obtain ⟨g, first, caps, rfl, hg, hcl⟩ := hp
  refine ca_of Try.func67 rfl (by simp [Try.ntmps67]) ?_
  (refine y_seq (y_region (yl_pure tabOk rfl rfl (y_seq (y_seq (y_region ?_))))); (iterate 3 refine yl_pure tabOk rfl rfl ?_); refine y_block ?_)
  refine y_loop (fun m l wr => ∃ k : Nat, k ≤ es.length ∧ m = es.length - k ∧ l = [(0, .slice a es.length cap), (1, .func (.func g) first caps), (7, .int .i64 es.length), (8, .int .i64 k)] ∧ (∀ i (hi : i < es.length), i < k → p es[i] = false) ∧ Chg [] w wr) (m := es.length)
    ⟨0, by omega, rfl, rfl, fun i _ hi => by omega, Chg.refl _ _⟩ ⟨rfl, rfl, rfl, rfl, trivial⟩ ?_
  rintro m l wr ⟨k, hkl, rfl, rfl, hpk, hcw⟩ K hK
  (refine y_seq (y_region (yl_pure tabOk rfl rfl (y_seq ?_))))
  refine y_if rfl (fun hc => ?_) (fun hc => ?_)
  · have hk : k < es.length := by omega
    obtain ⟨b, off, rfl⟩ := hsl (by omega)
    (refine y_skip (y_seq (y_block (y_seq (y_region (yl_pure tabOk rfl rfl (yl_pure tabOk rfl rfl (y_seq (y_region ?_)))))))); (iterate 3 refine yl_pure tabOk rfl rfl ?_))
    refine yl_index tabOk rfl rfl rfl rfl rfl (by omega) (by omega) ?_
    refine yl_load1 tabOk rfl rfl rfl (v := es[k]) (by rw [show (Int.toNat (k : Int)) = k from rfl]; exact (hrd.keep hcw).cell1 k hk (hone k hk)) ?_
    refine yl_call tabOk rfl hg rfl rfl (hcl wr hcw es[k] (List.getElem_mem hk)) ?_
    rintro _ w2 ⟨rfl, hc2⟩
    (refine yl_nil ?_)
    refine y_cond rfl (fun hc => ?_) (fun hc => ?_)
    · (refine y_seq (y_region (yl_pure tabOk rfl rfl (yl_pure tabOk rfl rfl (y_ret ?_)))))
      exact y_fin1 rfl rfl ⟨.inl ⟨k, rfl, hk, hc⟩, hcw.trans hc2⟩
    · (refine y_skip (y_region (yl_pure tabOk rfl rfl (yl_pure tabOk rfl rfl (yl_nil ?_)))))
      refine y_k (hK _ _ _ _ ⟨k + 1, by omega, rfl, rfl, fun i hi hik => ?_, hcw.trans hc2⟩ (by omega) ⟨rfl, rfl, rfl, ?_, trivial⟩)
      · by_cases h : i < k
        · exact hpk i hi h
        · obtain rfl : i = k := by omega
          exact hc
      · show some (Value.int _ (IntKind.i64.wrap (↑k + 1))) = _
        rw [w64 (by omega) (by omega)]
        rfl
  · (refine y_exit _ rfl (y_seq (y_region (yl_pure tabOk rfl rfl (y_ret ?_)))))
    refine y_fin1 rfl rfl ⟨.inr ⟨rfl, fun x hx => ?_⟩, hcw⟩
    obtain ⟨i, hi, rfl⟩ := List.getElem_of_mem hx
    exact hpk i hi (by omega)
theorem conF_int (w : World) (lo hi : Nat) (v cv : Value) (es : List Value) (p : Value → Bool) (hrd : RdE w lo hi v 1 es) (hone : ∀ i (hi : i < es.length), oneV es[i] = true) (hlen : es.length < 4611686018427387904) (hp : PredAt Try.prog tab w cv es p) :
    Ca Try.prog 52 [v, cv] w fun r w' => r = .bool (es.any p) ∧ Chg [] w w' := by
  refine ca_of Try.func52 rfl (by simp [Try.ntmps52]) ?_
  (refine y_seq (y_region (yl_pure tabOk rfl rfl (y_seq (y_region (yl_pure tabOk rfl rfl (yl_pure tabOk rfl rfl ?_)))))))
  refine yl_call tabOk rfl rfl rfl rfl (idxF_int w lo hi v cv es p hrd hone hlen hp) ?_
  rintro r w2 ⟨⟨i, rfl, hi, hpi⟩ | ⟨rfl, hall⟩, hc2⟩
  · (refine yl_pure tabOk rfl rfl (yl_pure tabOk rfl rfl (y_ret ?_)))
    refine y_fin1 rfl rfl ⟨?_, hc2⟩
    have h1 : es.any p = true := List.any_eq_true.2 ⟨_, List.getElem_mem hi, hpi⟩
    rw [h1]
    exact congrArg Value.bool (decide_eq_true (by omega))
  · (refine yl_pure tabOk rfl rfl (yl_pure tabOk rfl rfl (y_ret ?_)))
    refine y_fin1 rfl rfl ⟨?_, hc2⟩
    have h1 : es.any p = false := List.any_eq_false.2 (fun x hx => by simp [hall x hx])
    rw [h1]
    rfl
theorem all1_int (w : World) (b t : Nat) (cv x : Value) (es : List Value) (p : Value → Bool) (_hx : oneV x = true) (hm : x ∈ es) (hb : Blk w b [cv] t) (hp : PredAt Try.prog tab w cv es p) :
    Ca Try.prog 53 [x, .pointer (some ⟨b, 0, none⟩)] w fun r w' => r = .bool (!(p x)) ∧ Chg [] w w' := by
  obtain ⟨g, first, caps, rfl, hg, hcl⟩ := hp
  refine ca_of Try.func53 rfl (by simp [Try.ntmps53]) ?_
  (refine y_seq (y_region (yl_pure tabOk rfl rfl (y_seq (y_region ?_)))); refine yl_loadB tabOk rfl rfl rfl (by assumption) (by rfl) ?_; refine yl_pure tabOk rfl rfl ?_)
  refine yl_call tabOk rfl hg rfl rfl (hcl w (Chg.refl _ _) _ hm) ?_
  rintro _ w2 ⟨rfl, hc2⟩
  (refine yl_pure tabOk rfl rfl (yl_pure tabOk rfl rfl (y_ret ?_)))
  exact y_fin1 rfl rfl ⟨rfl, hc2⟩
theorem all_int (w : World) (lo hi : Nat) (v cv : Value) (es : List Value) (p : Value → Bool) (hrd : RdE w lo hi v 1 es) (hone : ∀ i (hi : i < es.length), oneV es[i] = true) (hlen : es.length < 4611686018427387904) (hp : PredAt Try.prog tab w cv es p) :
    Ca Try.prog 36 [v, cv] w fun r w' => r = .bool (es.all p) ∧ Chg [] w w' := by
  refine ca_of Try.func36 rfl (by simp [Try.ntmps36]) ?_
  (refine y_seq (y_region ?_))
  refine yl_box rfl rfl (fun w1 hc1 hs1 hb1 => ?_)
  have hcv : cv.cells.toList = [cv] := by obtain ⟨g, first, caps, rfl, _, _⟩ := hp; rfl
  rw [hcv] at hb1
  have hp1 : PredAt Try.prog tab w1 (.func (.func 53) #[] #[.pointer (some ⟨w.heap.size, 0, none⟩)]) es (fun x => !(p x)) := by
    refine ⟨53, #[], #[_], rfl, rfl, fun w' hw' x hx => ?_⟩
    refine all1_int w' w.heap.size _ cv x es p ?_ hx (hb1.keep hw') (hp.keep (hc1.trans hw'))
    obtain ⟨i, hi, rfl⟩ := List.getElem_of_mem hx
    exact hone i hi
  (refine yl_pure tabOk rfl rfl (y_seq (y_region (yl_pure tabOk rfl rfl (yl_pure tabOk rfl rfl ?_)))))
  refine yl_call tabOk rfl rfl rfl rfl (conF_int w1 lo hi v _ es _ (hrd.keep hc1) hone hlen hp1) ?_
  rintro _ w2 ⟨rfl, hc2⟩
  (refine yl_pure tabOk rfl rfl (yl_pure tabOk rfl rfl (y_ret ?_)))
  refine y_fin1 rfl rfl ⟨?_, hc1.trans hc2⟩
  rw [List.all_eq_not_any_not]
/-- A predicate of rows, as a function value. -/
def RowP (w : World) (lo hi : Nat) (cv : Value) (ll : List (List Int)) (p : List Int → Bool) : Prop :=
  ∃ g first caps, cv = .func (.func g) first caps ∧ has tab.fn g = true ∧
    ∀ w', Chg [] w w' → ∀ l ∈ ll, ∀ v, RdI w' lo hi v l → Ca Try.prog g (first.toList ++ [v] ++ caps.toList) w' fun v w'' => v = .bool (p l) ∧ Chg [] w' w''
theorem RowP.keep {w w1 : World} {lo hi : Nat} {cv : Value} {ll : List (List Int)} {p : List Int → Bool} (h : RowP w lo hi cv ll p) (c : Chg [] w w1) : RowP w1 lo hi cv ll p := by
  obtain ⟨g, f, cs, h1, h2, h3⟩ := h
  exact ⟨g, f, cs, h1, h2, fun w' hw => h3 w' (c.trans hw)⟩
theorem idxR (w : World) (lo hi : Nat) (v cv : Value) (ll : List (List Int)) (p : List Int → Bool) (hrd : RdII w lo hi v ll) (hlen : ll.length < 1000000) (hp : RowP w lo hi cv ll p) :
    Ca Try.prog 66 [v, cv] w fun r w' => (∃ i : Int, r = .int .i64 i ∧ decide (0 ≤ i) = ll.any p) ∧ Chg [] w w' := by
  obtain ⟨a, cap, rfl, hsl⟩ := hrd.outI
  obtain ⟨g, first, caps, rfl, hg, hcl⟩ := hp
  refine q_of (Sat.nil w M0) Try.func66 rfl (by simp [Try.ntmps66]) ?_
  (refine q_seq (q_region (ql_pure tabOk rfl rfl (q_nil (q_seq (q_seq (q_region ?_)))))); (iterate 3 refine ql_pure tabOk rfl rfl ?_); refine q_nil (q_block ?_))
  refine q_loop (σ := Nat) (fun k => k ≤ ll.length ∧ (ll.take k).any p = false) (fun k => ll.length - k) (fun k => [(0, .slice a ll.length cap), (1, .func (.func g) first caps), (7, .int .i64 ll.length), (8, .int .i64 k)]) (fun _ => []) 0 ⟨by omega, rfl⟩ ⟨rfl, rfl, rfl, rfl, trivial⟩ .nil ?_
  rintro k ⟨hk, hpk⟩ K hK
  (refine q_seq (q_region (ql_pure tabOk rfl rfl (q_nil (q_seq ?_)))))
  refine q_if rfl (fun hc => ?_) (fun hc => ?_)
  · have hk : k < ll.length := by omega
    obtain ⟨b, off, rfl⟩ := hsl (by omega)
    obtain ⟨ar, cr, hrow, hcell⟩ := hrd.row k hk
    (refine q_skip (q_seq (q_block (q_seq (q_region (ql_pure tabOk rfl rfl (ql_pure tabOk rfl rfl (q_nil (q_seq (q_region ?_))))))))); (iterate 3 refine ql_pure tabOk rfl rfl ?_))
    refine ql_index tabOk rfl rfl rfl rfl rfl (by omega) (by omega) ?_
    refine ql_load1 (v := .slice ar ll[k].length cr) tabOk rfl rfl rfl (fun w' hs => hcell w' hs.chg0) ?_
    refine ql_callv tabOk rfl hg rfl rfl (fun w' hs => hcl w' hs.chg0 ll[k] (List.getElem_mem hk) _ (RdE.keep hrow hs.chg0)) ?_
    (refine q_nil ?_)
    refine q_cond rfl (fun hc => ?_) (fun hc => ?_)
    · (refine q_seq (q_region (ql_pure tabOk rfl rfl (ql_pure tabOk rfl rfl (q_nil (q_ret ?_))))))
      refine q_fin tabOk rfl (by repeat constructor) fun w hs => ?_
      refine ⟨⟨k, rfl, ?_⟩, hs.chg0⟩
      rw [decide_eq_true (by omega), List.any_eq_true.2 ⟨ll[k], List.getElem_mem hk, hc⟩]
    · (refine q_skip (q_blk (q_region (ql_ar tabOk rfl rfl rfl rfl (by omega) (by omega) (ql_pure tabOk rfl rfl (q_nil ?_))))))
      exact hK (k + 1) _ _ ⟨by omega, by rw [List.take_succ_eq_append_getElem hk, List.any_append, hpk]; simp [hc]⟩ (by omega) ⟨rfl, rfl, rfl, rfl, trivial⟩ (by repeat constructor)
  · obtain rfl : k = ll.length := by omega
    rw [List.take_length] at hpk
    (refine q_exit _ rfl (q_seq (q_region (ql_pure tabOk rfl rfl (q_nil (q_ret ?_))))))
    refine q_fin tabOk rfl (by repeat constructor) fun w hs => ?_
    exact ⟨⟨-1, rfl, by rw [hpk]; rfl⟩, hs.chg0⟩
theorem conR (w : World) (lo hi : Nat) (v cv : Value) (ll : List (List Int)) (p : List Int → Bool) (hrd : RdII w lo hi v ll) (hlen : ll.length < 1000000) (hp : RowP w lo hi cv ll p) :
    Ca Try.prog 50 [v, cv] w fun r w' => r = .bool (ll.any p) ∧ Chg [] w w' := by
  refine q_of (Sat.nil w M0) Try.func50 rfl (by simp [Try.ntmps50]) ?_
  (refine q_seq (q_region (ql_pure tabOk rfl rfl (q_nil (q_seq (q_region (ql_pure tabOk rfl rfl (ql_pure tabOk rfl rfl ?_))))))))
  refine ql_call (β := Int) (ψ := fun i v => v = .int .i64 i ∧ decide (0 ≤ i) = ll.any p) (L' := fun _ => []) tabOk [] _ M0 rfl rfl rfl rfl (Sp.refl _) (fun _ h => h.elim) (fun w' hs => (idxR w' lo hi v cv ll p (hrd.keep hs.chg0) hlen (hp.keep hs.chg0)).mono (fun r w'' ⟨⟨i, h1, h2⟩, h3⟩ => ⟨i, ⟨h1, h2⟩, (Sat.nil w' M0).keep h3⟩)) ?_
  rintro i _ ⟨rfl, hi⟩
  (refine ql_pure tabOk rfl rfl (ql_pure tabOk rfl rfl (q_nil (q_ret ?_))))
  refine q_fin tabOk rfl (by repeat constructor) fun w hs => ?_
  exact ⟨by rw [← hi]; rfl, hs.chg0⟩
theorem allR1 (w : World) (lo hi : Nat) (b t : Nat) (cv v : Value) (l : List Int) (ll : List (List Int)) (p : List Int → Bool) (hm : l ∈ ll) (hb : Blk w b [cv] t) (hv : RdI w lo hi v l) (hp : RowP w lo hi cv ll p) :
    Ca Try.prog 51 [v, .pointer (some ⟨b, 0, none⟩)] w fun r w' => r = .bool (!(p l)) ∧ Chg [] w w' := by
  obtain ⟨g, first, caps, rfl, hg, hcl⟩ := hp
  refine q_of (Sat.nil w M0) Try.func51 rfl (by simp [Try.ntmps51]) ?_
  (refine q_seq (q_region (ql_pure tabOk rfl rfl (q_nil (q_seq (q_region ?_))))); refine ql_loadP tabOk rfl rfl rfl (by assumption) (by rfl) ?_; refine ql_pure tabOk rfl rfl ?_)
  refine ql_callv tabOk rfl hg rfl rfl (fun w' hs => hcl w' hs.chg0 l hm _ (RdE.keep hv hs.chg0)) ?_
  (refine ql_pure tabOk rfl rfl (ql_pure tabOk rfl rfl (q_nil (q_ret ?_))))
  refine q_fin tabOk rfl (by repeat constructor) fun w hs => ?_
  exact ⟨rfl, hs.chg0⟩
theorem allR (w : World) (lo hi : Nat) (v cv : Value) (ll : List (List Int)) (p : List Int → Bool) (hrd : RdII w lo hi v ll) (hlen : ll.length < 1000000) (hp : RowP w lo hi cv ll p) :
    Ca Try.prog 33 [v, cv] w fun r w' => r = .bool (ll.all p) ∧ Chg [] w w' := by
  have hcv : cv.cells.toList = [cv] := by obtain ⟨g, first, caps, rfl, _, _⟩ := hp; rfl
  refine q_of (Sat.nil w M0) Try.func33 rfl (by simp [Try.ntmps33]) ?_
  (refine q_seq (q_region ?_))
  refine ql_box rfl rfl (fun b3 => ?_)
  rw [hcv]
  (refine ql_pure tabOk rfl rfl (q_nil (q_seq (q_region (ql_pure tabOk rfl rfl (ql_pure tabOk rfl rfl ?_))))))
  refine ql_callv tabOk rfl rfl rfl rfl (fun w hs => conR w lo hi v _ ll (fun l => !(p l)) (hrd.keep hs.chg0) hlen ⟨_, #[], #[_], rfl, rfl, fun w' hw' l hl v hv => allR1 w' lo hi b3 _ cv v l ll p hl ((hs.blk (by repeat constructor)).keep hw') hv (hp.keep (hs.chg0.trans hw'))⟩) ?_
  (refine ql_pure tabOk rfl rfl (ql_pure tabOk rfl rfl (q_nil (q_ret ?_))))
  refine q_fin tabOk rfl (by repeat constructor) fun w hs => ?_
  exact ⟨by rw [List.all_eq_not_any_not]; rfl, hs.chg0⟩
def pI (lo hi : Int) : Value → Bool
  | .int _ n => inB n lo hi
  | _ => false
theorem pI_all (lo hi : Int) (l : List Int) : (ints l).all (pI lo hi) = l.all (fun n => inB n lo hi) := by
  rw [List.all_map]
  rfl
theorem ints_one (l : List Int) : ∀ i (hi : i < (ints l).length), oneV (ints l)[i] = true := by
  intro i hi
  simp [oneV]
theorem chk1_p (w : World) (lo hi b : Nat) (t : TypeId) (m : Int) (ll : List (List Int)) (hb : Blk w b [.int .i64 m] t) : RowP w lo hi (.func (.func 34) #[] #[.pointer (some ⟨b, 0, none⟩)]) ll (fun l => decide ((l.length : Int) = m) && true) := by
  refine ⟨_, _, _, rfl, rfl, fun w' hw' l _ v hv => ?_⟩
  have hb' := hb.keep hw'
  obtain ⟨a, c, rfl, _⟩ := RdI.outI hv
  refine q_of (Sat.nil w' M0) Try.func34 rfl (by simp [Try.ntmps34]) ?_
  (refine q_seq (q_region (ql_pure tabOk rfl rfl (q_nil (q_seq (q_region (ql_pure tabOk rfl rfl (ql_pure tabOk rfl rfl ?_))))))); refine ql_loadP tabOk rfl rfl rfl (by assumption) (by rfl) ?_; refine ql_pure tabOk rfl rfl (ql_pure tabOk rfl rfl (q_nil (q_ret ?_))))
  refine q_fin tabOk rfl (by repeat constructor) fun w hs => ?_
  exact ⟨by simp [retV], hs.chg0⟩
theorem chk2_p (w : World) (b : Nat) (t : TypeId) (r : Rg) (cs : List Value) (es : List Int) (hb : Blk w b cs t) (hc : cs[3]? = some (.int .i64 r.total)) : PredAt Try.prog tab w (.func (.func 35) #[] #[.pointer (some ⟨b, 0, none⟩)]) (ints es) (pI 0 r.total) := by
  refine ⟨_, _, _, rfl, rfl, fun w' hw' x hx => ?_⟩
  have hb' := hb.keep hw'
  obtain ⟨y, hy, rfl⟩ := List.mem_map.1 hx
  refine q_of (Sat.nil w' M0) Try.func35 rfl (by simp [Try.ntmps35]) ?_
  (refine q_seq (q_region (ql_pure tabOk rfl rfl (q_nil (q_seq (q_region (ql_pure tabOk rfl rfl (ql_pure tabOk rfl rfl ?_))))))))
  refine ql_loadP tabOk rfl rfl rfl hb' hc ?_
  skip
  refine ql_callv tabOk rfl rfl rfl rfl (fun w hs => in_ca y 0 r.total w) ?_
  (refine ql_pure tabOk rfl rfl (q_nil (q_ret ?_)))
  refine q_fin tabOk rfl (by repeat constructor) fun w hs => ?_
  exact ⟨rfl, hs.chg0⟩
theorem chk3_p (w : World) (es : List Int) : PredAt Try.prog tab w (.func (.func 37) #[] #[]) (ints es) (pI (-300) 300) := by
  refine ⟨_, _, _, rfl, rfl, fun w' hw' x hx => ?_⟩
  obtain ⟨y, hy, rfl⟩ := List.mem_map.1 hx
  refine q_of (Sat.nil w' M0) Try.func37 rfl (by simp [Try.ntmps37]) ?_
  (refine q_seq (q_region (ql_pure tabOk rfl rfl (q_nil (q_seq (q_region (ql_pure tabOk rfl rfl ?_)))))))
  refine ql_callv tabOk rfl rfl rfl rfl (fun w hs => in_ca y (-300) 300 w) ?_
  (refine ql_pure tabOk rfl rfl (q_nil (q_ret ?_)))
  refine q_fin tabOk rfl (by repeat constructor) fun w hs => ?_
  exact ⟨rfl, hs.chg0⟩
theorem chk4_p (w : World) (es : List Int) : PredAt Try.prog tab w (.func (.func 38) #[] #[]) (ints es) (pI 0 100) := by
  refine ⟨_, _, _, rfl, rfl, fun w' hw' x hx => ?_⟩
  obtain ⟨y, hy, rfl⟩ := List.mem_map.1 hx
  refine q_of (Sat.nil w' M0) Try.func38 rfl (by simp [Try.ntmps38]) ?_
  (refine q_seq (q_region (ql_pure tabOk rfl rfl (q_nil (q_seq (q_region (ql_pure tabOk rfl rfl ?_)))))))
  refine ql_callv tabOk rfl rfl rfl rfl (fun w hs => in_ca y 0 100 w) ?_
  (refine ql_pure tabOk rfl rfl (q_nil (q_ret ?_)))
  refine q_fin tabOk rfl (by repeat constructor) fun w hs => ?_
  exact ⟨rfl, hs.chg0⟩
theorem chk5_p (w : World) (lo hi b b1 : Nat) (t t1 : TypeId) (r : Rg) (cs : List Value) (ll : List (List Int)) (hlen : ∀ l ∈ ll, l.length < 1000000) (hb : Blk w b [.func (.func 35) #[] #[.pointer (some ⟨b1, 0, none⟩)]] t) (hb1 : Blk w b1 cs t1) (hc : cs[3]? = some (.int .i64 r.total)) :
    RowP w lo hi (.func (.func 39) #[] #[.pointer (some ⟨b, 0, none⟩)]) ll (fun l => l.all (fun n => inB n 0 r.total)) := by
  refine ⟨_, _, _, rfl, rfl, fun w' hw' l hl v hv => ?_⟩
  have hb' := hb.keep hw'
  refine q_of (Sat.nil w' M0) Try.func39 rfl (by simp [Try.ntmps39]) ?_
  (refine q_seq (q_region (ql_pure tabOk rfl rfl (q_nil (q_seq (q_region (ql_pure tabOk rfl rfl ?_)))))); refine ql_loadP tabOk rfl rfl rfl (by assumption) (by rfl) ?_)
  (refine ql_callv tabOk rfl rfl rfl rfl (fun w hs => all_int w lo hi v _ (ints l) (pI 0 r.total) (RdE.keep hv hs.chg0) (ints_one l) (by have := hlen l hl; simp; omega) (chk2_p w b1 t1 r cs l (hb1.keep (hw'.trans hs.chg0)) hc)) ?_)
  (refine ql_pure tabOk rfl rfl (q_nil (q_ret ?_)))
  refine q_fin tabOk rfl (by repeat constructor) fun w hs => ?_
  exact ⟨by rw [pI_all]; rfl, hs.chg0⟩
theorem chk6_p (w : World) (lo hi b : Nat) (t : TypeId) (r : Rg) (cs : List Value) (ll : List (List Int)) (hlen : ∀ l ∈ ll, l.length < 1000000 ∧ ∀ x ∈ l, -1000000 ≤ x ∧ x ≤ 1000000) (hb : Blk w b cs t) (hc : cs[3]? = some (.int .i64 r.total)) :
    RowP w lo hi (.func (.func 40) #[] #[.pointer (some ⟨b, 0, none⟩)]) ll (fun l => decide (l.sum = r.total) && true) := by
  refine ⟨_, _, _, rfl, rfl, fun w' hw' l hl v hv => ?_⟩
  have hb' := hb.keep hw'
  refine q_of (Sat.nil w' M0) Try.func40 rfl (by simp [Try.ntmps40]) ?_
  (refine q_seq (q_region (ql_pure tabOk rfl rfl (q_nil (q_seq ?_)))))
  refine q_draw _ [] (Sp.refl _) (by kernel_rfl) (by kernel_rfl) ?_
  (refine qf_pure tabOk rfl rfl rfl ?_)
  refine qf_callv tabOk rfl rfl rfl rfl (fun w hs => sum_ca w lo hi v l (RdE.keep hv hs.chg0) (hlen l hl).1 (hlen l hl).2) ?_
  (refine qf_pure tabOk rfl rfl rfl ?_)
  refine qf_loadP tabOk rfl rfl rfl hb' hc ?_
  (refine qf_pure tabOk rfl rfl rfl (qf_pure tabOk rfl rfl rfl (qf_nil (q_ret ?_))))
  refine q_fin tabOk rfl (by repeat constructor) fun w hs => ?_
  exact ⟨by simp [retV], hs.chg0⟩
def cntB (r : Rg) : Bool := inB r.group.length 1 21 && !(decide ((r.group.length : Int) % 2 = 0)) && inB r.drifts.length 1 5 && decide ((r.first.length : Int) = r.drifts.length) && decide ((r.next.length : Int) = r.drifts.length) && r.next.all (fun l => decide ((l.length : Int) = r.drifts.length) && true)
def rng1B (r : Rg) : Bool := inB r.radius 0 200 && inB r.unit 1 20 && inB r.clicks 0 6 && inB r.total 1 12
def rng2B (r : Rg) : Bool := r.drifts.all (fun n => inB n (-300) 300) && r.group.all (fun n => inB n 0 100)
def rng3B (r : Rg) : Bool := r.first.all (fun n => inB n 0 r.total) && r.next.all (fun l => l.all (fun n => inB n 0 r.total))
def cnfB (r : Rg) : Bool := inB r.group.sum 1 100 && decide (r.first.sum = r.total) && r.next.all (fun l => decide (l.sum = r.total) && true)
/-- The error of a range. -/
def checkV (r : Rg) : Int := if !cntB r then 2 else if !rng1B r then 3 else if !rng2B r then 3 else if !rng3B r then 3 else if !cnfB r then 7 else 0
set_option maxHeartbeats 2000000 in
theorem check_ca (w : World) (cs : List Value) (r : Rg) (h : RgC w cs r) (hsm : r.Small) : Ca Try.prog 24 [.agg cs.toArray] w fun v w' => v = .int .i64 (checkV r) ∧ Chg [] w w' := by
  obtain ⟨lo, hi, ag, cg, ad, cd, af, cf, an, cn, rfl, hg, hdr, hf, hn⟩ := h
  have s1 := hsm.group
  have s2 := hsm.drifts
  have s3 := hsm.first
  have s4 := hsm.next
  refine q_of (Sat.nil w M0) Try.func24 rfl (by simp [Try.ntmps24]) ?_
  (refine q_seq (q_region ?_))
  refine ql_box rfl rfl (fun b1 => ?_)
  (refine ql_pure tabOk rfl rfl (q_nil (q_seq (q_region (ql_pure tabOk rfl rfl ?_)))); refine ql_loadBa tabOk rfl rfl rfl ?_; refine ql_pure tabOk rfl rfl ?_)
  refine ql_alloc zero3 rfl (fun b3 => ?_)
  (refine ql_set tabOk rfl rfl rfl rfl (by repeat constructor) ?_; refine q_nil (q_seq (q_seq (q_region (ql_pure tabOk rfl rfl ?_)))); refine ql_loadBa tabOk rfl rfl rfl ?_; refine ql_pure tabOk rfl rfl ?_)
  refine ql_callv tabOk rfl rfl rfl rfl (fun w hs => in_ca (r.group.length : Int) 1 21 w) ?_
  (refine ql_pure tabOk rfl rfl (ql_pure tabOk rfl rfl ?_))
  refine ql_split rfl rfl (fun hc => ?_) (fun hc => ?_)
  · ((iterate 5 refine ql_gno rfl rfl rfl ?_); refine ql_pure tabOk rfl rfl (ql_pure tabOk rfl rfl ?_); (iterate 3 refine ql_gno rfl rfl rfl ?_); refine ql_pure tabOk rfl rfl (ql_pure tabOk rfl rfl ?_); (iterate 5 refine ql_gno rfl rfl rfl ?_); refine ql_pure tabOk rfl rfl (ql_pure tabOk rfl rfl ?_); (iterate 5 refine ql_gno rfl rfl rfl ?_); refine ql_pure tabOk rfl rfl (ql_pure tabOk rfl rfl ?_); (iterate 5 refine ql_gno rfl rfl rfl ?_); refine ql_pure tabOk rfl rfl (q_nil (q_cond_true rfl (q_seq (q_region (ql_pure tabOk rfl rfl (q_nil (q_ret ?_))))))))
    refine q_fin tabOk rfl (by repeat constructor) fun w hs => ?_
    exact ⟨by simp at hc; simp [retV, checkV, cntB, hc], hs.chg0⟩
  simp at hc
  have c1 := hc
  (refine ql_gyes rfl (ql_pure tabOk rfl rfl (ql_gyes rfl ?_)); refine ql_loadBa tabOk rfl rfl rfl ?_; refine ql_gyes rfl (ql_pure tabOk rfl rfl (ql_gyes rfl (ql_remN rfl rfl rfl (by omega) (by omega) (ql_gyes rfl ?_)))); (iterate 3 refine ql_pure tabOk rfl rfl ?_))
  refine ql_split rfl rfl (fun hc => ?_) (fun hc => ?_)
  · ((iterate 3 refine ql_gno rfl rfl rfl ?_); refine ql_pure tabOk rfl rfl (ql_pure tabOk rfl rfl ?_); (iterate 5 refine ql_gno rfl rfl rfl ?_); refine ql_pure tabOk rfl rfl (ql_pure tabOk rfl rfl ?_); (iterate 5 refine ql_gno rfl rfl rfl ?_); refine ql_pure tabOk rfl rfl (ql_pure tabOk rfl rfl ?_); (iterate 5 refine ql_gno rfl rfl rfl ?_); refine ql_pure tabOk rfl rfl (q_nil (q_cond_true rfl (q_seq (q_region (ql_pure tabOk rfl rfl (q_nil (q_ret ?_))))))))
    refine q_fin tabOk rfl (by repeat constructor) fun w hs => ?_
    exact ⟨by simp [retV, checkV, cntB, hc], hs.chg0⟩
  simp at hc
  have c2 := hc
  (refine ql_gyes rfl ?_; refine ql_loadBa tabOk rfl rfl rfl ?_; refine ql_gyes rfl ?_)
  refine ql_callv tabOk rfl rfl rfl rfl (fun w hs => in_ca (r.drifts.length : Int) 1 5 w) ?_
  (refine ql_gyes rfl ?_; (iterate 3 refine ql_pure tabOk rfl rfl ?_))
  refine ql_split rfl rfl (fun hc => ?_) (fun hc => ?_)
  · ((iterate 5 refine ql_gno rfl rfl rfl ?_); refine ql_pure tabOk rfl rfl (ql_pure tabOk rfl rfl ?_); (iterate 5 refine ql_gno rfl rfl rfl ?_); refine ql_pure tabOk rfl rfl (ql_pure tabOk rfl rfl ?_); (iterate 5 refine ql_gno rfl rfl rfl ?_); refine ql_pure tabOk rfl rfl (q_nil (q_cond_true rfl (q_seq (q_region (ql_pure tabOk rfl rfl (q_nil (q_ret ?_))))))))
    refine q_fin tabOk rfl (by repeat constructor) fun w hs => ?_
    exact ⟨by simp at hc; simp [retV, checkV, cntB, hc], hs.chg0⟩
  simp at hc
  have c3 := hc
  (refine ql_gyes rfl (ql_pure tabOk rfl rfl (ql_gyes rfl ?_)); refine ql_loadBa tabOk rfl rfl rfl ?_; refine ql_gyes rfl (ql_pure tabOk rfl rfl (ql_gyes rfl ?_)); refine ql_loadBa tabOk rfl rfl rfl ?_; refine ql_gyes rfl ?_; (iterate 3 refine ql_pure tabOk rfl rfl ?_))
  refine ql_split rfl rfl (fun hc => ?_) (fun hc => ?_)
  · ((iterate 5 refine ql_gno rfl rfl rfl ?_); refine ql_pure tabOk rfl rfl (ql_pure tabOk rfl rfl ?_); (iterate 5 refine ql_gno rfl rfl rfl ?_); refine ql_pure tabOk rfl rfl (q_nil (q_cond_true rfl (q_seq (q_region (ql_pure tabOk rfl rfl (q_nil (q_ret ?_))))))))
    refine q_fin tabOk rfl (by repeat constructor) fun w hs => ?_
    exact ⟨by simp [retV, checkV, cntB, hc], hs.chg0⟩
  simp at hc
  have c4 := hc
  (refine ql_gyes rfl (ql_pure tabOk rfl rfl (ql_gyes rfl ?_)); refine ql_loadBa tabOk rfl rfl rfl ?_; refine ql_gyes rfl (ql_pure tabOk rfl rfl (ql_gyes rfl ?_)); refine ql_loadBa tabOk rfl rfl rfl ?_; refine ql_gyes rfl ?_; (iterate 3 refine ql_pure tabOk rfl rfl ?_))
  refine ql_split rfl rfl (fun hc => ?_) (fun hc => ?_)
  · ((iterate 5 refine ql_gno rfl rfl rfl ?_); refine ql_pure tabOk rfl rfl (q_nil (q_cond_true rfl (q_seq (q_region (ql_pure tabOk rfl rfl (q_nil (q_ret ?_))))))))
    refine q_fin tabOk rfl (by repeat constructor) fun w hs => ?_
    exact ⟨by simp [retV, checkV, cntB, hc], hs.chg0⟩
  simp at hc
  have c5 := hc
  (refine ql_gyes rfl (ql_pure tabOk rfl rfl (ql_gyes rfl ?_)); refine ql_loadBa tabOk rfl rfl rfl ?_; refine ql_gyes rfl (ql_pure tabOk rfl rfl (ql_gyes rfl ?_)))
  refine ql_callv tabOk rfl rfl rfl rfl (fun w hs => allR w lo hi _ _ r.next _ (hn.keep hs.chg0) (by omega) (chk1_p w lo hi b3 _ _ r.next (hs.blk (by repeat constructor)))) ?_
  (refine ql_gyes rfl (ql_pure tabOk rfl rfl (ql_pure tabOk rfl rfl (q_nil ?_))))
  refine q_cond rfl (fun hc => ?_) (fun hc => ?_)
  · (refine q_seq (q_region (ql_pure tabOk rfl rfl (q_nil (q_ret ?_)))))
    refine q_fin tabOk rfl (by repeat constructor) fun w hs => ?_
    exact ⟨by simp only [Bool.not_eq_true'] at hc; simp only [retV, checkV, cntB, hc, Bool.and_false, Bool.false_and, Bool.not_false, Bool.not_true, if_true, if_false, Bool.false_eq_true], hs.chg0⟩
  simp only [Bool.not_eq_false'] at hc
  have cnt : cntB r = true := by
    simp only [cntB, Bool.and_eq_true, Bool.not_eq_true', decide_eq_true_eq, decide_eq_false_iff_not]
    exact ⟨⟨⟨⟨⟨c1, by omega⟩, c3⟩, by omega⟩, by omega⟩, hc⟩
  have hrows : ∀ l ∈ r.next, l.length = r.drifts.length := fun l hl => by
    have := List.all_eq_true.1 hc l hl
    simp at this
    omega
  have c3' := inB_iff.1 c3
  clear c1 c2 c3 c4 c5 hc
  (refine q_skip (q_seq (q_region (ql_pure tabOk rfl rfl ?_))))
  refine ql_alloc zero74 rfl (fun b4 => ?_)
  (refine ql_set tabOk rfl rfl rfl rfl (by repeat constructor) ?_; refine q_nil (q_seq (q_block (q_seq (q_region (ql_pure tabOk rfl rfl ?_))))); refine ql_loadBa tabOk rfl rfl rfl ?_)
  refine ql_callv tabOk rfl rfl rfl rfl (fun w hs => in_ca r.radius 0 200 w) ?_
  (refine ql_pure tabOk rfl rfl (ql_pure tabOk rfl rfl ?_))
  refine ql_split rfl rfl (fun hc => ?_) (fun hc => ?_)
  · ((iterate 4 refine ql_gno rfl rfl rfl ?_); refine ql_pure tabOk rfl rfl (ql_pure tabOk rfl rfl ?_); (iterate 4 refine ql_gno rfl rfl rfl ?_); refine ql_pure tabOk rfl rfl (ql_pure tabOk rfl rfl ?_); (iterate 4 refine ql_gno rfl rfl rfl ?_); refine ql_pure tabOk rfl rfl (ql_pure tabOk rfl rfl (q_nil (q_cond_true rfl (q_seq (q_region (ql_pure tabOk rfl rfl (q_nil (q_ret ?_)))))))))
    refine q_fin tabOk rfl (by repeat constructor) fun w hs => ?_
    exact ⟨by simp at hc; simp [retV, checkV, cnt, rng1B, hc], hs.chg0⟩
  simp at hc
  have c1 := hc
  (refine ql_gyes rfl (ql_pure tabOk rfl rfl (ql_gyes rfl ?_)); refine ql_loadBa tabOk rfl rfl rfl ?_; refine ql_gyes rfl ?_)
  refine ql_callv tabOk rfl rfl rfl rfl (fun w hs => in_ca r.unit 1 20 w) ?_
  (refine ql_gyes rfl ?_; (iterate 3 refine ql_pure tabOk rfl rfl ?_))
  refine ql_split rfl rfl (fun hc => ?_) (fun hc => ?_)
  · ((iterate 4 refine ql_gno rfl rfl rfl ?_); refine ql_pure tabOk rfl rfl (ql_pure tabOk rfl rfl ?_); (iterate 4 refine ql_gno rfl rfl rfl ?_); refine ql_pure tabOk rfl rfl (ql_pure tabOk rfl rfl (q_nil (q_cond_true rfl (q_seq (q_region (ql_pure tabOk rfl rfl (q_nil (q_ret ?_)))))))))
    refine q_fin tabOk rfl (by repeat constructor) fun w hs => ?_
    exact ⟨by simp at hc; simp [retV, checkV, cnt, rng1B, hc], hs.chg0⟩
  simp at hc
  have c2 := hc
  (refine ql_gyes rfl (ql_pure tabOk rfl rfl (ql_gyes rfl ?_)); refine ql_loadBa tabOk rfl rfl rfl ?_; refine ql_gyes rfl ?_)
  refine ql_callv tabOk rfl rfl rfl rfl (fun w hs => in_ca r.clicks 0 6 w) ?_
  (refine ql_gyes rfl ?_; (iterate 3 refine ql_pure tabOk rfl rfl ?_))
  refine ql_split rfl rfl (fun hc => ?_) (fun hc => ?_)
  · ((iterate 4 refine ql_gno rfl rfl rfl ?_); refine ql_pure tabOk rfl rfl (ql_pure tabOk rfl rfl (q_nil (q_cond_true rfl (q_seq (q_region (ql_pure tabOk rfl rfl (q_nil (q_ret ?_)))))))))
    refine q_fin tabOk rfl (by repeat constructor) fun w hs => ?_
    exact ⟨by simp at hc; simp [retV, checkV, cnt, rng1B, hc], hs.chg0⟩
  simp at hc
  have c3 := hc
  (refine ql_gyes rfl (ql_pure tabOk rfl rfl (ql_gyes rfl ?_)); refine ql_loadBa tabOk rfl rfl rfl ?_; refine ql_gyes rfl ?_)
  refine ql_callv tabOk rfl rfl rfl rfl (fun w hs => in_ca r.total 1 12 w) ?_
  (refine ql_gyes rfl ?_; (iterate 3 refine ql_pure tabOk rfl rfl ?_); refine q_nil ?_)
  refine q_cond rfl (fun hc => ?_) (fun hc => ?_)
  · (refine q_seq (q_region (ql_pure tabOk rfl rfl (q_nil (q_ret ?_)))))
    refine q_fin tabOk rfl (by repeat constructor) fun w hs => ?_
    exact ⟨by simp at hc; simp [retV, checkV, cnt, rng1B, hc], hs.chg0⟩
  simp at hc
  have rng1 : rng1B r = true := by simp [rng1B, c1, c2, c3, hc]
  have htot := inB_iff.1 hc
  clear c1 c2 c3 hc
  (refine q_seq (q_region (ql_pure tabOk rfl rfl ?_)); refine ql_loadBa tabOk rfl rfl rfl ?_)
  (refine ql_callv tabOk rfl rfl rfl rfl (fun w hs => all_int w lo hi _ _ (ints r.drifts) (pI (-300) 300) (RdE.keep hdr hs.chg0) (ints_one _) (by simp; omega) (chk3_p w r.drifts)) ?_)
  rw [pI_all]
  (refine ql_pure tabOk rfl rfl (ql_pure tabOk rfl rfl ?_))
  refine ql_split rfl rfl (fun hc => ?_) (fun hc => ?_)
  · ((iterate 4 refine ql_gno rfl rfl rfl ?_); refine ql_pure tabOk rfl rfl (ql_pure tabOk rfl rfl (q_nil (q_cond_true rfl (q_seq (q_region (ql_pure tabOk rfl rfl (q_nil (q_ret ?_)))))))))
    refine q_fin tabOk rfl (by repeat constructor) fun w hs => ?_
    exact ⟨by simp only [Bool.not_eq_true'] at hc; simp only [retV, checkV, cnt, rng1, rng2B, hc, Bool.and_false, Bool.false_and, Bool.not_false, Bool.not_true, if_true, if_false, Bool.false_eq_true], hs.chg0⟩
  simp only [Bool.not_eq_false'] at hc
  have c1 := hc
  (refine ql_gyes rfl (ql_pure tabOk rfl rfl (ql_gyes rfl ?_)); refine ql_loadBa tabOk rfl rfl rfl ?_; refine ql_gyes rfl ?_)
  (refine ql_callv tabOk rfl rfl rfl rfl (fun w hs => all_int w lo hi _ _ (ints r.group) (pI 0 100) (RdE.keep hg hs.chg0) (ints_one _) (by simp; omega) (chk4_p w r.group)) ?_)
  rw [pI_all]
  (refine ql_gyes rfl ?_; (iterate 3 refine ql_pure tabOk rfl rfl ?_); refine q_nil ?_)
  refine q_cond rfl (fun hc => ?_) (fun hc => ?_)
  · (refine q_seq (q_region (ql_pure tabOk rfl rfl (q_nil (q_ret ?_)))))
    refine q_fin tabOk rfl (by repeat constructor) fun w hs => ?_
    exact ⟨by simp only [Bool.not_eq_true'] at hc; simp only [retV, checkV, cnt, rng1, rng2B, hc, Bool.and_false, Bool.false_and, Bool.not_false, Bool.not_true, if_true, if_false, Bool.false_eq_true], hs.chg0⟩
  simp only [Bool.not_eq_false'] at hc
  have rng2 : rng2B r = true := by simp only [rng2B, Bool.and_eq_true]; exact ⟨c1, hc⟩
  have hgr : ∀ x ∈ r.group, -1000000 ≤ x ∧ x ≤ 1000000 := fun x hx => by
    have := inB_iff.1 (List.all_eq_true.1 hc x hx)
    omega
  clear c1 hc
  (refine q_seq (q_region (ql_pure tabOk rfl rfl ?_)); (iterate 2 refine ql_loadBa tabOk rfl rfl rfl ?_))
  (refine ql_callv tabOk rfl rfl rfl rfl (fun w hs => all_int w lo hi _ _ (ints r.first) (pI 0 r.total) (RdE.keep hf hs.chg0) (ints_one _) (by simp; omega) (chk2_p w b1 _ r _ r.first (hs.blk (by repeat constructor)) rfl)) ?_)
  rw [pI_all]
  (refine ql_pure tabOk rfl rfl (ql_pure tabOk rfl rfl ?_))
  refine ql_split rfl rfl (fun hc => ?_) (fun hc => ?_)
  · ((iterate 5 refine ql_gno rfl rfl rfl ?_); refine ql_pure tabOk rfl rfl (ql_pure tabOk rfl rfl (q_nil (q_cond_true rfl (q_seq (q_region (ql_pure tabOk rfl rfl (q_nil (q_ret ?_)))))))))
    refine q_fin tabOk rfl (by repeat constructor) fun w hs => ?_
    exact ⟨by simp only [Bool.not_eq_true'] at hc; simp only [retV, checkV, cnt, rng1, rng2, rng3B, hc, Bool.and_false, Bool.false_and, Bool.not_false, Bool.not_true, if_true, if_false, Bool.false_eq_true], hs.chg0⟩
  simp only [Bool.not_eq_false'] at hc
  have c1 := hc
  (refine ql_gyes rfl (ql_pure tabOk rfl rfl (ql_gyes rfl ?_)); refine ql_loadBa tabOk rfl rfl rfl ?_; refine ql_gyes rfl (ql_pure tabOk rfl rfl (ql_gyes rfl ?_)))
  (refine ql_callv tabOk rfl rfl rfl rfl (fun w hs => allR w lo hi _ _ r.next _ (hn.keep hs.chg0) (by omega) (chk5_p w lo hi b4 b1 _ _ r _ r.next (fun l hl => by have := hrows l hl; omega) (hs.blk (by repeat constructor)) (hs.blk (by repeat constructor)) rfl)) ?_)
  (refine ql_gyes rfl ?_; (iterate 3 refine ql_pure tabOk rfl rfl ?_); refine q_nil ?_)
  refine q_cond rfl (fun hc => ?_) (fun hc => ?_)
  · (refine q_seq (q_region (ql_pure tabOk rfl rfl (q_nil (q_ret ?_)))))
    refine q_fin tabOk rfl (by repeat constructor) fun w hs => ?_
    exact ⟨by simp only [Bool.not_eq_true'] at hc; simp only [retV, checkV, cnt, rng1, rng2, rng3B, hc, Bool.and_false, Bool.false_and, Bool.not_false, Bool.not_true, if_true, if_false, Bool.false_eq_true], hs.chg0⟩
  simp only [Bool.not_eq_false'] at hc
  have rng3 : rng3B r = true := by simp only [rng3B, Bool.and_eq_true]; exact ⟨c1, hc⟩
  have hfr : ∀ x ∈ r.first, -1000000 ≤ x ∧ x ≤ 1000000 := fun x hx => by
    have := inB_iff.1 (List.all_eq_true.1 c1 x hx)
    omega
  have hnr : ∀ l ∈ r.next, l.length < 1000000 ∧ ∀ x ∈ l, -1000000 ≤ x ∧ x ≤ 1000000 := fun l hl => ⟨by have := hrows l hl; omega, fun x hx => by
    have := inB_iff.1 (List.all_eq_true.1 (List.all_eq_true.1 hc l hl) x hx)
    omega⟩
  clear c1 hc
  (refine q_seq ?_)
  refine q_draw _ [] (Sp.refl _) (by kernel_rfl) (by kernel_rfl) ?_
  (refine qf_pure tabOk rfl rfl rfl ?_; refine qf_loadBa tabOk rfl rfl rfl ?_)
  refine qf_callv tabOk rfl rfl rfl rfl (fun w hs => sum_ca w lo hi _ r.group (RdE.keep hg hs.chg0) (by omega) hgr) ?_
  skip
  refine qf_callv tabOk rfl rfl rfl rfl (fun w hs => in_ca r.group.sum 1 100 w) ?_
  (refine qf_pure tabOk rfl rfl rfl (qf_pure tabOk rfl rfl rfl ?_))
  refine qf_split rfl rfl (fun hc => ?_) (fun hc => ?_)
  · ((iterate 6 refine qf_gno rfl rfl rfl ?_); refine qf_pure tabOk rfl rfl rfl (qf_pure tabOk rfl rfl rfl ?_); (iterate 5 refine qf_gno rfl rfl rfl ?_); refine qf_pure tabOk rfl rfl rfl (qf_pure tabOk rfl rfl rfl (qf_nil (q_cond_true rfl (q_seq (q_region (ql_pure tabOk rfl rfl (q_nil (q_ret ?_)))))))))
    refine q_fin tabOk rfl (by repeat constructor) fun w hs => ?_
    exact ⟨by simp at hc; simp [retV, checkV, cnt, rng1, rng2, rng3, cnfB, hc], hs.chg0⟩
  simp at hc
  have c1 := hc
  (refine qf_gyes rfl (qf_pure tabOk rfl rfl rfl (qf_gyes rfl ?_)); refine qf_loadBa tabOk rfl rfl rfl ?_; refine qf_gyes rfl ?_)
  refine qf_callv tabOk rfl rfl rfl rfl (fun w hs => sum_ca w lo hi _ r.first (RdE.keep hf hs.chg0) (by omega) hfr) ?_
  (refine qf_gyes rfl (qf_pure tabOk rfl rfl rfl (qf_gyes rfl ?_)); refine qf_loadBa tabOk rfl rfl rfl ?_; refine qf_gyes rfl ?_; (iterate 3 refine qf_pure tabOk rfl rfl rfl ?_))
  refine qf_split rfl rfl (fun hc => ?_) (fun hc => ?_)
  · ((iterate 5 refine qf_gno rfl rfl rfl ?_); refine qf_pure tabOk rfl rfl rfl (qf_pure tabOk rfl rfl rfl (qf_nil (q_cond_true rfl (q_seq (q_region (ql_pure tabOk rfl rfl (q_nil (q_ret ?_)))))))))
    refine q_fin tabOk rfl (by repeat constructor) fun w hs => ?_
    exact ⟨by simp at hc; simp [retV, checkV, cnt, rng1, rng2, rng3, cnfB, hc], hs.chg0⟩
  simp at hc
  have c2 := hc
  (refine qf_gyes rfl (qf_pure tabOk rfl rfl rfl (qf_gyes rfl ?_)); refine qf_loadBa tabOk rfl rfl rfl ?_; refine qf_gyes rfl (qf_pure tabOk rfl rfl rfl (qf_gyes rfl ?_)))
  refine qf_callv tabOk rfl rfl rfl rfl (fun w hs => allR w lo hi _ _ r.next _ (hn.keep hs.chg0) (by omega) (chk6_p w lo hi b1 _ r _ r.next hnr (hs.blk (by repeat constructor)) rfl)) ?_
  (refine qf_gyes rfl ?_; (iterate 3 refine qf_pure tabOk rfl rfl rfl ?_); refine qf_nil ?_)
  refine q_cond rfl (fun hc => ?_) (fun hc => ?_)
  · (refine q_seq (q_region (ql_pure tabOk rfl rfl (q_nil (q_ret ?_)))))
    refine q_fin tabOk rfl (by repeat constructor) fun w hs => ?_
    exact ⟨by simp only [Bool.not_eq_true'] at hc; simp only [retV, checkV, cnt, rng1, rng2, rng3, cnfB, hc, Bool.and_false, Bool.false_and, Bool.not_false, Bool.not_true, if_true, if_false, Bool.false_eq_true], hs.chg0⟩
  · simp only [Bool.not_eq_false'] at hc
    (refine q_skip (q_blk (q_seq (q_region (ql_pure tabOk rfl rfl (q_nil (q_ret ?_)))))))
    refine q_fin tabOk rfl (by repeat constructor) fun w hs => ?_
    refine ⟨?_, hs.chg0⟩
    have cnf : cnfB r = true := by
      simp only [cnfB, Bool.and_eq_true]
      exact ⟨⟨c1, by simpa using c2⟩, hc⟩
    simp [retV, checkV, cnt, rng1, rng2, rng3, cnf]
theorem right_check (r : Rg) : checkV r = 0 ↔ r.Right := by
  constructor
  · intro h
    have hc : cntB r = true ∧ rng1B r = true ∧ rng2B r = true ∧ rng3B r = true ∧ cnfB r = true := by
      unfold checkV at h
      cases h1 : cntB r <;> cases h2 : rng1B r <;> cases h3 : rng2B r <;> cases h4 : rng3B r <;> cases h5 : cnfB r <;> simp [h1, h2, h3, h4, h5] at h ⊢
    obtain ⟨h1, h2, h3, h4, h5⟩ := hc
    simp only [cntB, rng1B, rng2B, rng3B, cnfB, Bool.and_eq_true, inB_iff, Bool.not_eq_true', decide_eq_true_eq, decide_eq_false_iff_not, List.all_eq_true, Bool.and_true] at h1 h2 h3 h4 h5
    obtain ⟨⟨⟨⟨⟨a1, a2⟩, a3⟩, a4⟩, a5⟩, a6⟩ := h1
    obtain ⟨⟨⟨b1, b2⟩, b3⟩, b4⟩ := h2
    obtain ⟨⟨d1, d2⟩, d3⟩ := h5
    exact ⟨by omega, by omega, by omega, by omega, by omega, by omega, by omega, fun l hl => by have := a6 l hl; omega, b1, b2, b3, b4, h3.1, h3.2, h4.1, h4.2, d1, d2, d3⟩
  · intro h
    have h1 : cntB r = true := by
      simp only [cntB, Bool.and_eq_true, inB_iff, Bool.not_eq_true', decide_eq_true_eq, decide_eq_false_iff_not, List.all_eq_true, Bool.and_true]
      have e1 := h.g1; have e2 := h.g2; have e3 := h.odd; have e4 := h.d1; have e5 := h.d2; have e6 := h.first; have e7 := h.next
      exact ⟨⟨⟨⟨⟨by omega, by omega⟩, by omega⟩, by omega⟩, by omega⟩, fun l hl => by have := h.rows l hl; omega⟩
    have h2 : rng1B r = true := by
      simp only [rng1B, Bool.and_eq_true, inB_iff]
      exact ⟨⟨⟨h.radius, h.unit⟩, h.clicks⟩, h.total⟩
    have h3 : rng2B r = true := by
      simp only [rng2B, Bool.and_eq_true, inB_iff, List.all_eq_true]
      exact ⟨h.drift, h.weight⟩
    have h4 : rng3B r = true := by
      simp only [rng3B, Bool.and_eq_true, inB_iff, List.all_eq_true]
      exact ⟨h.chance, h.chances⟩
    have h5 : cnfB r = true := by
      simp only [cnfB, Bool.and_eq_true, inB_iff, List.all_eq_true, decide_eq_true_eq, Bool.and_true]
      exact ⟨⟨h.gsum, h.fsum⟩, h.nsum⟩
    simp [checkV, h1, h2, h3, h4, h5]
theorem opened_no (w : World) (cs : List Value) (r : Rg) (h : RgC w cs r) (hsm : r.Small) (hr : checkV r ≠ 0) : Ca Try.prog 13 [.agg cs.toArray] w fun v w' => v = .tuple #[.pointer none, .int .i64 (checkV r)] ∧ Chg [] w w' := by
  have h0 := h
  obtain ⟨lo, hi, ag, cg, ad, cd, af, cf, an, cn, rfl, hg, hdr, hf, hn⟩ := h
  refine q_of (Sat.nil w M0) Try.func13 rfl (by simp [Try.ntmps13]) ?_
  (refine q_seq (q_region ?_))
  refine ql_box rfl rfl (fun b1 => ?_)
  (refine ql_pure tabOk rfl rfl (ql_pure tabOk rfl rfl (q_nil (q_seq (q_seq (q_region ?_))))); refine ql_loadABa tabOk rfl rfl rfl ?_)
  refine ql_callv tabOk rfl rfl rfl rfl (fun w hs => check_ca w _ r (h0.keep hs.chg0) hsm) ?_
  (refine ql_pure tabOk rfl rfl (q_nil (q_seq (q_region (ql_pure tabOk rfl rfl (ql_pure tabOk rfl rfl (q_nil ?_)))))))
  rw [decide_eq_false hr]
  (refine q_cond_true rfl (q_seq (q_region ?_)); (iterate 3 refine ql_pure tabOk rfl rfl ?_); refine q_nil (q_ret ?_))
  refine q_fin tabOk rfl (by repeat constructor) fun w hs => ?_
  exact ⟨rfl, hs.chg0⟩
theorem opened_ok (w : World) (cs : List Value) (r : Rg) (h : RgC w cs r) (hsm : r.Small) (hr : checkV r = 0) : Ca Try.prog 13 [.agg cs.toArray] w fun v w' => ∃ x : Nat, v = .tuple #[.pointer (some ⟨x, 0, none⟩), .int .i64 0] ∧ Sat w M0 [.pt x cs 72] w' := by
  have h0 := h
  obtain ⟨lo, hi, ag, cg, ad, cd, af, cf, an, cn, rfl, hg, hdr, hf, hn⟩ := h
  refine q_of (Sat.nil w M0) Try.func13 rfl (by simp [Try.ntmps13]) ?_
  (refine q_seq (q_region ?_))
  refine ql_box rfl rfl (fun b1 => ?_)
  (refine ql_pure tabOk rfl rfl (ql_pure tabOk rfl rfl (q_nil (q_seq (q_seq (q_region ?_))))); refine ql_loadABa tabOk rfl rfl rfl ?_)
  refine ql_callv tabOk rfl rfl rfl rfl (fun w hs => check_ca w _ r (h0.keep hs.chg0) hsm) ?_
  rw [hr]
  (refine ql_pure tabOk rfl rfl (q_nil (q_seq (q_region (ql_pure tabOk rfl rfl (ql_pure tabOk rfl rfl (q_nil (q_cond_false rfl (q_skip (q_seq (q_region ?_)))))))))); refine ql_loadABa tabOk rfl rfl rfl ?_)
  refine ql_mk #[.int .i64 r.radius, .int .i64 r.unit, .int .i64 r.clicks, .int .i64 r.total, .slice ag r.group.length cg, .slice ad r.drifts.length cd, .slice af r.first.length cf, .slice an r.next.length cn] rfl (by kernel_rfl) rfl ?_
  refine ql_box rfl rfl (fun b2 => ?_)
  (refine ql_pure tabOk rfl rfl (ql_pure tabOk rfl rfl (q_nil (q_ret ?_))))
  refine q_fin tabOk rfl (by repeat constructor) fun w hs => ?_
  exact ⟨b2, rfl, hs.sp (by repeat constructor)⟩
theorem sum_mono : ∀ (a b : List Int), a.length = b.length → (∀ i (h : i < a.length) (h' : i < b.length), a[i] ≤ b[i]) → a.sum ≤ b.sum
  | [], [], _, _ => by simp
  | x :: a, y :: b, hl, h => by
    have h0 := h 0 (by simp) (by simp)
    have ih := sum_mono a b (by simpa using hl) (fun i h1 h2 => by have := h (i + 1) (by simpa using h1) (by simpa using h2); simpa using this)
    simp at h0
    simp
    omega
theorem sum_nonneg' : ∀ (a : List Int), (∀ x ∈ a, 0 ≤ x) → 0 ≤ a.sum
  | [], _ => by simp
  | x :: a, h => by
    have h0 := h x List.mem_cons_self
    have ih := sum_nonneg' a (fun y hy => h y (List.mem_cons_of_mem _ hy))
    simp
    omega
theorem missS_bd (r : Rg) (hr : r.Right) (drift click : Int) : 0 ≤ missS r drift click ∧ missS r drift click ≤ r.group.sum := by
  constructor
  · refine sum_nonneg' _ (fun x hx => ?_)
    obtain ⟨k, hk, rfl⟩ := List.getElem_of_mem hx
    have hk' : k < r.group.length := by rwa [missL_length] at hk
    have := hr.weight r.group[k] (List.getElem_mem hk')
    rw [missL_get r drift click k hk']
    split <;> omega
  · refine sum_mono _ _ (missL_length r drift click) (fun k h h' => ?_)
    have := hr.weight r.group[k] (List.getElem_mem h')
    rw [missL_get r drift click k h']
    split <;> omega
/-- The chance of a hit. -/
def hitV (r : Rg) (state click : Int) : (Int × Int) × Int :=
  if checkV r ≠ 0 then ((0, 0), checkV r) else if !inB state 0 ((r.drifts.length : Int) - 1) then ((0, 0), 1) else if !inB click (-r.clicks) r.clicks then ((0, 0), 3)
  else (ratioV (r.group.sum - missS r (r.drifts.getD state.toNat 0) click) r.group.sum, 0)
set_option maxHeartbeats 1000000 in
theorem hit_ca (w : World) (cs : List Value) (r : Rg) (state click : Int) (h : RgC w cs r) (hsm : r.Small) : Ca Try.prog 6 [.agg cs.toArray, .int .i64 state, .int .i64 click] w fun v w' => v = .tuple #[rtV (hitV r state click).1, .int .i64 (hitV r state click).2] ∧ Chg [] w w' := by
  have h0 := h
  have s2 := hsm.drifts
  obtain ⟨lo, hi, ag, cg, ad, cd, af, cf, an, cn, rfl, hg, hdr, hf, hn⟩ := h
  refine q_of (Sat.nil w M0) Try.func6 rfl (by simp [Try.ntmps6]) ?_
  (refine q_seq (q_region ?_))
  refine ql_box rfl rfl (fun b3 => ?_)
  skip
  refine ql_alloc zero32 rfl (fun b6 => ?_)
  (refine ql_pure tabOk rfl rfl (q_nil (q_seq (q_region ?_))); refine ql_loadABa tabOk rfl rfl rfl ?_)
  by_cases hr : checkV r = 0
  · have hR := (right_check r).1 hr
    have hcl := hR.clicks
    refine ql_call (β := Nat) tabOk [] _ M0 rfl rfl rfl rfl (Sp.refl _) (fun _ h => h.elim) (fun w' hs => opened_ok w' _ r (h0.keep hs.chg0) hsm hr) ?_
    rintro bd _ rfl
    (refine ql_pure tabOk rfl rfl (ql_ext tabOk rfl rfl rfl (ql_ext tabOk rfl rfl rfl (ql_pure tabOk rfl rfl (ql_pure tabOk rfl rfl (q_nil (q_seq (q_block (q_seq (q_region ?_))))))))); (iterate 3 refine ql_pure tabOk rfl rfl ?_); refine q_nil (q_cond_false rfl (q_seq (q_region (ql_pure tabOk rfl rfl (ql_pure tabOk rfl rfl ?_))))); refine ql_loadBa tabOk rfl rfl rfl ?_; refine ql_pure tabOk rfl rfl (ql_ar tabOk rfl rfl rfl rfl (by omega) (by omega) ?_))
    refine ql_callv tabOk rfl rfl rfl rfl (fun w hs => in_ca state 0 ((r.drifts.length : Int) - 1) w) ?_
    (refine ql_pure tabOk rfl rfl (ql_pure tabOk rfl rfl (q_nil ?_)))
    refine q_cond rfl (fun hc => ?_) (fun hc => ?_)
    · (refine q_seq (q_region ?_))
      refine ql_mk #[.int .i64 0, .int .i64 0] rfl (by kernel_rfl) rfl ?_
      (refine ql_setA tabOk rfl rfl rfl rfl rfl (by repeat constructor) rfl ?_; refine ql_pure tabOk rfl rfl (q_nil (q_ret ?_)))
      refine q_fin tabOk rfl (by repeat constructor) fun w hs => ?_
      exact ⟨by simp at hc; simp [retV, hitV, hr, hc, rtV], hs.chg0⟩
    simp at hc
    have hst := hc
    have hst' := inB_iff.1 hst
    (refine q_seq (q_region (ql_pure tabOk rfl rfl (ql_pure tabOk rfl rfl ?_))); refine ql_loadBa tabOk rfl rfl rfl ?_; refine ql_neg tabOk rfl rfl (by omega) (by omega) (ql_pure tabOk rfl rfl ?_); refine ql_loadBa tabOk rfl rfl rfl ?_)
    refine ql_callv tabOk rfl rfl rfl rfl (fun w hs => in_ca click (-r.clicks) r.clicks w) ?_
    (refine ql_pure tabOk rfl rfl (ql_pure tabOk rfl rfl (q_nil ?_)))
    refine q_cond rfl (fun hc => ?_) (fun hc => ?_)
    · (refine q_seq (q_region ?_))
      refine ql_mk #[.int .i64 0, .int .i64 0] rfl (by kernel_rfl) rfl ?_
      (refine ql_setA tabOk rfl rfl rfl rfl rfl (by repeat constructor) rfl ?_; refine ql_pure tabOk rfl rfl (q_nil (q_ret ?_)))
      refine q_fin tabOk rfl (by repeat constructor) fun w hs => ?_
      exact ⟨by simp at hc; simp [retV, hitV, hr, hst, hc, rtV], hs.chg0⟩
    simp at hc
    have hck' := inB_iff.1 hc
    obtain ⟨i, rfl⟩ := Int.eq_ofNat_of_zero_le hst'.1
    have hi : i < r.drifts.length := by omega
    obtain ⟨_, _, hsl, hsd⟩ := RdI.outI hdr
    cases hsl
    obtain ⟨b0, off, rfl⟩ := hsd (by omega)
    have hdrift := hR.drift r.drifts[i] (List.getElem_mem hi)
    have hms := missS_bd r hR r.drifts[i] click
    have hgs := hR.gsum
    (refine q_skip (q_blk (q_seq ?_)))
    refine q_draw _ [.pt b6 _ _] (Sp.cons (by repeat constructor) (Sp.refl _)) (by kernel_rfl) (by kernel_rfl) ?_
    (refine qf_pure tabOk rfl rfl rfl ?_)
    refine qf_callv tabOk rfl rfl rfl rfl (fun w hs => group_ca w bd r ⟨_, _, hs.blk (by repeat constructor), h0.keep hs.chg0⟩ hR) ?_
    (refine qf_pure tabOk rfl rfl rfl (qf_pure tabOk rfl rfl rfl ?_); refine qf_loadBa tabOk rfl rfl rfl ?_; refine qf_pure tabOk rfl rfl rfl ?_)
    (refine qf_index tabOk rfl rfl rfl rfl rfl (by omega) (by omega) ?_; refine qf_load1 tabOk rfl rfl rfl (fun w hs => RdI.at (RdE.keep hdr hs.chg0) i hi) ?_)
    (refine qf_pure tabOk rfl rfl rfl ?_)
    refine qf_callv (val := .int .i64 (missS r (r.drifts[i]'hi) click)) tabOk rfl rfl rfl rfl (fun w hs => ?_) ?_; exact missed_ca w bd r (r.drifts[i]'hi) click ⟨_, _, hs.blk (by repeat constructor), h0.keep hs.chg0⟩ hR (by omega) (by omega)
    (refine qf_ar tabOk rfl rfl rfl rfl (by omega) (by omega) (qf_pure tabOk rfl rfl rfl ?_))
    refine qf_callv tabOk rfl rfl rfl rfl (fun w hs => group_ca w bd r ⟨_, _, hs.blk (by repeat constructor), h0.keep hs.chg0⟩ hR) ?_
    skip
    refine qf_callv tabOk rfl rfl rfl rfl (fun w hs => ratio_ca (r.group.sum - missS r (r.drifts[i]'hi) click) r.group.sum w (by omega) (by omega) (by omega) (by omega)) ?_
    (refine qf_setA tabOk rfl rfl rfl rfl rfl (by repeat constructor) rfl ?_; refine qf_pure tabOk rfl rfl rfl (qf_nil (q_ret ?_)))
    refine q_fin tabOk rfl (by repeat constructor) fun w hs => ?_
    refine ⟨?_, hs.chg0⟩
    have e : r.drifts.getD i 0 = r.drifts[i] := by simp [hi]
    have hc2 : inB click (-r.clicks) r.clicks = true := inB_iff.2 hck'
    simp [retV, hitV, hr, hst, hc2, List.getElem?_eq_getElem hi, rtV]
  · refine ql_callv tabOk rfl rfl rfl rfl (fun w hs => opened_no w _ r (h0.keep hs.chg0) hsm hr) ?_
    (refine ql_pure tabOk rfl rfl (ql_ext tabOk rfl rfl rfl (ql_ext tabOk rfl rfl rfl (ql_pure tabOk rfl rfl (ql_pure tabOk rfl rfl (q_nil (q_seq (q_block (q_seq (q_region ?_))))))))); (iterate 3 refine ql_pure tabOk rfl rfl ?_); refine q_nil ?_)
    rw [decide_eq_false hr]
    (refine q_cond_true rfl (q_seq (q_region ?_)))
    refine ql_mk #[.int .i64 0, .int .i64 0] rfl (by kernel_rfl) rfl ?_
    (refine ql_pure tabOk rfl rfl ?_; refine ql_setA tabOk rfl rfl rfl rfl rfl (by repeat constructor) rfl ?_; refine ql_pure tabOk rfl rfl (q_nil (q_ret ?_)))
    refine q_fin tabOk rfl (by repeat constructor) fun w hs => ?_
    exact ⟨by simp [retV, hitV, hr, rtV], hs.chg0⟩
def sumR (f : Nat → Int) : Nat → Int
  | 0 => 0
  | n + 1 => sumR f n + f n
/-- A list of spans that can be read. -/
abbrev RdS (w : World) (lo hi : Nat) (v : Value) (l : List (Int × Int)) : Prop := RdE w lo hi v 2 (l.map rtV)
theorem RdS.outI {w : World} {lo hi : Nat} {v : Value} {l : List (Int × Int)} (h : RdS w lo hi v l) : ∃ a cap, v = .slice a l.length cap ∧ (0 < l.length → ∃ b off, a = some ⟨b, off, none⟩) := by
  have := RdE.out h
  simpa using this
theorem RdS.at {w : World} {lo hi b off len cap : Nat} {l : List (Int × Int)} (h : RdS w lo hi (.slice (some ⟨b, off, none⟩) len cap) l) (i : Nat) (hi : i < l.length) (j : Nat) (hj : j < 2) : w.cell? ⟨b, off + i * 2 + j, none⟩ = [Value.int .i64 l[i].1, Value.int .i64 l[i].2][j]? := by
  have := RdE.cell h i j (by simpa using hi) hj
  rw [this]
  simp [rtV, Value.cells]
theorem slI : SlT Try.prog 23 3 1 8 (.int .i64 0) := ⟨by kernel_rfl, by kernel_rfl, by kernel_rfl, by decide⟩
/-- Rules. -/
structure Ru where
  miss : Int
  click : Int
  wait : Int
  waits : Int
structure Ru.Right (p : Ru) : Prop where
  miss : 0 ≤ p.miss ∧ p.miss ≤ 6000
  click : 0 ≤ p.click ∧ p.click ≤ 600
  wait : 0 ≤ p.wait ∧ p.wait ≤ 600
  waits : 0 ≤ p.waits ∧ p.waits ≤ 3
def partsV (r : Rg) (shot wt : Nat) : Int := r.group.sum * r.total ^ (4 - shot + wt)
def folS (r : Rg) (f : Nat → Int) (st : Nat) : Int := sumR (fun t => (r.next.getD st []).getD t 0 * f t) r.drifts.length
/-- What is to be expected of a shot, if g are the values behind it. -/
def shootV (r : Rg) (p : Ru) (g : Nat → Int → Int) (shot wt st : Nat) (cl click : Int) : Int :=
  p.click * max (click - cl) (cl - click) * partsV r shot wt + p.miss * missS r (r.drifts.getD st 0) click * (partsV r shot wt / r.group.sum) + (if shot < 4 then folS r (fun t => g t click) st else 0)
def waitV (r : Rg) (p : Ru) (h : Nat → Int → Int) (shot wt st : Nat) (cl : Int) : Int := p.wait * partsV r shot wt + folS r (fun t => h t cl) st
def chStep (r : Rg) (p : Ru) (g : Nat → Int → Int) (shot wt st : Nat) (cl : Int) (s : Int × Int) (c : Int) : Int × Int := if shootV r p g shot wt st cl c < s.2 then (c, shootV r p g shot wt st cl c) else s
def chClick (r : Rg) (p : Ru) (g : Nat → Int → Int) (shot wt st : Nat) (cl : Int) : Int × Int := (clickL r.clicks cl).foldl (chStep r p g shot wt st cl) (cl, shootV r p g shot wt st cl cl)
/-- The best choice (to wait; the click), and what is to be expected. -/
def chV (r : Rg) (p : Ru) (g h : Nat → Int → Int) (shot wt st : Nat) (cl : Int) : (Bool × Int) × Int :=
  let s := chClick r p g shot wt st cl
  if 0 < wt then (if waitV r p h shot wt st cl < s.2 then ((true, 0), waitV r p h shot wt st cl) else ((false, s.1), s.2)) else ((false, s.1), s.2)
def allC (C : Int) : List Int := (List.range (2 * C + 1).toNat).map fun (i : Nat) => (i : Int) - C
def getT (C : Int) (t : List (List Int)) (st : Nat) (cl : Int) : Int := (t.getD st []).getD (cl + C).toNat 0
def lev (r : Rg) (p : Ru) (g h : Nat → Int → Int) (shot wt : Nat) : List (List Int) := (List.range r.drifts.length).map fun st => (allC r.clicks).map fun cl => (chV r p g h shot wt st cl).2
def levW (r : Rg) (p : Ru) (shot : Nat) (prev : List (List (List Int))) : Nat → List (List (List Int))
  | 0 => []
  | k + 1 => let l := levW r p shot prev k; l ++ [lev r p (getT r.clicks (prev.getD k [])) (getT r.clicks (l.getD (k - 1) [])) shot k]
def tabV (r : Rg) (p : Ru) : Nat → List (List (List Int))
  | 0 => levW r p 4 [] (p.waits + 1).toNat
  | m + 1 => levW r p (4 - (m + 1)) (tabV r p m) (p.waits + 1).toNat
/-- The value of a situation; 0 behind the last shot. -/
def valV (r : Rg) (p : Ru) (shot wt st : Nat) (cl : Int) : Int := if shot < 5 then getT r.clicks ((tabV r p (4 - shot)).getD wt []) st cl else 0
theorem slII : SlT Try.prog 24 23 1 24 (.slice none 0 0) := ⟨by kernel_rfl, by kernel_rfl, by kernel_rfl, by decide⟩
/-- Lists, each in a block of its own. -/
def rowsK (xs : List (Nat × List Int)) : List Ck := xs.map fun p => .pt p.1 (ints p.2) 3
def rowsV (xs : List (Nat × List Int)) : List Value := xs.map fun p => .slice (some ⟨p.1, 0, none⟩) p.2.length p.2.length
abbrev k4 : List (Option IntKind) := [some .i64, some .i64, some .i64, some .i64]
/-- Values of situations. -/
abbrev Vf := Int → Int → Int → Int → Option Int
/-- A plan in block bp, with its desk in bd and its map in bm. -/
def PlAt (w : World) (bp bd bm : Nat) (r : Rg) (p : Ru) : Prop := ∃ t, Blk w bp [.pointer (some ⟨bd, 0, none⟩), .int .i64 p.miss, .int .i64 p.click, .int .i64 p.wait, .int .i64 p.waits, .map (some bm)] t ∧ DkAt w bd r
theorem PlAt.keep {w w' : World} {bp bd bm : Nat} {r : Rg} {p : Ru} (h : PlAt w bp bd bm r p) (c : Chg [] w w') : PlAt w' bp bd bm r p := by
  obtain ⟨t, h1, h2⟩ := h
  exact ⟨t, h1.keep c, h2.keep c⟩
/-- Some values, each the right one. -/
def GoodV (r : Rg) (p : Ru) (vf : Vf) : Prop := ∀ a b c d v, vf a b c d = some v → ∃ sh wt st : Nat, a = sh ∧ b = wt ∧ c = st ∧ sh < 5 ∧ (wt : Int) ≤ p.waits ∧ st < r.drifts.length ∧ (-r.clicks ≤ d ∧ d ≤ r.clicks) ∧ v = valV r p sh wt st d
theorem GoodV.at {r : Rg} {p : Ru} {vf : Vf} (h : GoodV r p vf) {sh wt st : Nat} {d : Int} (hs : (vf sh wt st d).isSome = true) : vf sh wt st d = some (valV r p sh wt st d) := by
  cases hv : vf sh wt st d with
  | none => rw [hv] at hs; cases hs
  | some v =>
    obtain ⟨sh', wt', st', h1, h2, h3, _, _, _, _, h4⟩ := h _ _ _ _ _ hv
    obtain rfl : sh = sh' := by omega
    obtain rfl : wt = wt' := by omega
    obtain rfl : st = st' := by omega
    rw [h4]
def LeV (vf vf' : Vf) : Prop := ∀ a b c d v, vf a b c d = some v → vf' a b c d = some v
theorem LeV.refl (vf : Vf) : LeV vf vf := fun _ _ _ _ _ h => h
theorem LeV.trans {a b c : Vf} (h : LeV a b) (g : LeV b c) : LeV a c := fun _ _ _ _ _ hv => g _ _ _ _ _ (h _ _ _ _ _ hv)
theorem LeV.some {vf vf' : Vf} (h : LeV vf vf') {a b c d : Int} (hs : (vf a b c d).isSome = true) : (vf' a b c d).isSome = true := by
  cases hv : vf a b c d with
  | none => rw [hv] at hs; cases hs
  | some v => rw [h _ _ _ _ _ hv]; rfl
theorem Blk.rdI {w : World} {b : Nat} {l : List Int} {t : TypeId} {c : Nat} (h : Blk w b (ints l) t) : RdI w 0 w.heap.size (.slice (some ⟨b, 0, none⟩) l.length c) l :=
  RdI.of ((Blk.rd h (by simp) c).wide (Nat.zero_le _) h.lt)
theorem RdII.of {w : World} {lo hi : Nat} {v : Value} {ll : List (List Int)} {vs : List Value} (h : Rd w lo hi v 1 vs.length vs) (h1 : vs.length = ll.length) (h2 : ∀ i (h : i < vs.length) (h' : i < ll.length), RdI w lo hi vs[i] ll[i]) (h3 : ∀ e ∈ vs, oneV e = true) : RdII w lo hi v ll :=
  ⟨vs, RdE.one h h3, h1, h2⟩
/-- Pieces that hold a range. -/
def OwnR (L : List Ck) (cs : List Value) (r : Rg) : Prop := ∀ w, (∀ c ∈ L, c.p w) → RgC w cs r
theorem OwnR.at {L : List Ck} {cs : List Value} {r : Rg} {w0 w : World} {M : Nat → Prop} {H : List Ck} (h : OwnR L cs r) (hs : Sat w0 M H w) (hm : un L ∈ H) : RgC w cs r := h w (hs.mem hm).1
-- wind/D1.lean
section
attribute [local irreducible] IntKind.wrap Int.tmod Int.tdiv
/-- The deck's own variable, after at most K cards. -/
def DkS (w : World) (b : Nat) (bs : Value) (K : Nat) : Prop :=
  ∃ next st, Blk w b [bs, .int .i64 next, .int .u32 st] 50 ∧ 0 ≤ next ∧ next ≤ K ∧ 0 ≤ st ∧ st < 4294967296
/-- Its bytes. -/
def DkB (w : World) (lo hi : Nat) (bs : Value) : Prop := ∃ nb cs, Rd w lo hi bs 1 nb cs ∧ (∀ c ∈ cs, ∃ x, c = .int .u8 x ∧ 0 ≤ x ∧ x < 256)
theorem DkB.keep {w w' : World} {lo hi : Nat} {bs : Value} (h : DkB w lo hi bs) (c : Chg [] w w') : DkB w' lo hi bs := by
  obtain ⟨nb, cs, h1, h2⟩ := h
  exact ⟨nb, cs, h1.keep c, h2⟩
set_option maxHeartbeats 1000000 in
theorem draw_ca (n : Int) (K : Nat) (hK : K < 4611686018427387904) (w : World) (b lo hi : Nat) (bs : Value) (hby : DkB w lo hi bs) (hlh : hi ≤ b) (hd : DkS w b bs K) :
    Ca Try.prog 11 [.pointer (some ⟨b, 0, none⟩), .int .i64 n] w fun v w' => ∃ r, v = .int .i64 r ∧ 0 ≤ r ∧ (r < n ∨ r = 0) ∧ Chg [b] w w' ∧ w'.heap.size = w.heap.size ∧ DkS w' b bs (K + 1) := by
  obtain ⟨nb, cs, hrd, hcs⟩ := hby
  obtain ⟨next, st, hb, hn0, hnK, hs0, hs1⟩ := hd
  have hd : DkS w b bs (K + 1) := ⟨next, st, hb, hn0, by omega, hs0, hs1⟩
  obtain ⟨a, cap, rfl, hsl⟩ := hrd.out
  refine ca_of Try.func11 rfl (by simp [Try.ntmps11]) ?_
  (refine y_seq (y_region (yl_pure tabOk rfl rfl (y_seq (y_seq (y_region ?_))))); (iterate 3 refine yl_pure tabOk rfl rfl ?_))
  refine yl_split rfl rfl (fun hc => ?_) (fun hc => ?_)
  · ((iterate 6 refine yl_guard_no rfl rfl rfl ?_); refine yl_pure tabOk rfl rfl (y_cond_true rfl (y_seq (y_region (yl_pure tabOk rfl rfl (y_ret ?_))))))
    exact y_fin1 rfl rfl ⟨0, rfl, by omega, .inr rfl, Chg.refl _ _, rfl, hd⟩
  (refine yl_guard_yes rfl (yl_pure tabOk rfl rfl (yl_guard_yes rfl (yl_pure tabOk rfl rfl (yl_guard_yes rfl (yl_pure tabOk rfl rfl (yl_guard_yes rfl ?_)))))); refine yl_loadB tabOk rfl rfl rfl (by assumption) (by rfl) ?_; refine yl_guard_yes rfl (yl_pure tabOk rfl rfl (yl_guard_yes rfl (yl_pure tabOk rfl rfl (yl_pure tabOk rfl rfl (yl_nil ?_))))))
  have hn := of_decide_eq_false hc
  refine y_if rfl (fun hc => ?_) (fun hc => ?_)
  · (refine y_seq (y_region (yl_pure tabOk rfl rfl (y_ret ?_))))
    exact y_fin1 rfl rfl ⟨0, rfl, by omega, .inr rfl, Chg.refl _ _, rfl, hd⟩
  have hnb : 0 < nb := by omega
  obtain ⟨bb, off, rfl, hcell⟩ := hsl hnb
  (refine y_skip (y_seq ?_))
  refine y_draw [] (by kernel_rfl) (by kernel_rfl) (fun w1 hc1 hs1 => ?_)
  have hb1 := hb.keep hc1
  ((iterate 3 refine yf_pure tabOk rfl rfl rfl ?_); refine yf_loadB tabOk rfl rfl rfl (by assumption) (by first | assumption | simp) (by rfl) ?_; (iterate 3 refine yf_pure tabOk rfl rfl rfl ?_); refine yf_loadB tabOk rfl rfl rfl (by assumption) (by first | assumption | simp) (by rfl) ?_; (iterate 3 refine yf_pure tabOk rfl rfl rfl ?_); refine yf_loadB tabOk rfl rfl rfl (by assumption) (by first | assumption | simp) (by rfl) ?_; refine yf_pure tabOk rfl rfl rfl ?_)
  have hlen : cs.length = nb := by have := hrd.1; omega
  have hm := tmod_pos hn0 (by omega : (0 : Int) < nb)
  refine yf_rem rfl rfl (by omega) rfl ?_
  refine yf_index tabOk rfl rfl rfl rfl rfl hm.1 hm.2 ?_
  obtain ⟨x, hx, hx0, hx1⟩ := hcs (cs[(next.tmod nb).toNat]'(by omega)) (List.getElem_mem _)
  refine yf_load1 tabOk rfl rfl rfl (fun w' hw' => ?_) (v := .int .u8 x) ?_
  · have h1 := ((hrd.keep hc1).keep hw').cell rfl (next.tmod nb).toNat (by omega)
    rw [Nat.mul_one, h1, List.getElem?_eq_getElem (by omega), hx]
  ((iterate 4 refine yf_pure tabOk rfl rfl rfl ?_); refine yf_loadB tabOk rfl rfl rfl (by assumption) (by first | assumption | simp) (by rfl) ?_; (iterate 3 refine yf_pure tabOk rfl rfl rfl ?_); refine yf_loadB tabOk rfl rfl rfl (by assumption) (by first | assumption | simp) (by rfl) ?_; refine yf_pure tabOk rfl rfl rfl ?_)
  refine yf_quo rfl rfl (by omega) rfl ?_
  ((iterate 3 refine yf_pure tabOk rfl rfl rfl ?_); refine y_seq (y_region ?_); (iterate 3 refine yl_pure tabOk rfl rfl ?_); refine yl_loadB tabOk rfl rfl rfl (by assumption) (by rfl) ?_; (iterate 3 refine yl_pure tabOk rfl rfl ?_))
  refine yl_store1 tabOk rfl rfl rfl rfl (by assumption) (by simp) (fun w2 hc2 hs2 hb2 => ?_)
  (refine y_seq (y_region ?_); (iterate 4 refine yl_pure tabOk rfl rfl ?_); refine yl_loadB tabOk rfl rfl rfl (by assumption) (by rfl) ?_; (iterate 7 refine yl_pure tabOk rfl rfl ?_))
  refine yl_rem rfl rfl (by omega) rfl ?_
  (refine yl_pure tabOk rfl rfl (yl_pure tabOk rfl rfl ?_))
  refine yl_store1 tabOk rfl rfl rfl rfl (by assumption) (by simp) (fun w3 hc3 hs3 hb3 => ?_)
  have hc03 : Chg [b] w w3 := (hc1.nil.trans hc2).trans hc3
  generalize hq : IntKind.u32.wrap (IntKind.i64.wrap (next.tdiv nb)) = q at *
  clear hq
  generalize hz : Int.tmod _ 65519 = z at *
  have hz0 : 0 ≤ z ∧ z < 65519 := by rw [← hz]; exact tmod_pos (wu32_range _).1 (by omega)
  clear hz
  have hd3 : DkS w3 b (.slice (some ⟨bb, off, none⟩) nb cap) (K + 1) := by
    refine ⟨next + 1, z, ?_, by omega, by omega, hz0.1, by omega⟩
    rw [w64 (by omega) (by omega)] at hb3
    exact hb3
  have hfin : ∀ y : Int, ∃ r, Value.int .i64 ((IntKind.i64.wrap (IntKind.u32.wrap y)).tmod n) = .int .i64 r ∧ 0 ≤ r ∧ (r < n ∨ r = 0) ∧ Chg [b] w w3 ∧ w3.heap.size = w.heap.size ∧ DkS w3 b (.slice (some ⟨bb, off, none⟩) nb cap) (K + 1) := by
    intro y
    have h1 := wu32_range y
    have h2 : IntKind.i64.wrap (IntKind.u32.wrap y) = IntKind.u32.wrap y := w64 (by omega) (by omega)
    rw [h2]
    have h3 := tmod_pos h1.1 (by omega : (0 : Int) < n)
    exact ⟨_, rfl, h3.1, .inl h3.2, hc03, by omega, hd3⟩
  (refine y_seq (y_seq (y_region ?_)); (iterate 3 refine yl_pure tabOk rfl rfl ?_))
  refine yl_split rfl rfl (fun hc => ?_) (fun hc => ?_)
  · (refine yl_guard_yes rfl (yl_pure tabOk rfl rfl (yl_guard_yes rfl (yl_pure tabOk rfl rfl (yl_pure tabOk rfl rfl (yl_nil ?_))))))
    refine y_if rfl (fun hc => ?_) (fun hc => ?_)
    · (refine y_seq (y_region ?_); (iterate 3 refine yl_pure tabOk rfl rfl ?_))
      refine yl_rem rfl rfl (by omega) rfl ?_
      (refine yl_pure tabOk rfl rfl (y_ret ?_))
      exact y_fin1 rfl rfl (hfin _)
    · (refine y_skip (y_seq (y_region ?_)); (iterate 3 refine yl_pure tabOk rfl rfl ?_); refine yl_loadB tabOk rfl rfl rfl (by assumption) (by rfl) ?_; (iterate 5 refine yl_pure tabOk rfl rfl ?_))
      refine yl_rem rfl rfl (by omega) rfl ?_
      (refine yl_pure tabOk rfl rfl (y_ret ?_))
      exact y_fin1 rfl rfl (hfin _)
  · (refine yl_guard_no rfl rfl rfl (yl_guard_no rfl rfl rfl (yl_pure tabOk rfl rfl (y_cond_false rfl (y_skip (y_seq (y_region ?_)))))); (iterate 3 refine yl_pure tabOk rfl rfl ?_); refine yl_loadB tabOk rfl rfl rfl (by assumption) (by rfl) ?_; (iterate 5 refine yl_pure tabOk rfl rfl ?_))
    refine yl_rem rfl rfl (by omega) rfl ?_
    (refine yl_pure tabOk rfl rfl (y_ret ?_))
    exact y_fin1 rfl rfl (hfin _)
end
/-- A deck, after at most K cards. -/
def dkP (bs : Value) (b K : Nat) : Ck := .gn (fun x => x = b) (fun w => DkS w b bs K) (fun w w' N h hc hN => by
  obtain ⟨next, st, h1, h2⟩ := h
  exact ⟨next, st, (hc.block b h1.lt (hN b rfl)).trans h1, h2⟩)
theorem drawP_ca (n : Int) (K : Nat) (hK : K < 4611686018427387904) (w : World) (b lo hi : Nat) (bs : Value) (hby : DkB w lo hi bs) (hlh : hi ≤ b) (hd : DkS w b bs K) :
    Ca Try.prog 11 [.pointer (some ⟨b, 0, none⟩), .int .i64 n] w fun v w' => ∃ x : Int, (v = .int .i64 x ∧ 0 ≤ x ∧ (x < n ∨ x = 0)) ∧ Sat w (fun x => x = b) [dkP bs b (K + 1)] w' :=
  (draw_ca n K hK w b lo hi bs hby hlh hd).mono fun v w' ⟨r, h1, h2, h3, h4, h5, h6⟩ =>
    ⟨r, ⟨h1, h2, h3⟩, ⟨h4.os, h4.tape, h4.output, h4.size, fun k hk hkb => h4.block k hk (by simpa using hkb)⟩, by simpa [dkP, Ck.p] using h6, .cons (by simp) .nil, fun c hc x hx => by
      obtain rfl : c = dkP bs b (K + 1) := by simpa using hc
      obtain rfl : x = b := hx
      obtain ⟨_, _, h7, _⟩ := h6
      exact ⟨h7.lt, .inl rfl⟩⟩
theorem dk_sat {w : World} {b K : Nat} {bs : Value} (hd : DkS w b bs K) : Sat w (fun x => x = b) [dkP bs b K] w :=
  ⟨ChgP.refl _ _, by simpa [dkP, Ck.p] using hd, .cons (by simp) .nil, fun c hc x hx => by
    obtain rfl : c = dkP bs b K := by simpa using hc
    obtain rfl : x = b := hx
    obtain ⟨_, _, h7, _⟩ := hd
    exact ⟨h7.lt, .inl rfl⟩⟩
theorem between_ca (l h : Int) (hl : -1000000 ≤ l) (hh : h ≤ 1000000) (hlh2 : l ≤ h) (K : Nat) (hK : K < 4611686018427387904) (w : World) (b lo hi : Nat) (bs : Value) (hby : DkB w lo hi bs) (hlh : hi ≤ b) (hd : DkS w b bs K) :
    Ca Try.prog 10 [.pointer (some ⟨b, 0, none⟩), .int .i64 l, .int .i64 h] w fun v w' => ∃ x : Int, (v = .int .i64 x ∧ l ≤ x ∧ x ≤ h) ∧ Sat w (fun x => x = b) [dkP bs b (K + 1)] w' := by
  refine q_of (dk_sat hd) Try.func10 rfl (by simp [Try.ntmps10]) ?_
  (refine q_seq (q_region (ql_pure tabOk rfl rfl (q_nil (q_seq (q_region ?_))))); (iterate 4 refine ql_pure tabOk rfl rfl ?_); refine ql_ar tabOk rfl rfl rfl rfl (by omega) (by omega) (ql_ar tabOk rfl rfl rfl rfl (by omega) (by omega) ?_))
  refine ql_call (β := Int) (ψ := fun x v => v = .int .i64 x ∧ 0 ≤ x ∧ (x < h - l + 1 ∨ x = 0)) (L' := fun _ => [dkP bs b (K + 1)]) tabOk [dkP bs b K] [] (fun x => x = b) rfl rfl rfl rfl (Sp.refl _) (fun x hx => ⟨_, .head _, hx⟩) (fun w' hs => drawP_ca (h - l + 1) K hK w' b lo hi bs (by
    obtain ⟨nb, cs, h1, h2⟩ := hby
    exact ⟨nb, cs, h1.chg (N := [b]) ⟨hs.chg.os, hs.chg.tape, hs.chg.output, hs.chg.size, fun k hk hkb => hs.chg.block k hk (by simpa using hkb)⟩ (fun k hk => .inr (by simp at hk; omega)), h2⟩) hlh (hs.all _ (.head _))) ?_
  rintro x _ ⟨rfl, hx0, hx1⟩
  (refine ql_ar tabOk rfl rfl rfl rfl (by omega) (by omega) (ql_pure tabOk rfl rfl (q_nil (q_ret ?_))))
  refine q_fin tabOk rfl (by repeat constructor) fun w hs => ?_
  exact ⟨_, ⟨rfl, by omega, by omega⟩, hs⟩
theorem of_ca (w : World) (a : Option Addr) (n c : Nat) : Ca Try.prog 5 [.slice a n c] w fun v w' => ∃ b : Nat, v = .pointer (some ⟨b, 0, none⟩) ∧ Sat w M0 [dkP (.slice a n c) b 0] w' := by
  refine q_of (Sat.nil w M0) Try.func5 rfl (by simp [Try.ntmps5]) ?_
  (refine q_seq (q_region (ql_pure tabOk rfl rfl (q_nil (q_seq (q_region (ql_pure tabOk rfl rfl ?_)))))))
  refine ql_mk #[.slice a n c, .int .i64 0, .int .u32 17] rfl (by kernel_rfl) rfl ?_
  skip
  refine ql_box rfl rfl (fun b1 => ?_)
  (refine ql_pure tabOk rfl rfl (q_nil (q_ret ?_)))
  refine q_fin tabOk rfl (by repeat constructor) fun w hs => ?_
  refine ⟨b1, rfl, ⟨hs.chg, fun d hd => ?_, .cons (by simp) .nil, fun d hd x hx => ?_⟩⟩
  · obtain rfl : d = dkP (.slice a n c) b1 0 := by simpa using hd
    exact ⟨0, 17, hs.all _ (.head _), by omega, by omega, by omega, by omega⟩
  · obtain rfl : d = dkP (.slice a n c) b1 0 := by simpa using hd
    obtain rfl : x = b1 := hx
    exact hs.bd _ (.head _) x rfl
end Go.Proofs.Ytgmmmkmekbiboaa

/- Taken over from wind: what V8:hit_ca,D7:made_ca,D8:made0,D8:btw0,D8:drw0,H1:OwnR.form2,H2:RgC.drAt,H2:hit_ok,U0:OwnR.at,D4:of_ca reach. Written by graft.py. -/
namespace Go.Proofs.Ytgmmmkmekbiboaa
open Go Go.Eng
theorem DkB.keepP {w w' : World} {lo hi b : Nat} {bs : Value} (h : DkB w lo hi bs) (hlh : hi ≤ b) (hc : ChgP (fun x => x = b) w w') : DkB w' lo hi bs := by
  obtain ⟨nb, cs, h1, h2⟩ := h
  exact ⟨nb, cs, h1.chg (N := [b]) ⟨hc.os, hc.tape, hc.output, hc.size, fun k hk hkb => hc.block k hk (by simpa using hkb)⟩ (fun k hk => .inr (by simp at hk; omega)), h2⟩
theorem sum_set1 : ∀ (l : List Int) (i : Nat) (h : i < l.length), (l.set i (l[i] + 1)).sum = l.sum + 1
  | x :: l, 0, _ => by simp; omega
  | x :: l, i + 1, h => by
    have := sum_set1 l i (by simpa using h)
    simp at this ⊢
    omega
theorem le_sum : ∀ (l : List Int), (∀ x ∈ l, 0 ≤ x) → ∀ x ∈ l, x ≤ l.sum
  | y :: l, h, x, hx => by
    have h0 := h y List.mem_cons_self
    have hs := sum_nonneg' l (fun z hz => h z (List.mem_cons_of_mem _ hz))
    rcases List.mem_cons.1 hx with rfl | hx
    · simp; omega
    · have := le_sum l (fun z hz => h z (List.mem_cons_of_mem _ hz)) x hx
      simp; omega
set_option maxHeartbeats 1000000 in
theorem shared_ca (s t : Nat) (hs1 : 1 ≤ s) (hs2 : s ≤ 1000) (ht : t ≤ 1000) (K : Nat) (hK : K < 1000000) (w : World) (b lo hi : Nat) (bs : Value) (hby : DkB w lo hi bs) (hlh : hi ≤ b) (hd : DkS w b bs K) :
    Ca Try.prog 12 [.pointer (some ⟨b, 0, none⟩), .int .i64 s, .int .i64 t] w fun v w' => ∃ x : Nat × List Int, (v = .slice (some ⟨x.1, 0, none⟩) s s ∧ x.2.length = s ∧ (∀ y ∈ x.2, 0 ≤ y) ∧ x.2.sum = t) ∧ Sat w (fun x => x = b) [.pt x.1 (ints x.2) 3, dkP bs b (K + t)] w' := by
  refine q_of (dk_sat hd) Try.func12 rfl (by simp [Try.ntmps12]) ?_
  (refine q_seq (q_region (ql_pure tabOk rfl rfl (q_nil (q_seq (q_region (ql_pure tabOk rfl rfl ?_)))))))
  refine ql_makeI (et := 3) (m := s) slI rfl rfl rfl (by omega) (fun x => ?_)
  (refine ql_pure tabOk rfl rfl (q_nil (q_seq (q_seq (q_region (ql_pure tabOk rfl rfl (ql_pure tabOk rfl rfl (q_nil (q_block ?_)))))))))
  refine q_loop (σ := Nat × List Int) (fun q => q.1 ≤ t ∧ q.2.length = s ∧ (∀ y ∈ q.2, 0 ≤ y) ∧ q.2.sum = q.1) (fun q => t - q.1) (fun q => [(0, .pointer (some ⟨b, 0, none⟩)), (1, .int .i64 s), (7, .slice (some ⟨x, 0, none⟩) s s), (10, .int .i64 t), (11, .int .i64 q.1)])
    (fun q => [.pt x (ints q.2) 3, dkP bs b (K + q.1)]) (0, List.replicate s 0) ⟨by omega, by simp, by simp, by simp⟩ ⟨rfl, rfl, rfl, rfl, rfl, trivial⟩ (by repeat constructor) ?_
  rintro ⟨k, l⟩ ⟨hk, hl, hl0, hls⟩ K2 hK2
  simp only at hk hl hl0 hls
  (refine q_seq (q_region (ql_pure tabOk rfl rfl (q_nil (q_seq ?_)))))
  refine q_if rfl (fun hc => ?_) (fun hc => ?_)
  · have hk : k < t := by simp only at hc; omega
    (refine q_skip (q_seq (q_block (q_region ?_))); (iterate 3 refine ql_pure tabOk rfl rfl ?_))
    refine ql_call (β := Int) (ψ := fun y v => v = .int .i64 y ∧ 0 ≤ y ∧ (y < s ∨ y = 0)) (L' := fun _ => [dkP bs b (K + k + 1)]) tabOk [dkP bs b (K + k)] [.pt x (ints l) 3] (fun x => x = b) rfl rfl rfl rfl (by repeat constructor) (fun x hx => ⟨_, .head _, hx⟩) (fun w' hs => drawP_ca s (K + k) (by omega) w' b lo hi bs (hby.keepP hlh hs.chg) hlh (hs.all _ (.head _))) ?_
    rintro y _ ⟨rfl, hy0, hy1⟩
    obtain ⟨i, rfl⟩ := Int.eq_ofNat_of_zero_le hy0
    have hi1 : i < l.length := by omega
    have hli := hl0 l[i] (List.getElem_mem hi1)
    have hlu := le_sum l hl0 l[i] (List.getElem_mem hi1)
    skip
    refine ql_index tabOk rfl rfl rfl rfl rfl (by omega) (by omega) ?_
    refine ql_loadI tabOk (i) rfl rfl rfl (by repeat constructor) (by first | rfl | omega | simp) hi1 ?_
    (refine ql_ar tabOk rfl rfl rfl rfl (by omega) (by omega) ?_)
    refine ql_index tabOk rfl rfl rfl rfl rfl (by omega) (by omega) ?_
    refine ql_storeI tabOk (i) rfl rfl rfl (by repeat constructor) (by first | rfl | omega | simp) hi1 ?_
    (refine q_nil (q_blk (q_region (ql_ar tabOk rfl rfl rfl rfl (by omega) (by omega) (ql_pure tabOk rfl rfl (q_nil ?_))))))
    refine hK2 (k + 1, l.set i (l[i] + 1)) _ _ ⟨by simp only; omega, by simp [hl], fun y hy => ?_, by simp only [sum_set1]; omega⟩ (by simp only; omega) ⟨rfl, rfl, rfl, rfl, rfl, trivial⟩ (by repeat constructor)
    rcases List.mem_or_eq_of_mem_set hy with hy | rfl
    · exact hl0 y hy
    · omega
  · obtain rfl : k = t := by simp only at hc; omega
    (refine q_exit _ rfl (q_seq (q_region (ql_pure tabOk rfl rfl (ql_pure tabOk rfl rfl (q_nil (q_ret ?_)))))))
    refine q_fin tabOk rfl (by repeat constructor) fun w hs => ?_
    exact ⟨(x, l), ⟨rfl, hl, hl0, hls⟩, hs⟩
/-- What Made makes. -/
structure MadeR (states clicks side : Nat) (r : Rg) : Prop where
  right : r.Right
  small : r.Small
  states : r.drifts.length ≤ states
  clicks : r.clicks ≤ clicks
  group : r.group.length ≤ 2 * side + 1
  radius : r.radius ≤ 12
  unit : r.unit ≤ 5
  total : r.total ≤ 6
  drift : ∀ x ∈ r.drifts, -15 ≤ x ∧ x ≤ 15
  gsum : r.group.sum ≤ 4 * r.group.length + 1
  weight : ∀ x ∈ r.group, x ≤ 5
theorem DkS.mono {w : World} {b K K' : Nat} {bs : Value} (h : DkS w b bs K) (hk : K ≤ K') : DkS w b bs K' := by
  obtain ⟨next, st, h1, h2, h3, h4⟩ := h
  exact ⟨next, st, h1, h2, by omega, h4⟩
theorem Sat.dk {w0 w : World} {M : Nat → Prop} {R : List Ck} {b K K' : Nat} {bs : Value} (h : Sat w0 M (dkP bs b K :: R) w) (hk : K ≤ K') : Sat w0 M (dkP bs b K' :: R) w := h.turn (fun _ h => h) (fun h => DkS.mono h hk)
theorem own_rdI {w : World} {t n : Nat} {v : Value} {l : List Int} (h : w.ownsRow 0 t 1 v n (ints l)) (hn : n = l.length) : RdI w 0 w.heap.size v l := by
  subst hn
  exact RdI.of (own_rd h)
theorem rows_rd' {w : World} {v : Value} {xs : List (Nat × List Int)} {n : Nat} (hu : (un (rowsK xs)).p w) (h1 : w.ownsRow 0 23 1 v n (rowsV xs)) : RdII w 0 w.heap.size v (xs.map (·.2)) := by
  have hn : n = (rowsV xs).length := by have := h1.1; omega
  refine ⟨rowsV xs, RdE.one (by rw [← hn]; exact own_rd h1) (fun e he => by obtain ⟨p, _, rfl⟩ := List.mem_map.1 he; rfl), by simp [rowsV], fun i hi hi' => ?_⟩
  have hi2 : i < xs.length := by simpa using hi'
  have h2 : Blk w xs[i].1 (ints xs[i].2) 3 := hu.1 (.pt xs[i].1 (ints xs[i].2) 3) (List.mem_map.2 ⟨xs[i], List.getElem_mem hi2, rfl⟩)
  simp only [rowsV, List.getElem_map]
  exact RdE.wide (RdI.of (Blk.rd h2 (by simp) _)) (Nat.zero_le _) h2.lt
abbrev madeB (b9 : Nat) (a b c d : Int) (g h f n : Value) : Ck := .pt b9 [.int .i64 a, .int .i64 b, .int .i64 c, .int .i64 d, g, h, f, n] 26
set_option maxHeartbeats 4000000 in
theorem made_ca (states clicks side : Nat) (h1 : 1 ≤ states) (h2 : states ≤ 5) (h3 : clicks ≤ 6) (h4 : side ≤ 4) (K : Nat) (hK : K < 100000) (w : World) (b lo hi : Nat) (bs : Value) (hby : DkB w lo hi bs) (hlh : hi ≤ b) (hd : DkS w b bs K) :
    Ca Try.prog 4 [.pointer (some ⟨b, 0, none⟩), .int .i64 states, .int .i64 clicks, .int .i64 side] w fun v w' => ∃ x : List Ck × List Value × Rg, (v = .agg x.2.1.toArray ∧ OwnR x.1 x.2.1 x.2.2 ∧ MadeR states clicks side x.2.2) ∧ Sat w (fun x => x = b) [un x.1, dkP bs b (K + 100)] w' := by
  refine q_of (dk_sat hd) Try.func4 rfl (by simp [Try.ntmps4]) ?_
  (refine q_seq (q_region ?_))
  refine ql_alloc zero26 rfl (fun b8 => ?_)
  (refine q_nil (q_seq (q_region (ql_pure tabOk rfl rfl ?_))))
  refine ql_call (β := Int) (ψ := fun x v => v = .int .i64 x ∧ 1 ≤ x ∧ x ≤ 12) (L' := fun _ => [dkP bs b (K + 1)]) tabOk [dkP bs b K] _ (fun x => x = b) rfl rfl rfl rfl (Sp.cons (by repeat constructor) (Sp.refl _)) (fun x hx => ⟨_, .head _, hx⟩) (fun w' hs => between_ca 1 12 (by omega) (by omega) (by omega) K (by omega) w' b lo hi bs (hby.keepP hlh hs.chg) hlh (hs.all _ (.head _))) ?_
  rintro rad _ ⟨rfl, hrad⟩
  (refine ql_pure tabOk rfl rfl ?_)
  refine ql_call (β := Int) (ψ := fun x v => v = .int .i64 x ∧ 1 ≤ x ∧ x ≤ 5) (L' := fun _ => [dkP bs b (K + 2)]) tabOk [dkP bs b (K + 1)] _ (fun x => x = b) rfl rfl rfl rfl (Sp.cons (by repeat constructor) (Sp.refl _)) (fun x hx => ⟨_, .head _, hx⟩) (fun w' hs => between_ca 1 5 (by omega) (by omega) (by omega) (K + 1) (by omega) w' b lo hi bs (hby.keepP hlh hs.chg) hlh (hs.all _ (.head _))) ?_
  rintro unt _ ⟨rfl, hunt⟩
  (refine ql_pure tabOk rfl rfl (ql_pure tabOk rfl rfl (ql_ar tabOk rfl rfl rfl rfl (by omega) (by omega) ?_)))
  refine ql_call (β := Int) (ψ := fun x v => v = .int .i64 x ∧ 0 ≤ x ∧ (x < (clicks : Int) + 1 ∨ x = 0)) (L' := fun _ => [dkP bs b (K + 3)]) tabOk [dkP bs b (K + 2)] _ (fun x => x = b) rfl rfl rfl rfl (Sp.cons (by repeat constructor) (Sp.refl _)) (fun x hx => ⟨_, .head _, hx⟩) (fun w' hs => drawP_ca ((clicks : Int) + 1) (K + 2) (by omega) w' b lo hi bs (hby.keepP hlh hs.chg) hlh (hs.all _ (.head _))) ?_
  rintro clk _ ⟨rfl, hclk⟩
  (refine ql_pure tabOk rfl rfl ?_)
  refine ql_call (β := Int) (ψ := fun x v => v = .int .i64 x ∧ 1 ≤ x ∧ x ≤ 6) (L' := fun _ => [dkP bs b (K + 4)]) tabOk [dkP bs b (K + 3)] _ (fun x => x = b) rfl rfl rfl rfl (Sp.cons (by repeat constructor) (Sp.refl _)) (fun x hx => ⟨_, .head _, hx⟩) (fun w' hs => between_ca 1 6 (by omega) (by omega) (by omega) (K + 3) (by omega) w' b lo hi bs (hby.keepP hlh hs.chg) hlh (hs.all _ (.head _))) ?_
  rintro tot _ ⟨rfl, htot⟩
  skip
  refine ql_mk #[.int .i64 rad, .int .i64 unt, .int .i64 clk, .int .i64 tot, .slice none 0 0, .slice none 0 0, .slice none 0 0, .slice none 0 0] rfl (by kernel_rfl) rfl ?_
  refine ql_alloc zero26 rfl (fun b9 => ?_)
  (refine ql_setA tabOk rfl rfl rfl rfl rfl (by repeat constructor) rfl ?_; refine q_nil (q_seq (q_seq (q_region (ql_pure tabOk rfl rfl (ql_pure tabOk rfl rfl (ql_ar tabOk rfl rfl rfl rfl (by omega) (by omega) ?_)))))))
  refine ql_call (β := Int) (ψ := fun x v => v = .int .i64 x ∧ 0 ≤ x ∧ (x < (side : Int) + 1 ∨ x = 0)) (L' := fun _ => [dkP bs b (K + 5)]) tabOk [dkP bs b (K + 4)] _ (fun x => x = b) rfl rfl rfl rfl (Sp.cons (by repeat constructor) (Sp.refl _)) (fun x hx => ⟨_, .head _, hx⟩) (fun w' hs => drawP_ca ((side : Int) + 1) (K + 4) (by omega) w' b lo hi bs (hby.keepP hlh hs.chg) hlh (hs.all _ (.head _))) ?_
  rintro sd _ ⟨rfl, hsd⟩
  obtain ⟨gn, hgn⟩ : ∃ gn : Nat, 2 * sd + 1 = (gn : Int) := ⟨(2 * sd + 1).toNat, by omega⟩
  (refine ql_ar tabOk rfl rfl rfl rfl (by omega) (by omega) (ql_ar tabOk rfl rfl rfl rfl (by omega) (by omega) (ql_pure tabOk rfl rfl (q_nil (q_block ?_)))))
  rw [hgn]
  have hgn2 : gn ≤ 9 := by omega
  refine q_conv (H' := [.ow (.slice none 0 0) 3 1 0 (ints []), dkP bs b (K + 5 + 0), madeB b9 rad unt clk tot (.slice none 0 0) (.slice none 0 0) (.slice none 0 0) (.slice none 0 0), .pt b8 [.int .i64 0, .int .i64 0, .int .i64 0, .int .i64 0, .slice none 0 0, .slice none 0 0, .slice none 0 0, .slice none 0 0] 26]) (fun w' hs => Sat.ownil (hs.sp (by repeat constructor)) _ _) ?_
  refine q_loop (σ := Nat × Value × List Int) (fun s => s.1 ≤ gn ∧ s.2.2.length = s.1 ∧ ∀ y ∈ s.2.2, 0 ≤ y ∧ y ≤ 4) (fun s => gn - s.1) (fun s => [(0, .pointer (some ⟨b, 0, none⟩)), (1, .int .i64 states), (8, .pointer (some ⟨b8, 0, none⟩)), (9, .pointer (some ⟨b9, 0, none⟩)), (26, .int .i64 gn), (27, .int .i64 s.1)])
    (fun s => [.ow s.2.1 3 1 s.1 (ints s.2.2), dkP bs b (K + 5 + s.1), madeB b9 rad unt clk tot s.2.1 (.slice none 0 0) (.slice none 0 0) (.slice none 0 0), .pt b8 [.int .i64 0, .int .i64 0, .int .i64 0, .int .i64 0, .slice none 0 0, .slice none 0 0, .slice none 0 0, .slice none 0 0] 26]) (0, .slice none 0 0, []) ⟨by omega, rfl, by simp⟩ ⟨rfl, rfl, rfl, rfl, rfl, rfl, trivial⟩ (Sp.refl _) ?_
  rintro ⟨k, gv, l⟩ ⟨hk, hl, hlb⟩ K2 hK2
  simp only at hk hl hlb
  (refine q_seq (q_region (ql_pure tabOk rfl rfl (q_nil (q_seq ?_)))))
  refine q_if rfl (fun hc => ?_) (fun hc => ?_)
  · have hk2 : k < gn := by simp only at hc; omega
    clear hc
    (refine q_skip (q_seq (q_block ?_)))
    refine q_drawS2 5 _ [dkP bs b (K + 5 + k)] [.pt b8 [.int .i64 0, .int .i64 0, .int .i64 0, .int .i64 0, .slice none 0 0, .slice none 0 0, .slice none 0 0, .slice none 0 0] 26] [madeB b9 rad unt clk tot gv (.slice none 0 0) (.slice none 0 0) (.slice none 0 0), .ow gv 3 1 k (ints l)] (Sp.cons (by repeat constructor) (Sp.refl _)) (Sp.cons (by repeat constructor) (Sp.cons (by repeat constructor) (by repeat constructor))) (by kernel_rfl) (by kernel_rfl) (by kernel_rfl) fun K1 hK1 => ?_
    (refine qf_pure tabOk rfl rfl rfl ?_; refine qf_loadBa tabOk rfl rfl rfl ?_; refine qf_pure tabOk rfl rfl rfl ?_)
    refine qf_call (β := Int) (ψ := fun x v => v = .int .i64 x ∧ 0 ≤ x ∧ (x < 5 ∨ x = 0)) (L' := fun x => [dkP bs b (K + 5 + k + 1)]) tabOk [dkP bs b (K + 5 + k)] _ (fun x => x = b) rfl rfl rfl rfl (Sp.cons (by repeat constructor) (Sp.refl _)) (fun x hx => ⟨_, .head _, hx⟩) (fun w' hs => drawP_ca 5 (K + 5 + k) (by omega) w' b lo hi bs (hby.keepP hlh hs.chg) hlh (hs.all _ (.head _))) ?_
    rintro y _ ⟨rfl, hy⟩
    skip
    refine qf_mkS 3 [.int .i64 y] rfl (by kernel_rfl) rfl (fun bn => ?_)
    (refine qf_nil ?_)
    refine hK1 _ _ [.pt bn [.int .i64 y] 3, dkP bs b (K + 5 + k + 1), madeB b9 rad unt clk tot gv (.slice none 0 0) (.slice none 0 0) (.slice none 0 0), .ow gv 3 1 k (ints l)] (Sp.cons (by repeat constructor) (Sp.cons (by repeat constructor) (Sp.cons (by repeat constructor) (Sp.cons (by repeat constructor) (by repeat constructor))))) ?_
    refine qf_append (q := 1) slI rfl rfl rfl (fun v' => by repeat constructor) (fun w' hs => ⟨_, _, Blk.rd (hs.blk (b := bn) (by repeat constructor)) rfl 1⟩) (by simp [oneV]) (by omega) (by omega) (fun va' => ?_)
    refine qf_fact (fun w hs => hs.slice (v := va') (by repeat constructor)) ?_
    rintro ⟨a1, m1, c1, rfl⟩
    (refine qf_pure tabOk rfl rfl rfl ?_; refine qf_st4 tabOk rfl rfl rfl rfl (by repeat constructor) ?_; refine qf_nil (q_blk (q_region (ql_ar tabOk rfl rfl rfl rfl (by omega) (by omega) (ql_pure tabOk rfl rfl (q_nil ?_))))))
    have e1 : ints (l ++ [y]) = ints l ++ [.int .i64 y] := by simp [ints]
    refine hK2 (k + 1, .slice a1 m1 c1, l ++ [y]) _ _ ⟨by simp only; omega, by simp [hl], fun z hz => ?_⟩ (by simp only; omega) ⟨rfl, rfl, rfl, rfl, rfl, rfl, trivial⟩ (by rw [e1]; repeat constructor)
    rcases List.mem_append.1 hz with hz | hz
    · exact hlb z hz
    · rw [List.mem_singleton.1 hz]; omega
  obtain rfl : k = gn := by simp only at hc; omega
  clear hc
  have hgl : k / 2 < l.length := by omega
  have hgi := hlb l[k / 2] (List.getElem_mem hgl)
  dsimp only
  refine q_fact (fun w hs => hs.ownSome (v := gv) (by repeat constructor) (by omega)) ?_
  rintro ⟨gb, gc, rfl⟩
  (refine q_exit _ rfl (q_seq (q_region (ql_pure tabOk rfl rfl ?_))); refine ql_loadBa tabOk rfl rfl rfl ?_; refine ql_pure tabOk rfl rfl ?_; refine ql_loadBa tabOk rfl rfl rfl ?_; refine ql_pure tabOk rfl rfl (ql_quoN rfl rfl rfl (by omega) (by omega) (by omega) ?_))
  refine ql_index tabOk rfl rfl rfl rfl rfl (by omega) (by omega) ?_
  refine ql_load1 (v := .int .i64 l[k / 2]) tabOk rfl rfl rfl (fun w hs => (RdI.at (hs.rdI (v := .slice (some ⟨gb, 0, none⟩) k gc) (l := l) (by repeat constructor) hl.symm) (k / 2) hgl)) ?_
  (refine ql_ar tabOk rfl rfl rfl rfl (by omega) (by omega) ?_)
  refine ql_index tabOk rfl rfl rfl rfl rfl (by omega) (by omega) ?_
  refine ql_storeW tabOk (k / 2) rfl rfl rfl rfl (by repeat constructor) (by first | rfl | omega | simp) (by simpa using hgl) ?_
  (refine q_nil (q_seq (q_seq (q_region (ql_pure tabOk rfl rfl (ql_pure tabOk rfl rfl ?_))))))
  have hk0 : 1 ≤ k := by omega
  obtain ⟨gl, hgle⟩ : ∃ gl, gl = l.set (k / 2) (l[k / 2] + 1) := ⟨_, rfl⟩
  have hgl1 : gl.length = k := by rw [hgle]; simp [hl]
  have hgs := sum_set1 l (k / 2) hgl
  rw [← hgle] at hgs
  have hgb : ∀ y ∈ gl, 0 ≤ y ∧ y ≤ 5 := fun y hy => by
    rw [hgle] at hy
    rcases List.mem_or_eq_of_mem_set hy with hy | rfl
    · have := hlb y hy; omega
    · omega
  have hls := sum_bd (c := 4) l (fun y hy => by have := hlb y hy; omega)
  have hln := sum_nonneg' l (fun y hy => (hlb y hy).1)
  have e0 : (ints l).set (k / 2) (.int .i64 (l[k / 2] + 1)) = ints gl := by rw [hgle]; simp [ints]
  rw [e0]
  clear e0 hgle
  refine ql_call (β := Int) (ψ := fun x v => v = .int .i64 x ∧ 1 ≤ x ∧ x ≤ states) (L' := fun _ => [dkP bs b (K + 5 + k + 1)]) tabOk [dkP bs b (K + 5 + k)] _ (fun x => x = b) rfl rfl rfl rfl (Sp.cons (by repeat constructor) (Sp.refl _)) (fun x hx => ⟨_, .head _, hx⟩) (fun w' hs => between_ca 1 states (by omega) (by omega) (by omega) (K + 5 + k) (by omega) w' b lo hi bs (hby.keepP hlh hs.chg) hlh (hs.all _ (.head _))) ?_
  rintro dn _ ⟨rfl, hdn⟩
  obtain ⟨dn, rfl⟩ := Int.eq_ofNat_of_zero_le (show 0 ≤ dn by omega)
  (refine ql_pure tabOk rfl rfl (q_nil (q_block ?_)))
  refine q_conv (H' := [.ow (.slice none 0 0) 3 1 0 (ints []), dkP bs b (K + 5 + k + 1 + 0), madeB b9 rad unt clk tot (.slice (some ⟨gb, 0, none⟩) k gc) (.slice none 0 0) (.slice none 0 0) (.slice none 0 0), .ow (.slice (some ⟨gb, 0, none⟩) k gc) 3 1 k (ints gl), .pt b8 [.int .i64 0, .int .i64 0, .int .i64 0, .int .i64 0, .slice none 0 0, .slice none 0 0, .slice none 0 0, .slice none 0 0] 26]) (fun w' hs => Sat.ownil (hs.sp (by repeat constructor)) _ _) ?_
  refine q_loop (σ := Nat × Value × List Int) (fun s => s.1 ≤ dn ∧ s.2.2.length = s.1 ∧ ∀ y ∈ s.2.2, -15 ≤ y ∧ y ≤ 15) (fun s => dn - s.1) (fun s => [(0, .pointer (some ⟨b, 0, none⟩)), (8, .pointer (some ⟨b8, 0, none⟩)), (9, .pointer (some ⟨b9, 0, none⟩)), (49, .int .i64 dn), (50, .int .i64 s.1)])
    (fun s => [.ow s.2.1 3 1 s.1 (ints s.2.2), dkP bs b (K + 5 + k + 1 + s.1), madeB b9 rad unt clk tot (.slice (some ⟨gb, 0, none⟩) k gc) s.2.1 (.slice none 0 0) (.slice none 0 0), .ow (.slice (some ⟨gb, 0, none⟩) k gc) 3 1 k (ints gl), .pt b8 [.int .i64 0, .int .i64 0, .int .i64 0, .int .i64 0, .slice none 0 0, .slice none 0 0, .slice none 0 0, .slice none 0 0] 26]) (0, .slice none 0 0, []) ⟨by omega, rfl, by simp⟩ ⟨rfl, rfl, rfl, rfl, rfl, trivial⟩ (Sp.refl _) ?_
  rintro ⟨d, dv, dl⟩ ⟨hd', hdl, hdb⟩ K2 hK2
  simp only at hd' hdl hdb
  dsimp only
  (refine q_seq (q_region (ql_pure tabOk rfl rfl (q_nil (q_seq ?_)))))
  refine q_if rfl (fun hc => ?_) (fun hc => ?_)
  · have hd2 : d < dn := by omega
    clear hc
    (refine q_skip (q_seq (q_block ?_)))
    refine q_drawS2 5 _ [dkP bs b (K + 5 + k + 1 + d)] [.ow (.slice (some ⟨gb, 0, none⟩) k gc) 3 1 k (ints gl), .pt b8 [.int .i64 0, .int .i64 0, .int .i64 0, .int .i64 0, .slice none 0 0, .slice none 0 0, .slice none 0 0, .slice none 0 0] 26] [madeB b9 rad unt clk tot (.slice (some ⟨gb, 0, none⟩) k gc) dv (.slice none 0 0) (.slice none 0 0), .ow dv 3 1 d (ints dl)] (Sp.cons (by repeat constructor) (Sp.refl _)) (Sp.cons (by repeat constructor) (Sp.cons (by repeat constructor) (by repeat constructor))) (by kernel_rfl) (by kernel_rfl) (by kernel_rfl) fun K1 hK1 => ?_
    (refine qf_pure tabOk rfl rfl rfl ?_; refine qf_loadBa tabOk rfl rfl rfl ?_; refine qf_pure tabOk rfl rfl rfl ?_)
    refine qf_call (β := Int) (ψ := fun x v => v = .int .i64 x ∧ -15 ≤ x ∧ x ≤ 15) (L' := fun _ => [dkP bs b (K + 5 + k + 1 + d + 1)]) tabOk [dkP bs b (K + 5 + k + 1 + d)] _ (fun x => x = b) rfl rfl rfl rfl (Sp.cons (by repeat constructor) (Sp.refl _)) (fun x hx => ⟨_, .head _, hx⟩) (fun w' hs => between_ca (-15) 15 (by omega) (by omega) (by omega) (K + 5 + k + 1 + d) (by omega) w' b lo hi bs (hby.keepP hlh hs.chg) hlh (hs.all _ (.head _))) ?_
    rintro y _ ⟨rfl, hy⟩
    skip
    refine qf_mkS 3 [.int .i64 y] rfl (by kernel_rfl) rfl (fun bn => ?_)
    (refine qf_nil ?_)
    refine hK1 _ _ [.pt bn [.int .i64 y] 3, dkP bs b (K + 5 + k + 1 + d + 1), madeB b9 rad unt clk tot (.slice (some ⟨gb, 0, none⟩) k gc) dv (.slice none 0 0) (.slice none 0 0), .ow dv 3 1 d (ints dl)] (Sp.cons (by repeat constructor) (Sp.cons (by repeat constructor) (Sp.cons (by repeat constructor) (Sp.cons (by repeat constructor) (by repeat constructor))))) ?_
    refine qf_append (q := 1) slI rfl rfl rfl (fun v' => by repeat constructor) (fun w' hs => ⟨_, _, Blk.rd (hs.blk (b := bn) (by repeat constructor)) rfl 1⟩) (by simp [oneV]) (by omega) (by omega) (fun va' => ?_)
    refine qf_fact (fun w hs => hs.slice (v := va') (by repeat constructor)) ?_
    rintro ⟨a1, m1, c1, rfl⟩
    (refine qf_pure tabOk rfl rfl rfl ?_; refine qf_st5 tabOk rfl rfl rfl rfl (by repeat constructor) ?_; refine qf_nil (q_blk (q_region (ql_ar tabOk rfl rfl rfl rfl (by omega) (by omega) (ql_pure tabOk rfl rfl (q_nil ?_))))))
    have e1 : ints (dl ++ [y]) = ints dl ++ [.int .i64 y] := by simp [ints]
    refine hK2 (d + 1, .slice a1 m1 c1, dl ++ [y]) _ _ ⟨by simp only; omega, by simp [hdl], fun z hz => ?_⟩ (by simp only; omega) ⟨rfl, rfl, rfl, rfl, rfl, trivial⟩ (by rw [e1]; repeat constructor)
    rcases List.mem_append.1 hz with hz | hz
    · exact hdb z hz
    · rw [List.mem_singleton.1 hz]; omega
  obtain rfl : d = dn := by omega
  clear hc
  refine q_fact (fun w hs => hs.ownSome (v := dv) (by repeat constructor) (by omega)) ?_
  rintro ⟨db, dc, rfl⟩
  obtain ⟨T, rfl⟩ := Int.eq_ofNat_of_zero_le (show 0 ≤ tot by omega)
  (refine q_exit _ rfl (q_seq (q_region (ql_pure tabOk rfl rfl (ql_pure tabOk rfl rfl ?_)))); refine ql_loadBa tabOk rfl rfl rfl ?_; refine ql_pure tabOk rfl rfl (ql_pure tabOk rfl rfl ?_); refine ql_loadBa tabOk rfl rfl rfl ?_)
  refine ql_call (β := Nat × List Int) (ψ := fun x v => v = .slice (some ⟨x.1, 0, none⟩) d d ∧ x.2.length = d ∧ (∀ y ∈ x.2, 0 ≤ y) ∧ x.2.sum = T) (L' := fun x => [.pt x.1 (ints x.2) 3, dkP bs b (K + 5 + k + 1 + d + T)]) tabOk [dkP bs b (K + 5 + k + 1 + d)] _ (fun x => x = b) rfl rfl rfl rfl (Sp.cons (by repeat constructor) (Sp.refl _)) (fun x hx => ⟨_, .head _, hx⟩) (fun w' hs => shared_ca d T (by omega) (by omega) (by omega) (K + 5 + k + 1 + d) (by omega) w' b lo hi bs (hby.keepP hlh hs.chg) hlh (hs.all _ (.head _))) ?_
  rintro ⟨fb, fl⟩ _ ⟨rfl, hfl, hfn, hfs⟩
  simp only at hfl hfn hfs
  (refine ql_pure tabOk rfl rfl ?_; refine ql_st6 tabOk rfl rfl rfl rfl (by repeat constructor) ?_; refine q_nil (q_seq (q_seq (q_region (ql_pure tabOk rfl rfl ?_)))); refine ql_loadBa tabOk rfl rfl rfl ?_; refine ql_pure tabOk rfl rfl (ql_pure tabOk rfl rfl (q_nil (q_block ?_))))
  refine q_conv (H' := [un (rowsK []), .ow (.slice none 0 0) 23 1 0 (rowsV []), dkP bs b (K + 40 + 6 * 0), madeB b9 rad unt clk T (.slice (some ⟨gb, 0, none⟩) k gc) (.slice (some ⟨db, 0, none⟩) d dc) (.slice (some ⟨fb, 0, none⟩) d d) (.slice none 0 0), .pt fb (ints fl) 3, .ow (.slice (some ⟨db, 0, none⟩) d dc) 3 1 d (ints dl), .ow (.slice (some ⟨gb, 0, none⟩) k gc) 3 1 k (ints gl), .pt b8 [.int .i64 0, .int .i64 0, .int .i64 0, .int .i64 0, .slice none 0 0, .slice none 0 0, .slice none 0 0, .slice none 0 0] 26]) (fun w' hs => by
    have h1 : Sat w (fun x => x = b) (dkP bs b (K + 5 + k + 1 + d + T) :: [madeB b9 rad unt clk T (.slice (some ⟨gb, 0, none⟩) k gc) (.slice (some ⟨db, 0, none⟩) d dc) (.slice (some ⟨fb, 0, none⟩) d d) (.slice none 0 0), .pt fb (ints fl) 3, .ow (.slice (some ⟨db, 0, none⟩) d dc) 3 1 d (ints dl), .ow (.slice (some ⟨gb, 0, none⟩) k gc) 3 1 k (ints gl), .pt b8 [.int .i64 0, .int .i64 0, .int .i64 0, .int .i64 0, .slice none 0 0, .slice none 0 0, .slice none 0 0, .slice none 0 0] 26]) w' := hs.sp (by repeat constructor)
    exact Sat.un_nil (Sat.ownil (Sat.dk h1 (by omega)) _ _)) ?_
  refine q_loop (σ := Nat × Value × List (Nat × List Int)) (fun s => s.1 ≤ d ∧ s.2.2.length = s.1 ∧ ∀ y ∈ s.2.2, y.2.length = d ∧ (∀ z ∈ y.2, 0 ≤ z) ∧ y.2.sum = T) (fun s => d - s.1) (fun s => [(0, .pointer (some ⟨b, 0, none⟩)), (8, .pointer (some ⟨b8, 0, none⟩)), (9, .pointer (some ⟨b9, 0, none⟩)), (70, .int .i64 d), (71, .int .i64 s.1)])
    (fun s => [un (rowsK s.2.2), .ow s.2.1 23 1 s.1 (rowsV s.2.2), dkP bs b (K + 40 + 6 * s.1), madeB b9 rad unt clk T (.slice (some ⟨gb, 0, none⟩) k gc) (.slice (some ⟨db, 0, none⟩) d dc) (.slice (some ⟨fb, 0, none⟩) d d) s.2.1, .pt fb (ints fl) 3, .ow (.slice (some ⟨db, 0, none⟩) d dc) 3 1 d (ints dl), .ow (.slice (some ⟨gb, 0, none⟩) k gc) 3 1 k (ints gl), .pt b8 [.int .i64 0, .int .i64 0, .int .i64 0, .int .i64 0, .slice none 0 0, .slice none 0 0, .slice none 0 0, .slice none 0 0] 26]) (0, .slice none 0 0, []) ⟨by omega, rfl, by simp⟩ ⟨rfl, rfl, rfl, rfl, rfl, trivial⟩ (Sp.refl _) ?_
  rintro ⟨m, nv, xs⟩ ⟨hm, hxl, hxb⟩ K2 hK2
  simp only at hm hxl hxb
  dsimp only
  (refine q_seq (q_region (ql_pure tabOk rfl rfl (q_nil (q_seq ?_)))))
  refine q_if rfl (fun hc => ?_) (fun hc => ?_)
  · have hm2 : m < d := by omega
    clear hc
    (refine q_skip (q_seq (q_block ?_)))
    refine q_drawS2 10 _ [dkP bs b (K + 40 + 6 * m)] [un (rowsK xs), .pt fb (ints fl) 3, .ow (.slice (some ⟨db, 0, none⟩) d dc) 3 1 d (ints dl), .ow (.slice (some ⟨gb, 0, none⟩) k gc) 3 1 k (ints gl), .pt b8 [.int .i64 0, .int .i64 0, .int .i64 0, .int .i64 0, .slice none 0 0, .slice none 0 0, .slice none 0 0, .slice none 0 0] 26] [madeB b9 rad unt clk T (.slice (some ⟨gb, 0, none⟩) k gc) (.slice (some ⟨db, 0, none⟩) d dc) (.slice (some ⟨fb, 0, none⟩) d d) nv, .ow nv 23 1 m (rowsV xs)] (Sp.cons (by repeat constructor) (Sp.refl _)) (Sp.cons (by repeat constructor) (Sp.cons (by repeat constructor) (by repeat constructor))) (by kernel_rfl) (by kernel_rfl) (by kernel_rfl) fun K1 hK1 => ?_
    (refine qf_pure tabOk rfl rfl rfl ?_; refine qf_loadBa tabOk rfl rfl rfl ?_; refine qf_pure tabOk rfl rfl rfl (qf_pure tabOk rfl rfl rfl ?_); refine qf_loadBa tabOk rfl rfl rfl ?_; refine qf_pure tabOk rfl rfl rfl (qf_pure tabOk rfl rfl rfl ?_); refine qf_loadBa tabOk rfl rfl rfl ?_)
    refine qf_call (β := Nat × List Int) (ψ := fun x v => v = .slice (some ⟨x.1, 0, none⟩) d d ∧ x.2.length = d ∧ (∀ y ∈ x.2, 0 ≤ y) ∧ x.2.sum = T) (L' := fun x => [.pt x.1 (ints x.2) 3, dkP bs b (K + 40 + 6 * m + T)]) tabOk [dkP bs b (K + 40 + 6 * m)] _ (fun x => x = b) rfl rfl rfl rfl (Sp.cons (by repeat constructor) (Sp.refl _)) (fun x hx => ⟨_, .head _, hx⟩) (fun w' hs => shared_ca d T (by omega) (by omega) (by omega) (K + 40 + 6 * m) (by omega) w' b lo hi bs (hby.keepP hlh hs.chg) hlh (hs.all _ (.head _))) ?_
    rintro ⟨x, rl⟩ _ ⟨rfl, hrl, hrn, hrs⟩
    simp only at hrl hrn hrs
    skip
    refine qf_mkS 23 [.slice (some ⟨x, 0, none⟩) d d] rfl (by kernel_rfl) rfl (fun bn => ?_)
    (refine qf_nil ?_)
    refine hK1 _ _ [.pt bn [.slice (some ⟨x, 0, none⟩) d d] 23, .pt x (ints rl) 3, dkP bs b (K + 40 + 6 * m + T), madeB b9 rad unt clk T (.slice (some ⟨gb, 0, none⟩) k gc) (.slice (some ⟨db, 0, none⟩) d dc) (.slice (some ⟨fb, 0, none⟩) d d) nv, .ow nv 23 1 m (rowsV xs)] (Sp.cons (by repeat constructor) (Sp.cons (by repeat constructor) (Sp.cons (by repeat constructor) (Sp.cons (by repeat constructor) (Sp.cons (by repeat constructor) (by repeat constructor)))))) ?_
    refine qf_append (q := 1) slII rfl rfl rfl (fun v' => by repeat constructor) (fun w' hs => ⟨_, _, Blk.rd (hs.blk (b := bn) (by repeat constructor)) rfl 1⟩) (by simp [oneV]) (by omega) (by omega) (fun va' => ?_)
    refine qf_fact (fun w hs => hs.slice (v := va') (by repeat constructor)) ?_
    rintro ⟨a1, m1, c1, rfl⟩
    (refine qf_pure tabOk rfl rfl rfl ?_; refine qf_st7 tabOk rfl rfl rfl rfl (by repeat constructor) ?_; refine qf_nil (q_blk (q_region (ql_ar tabOk rfl rfl rfl rfl (by omega) (by omega) (ql_pure tabOk rfl rfl (q_nil ?_))))))
    have e1 : rowsV (xs ++ [(x, rl)]) = rowsV xs ++ [.slice (some ⟨x, 0, none⟩) d d] := by simp [rowsV, hrl]
    have e2 : rowsK (xs ++ [(x, rl)]) = rowsK xs ++ [.pt x (ints rl) 3] := by simp [rowsK]
    refine q_conv (H' := [un (rowsK (xs ++ [(x, rl)])), .ow (.slice a1 m1 c1) 23 1 (m + 1) (rowsV (xs ++ [(x, rl)])), dkP bs b (K + 40 + 6 * (m + 1)), madeB b9 rad unt clk T (.slice (some ⟨gb, 0, none⟩) k gc) (.slice (some ⟨db, 0, none⟩) d dc) (.slice (some ⟨fb, 0, none⟩) d d) (.slice a1 m1 c1), .pt fb (ints fl) 3, .ow (.slice (some ⟨db, 0, none⟩) d dc) 3 1 d (ints dl), .ow (.slice (some ⟨gb, 0, none⟩) k gc) 3 1 k (ints gl), .pt b8 [.int .i64 0, .int .i64 0, .int .i64 0, .int .i64 0, .slice none 0 0, .slice none 0 0, .slice none 0 0, .slice none 0 0] 26]) (fun w' hs => by
      rw [e1, e2]
      have h1 : Sat w (fun x => x = b) (dkP bs b (K + 40 + 6 * m + T) :: .pt x (ints rl) 3 :: un (rowsK xs) :: [.ow (.slice a1 m1 c1) 23 1 (m + 1) (rowsV xs ++ [.slice (some ⟨x, 0, none⟩) d d]), madeB b9 rad unt clk T (.slice (some ⟨gb, 0, none⟩) k gc) (.slice (some ⟨db, 0, none⟩) d dc) (.slice (some ⟨fb, 0, none⟩) d d) (.slice a1 m1 c1), .pt fb (ints fl) 3, .ow (.slice (some ⟨db, 0, none⟩) d dc) 3 1 d (ints dl), .ow (.slice (some ⟨gb, 0, none⟩) k gc) 3 1 k (ints gl), .pt b8 [.int .i64 0, .int .i64 0, .int .i64 0, .int .i64 0, .slice none 0 0, .slice none 0 0, .slice none 0 0, .slice none 0 0] 26]) w' := hs.sp (by repeat constructor)
      have h2 := Sat.dk h1 (K' := K + 40 + 6 * (m + 1)) (by omega)
      have h3 : Sat w (fun x => x = b) (.pt x (ints rl) 3 :: un (rowsK xs) :: [.ow (.slice a1 m1 c1) 23 1 (m + 1) (rowsV xs ++ [.slice (some ⟨x, 0, none⟩) d d]), dkP bs b (K + 40 + 6 * (m + 1)), madeB b9 rad unt clk T (.slice (some ⟨gb, 0, none⟩) k gc) (.slice (some ⟨db, 0, none⟩) d dc) (.slice (some ⟨fb, 0, none⟩) d d) (.slice a1 m1 c1), .pt fb (ints fl) 3, .ow (.slice (some ⟨db, 0, none⟩) d dc) 3 1 d (ints dl), .ow (.slice (some ⟨gb, 0, none⟩) k gc) 3 1 k (ints gl), .pt b8 [.int .i64 0, .int .i64 0, .int .i64 0, .int .i64 0, .slice none 0 0, .slice none 0 0, .slice none 0 0, .slice none 0 0] 26]) w' := h2.sp (by repeat constructor)
      exact h3.un_in.un_perm (List.perm_append_singleton _ _).symm) ?_
    refine hK2 (m + 1, .slice a1 m1 c1, xs ++ [(x, rl)]) _ _ ⟨by simp only; omega, by simp [hxl], fun z hz => ?_⟩ (by simp only; omega) ⟨rfl, rfl, rfl, rfl, rfl, trivial⟩ (Sp.refl _)
    rcases List.mem_append.1 hz with hz | hz
    · exact hxb z hz
    · rw [List.mem_singleton.1 hz]; exact ⟨hrl, hrn, hrs⟩
  obtain rfl : m = d := by omega
  clear hc
  refine q_fact (fun w hs => hs.ownSome (v := nv) (by repeat constructor) (by omega)) ?_
  rintro ⟨nb, nc, rfl⟩
  (refine q_exit _ rfl (q_seq (q_region ?_)); refine ql_loadABa tabOk rfl rfl rfl ?_; refine ql_setA tabOk rfl rfl rfl rfl rfl (by repeat constructor) rfl ?_; refine q_nil (q_ret ?_))
  refine q_fin tabOk rfl (by repeat constructor) fun w hs => ?_
  obtain ⟨sn, rfl⟩ := Int.eq_ofNat_of_zero_le (show 0 ≤ sd by omega)
  have hdl' : dl.length = m := hdl
  have hms : ∀ (q : List Int), (∀ y ∈ q, 0 ≤ y) → q.sum = (T : Int) → ∀ y ∈ q, 0 ≤ y ∧ y ≤ (T : Int) := fun q h1 h2 y hy => ⟨h1 y hy, by have := le_sum q h1 y hy; omega⟩
  refine ⟨([un (rowsK xs), .ow (.slice (some ⟨nb, 0, none⟩) m nc) 23 1 m (rowsV xs), .pt fb (ints fl) 3, .ow (.slice (some ⟨db, 0, none⟩) m dc) 3 1 m (ints dl), .ow (.slice (some ⟨gb, 0, none⟩) k gc) 3 1 k (ints gl)], _, ⟨rad, unt, clk, T, gl, dl, fl, xs.map (·.2)⟩), ⟨rfl, ?_, ?_⟩, ?_⟩
  · intro w' h
    have g1 := h _ (.head _)
    have g2 := h _ (.tail _ (.head _))
    have g3 := h _ (.tail _ (.tail _ (.head _)))
    have g4 := h _ (.tail _ (.tail _ (.tail _ (.head _))))
    have g5 := h _ (.tail _ (.tail _ (.tail _ (.tail _ (.head _)))))
    refine ⟨0, w'.heap.size, some ⟨gb, 0, none⟩, gc, some ⟨db, 0, none⟩, dc, some ⟨fb, 0, none⟩, m, some ⟨nb, 0, none⟩, nc, ?_, ?_, ?_, ?_, ?_⟩
    · simp only [hgl1, hdl', hfl, List.length_map, hxl]
      rfl
    · simp only [hgl1]; exact own_rdI g5 hgl1.symm
    · simp only [hdl']; exact own_rdI g4 hdl'.symm
    · have g3' : Blk w' fb (ints fl) _ := g3
      exact Blk.rdI g3'
    · have := rows_rd' g1 g2
      simpa only [List.length_map, hxl] using this
  · have hmm : ∀ q ∈ xs.map (·.2), q.length = m ∧ (∀ z ∈ q, 0 ≤ z) ∧ q.sum = (T : Int) := fun q hq => by
      obtain ⟨y, hy, rfl⟩ := List.mem_map.1 hq
      exact hxb y hy
    have r1 : k % 2 = 1 := by omega
    have r2 : (gl.length : Int) = 2 * sn + 1 := by omega
    refine ⟨⟨by simp only; omega, by simp only; omega, by simp only; omega, by simp only; omega, by simp only; omega, by simp only; omega, by simp only [List.length_map]; omega, fun q hq => by simp only; rw [(hmm q hq).1, hdl'], by simp only; omega, by simp only; omega, by simp only; omega, by simp only; omega, fun y hy => by have := hdb y hy; omega, fun y hy => by have := hgb y hy; omega, hms fl hfn hfs, fun q hq => hms q (hmm q hq).2.1 (hmm q hq).2.2, by simp only; omega, hfs, fun q hq => (hmm q hq).2.2⟩,
      ⟨by simp only; omega, by simp only; omega, by simp only; omega, by simp only [List.length_map]; omega, fun q hq => by rw [(hmm q hq).1]; omega⟩, by simp only; omega, by simp only; omega, by simp only; omega, by simp only; omega, by simp only; omega, by simp only; omega, hdb, by simp only; omega, fun y hy => (hgb y hy).2⟩
  · have h1 : Sat _ (fun x => x = b) (dkP bs b (K + 40 + 6 * m) :: [un (rowsK xs), .ow (.slice (some ⟨nb, 0, none⟩) m nc) 23 1 m (rowsV xs), .pt fb (ints fl) 3, .ow (.slice (some ⟨db, 0, none⟩) m dc) 3 1 m (ints dl), .ow (.slice (some ⟨gb, 0, none⟩) k gc) 3 1 k (ints gl)]) _ := hs.sp (by repeat constructor)
    have h2 := Sat.dk h1 (K' := K + 100) (by omega)
    have h3 : Sat _ (fun x => x = b) ([un (rowsK xs), .ow (.slice (some ⟨nb, 0, none⟩) m nc) 23 1 m (rowsV xs), .pt fb (ints fl) 3, .ow (.slice (some ⟨db, 0, none⟩) m dc) 3 1 m (ints dl), .ow (.slice (some ⟨gb, 0, none⟩) k gc) 3 1 k (ints gl)] ++ [dkP bs b (K + 100)]) _ := h2.sp (by repeat constructor)
    exact Sat.un_iff.2 h3
-- wind/D8.lean
section
section
variable {K b : Nat} {bs : Value} {w0 w : World} {R : List Ck}
theorem dk_new (hs : Sat w0 M0 (dkP bs b K :: R) w) : w0.heap.size ≤ b := (hs.bd _ (.head _) b rfl).2.resolve_left (fun h => h)
theorem btw0 {l h : Int} (hby : DkB w0 0 w0.heap.size bs) (hs : Sat w0 M0 (dkP bs b K :: R) w) (hl : -1000000 ≤ l) (hh : h ≤ 1000000) (hlh : l ≤ h) (hK : K < 1000000) :
    Ca Try.prog 10 [.pointer (some ⟨b, 0, none⟩), .int .i64 l, .int .i64 h] w fun v w' => ∃ x : Int, (v = .int .i64 x ∧ l ≤ x ∧ x ≤ h) ∧ Sat w (fun x => x = b) [dkP bs b (K + 1)] w' :=
  between_ca l h hl hh hlh K (by omega) w b 0 w0.heap.size _ (hby.keep hs.chg0) (dk_new hs) (hs.all _ (.head _))
theorem drw0 {n : Int} (hby : DkB w0 0 w0.heap.size bs) (hs : Sat w0 M0 (dkP bs b K :: R) w) (hn : 1 ≤ n) (hK : K < 1000000) :
    Ca Try.prog 11 [.pointer (some ⟨b, 0, none⟩), .int .i64 n] w fun v w' => ∃ x : Int, (v = .int .i64 x ∧ 0 ≤ x ∧ x ≤ n - 1) ∧ Sat w (fun x => x = b) [dkP bs b (K + 1)] w' :=
  (drawP_ca n K (by omega) w b 0 w0.heap.size _ (hby.keep hs.chg0) (dk_new hs) (hs.all _ (.head _))).mono fun v w' ⟨x, ⟨h1, h2, h3⟩, h4⟩ => ⟨x, ⟨h1, h2, by omega⟩, h4⟩
theorem made0 {states clicks side : Nat} (hby : DkB w0 0 w0.heap.size bs) (hs : Sat w0 M0 (dkP bs b K :: R) w) (h1 : 1 ≤ states) (h2 : states ≤ 5) (h3 : clicks ≤ 6) (h4 : side ≤ 4) (hK : K < 100000) :
    Ca Try.prog 4 [.pointer (some ⟨b, 0, none⟩), .int .i64 states, .int .i64 clicks, .int .i64 side] w fun v w' => ∃ x : List Ck × List Value × Rg, (v = .agg x.2.1.toArray ∧ OwnR x.1 x.2.1 x.2.2 ∧ MadeR states clicks side x.2.2) ∧ Sat w (fun x => x = b) [un x.1, dkP bs b (K + 100)] w' :=
  made_ca states clicks side h1 h2 h3 h4 K hK w b 0 w0.heap.size _ (hby.keep hs.chg0) (dk_new hs) (hs.all _ (.head _))
end
end
abbrev hitX (r : Rg) (s : Nat) (c : Int) : Int × Int := ratioV (r.group.sum - missS r (r.drifts.getD s 0) c) r.group.sum
structure Turned (r r' : Rg) : Prop where
  n : r'.drifts.length = r.drifts.length
  next : r'.next = r.next
  first : r'.first = r.first
  total : r'.total = r.total
  gsum : r'.group.sum = r.group.sum
  clicks : r'.clicks = r.clicks
  miss : ∀ st c, st < r.drifts.length → missS r' (r'.drifts.getD st 0) (-c) = missS r (r.drifts.getD st 0) c
theorem Turned.symm {r r' : Rg} (h : Turned r r') : Turned r' r :=
  ⟨h.n.symm, h.next.symm, h.first.symm, h.total.symm, h.gsum.symm, h.clicks.symm, fun st c hs => by
    have := h.miss st (-c) (by rw [← h.n]; exact hs)
    rw [Int.neg_neg] at this
    exact this.symm⟩
structure Named (r r' : Rg) (σ : Nat → Nat) : Prop where
  n : r'.drifts.length = r.drifts.length
  nn : r'.next.length = r.next.length
  total : r'.total = r.total
  gsum : r'.group = r.group
  clicks : r'.clicks = r.clicks
  radius : r'.radius = r.radius
  unit : r'.unit = r.unit
  perm : ((List.range r.drifts.length).map σ).Perm (List.range r.drifts.length)
  drift : ∀ s, s < r.drifts.length → r'.drifts.getD (σ s) 0 = r.drifts.getD s 0
  first : ∀ s, s < r.drifts.length → r'.first.getD (σ s) 0 = r.first.getD s 0
  next : ∀ s t, s < r.drifts.length → t < r.drifts.length → (r'.next.getD (σ s) []).getD (σ t) 0 = (r.next.getD s []).getD t 0
theorem Named.lt {r r' : Rg} {σ : Nat → Nat} (h : Named r r' σ) {s : Nat} (hs : s < r.drifts.length) : σ s < r.drifts.length :=
  List.mem_range.1 (h.perm.mem_iff.1 (List.mem_map.2 ⟨s, List.mem_range.2 hs, rfl⟩))
theorem OwnR.form2 {L : List Ck} {cs : List Value} {r : Rg} {w0 w : World} {M : Nat → Prop} {H : List Ck} (h : OwnR L cs r) (hr : r.Right) (hs : Sat w0 M H w) (hm : un L ∈ H) :
    ∃ bg og cg bd od cd bf of_ cf bn on_ cn, cs = [.int .i64 r.radius, .int .i64 r.unit, .int .i64 r.clicks, .int .i64 r.total, .slice (some ⟨bg, og, none⟩) r.group.length cg, .slice (some ⟨bd, od, none⟩) r.drifts.length cd, .slice (some ⟨bf, of_, none⟩) r.first.length cf, .slice (some ⟨bn, on_, none⟩) r.next.length cn] := by
  have h1 := hr.g1
  have h2 := hr.d1
  have h3 := hr.first
  have h4 := hr.next
  obtain ⟨lo, hi, ag, cg, ad, cd, af, cf, an, cn, he, g1, g2, g3, g4⟩ := h.at hs hm
  obtain ⟨_, _, e1, k1⟩ := RdI.outI g1
  obtain ⟨_, _, e2, k2⟩ := RdI.outI g2
  obtain ⟨_, _, e3, k3⟩ := RdI.outI g3
  obtain ⟨_, _, e4, k4⟩ := RdII.outI g4
  cases e1; cases e2; cases e3; cases e4
  obtain ⟨bg, og, rfl⟩ := k1 (by omega)
  obtain ⟨bd, od, rfl⟩ := k2 (by omega)
  obtain ⟨bf, of_, rfl⟩ := k3 (by omega)
  obtain ⟨bn, on_, rfl⟩ := k4 (by omega)
  exact ⟨_, _, _, _, _, _, _, _, _, _, _, _, he⟩
theorem hit_ok (w : World) (cs : List Value) (r : Rg) (s : Nat) (c : Int) (h : RgC w cs r) (hsm : r.Small) (hr : r.Right) (hs : s < r.drifts.length) (hc : -r.clicks ≤ c ∧ c ≤ r.clicks) :
    Ca Try.prog 6 [.agg cs.toArray, .int .i64 s, .int .i64 c] w fun v w' => v = .tuple #[rtV (hitX r s c), .int .i64 0] ∧ Chg [] w w' := by
  have := hit_ca w cs r s c h hsm
  have e : hitV r s c = (hitX r s c, 0) := by
    unfold hitV
    rw [(right_check r).2 hr, inB_iff.2 hc, show inB (s : Int) 0 ((r.drifts.length : Int) - 1) = true from inB_iff.2 (by omega)]
    simp [hitX]
  rw [e] at this
  exact this
/-- The drifts of a range. -/
theorem RgC.dr {w : World} {r : Rg} {ag ad af an : Option Addr} {cg cd cf cn : Nat} (h : RgC w [.int .i64 r.radius, .int .i64 r.unit, .int .i64 r.clicks, .int .i64 r.total, .slice ag r.group.length cg, .slice ad r.drifts.length cd, .slice af r.first.length cf, .slice an r.next.length cn] r) :
    ∃ lo hi, RdI w lo hi (.slice ad r.drifts.length cd) r.drifts := by
  obtain ⟨lo, hi, ag', cg', ad', cd', af', cf', an', cn', he, _, h2, _⟩ := h
  simp only [List.cons.injEq, Value.slice.injEq] at he
  obtain ⟨_, _, _, _, _, ⟨rfl, _, rfl⟩, _⟩ := he
  exact ⟨lo, hi, h2⟩
theorem RgC.drAt {w : World} {r : Rg} {ag af an : Option Addr} {b off cg cd cf cn : Nat} (h : RgC w [.int .i64 r.radius, .int .i64 r.unit, .int .i64 r.clicks, .int .i64 r.total, .slice ag r.group.length cg, .slice (some ⟨b, off, none⟩) r.drifts.length cd, .slice af r.first.length cf, .slice an r.next.length cn] r)
    (k : Nat) (hk : k < r.drifts.length) : w.cell? ⟨b, off + k * 1, none⟩ = some (.int .i64 (r.drifts.getD k 0)) := by
  obtain ⟨lo, hi, h2⟩ := h.dr
  have := RdI.at h2 k hk
  rw [this]
  simp [List.getD_eq_getElem?_getD, hk]
end Go.Proofs.Ytgmmmkmekbiboaa

/- The engine, part B14: a subtree of orders walked once for all the ways that lead there. -/
namespace Go.Eng
open Go Go.RowKit

section
variable {P : Program} {ro : Cx} {n : Nat} {F : Fin} {w0 : World} {M : Nat → Prop} {k : List It} {ops : Array Oper} {e : Env} {H Hq : List Ck}
end
end Go.Eng

/- The engine, part B15: comparisons that are decided at once. -/
namespace Go.Eng
open Go Go.RowKit

section
variable {P : Program} {T : Tab} {ro : Cx} {n : Nat} {F : Fin} {w0 : World} {M : Nat → Prop} {k : List It} {ops : Array Oper} {rest : List Oper} {e : Env} {H Hq : List Ck}
theorem bin_lssT {a b : Int} (h : a < b) : binV .lss .i64 a b = some (.bool true) := by simp [binV]; omega
theorem ql_lssT (hT : T.Ok P) {d : Nat} {t t' : Nat} {x y : Operand} {a b : Int} {ty : TypeId} {pos : String} {af : Array Edge} (hx : opv e x = some (.int .i64 a)) (hy : opv e y = some (.int .i64 b)) (hd : Nat.blt d n = true) (hp : a < b)
    (h : QL P ro n F w0 M k ops rest ((d, .bool true) :: e) H) : QL P ro n F w0 M k ops (⟨some d, .binOp .lss t x y t', ty, pos, af, none⟩ :: rest) e H := ql_pure hT ((evp_arith hx hy).trans (bin_lssT hp)) hd h
theorem qf_lssT (hT : T.Ok P) {d : Nat} {t t' : Nat} {x y : Operand} {a b : Int} {ty : TypeId} {pos : String} {af : Array Edge} (hx : opv e x = some (.int .i64 a)) (hy : opv e y = some (.int .i64 b)) (hd : Nat.blt d n = true) (hp : a < b)
    (h : QF P ro n F w0 M k ops Hq rest ((d, .bool true) :: e) H) : QF P ro n F w0 M k ops Hq (⟨some d, .binOp .lss t x y t', ty, pos, af, none⟩ :: rest) e H := qf_pure hT ((evp_arith hx hy).trans (bin_lssT hp)) rfl hd h
theorem bin_lssF {a b : Int} (h : ¬ a < b) : binV .lss .i64 a b = some (.bool false) := by simp [binV]; omega
theorem ql_lssF (hT : T.Ok P) {d : Nat} {t t' : Nat} {x y : Operand} {a b : Int} {ty : TypeId} {pos : String} {af : Array Edge} (hx : opv e x = some (.int .i64 a)) (hy : opv e y = some (.int .i64 b)) (hd : Nat.blt d n = true) (hp : ¬ a < b)
    (h : QL P ro n F w0 M k ops rest ((d, .bool false) :: e) H) : QL P ro n F w0 M k ops (⟨some d, .binOp .lss t x y t', ty, pos, af, none⟩ :: rest) e H := ql_pure hT ((evp_arith hx hy).trans (bin_lssF hp)) hd h
theorem qf_lssF (hT : T.Ok P) {d : Nat} {t t' : Nat} {x y : Operand} {a b : Int} {ty : TypeId} {pos : String} {af : Array Edge} (hx : opv e x = some (.int .i64 a)) (hy : opv e y = some (.int .i64 b)) (hd : Nat.blt d n = true) (hp : ¬ a < b)
    (h : QF P ro n F w0 M k ops Hq rest ((d, .bool false) :: e) H) : QF P ro n F w0 M k ops Hq (⟨some d, .binOp .lss t x y t', ty, pos, af, none⟩ :: rest) e H := qf_pure hT ((evp_arith hx hy).trans (bin_lssF hp)) rfl hd h
theorem bin_leqT {a b : Int} (h : a ≤ b) : binV .leq .i64 a b = some (.bool true) := by simp [binV]; omega
theorem ql_leqT (hT : T.Ok P) {d : Nat} {t t' : Nat} {x y : Operand} {a b : Int} {ty : TypeId} {pos : String} {af : Array Edge} (hx : opv e x = some (.int .i64 a)) (hy : opv e y = some (.int .i64 b)) (hd : Nat.blt d n = true) (hp : a ≤ b)
    (h : QL P ro n F w0 M k ops rest ((d, .bool true) :: e) H) : QL P ro n F w0 M k ops (⟨some d, .binOp .leq t x y t', ty, pos, af, none⟩ :: rest) e H := ql_pure hT ((evp_arith hx hy).trans (bin_leqT hp)) hd h
theorem bin_leqF {a b : Int} (h : ¬ a ≤ b) : binV .leq .i64 a b = some (.bool false) := by simp [binV]; omega
theorem ql_leqF (hT : T.Ok P) {d : Nat} {t t' : Nat} {x y : Operand} {a b : Int} {ty : TypeId} {pos : String} {af : Array Edge} (hx : opv e x = some (.int .i64 a)) (hy : opv e y = some (.int .i64 b)) (hd : Nat.blt d n = true) (hp : ¬ a ≤ b)
    (h : QL P ro n F w0 M k ops rest ((d, .bool false) :: e) H) : QL P ro n F w0 M k ops (⟨some d, .binOp .leq t x y t', ty, pos, af, none⟩ :: rest) e H := ql_pure hT ((evp_arith hx hy).trans (bin_leqF hp)) hd h
theorem bin_gtrT {a b : Int} (h : b < a) : binV .gtr .i64 a b = some (.bool true) := by simp [binV]; omega
theorem ql_gtrT (hT : T.Ok P) {d : Nat} {t t' : Nat} {x y : Operand} {a b : Int} {ty : TypeId} {pos : String} {af : Array Edge} (hx : opv e x = some (.int .i64 a)) (hy : opv e y = some (.int .i64 b)) (hd : Nat.blt d n = true) (hp : b < a)
    (h : QL P ro n F w0 M k ops rest ((d, .bool true) :: e) H) : QL P ro n F w0 M k ops (⟨some d, .binOp .gtr t x y t', ty, pos, af, none⟩ :: rest) e H := ql_pure hT ((evp_arith hx hy).trans (bin_gtrT hp)) hd h
theorem qf_gtrT (hT : T.Ok P) {d : Nat} {t t' : Nat} {x y : Operand} {a b : Int} {ty : TypeId} {pos : String} {af : Array Edge} (hx : opv e x = some (.int .i64 a)) (hy : opv e y = some (.int .i64 b)) (hd : Nat.blt d n = true) (hp : b < a)
    (h : QF P ro n F w0 M k ops Hq rest ((d, .bool true) :: e) H) : QF P ro n F w0 M k ops Hq (⟨some d, .binOp .gtr t x y t', ty, pos, af, none⟩ :: rest) e H := qf_pure hT ((evp_arith hx hy).trans (bin_gtrT hp)) rfl hd h
theorem bin_gtrF {a b : Int} (h : ¬ b < a) : binV .gtr .i64 a b = some (.bool false) := by simp [binV]; omega
theorem ql_gtrF (hT : T.Ok P) {d : Nat} {t t' : Nat} {x y : Operand} {a b : Int} {ty : TypeId} {pos : String} {af : Array Edge} (hx : opv e x = some (.int .i64 a)) (hy : opv e y = some (.int .i64 b)) (hd : Nat.blt d n = true) (hp : ¬ b < a)
    (h : QL P ro n F w0 M k ops rest ((d, .bool false) :: e) H) : QL P ro n F w0 M k ops (⟨some d, .binOp .gtr t x y t', ty, pos, af, none⟩ :: rest) e H := ql_pure hT ((evp_arith hx hy).trans (bin_gtrF hp)) hd h
theorem qf_gtrF (hT : T.Ok P) {d : Nat} {t t' : Nat} {x y : Operand} {a b : Int} {ty : TypeId} {pos : String} {af : Array Edge} (hx : opv e x = some (.int .i64 a)) (hy : opv e y = some (.int .i64 b)) (hd : Nat.blt d n = true) (hp : ¬ b < a)
    (h : QF P ro n F w0 M k ops Hq rest ((d, .bool false) :: e) H) : QF P ro n F w0 M k ops Hq (⟨some d, .binOp .gtr t x y t', ty, pos, af, none⟩ :: rest) e H := qf_pure hT ((evp_arith hx hy).trans (bin_gtrF hp)) rfl hd h
theorem bin_eqlT {a b : Int} (h : a = b) : binV .eql .i64 a b = some (.bool true) := by simp [binV]; omega
theorem ql_eqlT (hT : T.Ok P) {d : Nat} {t t' : Nat} {x y : Operand} {a b : Int} {ty : TypeId} {pos : String} {af : Array Edge} (hx : opv e x = some (.int .i64 a)) (hy : opv e y = some (.int .i64 b)) (hd : Nat.blt d n = true) (hp : a = b)
    (h : QL P ro n F w0 M k ops rest ((d, .bool true) :: e) H) : QL P ro n F w0 M k ops (⟨some d, .binOp .eql t x y t', ty, pos, af, none⟩ :: rest) e H := ql_pure hT ((evp_arith hx hy).trans (bin_eqlT hp)) hd h
theorem bin_eqlF {a b : Int} (h : a ≠ b) : binV .eql .i64 a b = some (.bool false) := by simp [binV]; omega
theorem ql_eqlF (hT : T.Ok P) {d : Nat} {t t' : Nat} {x y : Operand} {a b : Int} {ty : TypeId} {pos : String} {af : Array Edge} (hx : opv e x = some (.int .i64 a)) (hy : opv e y = some (.int .i64 b)) (hd : Nat.blt d n = true) (hp : a ≠ b)
    (h : QL P ro n F w0 M k ops rest ((d, .bool false) :: e) H) : QL P ro n F w0 M k ops (⟨some d, .binOp .eql t x y t', ty, pos, af, none⟩ :: rest) e H := ql_pure hT ((evp_arith hx hy).trans (bin_eqlF hp)) hd h
theorem bin_neqT {a b : Int} (h : a ≠ b) : binV .neq .i64 a b = some (.bool true) := by simp [binV]; omega
theorem ql_neqT (hT : T.Ok P) {d : Nat} {t t' : Nat} {x y : Operand} {a b : Int} {ty : TypeId} {pos : String} {af : Array Edge} (hx : opv e x = some (.int .i64 a)) (hy : opv e y = some (.int .i64 b)) (hd : Nat.blt d n = true) (hp : a ≠ b)
    (h : QL P ro n F w0 M k ops rest ((d, .bool true) :: e) H) : QL P ro n F w0 M k ops (⟨some d, .binOp .neq t x y t', ty, pos, af, none⟩ :: rest) e H := ql_pure hT ((evp_arith hx hy).trans (bin_neqT hp)) hd h
theorem bin_neqF {a b : Int} (h : a = b) : binV .neq .i64 a b = some (.bool false) := by simp [binV]; omega
theorem ql_neqF (hT : T.Ok P) {d : Nat} {t t' : Nat} {x y : Operand} {a b : Int} {ty : TypeId} {pos : String} {af : Array Edge} (hx : opv e x = some (.int .i64 a)) (hy : opv e y = some (.int .i64 b)) (hd : Nat.blt d n = true) (hp : a = b)
    (h : QL P ro n F w0 M k ops rest ((d, .bool false) :: e) H) : QL P ro n F w0 M k ops (⟨some d, .binOp .neq t x y t', ty, pos, af, none⟩ :: rest) e H := ql_pure hT ((evp_arith hx hy).trans (bin_neqF hp)) hd h
end
end Go.Eng

/- The engine, part B16: shifts, and the last bit. -/
namespace Go.Eng
open Go Go.RowKit

section
variable {P : Program} {ro : Cx} {n : Nat} {F : Fin} {w0 : World} {M : Nat → Prop} {k : List It} {ops : Array Oper} {rest : List Oper} {e : Env} {H Hq : List Ck}
end
end Go.Eng

/- Engine 2: a block of numbers with room behind them. -/
namespace Go.Eng
open Go Go.RowKit

section
variable {P : Program} {T : Tab} {ro : Cx} {n : Nat} {F : Fin} {w0 : World} {M : Nat → Prop} {k : List It} {ops : Array Oper} {rest : List Oper} {e : Env} {H Hq : List Ck}
end
end Go.Eng

/- Engine 2: a region that draws, with any marks. -/
namespace Go.Eng
open Go Go.RowKit

section
variable {P : Program} {ro : Cx} {n : Nat} {F : Fin} {w0 : World} {M : Nat → Prop} {k : List It} {ops : Array Oper} {l : List Oper} {e : Env} {H H1 H2 : List Ck} {bs : List Bool}
structure QB (P : Program) (ro : Cx) (n : Nat) (F : Fin) (w0 : World) (M : Nat → Prop) (k : List It) (ops : Array Oper) (H1 H2 : List Ck) (bs : List Bool) (l : List Oper) (e : Env) (H : List Ck) : Prop where
  h : ∀ w, Sat w0 M H w → YB P ro n F k ops (Sat w0 M H1) (Sat w0 M H2) bs l e w
theorem q_drawB {id : Nat} (bs : List Bool) (Hq2 Hm : List Ck) (hH : Sp H (Hm ++ Hq2)) (hm : P.follows .mixedOrders = true) (hB : flB l.toArray = true) (hbs : flagB l.toArray bs = true)
    (h : QB P ro n F w0 M k l.toArray H Hq2 bs l e H) : Q P ro n F w0 M (.code (.region id l.toArray true) :: k) e H := .mk fun w hs a hf hd => by
  have hs1 : Sat w0 M H { w with drawn := w.drawn + 1 } := hs.keep (Chg.drew (N := []) w)
  have h12 : ∀ w, Sat w0 M H w → Sat w0 M Hq2 w := fun w hw => (hw.sp hH).right
  refine wpIn_region_fl2 hm (flB_spec hB) (K := fun a w => S P ro.ro F k .normal a w) (Cq := flagC (Sat w0 M H) (Sat w0 M Hq2) bs) (Ce := flagC (Sat w0 M H) (Sat w0 M Hq2) bs)
    (fun i j oi oj => flagB_spec hbs h12 i j oi oj) (fun i => ?_) (fun _ _ h => h) ?_
  · unfold flagC
    cases bs.getD i false
    · exact h12 _ hs1
    · exact hs1
  · have h2 := wpFlB_eq (P := P) (ops := l.toArray) (C1 := Sat w0 M H) (C2 := Sat w0 M Hq2) (bs := bs) (K := fun a w => S P ro.ro F k .normal a w) l 0 (by simp)
    rw [show List.range l.toArray.size = List.range' 0 l.length from by simp [List.range_eq_range'], h2]
    exact h.h _ hs1 a hf hd
theorem qb_T (c : Nat) (hb : (bs.take c).all (fun x => x == true) = true) (hc : Nat.ble c bs.length = true) (hH : Sp H H1)
    (h : ∀ K1 : Act → World → Prop, (∀ e' H', QB P ro n F w0 M k ops H1 H2 (bs.drop c) (l.drop c) e' H' → Q P ro n F w0 M (.k K1 :: k) e' H') → QF P ro n F w0 M (.k K1 :: k) ops H1 (l.take c) e []) :
    QB P ro n F w0 M k ops H1 H2 bs l e H := .mk fun w hs => by
  refine yb_seg true c hb (Nat.le_of_ble_eq_true hc) (fun K1 hK1 => ?_)
  have h3 := h K1 (fun e' H' hq => .mk fun w' hw' a' hf' hd' => hK1 e' w' (hq.h w' hw') a' hf' hd')
  exact h3.h w (hs.sp hH)
theorem qb_F (c : Nat) (Hm : List Ck) (hb : (bs.take c).all (fun x => x == false) = true) (hc : Nat.ble c bs.length = true) (hH : Sp H (Hm ++ H2))
    (h : ∀ K1 : Act → World → Prop, (∀ e' H', QB P ro n F w0 M k ops H1 H2 (bs.drop c) (l.drop c) e' H' → Q P ro n F w0 M (.k K1 :: k) e' H') → QF P ro n F w0 M (.k K1 :: k) ops H2 (l.take c) e Hm) :
    QB P ro n F w0 M k ops H1 H2 bs l e H := .mk fun w hs => by
  refine yb_seg false c hb (Nat.le_of_ble_eq_true hc) (fun K1 hK1 => ?_)
  have h3 := h K1 (fun e' H' hq => .mk fun w' hw' a' hf' hd' => hK1 e' w' (hq.h w' hw') a' hf' hd')
  exact h3.h w (hs.sp hH)
theorem qb_nil {bs : List Bool} (h : Q P ro n F w0 M k e H) : QB P ro n F w0 M k ops H1 H2 bs [] e H := .mk fun w hs => yb_nil (h.h w hs)
end
end Go.Eng

/- Engine 2: changing an element of a slice of our own, in a region that draws. -/
namespace Go.Eng
open Go Go.RowKit

section
variable {P : Program} {T : Tab}
variable {ro : Cx} {n : Nat} {F : Fin} {w0 : World} {M : Nat → Prop} {k : List It} {ops : Array Oper} {rest : List Oper} {e : Env} {H Hq : List Ck}
theorem qf_storeW (hT : T.Ok P) {t : Nat} {x y : Operand} {g off m c et : Nat} {xs : List Value} {u : Value} {H' : List Ck} {ty : TypeId} {pos : String} {af : Array Edge} (i : Nat)
    (hx : opv e x = some (.pointer (some ⟨g, off, none⟩))) (hy : opv e y = some u) (h1 : has T.one t = true) (hv : oneV u = true)
    (hr : Rp H (.ow (.slice (some ⟨g, 0, none⟩) m c) et 1 m xs) (.ow (.slice (some ⟨g, 0, none⟩) m c) et 1 m (xs.set i u)) H') (ho : off = i) (hi : i < xs.length)
    (h : QF P ro n F w0 M k ops Hq rest e H') : QF P ro n F w0 M k ops Hq (⟨none, .store t x y, ty, pos, af, none⟩ :: rest) e H := .mk fun w hs => by
  subst ho
  obtain ⟨hl, h2⟩ : w.ownsRow 0 et 1 (.slice (some ⟨g, 0, none⟩) m c) m xs := hs.mem (hr.app Hq).mem
  rcases h2 with ⟨hv', _⟩ | ⟨g', cap, cur, hv', hg, hh, hnc, hcm, hcs, ht⟩
  · cases hv'
  cases hv'
  have hb : Blk w g cur.toList et := by simpa [Blk] using hh
  have hcl : off < cur.toList.length := by
    have := congrArg List.length ht
    simp at this
    simp
    omega
  refine yf_store1 hT hx hy h1 hv hb hcl (fun w' hc _ hb' => ?_)
  have hs' := hs.rep (hr.app Hq) hc (fun k hk => by
    obtain rfl : k = g := by simpa using hk
    rfl) (by
    refine ⟨by simpa using hl, .inr ⟨g, c, (cur.toList.set off u).toArray, rfl, hg, by simpa [Blk] using hb', hnc, hcm, by simpa using hcs, ?_⟩⟩
    simp only [List.toList_toArray]
    rw [List.take_set, ht]) (fun b hb2 => by
    have : b = g := by simpa [Ck.D, Value.ownBlock] using hb2.symm
    subst this
    exact ⟨.inl rfl, hb'.lt⟩)
  exact ⟨hs'.right, h.h w' hs'⟩
theorem own_lt {w : World} {et g m c : Nat} {xs : List Value} (h : w.ownsRow 0 et 1 (.slice (some ⟨g, 0, none⟩) m c) m xs) : g < w.heap.size := by
  obtain ⟨hl, h2⟩ := h
  rcases h2 with ⟨hv', _⟩ | ⟨g', cap, cur, hv', hg, hh, hnc, hcm, hcs, ht⟩
  · cases hv'
  cases hv'
  have hb : Blk w g cur.toList et := by simpa [Blk] using hh
  exact hb.lt
theorem Sat.own0 {w : World} {et g m c : Nat} {xs : List Value} (h : w.ownsRow 0 et 1 (.slice (some ⟨g, 0, none⟩) m c) m xs) : Sat w (fun x => x = g) [.ow (.slice (some ⟨g, 0, none⟩) m c) et 1 m xs] w :=
  ⟨ChgP.refl _ _, by simpa [Ck.p] using h, .cons (by simp) .nil, fun ck hc x hx => by
    obtain rfl : ck = .ow (.slice (some ⟨g, 0, none⟩) m c) et 1 m xs := by simpa using hc
    obtain rfl : x = g := by simpa [Ck.D, Value.ownBlock] using hx.symm
    exact ⟨own_lt h, .inl rfl⟩⟩
end
end Go.Eng

/- Engine, part B20: two Bools compared. -/
namespace Go.Eng
open Go Go.RowKit

section
variable {P : Program} {T : Tab} {ro : Cx} {n : Nat} {F : Fin} {w0 : World} {M : Nat → Prop} {k : List It} {ops : Array Oper} {rest : List Oper} {e : Env} {H Hq : List Ck}
def boolB (P : Program) (t : Nat) : Bool := match P.underlying t with | some .bool => true | _ => false
end
end Go.Eng

/- The engine, part B21: ranges over functions that hand out memory of their own. -/
namespace Go.Eng
open Go Go.RowKit

section
variable {P : Program} {T : Tab}
variable {ro : Cx} {n : Nat} {F : Fin} {k : List It} {ops : Array Oper} {rest : List Oper} {e : Env} {w0 : World} {M : Nat → Prop} {H Hq : List Ck}

/-- At the world w the function gf, with what it has captured, is an iterator over xs, whose elements are handed out with pieces of memory; the body changes nothing but what lies in D, and these pieces. -/
def ItOkP {α β : Type} (P : Program) (gf : Nat) (lb : List Value) (enc : α → List Value) (val : α → β) (pc : α → List Ck) (xs : List β) (w : World) (D : Nat → Prop) : Prop :=
  ∀ (fv : Value) (σ : Type) (L : σ → List Ck) (I : List β → σ → Prop) (E : σ → Prop) (s0 : σ), oneV fv = true → I [] s0 → (∀ b, DL (L s0) b → D b) → Sat w (DL (L s0)) (L s0) w →
    (∀ pre x post s w', xs = pre ++ val x :: post → I pre s → Sat w (DL (L s0)) (L s ++ pc x) w' → CaF P fv (enc x) w' (fun v w'' => ∃ s', ((v = .bool true ∧ I (pre ++ [val x]) s') ∨ (v = .bool false ∧ E s')) ∧ Sat w' (DL (L s ++ pc x)) (L s') w'')) →
    Ca P gf (fv :: lb) w (fun _ w' => ∃ s', (I xs s' ∨ E s') ∧ Sat w (DL (L s0)) (L s') w')

end
end Go.Eng

/- The engine, part B22: rows made, copied, cut at the front; append to a slice without room. -/
namespace Go.Eng
open Go Go.RowKit

section
variable {P : Program} {T : Tab} {ro : Cx} {n : Nat} {F : Fin} {w0 : World} {M : Nat → Prop} {k : List It} {ops : Array Oper} {rest : List Oper} {e : Env} {H Hq : List Ck}
theorem oneV_cell {v : Value} (h : oneV v = true) : v.oneCell' = true := by
  cases v <;> first | rfl | simp [oneV] at h

/-- make of rows. -/
theorem made_len (z : Array Value) (m : Nat) : (madeCells z m).size = m := by simp [madeCells]
theorem ql_makeR {d t et m size bytes : Nat} {z : Value} {x y : Operand} {ty : TypeId} {pos : String} {af : Array Edge} (hS : SlT P t et size bytes z) (hx : opv e x = some (.int .i64 m)) (hy : opv e y = some (.int .i64 m)) (hd : Nat.blt d n = true) (hm : m * size ≤ 1000000) (hm2 : m * bytes ≤ 1000000000) (hm3 : m ≤ 1000000)
    (h : ∀ b cs, cs.length = m * size → QL P ro n F w0 M k ops rest ((d, .slice (some ⟨b, 0, none⟩) m m) :: e) (.pt b cs et :: H)) :
    QL P ro n F w0 M k ops (⟨some d, .makeSlice t x y, ty, pos, af, none⟩ :: rest) e H := .mk fun w hs => by
  obtain ⟨ht, hi', hzs, hsz⟩ := hS
  cases hinf : P.info? et with
  | none => simp [hinf] at hi'
  | some i =>
    simp [hinf] at hi'
    obtain ⟨hz, hsize, hby⟩ := hi'
    subst hsize
    subst hby
    have hr := run_makeSlice (P := P) w t et i _ ht hinf hz .i64 .i64 m m (by omega) (Int.le_refl _) (by simp; omega) (by rw [Int.mul_comm]; omega) (by omega)
    refine yl_val (w' := w.alloc (.cells (madeCells z.cells (m * i.size)) et)) (by simp) hd (fun ac hf => ?_) ((h w.heap.size (madeCells z.cells (m * i.size)).toList (by simp [made_len])).h _ (hs.addPt (alloc_chg _ _) (by simp) (by have := alloc_blk w (madeCells z.cells (m * i.size)) et; simpa using this)))
    simp only [execOp, hf.op hx, hf.op hy]
    simp at hr
    simp [hr]

/-- copy of rows. -/
theorem run_copyR {w : World} {dT sT et sz m o c lo hi g : Nat} {v : Value} {cur news : List Value} {bt : TypeId} (ty : TypeId) (hu : P.underlying dT = some (.slice et)) (hsz : (P.info? et).map (·.size) = some sz)
    (hb : Blk w g cur bt) (hrd : Rd w lo hi v sz m news) (hfit : o + news.length ≤ cur.length) (h1 : ∀ x ∈ news, oneV x = true) :
    ∃ w', (Builtin.copy_ #[dT, sT] ty #[.slice (some ⟨g, o, none⟩) m c, v]).run P w = .ok (goInt m) w' ∧ Chg [g] w w' ∧ Blk w' g (cur.take o ++ news ++ cur.drop (o + news.length)) bt := by
  obtain ⟨hl, hr⟩ := hrd
  cases hq : P.info? et with
  | none => simp [hq] at hsz
  | some i =>
    have hi : i.size = sz := by simpa [hq] using hsz
    subst hi
    have key : ∀ (a : Addr) (cap : Nat), (∀ j x, news[j]? = some x → w.cell? (a.add j) = some x) → ∃ w', (Builtin.copy_ #[dT, sT] ty #[.slice (some ⟨g, o, none⟩) m c, .slice (some a) m cap]).run P w = .ok (goInt m) w' ∧ Chg [g] w w' ∧ Blk w' g (cur.take o ++ news ++ cur.drop (o + news.length)) bt := by
      intro a cap hc
      have hfc := run_firstCells_some (P := P) w i.size m a m cap news hl hc
      have hst : (storeCells ⟨g, o, none⟩ news).run P w = .ok () (w.setRow g (cur.take o ++ news ++ cur.drop (o + news.length)).toArray) := by
        have := run_storeCells_at P g o bt news 0 cur.toArray w hb (by simpa using hfit) (fun x hx => oneV_cell (h1 x hx))
        simpa using this
      refine ⟨w.setRow g (cur.take o ++ news ++ cur.drop (o + news.length)).toArray, ?_, ⟨rfl, rfl, rfl, by simp [World.setRow], fun k _ hk => setRow_other w g k _ (by simpa using hk)⟩, setRow_heap w g _ _ bt (0, 0) hb⟩
      simp [Builtin.copy_, run_underlying hu, Builtin.lenOf, sizeOf, typeInfo, hq, hfc, hst]
    rcases hr with ⟨rfl | ⟨a, cap, rfl⟩, rfl⟩ | ⟨b, off, cap, rfl, _, hc⟩
    · have hn : news = [] := List.eq_nil_of_length_eq_zero (by simpa using hl)
      subst hn
      exact ⟨w, run_copy_nil P w dT sT ty et _ _ _ hu (by simp [hq]), Chg.refl _ _, by simpa using hb⟩
    · have hn : news = [] := List.eq_nil_of_length_eq_zero (by simpa using hl)
      subst hn
      exact key a cap (by simp)
    · refine key _ _ (fun j x hj => ?_)
      have hjl := (List.getElem?_eq_some_iff.1 hj).1
      rw [Addr.add_lit, hc j hjl, hj]
theorem ql_copyR {d dT sT et sz m c o g : Nat} {x y : Operand} {v : Value} {bt : TypeId} {cur news : List Value} {H' : List Ck} {ty : TypeId} {pos : String} {af : Array Edge} (hu : P.underlying dT = some (.slice et)) (hsz : (P.info? et).map (·.size) = some sz)
    (hx : opv e x = some (.slice (some ⟨g, o, none⟩) m c)) (hy : opv e y = some v) (hd : Nat.blt d n = true) (hr : Rp H (.pt g cur bt) (.pt g (cur.take o ++ news ++ cur.drop (o + news.length)) bt) H') (hfit : o + news.length ≤ cur.length) (h1 : ∀ x ∈ news, oneV x = true)
    (hrd : ∀ w, Sat w0 M H w → ∃ lo hi, Rd w lo hi v sz m news) (h : QL P ro n F w0 M k ops rest ((d, goInt m) :: e) H') :
    QL P ro n F w0 M k ops (⟨some d, .call { callee := .builtin .copy, args := [x, y].toArray, argTypes := [dT, sT].toArray }, ty, pos, af, none⟩ :: rest) e H := .mk fun w hs => by
  obtain ⟨lo, hi, hrd⟩ := hrd w hs
  obtain ⟨w', hrun, hc, hb⟩ := run_copyR (P := P) (sT := sT) ty hu hsz (hs.blk hr.mem) hrd hfit h1 (c := c)
  refine yl_val (w' := w') (by simp) hd (fun ac hf => ?_) (h.h w' (hs.pt hr hc hb))
  simp [execOp, resolve, invoke, builtin, hf.op hx, hf.op hy, hrun]

/-- x[l:] and x[:h]. -/
theorem elem_slice {t et : Nat} (hu : P.underlying t = some (.slice et)) : P.elem t = et := by simp [Program.elem, hu]
theorem run_sliceFrom {t et sz : Nat} (hu : P.underlying t = some (.slice et)) (hsz : (P.info? et).map (·.size) = some sz) {a : Option Addr} {len cap : Nat} {kl : IntKind} {l : Int} (h0 : 0 ≤ l) (h1 : l ≤ len) (w : World) :
    (Instr.sliceAt t (.slice a len cap) (some (.int kl l)) none none).run P w = .ok (.slice (if cap = l.toNat then a else a.map (·.add (l.toNat * sz))) (len - l.toNat) (cap - l.toNat)) w := by
  have he := elem_slice hu
  cases hq : P.info? et with
  | none => simp [hq] at hsz
  | some i =>
    have hi : i.size = sz := by simpa [hq] using hsz
    subst hi
    rw [run_sliceAt_slice w t _ _ _ _ (by rw [he]; exact hu), run_slice_l w t a len cap (by rw [he]; exact hu) kl l h0 h1, he]
    simp [sizeOf, typeInfo, hq, sliced]
theorem ql_sliceFrom {d t et sz : Nat} {x lo : Operand} {a : Option Addr} {len cap : Nat} {kl : IntKind} {l : Int} {ty : TypeId} {pos : String} {af : Array Edge} (hu : P.underlying t = some (.slice et)) (hsz : (P.info? et).map (·.size) = some sz)
    (hx : opv e x = some (.slice a len cap)) (hl : opv e lo = some (.int kl l)) (hd : Nat.blt d n = true) (h0 : 0 ≤ l) (h1 : l ≤ len)
    (h : QL P ro n F w0 M k ops rest ((d, .slice (if cap = l.toNat then a else a.map (·.add (l.toNat * sz))) (len - l.toNat) (cap - l.toNat)) :: e) H) : QL P ro n F w0 M k ops (⟨some d, .slice t x (some lo) none none, ty, pos, af, none⟩ :: rest) e H := .mk fun w hw =>
  yl_val (by simp) hd (fun ac hf => by
    simp only [execOp, hf.op hx]
    simp [hf.op hl, run_sliceFrom hu hsz h0 h1 w]) (h.h w hw)
/-- append to a slice without room. -/
theorem run_appF {w : World} {t et size bytes : Nat} {z : Value} (hS : SlT P t et size bytes z) {a : Option Addr} {u : Value} {m q lo hi lo2 hi2 : Nat} {xs news : List Value} (ty : TypeId) (hv : Rd w lo2 hi2 (.slice a m m) size m xs) (hrd : Rd w lo hi u size q news) (h1 : ∀ c ∈ news, oneV c = true)
    (hq : 0 < q) (hm : (m + q) * bytes ≤ 140737488355328) (hm2 : m + q ≤ 140737488355328) :
    ∃ v' w', (Builtin.append_ #[t, t] ty #[.slice a m m, u]).run P w = .ok v' w' ∧ w'.ownsRow 0 et size v' (m + q) (xs ++ news) ∧ Chg [] w w' ∧ (∀ b, v'.ownBlock = some b → w.heap.size ≤ b) := by
  have hnil : a = none → m = 0 := by
    rintro rfl
    rcases hv.2 with ⟨_, h⟩ | ⟨b, off, cap, h, _⟩
    · exact h
    · cases h
  cases a with
  | none =>
    obtain rfl := hnil rfl
    obtain rfl : xs = [] := List.eq_nil_of_length_eq_zero (by simpa using hv.1)
    obtain ⟨v', w', h2, h3, h4, h5⟩ := run_app (P := P) hS ty (World.ownsRow_nil w 0 et size) hrd h1 (by simpa using hm) (by simpa using hm2)
    refine ⟨v', w', h2, h3, ?_, fun b hb => ?_⟩
    · simpa [Value.ownBlock] using h4
    · rcases h5 b hb with h6 | h6
      · simp [Value.ownBlock] at h6
      · exact h6
  | some ad =>
    obtain ⟨ht, hi', hzs, hsz⟩ := hS
    cases hinf : P.info? et with
    | none => simp [hinf] at hi'
    | some i =>
      simp [hinf] at hi'
      obtain ⟨hz, hsize, hby⟩ := hi'
      subst hsize
      subst hby
      obtain ⟨hl, hr⟩ := hrd
      obtain ⟨ad2, cap2, rfl, hc⟩ : ∃ a2 cap, u = .slice (some a2) q cap ∧ ∀ j c, news[j]? = some c → w.cell? (a2.add j) = some c := by
        rcases hr with ⟨_, rfl⟩ | ⟨b, off, cap, hu, _, hc⟩
        · omega
        · refine ⟨_, cap, hu, fun j c hj => ?_⟩
          have hjl := (List.getElem?_eq_some_iff.1 hj).1
          rw [Addr.add_lit, hc j hjl, hj]
      have holds : ∀ j c, xs[j]? = some c → w.cell? (ad.add j) = some c := by
        intro j c hj
        have hjl := (List.getElem?_eq_some_iff.1 hj).1
        rcases hv.2 with ⟨_, h⟩ | ⟨b, off, cap, h, _, hc⟩
        · rw [h] at hv
          have := hv.1
          omega
        · cases h
          rw [Addr.add_lit, hc j hjl, hj]
      have hlen : (xs ++ news).length = (m + q) * i.size := by rw [List.length_append, hv.1, hl, Nat.add_mul]
      have hrun := run_append_grow (P := P) w t ty et i z ht hinf hz ad m m xs hv.1 holds ad2 q cap2 news hl hc (by omega) (by omega) (growslice_fits (by omega) (by omega))
      have hge := grownCap_ge w (m + q) m et
      have hcm : grownCap w (m + q) m et ≤ maxLen := grownCap_le_maxLen w (m + q) m et (by simp only [maxLen]; omega)
      refine ⟨_, _, hrun, ⟨hlen, .inr ⟨w.heap.size, _, _, rfl, Nat.zero_le _, heap_alloc_new w.drew _, hge, hcm, ?_, ?_⟩⟩, (Chg.drew (N := []) w).trans (alloc_chg _ _), fun b hb => ?_⟩
      · simp only [Array.size_append, List.size_toArray, size_zeroCells, hzs, hv.1, hl, ← Nat.add_mul]
        congr 1
        omega
      · simp only [Array.toList_append, List.append_assoc]
        rw [← List.append_assoc, ← hlen]
        exact List.take_left
      · simp [Value.ownBlock] at hb
        omega
theorem ql_appendF {d t et size bytes : Nat} {z : Value} (hS : SlT P t et size bytes z) {x y : Operand} {a : Option Addr} {u : Value} {m q : Nat} {xs news : List Value} {ty : TypeId} {pos : String} {af : Array Edge}
    (hx : opv e x = some (.slice a m m)) (hy : opv e y = some u) (hd : Nat.blt d n = true) (hv : ∀ w, Sat w0 M H w → ∃ lo hi, Rd w lo hi (.slice a m m) size m xs) (hrd : ∀ w, Sat w0 M H w → ∃ lo hi, Rd w lo hi u size q news) (h1 : ∀ c ∈ news, oneV c = true)
    (hq : 0 < q) (hm : (m + q) * bytes ≤ 140737488355328) (hm2 : m + q ≤ 140737488355328)
    (h : ∀ v', QL P ro n F w0 M k ops rest ((d, v') :: e) (.ow v' et size (m + q) (xs ++ news) :: H)) :
    QL P ro n F w0 M k ops (⟨some d, .call { callee := .builtin .append, args := [x, y].toArray, argTypes := [t, t].toArray }, ty, pos, af, none⟩ :: rest) e H := .mk fun w hs => by
  obtain ⟨lo, hi, hrd⟩ := hrd w hs
  obtain ⟨lo2, hi2, hv⟩ := hv w hs
  obtain ⟨v', w', hrun, ho, hc, hn⟩ := run_appF hS ty hv hrd h1 hq hm hm2
  refine yl_val (w' := w') (by simp) hd (fun ac hf => ?_) ((h v').h w' (hs.add hc ho (fun b hb => ⟨hn b hb, ?_⟩)))
  · have e1 := hf.op hx
    have e2 := hf.op hy
    simp [execOp, resolve, invoke, builtin, e1, e2, hrun]
  · have hb' : v'.ownBlock = some b := hb
    rcases ho.2 with ⟨rfl, _⟩ | ⟨g, cap, cur, rfl, _, hg, _⟩
    · simp [Value.ownBlock] at hb'
    · simp [Value.ownBlock] at hb'
      subst hb'
      exact (Array.getElem?_eq_some_iff.1 hg).1
end
end Go.Eng

/- The engine, part B23: a region that draws, with any marks, whose first part changes pieces too. -/
namespace Go.Eng
open Go Go.RowKit

section
variable {P : Program} {ro : Cx} {n : Nat} {F : Fin} {w0 : World} {M : Nat → Prop} {k : List It} {ops : Array Oper} {l : List Oper} {e : Env} {H H1 H2 : List Ck} {bs : List Bool}
end
end Go.Eng

/- The engine, part B24: a region that draws its order, in which some operations that act may stand in any order, and what is read may change later on. -/
namespace Go.Eng
open Go Go.RowKit

section
variable {P : Program} {ops : Array Oper} {Cq Ce : Nat → World → Prop} {K : Act → World → Prop}

def wpT2 (P : Program) (ops : Array Oper) (Cq Ce : Nat → World → Prop) (K : Act → World → Prop) : OT → Act → World → Prop
  | .nil, a, w => K a w
  | .op i t, a, w => match ops[i]? with
    | none => False
    | some o => if Region.wanted o (yielded ops a.tmps) = true then
        (if eff o.op = true then effStep P o a w (fun v w' => Ce i w' ∧ wpT2 P ops Cq Ce K t (a.put o.dst v) w')
         else ∃ v, (∀ w', Cq i w' → (execOp a.eval o).run P w' = .ok (.value v) w') ∧ wpT2 P ops Cq Ce K t (a.put o.dst v) w)
      else wpT2 P ops Cq Ce K t (a.put o.dst undef) w
  | .alt t u, a, w => wpT2 P ops Cq Ce K t a w ∧ wpT2 P ops Cq Ce K u a w
theorem swapT_quiet2 (hF : FlM ops) (hH : ∀ (i j : Nat) oi oj, ops[i]? = some oi → ops[j]? = some oj → eff oi.op = false → eff oj.op = true → ((masks ops.toList).getD j 0).testBit i = false → ∀ w, Ce j w → Cq i w) {j : Nat} {oj : Oper} (hj : ops[j]? = some oj) (hne : eff oj.op = false) : ∀ (t : OT) (rem : List Nat) (a : Act) (w : World), rem.Nodup → OkT ops t rem → j ∈ rem → (∀ i ∈ rem, ((masks ops.toList).getD j 0).testBit i = false) →
    Region.wanted oj (yielded ops a.tmps) = true → Cq j w → wpT2 P ops Cq Ce K t a w → ∃ v, (∀ w', Cq j w' → (execOp a.eval oj).run P w' = .ok (.value v) w') ∧ wpT2 P ops Cq Ce K (t.del j) (a.put oj.dst v) w
  | .nil, rem, a, w, hn, hok, hjr, hm, hw, hC, h => by
    have : rem = [] := hok
    subst this
    cases hjr
  | .alt t u, rem, a, w, hn, ⟨o1, o2⟩, hjr, hm, hw, hC, ⟨h1, h2⟩ => by
    obtain ⟨v, hv, h3⟩ := swapT_quiet2 hF hH hj hne t rem a w hn o1 hjr hm hw hC h1
    obtain ⟨v', hv', h4⟩ := swapT_quiet2 hF hH hj hne u rem a w hn o2 hjr hm hw hC h2
    have e1 := hv w hC
    have e2 := hv' w hC
    rw [e1] at e2
    have : v = v' := by simpa using e2
    subst this
    exact ⟨v, hv, h3, h4⟩
  | .op i t, rem, a, w, hn, ⟨⟨oi, hi, _⟩, hir, him, hok⟩, hjr, hm, hw, hC, h => by
    by_cases hij : i = j
    · subst hij
      rw [hj] at hi
      obtain rfl := Option.some.inj hi
      simp only [wpT2, hj, hw, if_true, hne, Bool.false_eq_true, if_false] at h
      simpa [OT.del] using h
    · have hji : j ∈ rem.erase i := (List.mem_erase_of_ne (fun h => hij h.symm)).2 hjr
      have ih' := fun a w => swapT_quiet2 hF hH hj hne t (rem.erase i) a w (hn.erase i) hok hji (fun b hb => hm b (List.mem_of_mem_erase hb))
      have hap := pair_apart hF hij hi hj (hm i hir) (him j hjr)
      obtain ⟨p1, p2, p3⟩ := Oper.apart_spec hap
      have kj := hF.kind j oj hj
      have ki := hF.kind i oi hi
      have ej : ∀ (a : Act) v, execOp (a.put oi.dst v).eval oj = execOp a.eval oj := fun a v => exec_put kj a oi.dst v p1
      have ei : ∀ (a : Act) v, execOp (a.put oj.dst v).eval oi = execOp a.eval oi := fun a v => exec_put ki a oj.dst v p3
      have wj : ∀ (a : Act) v, Region.wanted oj (yielded ops (a.put oi.dst v).tmps) = Region.wanted oj (yielded ops a.tmps) := fun a v => wanted_put oj a oi.dst v p1
      have wi : ∀ (a : Act) v, Region.wanted oi (yielded ops (a.put oj.dst v).tmps) = Region.wanted oi (yielded ops a.tmps) := fun a v => wanted_put oi a oj.dst v p3
      have cm : ∀ (a : Act) u v, (a.put oi.dst u).put oj.dst v = (a.put oj.dst v).put oi.dst u := fun a u v => Act.put_comm a u v p2
      have ed : (OT.op i t).del j = .op i (t.del j) := by simp [OT.del, hij]
      rw [ed]
      simp only [wpT2, hi] at h ⊢
      by_cases hwi : Region.wanted oi (yielded ops a.tmps) = true
      · simp only [hwi, if_true] at h
        by_cases he : eff oi.op = true
        · simp only [he, if_true] at h
          obtain ⟨v0, w0, hC0, h0⟩ := h.some
          obtain ⟨v, hv, _⟩ := ih' _ w0 (by rw [wj]; exact hw) (hH j i oj oi hj hi hne he (him j hjr) w0 hC0) h0
          simp only [ej] at hv
          refine ⟨v, hv, ?_⟩
          rw [wi]
          simp only [hwi, if_true, he]
          have h1 : effStep P oi (a.put oj.dst v) w (fun u w' => Ce i w' ∧ wpT2 P ops Cq Ce K t (a.put oi.dst u) w') := by
            unfold effStep at h ⊢
            rw [ei]
            exact h
          refine h1.mono fun u w' ⟨hC', h2⟩ => ⟨hC', ?_⟩
          obtain ⟨v', hv', h3⟩ := ih' _ w' (by rw [wj]; exact hw) (hH j i oj oi hj hi hne he (him j hjr) w' hC') h2
          simp only [ej] at hv'
          have e1 := hv w hC
          have e2 := hv' w hC
          rw [e1] at e2
          have : v = v' := by simpa using e2
          subst this
          rw [cm] at h3
          exact h3
        · simp only [he] at h
          obtain ⟨u, hu, h⟩ := h
          obtain ⟨v, hv, h3⟩ := ih' _ w (by rw [wj]; exact hw) hC h
          simp only [ej] at hv
          refine ⟨v, hv, ?_⟩
          rw [wi]
          simp only [hwi, if_true, he]
          refine ⟨u, fun w' hC' => by rw [ei]; exact hu w' hC', ?_⟩
          rw [cm] at h3
          exact h3
      · simp only [hwi] at h
        obtain ⟨v, hv, h3⟩ := ih' _ w (by rw [wj]; exact hw) hC h
        simp only [ej] at hv
        refine ⟨v, hv, ?_⟩
        rw [wi]
        simp only [hwi]
        rw [cm] at h3
        exact h3

theorem swapT_skip2 (hF : FlM ops) {j : Nat} {oj : Oper} (hj : ops[j]? = some oj) : ∀ (t : OT) (rem : List Nat) (a : Act) (w : World), rem.Nodup → OkT ops t rem → j ∈ rem → (∀ i ∈ rem, ((masks ops.toList).getD j 0).testBit i = false) →
    Region.wanted oj (yielded ops a.tmps) = false → wpT2 P ops Cq Ce K t a w → wpT2 P ops Cq Ce K (t.del j) (a.put oj.dst undef) w
  | .nil, rem, a, w, hn, hok, hjr, hm, hw, h => by
    have : rem = [] := hok
    subst this
    cases hjr
  | .alt t u, rem, a, w, hn, ⟨o1, o2⟩, hjr, hm, hw, ⟨h1, h2⟩ => ⟨swapT_skip2 hF hj t rem a w hn o1 hjr hm hw h1, swapT_skip2 hF hj u rem a w hn o2 hjr hm hw h2⟩
  | .op i t, rem, a, w, hn, ⟨⟨oi, hi, _⟩, hir, him, hok⟩, hjr, hm, hw, h => by
    by_cases hij : i = j
    · subst hij
      rw [hj] at hi
      obtain rfl := Option.some.inj hi
      simp only [wpT2, hj, hw, Bool.false_eq_true, if_false] at h
      simpa [OT.del] using h
    · have hji : j ∈ rem.erase i := (List.mem_erase_of_ne (fun h => hij h.symm)).2 hjr
      have ih' := fun a w => swapT_skip2 hF hj t (rem.erase i) a w (hn.erase i) hok hji (fun b hb => hm b (List.mem_of_mem_erase hb))
      have hap := pair_apart hF hij hi hj (hm i hir) (him j hjr)
      obtain ⟨p1, p2, p3⟩ := Oper.apart_spec hap
      have ki := hF.kind i oi hi
      have ei : ∀ (a : Act) v, execOp (a.put oj.dst v).eval oi = execOp a.eval oi := fun a v => exec_put ki a oj.dst v p3
      have wj : ∀ (a : Act) v, Region.wanted oj (yielded ops (a.put oi.dst v).tmps) = Region.wanted oj (yielded ops a.tmps) := fun a v => wanted_put oj a oi.dst v p1
      have wi : ∀ (a : Act) v, Region.wanted oi (yielded ops (a.put oj.dst v).tmps) = Region.wanted oi (yielded ops a.tmps) := fun a v => wanted_put oi a oj.dst v p3
      have cm : ∀ (a : Act) u v, (a.put oi.dst u).put oj.dst v = (a.put oj.dst v).put oi.dst u := fun a u v => Act.put_comm a u v p2
      have ed : (OT.op i t).del j = .op i (t.del j) := by simp [OT.del, hij]
      rw [ed]
      simp only [wpT2, hi] at h ⊢
      rw [wi]
      by_cases hwi : Region.wanted oi (yielded ops a.tmps) = true
      · simp only [hwi, if_true] at h ⊢
        by_cases he : eff oi.op = true
        · simp only [he, if_true] at h ⊢
          have h1 : effStep P oi (a.put oj.dst undef) w (fun u w' => Ce i w' ∧ wpT2 P ops Cq Ce K t (a.put oi.dst u) w') := by
            unfold effStep at h ⊢
            rw [ei]
            exact h
          refine h1.mono fun u w' ⟨hC', h2⟩ => ⟨hC', ?_⟩
          have h3 := ih' _ w' (by rw [wj]; exact hw) h2
          rw [cm] at h3
          exact h3
        · simp only [he] at h ⊢
          obtain ⟨u, hu, h⟩ := h
          have h3 := ih' _ w (by rw [wj]; exact hw) h
          refine ⟨u, fun w' hC' => by rw [ei]; exact hu w' hC', ?_⟩
          rw [cm] at h3
          exact h3
      · simp only [hwi] at h ⊢
        have h3 := ih' _ w (by rw [wj]; exact hw) h
        rw [cm] at h3
        exact h3

theorem swapT_eff2 (hF : FlM ops) {j : Nat} {oj : Oper} (hj : ops[j]? = some oj) (he : eff oj.op = true) : ∀ (t t' : OT) (rem : List Nat) (a : Act) (w : World), rem.Nodup → OkT ops t rem → j ∈ rem → (∀ i ∈ rem, ((masks ops.toList).getD j 0).testBit i = false) →
    Region.wanted oj (yielded ops a.tmps) = true → t.take ops j = some t' → wpT2 P ops Cq Ce K t a w → effStep P oj a w (fun v w' => Ce j w' ∧ wpT2 P ops Cq Ce K t' (a.put oj.dst v) w')
  | .nil, _, _, _, _, _, _, _, _, _, ht, _ => by simp [OT.take] at ht
  | .alt t u, t', rem, a, w, hn, ⟨o1, o2⟩, hjr, hm, hw, ht, ⟨h1, h2⟩ => by
    unfold OT.take at ht
    split at ht
    · rename_i x hx
      cases ht
      exact swapT_eff2 hF hj he t _ rem a w hn o1 hjr hm hw hx h1
    · exact swapT_eff2 hF hj he u t' rem a w hn o2 hjr hm hw ht h2
  | .op i t, t', rem, a, w, hn, ⟨⟨oi, hi, _⟩, hir, him, hok⟩, hjr, hm, hw, ht, h => by
    unfold OT.take at ht
    split at ht
    · rename_i hij
      subst hij
      cases ht
      rw [hj] at hi
      obtain rfl := Option.some.inj hi
      simp only [wpT2, hj, hw, if_true, he] at h
      exact h
    · rename_i hij
      split at ht
      · cases ht
      · rename_i hei0
        have hei : eff oi.op = false := by simpa [isEff, hi] using hei0
        cases hx : t.take ops j with
        | none => rw [hx] at ht; cases ht
        | some x =>
          rw [hx] at ht
          cases ht
          have hji : j ∈ rem.erase i := (List.mem_erase_of_ne (fun h => hij h.symm)).2 hjr
          have ih' := fun a w => swapT_eff2 hF hj he t x (rem.erase i) a w (hn.erase i) hok hji (fun b hb => hm b (List.mem_of_mem_erase hb))
          have hap := pair_apart hF hij hi hj (hm i hir) (him j hjr)
          obtain ⟨p1, p2, p3⟩ := Oper.apart_spec hap
          have kj := hF.kind j oj hj
          have ki := hF.kind i oi hi
          have ej : ∀ (a : Act) v, execOp (a.put oi.dst v).eval oj = execOp a.eval oj := fun a v => exec_put kj a oi.dst v p1
          have ei : ∀ (a : Act) v, execOp (a.put oj.dst v).eval oi = execOp a.eval oi := fun a v => exec_put ki a oj.dst v p3
          have wj : ∀ (a : Act) v, Region.wanted oj (yielded ops (a.put oi.dst v).tmps) = Region.wanted oj (yielded ops a.tmps) := fun a v => wanted_put oj a oi.dst v p1
          have wi : ∀ (a : Act) v, Region.wanted oi (yielded ops (a.put oj.dst v).tmps) = Region.wanted oi (yielded ops a.tmps) := fun a v => wanted_put oi a oj.dst v p3
          have cm : ∀ (a : Act) u v, (a.put oi.dst u).put oj.dst v = (a.put oj.dst v).put oi.dst u := fun a u v => Act.put_comm a u v p2
          simp only [wpT2, hi] at h
          by_cases hwi : Region.wanted oi (yielded ops a.tmps) = true
          · simp only [hwi, if_true, hei, Bool.false_eq_true, if_false] at h
            obtain ⟨u, hu, h⟩ := h
            have h3 := ih' _ w (by rw [wj]; exact hw) hx h
            have h4 : effStep P oj a w (fun v w' => Ce j w' ∧ wpT2 P ops Cq Ce K x ((a.put oi.dst u).put oj.dst v) w') := by
              unfold effStep at h3 ⊢
              rw [ej] at h3
              exact h3
            refine h4.mono fun v w' ⟨hC', h5⟩ => ⟨hC', ?_⟩
            simp only [wpT2, hi]
            rw [wi]
            simp only [hwi, if_true, hei, Bool.false_eq_true, if_false]
            refine ⟨u, fun w' hC' => by rw [ei]; exact hu w' hC', ?_⟩
            rw [cm] at h5
            exact h5
          · simp only [hwi, Bool.false_eq_true, if_false] at h
            have h3 := ih' _ w (by rw [wj]; exact hw) hx h
            have h4 : effStep P oj a w (fun v w' => Ce j w' ∧ wpT2 P ops Cq Ce K x ((a.put oi.dst undef).put oj.dst v) w') := by
              unfold effStep at h3 ⊢
              rw [ej] at h3
              exact h3
            refine h4.mono fun v w' ⟨hC', h5⟩ => ⟨hC', ?_⟩
            simp only [wpT2, hi]
            rw [wi]
            simp only [hwi, Bool.false_eq_true, if_false]
            rw [cm] at h5
            exact h5

/-- An operation that is left out: the orders in which it stands first, without it. -/
theorem swapT_skipE2 (hF : FlM ops) {j : Nat} {oj : Oper} (hj : ops[j]? = some oj) : ∀ (t t' : OT) (rem : List Nat) (a : Act) (w : World), rem.Nodup → OkT ops t rem → j ∈ rem → (∀ i ∈ rem, ((masks ops.toList).getD j 0).testBit i = false) →
    Region.wanted oj (yielded ops a.tmps) = false → t.take ops j = some t' → wpT2 P ops Cq Ce K t a w → wpT2 P ops Cq Ce K t' (a.put oj.dst undef) w
  | .nil, _, _, _, _, _, _, _, _, _, ht, _ => by simp [OT.take] at ht
  | .alt t u, t', rem, a, w, hn, ⟨o1, o2⟩, hjr, hm, hw, ht, ⟨h1, h2⟩ => by
    unfold OT.take at ht
    split at ht
    · rename_i x hx
      cases ht
      exact swapT_skipE2 hF hj t _ rem a w hn o1 hjr hm hw hx h1
    · exact swapT_skipE2 hF hj u t' rem a w hn o2 hjr hm hw ht h2
  | .op i t, t', rem, a, w, hn, ⟨⟨oi, hi, _⟩, hir, him, hok⟩, hjr, hm, hw, ht, h => by
    unfold OT.take at ht
    split at ht
    · rename_i hij
      subst hij
      cases ht
      rw [hj] at hi
      obtain rfl := Option.some.inj hi
      simp only [wpT2, hj, hw, Bool.false_eq_true, if_false] at h
      exact h
    · rename_i hij
      split at ht
      · cases ht
      · rename_i hei0
        have hei : eff oi.op = false := by simpa [isEff, hi] using hei0
        cases hx : t.take ops j with
        | none => rw [hx] at ht; cases ht
        | some x =>
          rw [hx] at ht
          cases ht
          have hji : j ∈ rem.erase i := (List.mem_erase_of_ne (fun h => hij h.symm)).2 hjr
          have ih' := fun a w => swapT_skipE2 hF hj t x (rem.erase i) a w (hn.erase i) hok hji (fun b hb => hm b (List.mem_of_mem_erase hb))
          have hap := pair_apart hF hij hi hj (hm i hir) (him j hjr)
          obtain ⟨p1, p2, p3⟩ := Oper.apart_spec hap
          have ki := hF.kind i oi hi
          have ei : ∀ (a : Act) v, execOp (a.put oj.dst v).eval oi = execOp a.eval oi := fun a v => exec_put ki a oj.dst v p3
          have wj : ∀ (a : Act) v, Region.wanted oj (yielded ops (a.put oi.dst v).tmps) = Region.wanted oj (yielded ops a.tmps) := fun a v => wanted_put oj a oi.dst v p1
          have wi : ∀ (a : Act) v, Region.wanted oi (yielded ops (a.put oj.dst v).tmps) = Region.wanted oi (yielded ops a.tmps) := fun a v => wanted_put oi a oj.dst v p3
          have cm : ∀ (a : Act) u v, (a.put oi.dst u).put oj.dst v = (a.put oj.dst v).put oi.dst u := fun a u v => Act.put_comm a u v p2
          simp only [wpT2, hi] at h ⊢
          rw [wi]
          by_cases hwi : Region.wanted oi (yielded ops a.tmps) = true
          · simp only [hwi, if_true, hei, Bool.false_eq_true, if_false] at h ⊢
            obtain ⟨u, hu, h⟩ := h
            have h3 := ih' _ w (by rw [wj]; exact hw) hx h
            refine ⟨u, fun w' hC' => by rw [ei]; exact hu w' hC', ?_⟩
            rw [cm] at h3
            exact h3
          · simp only [hwi, Bool.false_eq_true, if_false] at h ⊢
            have h3 := ih' _ w (by rw [wj]; exact hw) hx h
            rw [cm] at h3
            exact h3

theorem okT_end2 : ∀ (t : OT) (a : Act) (w : World), OkT ops t [] → wpT2 P ops Cq Ce K t a w → K a w
  | .nil, _, _, _, h => h
  | .op i t, _, _, ⟨_, h2, _⟩, _ => by cases h2
  | .alt t _, a, w, ⟨h1, _⟩, ⟨h2, _⟩ => okT_end2 t a w h1 h2
variable {ro : Cx} {Q : Fin}
theorem any_of_T2 (hF : FlM ops) (hH : ∀ (i j : Nat) oi oj, ops[i]? = some oi → ops[j]? = some oj → eff oi.op = false → eff oj.op = true → ((masks ops.toList).getD j 0).testBit i = false → ∀ w, Ce j w → Cq i w) (hK : ∀ a w, K a w → Q .normal a w) : ∀ (fuel m : Nat) (t : OT) (rem : List Nat) (listed : Array Bool) (a : Act) (w : World),
    rem.length = fuel → rem.Nodup → listed.size = ops.size → (∀ i, i ∈ rem ↔ i < ops.size ∧ listed.getD i true = false) →
    (∀ (m : Nat) o, ops[m]? = some o → listed.getD m false = true → ∀ e ∈ o.after, Region.binds .any e = true → listed.getD e.on false = true) →
    OkT ops t rem → covT ops (masks ops.toList) m t = true → (∀ i ∈ rem, ∀ o, ops[i]? = some o → eff o.op = false → Cq i w) → wpT2 P ops Cq Ce K t a w → wpAnyIn (FR ro.ro) 0 P .any ops Q fuel listed a w := by
  intro fuel
  induction fuel with
  | zero =>
    intro m t rem listed a w hl hn hsz hmem hcl hok hcov hC h
    have : rem = [] := by simpa using hl
    subst this
    refine ⟨?_, hK _ _ (okT_end2 t a w hok h)⟩
    refine List.eq_nil_iff_forall_not_mem.2 fun i hi => ?_
    obtain ⟨h0, o, ho, _⟩ := mem_ready.1 hi
    exact absurd ((hmem i).2 ⟨(Array.getElem?_eq_some_iff.1 ho).1, h0⟩) (by simp)
  | succ fuel ih =>
    intro m t rem listed a w hl hn hsz hmem hcl hok hcov hC h
    have hlist : ∀ x, x < ops.size → x ∉ rem → listed.getD x false = true := by
      intro x hx hr
      have h3 : ¬ (x < ops.size ∧ listed.getD x true = false) := fun hx => hr ((hmem x).2 hx)
      have h4 : x < listed.size := by omega
      simp only [Array.getD_eq_getD_getElem?, Array.getElem?_eq_getElem h4, Option.getD_some] at h3 ⊢
      cases hc : listed[x] with
      | true => rfl
      | false => exact absurd ⟨hx, hc⟩ h3
    have hunl : ∀ x, listed.getD x false = true → x ∉ rem := by
      intro x hx hr
      have h0 := ((hmem x).1 hr).2
      simp only [Array.getD_eq_getD_getElem?] at hx h0
      cases hc : listed[x]? <;> simp [hc] at hx h0
      simp [hx] at h0
    refine ⟨fun h0 => ?_, fun j hj => ?_⟩
    · exfalso
      obtain ⟨i, hir, o, ho, hd⟩ := okT_first t rem hok (by rintro rfl; simp at hl)
      have hrd : i ∈ Region.ready .any ops listed := by
        refine mem_ready.2 ⟨((hmem i).1 hir).2, o, ho, fun e he hb => ?_⟩
        by_cases hes : e.on < ops.size
        · exact hlist _ hes (hd e he hb)
        · exact (hF.edge i o ho e he hb hes).elim
      rw [h0] at hrd
      cases hrd
    · obtain ⟨h0, oj, hoj, hre⟩ := mem_ready.1 hj
      have hjr : j ∈ rem := (hmem j).2 ⟨(Array.getElem?_eq_some_iff.1 hoj).1, h0⟩
      have hun : ∀ i ∈ rem, ((masks ops.toList).getD j 0).testBit i = false := fun i hi => by
        cases hb : ((masks ops.toList).getD j 0).testBit i with
        | false => rfl
        | true => exact absurd hi (hunl i (masks_spec (D := fun m => listed.getD m false = true) (fun m o hm hD e he hb => hcl m o hm hD e he hb) j oj hoj (fun e he hb => hre e he hb) i hb))
      have next : ∀ m (t' : OT) a w, OkT ops t' (rem.erase j) → covT ops (masks ops.toList) m t' = true → (∀ i ∈ rem.erase j, ∀ o, ops[i]? = some o → eff o.op = false → Cq i w) → wpT2 P ops Cq Ce K t' a w → wpAnyIn (FR ro.ro) 0 P .any ops Q fuel (listed.setIfInBounds j true) a w := by
        intro m t' a w hok hcov hC h
        refine ih m t' (rem.erase j) _ a w ?_ (hn.erase j) (by simp [hsz]) ?_ ?_ hok hcov hC h
        · rw [List.length_erase_of_mem hjr]; omega
        · intro i
          constructor
          · intro hi
            have hne : j ≠ i := fun e => by subst e; exact absurd hi (hn.not_mem_erase)
            have h1 := (hmem i).1 (List.mem_of_mem_erase hi)
            exact ⟨h1.1, by rw [getD_set_ne true hne]; exact h1.2⟩
          · rintro ⟨h1, h2⟩
            have hne : j ≠ i := fun e => by
              subst e
              simp [hsz, h1] at h2
            rw [getD_set_ne true hne] at h2
            exact (List.mem_erase_of_ne (fun h => hne h.symm)).2 ((hmem i).2 ⟨h1, h2⟩)
        · intro m o hm hD e he hb
          by_cases hmj : j = m
          · subst hmj
            rw [hoj] at hm
            obtain rfl := Option.some.inj hm
            exact getD_set_true (hre e he hb)
          · rw [getD_set_ne false hmj] at hD
            exact getD_set_true (hcl m o hm hD e he hb)
      unfold wpOpIn
      simp only [hoj]
      by_cases hw : Region.wanted oj (yielded ops a.tmps) = true
      · simp only [hw, if_true]
        cases he : eff oj.op with
        | true =>
          have hej : isEff ops j = true := by simp [isEff, hoj, he]
          have hje := (effs_rem t rem hok).2 j hjr hej
          cases m with
          | zero =>
            simp only [covT, List.isEmpty_iff] at hcov
            rw [hcov] at hje
            cases hje
          | succ m =>
            simp only [covT, List.all_eq_true] at hcov
            have h1 := hcov j hje
            rw [Bool.or_eq_true] at h1
            rcases h1 with h1 | h1
            · obtain ⟨i, hi, hb⟩ := List.any_eq_true.1 h1
              rw [hun i ((effs_rem t rem hok).1 i hi)] at hb
              cases hb
            · cases hx : t.take ops j with
              | none => rw [hx] at h1; cases h1
              | some x =>
                rw [hx] at h1
                have h2 := swapT_eff2 hF hoj he t x rem a w hn hok hjr hun hw hx h
                exact effStep.wpIn (hF.kind j oj hoj) (h2.mono fun v w' ⟨hC', h3⟩ => next m x _ _ (take_ok t x rem hn hok hjr hx) h1 (fun i hi o ho hq => hH i j o oj ho hoj hq he (hun i (List.mem_of_mem_erase hi)) w' hC') h3)
        | false =>
          have hej : isEff ops j = false := by simp [isEff, hoj, he]
          obtain ⟨v, hv, h2⟩ := swapT_quiet2 hF hH hoj he t rem a w hn hok hjr hun hw (hC j hjr oj hoj he) h
          exact upon_FR (fun c hc => by have := hF.kind j oj hoj; rw [hc] at this; cases this) (hv w (hC j hjr oj hoj he)) (next m _ _ _ (del_ok t rem hn hok hjr) (cov_del hej _ m t hcov) (fun i hi => hC i (List.mem_of_mem_erase hi)) h2)
      · have hw' : Region.wanted oj (yielded ops a.tmps) = false := by simpa using hw
        simp only [hw', Bool.false_eq_true, if_false]
        cases he : eff oj.op with
        | false =>
          have hej : isEff ops j = false := by simp [isEff, hoj, he]
          exact ⟨fun f _ => fr_fn f, next m _ _ _ (del_ok t rem hn hok hjr) (cov_del hej _ m t hcov) (fun i hi => hC i (List.mem_of_mem_erase hi)) (swapT_skip2 hF hoj t rem a w hn hok hjr hun hw' h)⟩
        | true =>
          have hej : isEff ops j = true := by simp [isEff, hoj, he]
          have hje := (effs_rem t rem hok).2 j hjr hej
          cases m with
          | zero =>
            simp only [covT, List.isEmpty_iff] at hcov
            rw [hcov] at hje
            cases hje
          | succ m =>
            simp only [covT, List.all_eq_true] at hcov
            have h1 := hcov j hje
            rw [Bool.or_eq_true] at h1
            rcases h1 with h1 | h1
            · obtain ⟨i, hi, hb⟩ := List.any_eq_true.1 h1
              rw [hun i ((effs_rem t rem hok).1 i hi)] at hb
              cases hb
            · cases hx : t.take ops j with
              | none => rw [hx] at h1; cases h1
              | some x =>
                rw [hx] at h1
                exact ⟨fun f _ => fr_fn f, next m _ _ _ (take_ok t x rem hn hok hjr hx) h1 (fun i hi => hC i (List.mem_of_mem_erase hi)) (swapT_skipE2 hF hoj t x rem a w hn hok hjr hun hw' hx h)⟩

theorem wpIn_region_T2 {id : Nat} {a : Act} {w : World} (t : OT) (hm : P.follows .mixedOrders = true) (hB : treeB ops t = true) (hH : ∀ (i j : Nat) oi oj, ops[i]? = some oi → ops[j]? = some oj → eff oi.op = false → eff oj.op = true → ((masks ops.toList).getD j 0).testBit i = false → ∀ w, Ce j w → Cq i w) (hC : ∀ i, Cq i { w with drawn := w.drawn + 1 })
    (hK : ∀ a w, K a w → Q .normal a w) (h : wpT2 P ops Cq Ce K t a { w with drawn := w.drawn + 1 }) : (Code.region id ops true).wpIn (FR ro.ro) 0 P Q a w := by
  simp only [treeB, Bool.and_eq_true] at hB
  obtain ⟨⟨h1, h2⟩, h3⟩ := hB
  refine wpIn_region_any hm (any_of_T2 (pairsB_spec h1) hH hK ops.size ops.size t (List.range ops.size) _ a _ (by simp) List.nodup_range (by simp) ?_ ?_ (okT_spec t _ h2) h3 (fun i _ _ _ _ => hC i) h)
  · intro i
    simp only [List.mem_range]
    constructor
    · intro hi
      exact ⟨hi, by simp [hi]⟩
    · exact fun hi => hi.1
  · intro m o _ hD
    simp only [Array.getD_eq_getD_getElem?, Array.getElem?_replicate] at hD
    split at hD <;> simp at hD
end
end Go.Eng

/- The engine, part B25: walks of a region by a tree of orders, in two parts: what the first part reads may change in the second. -/
namespace Go.Eng
open Go Go.RowKit

section
variable {P : Program} {ro : Cx} {n : Nat} {F : Fin} {w0 : World} {M : Nat → Prop} {k : List It} {ops : Array Oper} {e : Env} {H H1 H2 : List Ck} {bs : List Bool}
structure QX (P : Program) (ro : Cx) (n : Nat) (F : Fin) (w0 : World) (M : Nat → Prop) (k : List It) (ops : Array Oper) (H1 H2 : List Ck) (bs : List Bool) (t : OT) (e : Env) (H : List Ck) : Prop where
  h : ∀ w, Sat w0 M H w → ∀ a, Fits n e a → a.defers = ro.ds → wpT2 P ops (flagC (Sat w0 M H1) (Sat w0 M H2) bs) (flagC (Sat w0 M H1) (Sat w0 M H2) bs) (fun a w => S P ro.ro F k .normal a w) t a w
theorem q_drawX {id : Nat} {l : List Oper} (t : OT) (bs : List Bool) (Hq1 Hm1 Hq2 Hm2 : List Ck) (hH1 : Sp H (Hm1 ++ Hq1)) (hH2 : Sp Hq1 (Hm2 ++ Hq2)) (hm : P.follows .mixedOrders = true) (hB : treeB l.toArray t = true) (hbs : flagB l.toArray bs = true)
    (h : QX P ro n F w0 M k l.toArray Hq1 Hq2 bs t e H) : Q P ro n F w0 M (.code (.region id l.toArray true) :: k) e H := .mk fun w hs a hf hd => by
  have hs0 : Sat w0 M H { w with drawn := w.drawn + 1 } := hs.keep (Chg.drew (N := []) w)
  have hs1 : Sat w0 M Hq1 { w with drawn := w.drawn + 1 } := (hs0.sp hH1).right
  have h12 : ∀ w, Sat w0 M Hq1 w → Sat w0 M Hq2 w := fun w hw => (hw.sp hH2).right
  refine wpIn_region_T2 t hm hB (Cq := flagC (Sat w0 M Hq1) (Sat w0 M Hq2) bs) (Ce := flagC (Sat w0 M Hq1) (Sat w0 M Hq2) bs) (fun i j oi oj hi hj hei hej hmk w hC => flagB_spec hbs h12 i j oi oj hi hj hei hej (.inr hmk) w hC) (fun i => ?_) (fun _ _ h => h) (h.h _ hs0 a hf hd)
  unfold flagC
  cases bs.getD i false
  · exact h12 _ hs1
  · exact hs1
theorem qx_nil (h : Q P ro n F w0 M k e H) : QX P ro n F w0 M k ops H1 H2 bs .nil e H := ⟨fun w hs a hf hd => h.h w hs a hf hd⟩
theorem qx_alt {t u : OT} (h1 : QX P ro n F w0 M k ops H1 H2 bs t e H) (h2 : QX P ro n F w0 M k ops H1 H2 bs u e H) : QX P ro n F w0 M k ops H1 H2 bs (.alt t u) e H :=
  ⟨fun w hs a hf hd => ⟨h1.h w hs a hf hd, h2.h w hs a hf hd⟩⟩
theorem wpT2_chain {C1 C2 : World → Prop} {b : Bool} {K : Act → World → Prop} {t : OT} : ∀ (l : List Nat) (lo : List Oper) (a : Act) (w : World), l.map (fun i => ops[i]?) = lo.map some → l.all (fun i => bs.getD i false == b) = true →
    wpFlL P ops (bif b then C1 else C2) (wpT2 P ops (flagC C1 C2 bs) (flagC C1 C2 bs) K t) lo a w → wpT2 P ops (flagC C1 C2 bs) (flagC C1 C2 bs) K (chainT l t) a w
  | [], [], a, w, _, _, h => h
  | [], _ :: _, _, _, hl, _, _ => by cases hl
  | _ :: _, [], _, _, hl, _, _ => by cases hl
  | i :: l, o :: lo, a, w, hl, hb, h => by
    simp only [List.map_cons, List.cons.injEq] at hl
    simp only [List.all_cons, Bool.and_eq_true, beq_iff_eq] at hb
    have ih : ∀ a w, wpFlL P ops (bif b then C1 else C2) (wpT2 P ops (flagC C1 C2 bs) (flagC C1 C2 bs) K t) lo a w → wpT2 P ops (flagC C1 C2 bs) (flagC C1 C2 bs) K (chainT l t) a w := fun a w => wpT2_chain l lo a w hl.2 hb.2
    have hC : flagC C1 C2 bs i = (bif b then C1 else C2) := by
      funext w
      unfold flagC
      rw [hb.1]
      cases b <;> rfl
    simp only [chainT, wpT2, hl.1, hC]
    simp only [wpFlL] at h
    split
    · rename_i hw
      rw [if_pos hw] at h
      split
      · rename_i he
        rw [if_pos he] at h
        exact h.mono fun v w' ⟨hC, h2⟩ => ⟨hC, ih _ _ h2⟩
      · rename_i he
        rw [if_neg he] at h
        obtain ⟨v, hv, h2⟩ := h
        exact ⟨v, hv, ih _ _ h2⟩
    · rename_i hw
      rw [if_neg hw] at h
      exact ih _ _ h
/-- A piece of the first part; of the second one. -/
theorem qx_T {l : List Nat} {lo : List Oper} {t : OT} (Hm : List Ck) (hl : PickL ops l lo) (hb : l.all (fun i => bs.getD i false == true) = true) (hH : Sp H (Hm ++ H1))
    (h : ∀ K1 : Act → World → Prop, (∀ e' H', QX P ro n F w0 M k ops H1 H2 bs t e' H' → Q P ro n F w0 M (.k K1 :: k) e' H') → QF P ro n F w0 M (.k K1 :: k) ops H1 lo e Hm) : QX P ro n F w0 M k ops H1 H2 bs (chainT l t) e H :=
  ⟨fun w hs a hf hd => by
    have h1 := h (wpT2 P ops (flagC (Sat w0 M H1) (Sat w0 M H2) bs) (flagC (Sat w0 M H1) (Sat w0 M H2) bs) (fun a w => S P ro.ro F k .normal a w) t) (fun e' H' hq => .mk fun w' hs' a' hf' hd' => hq.h w' hs' a' hf' hd')
    exact wpT2_chain (b := true) l lo a w hl.map hb (h1.h w (hs.sp hH) a hf hd)⟩
theorem qx_F {l : List Nat} {lo : List Oper} {t : OT} (Hm : List Ck) (hl : PickL ops l lo) (hb : l.all (fun i => bs.getD i false == false) = true) (hH : Sp H (Hm ++ H2))
    (h : ∀ K1 : Act → World → Prop, (∀ e' H', QX P ro n F w0 M k ops H1 H2 bs t e' H' → Q P ro n F w0 M (.k K1 :: k) e' H') → QF P ro n F w0 M (.k K1 :: k) ops H2 lo e Hm) : QX P ro n F w0 M k ops H1 H2 bs (chainT l t) e H :=
  ⟨fun w hs a hf hd => by
    have h1 := h (wpT2 P ops (flagC (Sat w0 M H1) (Sat w0 M H2) bs) (flagC (Sat w0 M H1) (Sat w0 M H2) bs) (fun a w => S P ro.ro F k .normal a w) t) (fun e' H' hq => .mk fun w' hs' a' hf' hd' => hq.h w' hs' a' hf' hd')
    exact wpT2_chain (b := false) l lo a w hl.map hb (h1.h w (hs.sp hH) a hf hd)⟩
/-- What is shared by several orders. -/
theorem qx_let {σ : Type} (t : OT) {t0 : OT} (env : σ → Env) (pc : σ → List Ck) (main : ∀ s, QX P ro n F w0 M k ops H1 H2 bs t (env s) (pc s))
    (use : (∀ s e' H', Sub (env s) e' → Sp H' (pc s) → QX P ro n F w0 M k ops H1 H2 bs t e' H') → QX P ro n F w0 M k ops H1 H2 bs t0 e H) : QX P ro n F w0 M k ops H1 H2 bs t0 e H :=
  use (fun s _ _ he hH => ⟨fun w hs a hf hd => (main s).h w (hs.sp hH) a (hf.sub he) hd⟩)
end
end Go.Eng

/- Taken over from course: what K5:first_ca,K24:short_ca,K24:aw_first,K24:aw_right,K24:Blk.rdD reach. Written by graft.py. -/
namespace Go.Proofs.Ytgmmmkmekbiboaa
open Go Go.Eng
/-- A day: the spans of need, of what is made, and of loss. -/
structure Dy where
  n0 : Int
  n1 : Int
  m0 : Int
  m1 : Int
  l0 : Int
  l1 : Int
structure Wn where
  stock : Int
  store : Int
  days : List Dy
structure Wt where
  need : List Int
  make : List Int
  loss : List Int
def spnB (lo hi g : Int) : Bool := decide (0 ≤ lo) && decide (lo ≤ hi) && decide (hi ≤ g)
theorem spnB_iff {lo hi g : Int} : spnB lo hi g = true ↔ 0 ≤ lo ∧ lo ≤ hi ∧ hi ≤ g := by simp [spnB, and_assoc]
def dayB (d : Dy) : Bool := spnB d.n0 d.n1 100000 && spnB d.m0 d.m1 100000 && spnB d.l0 d.l1 100000
/-- The error of a winter. -/
def checkW (w : Wn) : Int :=
  if ¬(1 ≤ w.store ∧ w.store ≤ 1000000 ∧ 0 ≤ w.stock ∧ w.stock ≤ w.store) then 3 else if ¬(1 ≤ w.days.length ∧ w.days.length ≤ 60) then 2 else if w.days.all dayB then 0 else 3
structure Dy.Right (d : Dy) : Prop where
  n : 0 ≤ d.n0 ∧ d.n0 ≤ d.n1 ∧ d.n1 ≤ 100000
  m : 0 ≤ d.m0 ∧ d.m0 ≤ d.m1 ∧ d.m1 ≤ 100000
  l : 0 ≤ d.l0 ∧ d.l0 ≤ d.l1 ∧ d.l1 ≤ 100000
theorem dayB_iff {d : Dy} : dayB d = true ↔ d.Right := by
  simp only [dayB, Bool.and_eq_true, spnB_iff]
  exact ⟨fun ⟨⟨a, b⟩, c⟩ => ⟨a, b, c⟩, fun ⟨a, b, c⟩ => ⟨⟨a, b⟩, c⟩⟩
structure Wn.Right (w : Wn) : Prop where
  store : 1 ≤ w.store ∧ w.store ≤ 1000000
  stock : 0 ≤ w.stock ∧ w.stock ≤ w.store
  d1 : 1 ≤ w.days.length
  d2 : w.days.length ≤ 60
  days : ∀ d ∈ w.days, d.Right
theorem checkW_iff {w : Wn} : checkW w = 0 ↔ w.Right := by
  unfold checkW
  constructor
  · intro h
    split at h
    · cases h
    split at h
    · cases h
    split at h
    · rename_i h1 h2 h3
      exact ⟨by omega, by omega, by omega, by omega, fun d hd => dayB_iff.1 (List.all_eq_true.1 h3 d hd)⟩
    · cases h
  · rintro ⟨h1, h2, h3, h4, h5⟩
    rw [if_neg (by omega), if_neg (by omega), if_pos (List.all_eq_true.2 fun d hd => dayB_iff.2 (h5 d hd))]
def remP : Int → List (Int × Int) → List (Int × Int)
  | _, [] => []
  | much, (d, m) :: r => if much > 0 then (if m - min much m = 0 then remP (much - min much m) r else (d, m - min much m) :: r) else (d, m) :: r
def addP (day much : Int) (l : List (Int × Int)) : List (Int × Int) := if much > 0 then l ++ [(day, much)] else l
structure Hs where
  stock : Int
  stocks : List Int
  made : List Int
  full : Int
  piles : List (Int × Int)
  fails : Int
def lossOf (s ls : Int) : Int := min s ls
def madeOf (store s mk ls : Int) : Int := min mk (store - (s - lossOf s ls))
def fullS (store s mk ls : Int) : Int := s - lossOf s ls + madeOf store s mk ls
def dayS (store : Int) (i : Nat) (nd mk ls : Int) (s : Hs) : Hs :=
  if fullS store s.stock mk ls < nd then { s with stock := fullS store s.stock mk ls, full := if fullS store s.stock mk ls = store then (i : Int) else s.full, fails := i }
  else { stock := fullS store s.stock mk ls - nd, stocks := s.stocks ++ [fullS store s.stock mk ls - nd], made := s.made ++ [madeOf store s.stock mk ls], full := if fullS store s.stock mk ls = store then (i : Int) else s.full,
         piles := remP nd (addP i (madeOf store s.stock mk ls) (remP (lossOf s.stock ls) s.piles)), fails := -1 }
def hapP (w : Wn) (t : Wt) : Nat → Hs
  | 0 => ⟨w.stock, [], [], -1, addP (-1) w.stock [], -1⟩
  | k + 1 => if (hapP w t k).fails = -1 then dayS w.store k (t.need.getD k 0) (t.make.getD k 0) (t.loss.getD k 0) (hapP w t k) else hapP w t k
/-- What happens in a weather. -/
def hapV (w : Wn) (t : Wt) : Hs := hapP w t w.days.length
theorem hapP_stay (w : Wn) (t : Wt) {k : Nat} (h : (hapP w t k).fails ≠ -1) : ∀ n, k ≤ n → hapP w t n = hapP w t k
  | 0, hn => by obtain rfl : k = 0 := by omega
                rfl
  | n + 1, hn => by
    by_cases hk : k = n + 1
    · rw [hk]
    · have ih := hapP_stay w t h n (by omega)
      rw [hapP, ih, if_neg h]
def sq (w : Wn) (t : Wt) : Nat → Int
  | 0 => w.stock
  | k + 1 => min (max 0 (sq w t k - t.loss.getD k 0) + t.make.getD k 0) w.store - t.need.getD k 0
theorem fullS_eq {store s mk ls : Int} (hs : 0 ≤ s) : fullS store s mk ls = min (max 0 (s - ls) + mk) store := by
  unfold fullS madeOf lossOf
  omega
/-- A weather of numbers that are not less than 0, as many as there are days. -/
structure Wt.Fine (t : Wt) (n : Nat) : Prop where
  need : t.need.length = n
  make : t.make.length = n
  loss : t.loss.length = n
  need0 : ∀ x ∈ t.need, 0 ≤ x ∧ x ≤ 200000
  make0 : ∀ x ∈ t.make, 0 ≤ x ∧ x ≤ 200000
  loss0 : ∀ x ∈ t.loss, 0 ≤ x ∧ x ≤ 200000
theorem getD_in {l : List Int} {A B : Int} (h : ∀ x ∈ l, A ≤ x ∧ x ≤ B) (hA : A ≤ 0) (hB : 0 ≤ B) (k : Nat) : A ≤ l.getD k 0 ∧ l.getD k 0 ≤ B := by
  by_cases hk : k < l.length
  · simp only [List.getD_eq_getElem?_getD, List.getElem?_eq_getElem hk, Option.getD_some]
    exact h _ (List.getElem_mem hk)
  · simp only [List.getD_eq_getElem?_getD, List.getElem?_eq_none (Nat.le_of_not_lt hk), Option.getD_none]
    omega
theorem getD_at {l : List Int} {k : Nat} (h : k < l.length) : l.getD k 0 = l[k] := by simp [List.getD_eq_getElem?_getD, h]
/-- What happens, told by the stock alone. -/
structure HapOk (w : Wn) (t : Wt) (k : Nat) (s : Hs) : Prop where
  stock : s.stock = sq w t k
  nn : ∀ j, j ≤ k → 0 ≤ sq w t j
  stocks : s.stocks = (List.range k).map (fun i => sq w t (i + 1))
  made : s.made = (List.range k).map (fun i => madeOf w.store (sq w t i) (t.make.getD i 0) (t.loss.getD i 0))
  top : sq w t k ≤ w.store
theorem map_snoc {α : Type} (f : Nat → α) (k : Nat) : (List.range (k + 1)).map f = (List.range k).map f ++ [f k] := by simp [List.range_succ]
theorem hap_ok (w : Wn) (t : Wt) (h0 : 0 ≤ w.stock ∧ w.stock ≤ w.store) (hn : ∀ x ∈ t.need, 0 ≤ x ∧ x ≤ 200000) : ∀ k, (hapP w t k).fails = -1 → HapOk w t k (hapP w t k)
  | 0, _ => ⟨rfl, fun j hj => by obtain rfl : j = 0 := by omega
                                 exact h0.1, rfl, rfl, h0.2⟩
  | k + 1, h => by
    by_cases hf : (hapP w t k).fails = -1
    · have ih := hap_ok w t h0 hn k hf
      rw [hapP, if_pos hf] at h ⊢
      unfold dayS at h ⊢
      have e := fullS_eq (store := w.store) (mk := t.make.getD k 0) (ls := t.loss.getD k 0) (s := (hapP w t k).stock) (by rw [ih.stock]; exact ih.nn k (Nat.le_refl _))
      have hk := getD_in hn (by omega) (by omega) k
      split at h
      · simp only at h
        omega
      · rename_i hlt
        rw [if_neg hlt]
        rw [e, ih.stock] at hlt
        have e2 : fullS w.store (hapP w t k).stock (t.make.getD k 0) (t.loss.getD k 0) - t.need.getD k 0 = sq w t (k + 1) := by rw [e, ih.stock]; rfl
        have e3 : sq w t (k + 1) = min (max 0 (sq w t k - t.loss.getD k 0) + t.make.getD k 0) w.store - t.need.getD k 0 := rfl
        refine ⟨e2, fun j hj => ?_, ?_, ?_, by omega⟩
        · by_cases hjk : j = k + 1
          · subst hjk
            omega
          · exact ih.nn j (by omega)
        · show (hapP w t k).stocks ++ [_] = _
          rw [e2, ih.stocks, map_snoc]
        · show (hapP w t k).made ++ [_] = _
          rw [ih.stock, ih.made, map_snoc]
    · rw [hapP, if_neg hf] at h
      exact absurd h hf
/-- The worst weather, and the best one. -/
def worstW (w : Wn) : Wt := ⟨w.days.map (·.n1), w.days.map (·.m0), w.days.map (·.l1)⟩
theorem worst_fine {w : Wn} (hw : w.Right) : (worstW w).Fine w.days.length := by
  refine ⟨by simp [worstW], by simp [worstW], by simp [worstW], ?_, ?_, ?_⟩ <;> intro x hx <;> obtain ⟨d, hd, rfl⟩ := List.mem_map.1 hx
  · have := (hw.days d hd).n; omega
  · have := (hw.days d hd).m; omega
  · have := (hw.days d hd).l; omega
structure Lp where
  len : Int
  climb : Int
  wide : Int
structure Rl where
  laps : Int
  g0 : Int
  g1 : Int
  c0 : Int
  c1 : Int
  p0 : Int
  p1 : Int
  wide : Int
  uses : Int
def wiB (n lo hi : Int) : Bool := decide (lo ≤ n) && decide (n ≤ hi)
theorem wiB_iff {n lo hi : Int} : wiB n lo hi = true ↔ lo ≤ n ∧ n ≤ hi := by simp [wiB]
structure Lp.Right (l : Lp) : Prop where
  len : 1 ≤ l.len ∧ l.len ≤ 20000
  climb : 0 ≤ l.climb ∧ l.climb ≤ 2000
  wide : 1 ≤ l.wide ∧ l.wide ≤ 20
structure Rl.Right (r : Rl) : Prop where
  laps : 1 ≤ r.laps ∧ r.laps ≤ 6
  g : 0 ≤ r.g0 ∧ r.g0 ≤ r.g1 ∧ r.g1 ≤ 200000
  c : 0 ≤ r.c0 ∧ r.c0 ≤ r.c1 ∧ r.c1 ≤ 200000
  p : 0 ≤ r.p0 ∧ r.p0 ≤ r.p1 ∧ r.p1 ≤ 200000
  wide : 1 ≤ r.wide ∧ r.wide ≤ 20
  uses : 1 ≤ r.uses ∧ r.uses ≤ 6
-- course/G0.lean
section
/-- A pair of numbers as a value. -/
abbrev crtV (q : Int × Int) : Value := .agg #[.int .i64 q.1, .int .i64 q.2]
abbrev lpV (l : Lp) : Value := .agg #[.int .i64 l.len, .int .i64 l.climb, .int .i64 l.wide]
abbrev dyV (d : Dy) : Value := .agg #[.int .i64 d.n0, .int .i64 d.n1, .int .i64 d.m0, .int .i64 d.m1, .int .i64 d.l0, .int .i64 d.l1]
abbrev cRdS (w : World) (lo hi : Nat) (v : Value) (l : List (Int × Int)) : Prop := RdE w lo hi v 2 (l.map crtV)
abbrev RdL (w : World) (lo hi : Nat) (v : Value) (l : List Lp) : Prop := RdE w lo hi v 3 (l.map lpV)
abbrev RdD (w : World) (lo hi : Nat) (v : Value) (l : List Dy) : Prop := RdE w lo hi v 6 (l.map dyV)
/-- Their cells. -/
def spC (l : List (Int × Int)) : List Value := l.flatMap fun x => [.int .i64 x.1, .int .i64 x.2]
def lpC (l : List Lp) : List Value := l.flatMap fun x => [.int .i64 x.len, .int .i64 x.climb, .int .i64 x.wide]
def dyC (l : List Dy) : List Value := l.flatMap fun d => [.int .i64 d.n0, .int .i64 d.n1, .int .i64 d.m0, .int .i64 d.m1, .int .i64 d.l0, .int .i64 d.l1]
section
variable {w w' : World} {lo hi b off len cap : Nat} {v : Value}
theorem cRdS.outI {l : List (Int × Int)} (h : cRdS w lo hi v l) : ∃ a cap, v = .slice a l.length cap ∧ (0 < l.length → ∃ b off, a = some ⟨b, off, none⟩) := by
  have := RdE.out h
  simpa using this
theorem RdL.outI {l : List Lp} (h : RdL w lo hi v l) : ∃ a cap, v = .slice a l.length cap ∧ (0 < l.length → ∃ b off, a = some ⟨b, off, none⟩) := by
  have := RdE.out h
  simpa using this
theorem RdD.outI {l : List Dy} (h : RdD w lo hi v l) : ∃ a cap, v = .slice a l.length cap ∧ (0 < l.length → ∃ b off, a = some ⟨b, off, none⟩) := by
  have := RdE.out h
  simpa using this
theorem cRdS.at {l : List (Int × Int)} (h : cRdS w lo hi (.slice (some ⟨b, off, none⟩) len cap) l) (i : Nat) (hi : i < l.length) (j : Nat) (hj : j < 2) : w.cell? ⟨b, off + i * 2 + j, none⟩ = [Value.int .i64 l[i].1, Value.int .i64 l[i].2][j]? := by
  have := RdE.cell h i j (by simpa using hi) hj
  rw [this]
  simp [crtV, Value.cells]
theorem RdL.at {l : List Lp} (h : RdL w lo hi (.slice (some ⟨b, off, none⟩) len cap) l) (i : Nat) (hi : i < l.length) (j : Nat) (hj : j < 3) : w.cell? ⟨b, off + i * 3 + j, none⟩ = [Value.int .i64 l[i].len, Value.int .i64 l[i].climb, Value.int .i64 l[i].wide][j]? := by
  have := RdE.cell h i j (by simpa using hi) hj
  rw [this]
  simp [lpV, Value.cells]
theorem RdD.at {l : List Dy} (h : RdD w lo hi (.slice (some ⟨b, off, none⟩) len cap) l) (i : Nat) (hi : i < l.length) (j : Nat) (hj : j < 6) : w.cell? ⟨b, off + i * 6 + j, none⟩ = [Value.int .i64 l[i].n0, Value.int .i64 l[i].n1, Value.int .i64 l[i].m0, Value.int .i64 l[i].m1, Value.int .i64 l[i].l0, Value.int .i64 l[i].l1][j]? := by
  have := RdE.cell h i j (by simpa using hi) hj
  rw [this]
  simp [dyV, Value.cells]
theorem cells_sp (l : List (Int × Int)) : cellsOf (l.map crtV) = spC l := by simp [cellsOf, spC, List.flatMap_map, Value.cells]
theorem cells_lp (l : List Lp) : cellsOf (l.map lpV) = lpC l := by simp [cellsOf, lpC, List.flatMap_map, Value.cells]
theorem cells_dy (l : List Dy) : cellsOf (l.map dyV) = dyC l := by simp [cellsOf, dyC, List.flatMap_map, Value.cells]
theorem spC_length (l : List (Int × Int)) : (spC l).length = l.length * 2 := by
  rw [← cells_sp, cellsOf_length (sz := 2)]
  · simp
  · intro e he; obtain ⟨x, _, rfl⟩ := List.mem_map.1 he; rfl
theorem dyC_length (l : List Dy) : (dyC l).length = l.length * 6 := by
  rw [← cells_dy, cellsOf_length (sz := 6)]
  · simp
  · intro e he; obtain ⟨x, _, rfl⟩ := List.mem_map.1 he; rfl
theorem cRdS.of {l : List (Int × Int)} (h : Rd w lo hi v 2 l.length (spC l)) : cRdS w lo hi v l := ⟨by rw [cells_sp, List.length_map]; exact h, fun e he => by obtain ⟨x, _, rfl⟩ := List.mem_map.1 he; rfl⟩
theorem RdL.of {l : List Lp} (h : Rd w lo hi v 3 l.length (lpC l)) : RdL w lo hi v l := ⟨by rw [cells_lp, List.length_map]; exact h, fun e he => by obtain ⟨x, _, rfl⟩ := List.mem_map.1 he; rfl⟩
theorem RdD.of {l : List Dy} (h : Rd w lo hi v 6 l.length (dyC l)) : RdD w lo hi v l := ⟨by rw [cells_dy, List.length_map]; exact h, fun e he => by obtain ⟨x, _, rfl⟩ := List.mem_map.1 he; rfl⟩
end
end
set_option maxHeartbeats 1000000 in
theorem idxF_day (w : World) (lo hi : Nat) (v cv : Value) (es : List Value) (p : Value → Bool) (hrd : RdE w lo hi v 6 es) (hagg : ∀ i (hi : i < es.length), ∃ c, es[i] = .agg c) (hlen : es.length < 4611686018427387904) (hp : PredAt Try.prog tab w cv es p) :
    Ca Try.prog 76 [v, cv] w fun r w' => ((∃ i : Nat, r = .int .i64 i ∧ ∃ hi : i < es.length, p es[i] = true) ∨ (r = .int .i64 (-1) ∧ ∀ x ∈ es, p x = false)) ∧ Chg [] w w' := by
  obtain ⟨a, cap, rfl, hsl⟩ := hrd.out
  obtain ⟨g, first, caps, rfl, hg, hcl⟩ := hp
  refine ca_of Try.func76 rfl (by simp [Try.ntmps76]) ?_
  (refine y_seq (y_region (yl_pure tabOk rfl rfl (y_seq (y_seq (y_region ?_))))); (iterate 3 refine yl_pure tabOk rfl rfl ?_); refine y_block ?_)
  refine y_loop (fun m l wr => ∃ k : Nat, k ≤ es.length ∧ m = es.length - k ∧ l = [(0, .slice a es.length cap), (1, .func (.func g) first caps), (7, .int .i64 es.length), (8, .int .i64 k)] ∧ (∀ i (hi : i < es.length), i < k → p es[i] = false) ∧ Chg [] w wr) (m := es.length)
    ⟨0, by omega, rfl, rfl, fun i _ hi => by omega, Chg.refl _ _⟩ ⟨rfl, rfl, rfl, rfl, trivial⟩ ?_
  rintro m l wr ⟨k, hkl, rfl, rfl, hpk, hcw⟩ K hK
  (refine y_seq (y_region (yl_pure tabOk rfl rfl (y_seq ?_))))
  refine y_if rfl (fun hc => ?_) (fun hc => ?_)
  · have hk : k < es.length := by omega
    obtain ⟨b, off, rfl⟩ := hsl (by omega)
    (refine y_skip (y_seq (y_block (y_seq (y_region (yl_pure tabOk rfl rfl (yl_pure tabOk rfl rfl (y_seq (y_region ?_)))))))); (iterate 3 refine yl_pure tabOk rfl rfl ?_))
    refine yl_index tabOk rfl rfl rfl rfl rfl (by omega) (by omega) ?_
    refine yl_loadA tabOk rfl rfl rfl (cs := es[k].cells.toList) (by simpa using hrd.sz es[k] (List.getElem_mem hk)) (fun j hj => (hrd.keep hcw).cell k j hk hj) ?_
    have hval : Value.agg es[k].cells.toList.toArray = es[k] := by
      obtain ⟨c, hc⟩ := hagg k hk
      rw [hc]; simp [Value.cells]
    rw [hval]
    refine yl_call tabOk rfl hg rfl rfl (hcl wr hcw es[k] (List.getElem_mem hk)) ?_
    rintro _ w2 ⟨rfl, hc2⟩
    (refine yl_nil ?_)
    refine y_cond rfl (fun hc => ?_) (fun hc => ?_)
    · (refine y_seq (y_region (yl_pure tabOk rfl rfl (yl_pure tabOk rfl rfl (y_ret ?_)))))
      exact y_fin1 rfl rfl ⟨.inl ⟨k, rfl, hk, hc⟩, hcw.trans hc2⟩
    · (refine y_skip (y_region (yl_pure tabOk rfl rfl (yl_pure tabOk rfl rfl (yl_nil ?_)))))
      refine y_k (hK _ _ _ _ ⟨k + 1, by omega, rfl, rfl, fun i hi hik => ?_, hcw.trans hc2⟩ (by omega) ⟨rfl, rfl, rfl, ?_, trivial⟩)
      · by_cases h : i < k
        · exact hpk i hi h
        · obtain rfl : i = k := by omega
          exact hc
      · show some (Value.int _ (IntKind.i64.wrap (↑k + 1))) = _
        rw [w64 (by omega) (by omega)]
        rfl
  · (refine y_exit _ rfl (y_seq (y_region (yl_pure tabOk rfl rfl (y_ret ?_)))))
    refine y_fin1 rfl rfl ⟨.inr ⟨rfl, fun x hx => ?_⟩, hcw⟩
    obtain ⟨i, hi, rfl⟩ := List.getElem_of_mem hx
    exact hpk i hi (by omega)
theorem conF_day (w : World) (lo hi : Nat) (v cv : Value) (es : List Value) (p : Value → Bool) (hrd : RdE w lo hi v 6 es) (hagg : ∀ i (hi : i < es.length), ∃ c, es[i] = .agg c) (hlen : es.length < 4611686018427387904) (hp : PredAt Try.prog tab w cv es p) :
    Ca Try.prog 68 [v, cv] w fun r w' => r = .bool (es.any p) ∧ Chg [] w w' := by
  refine ca_of Try.func68 rfl (by simp [Try.ntmps68]) ?_
  (refine y_seq (y_region (yl_pure tabOk rfl rfl (y_seq (y_region (yl_pure tabOk rfl rfl (yl_pure tabOk rfl rfl ?_)))))))
  refine yl_call tabOk rfl rfl rfl rfl (idxF_day w lo hi v cv es p hrd hagg hlen hp) ?_
  rintro r w2 ⟨⟨i, rfl, hi, hpi⟩ | ⟨rfl, hall⟩, hc2⟩
  · (refine yl_pure tabOk rfl rfl (yl_pure tabOk rfl rfl (y_ret ?_)))
    refine y_fin1 rfl rfl ⟨?_, hc2⟩
    have h1 : es.any p = true := List.any_eq_true.2 ⟨_, List.getElem_mem hi, hpi⟩
    rw [h1]
    exact congrArg Value.bool (decide_eq_true (by omega))
  · (refine yl_pure tabOk rfl rfl (yl_pure tabOk rfl rfl (y_ret ?_)))
    refine y_fin1 rfl rfl ⟨?_, hc2⟩
    have h1 : es.any p = false := List.any_eq_false.2 (fun x hx => by simp [hall x hx])
    rw [h1]
    rfl
theorem all1_day (w : World) (b t : Nat) (cv x : Value) (es : List Value) (p : Value → Bool) (hx : ∃ c, x = .agg c ∧ c.size = 6) (hm : x ∈ es) (hb : Blk w b [cv] t) (hp : PredAt Try.prog tab w cv es p) :
    Ca Try.prog 69 [x, .pointer (some ⟨b, 0, none⟩)] w fun r w' => r = .bool (!(p x)) ∧ Chg [] w w' := by
  obtain ⟨g, first, caps, rfl, hg, hcl⟩ := hp
  obtain ⟨c, rfl, hcs⟩ := hx
  refine ca_of Try.func69 rfl (by simp [Try.ntmps69]) ?_
  (refine y_seq (y_region ?_))
  refine yl_box rfl rfl (fun w1 hc1 hs1 hb1 => ?_)
  have hb' := hb.keep hc1
  (refine yl_pure tabOk rfl rfl (y_seq (y_region ?_)); refine yl_loadB tabOk rfl rfl rfl (by assumption) (by rfl) ?_)
  refine yl_loadAB tabOk rfl rfl rfl hb1 (us := c.toList) (List.take_of_length_le (by simp [Value.cells, hcs])) (by simpa using hcs) ?_
  refine yl_call tabOk rfl hg rfl rfl (hcl w1 hc1 _ hm) ?_
  rintro _ w2 ⟨rfl, hc2⟩
  (refine yl_pure tabOk rfl rfl (yl_pure tabOk rfl rfl (y_ret ?_)))
  exact y_fin1 rfl rfl ⟨rfl, hc1.trans hc2⟩
theorem all_day (w : World) (lo hi : Nat) (v cv : Value) (es : List Value) (p : Value → Bool) (hrd : RdE w lo hi v 6 es) (hagg : ∀ i (hi : i < es.length), ∃ c, es[i] = .agg c) (hlen : es.length < 4611686018427387904) (hp : PredAt Try.prog tab w cv es p) :
    Ca Try.prog 55 [v, cv] w fun r w' => r = .bool (es.all p) ∧ Chg [] w w' := by
  refine ca_of Try.func55 rfl (by simp [Try.ntmps55]) ?_
  (refine y_seq (y_region ?_))
  refine yl_box rfl rfl (fun w1 hc1 hs1 hb1 => ?_)
  have hcv : cv.cells.toList = [cv] := by obtain ⟨g, first, caps, rfl, _, _⟩ := hp; rfl
  rw [hcv] at hb1
  have hp1 : PredAt Try.prog tab w1 (.func (.func 69) #[] #[.pointer (some ⟨w.heap.size, 0, none⟩)]) es (fun x => !(p x)) := by
    refine ⟨69, #[], #[_], rfl, rfl, fun w' hw' x hx => ?_⟩
    refine all1_day w' w.heap.size _ cv x es p ?_ hx (hb1.keep hw') (hp.keep (hc1.trans hw'))
    obtain ⟨i, hi, rfl⟩ := List.getElem_of_mem hx
    obtain ⟨c, hc⟩ := hagg i hi; exact ⟨c, hc, by have := hrd.sz _ hx; rw [hc] at this; exact this⟩
  (refine yl_pure tabOk rfl rfl (y_seq (y_region (yl_pure tabOk rfl rfl (yl_pure tabOk rfl rfl ?_)))))
  refine yl_call tabOk rfl rfl rfl rfl (conF_day w1 lo hi v _ es _ (hrd.keep hc1) hagg hlen hp1) ?_
  rintro _ w2 ⟨rfl, hc2⟩
  (refine yl_pure tabOk rfl rfl (yl_pure tabOk rfl rfl (y_ret ?_)))
  refine y_fin1 rfl rfl ⟨?_, hc1.trans hc2⟩
  rw [List.all_eq_not_any_not]
theorem within_ca (n lo hi : Int) (w : World) : Ca Try.prog 54 [.int .i64 n, .int .i64 lo, .int .i64 hi] w fun v w' => v = .bool (wiB n lo hi) ∧ Chg [] w w' := by
  refine q_of (Sat.nil w M0) Try.func54 rfl (by simp [Try.ntmps54]) ?_
  (refine q_seq (q_region (ql_pure tabOk rfl rfl (q_nil (q_seq (q_region ?_))))); (iterate 4 refine ql_pure tabOk rfl rfl ?_))
  refine ql_split rfl rfl (fun hc => ?_) (fun hc => ?_)
  · (refine ql_gyes rfl (ql_pure tabOk rfl rfl (ql_gyes rfl (ql_pure tabOk rfl rfl (ql_gyes rfl ?_)))); (iterate 3 refine ql_pure tabOk rfl rfl ?_); refine q_nil (q_ret ?_))
    refine q_fin tabOk rfl (by repeat constructor) fun w hs => ?_
    exact ⟨by simp at hc; simp [wiB, hc, retV], hs.chg0⟩
  · ((iterate 3 refine ql_gno rfl rfl rfl ?_); refine ql_pure tabOk rfl rfl (ql_pure tabOk rfl rfl (q_nil (q_ret ?_))))
    refine q_fin tabOk rfl (by repeat constructor) fun w hs => ?_
    exact ⟨by simp at hc; simp [wiB, retV]; omega, hs.chg0⟩
theorem spn_ca (a b g : Int) (w : World) : Ca Try.prog 57 [.agg #[.int .i64 a, .int .i64 b], .int .i64 g] w fun v w' => v = .bool (spnB a b g) ∧ Chg [] w w' := by
  refine q_of (Sat.nil w M0) Try.func57 rfl (by simp [Try.ntmps57]) ?_
  (refine q_seq (q_region ?_))
  refine ql_box rfl rfl (fun b2 => ?_)
  (refine ql_pure tabOk rfl rfl (q_nil (q_seq (q_region (ql_pure tabOk rfl rfl ?_)))); refine ql_loadBa tabOk rfl rfl rfl ?_; refine ql_pure tabOk rfl rfl ?_; refine ql_loadBa tabOk rfl rfl rfl ?_)
  refine ql_callv (val := .bool (wiB a 0 b)) tabOk rfl rfl rfl rfl (fun w hs => ?_) ?_; exact within_ca a 0 b w
  (refine ql_pure tabOk rfl rfl ?_)
  refine ql_split rfl rfl (fun hc => ?_) (fun hc => ?_)
  · (refine ql_gyes rfl (ql_pure tabOk rfl rfl (ql_gyes rfl ?_)); refine ql_loadBa tabOk rfl rfl rfl ?_; refine ql_gyes rfl (ql_pure tabOk rfl rfl (ql_gyes rfl ?_)); (iterate 3 refine ql_pure tabOk rfl rfl ?_); refine q_nil (q_ret ?_))
    refine q_fin tabOk rfl (by repeat constructor) fun w hs => ?_
    exact ⟨by simp [wiB] at hc; simp [spnB, hc, retV], hs.chg0⟩
  · ((iterate 4 refine ql_gno rfl rfl rfl ?_); refine ql_pure tabOk rfl rfl (ql_pure tabOk rfl rfl (q_nil (q_ret ?_))))
    refine q_fin tabOk rfl (by repeat constructor) fun w hs => ?_
    exact ⟨by simp [wiB] at hc; simp [spnB, retV]; omega, hs.chg0⟩
theorem remP_zero : ∀ (l : List (Int × Int)), remP 0 l = l
  | [] => rfl
  | (d, m) :: r => by simp [remP]
def firstV (w : Wn) : Int × Int := if checkW w ≠ 0 then (0, checkW w) else if (hapV w (worstW w)).fails = -1 then (0, 6) else ((hapV w (worstW w)).fails, 0)
def pDy : Value → Bool
  | .agg cs => match cs.toList with
    | [.int _ a, .int _ b, .int _ c, .int _ d, .int _ e, .int _ f] => dayB ⟨a, b, c, d, e, f⟩
    | _ => false
  | _ => false
theorem pDy_all (l : List Dy) : (l.map dyV).all pDy = l.all dayB := by
  rw [List.all_map]
  rfl
theorem dyV_agg (l : List Dy) : ∀ i (hi : i < (l.map dyV).length), ∃ c, (l.map dyV)[i] = .agg c := fun i hi => ⟨_, by rw [List.getElem_map]⟩
theorem chkW1_p (w : World) (l : List Dy) : PredAt Try.prog tab w (.func (.func 56) #[] #[]) (l.map dyV) pDy := by
  refine ⟨_, _, _, rfl, rfl, fun w' hw' x hx => ?_⟩
  obtain ⟨⟨a, b, c, d, e, f⟩, hy, rfl⟩ := List.mem_map.1 hx
  refine q_of (Sat.nil w' M0) Try.func56 rfl (by simp [Try.ntmps56]) ?_
  (refine q_seq (q_region ?_))
  refine ql_box rfl rfl (fun b1 => ?_)
  (refine ql_pure tabOk rfl rfl (q_nil (q_seq (q_region (ql_pure tabOk rfl rfl ?_)))); refine ql_loadABa tabOk rfl rfl rfl ?_)
  refine ql_callv (val := .bool (spnB a b 100000)) tabOk rfl rfl rfl rfl (fun w hs => ?_) ?_; exact spn_ca a b 100000 w
  (refine ql_pure tabOk rfl rfl ?_)
  refine ql_split rfl rfl (fun hc => ?_) (fun hc => ?_)
  · (refine ql_gyes rfl (ql_pure tabOk rfl rfl (ql_gyes rfl ?_)); refine ql_loadABa tabOk rfl rfl rfl ?_; refine ql_gyes rfl ?_)
    refine ql_callv (val := .bool (spnB c d 100000)) tabOk rfl rfl rfl rfl (fun w hs => ?_) ?_; exact spn_ca c d 100000 w
    (refine ql_pure tabOk rfl rfl (ql_pure tabOk rfl rfl ?_))
    refine ql_split rfl rfl (fun hc => ?_) (fun hc => ?_)
    · (refine ql_gyes rfl (ql_pure tabOk rfl rfl (ql_gyes rfl ?_)); refine ql_loadABa tabOk rfl rfl rfl ?_; refine ql_gyes rfl ?_)
      refine ql_callv (val := .bool (spnB e f 100000)) tabOk rfl rfl rfl rfl (fun w hs => ?_) ?_; exact spn_ca e f 100000 w
      (refine ql_pure tabOk rfl rfl (ql_pure tabOk rfl rfl (q_nil (q_ret ?_))))
      refine q_fin tabOk rfl (by repeat constructor) fun w hs => ?_
      exact ⟨by simp [retV, pDy, dayB, *], hs.chg0⟩
    · ((iterate 3 refine ql_gno rfl rfl rfl ?_); refine ql_pure tabOk rfl rfl (ql_pure tabOk rfl rfl (q_nil (q_ret ?_))))
      refine q_fin tabOk rfl (by repeat constructor) fun w hs => ?_
      exact ⟨by simp [retV, pDy, dayB, *], hs.chg0⟩
  · ((iterate 3 refine ql_gno rfl rfl rfl ?_); refine ql_pure tabOk rfl rfl (ql_pure tabOk rfl rfl ?_); (iterate 3 refine ql_gno rfl rfl rfl ?_); refine ql_pure tabOk rfl rfl (ql_pure tabOk rfl rfl (q_nil (q_ret ?_))))
    refine q_fin tabOk rfl (by repeat constructor) fun w hs => ?_
    exact ⟨by simp [retV, pDy, dayB, *], hs.chg0⟩
/-- The cells of a winter. -/
abbrev wnC (x : Wn) (a : Option Addr) (c : Nat) : List Value := [.int .i64 x.stock, .int .i64 x.store, .slice a x.days.length c]
theorem checkW_ca (w : World) (lo hi : Nat) (x : Wn) (a : Option Addr) (c : Nat) (h : RdD w lo hi (.slice a x.days.length c) x.days) (hlen : x.days.length ≤ 1000000) : Ca Try.prog 42 [.agg (wnC x a c).toArray] w fun r w' => r = .int .i64 (checkW x) ∧ Chg [] w w' := by
  refine q_of (Sat.nil w M0) Try.func42 rfl (by simp [Try.ntmps42]) ?_
  (refine q_seq (q_region ?_))
  refine ql_box rfl rfl (fun b1 => ?_)
  (refine ql_pure tabOk rfl rfl (q_nil (q_seq (q_block (q_seq (q_region (ql_pure tabOk rfl rfl ?_)))))); refine ql_loadBa tabOk rfl rfl rfl ?_)
  refine ql_callv (val := .bool (wiB x.store 1 1000000)) tabOk rfl rfl rfl rfl (fun w hs => ?_) ?_; exact within_ca x.store 1 1000000 w
  (refine ql_pure tabOk rfl rfl (ql_pure tabOk rfl rfl ?_))
  refine ql_split rfl rfl (fun hc => ?_) (fun hc => ?_)
  · ((iterate 6 refine ql_gno rfl rfl rfl ?_); refine ql_pure tabOk rfl rfl (ql_pure tabOk rfl rfl (q_nil (q_cond_true rfl (q_seq (q_region (ql_pure tabOk rfl rfl (q_nil (q_ret ?_)))))))))
    refine q_fin tabOk rfl (by repeat constructor) fun w hs => ?_
    exact ⟨by simp [wiB] at hc; simp only [retV, checkW]; rw [if_pos (by omega)], hs.chg0⟩
  have h1 := wiB_iff.1 (show wiB x.store 1 1000000 = true by simpa using hc)
  clear hc
  (refine ql_gyes rfl (ql_pure tabOk rfl rfl (ql_gyes rfl ?_)); refine ql_loadBa tabOk rfl rfl rfl ?_; refine ql_gyes rfl (ql_pure tabOk rfl rfl (ql_gyes rfl ?_)); refine ql_loadBa tabOk rfl rfl rfl ?_; refine ql_gyes rfl ?_)
  refine ql_callv (val := .bool (wiB x.stock 0 x.store)) tabOk rfl rfl rfl rfl (fun w hs => ?_) ?_; exact within_ca x.stock 0 x.store w
  (refine ql_gyes rfl ?_; (iterate 3 refine ql_pure tabOk rfl rfl ?_); refine q_nil ?_)
  refine q_cond rfl (fun hc => ?_) (fun hc => ?_)
  · (refine q_seq (q_region (ql_pure tabOk rfl rfl (q_nil (q_ret ?_)))))
    refine q_fin tabOk rfl (by repeat constructor) fun w hs => ?_
    exact ⟨by simp [wiB] at hc; simp only [retV, checkW]; rw [if_pos (by omega)], hs.chg0⟩
  have h2 := wiB_iff.1 (show wiB x.stock 0 x.store = true by simpa using hc)
  clear hc
  (refine q_seq (q_region (ql_pure tabOk rfl rfl ?_)); refine ql_loadBa tabOk rfl rfl rfl ?_; refine ql_pure tabOk rfl rfl ?_)
  refine ql_callv (val := .bool (wiB x.days.length 1 60)) tabOk rfl rfl rfl rfl (fun w hs => ?_) ?_; exact within_ca x.days.length 1 60 w
  (refine ql_pure tabOk rfl rfl (ql_pure tabOk rfl rfl (q_nil ?_)))
  refine q_cond rfl (fun hc => ?_) (fun hc => ?_)
  · (refine q_seq (q_region (ql_pure tabOk rfl rfl (q_nil (q_ret ?_)))))
    refine q_fin tabOk rfl (by repeat constructor) fun w hs => ?_
    exact ⟨by simp [wiB] at hc; simp only [retV, checkW]; rw [if_neg (by omega), if_pos (by omega)], hs.chg0⟩
  have h3 := wiB_iff.1 (show wiB x.days.length 1 60 = true by simpa using hc)
  clear hc
  (refine q_seq (q_region (ql_pure tabOk rfl rfl ?_)); refine ql_loadBa tabOk rfl rfl rfl ?_)
  refine ql_callv (val := .bool (x.days.all dayB)) tabOk rfl rfl rfl rfl (fun w hs => ?_) ?_; exact by have := all_day w lo hi _ _ (x.days.map dyV) pDy (RdE.keep h hs.chg0) (dyV_agg x.days) (by simp; omega) (chkW1_p w x.days); rw [pDy_all] at this; exact this
  (refine ql_pure tabOk rfl rfl (ql_pure tabOk rfl rfl (q_nil ?_)))
  by_cases h4 : x.days.all dayB = true
  · rw [h4]
    (refine q_cond_false rfl (q_skip (q_blk (q_seq (q_region (ql_pure tabOk rfl rfl (q_nil (q_ret ?_))))))))
    refine q_fin tabOk rfl (by repeat constructor) fun w hs => ?_
    exact ⟨by simp only [retV, checkW, h4]; rw [if_neg (by omega), if_neg (by omega)]; rfl, hs.chg0⟩
  · rw [Bool.eq_false_iff.2 h4]
    (refine q_cond_true rfl (q_seq (q_region (ql_pure tabOk rfl rfl (q_nil (q_ret ?_))))))
    refine q_fin tabOk rfl (by repeat constructor) fun w hs => ?_
    exact ⟨by simp only [retV, checkW, Bool.eq_false_iff.2 h4]; rw [if_neg (by omega), if_neg (by omega)]; rfl, hs.chg0⟩
theorem greatest_ca (w : World) : Ca Try.prog 61 [] w fun r w' => r = .agg #[.func (.func 70) #[] #[]] ∧ Chg [] w w' := by
  refine q_of (Sat.nil w M0) Try.func61 rfl (by simp [Try.ntmps61]) ?_
  (refine q_seq (q_region ?_))
  refine ql_alloc zero108 rfl (fun b0 => ?_)
  (refine q_nil (q_seq (q_region ?_)))
  refine ql_mk #[.func (.func 70) #[] #[]] rfl (by kernel_rfl) rfl ?_
  (refine ql_setA tabOk rfl rfl rfl rfl rfl (by repeat constructor) rfl ?_; refine q_nil (q_ret ?_))
  refine q_fin tabOk rfl (by repeat constructor) fun w hs => ?_
  exact ⟨rfl, hs.chg0⟩
theorem leastE_ca (w : World) : Ca Try.prog 62 [] w fun r w' => r = .agg #[.func (.func 71) #[] #[]] ∧ Chg [] w w' := by
  refine q_of (Sat.nil w M0) Try.func62 rfl (by simp [Try.ntmps62]) ?_
  (refine q_seq (q_region ?_))
  refine ql_alloc zero108 rfl (fun b0 => ?_)
  (refine q_nil (q_seq (q_region ?_)))
  refine ql_mk #[.func (.func 71) #[] #[]] rfl (by kernel_rfl) rfl ?_
  (refine ql_setA tabOk rfl rfl rfl rfl rfl (by repeat constructor) rfl ?_; refine q_nil (q_ret ?_))
  refine q_fin tabOk rfl (by repeat constructor) fun w hs => ?_
  exact ⟨rfl, hs.chg0⟩
theorem greatest1_ca (w : World) (a b : Int) : Ca Try.prog 70 [.agg #[.int .i64 a, .int .i64 b]] w fun r w' => r = .int .i64 b ∧ Chg [] w w' := by
  refine q_of (Sat.nil w M0) Try.func70 rfl (by simp [Try.ntmps70]) ?_
  (refine q_seq (q_region ?_))
  refine ql_box rfl rfl (fun b1 => ?_)
  (refine ql_pure tabOk rfl rfl (q_nil (q_seq (q_region (ql_pure tabOk rfl rfl ?_)))); refine ql_loadBa tabOk rfl rfl rfl ?_; refine ql_pure tabOk rfl rfl (q_nil (q_ret ?_)))
  refine q_fin tabOk rfl (by repeat constructor) fun w hs => ?_
  exact ⟨rfl, hs.chg0⟩
theorem least1_ca (w : World) (a b : Int) : Ca Try.prog 71 [.agg #[.int .i64 a, .int .i64 b]] w fun r w' => r = .int .i64 a ∧ Chg [] w w' := by
  refine q_of (Sat.nil w M0) Try.func71 rfl (by simp [Try.ntmps71]) ?_
  (refine q_seq (q_region ?_))
  refine ql_box rfl rfl (fun b1 => ?_)
  (refine ql_pure tabOk rfl rfl (q_nil (q_seq (q_region (ql_pure tabOk rfl rfl ?_)))); refine ql_loadBa tabOk rfl rfl rfl ?_; refine ql_pure tabOk rfl rfl (q_nil (q_ret ?_)))
  refine q_fin tabOk rfl (by repeat constructor) fun w hs => ?_
  exact ⟨rfl, hs.chg0⟩
/-- One end of spans, as a function value. -/
def EndAt (f : Value) (p : Int → Int → Int) : Prop := oneV f = true ∧ ∀ w a b, CaF Try.prog f [.agg #[.int .i64 a, .int .i64 b]] w fun r w' => r = .int .i64 (p a b) ∧ Chg [] w w'
theorem great_at : EndAt (.func (.func 70) #[] #[]) (fun _ b => b) := ⟨rfl, fun w a b => CaF.of tabOk rfl (greatest1_ca w a b)⟩
theorem least_at : EndAt (.func (.func 71) #[] #[]) (fun a _ => a) := ⟨rfl, fun w a b => CaF.of tabOk rfl (least1_ca w a b)⟩
/-- The pieces of a weather. -/
abbrev wtK (v1 v2 v3 : Value) (t : Wt) : List Ck := [.ow v1 3 1 t.need.length (ints t.need), .ow v2 3 1 t.make.length (ints t.make), .ow v3 3 1 t.loss.length (ints t.loss)]
def endW (pu pg : Int → Int → Int) (l : List Dy) : Wt := ⟨l.map (fun d => pu d.n0 d.n1), l.map (fun d => pg d.m0 d.m1), l.map (fun d => pu d.l0 d.l1)⟩
set_option maxHeartbeats 4000000 in
theorem weather_ca (w : World) (lo hi : Nat) (x : Wn) (a : Option Addr) (c : Nat) (fu fg : Value) (pu pg : Int → Int → Int) (h : RdD w lo hi (.slice a x.days.length c) x.days) (hlen : x.days.length ≤ 1000000) (hu : EndAt fu pu) (hg : EndAt fg pg) :
    Ca Try.prog 60 [.agg (wnC x a c).toArray, .agg #[fu], .agg #[fg]] w fun r w' => ∃ y : Value × Value × Value, r = .agg #[y.1, y.2.1, y.2.2] ∧ Sat w M0 (wtK y.1 y.2.1 y.2.2 (endW pu pg x.days)) w' := by
  obtain ⟨_, _, e0, hsa⟩ := RdD.outI h
  cases e0
  have ou := hu.1
  have og := hg.1
  refine q_of (Sat.nil w M0) Try.func60 rfl (by simp [Try.ntmps60]) ?_
  (refine q_seq (q_region ?_))
  refine ql_box rfl rfl (fun b3 => ?_)
  refine ql_box rfl rfl (fun b4 => ?_)
  refine ql_box rfl rfl (fun b5 => ?_)
  refine ql_alloc zero96 rfl (fun b6 => ?_)
  (refine q_nil (q_seq (q_region ?_)))
  refine ql_alloc zero96 rfl (fun b7 => ?_)
  (refine q_nil (q_seq (q_seq (q_region (ql_pure tabOk rfl rfl ?_)))); refine ql_loadBa tabOk rfl rfl rfl ?_; refine ql_pure tabOk rfl rfl (ql_pure tabOk rfl rfl (q_nil (q_block ?_))))
  refine q_conv (H' := [.pt b7 [.slice none 0 0, .slice none 0 0, .slice none 0 0] 96, .ow (.slice none 0 0) 3 1 0 (ints []), .ow (.slice none 0 0) 3 1 0 (ints []), .ow (.slice none 0 0) 3 1 0 (ints []), .pt b6 [.slice none 0 0, .slice none 0 0, .slice none 0 0] 96, .pt b5 [fg] 108, .pt b4 [fu] 108])
    (fun w' hs => (Sat.ownil (Sat.ownil (Sat.ownil hs 3 1) 3 1) 3 1).sp (by repeat constructor)) ?_
  refine q_loop (σ := Nat × Value × Value × Value) (fun s => s.1 ≤ x.days.length) (fun s => x.days.length - s.1) (fun s => [(4, .pointer (some ⟨b4, 0, none⟩)), (5, .pointer (some ⟨b5, 0, none⟩)), (6, .pointer (some ⟨b6, 0, none⟩)), (7, .pointer (some ⟨b7, 0, none⟩)), (11, .slice a x.days.length c), (12, .int .i64 x.days.length), (13, .int .i64 s.1)])
    (fun s => [.pt b7 [s.2.1, s.2.2.1, s.2.2.2] 96, .ow s.2.1 3 1 s.1 (ints (endW pu pg (x.days.take s.1)).need), .ow s.2.2.1 3 1 s.1 (ints (endW pu pg (x.days.take s.1)).make), .ow s.2.2.2 3 1 s.1 (ints (endW pu pg (x.days.take s.1)).loss), .pt b6 [.slice none 0 0, .slice none 0 0, .slice none 0 0] 96, .pt b5 [fg] 108, .pt b4 [fu] 108])
    (0, .slice none 0 0, .slice none 0 0, .slice none 0 0) (by simp) ⟨rfl, rfl, rfl, rfl, rfl, rfl, rfl, trivial⟩ (Sp.refl _) ?_
  rintro ⟨k, v1, v2, v3⟩ hk K hK
  simp only at hk
  dsimp only
  (refine q_seq (q_region (ql_pure tabOk rfl rfl (q_nil (q_seq ?_)))))
  refine q_if rfl (fun hc => ?_) (fun hc => ?_)
  · have hk2 : k < x.days.length := by omega
    clear hc
    obtain ⟨ba, oa, rfl⟩ := hsa (by omega)
    (refine q_skip (q_seq (q_block (q_seq (q_region ?_)))))
    refine ql_index tabOk rfl rfl rfl rfl rfl (by omega) (by omega) ?_
    refine ql_loadA tabOk rfl rfl rfl rfl (fun w hs => RdD.at (RdE.keep h hs.chg0) k hk2) ?_
    skip
    refine ql_alloc zero85 rfl (fun b9 => ?_)
    (refine ql_setA tabOk rfl rfl rfl rfl rfl (by repeat constructor) rfl ?_; refine q_nil ?_)
    have e0 : endW pu pg (x.days.take (k + 1)) = ⟨(endW pu pg (x.days.take k)).need ++ [pu x.days[k].n0 x.days[k].n1], (endW pu pg (x.days.take k)).make ++ [pg x.days[k].m0 x.days[k].m1], (endW pu pg (x.days.take k)).loss ++ [pu x.days[k].l0 x.days[k].l1]⟩ := by
      rw [List.take_succ_eq_append_getElem hk2]
      simp only [endW, List.map_append]
      rfl
    generalize x.days[k] = d at *
    obtain ⟨n0, n1, m0, m1, l0, l1⟩ := d
    dsimp only at e0 ⊢
    refine q_drawS2 27 [.pt b9 [.int .i64 n0, .int .i64 n1, .int .i64 m0, .int .i64 m1, .int .i64 l0, .int .i64 l1] 85, .pt b7 [v1, v2, v3] 96, .pt b6 [.slice none 0 0, .slice none 0 0, .slice none 0 0] 96, .pt b5 [fg] 108, .pt b4 [fu] 108] [.ow v1 3 1 k (ints (endW pu pg (x.days.take k)).need), .ow v2 3 1 k (ints (endW pu pg (x.days.take k)).make), .ow v3 3 1 k (ints (endW pu pg (x.days.take k)).loss)] [.pt b6 [.slice none 0 0, .slice none 0 0, .slice none 0 0] 96, .pt b5 [fg] 108, .pt b4 [fu] 108] [.pt b7 [v1, v2, v3] 96]
      (by repeat constructor) (by repeat constructor) (by kernel_rfl) (by kernel_rfl) (by kernel_rfl) fun K1 hK1 => ?_
    (refine qf_pure tabOk rfl rfl rfl ?_; refine qf_loadBa tabOk rfl rfl rfl ?_; refine qf_pure tabOk rfl rfl rfl ?_; refine qf_loadBa tabOk rfl rfl rfl ?_; refine qf_pure tabOk rfl rfl rfl ?_; refine qf_loadABa tabOk rfl rfl rfl ?_)
    refine qf_callFv rfl rfl rfl (fun w hs => hu.2 w n0 n1) ?_
    skip
    refine qf_mkS 3 [.int .i64 (pu n0 n1)] rfl (by kernel_rfl) rfl (fun c1 => ?_)
    refine qf_append (q := 1) slI rfl rfl rfl (fun v' => by repeat constructor) (fun w' hs => ⟨_, _, Blk.rd (hs.blk (b := c1) (by repeat constructor)) rfl 1⟩) (by simp [oneV]) (by omega) (by omega) (fun u1 => ?_)
    (refine qf_pure tabOk rfl rfl rfl ?_; refine qf_loadBa tabOk rfl rfl rfl ?_; refine qf_pure tabOk rfl rfl rfl ?_; refine qf_loadBa tabOk rfl rfl rfl ?_; refine qf_pure tabOk rfl rfl rfl ?_; refine qf_loadABa tabOk rfl rfl rfl ?_)
    refine qf_callFv rfl rfl rfl (fun w hs => hg.2 w m0 m1) ?_
    skip
    refine qf_mkS 3 [.int .i64 (pg m0 m1)] rfl (by kernel_rfl) rfl (fun c2 => ?_)
    refine qf_append (q := 1) slI rfl rfl rfl (fun v' => by repeat constructor) (fun w' hs => ⟨_, _, Blk.rd (hs.blk (b := c2) (by repeat constructor)) rfl 1⟩) (by simp [oneV]) (by omega) (by omega) (fun u2 => ?_)
    (refine qf_pure tabOk rfl rfl rfl ?_; refine qf_loadBa tabOk rfl rfl rfl ?_; refine qf_pure tabOk rfl rfl rfl ?_; refine qf_loadBa tabOk rfl rfl rfl ?_; refine qf_pure tabOk rfl rfl rfl ?_; refine qf_loadABa tabOk rfl rfl rfl ?_)
    refine qf_callFv rfl rfl rfl (fun w hs => hu.2 w l0 l1) ?_
    skip
    refine qf_mkS 3 [.int .i64 (pu l0 l1)] rfl (by kernel_rfl) rfl (fun c3 => ?_)
    refine qf_append (q := 1) slI rfl rfl rfl (fun v' => by repeat constructor) (fun w' hs => ⟨_, _, Blk.rd (hs.blk (b := c3) (by repeat constructor)) rfl 1⟩) (by simp [oneV]) (by omega) (by omega) (fun u3 => ?_)
    (refine qf_nil ?_)
    refine hK1 _ _ [.pt b7 [v1, v2, v3] 96, .ow u1 3 1 (k + 1) (ints (endW pu pg (x.days.take k)).need ++ [.int .i64 (pu n0 n1)]), .ow u2 3 1 (k + 1) (ints (endW pu pg (x.days.take k)).make ++ [.int .i64 (pg m0 m1)]), .ow u3 3 1 (k + 1) (ints (endW pu pg (x.days.take k)).loss ++ [.int .i64 (pu l0 l1)])] (by repeat constructor) ?_
    refine qf_fact (fun w hs => hs.slice (v := u1) (by repeat constructor)) ?_
    rintro ⟨a1, g1, d1, rfl⟩
    refine qf_fact (fun w hs => hs.slice (v := u2) (by repeat constructor)) ?_
    rintro ⟨a2, g2, d2, rfl⟩
    refine qf_fact (fun w hs => hs.slice (v := u3) (by repeat constructor)) ?_
    rintro ⟨a3, g3, d3, rfl⟩
    (refine qf_pure tabOk rfl rfl rfl ?_; refine qf_st0 tabOk rfl rfl rfl rfl (by repeat constructor) ?_; refine qf_pure tabOk rfl rfl rfl ?_; refine qf_st1 tabOk rfl rfl rfl rfl (by repeat constructor) ?_; refine qf_pure tabOk rfl rfl rfl ?_; refine qf_st2 tabOk rfl rfl rfl rfl (by repeat constructor) ?_; refine qf_nil (q_blk (q_region (ql_ar tabOk rfl rfl rfl rfl (by omega) (by omega) (ql_pure tabOk rfl rfl (q_nil ?_))))))
    have f1 : ints (endW pu pg (x.days.take (k + 1))).need = ints (endW pu pg (x.days.take k)).need ++ [.int .i64 (pu n0 n1)] := by rw [e0]; simp [ints]
    have f2 : ints (endW pu pg (x.days.take (k + 1))).make = ints (endW pu pg (x.days.take k)).make ++ [.int .i64 (pg m0 m1)] := by rw [e0]; simp [ints]
    have f3 : ints (endW pu pg (x.days.take (k + 1))).loss = ints (endW pu pg (x.days.take k)).loss ++ [.int .i64 (pu l0 l1)] := by rw [e0]; simp [ints]
    exact hK (k + 1, .slice a1 g1 d1, .slice a2 g2 d2, .slice a3 g3 d3) _ _ (by simp only; omega) (by simp only; omega) ⟨rfl, rfl, rfl, rfl, rfl, rfl, rfl, trivial⟩ (by dsimp only; rw [f1, f2, f3]; repeat constructor)
  · obtain rfl : k = x.days.length := by omega
    clear hc hK
    rw [List.take_length]
    refine q_fact (fun w hs => hs.slice (v := v1) (by repeat constructor)) ?_
    rintro ⟨a1, g1, d1, rfl⟩
    refine q_fact (fun w hs => hs.slice (v := v2) (by repeat constructor)) ?_
    rintro ⟨a2, g2, d2, rfl⟩
    refine q_fact (fun w hs => hs.slice (v := v3) (by repeat constructor)) ?_
    rintro ⟨a3, g3, d3, rfl⟩
    (refine q_exit _ rfl (q_seq (q_region ?_)); refine ql_loadABa tabOk rfl rfl rfl ?_; refine ql_setA tabOk rfl rfl rfl rfl rfl (by repeat constructor) rfl ?_; refine q_nil (q_ret ?_))
    refine q_fin tabOk rfl (by repeat constructor) fun w hs => ?_
    have z1 : (endW pu pg x.days).need.length = x.days.length := by simp [endW]
    have z2 : (endW pu pg x.days).make.length = x.days.length := by simp [endW]
    have z3 : (endW pu pg x.days).loss.length = x.days.length := by simp [endW]
    refine ⟨(_, _, _), rfl, ?_⟩
    rw [wtK, z1, z2, z3]
    exact hs.sp (by repeat constructor)
theorem worst_eq (x : Wn) : endW (fun _ b => b) (fun a _ => a) x.days = worstW x := rfl
set_option maxHeartbeats 1000000 in
theorem worst_ca (w : World) (lo hi : Nat) (x : Wn) (a : Option Addr) (c : Nat) (h : RdD w lo hi (.slice a x.days.length c) x.days) (hlen : x.days.length ≤ 1000000) :
    Ca Try.prog 44 [.agg (wnC x a c).toArray] w fun r w' => ∃ y : Value × Value × Value, r = .agg #[y.1, y.2.1, y.2.2] ∧ Sat w M0 (wtK y.1 y.2.1 y.2.2 (worstW x)) w' := by
  refine q_of (Sat.nil w M0) Try.func44 rfl (by simp [Try.ntmps44]) ?_
  (refine q_seq (q_region ?_))
  refine ql_box rfl rfl (fun b1 => ?_)
  refine ql_alloc zero96 rfl (fun b2 => ?_)
  (refine q_nil (q_seq ?_))
  refine q_draw _ [.pt b2 _ _] (Sp.cons (by repeat constructor) (Sp.refl _)) (by kernel_rfl) (by kernel_rfl) ?_
  (refine qf_loadABa tabOk rfl rfl rfl ?_)
  refine qf_callv tabOk rfl rfl rfl rfl (fun w hs => greatest_ca w) ?_
  skip
  refine qf_callv tabOk rfl rfl rfl rfl (fun w hs => leastE_ca w) ?_
  skip
  refine qf_call (β := Value × Value × Value) tabOk [] _ M0 rfl rfl rfl rfl (Sp.refl _) (fun _ h => h.elim) (fun w' hs => weather_ca w' lo hi x a c _ _ _ _ (RdE.keep h hs.chg0) hlen great_at least_at) ?_
  rintro ⟨v1, v2, v3⟩ _ rfl
  rw [worst_eq]
  dsimp only [wtK, List.cons_append, List.nil_append]
  refine qf_fact (fun w hs => hs.slice (v := v1) (by repeat constructor)) ?_
  rintro ⟨a1, g1, d1, rfl⟩
  refine qf_fact (fun w hs => hs.slice (v := v2) (by repeat constructor)) ?_
  rintro ⟨a2, g2, d2, rfl⟩
  refine qf_fact (fun w hs => hs.slice (v := v3) (by repeat constructor)) ?_
  rintro ⟨a3, g3, d3, rfl⟩
  (refine qf_setA tabOk rfl rfl rfl rfl rfl (by repeat constructor) rfl ?_; refine qf_nil (q_ret ?_))
  refine q_fin tabOk rfl (by repeat constructor) fun w hs => ?_
  exact ⟨(_, _, _), rfl, hs.sp (by repeat constructor)⟩
/-- Piles that can be read. -/
def plK (v : Value) (l : List (Int × Int)) : Ck := .gn (fun b => ∃ off n c, v = .slice (some ⟨b, off, none⟩) n c) (fun w => Rd w 0 w.heap.size v 2 l.length (spC l)) (fun w w' N h hc hN => by
  obtain ⟨h1, h2⟩ := h
  refine ⟨h1, ?_⟩
  rcases h2 with h2 | ⟨b, off, cap, hv, hb, hcell⟩
  · exact .inl h2
  · refine .inr ⟨b, off, cap, hv, fun hp => ⟨Nat.zero_le _, Nat.lt_of_lt_of_le (hb hp).2.1 hc.size, Nat.lt_of_lt_of_le (hb hp).2.2 hc.size⟩, fun j hj => ?_⟩
    rw [← hcell j hj]
    exact World.cell?_of_block (w := w) (hc.block b (hb (by omega)).2.2 (hN b ⟨off, _, cap, hv⟩)))
theorem slPl : SlT Try.prog 78 116 2 16 (.agg #[.int .i64 0, .int .i64 0]) := ⟨by kernel_rfl, by kernel_rfl, by kernel_rfl, by decide⟩
/-- The cells of a run. -/
abbrev rnC (x : Wn) (a : Option Addr) (c : Nat) (fails : Int) (sv mv : Value) (full : Int) (pv : Value) : List Value := [.int .i64 x.stock, .int .i64 x.store, .slice a x.days.length c, .int .i64 fails, sv, mv, .int .i64 full, pv]
theorem spC_one (l : List (Int × Int)) : ∀ c ∈ spC l, oneV c = true := fun c hc => by obtain ⟨y, _, hy⟩ := List.mem_flatMap.1 hc; simp at hy; rcases hy with rfl | rfl <;> rfl
theorem ow_plK {w0 w : World} {M : Nat → Prop} {v : Value} {t n : Nat} {l : List (Int × Int)} {R : List Ck} (hn : n = l.length) (h : Sat w0 M (.ow v t 2 n (spC l) :: R) w) : Sat w0 M (plK v l :: R) w := by
  subst hn
  refine h.turn (fun b hb => ?_) (fun h => own_rd h)
  obtain ⟨off, n, c, rfl⟩ := hb
  obtain ⟨a, m, c', hv⟩ := h.slice (.head _)
  have hp : w.ownsRow 0 t 2 _ l.length (spC l) := h.all _ (.head _)
  rcases hp.2 with ⟨hv, _⟩ | ⟨g, cap, cur, hv, _⟩
  · cases hv
  · cases hv
    rfl
theorem Blk.rdSp {w : World} {b : Nat} {x y : Int} {t : TypeId} (h : Blk w b [.int .i64 x, .int .i64 y] t) : Rd w b (b + 1) (.slice (some ⟨b, 0, none⟩) 1 1) 2 1 (spC [(x, y)]) :=
  ⟨rfl, .inr ⟨b, 0, 1, rfl, fun _ => ⟨Nat.le_refl _, Nat.lt_succ_self _, h.lt⟩, fun j _ => by rw [Blk.cell h]; simp [spC]⟩⟩
/-- A run. -/
abbrev runK (br : Nat) (x : Wn) (a : Option Addr) (c : Nat) (fails full : Int) (sv mv pv : Value) : Ck := .pt br (rnC x a c fails sv mv full pv) 80
set_option maxHeartbeats 1000000 in
theorem addR_ca (w : World) (br : Nat) (x : Wn) (ad : Option Addr) (c : Nat) (fails full day much : Int) (sv mv : Value) (a : Option Addr) (l : List (Int × Int)) (hl : l.length ≤ 1000)
    (hs0 : Sat w (DL [runK br x ad c fails full sv mv (.slice a l.length l.length), plK (.slice a l.length l.length) l]) [runK br x ad c fails full sv mv (.slice a l.length l.length), plK (.slice a l.length l.length) l] w) :
    Ca Try.prog 58 [.pointer (some ⟨br, 0, none⟩), .int .i64 day, .int .i64 much] w fun r w' => ∃ pv, (∃ a' c', pv = .slice a' (addP day much l).length c') ∧ Sat w (DL [runK br x ad c fails full sv mv (.slice a l.length l.length), plK (.slice a l.length l.length) l]) [runK br x ad c fails full sv mv pv, plK pv (addP day much l)] w' := by
  refine q_of hs0 Try.func58 rfl (by simp [Try.ntmps58]) ?_
  (refine q_seq (q_region (ql_pure tabOk rfl rfl (ql_pure tabOk rfl rfl (q_nil ?_)))))
  refine q_if rfl (fun hc => ?_) (fun hc => ?_)
  · have e : addP day much l = l ++ [(day, much)] := by unfold addP; rw [if_pos hc]
    (refine q_region ?_; (iterate 4 refine ql_pure tabOk rfl rfl ?_); refine ql_loadBa tabOk rfl rfl rfl ?_; refine ql_pure tabOk rfl rfl (ql_pure tabOk rfl rfl ?_))
    refine ql_mk #[.int .i64 day, .int .i64 much] rfl (by kernel_rfl) rfl ?_
    refine ql_mkS 116 [.int .i64 day, .int .i64 much] rfl (by kernel_rfl) rfl (fun bn => ?_)
    refine ql_appendF (q := 1) (xs := spC l) (news := spC [(day, much)]) slPl rfl rfl rfl (fun w hs => ⟨_, _, hs.all (plK (.slice a l.length l.length) l) (by repeat constructor)⟩) (fun w' hs => ⟨_, _, Blk.rdSp (hs.blk (b := bn) (by repeat constructor))⟩) (spC_one _) (by omega) (by omega) (by omega) (fun v' => ?_)
    refine ql_fact (fun w hs => hs.slice2 (v := v') (by repeat constructor)) ?_
    rintro ⟨a1, c1, rfl⟩
    (refine ql_pure tabOk rfl rfl (ql_pure tabOk rfl rfl ?_); refine ql_st7 tabOk rfl rfl rfl rfl (by repeat constructor) ?_; refine q_nil ?_)
    refine q_end tabOk rfl (by repeat constructor) fun w hs => ?_
    refine ⟨.slice a1 (l.length + 1) c1, ⟨a1, c1, by rw [e]; simp⟩, ?_⟩
    have e2 : spC l ++ spC [(day, much)] = spC (addP day much l) := by rw [e]; simp [spC]
    rw [e2] at hs
    exact (ow_plK (t := 116) (n := l.length + 1) (l := addP day much l) (R := [runK br x ad c fails full sv mv (.slice a1 (l.length + 1) c1)]) (by rw [e]; simp) (hs.sp (by repeat constructor))).sp (by repeat constructor)
  · have e : addP day much l = l := by unfold addP; rw [if_neg hc]
    (refine q_skip ?_)
    refine q_end tabOk rfl (by repeat constructor) fun w hs => ?_
    exact ⟨_, ⟨_, _, by rw [e]⟩, by rw [e]; exact hs⟩
theorem spC_cons (d m : Int) (r : List (Int × Int)) : spC ((d, m) :: r) = .int .i64 d :: .int .i64 m :: spC r := rfl
theorem pt_plK {w0 w : World} {M : Nat → Prop} {b off : Nat} {t : TypeId} {pre : List Value} {l : List (Int × Int)} {c : Nat} {R : List Ck} (ho : l ≠ [] → off = pre.length) (h : Sat w0 M (.pt b (pre ++ spC l) t :: R) w) : Sat w0 M (plK (.slice (some ⟨b, off, none⟩) l.length c) l :: R) w := by
  refine h.turn (fun x hx => ?_) (fun h => ?_)
  · obtain ⟨_, _, _, hv⟩ := hx
    cases hv
    rfl
  · have hb : Blk w b (pre ++ spC l) t := h
    by_cases h0 : l = []
    · subst h0
      exact ⟨rfl, .inl ⟨.inr ⟨_, _, rfl⟩, rfl⟩⟩
    · refine ⟨spC_length l, .inr ⟨b, off, c, rfl, fun _ => ⟨Nat.zero_le _, hb.lt, hb.lt⟩, fun j hj => ?_⟩⟩
      rw [Blk.cell hb, ho h0, List.getElem?_append_right (by omega)]
      congr 1
      omega
theorem cellPl {w : World} {b : Nat} {pre : List Value} {d m : Int} {r : List (Int × Int)} {t : TypeId} (h : Blk w b (pre ++ spC ((d, m) :: r)) t) : w.cell? ⟨b, pre.length + 0 * 2 + 1, none⟩ = some (.int .i64 m) := by
  rw [Blk.cell h, List.getElem?_append_right (by omega), spC_cons]
  simp
theorem setPl (pre : List Value) (d m z : Int) (r : List (Int × Int)) : (pre ++ spC ((d, m) :: r)).set (pre.length + 0 * 2 + 1) (.int .i64 z) = pre ++ spC ((d, z) :: r) := by
  rw [List.set_append_right _ _ (by omega), spC_cons, spC_cons]
  simp
set_option maxHeartbeats 2000000 in
theorem remR_ca (w : World) (br : Nat) (x : Wn) (ad : Option Addr) (c : Nat) (fails full much : Int) (sv mv : Value) (a : Option Addr) (cp : Nat) (l : List (Int × Int)) (hl : l.length ≤ 1000) (hb : ∀ y ∈ l, 0 ≤ y.2 ∧ y.2 ≤ 10000000) (hm : 0 ≤ much ∧ much ≤ 10000000)
    (hs0 : Sat w (DL [runK br x ad c fails full sv mv (.slice a l.length cp), plK (.slice a l.length cp) l]) [runK br x ad c fails full sv mv (.slice a l.length cp), plK (.slice a l.length cp) l] w) :
    Ca Try.prog 59 [.pointer (some ⟨br, 0, none⟩), .int .i64 much] w fun r w' => ∃ a', Sat w (DL [runK br x ad c fails full sv mv (.slice a l.length cp), plK (.slice a l.length cp) l]) [runK br x ad c fails full sv mv (.slice a' (remP much l).length (remP much l).length), plK (.slice a' (remP much l).length (remP much l).length) (remP much l), plK (.slice a l.length cp) l] w' := by
  refine q_of hs0 Try.func59 rfl (by simp [Try.ntmps59]) ?_
  (refine q_seq (q_region ?_); (iterate 3 refine ql_pure tabOk rfl rfl ?_); refine ql_loadBa tabOk rfl rfl rfl ?_; refine ql_pure tabOk rfl rfl ?_)
  refine ql_makeR (m := l.length) slPl rfl rfl rfl (by omega) (by omega) (by omega) (fun b cs hcs => ?_)
  (refine ql_pure tabOk rfl rfl (q_nil (q_seq (q_region ?_))); (iterate 4 refine ql_pure tabOk rfl rfl ?_); refine ql_loadBa tabOk rfl rfl rfl ?_)
  refine ql_copyR (et := 116) (news := spC l) (sz := 2) (o := 0) (by kernel_rfl) (by kernel_rfl) rfl rfl rfl (by repeat constructor) (by rw [spC_length]; omega) (spC_one l) (fun w hs => ⟨_, _, hs.all (plK (.slice a l.length cp) l) (by repeat constructor)⟩) ?_
  have e1 : List.take 0 cs ++ spC l ++ List.drop (0 + (spC l).length) cs = spC l := by
    rw [List.drop_of_length_le (by rw [spC_length]; omega)]
    simp
  rw [e1]
  (refine q_nil (q_seq (q_block ?_)))
  refine q_loop (σ := Nat × List Value × List (Int × Int) × Int) (fun s => (s.2.2.1 ≠ [] → s.1 = s.2.1.length) ∧ remP s.2.2.2 s.2.2.1 = remP much l ∧ (∀ y ∈ s.2.2.1, 0 ≤ y.2 ∧ y.2 ≤ 10000000) ∧ (0 ≤ s.2.2.2 ∧ s.2.2.2 ≤ 10000000)) (fun s => 2 * s.2.2.1.length + if s.2.2.2 > 0 then 1 else 0)
    (fun s => [(0, .pointer (some ⟨br, 0, none⟩)), (1, .int .i64 s.2.2.2), (4, .slice (some ⟨b, s.1, none⟩) s.2.2.1.length s.2.2.1.length)])
    (fun s => [.pt b (s.2.1 ++ spC s.2.2.1) 116, runK br x ad c fails full sv mv (.slice a l.length cp), plK (.slice a l.length cp) l]) (0, [], l, much) ⟨fun _ => rfl, rfl, hb, hm⟩ ⟨rfl, rfl, rfl, trivial⟩ (by repeat constructor) ?_
  rintro ⟨off, pre, r, mu⟩ ⟨ho, hr, hrb, hmu⟩ K hK
  simp only at ho hr hrb hmu
  dsimp only
  cases r with
  | nil =>
    (refine q_seq (q_seq (q_region ?_)); (iterate 4 refine ql_pure tabOk rfl rfl ?_); refine ql_gno rfl rfl rfl (ql_gno rfl rfl rfl (ql_pure tabOk rfl rfl (q_nil (q_cond_false rfl (q_exit _ rfl (q_region ?_)))))); (iterate 4 refine ql_pure tabOk rfl rfl ?_); refine ql_st7 tabOk rfl rfl rfl rfl (by repeat constructor) ?_; refine q_nil ?_)
    refine q_end tabOk rfl (by repeat constructor) fun w hs => ?_
    refine ⟨some ⟨b, off, none⟩, ?_⟩
    rw [← hr]
    exact (pt_plK (off := off) (c := 0) (t := 116) (pre := pre) (l := []) (R := [runK br x ad c fails full sv mv (.slice (some ⟨b, off, none⟩) 0 0), plK (.slice a l.length cp) l]) (fun h => absurd rfl h) (hs.sp (by repeat constructor))).sp (by repeat constructor)
  | cons y r =>
    obtain ⟨d, m⟩ := y
    have ho := ho (by simp)
    subst ho
    have hmb := hrb (d, m) List.mem_cons_self
    simp only at hmb
    dsimp only [List.length_cons]
    (refine q_seq (q_seq (q_region (ql_pure tabOk rfl rfl (ql_pure tabOk rfl rfl (ql_gtrT tabOk rfl rfl rfl (by omega) (ql_pure tabOk rfl rfl (ql_gyes rfl (ql_pure tabOk rfl rfl (ql_gyes rfl (ql_pure tabOk rfl rfl (ql_pure tabOk rfl rfl ?_))))))))))); refine q_nil ?_)
    refine q_if rfl (fun hc => ?_) (fun hc => ?_)
    · have hz : ∀ T R, Rp (.pt b (pre ++ spC ((d, m) :: r)) T :: R) (.pt b (pre ++ spC ((d, m) :: r)) T) (.pt b ((pre ++ spC ((d, m) :: r)).set (pre.length + 0 * 2 + 1) (.int .i64 (m - min mu m))) T) (.pt b (pre ++ spC ((d, m - min mu m) :: r)) T :: R) := fun T R => by rw [setPl]; exact .z
      (refine q_skip (q_block (q_seq (q_region (ql_pure tabOk rfl rfl (ql_pure tabOk rfl rfl ?_))))))
      refine ql_index tabOk rfl rfl rfl rfl rfl (by omega) (by omega) ?_
      (refine ql_pure tabOk rfl rfl ?_)
      refine ql_load1 (v := .int .i64 m) tabOk rfl rfl rfl (fun w hs => cellPl (hs.blk (by repeat constructor))) ?_
      (refine ql_pure tabOk rfl rfl (ql_pure tabOk rfl rfl (q_nil (q_seq (q_region (ql_pure tabOk rfl rfl ?_))))))
      refine ql_index tabOk rfl rfl rfl rfl rfl (by omega) (by omega) ?_
      (refine ql_pure tabOk rfl rfl ?_)
      refine ql_load1 (v := .int .i64 m) tabOk rfl rfl rfl (fun w hs => cellPl (hs.blk (by repeat constructor))) ?_
      (refine ql_pure tabOk rfl rfl (ql_ar tabOk rfl rfl rfl rfl (by omega) (by omega) ?_))
      refine ql_index tabOk rfl rfl rfl rfl rfl (by omega) (by omega) ?_
      (refine ql_pure tabOk rfl rfl ?_)
      refine ql_store1 tabOk rfl rfl rfl rfl (hz _ _) (by rw [spC_cons]; simp) ?_
      (refine q_nil (q_seq (q_region (ql_pure tabOk rfl rfl (ql_pure tabOk rfl rfl (ql_ar tabOk rfl rfl rfl rfl (by omega) (by omega) (ql_pure tabOk rfl rfl (q_nil (q_seq (q_region (ql_pure tabOk rfl rfl ?_)))))))))))
      refine ql_index tabOk rfl rfl rfl rfl rfl (by omega) (by omega) ?_
      (refine ql_pure tabOk rfl rfl ?_)
      refine ql_load1 (v := .int .i64 (m - min mu m)) tabOk rfl rfl rfl (fun w hs => cellPl (hs.blk (by repeat constructor))) ?_
      (refine ql_pure tabOk rfl rfl (q_nil ?_))
      have hmu0 : mu > 0 := by assumption
      rw [remP, if_pos hmu0] at hr
      refine q_if rfl (fun hc => ?_) (fun hc => ?_)
      · have hz0 : m - min mu m = 0 := by assumption
        rw [if_pos hz0] at hr
        (refine q_region (ql_pure tabOk rfl rfl ?_))
        refine ql_sliceFrom (et := 116) (sz := 2) (by kernel_rfl) (by kernel_rfl) rfl rfl rfl (by omega) (by omega) ?_
        have hv : (Value.slice (if r.length + 1 = (1 : Int).toNat then some ⟨b, pre.length, none⟩ else (some (⟨b, pre.length, none⟩ : Addr)).map (·.add ((1 : Int).toNat * 2))) (r.length + 1 - (1 : Int).toNat) (r.length + 1 - (1 : Int).toNat)) = .slice (some ⟨b, if r.length = 0 then pre.length else pre.length + 2, none⟩) r.length r.length := by
          by_cases h0 : r.length = 0
          · simp [h0]
          · simp [h0, Addr.add_lit]
        rw [hv]
        (refine ql_pure tabOk rfl rfl (q_nil (q_blk ?_)))
        refine hK (if r.length = 0 then pre.length else pre.length + 2, pre ++ [.int .i64 d, .int .i64 (m - min mu m)], r, mu - min mu m) _ _ ⟨fun hne => ?_, hr, fun y hy => hrb y (List.mem_cons_of_mem _ hy), by simp only; omega⟩ ?_ ⟨rfl, rfl, rfl, trivial⟩ (by dsimp only; rw [List.append_assoc]; repeat constructor)
        · have : r.length ≠ 0 := fun h => hne (List.eq_nil_of_length_eq_zero h)
          simp only
          rw [if_neg this]
          simp
        · simp only [List.length_cons]
          split <;> (try split) <;> omega
      · have hz0 : ¬ m - min mu m = 0 := by assumption
        rw [if_neg hz0] at hr
        (refine q_skip (q_blk ?_))
        have e0 : mu - min mu m = 0 := by omega
        refine hK (pre.length, pre, (d, m - min mu m) :: r, mu - min mu m) _ _ ⟨fun _ => rfl, by rw [e0, remP_zero]; exact hr, fun y hy => ?_, by simp only; omega⟩ ?_ ⟨rfl, rfl, rfl, trivial⟩ (by repeat constructor)
        · rcases List.mem_cons.1 hy with rfl | hy
          · simp only; omega
          · exact hrb y (List.mem_cons_of_mem _ hy)
        · simp only [List.length_cons]
          rw [if_neg (by omega), if_pos hmu0]
          omega
    · have hmu0 : ¬ mu > 0 := by assumption
      rw [remP, if_neg hmu0] at hr
      (refine q_exit _ rfl (q_region ?_); (iterate 4 refine ql_pure tabOk rfl rfl ?_); refine ql_st7 tabOk rfl rfl rfl rfl (by repeat constructor) ?_; refine q_nil ?_)
      refine q_end tabOk rfl (by repeat constructor) fun w hs => ?_
      refine ⟨some ⟨b, pre.length, none⟩, ?_⟩
      rw [← hr]
      exact (pt_plK (off := pre.length) (c := r.length + 1) (t := 116) (pre := pre) (l := (d, m) :: r) (R := [runK br x ad c fails full sv mv (.slice (some ⟨b, pre.length, none⟩) (r.length + 1) (r.length + 1)), plK (.slice a l.length cp) l]) (fun _ => rfl) (hs.sp (by repeat constructor))).sp (by repeat constructor)
end Go.Proofs.Ytgmmmkmekbiboaa
