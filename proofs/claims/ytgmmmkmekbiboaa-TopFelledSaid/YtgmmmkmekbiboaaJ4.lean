/- My texts X2, joined: a claim takes at most 60 files. -/
import Derived.Test.YtgmmmkmekbiboaaJ3

/- TopFelled. -/
namespace Go.Proofs.Ytgmmmkmekbiboaa
open Go Go.Eng
/-- A range with another radius. -/
def radR (r : Rg) (d : Int) : Rg := ⟨d, r.unit, r.clicks, r.total, r.group, r.drifts, r.first, r.next⟩
theorem radR_right {r : Rg} (h : r.Right) {d : Int} (hd : 0 ≤ d ∧ d ≤ 200) : (radR r d).Right := ⟨h.g1, h.g2, h.odd, h.d1, h.d2, h.first, h.next, h.rows, hd, h.unit, h.clicks, h.total, h.drift, h.weight, h.chance, h.chances, h.gsum, h.fsum, h.nsum⟩
theorem radR_small {r : Rg} (h : r.Small) (d : Int) : (radR r d).Small := ⟨h.group, h.drifts, h.first, h.next, h.rows⟩
theorem radR_rg {w : World} {x y d : Int} {a b c e f g : Value} {r : Rg} (h : RgC w [.int .i64 x, .int .i64 y, a, b, c, e, f, g] r) : RgC w [.int .i64 d, .int .i64 y, a, b, c, e, f, g] (radR r d) := by
  obtain ⟨lo, hi, ag, cg, ad, cd, af, cf, an, cn, h1, h2, h3, h4, h5⟩ := h
  cases h1
  exact ⟨lo, hi, ag, cg, ad, cd, af, cf, an, cn, rfl, h2, h3, h4, h5⟩
/-- The weights of the offsets that hit, of the first ones. -/
def hitS (r : Rg) (dr c : Int) : Nat → Int
  | 0 => 0
  | k + 1 => hitS r dr c k + (if hitB r (dr + (k : Int) - (r.group.length : Int) / 2 + c * r.unit) = true then r.group.getD k 0 else 0)
theorem hitS_miss (r : Rg) (dr c : Int) : ∀ k, k ≤ r.group.length → hitS r dr c k + ((missL r dr c).take k).sum = (r.group.take k).sum
  | 0, _ => by simp [hitS]
  | k + 1, h => by
    have ih := hitS_miss r dr c k (by omega)
    have hk : k < r.group.length := by omega
    have hg : r.group.getD k 0 = r.group[k] := by rw [List.getD_eq_getElem?_getD, List.getElem?_eq_getElem hk]; rfl
    rw [sum_take_succ _ _ hk, sum_take_succ _ _ (by rw [missL_length]; exact hk), missL_get r dr c k hk, hitS, hg]
    split <;> omega
theorem hitS_all (r : Rg) (dr c : Int) : hitS r dr c r.group.length = r.group.sum - missS r dr c := by
  have h := hitS_miss r dr c r.group.length (Nat.le_refl _)
  rw [List.take_length, List.take_of_length_le (by rw [missL_length]; exact Nat.le_refl _)] at h
  unfold missS
  omega
theorem hitS_bd {r : Rg} (hw : ∀ x ∈ r.group, 0 ≤ x ∧ x ≤ 5) (dr c : Int) : ∀ k, k ≤ r.group.length → 0 ≤ hitS r dr c k ∧ hitS r dr c k ≤ 5 * k
  | 0, _ => by simp [hitS]
  | k + 1, h => by
    have ih := hitS_bd hw dr c k (by omega)
    have hk : k < r.group.length := by omega
    have hg : r.group.getD k 0 = r.group[k] := by rw [List.getD_eq_getElem?_getD, List.getElem?_eq_getElem hk]; rfl
    have := hw _ (List.getElem_mem hk)
    rw [hitS, hg]
    split <;> omega
theorem ratio_law {n g : Int} (hg : 0 < g) (h0 : 0 ≤ n) (h1 : n ≤ g) : (1 ≤ (ratioV n g).2 ∧ (ratioV n g).2 ≤ g) ∧ (0 ≤ (ratioV n g).1 ∧ (ratioV n g).1 ≤ g) ∧ (ratioV n g).1 * g = n * (ratioV n g).2 := by
  unfold ratioV
  obtain ⟨k, hk⟩ : ∃ k : Int, k = (Int.gcd n g : Int) := ⟨_, rfl⟩
  have hkp : 0 < k := by
    rw [hk]
    have : Int.gcd n g ≠ 0 := fun h => by have := (Int.gcd_eq_zero_iff.1 h).2; omega
    omega
  have d1 : k ∣ n := hk ▸ Int.gcd_dvd_left ..
  have d2 : k ∣ g := hk ▸ Int.gcd_dvd_right ..
  rw [← hk]
  obtain ⟨a, rfl⟩ := d1
  obtain ⟨b, rfl⟩ := d2
  rw [Int.mul_ediv_cancel_left _ (by omega), Int.mul_ediv_cancel_left _ (by omega)]
  have hb0 : 0 < b := by
    rcases Int.lt_or_le 0 b with h | h
    · exact h
    · have := Int.mul_nonneg (show 0 ≤ k by omega) (show 0 ≤ -b by omega)
      rw [Int.mul_neg] at this
      omega
  have ha0 : 0 ≤ a := by
    rcases Int.lt_or_le a 0 with h | h
    · have := Int.mul_pos hkp (show 0 < -a by omega)
      rw [Int.mul_neg] at this
      omega
    · exact h
  have hbg : b ≤ k * b := by
    have := Int.mul_le_mul_of_nonneg_right (show 1 ≤ k by omega) (show 0 ≤ b by omega)
    omega
  have hag : a ≤ k * a := by
    have := Int.mul_le_mul_of_nonneg_right (show 1 ≤ k by omega) ha0
    omega
  exact ⟨⟨by omega, hbg⟩, ⟨ha0, by omega⟩, by rw [← Int.mul_assoc, Int.mul_comm a k]⟩
theorem RgC.grAt {w : World} {r : Rg} {ad af an : Option Addr} {b off cg cd cf cn : Nat} {x1 x2 x3 x4 : Int} (h : RgC w [.int .i64 x1, .int .i64 x2, .int .i64 x3, .int .i64 x4, .slice (some ⟨b, off, none⟩) r.group.length cg, .slice ad r.drifts.length cd, .slice af r.first.length cf, .slice an r.next.length cn] r)
    (k : Nat) (hk : k < r.group.length) : w.cell? ⟨b, off + k * 1, none⟩ = some (.int .i64 (r.group.getD k 0)) := by
  obtain ⟨lo, hi, ag, cg, ad, cd, af, cf, an, cn, h1, h2, h3, h4, h5⟩ := h
  cases h1
  have := RdI.at h2 k hk
  rw [this, List.getD_eq_getElem?_getD, List.getElem?_eq_getElem hk]
  rfl
theorem cells_sh (L : List (Int × Int)) : cellsOf (L.map rtV) = L.flatMap fun x => [.int .i64 x.1, .int .i64 x.2] := by simp [cellsOf, rtV, List.flatMap_map, Value.cells]
abbrev shC (L : List (Int × Int)) : List Value := L.flatMap fun x => [.int .i64 x.1, .int .i64 x.2]
theorem sh_of {w : World} {lo hi n : Nat} {v : Value} {L : List (Int × Int)} (hn : n = L.length) (h : Rd w lo hi v 2 n (shC L)) : RdS w lo hi v L := ⟨by rw [cells_sh, List.length_map, ← hn]; exact h, fun e he => by obtain ⟨x, _, rfl⟩ := List.mem_map.1 he; rfl⟩
theorem shC_snoc (L : List (Int × Int)) (x : Int × Int) : shC (L ++ [x]) = shC L ++ [.int .i64 x.1, .int .i64 x.2] := by simp [shC]
theorem slSh : SlT Try.prog 40 39 2 16 (.agg #[.int .i64 0, .int .i64 0]) := ⟨by kernel_rfl, by kernel_rfl, by kernel_rfl, by decide⟩
/-- Five shots that are alike. -/
theorem sh_rep (at' : Int) (k : Nat) : shA (List.replicate (k + 1) at') = shA (List.replicate k at') ++ [(2500 * (k : Int) + at', 0)] := by
  rw [List.replicate_succ', shA_snoc, List.length_replicate]
theorem cnt_rep (rad a : Int) (m : Nat) : ∀ k, k ≤ m → cntA rad (List.replicate m a) k = if hitA rad a = true then k else 0
  | 0, _ => by simp [cntA]
  | k + 1, h => by
    rw [cntA, cnt_rep rad a m k (by omega), List.getD_eq_getElem?_getD, List.getElem?_replicate, if_pos (show k < m by omega), Option.getD_some]
    split <;> rfl
set_option maxHeartbeats 8000000 in
set_option maxRecDepth 20000 in
theorem topFelled_ca (w : World) (a : Option Addr) (n c : Nat) (a1 a2 a3 : Int) (ha1 : 0 ≤ a1 ∧ a1 < 256) (ha2 : 0 ≤ a2 ∧ a2 < 256) (ha3 : 0 ≤ a3 ∧ a3 < 256) (hbyb1 : DkB w 0 w.heap.size (.slice a n c)) :
    Ca Try.prog 3 [.slice a n c, .int .u8 a1, .int .u8 a2, .int .u8 a3] w fun r w' => r = .bool true ∧ Chg [] w w' := by
  refine q_of (Sat.nil w M0) Try.func3 rfl (by simp [Try.ntmps3]) ?_
  (refine q_seq (q_region (ql_pure tabOk rfl rfl (q_nil (q_seq (q_region (ql_pure tabOk rfl rfl ?_)))))))
  refine ql_call (β := Nat) tabOk [] _ M0 rfl rfl rfl rfl (Sp.refl _) (fun _ h => h.elim) (fun w' hs => of_ca w' a n c) ?_
  rintro b1 _ rfl
  skip
  refine ql_call (β := List Ck × List Value × Rg) (ψ := fun x v => v = .agg x.2.1.toArray ∧ OwnR x.1 x.2.1 x.2.2 ∧ MadeR 3 3 4 x.2.2) (L' := fun x => [un x.1, dkP (.slice a n c) b1 (0 + 100)]) tabOk [dkP (.slice a n c) b1 (0)] _ (fun x => x = b1) rfl rfl rfl rfl (Sp.cons (by repeat constructor) (Sp.refl _)) (fun x hx => ⟨_, .head _, hx⟩) (fun w' hs => made0 (states := 3) (clicks := 3) (side := 4) hbyb1 hs (by omega) (by omega) (by omega) (by omega) (by omega)) ?_; rintro ⟨Lr, csr, r⟩ _ ⟨rfl, ownr, mader⟩; refine ql_fact (fun w hs => ownr.form2 mader.right hs (by repeat constructor)) ?_; rintro ⟨bgr, ogr, cgr, bdr, odr, cdr, bfr, ofr, cfr, bnr, onr, cnr, hcsr⟩; dsimp only at hcsr; subst hcsr; dsimp only at ownr mader ⊢
  have hR := mader.right
  have hC := hR.clicks
  have hd1 : 0 < r.drifts.length := hR.d1
  have hd2 : r.drifts.length ≤ 3 := mader.states
  have hc3 := mader.clicks
  have e1 : IntKind.i64.wrap a1 = a1 := w64 (by omega) (by omega)
  have e2 : IntKind.i64.wrap a2 = a2 := w64 (by omega) (by omega)
  have e3 : IntKind.i64.wrap (a3 % 2) = a3 % 2 := w64 (by omega) (by omega)
  have e4 : IntKind.u8.wrap (a3 % 2) = a3 % 2 := by simp [IntKind.wrap, IntKind.bits, IntKind.signed]; omega
  have m1 : 0 ≤ IntKind.i64.wrap a1 % (r.drifts.length : Int) ∧ IntKind.i64.wrap a1 % (r.drifts.length : Int) < r.drifts.length := ⟨Int.emod_nonneg _ (by omega), Int.emod_lt_of_pos _ (by omega)⟩
  have m2 : 0 ≤ IntKind.i64.wrap a2 % (2 * r.clicks + 1) ∧ IntKind.i64.wrap a2 % (2 * r.clicks + 1) < 2 * r.clicks + 1 := ⟨Int.emod_nonneg _ (by omega), Int.emod_lt_of_pos _ (by omega)⟩
  skip
  refine ql_alloc zero26 rfl (fun b9 => ?_)
  (refine ql_setA tabOk rfl rfl rfl rfl rfl (by repeat constructor) rfl ?_; refine q_nil (q_seq ?_))
  refine q_draw _ [] (Sp.refl _) (by kernel_rfl) (by kernel_rfl) ?_
  ((iterate 3 refine qf_pure tabOk rfl rfl rfl ?_); refine qf_loadBa tabOk rfl rfl rfl ?_; refine qf_pure tabOk rfl rfl rfl (qf_remN rfl rfl rfl (by omega) (by omega) ?_); (iterate 3 refine qf_pure tabOk rfl rfl rfl ?_); refine qf_loadBa tabOk rfl rfl rfl ?_; refine qf_ar tabOk rfl rfl rfl rfl (by omega) (by omega) (qf_ar tabOk rfl rfl rfl rfl (by omega) (by omega) (qf_remN rfl rfl rfl (by omega) (by omega) (qf_pure tabOk rfl rfl rfl ?_))); refine qf_loadBa tabOk rfl rfl rfl ?_; refine qf_ar tabOk rfl rfl rfl rfl (by omega) (by omega) (qf_pure tabOk rfl rfl rfl ?_))
  refine qf_rem rfl rfl (by decide) rfl ?_
  obtain ⟨p, hp⟩ : ∃ p, p = a3.tmod 2 := ⟨_, rfl⟩
  rw [← hp]
  have hp2 : p = 0 ∨ p = 1 := by rw [hp, Int.tmod_eq_emod_of_nonneg ha3.1]; omega
  have e5 : IntKind.i64.wrap p = p := w64 (by omega) (by omega)
  obtain ⟨s, hs0⟩ : ∃ s : Nat, (s : Int) = IntKind.i64.wrap a1 % (r.drifts.length : Int) := ⟨(IntKind.i64.wrap a1 % (r.drifts.length : Int)).toNat, by omega⟩
  obtain ⟨ck, hck⟩ : ∃ ck, ck = IntKind.i64.wrap a2 % (2 * r.clicks + 1) - r.clicks := ⟨_, rfl⟩
  rw [← hs0, ← hck]
  have hsl : s < r.drifts.length := by omega
  have hcb : -r.clicks ≤ ck ∧ ck ≤ r.clicks := by omega
  obtain ⟨rad, hrad⟩ : ∃ rad : Int, rad = if p = 0 then 22 else 57 := ⟨_, rfl⟩
  ((iterate 4 refine qf_pure tabOk rfl rfl rfl ?_); refine qf_nil (q_seq (q_region ?_)))
  rw [e5]
  refine ql_mkS 3 [.int .i64 22, .int .i64 57] rfl (by kernel_rfl) rfl (fun bn => ?_)
  (refine ql_pure tabOk rfl rfl ?_)
  refine ql_index tabOk rfl rfl rfl rfl rfl (by omega) (by omega) ?_
  refine ql_load1 (v := .int .i64 rad) tabOk rfl rfl rfl (fun w hs => by rw [(hs.blk (b := bn) (by repeat constructor)).cell, hrad]; rcases hp2 with rfl | rfl <;> rfl) ?_
  (refine ql_pure tabOk rfl rfl ?_; refine ql_st0 tabOk rfl rfl rfl rfl (by repeat constructor) ?_; refine q_nil (q_seq (q_region ?_)); refine ql_loadABa tabOk rfl rfl rfl ?_; refine ql_pure tabOk rfl rfl (ql_pure tabOk rfl rfl ?_))
  simp only [List.drop_zero, List.take_succ_cons, List.take_zero]
  have hrb : rad = 22 ∨ rad = 57 := by rw [hrad]; split <;> simp
  have hR2 : (radR r rad).Right := radR_right hR (by omega)
  obtain ⟨dr, hdr⟩ : ∃ dr, dr = r.drifts.getD s 0 := ⟨_, rfl⟩
  have hdb : -15 ≤ dr ∧ dr ≤ 15 := by
    rw [hdr, List.getD_eq_getElem?_getD, List.getElem?_eq_getElem hsl]
    exact mader.drift _ (List.getElem_mem hsl)
  obtain ⟨z, hz⟩ : ∃ z, z = ratioV (r.group.sum - missS (radR r rad) dr ck) r.group.sum := ⟨_, rfl⟩
  have hmb := missS_bd (radR r rad) hR2 dr ck
  have hgs : (radR r rad).group.sum = r.group.sum := rfl
  have hG := hR.gsum
  obtain ⟨z1, z2, z3⟩ := ratio_law (n := r.group.sum - missS (radR r rad) dr ck) (g := r.group.sum) (by omega) (by omega) (by omega)
  rw [← hz] at z1 z2 z3
  refine ql_callv (val := .tuple #[.agg #[.int .i64 z.1, .int .i64 z.2], .int .i64 0]) tabOk rfl rfl rfl rfl (fun w hs => ?_) ?_; exact by have := hit_ok w _ (radR r rad) s ck (radR_rg (ownr.at hs (by repeat constructor))) (radR_small mader.small rad) hR2 hsl hcb; rw [hz, hdr]; exact this
  (refine ql_pure tabOk rfl rfl (ql_ext tabOk rfl rfl rfl (ql_ext tabOk rfl rfl rfl ?_)))
  refine ql_alloc zero32 rfl (fun b13 => ?_)
  have hmw : ∀ x ∈ r.group, 0 ≤ x ∧ x ≤ 5 := fun x hx => ⟨(hR.weight x hx).1, mader.weight x hx⟩
  have hgl : r.group.length ≤ 9 := mader.group
  have hu := hR.unit
  have hu5 := mader.unit
  have hcu : -(3 * 5) ≤ ck * r.unit ∧ ck * r.unit ≤ 3 * 5 := by
    rcases Int.le_total 0 ck with h0 | h0
    · have := Int.mul_nonneg h0 (show 0 ≤ r.unit by omega)
      have := Int.mul_le_mul (show ck ≤ 3 by omega) hu5 (by omega) (by omega)
      omega
    · have h1 := Int.mul_nonneg (show 0 ≤ -ck by omega) (show 0 ≤ r.unit by omega)
      have h2 := Int.mul_le_mul (show -ck ≤ 3 by omega) hu5 (by omega) (by omega)
      rw [Int.neg_mul] at h1 h2
      omega
  (refine ql_setA tabOk rfl rfl rfl rfl rfl (by repeat constructor) rfl ?_; refine ql_pure tabOk rfl rfl (q_nil (q_seq (q_seq (q_region (ql_pure tabOk rfl rfl (ql_neqF tabOk rfl rfl rfl (by omega) (ql_pure tabOk rfl rfl (ql_gyes rfl (ql_pure tabOk rfl rfl (ql_gyes rfl ?_)))))))))); refine ql_loadBa tabOk rfl rfl rfl ?_; refine ql_gyes rfl (ql_lssF tabOk rfl rfl rfl (by omega) (ql_pure tabOk rfl rfl (q_nil (q_cond_false rfl (q_skip (q_seq (q_region (ql_pure tabOk rfl rfl (ql_pure tabOk rfl rfl (q_nil (q_seq ?_))))))))))); refine q_seq (q_region (ql_pure tabOk rfl rfl ?_)); refine ql_loadBa tabOk rfl rfl rfl ?_; refine ql_pure tabOk rfl rfl (ql_pure tabOk rfl rfl (q_nil (q_block ?_))))
  refine q_loop (σ := Nat) (fun k => k ≤ r.group.length) (fun k => r.group.length - k) (fun k => [(9, .pointer (some ⟨b9, 0, none⟩)), (10, .int .i64 s), (11, .int .i64 ck), (12, .int .i64 p), (13, .pointer (some ⟨b13, 0, none⟩)), (15, .int .i64 (hitS (radR r rad) dr ck k)), (16, .int .i64 (r.group.take k).sum), (68, .slice (some ⟨bgr, ogr, none⟩) r.group.length cgr), (69, .int .i64 r.group.length), (70, .int .i64 k)]) (fun _ => [.pt b9 [.int .i64 rad, .int .i64 r.unit, .int .i64 r.clicks, .int .i64 r.total, .slice (some ⟨bgr, ogr, none⟩) r.group.length cgr, .slice (some ⟨bdr, odr, none⟩) r.drifts.length cdr, .slice (some ⟨bfr, ofr, none⟩) r.first.length cfr, .slice (some ⟨bnr, onr, none⟩) r.next.length cnr] 26, .pt b13 [.int .i64 z.1, .int .i64 z.2] 32, un Lr]) 0 (by omega) ⟨rfl, rfl, rfl, rfl, rfl, rfl, rfl, rfl, rfl, rfl, trivial⟩ (by repeat constructor) ?_
  intro k hk K hK
  have hsb := hitS_bd (r := radR r rad) hmw dr ck k hk
  have hwb := sum_take_bd (c := 5) (m := 9) r.group k (fun x hx => by have := hmw x hx; omega) hgl (by omega)
  (refine q_seq (q_region (ql_pure tabOk rfl rfl (q_nil (q_seq ?_)))))
  refine q_if rfl (fun hc => ?_) (fun hc => ?_)
  · have hk2 : k < r.group.length := by omega
    clear hc
    obtain ⟨wt, hwt⟩ : ∃ wt, wt = r.group.getD k 0 := ⟨_, rfl⟩
    have hwe : r.group[k] = wt := by rw [hwt, List.getD_eq_getElem?_getD, List.getElem?_eq_getElem hk2]; rfl
    have hwtb : 0 ≤ wt ∧ wt ≤ 5 := hwe ▸ hmw _ (List.getElem_mem hk2)
    have hwn : (r.group.take (k + 1)).sum = (r.group.take k).sum + wt := by rw [sum_take_succ _ _ hk2, hwe]
    (refine q_skip (q_seq (q_block (q_seq (q_region (ql_pure tabOk rfl rfl ?_))))))
    refine ql_index tabOk rfl rfl rfl rfl rfl (by omega) (by omega) ?_
    refine ql_load1 (v := .int .i64 wt) tabOk rfl rfl rfl (fun w hs => by rw [hwt]; exact RgC.grAt (ownr.at hs (by repeat constructor)) k hk2) ?_
    (refine ql_pure tabOk rfl rfl (ql_pure tabOk rfl rfl (q_nil (q_seq ?_))))
    refine q_draw _ [] (Sp.refl _) (by kernel_rfl) (by kernel_rfl) ?_
    (refine qf_pure tabOk rfl rfl rfl ?_; refine qf_loadBa tabOk rfl rfl rfl ?_; refine qf_pure tabOk rfl rfl rfl ?_)
    refine qf_index tabOk rfl rfl rfl rfl rfl (by omega) (by omega) ?_
    refine qf_load1 (v := .int .i64 dr) tabOk rfl rfl rfl (fun w hs => by rw [hdr]; exact RgC.drAt (ownr.at hs (by repeat constructor)) s hsl) ?_
    (refine qf_pure tabOk rfl rfl rfl (qf_pure tabOk rfl rfl rfl ?_); refine qf_loadBa tabOk rfl rfl rfl ?_; refine qf_ar tabOk rfl rfl rfl rfl (by omega) (by omega) (qf_ar tabOk rfl rfl rfl rfl (by omega) (by omega) (qf_pure tabOk rfl rfl rfl (qf_ar tabOk rfl rfl rfl rfl (by omega) (by omega) (qf_pure tabOk rfl rfl rfl ?_)))); refine qf_loadBa tabOk rfl rfl rfl ?_; refine qf_pure tabOk rfl rfl rfl (qf_quoN rfl rfl rfl (by omega) (by omega) (by omega) (qf_ar tabOk rfl rfl rfl rfl (by omega) (by omega) (qf_ar tabOk rfl rfl rfl rfl (by omega) (by omega) (qf_pure tabOk rfl rfl rfl (qf_nil (q_seq (q_region (ql_pure tabOk rfl rfl (ql_pure tabOk rfl rfl ?_))))))))))
    obtain ⟨x, hx⟩ : ∃ x, x = 10 * (dr + ck * r.unit + (k : Int) - (r.group.length : Int) / 2) := ⟨_, rfl⟩
    rw [← hx]
    have hxb : -1000 ≤ x ∧ x ≤ 1000 := by omega
    have hhit : hitB (radR r rad) (dr + (k : Int) - ((radR r rad).group.length : Int) / 2 + ck * (radR r rad).unit) = hitA (radP p) x := by
      rw [Bool.eq_iff_iff, hitA_iff]
      unfold hitB
      rw [inB_iff]
      show -rad ≤ dr + (k : Int) - (r.group.length : Int) / 2 + ck * r.unit ∧ dr + (k : Int) - (r.group.length : Int) / 2 + ck * r.unit ≤ rad ↔ _
      rcases hp2 with h | h
      · rw [h, if_pos rfl] at hrad
        rw [h, show radP 0 = 225 from rfl]
        omega
      · rw [h, if_neg (by decide)] at hrad
        rw [h, show radP 1 = 575 from rfl]
        omega
    obtain ⟨o, ho⟩ : ∃ o : Int, o = if hitA (radP p) x = true then 1 else 0 := ⟨_, rfl⟩
    have ho2 : o = 0 ∨ o = 1 := by rw [ho]; split <;> simp
    have hsn : hitS (radR r rad) dr ck (k + 1) = hitS (radR r rad) dr ck k + (if o = 1 then wt else 0) := by
      rw [hitS, hhit, ho, hwt]
      show _ + (if hitA (radP p) x = true then r.group.getD k 0 else 0) = _
      congr 1
      cases hitA (radP p) x <;> simp
    have hf1 : falA (radP p) [x] 1 = [o] := by
      rw [ho]
      simp [falA]
    have hc5 : ((cntA (radP p) (List.replicate 5 x) 5 : Nat) : Int) = 5 * o := by
      rw [cnt_rep _ _ _ _ (Nat.le_refl _), ho]
      split <;> rfl
    refine ql_mk #[.int .i64 x, .int .i64 0] rfl (by kernel_rfl) rfl ?_
    skip
    refine ql_mkS 39 [.int .i64 x, .int .i64 0] rfl (by kernel_rfl) rfl (fun bs => ?_)
    skip
    refine ql_call (β := Value) (ψ := fun y v => v = .tuple #[y, .int .i64 0]) (L' := fun y => [.ow y 3 1 1 (ints [o])]) tabOk [] _ M0 rfl rfl rfl rfl (Sp.refl _) (fun _ h => h.elim) (fun w' hs => by
      have := falls_ca w' 0 w'.heap.size (.slice (some ⟨bs, 0, none⟩) 1 1) [x] p (sh_of (n := 1) rfl (by have := Blk.rdN (c := 1) (sz := 2) (q := 1) (hs.blk (b := bs) (by repeat constructor)) rfl; simpa [shA] using this)) (fun a ha => by rw [List.mem_singleton.1 ha]; exact hxb) (by simp) hp2
      rw [show ([x] : List Int).length = 1 from rfl, hf1] at this
      exact this) ?_
    rintro fv _ rfl
    dsimp only [List.cons_append, List.nil_append]
    refine ql_fact (fun w hs => hs.ownSome (v := fv) (by repeat constructor) (by omega)) ?_
    rintro ⟨fb, fc, rfl⟩
    (refine ql_pure tabOk rfl rfl (ql_ext tabOk rfl rfl rfl (ql_ext tabOk rfl rfl rfl (ql_pure tabOk rfl rfl (ql_pure tabOk rfl rfl (q_nil (q_seq (q_region (ql_pure tabOk rfl rfl (q_nil (q_seq (q_seq ?_))))))))))); refine q_region (ql_pure tabOk rfl rfl (q_nil (q_block ?_))))
    refine q_conv (H' := [.ow (.slice none 0 0) 39 2 0 (shC (shA (List.replicate 0 x))), .ow (.slice (some ⟨fb, 0, none⟩) 1 fc) 3 1 1 (ints [o]), .pt b9 [.int .i64 rad, .int .i64 r.unit, .int .i64 r.clicks, .int .i64 r.total, .slice (some ⟨bgr, ogr, none⟩) r.group.length cgr, .slice (some ⟨bdr, odr, none⟩) r.drifts.length cdr, .slice (some ⟨bfr, ofr, none⟩) r.first.length cfr, .slice (some ⟨bnr, onr, none⟩) r.next.length cnr] 26, .pt b13 [.int .i64 z.1, .int .i64 z.2] 32, un Lr]) (fun w' hs => (Sat.ownil hs 39 2).sp (by repeat constructor)) ?_
    refine q_loop (σ := Nat × Value) (fun y => y.1 ≤ 5) (fun y => 5 - y.1) (fun y => [(17, .int .i64 k), (18, .int .i64 wt), (19, .int .i64 x), (20, .slice (some ⟨fb, 0, none⟩) 1 fc), (21, .int .i64 0), (22, y.2), (101, .int .i64 y.1), (9, .pointer (some ⟨b9, 0, none⟩)), (10, .int .i64 s), (11, .int .i64 ck), (12, .int .i64 p), (13, .pointer (some ⟨b13, 0, none⟩)), (15, .int .i64 (hitS (radR r rad) dr ck k)), (16, .int .i64 (r.group.take k).sum), (68, .slice (some ⟨bgr, ogr, none⟩) r.group.length cgr), (69, .int .i64 r.group.length), (70, .int .i64 k)]) (fun y => [.ow y.2 39 2 y.1 (shC (shA (List.replicate y.1 x))), .ow (.slice (some ⟨fb, 0, none⟩) 1 fc) 3 1 1 (ints [o]), .pt b9 [.int .i64 rad, .int .i64 r.unit, .int .i64 r.clicks, .int .i64 r.total, .slice (some ⟨bgr, ogr, none⟩) r.group.length cgr, .slice (some ⟨bdr, odr, none⟩) r.drifts.length cdr, .slice (some ⟨bfr, ofr, none⟩) r.first.length cfr, .slice (some ⟨bnr, onr, none⟩) r.next.length cnr] 26, .pt b13 [.int .i64 z.1, .int .i64 z.2] 32, un Lr]) (0, .slice none 0 0) (by simp) ⟨rfl, rfl, rfl, rfl, rfl, rfl, rfl, rfl, rfl, rfl, rfl, rfl, rfl, rfl, rfl, rfl, rfl, trivial⟩ (by repeat constructor) ?_
    rintro ⟨m, u⟩ hm K1 hK1
    dsimp only at hm ⊢
    (refine q_seq (q_region (ql_pure tabOk rfl rfl (q_nil (q_seq ?_)))))
    refine q_if rfl (fun hc => ?_) (fun hc => ?_)
    · have hm5 : m < 5 := by omega
      clear hc
      (refine q_skip (q_seq (q_block (q_seq (q_region (ql_pure tabOk rfl rfl (ql_pure tabOk rfl rfl (q_nil (q_region (ql_pure tabOk rfl rfl (ql_pure tabOk rfl rfl (ql_ar tabOk rfl rfl rfl rfl (by omega) (by omega) ?_))))))))))); refine ql_pure tabOk rfl rfl (ql_ar tabOk rfl rfl rfl rfl (by omega) (by omega) ?_))
      refine ql_mk #[.int .i64 (2500 * (m : Int) + x), .int .i64 0] rfl (by kernel_rfl) rfl ?_
      skip
      refine ql_mkS 39 [.int .i64 (2500 * (m : Int) + x), .int .i64 0] rfl (by kernel_rfl) rfl (fun bm => ?_)
      skip
      refine ql_append (q := 1) (news := [.int .i64 (2500 * (m : Int) + x), .int .i64 0]) slSh rfl rfl rfl (fun v' => by repeat constructor) (fun w' hs => ⟨_, _, Blk.rdN (hs.blk (b := bm) (by repeat constructor)) rfl⟩) (by simp [oneV]) (by omega) (by omega) (fun u' => ?_)
      (refine ql_pure tabOk rfl rfl (q_nil (q_blk (q_region (ql_ar tabOk rfl rfl rfl rfl (by omega) (by omega) (ql_pure tabOk rfl rfl (q_nil ?_)))))))
      exact hK1 (m + 1, u') _ _ (by simp only; omega) (by simp only; omega) ⟨rfl, rfl, rfl, rfl, rfl, rfl, rfl, rfl, rfl, rfl, rfl, rfl, rfl, rfl, rfl, rfl, rfl, trivial⟩ (by dsimp only; rw [sh_rep, shC_snoc]; repeat constructor)
    · obtain rfl : m = 5 := by omega
      clear hc hK1
      (refine q_exit _ rfl (q_seq (q_region (ql_pure tabOk rfl rfl (ql_pure tabOk rfl rfl ?_)))))
      refine ql_callv (val := .tuple #[.int .i64 (5 - 5 * o), .int .i64 0]) tabOk rfl rfl rfl rfl (fun w hs => ?_) ?_; exact by have := loops_ca w 0 w.heap.size u (List.replicate 5 x) p (sh_of (n := 5) (by rw [shA_len, List.length_replicate]) (own_rd (hs.mem (c := .ow u 39 2 5 (shC (shA (List.replicate 5 x)))) (by repeat constructor)))) (fun a ha => by rw [(List.mem_replicate.1 ha).2]; exact hxb) (by simp) hp2; rw [List.length_replicate, hc5] at this; exact this
      rcases ho2 with rfl | rfl
      · rw [if_neg (by decide)] at hsn
        (refine ql_pure tabOk rfl rfl (ql_ext tabOk rfl rfl rfl (ql_ext tabOk rfl rfl rfl (ql_pure tabOk rfl rfl (ql_pure tabOk rfl rfl (q_nil (q_seq (q_seq (q_region (ql_pure tabOk rfl rfl (ql_neqF tabOk rfl rfl rfl (by omega) (ql_pure tabOk rfl rfl ?_))))))))))); refine ql_gyes rfl (ql_pure tabOk rfl rfl (ql_gyes rfl (ql_neqF tabOk rfl rfl rfl (by omega) (ql_pure tabOk rfl rfl (ql_pure tabOk rfl rfl (ql_gyes rfl (ql_pure tabOk rfl rfl (ql_gyes rfl (ql_pure tabOk rfl rfl (ql_gyes rfl (ql_neqF tabOk rfl rfl rfl (by omega) ?_))))))))))); refine ql_pure tabOk rfl rfl (ql_pure tabOk rfl rfl (ql_gyes rfl (ql_pure tabOk rfl rfl (ql_gyes rfl ?_)))))
        refine ql_index tabOk rfl rfl rfl rfl rfl (by omega) (by omega) ?_
        (refine ql_gyes rfl ?_)
        refine ql_load1 (v := .int .i64 0) tabOk rfl rfl rfl (fun w hs => RdI.at (own_rdI (l := [0]) (hs.mem (c := .ow (.slice (some ⟨fb, 0, none⟩) 1 fc) 3 1 1 (ints [0])) (by repeat constructor)) rfl) 0 (by simp)) ?_
        (refine ql_gyes rfl (ql_neqF tabOk rfl rfl rfl (by omega) (ql_gyes rfl (ql_pure tabOk rfl rfl ?_))); (iterate 4 refine ql_gno rfl rfl rfl ?_); refine ql_gyes rfl ?_; (iterate 3 refine ql_pure tabOk rfl rfl ?_); refine ql_gyes rfl (ql_pure tabOk rfl rfl (ql_gyes rfl (ql_pure tabOk rfl rfl (ql_gyes rfl ?_)))))
        refine ql_index tabOk rfl rfl rfl rfl rfl (by omega) (by omega) ?_
        (refine ql_gyes rfl ?_)
        refine ql_load1 (v := .int .i64 0) tabOk rfl rfl rfl (fun w hs => RdI.at (own_rdI (l := [0]) (hs.mem (c := .ow (.slice (some ⟨fb, 0, none⟩) 1 fc) 3 1 1 (ints [0])) (by repeat constructor)) rfl) 0 (by simp)) ?_
        (refine ql_gyes rfl (ql_ar tabOk rfl rfl rfl rfl (by omega) (by omega) (ql_gyes rfl (ql_ar tabOk rfl rfl rfl rfl (by omega) (by omega) (ql_gyes rfl (ql_neqF tabOk rfl rfl rfl (by omega) (ql_pure tabOk rfl rfl (q_nil (q_cond_false rfl (q_skip (q_region ?_)))))))))); (iterate 3 refine ql_pure tabOk rfl rfl ?_))
        refine ql_index tabOk rfl rfl rfl rfl rfl (by omega) (by omega) ?_
        skip
        refine ql_load1 (v := .int .i64 0) tabOk rfl rfl rfl (fun w hs => RdI.at (own_rdI (l := [0]) (hs.mem (c := .ow (.slice (some ⟨fb, 0, none⟩) 1 fc) 3 1 1 (ints [0])) (by repeat constructor)) rfl) 0 (by simp)) ?_
        (refine ql_ar tabOk rfl rfl rfl rfl (by omega) (by omega) (ql_ar tabOk rfl rfl rfl rfl (by omega) (by omega) (ql_pure tabOk rfl rfl (ql_pure tabOk rfl rfl (ql_ar tabOk rfl rfl rfl rfl (by omega) (by omega) (ql_pure tabOk rfl rfl (ql_pure tabOk rfl rfl (q_nil (q_blk (q_region (ql_ar tabOk rfl rfl rfl rfl (by omega) (by omega) (ql_pure tabOk rfl rfl ?_))))))))))); refine q_nil ?_)
        exact hK (k + 1) _ _ (by omega) (by omega) ⟨rfl, rfl, rfl, rfl, rfl, lookI rfl (by rw [hsn]; omega), lookI rfl hwn.symm, rfl, rfl, rfl, trivial⟩ (by repeat constructor)
      · rw [if_pos rfl] at hsn
        (refine ql_pure tabOk rfl rfl (ql_ext tabOk rfl rfl rfl (ql_ext tabOk rfl rfl rfl (ql_pure tabOk rfl rfl (ql_pure tabOk rfl rfl (q_nil (q_seq (q_seq (q_region (ql_pure tabOk rfl rfl (ql_neqF tabOk rfl rfl rfl (by omega) (ql_pure tabOk rfl rfl ?_))))))))))); refine ql_gyes rfl (ql_pure tabOk rfl rfl (ql_gyes rfl (ql_neqF tabOk rfl rfl rfl (by omega) (ql_pure tabOk rfl rfl (ql_pure tabOk rfl rfl (ql_gyes rfl (ql_pure tabOk rfl rfl (ql_gyes rfl (ql_pure tabOk rfl rfl (ql_gyes rfl (ql_neqF tabOk rfl rfl rfl (by omega) ?_))))))))))); refine ql_pure tabOk rfl rfl (ql_pure tabOk rfl rfl (ql_gyes rfl (ql_pure tabOk rfl rfl (ql_gyes rfl ?_)))))
        refine ql_index tabOk rfl rfl rfl rfl rfl (by omega) (by omega) ?_
        (refine ql_gyes rfl ?_)
        refine ql_load1 (v := .int .i64 1) tabOk rfl rfl rfl (fun w hs => RdI.at (own_rdI (l := [1]) (hs.mem (c := .ow (.slice (some ⟨fb, 0, none⟩) 1 fc) 3 1 1 (ints [1])) (by repeat constructor)) rfl) 0 (by simp)) ?_
        (refine ql_gyes rfl (ql_neqT tabOk rfl rfl rfl (by omega) (ql_gyes rfl (ql_pure tabOk rfl rfl (ql_gyes rfl (ql_pure tabOk rfl rfl (ql_gyes rfl ?_)))))))
        refine ql_index tabOk rfl rfl rfl rfl rfl (by omega) (by omega) ?_
        (refine ql_gyes rfl ?_)
        refine ql_load1 (v := .int .i64 1) tabOk rfl rfl rfl (fun w hs => RdI.at (own_rdI (l := [1]) (hs.mem (c := .ow (.slice (some ⟨fb, 0, none⟩) 1 fc) 3 1 1 (ints [1])) (by repeat constructor)) rfl) 0 (by simp)) ?_
        (refine ql_gyes rfl (ql_neqF tabOk rfl rfl rfl (by omega) (ql_gyes rfl ?_)); (iterate 3 refine ql_pure tabOk rfl rfl ?_); refine ql_gyes rfl (ql_pure tabOk rfl rfl (ql_gyes rfl (ql_pure tabOk rfl rfl (ql_gyes rfl ?_)))))
        refine ql_index tabOk rfl rfl rfl rfl rfl (by omega) (by omega) ?_
        (refine ql_gyes rfl ?_)
        refine ql_load1 (v := .int .i64 1) tabOk rfl rfl rfl (fun w hs => RdI.at (own_rdI (l := [1]) (hs.mem (c := .ow (.slice (some ⟨fb, 0, none⟩) 1 fc) 3 1 1 (ints [1])) (by repeat constructor)) rfl) 0 (by simp)) ?_
        (refine ql_gyes rfl (ql_ar tabOk rfl rfl rfl rfl (by omega) (by omega) (ql_gyes rfl (ql_ar tabOk rfl rfl rfl rfl (by omega) (by omega) (ql_gyes rfl (ql_neqF tabOk rfl rfl rfl (by omega) (ql_pure tabOk rfl rfl (q_nil (q_cond_false rfl (q_skip (q_region ?_)))))))))); (iterate 3 refine ql_pure tabOk rfl rfl ?_))
        refine ql_index tabOk rfl rfl rfl rfl rfl (by omega) (by omega) ?_
        skip
        refine ql_load1 (v := .int .i64 1) tabOk rfl rfl rfl (fun w hs => RdI.at (own_rdI (l := [1]) (hs.mem (c := .ow (.slice (some ⟨fb, 0, none⟩) 1 fc) 3 1 1 (ints [1])) (by repeat constructor)) rfl) 0 (by simp)) ?_
        (refine ql_ar tabOk rfl rfl rfl rfl (by omega) (by omega) (ql_ar tabOk rfl rfl rfl rfl (by omega) (by omega) (ql_pure tabOk rfl rfl (ql_pure tabOk rfl rfl (ql_ar tabOk rfl rfl rfl rfl (by omega) (by omega) (ql_pure tabOk rfl rfl (ql_pure tabOk rfl rfl (q_nil (q_blk (q_region (ql_ar tabOk rfl rfl rfl rfl (by omega) (by omega) (ql_pure tabOk rfl rfl ?_))))))))))); refine q_nil ?_)
        exact hK (k + 1) _ _ (by omega) (by omega) ⟨rfl, rfl, rfl, rfl, rfl, lookI rfl (by rw [hsn]; omega), lookI rfl hwn.symm, rfl, rfl, rfl, trivial⟩ (by repeat constructor)
  · obtain rfl : k = r.group.length := by omega
    clear hc hK
    have hall := hitS_all (radR r rad) dr ck
    have hz3 : z.1 * r.group.sum = hitS (radR r rad) dr ck r.group.length * z.2 := by
      rw [z3, show hitS (radR r rad) dr ck r.group.length = r.group.sum - missS (radR r rad) dr ck from hall]
    have hzz : 0 ≤ z.1 * r.group.sum ∧ z.1 * r.group.sum ≤ 100 * 100 := ⟨Int.mul_nonneg (by omega) (by omega), Int.mul_le_mul (by omega) (by omega) (by omega) (by omega)⟩
    rw [List.take_length]
    (refine q_exit _ rfl (q_seq (q_region (ql_pure tabOk rfl rfl ?_))); refine ql_loadBa tabOk rfl rfl rfl ?_; refine ql_pure tabOk rfl rfl (ql_ar tabOk rfl rfl rfl rfl (by omega) (by omega) (ql_pure tabOk rfl rfl (ql_pure tabOk rfl rfl ?_))); refine ql_loadBa tabOk rfl rfl rfl ?_; refine ql_ar tabOk rfl rfl rfl rfl (by omega) (by omega) (ql_eqlT tabOk rfl rfl rfl (by omega) (ql_pure tabOk rfl rfl (ql_gyes rfl ?_))))
    refine ql_callv (val := .bool true) tabOk rfl rfl rfl rfl (fun w hs => ?_) ?_; exact awake07_ca w
    (refine ql_pure tabOk rfl rfl (ql_pure tabOk rfl rfl (q_nil (q_ret ?_))))
    refine q_fin tabOk rfl (by repeat constructor) fun w hs => ?_
    exact ⟨rfl, hs.chg0⟩
end Go.Proofs.Ytgmmmkmekbiboaa
