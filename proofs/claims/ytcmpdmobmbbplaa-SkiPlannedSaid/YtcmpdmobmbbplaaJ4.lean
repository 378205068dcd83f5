/- My texts D1, D2, K27, K28, K30, K33, K34, K35, D3, D4, K29, D5, W17, L5, joined: a claim takes at most 60 files. -/
import Derived.Test.YtcmpdmobmbbplaaJ3

/- Walks: klisterkit's deck. Only the ranges of what it deals are told. -/
namespace Go.Proofs.Ytcmpdmobmbbplaa
open Go Go.Eng

section
attribute [local irreducible] IntKind.wrap Int.tmod Int.tdiv

/-- The deck's own variable, after at most K cards. -/
def DkS (w : World) (b : Nat) (bs : Value) (K : Nat) : Prop :=
  ∃ next st, Blk w b [bs, .int .i64 next, .int .u32 st] 127 ∧ 0 ≤ next ∧ next ≤ K ∧ 0 ≤ st ∧ st < 4294967296
/-- Its bytes. -/
def DkB (w : World) (lo hi : Nat) (bs : Value) : Prop := ∃ nb cs, Rd w lo hi bs 1 nb cs ∧ (∀ c ∈ cs, ∃ x, c = .int .u8 x ∧ 0 ≤ x ∧ x < 256)
theorem DkB.keep {w w' : World} {lo hi : Nat} {bs : Value} (h : DkB w lo hi bs) (c : Chg [] w w') : DkB w' lo hi bs := by
  obtain ⟨nb, cs, h1, h2⟩ := h
  exact ⟨nb, cs, h1.keep c, h2⟩

set_option maxHeartbeats 1000000 in
theorem draw_ca (n : Int) (K : Nat) (hK : K < 4611686018427387904) (w : World) (b lo hi : Nat) (bs : Value) (hby : DkB w lo hi bs) (hlh : hi ≤ b) (hd : DkS w b bs K) :
    Ca Try.prog 69 [.pointer (some ⟨b, 0, none⟩), .int .i64 n] w fun v w' => ∃ r, v = .int .i64 r ∧ 0 ≤ r ∧ (r < n ∨ r = 0) ∧ Chg [b] w w' ∧ w'.heap.size = w.heap.size ∧ DkS w' b bs (K + 1) := by
  obtain ⟨nb, cs, hrd, hcs⟩ := hby
  obtain ⟨next, st, hb, hn0, hnK, hs0, hs1⟩ := hd
  have hd : DkS w b bs (K + 1) := ⟨next, st, hb, hn0, by omega, hs0, hs1⟩
  obtain ⟨a, cap, rfl, hsl⟩ := hrd.out
  refine ca_of Try.func69 rfl (by simp [Try.ntmps69]) ?_
  (refine y_seq (y_region (yl_pure tabOk rfl rfl (y_seq (y_seq (y_region ?_))))); (iterate 3 refine yl_pure tabOk rfl rfl ?_))
  refine yl_split rfl rfl (fun hc => ?_) (fun hc => ?_)
  · ((iterate 6 refine yl_guard_no rfl rfl rfl ?_); refine yl_pure tabOk rfl rfl (y_cond_true rfl (y_seq (y_region (yl_pure tabOk rfl rfl (y_ret ?_))))))
    exact y_fin1 rfl rfl ⟨0, rfl, by omega, .inr rfl, Chg.refl _ _, rfl, hd⟩
  (refine yl_guard_yes rfl (yl_pure tabOk rfl rfl (yl_guard_yes rfl (yl_pure tabOk rfl rfl (yl_guard_yes rfl (yl_pure tabOk rfl rfl (yl_guard_yes rfl ?_)))))); refine yl_loadB tabOk rfl rfl rfl (by assumption) (by rfl) ?_; refine yl_guard_yes rfl (yl_pure tabOk rfl rfl (yl_guard_yes rfl (yl_pure tabOk rfl rfl (yl_pure tabOk rfl rfl (yl_nil ?_))))))
  have hn := of_decide_eq_false hc
  refine y_if rfl (fun hc => ?_) (fun hc => ?_)
  · (refine y_seq (y_region (yl_pure tabOk rfl rfl (y_ret ?_))))
    exact y_fin1 rfl rfl ⟨0, rfl, by omega, .inr rfl, Chg.refl _ _, rfl, hd⟩
  have hnb : 0 < nb := by omega
  obtain ⟨bb, off, rfl, hcell⟩ := hsl hnb
  (refine y_skip (y_seq ?_))
  refine y_draw [] (by kernel_rfl) (by kernel_rfl) (fun w1 hc1 hs1 => ?_)
  have hb1 := hb.keep hc1
  ((iterate 3 refine yf_pure tabOk rfl rfl rfl ?_); refine yf_loadB tabOk rfl rfl rfl (by assumption) (by first | assumption | simp) (by rfl) ?_; (iterate 3 refine yf_pure tabOk rfl rfl rfl ?_); refine yf_loadB tabOk rfl rfl rfl (by assumption) (by first | assumption | simp) (by rfl) ?_; (iterate 3 refine yf_pure tabOk rfl rfl rfl ?_); refine yf_loadB tabOk rfl rfl rfl (by assumption) (by first | assumption | simp) (by rfl) ?_; refine yf_pure tabOk rfl rfl rfl ?_)
  have hlen : cs.length = nb := by have := hrd.1; omega
  have hm := tmod_pos hn0 (by omega : (0 : Int) < nb)
  refine yf_rem rfl rfl (by omega) rfl ?_
  refine yf_index tabOk rfl rfl rfl rfl rfl hm.1 hm.2 ?_
  obtain ⟨x, hx, hx0, hx1⟩ := hcs (cs[(next.tmod nb).toNat]'(by omega)) (List.getElem_mem _)
  refine yf_load1 tabOk rfl rfl rfl (fun w' hw' => ?_) (v := .int .u8 x) ?_
  · have h1 := ((hrd.keep hc1).keep hw').cell rfl (next.tmod nb).toNat (by omega)
    rw [Nat.mul_one, h1, List.getElem?_eq_getElem (by omega), hx]
  ((iterate 4 refine yf_pure tabOk rfl rfl rfl ?_); refine yf_loadB tabOk rfl rfl rfl (by assumption) (by first | assumption | simp) (by rfl) ?_; (iterate 3 refine yf_pure tabOk rfl rfl rfl ?_); refine yf_loadB tabOk rfl rfl rfl (by assumption) (by first | assumption | simp) (by rfl) ?_; refine yf_pure tabOk rfl rfl rfl ?_)
  refine yf_quo rfl rfl (by omega) rfl ?_
  ((iterate 3 refine yf_pure tabOk rfl rfl rfl ?_); refine y_seq (y_region ?_); (iterate 3 refine yl_pure tabOk rfl rfl ?_); refine yl_loadB tabOk rfl rfl rfl (by assumption) (by rfl) ?_; (iterate 3 refine yl_pure tabOk rfl rfl ?_))
  refine yl_store1 tabOk rfl rfl rfl rfl (by assumption) (by simp) (fun w2 hc2 hs2 hb2 => ?_)
  (refine y_seq (y_region ?_); (iterate 4 refine yl_pure tabOk rfl rfl ?_); refine yl_loadB tabOk rfl rfl rfl (by assumption) (by rfl) ?_; (iterate 7 refine yl_pure tabOk rfl rfl ?_))
  refine yl_rem rfl rfl (by omega) rfl ?_
  (refine yl_pure tabOk rfl rfl (yl_pure tabOk rfl rfl ?_))
  refine yl_store1 tabOk rfl rfl rfl rfl (by assumption) (by simp) (fun w3 hc3 hs3 hb3 => ?_)
  have hc03 : Chg [b] w w3 := (hc1.nil.trans hc2).trans hc3
  generalize hq : IntKind.u32.wrap (IntKind.i64.wrap (next.tdiv nb)) = q at *
  clear hq
  generalize hz : Int.tmod _ 65519 = z at *
  have hz0 : 0 ≤ z ∧ z < 65519 := by rw [← hz]; exact tmod_pos (wu32_range _).1 (by omega)
  clear hz
  have hd3 : DkS w3 b (.slice (some ⟨bb, off, none⟩) nb cap) (K + 1) := by
    refine ⟨next + 1, z, ?_, by omega, by omega, hz0.1, by omega⟩
    rw [w64 (by omega) (by omega)] at hb3
    exact hb3
  have hfin : ∀ y : Int, ∃ r, Value.int .i64 ((IntKind.i64.wrap (IntKind.u32.wrap y)).tmod n) = .int .i64 r ∧ 0 ≤ r ∧ (r < n ∨ r = 0) ∧ Chg [b] w w3 ∧ w3.heap.size = w.heap.size ∧ DkS w3 b (.slice (some ⟨bb, off, none⟩) nb cap) (K + 1) := by
    intro y
    have h1 := wu32_range y
    have h2 : IntKind.i64.wrap (IntKind.u32.wrap y) = IntKind.u32.wrap y := w64 (by omega) (by omega)
    rw [h2]
    have h3 := tmod_pos h1.1 (by omega : (0 : Int) < n)
    exact ⟨_, rfl, h3.1, .inl h3.2, hc03, by omega, hd3⟩
  (refine y_seq (y_seq (y_region ?_)); (iterate 3 refine yl_pure tabOk rfl rfl ?_))
  refine yl_split rfl rfl (fun hc => ?_) (fun hc => ?_)
  · (refine yl_guard_yes rfl (yl_pure tabOk rfl rfl (yl_guard_yes rfl (yl_pure tabOk rfl rfl (yl_pure tabOk rfl rfl (yl_nil ?_))))))
    refine y_if rfl (fun hc => ?_) (fun hc => ?_)
    · (refine y_seq (y_region ?_); (iterate 3 refine yl_pure tabOk rfl rfl ?_))
      refine yl_rem rfl rfl (by omega) rfl ?_
      (refine yl_pure tabOk rfl rfl (y_ret ?_))
      exact y_fin1 rfl rfl (hfin _)
    · (refine y_skip (y_seq (y_region ?_)); (iterate 3 refine yl_pure tabOk rfl rfl ?_); refine yl_loadB tabOk rfl rfl rfl (by assumption) (by rfl) ?_; (iterate 5 refine yl_pure tabOk rfl rfl ?_))
      refine yl_rem rfl rfl (by omega) rfl ?_
      (refine yl_pure tabOk rfl rfl (y_ret ?_))
      exact y_fin1 rfl rfl (hfin _)
  · (refine yl_guard_no rfl rfl rfl (yl_guard_no rfl rfl rfl (yl_pure tabOk rfl rfl (y_cond_false rfl (y_skip (y_seq (y_region ?_)))))); (iterate 3 refine yl_pure tabOk rfl rfl ?_); refine yl_loadB tabOk rfl rfl rfl (by assumption) (by rfl) ?_; (iterate 5 refine yl_pure tabOk rfl rfl ?_))
    refine yl_rem rfl rfl (by omega) rfl ?_
    (refine yl_pure tabOk rfl rfl (y_ret ?_))
    exact y_fin1 rfl rfl (hfin _)


end
/-- A deck, after at most K cards. -/
def dkP (bs : Value) (b K : Nat) : Ck := .gn (fun x => x = b) (fun w => DkS w b bs K) (fun w w' N h hc hN => by
  obtain ⟨next, st, h1, h2⟩ := h
  exact ⟨next, st, (hc.block b h1.lt (hN b rfl)).trans h1, h2⟩)

theorem drawP_ca (n : Int) (K : Nat) (hK : K < 4611686018427387904) (w : World) (b lo hi : Nat) (bs : Value) (hby : DkB w lo hi bs) (hlh : hi ≤ b) (hd : DkS w b bs K) :
    Ca Try.prog 69 [.pointer (some ⟨b, 0, none⟩), .int .i64 n] w fun v w' => ∃ x : Int, (v = .int .i64 x ∧ 0 ≤ x ∧ (x < n ∨ x = 0)) ∧ Sat w (fun x => x = b) [dkP bs b (K + 1)] w' :=
  (draw_ca n K hK w b lo hi bs hby hlh hd).mono fun v w' ⟨r, h1, h2, h3, h4, h5, h6⟩ =>
    ⟨r, ⟨h1, h2, h3⟩, ⟨h4.os, h4.tape, h4.output, h4.size, fun k hk hkb => h4.block k hk (by simpa using hkb)⟩, by simpa [dkP, Ck.p] using h6, .cons (by simp) .nil, fun c hc x hx => by
      obtain rfl : c = dkP bs b (K + 1) := by simpa using hc
      obtain rfl : x = b := hx
      obtain ⟨_, _, h7, _⟩ := h6
      exact ⟨h7.lt, .inl rfl⟩⟩



theorem dk_sat {w : World} {b K : Nat} {bs : Value} (hd : DkS w b bs K) : Sat w (fun x => x = b) [dkP bs b K] w :=
  ⟨ChgP.refl _ _, by simpa [dkP, Ck.p] using hd, .cons (by simp) .nil, fun c hc x hx => by
    obtain rfl : c = dkP bs b K := by simpa using hc
    obtain rfl : x = b := hx
    obtain ⟨_, _, h7, _⟩ := hd
    exact ⟨h7.lt, .inl rfl⟩⟩

theorem between_ca (l h : Int) (hl : -1000000 ≤ l) (hh : h ≤ 1000000) (hlh2 : l ≤ h) (K : Nat) (hK : K < 4611686018427387904) (w : World) (b lo hi : Nat) (bs : Value) (hby : DkB w lo hi bs) (hlh : hi ≤ b) (hd : DkS w b bs K) :
    Ca Try.prog 68 [.pointer (some ⟨b, 0, none⟩), .int .i64 l, .int .i64 h] w fun v w' => ∃ x : Int, (v = .int .i64 x ∧ l ≤ x ∧ x ≤ h) ∧ Sat w (fun x => x = b) [dkP bs b (K + 1)] w' := by
  refine q_of (dk_sat hd) Try.func68 rfl (by simp [Try.ntmps68]) ?_
  (refine q_seq (q_region (ql_pure tabOk rfl rfl (q_nil (q_seq (q_region ?_))))); (iterate 4 refine ql_pure tabOk rfl rfl ?_); refine ql_ar tabOk rfl rfl rfl rfl (by omega) (by omega) (ql_ar tabOk rfl rfl rfl rfl (by omega) (by omega) ?_))
  refine ql_call (β := Int) (ψ := fun x v => v = .int .i64 x ∧ 0 ≤ x ∧ (x < h - l + 1 ∨ x = 0)) (L' := fun _ => [dkP bs b (K + 1)]) tabOk [dkP bs b K] [] (fun x => x = b) rfl rfl rfl rfl (Sp.refl _) (fun x hx => ⟨_, .head _, hx⟩) (fun w' hs => drawP_ca (h - l + 1) K hK w' b lo hi bs (by
    obtain ⟨nb, cs, h1, h2⟩ := hby
    exact ⟨nb, cs, h1.chg (N := [b]) ⟨hs.chg.os, hs.chg.tape, hs.chg.output, hs.chg.size, fun k hk hkb => hs.chg.block k hk (by simpa using hkb)⟩ (fun k hk => .inr (by simp at hk; omega)), h2⟩) hlh (hs.all _ (.head _))) ?_
  rintro x _ ⟨rfl, hx0, hx1⟩
  (refine ql_ar tabOk rfl rfl rfl rfl (by omega) (by omega) (ql_pure tabOk rfl rfl (q_nil (q_ret ?_))))
  refine q_fin tabOk rfl (by repeat constructor) fun w hs => ?_
  exact ⟨_, ⟨rfl, by omega, by omega⟩, hs⟩



theorem of_ca (w : World) (a : Option Addr) (n c : Nat) : Ca Try.prog 12 [.slice a n c] w fun v w' => ∃ b : Nat, v = .pointer (some ⟨b, 0, none⟩) ∧ Sat w M0 [dkP (.slice a n c) b 0] w' := by
  refine q_of (Sat.nil w M0) Try.func12 rfl (by simp [Try.ntmps12]) ?_
  (refine q_seq (q_region (ql_pure tabOk rfl rfl (q_nil (q_seq (q_region (ql_pure tabOk rfl rfl ?_)))))))
  refine ql_mk #[.slice a n c, .int .i64 0, .int .u32 17] rfl (by kernel_rfl) rfl ?_
  skip
  refine ql_box rfl rfl (fun b1 => ?_)
  (refine ql_pure tabOk rfl rfl (q_nil (q_ret ?_)))
  refine q_fin tabOk rfl (by repeat constructor) fun w hs => ?_
  refine ⟨b1, rfl, ⟨hs.chg, fun d hd => ?_, .cons (by simp) .nil, fun d hd x hx => ?_⟩⟩
  · obtain rfl : d = dkP (.slice a n c) b1 0 := by simpa using hd
    exact ⟨0, 17, hs.all _ (.head _), by omega, by omega, by omega, by omega⟩
  · obtain rfl : d = dkP (.slice a n c) b1 0 := by simpa using hd
    obtain rfl : x = b1 := hx
    exact hs.bd _ (.head _) x rfl



theorem DkB.keepP {w w' : World} {lo hi b : Nat} {bs : Value} (h : DkB w lo hi bs) (hlh : hi ≤ b) (hc : ChgP (fun x => x = b) w w') : DkB w' lo hi bs := by
  obtain ⟨nb, cs, h1, h2⟩ := h
  exact ⟨nb, cs, h1.chg (N := [b]) ⟨hc.os, hc.tape, hc.output, hc.size, fun k hk hkb => hc.block k hk (by simpa using hkb)⟩ (fun k hk => .inr (by simp at hk; omega)), h2⟩
theorem DkS.mono {w : World} {b K K' : Nat} {bs : Value} (h : DkS w b bs K) (hk : K ≤ K') : DkS w b bs K' := by
  obtain ⟨next, st, h1, h2, h3, h4⟩ := h
  exact ⟨next, st, h1, h2, by omega, h4⟩
theorem Sat.dk {w0 w : World} {M : Nat → Prop} {R : List Ck} {b K K' : Nat} {bs : Value} (h : Sat w0 M (dkP bs b K :: R) w) (hk : K ≤ K') : Sat w0 M (dkP bs b K' :: R) w := h.turn (fun _ h => h) (fun h => DkS.mono h hk)



section
variable {K b : Nat} {bs : Value} {w0 w : World} {R : List Ck}
theorem dk_new (hs : Sat w0 M0 (dkP bs b K :: R) w) : w0.heap.size ≤ b := (hs.bd _ (.head _) b rfl).2.resolve_left (fun h => h)
end
end Go.Proofs.Ytcmpdmobmbbplaa

/- Walks: a lab is made of numbers. -/
namespace Go.Proofs.Ytcmpdmobmbbplaa
open Go Go.Eng

/-- What a lab that was made has. -/
structure MadeL (most runs : Nat) (l : Lb) (real : List Int) : Prop where
  ok : l.Ok
  s2 : 2 ≤ l.skis
  sm : l.skis ≤ most
  e12 : l.err ≤ 11
  len : l.runs.length ≤ runs
  tr : l.True real
  rl : real.length = l.n
  rb : ∀ x ∈ real, 0 ≤ x ∧ x ≤ 96
theorem slR : SlT Try.prog 23 33 3 24 (.agg #[.int .i64 0, .int .i64 0, .int .i64 0]) := ⟨by kernel_rfl, by kernel_rfl, by kernel_rfl, by decide⟩
theorem rnC_snoc (l : List Rn) (r : Rn) : rnC (l ++ [r]) = rnC l ++ [.int .i64 r.a, .int .i64 r.b, .int .i64 r.lead] := by simp [rnC]
theorem mod_two {n i : Nat} {x : Int} (hi : i < n) (h0 : 0 ≤ x) (hx : x < (n : Int) - 1) : ∃ j : Nat, ((i : Int) + 1 + x) % (n : Int) = j ∧ j < n ∧ j ≠ i := by
  by_cases h : (i : Int) + 1 + x < n
  · exact ⟨(i + 1 + x).toNat, by rw [Int.emod_eq_of_lt (by omega) h]; omega, by omega, by omega⟩
  · refine ⟨(i + 1 + x - n).toNat, ?_, by omega, by omega⟩
    have : ((i : Int) + 1 + x) % n = (i + 1 + x - n) % n := by rw [Int.sub_emod_right]
    rw [this, Int.emod_eq_of_lt (by omega) (by omega)]
    omega
set_option maxHeartbeats 4000000 in
theorem made_ca (most runs : Nat) (h1 : 2 ≤ most) (h2 : most ≤ 8) (h3 : runs ≤ 20) (K : Nat) (hK : K < 100000) (w : World) (b lo hi : Nat) (bs : Value) (hby : DkB w lo hi bs) (hlh : hi ≤ b) (hd : DkS w b bs K) :
    Ca Try.prog 11 [.pointer (some ⟨b, 0, none⟩), .int .i64 most, .int .i64 runs] w fun v w' => ∃ y : Value × Value × Lb × List Int, (v = .tuple #[.agg (lbC y.2.2.1 y.1).toArray, y.2.1] ∧ MadeL most runs y.2.2.1 y.2.2.2) ∧ Sat w (fun x => x = b) [.ow y.1 33 3 y.2.2.1.runs.length (rnC y.2.2.1.runs), .ow y.2.1 3 1 y.2.2.2.length (ints y.2.2.2), dkP bs b (K + 100)] w' := by
  refine q_of (dk_sat hd) Try.func11 rfl (by simp [Try.ntmps11]) ?_
  (refine q_seq (q_region ?_))
  refine ql_alloc zero25 rfl (fun b6 => ?_)
  (refine ql_pure tabOk rfl rfl (q_nil (q_seq (q_region (ql_pure tabOk rfl rfl (ql_pure tabOk rfl rfl ?_))))))
  refine ql_call (β := Int) (ψ := fun zq v => v = .int .i64 zq ∧ 2 ≤ zq ∧ zq ≤ most) (L' := fun _ => [dkP bs b (K + 1)]) tabOk [dkP bs b (K)] _ (fun x => x = b) rfl rfl rfl rfl (Sp.cons (by repeat constructor) (Sp.refl _)) (fun x hx => ⟨_, .head _, hx⟩) (fun w' hs => between_ca (2) (most) (by omega) (by omega) (by omega) (K) (by omega) w' b lo hi bs (hby.keepP hlh hs.chg) hlh (hs.all _ (.head _))) ?_; rintro sk _ ⟨rfl, hsk⟩
  (refine ql_pure tabOk rfl rfl ?_)
  refine ql_call (β := Int) (ψ := fun zq v => v = .int .i64 zq ∧ 0 ≤ zq ∧ (zq < 12 ∨ zq = 0)) (L' := fun _ => [dkP bs b (K + 1 + 1)]) tabOk [dkP bs b (K + 1)] _ (fun x => x = b) rfl rfl rfl rfl (Sp.cons (by repeat constructor) (Sp.refl _)) (fun x hx => ⟨_, .head _, hx⟩) (fun w' hs => drawP_ca (12) (K + 1) (by omega) w' b lo hi bs (hby.keepP hlh hs.chg) hlh (hs.all _ (.head _))) ?_; rintro er _ ⟨rfl, her⟩
  skip
  obtain ⟨n, rfl⟩ := Int.eq_ofNat_of_zero_le (show 0 ≤ sk by omega)
  have hn : 2 ≤ n ∧ n ≤ most := by omega
  refine ql_mk #[.int .i64 n, .int .i64 er, .slice none 0 0] rfl (by kernel_rfl) rfl ?_
  skip
  refine ql_alloc zero25 rfl (fun b8 => ?_)
  (refine ql_setA tabOk rfl rfl rfl rfl rfl (by repeat constructor) rfl ?_; refine q_nil (q_seq (q_region (ql_pure tabOk rfl rfl (q_nil (q_seq (q_seq (q_region (ql_pure tabOk rfl rfl ?_)))))))); refine ql_loadBa tabOk rfl rfl rfl ?_; refine ql_pure tabOk rfl rfl (q_nil (q_block ?_)))
  refine q_conv (H' := [.ow (.slice none 0 0) 3 1 0 (ints []), dkP bs b (K + 2 + 0), .pt b8 [.int .i64 n, .int .i64 er, .slice none 0 0] 25, .pt b6 [.int .i64 0, .int .i64 0, .slice none 0 0] 25]) (fun w' hs => (Sat.ownil hs 3 1).sp (by repeat constructor)) ?_
  refine q_loop (σ := Value × List Int) (fun s => s.2.length ≤ n ∧ ∀ x ∈ s.2, 0 ≤ x ∧ x ≤ 96) (fun s => n - s.2.length) (fun s => [(0, .pointer (some ⟨b, 0, none⟩)), (2, .int .i64 runs), (6, .pointer (some ⟨b6, 0, none⟩)), (8, .pointer (some ⟨b8, 0, none⟩)), (9, s.1), (19, .int .i64 n), (20, .int .i64 s.2.length)])
    (fun s => [.ow s.1 3 1 s.2.length (ints s.2), dkP bs b (K + 2 + s.2.length), .pt b8 [.int .i64 n, .int .i64 er, .slice none 0 0] 25, .pt b6 [.int .i64 0, .int .i64 0, .slice none 0 0] 25]) (.slice none 0 0, []) (by simp) ⟨rfl, rfl, rfl, rfl, rfl, rfl, rfl, trivial⟩ (by repeat constructor) ?_
  rintro ⟨u, real⟩ ⟨hl, hB⟩ K1 hK1
  dsimp only at hl hB ⊢
  (refine q_seq (q_region (ql_pure tabOk rfl rfl (q_nil (q_seq ?_)))))
  refine q_if rfl (fun hc => ?_) (fun hc => ?_)
  · have hl2 : real.length < n := by omega
    clear hc
    obtain ⟨k, hk⟩ : ∃ k, k = real.length := ⟨_, rfl⟩
    rw [← hk]
    (refine q_skip (q_seq (q_block (q_region (ql_pure tabOk rfl rfl (ql_pure tabOk rfl rfl ?_))))))
    refine ql_call (β := Int) (ψ := fun zq v => v = .int .i64 zq ∧ 0 ≤ zq ∧ (zq < 25 ∨ zq = 0)) (L' := fun _ => [dkP bs b (K + 2 + k + 1)]) tabOk [dkP bs b (K + 2 + k)] _ (fun x => x = b) rfl rfl rfl rfl (Sp.cons (by repeat constructor) (Sp.refl _)) (fun x hx => ⟨_, .head _, hx⟩) (fun w' hs => drawP_ca (25) (K + 2 + k) (by omega) w' b lo hi bs (hby.keepP hlh hs.chg) hlh (hs.all _ (.head _))) ?_; rintro x _ ⟨rfl, hx⟩
    (refine ql_ar tabOk rfl rfl rfl rfl (by omega) (by omega) ?_)
    refine ql_mkS 3 [.int .i64 (4 * x)] rfl (by kernel_rfl) rfl (fun bn => ?_)
    skip
    refine ql_append (q := 1) (news := [.int .i64 (4 * x)]) slI rfl rfl rfl (fun v' => by repeat constructor) (fun w' hs => ⟨_, _, Blk.rdN (hs.blk (b := bn) (by repeat constructor)) rfl⟩) (by simp [oneV]) (by omega) (by omega) (fun u' => ?_)
    (refine ql_pure tabOk rfl rfl (q_nil (q_blk (q_region (ql_ar tabOk rfl rfl rfl rfl (by omega) (by omega) (ql_pure tabOk rfl rfl (q_nil ?_)))))))
    have e1 : ints (real ++ [4 * x]) = ints real ++ [.int .i64 (4 * x)] := by simp [ints]
    exact hK1 (u', real ++ [4 * x]) _ _ ⟨by simp; omega, fun y hy => by
      rcases List.mem_append.1 hy with hy | hy
      · exact hB y hy
      · rw [List.mem_singleton.1 hy]; omega⟩ (by simp; omega) ⟨rfl, rfl, rfl, rfl, rfl, rfl, lookI rfl (by simp; omega), trivial⟩ (by dsimp only; rw [e1, show (real ++ [4 * x]).length = k + 1 from by simp [hk]]; repeat constructor)
  · have hln : real.length = n := by omega
    clear hc hK1 hl
    rw [hln]
    (refine q_exit _ rfl (q_seq (q_seq (q_region (ql_pure tabOk rfl rfl (ql_pure tabOk rfl rfl (ql_ar tabOk rfl rfl rfl rfl (by omega) (by omega) ?_)))))))
    refine ql_call (β := Int) (ψ := fun zq v => v = .int .i64 zq ∧ 0 ≤ zq ∧ (zq < (runs : Int) + 1 ∨ zq = 0)) (L' := fun _ => [dkP bs b (K + 2 + n + 1)]) tabOk [dkP bs b (K + 2 + n)] _ (fun x => x = b) rfl rfl rfl rfl (Sp.cons (by repeat constructor) (Sp.refl _)) (fun x hx => ⟨_, .head _, hx⟩) (fun w' hs => drawP_ca ((runs : Int) + 1) (K + 2 + n) (by omega) w' b lo hi bs (hby.keepP hlh hs.chg) hlh (hs.all _ (.head _))) ?_; rintro ct _ ⟨rfl, hct⟩
    (refine ql_pure tabOk rfl rfl (q_nil (q_block ?_)))
    obtain ⟨cn, rfl⟩ := Int.eq_ofNat_of_zero_le hct.1
    have hcn : cn ≤ runs := by omega
    clear hct
    refine q_fact (fun w hs => hs.ownSome (v := u) (by repeat constructor) (by omega)) ?_
    rintro ⟨g, gc, rfl⟩
    refine q_conv (H' := [.ow (.slice none 0 0) 33 3 0 (rnC []), dkP bs b (K + 3 + n + 0), .pt b8 [.int .i64 n, .int .i64 er, .slice none 0 0] 25, .ow (.slice (some ⟨g, 0, none⟩) n gc) 3 1 n (ints real), .pt b6 [.int .i64 0, .int .i64 0, .slice none 0 0] 25]) (fun w' hs => by
      have e : K + 2 + n + 1 = K + 3 + n + 0 := by omega
      rw [e] at hs
      exact (Sat.ownil hs 33 3).sp (by repeat constructor)) ?_
    refine q_loop (σ := Value × List Rn) (fun s => s.2.length ≤ cn ∧ ∀ r ∈ s.2, r.Ok n ∧ r.True er real) (fun s => cn - s.2.length) (fun s => [(0, .pointer (some ⟨b, 0, none⟩)), (6, .pointer (some ⟨b6, 0, none⟩)), (8, .pointer (some ⟨b8, 0, none⟩)), (9, .slice (some ⟨g, 0, none⟩) n gc), (32, .int .i64 cn), (33, .int .i64 s.2.length)])
      (fun s => [.ow s.1 33 3 s.2.length (rnC s.2), dkP bs b (K + 3 + n + 3 * s.2.length), .pt b8 [.int .i64 n, .int .i64 er, s.1] 25, .ow (.slice (some ⟨g, 0, none⟩) n gc) 3 1 n (ints real), .pt b6 [.int .i64 0, .int .i64 0, .slice none 0 0] 25]) (.slice none 0 0, []) (by simp) ⟨rfl, rfl, rfl, rfl, rfl, rfl, trivial⟩ (by repeat constructor) ?_
    rintro ⟨v, rs⟩ ⟨hl, hI⟩ K1 hK1
    dsimp only at hl hI ⊢
    (refine q_seq (q_region (ql_pure tabOk rfl rfl (q_nil (q_seq ?_)))))
    refine q_if rfl (fun hc => ?_) (fun hc => ?_)
    · have hl2 : rs.length < cn := by omega
      clear hc
      obtain ⟨k, hk⟩ : ∃ k, k = rs.length := ⟨_, rfl⟩
      rw [← hk]
      refine q_fact (fun w hs => hs.slice2 (v := v) (by repeat constructor)) ?_
      rintro ⟨va, vc, rfl⟩
      (refine q_skip (q_seq (q_block (q_seq (q_region (ql_pure tabOk rfl rfl (ql_pure tabOk rfl rfl ?_)))))); refine ql_loadBa tabOk rfl rfl rfl ?_)
      refine ql_call (β := Int) (ψ := fun zq v => v = .int .i64 zq ∧ 0 ≤ zq ∧ (zq < (n : Int) ∨ zq = 0)) (L' := fun _ => [dkP bs b (K + 3 + n + 3 * k + 1)]) tabOk [dkP bs b (K + 3 + n + 3 * k)] _ (fun x => x = b) rfl rfl rfl rfl (Sp.cons (by repeat constructor) (Sp.refl _)) (fun x hx => ⟨_, .head _, hx⟩) (fun w' hs => drawP_ca ((n : Int)) (K + 3 + n + 3 * k) (by omega) w' b lo hi bs (hby.keepP hlh hs.chg) hlh (hs.all _ (.head _))) ?_; rintro ai _ ⟨rfl, hai⟩
      (refine ql_pure tabOk rfl rfl (q_nil (q_seq ?_)))
      obtain ⟨i, rfl⟩ := Int.eq_ofNat_of_zero_le hai.1
      have hi2 : i < n := by omega
      clear hai
      refine q_drawB2 [true, true, true, true, true, true, true, true, true, true, true, true] [.pt b8 [.int .i64 n, .int .i64 er, (.slice va k vc)] 25, .ow (.slice va k vc) 33 3 k (rnC rs), .ow (.slice (some ⟨g, 0, none⟩) n gc) 3 1 n (ints real), .pt b6 [.int .i64 0, .int .i64 0, .slice none 0 0] 25] [dkP bs b (K + 3 + n + 3 * k + 1)] [.pt b8 [.int .i64 n, .int .i64 er, (.slice va k vc)] 25, .ow (.slice va k vc) 33 3 k (rnC rs), .ow (.slice (some ⟨g, 0, none⟩) n gc) 3 1 n (ints real), .pt b6 [.int .i64 0, .int .i64 0, .slice none 0 0] 25] [] (by repeat constructor) (by repeat constructor) (by kernel_rfl) (by kernel_rfl) (by kernel_rfl) ?_
      refine qb_T2 12 [dkP bs b (K + 3 + n + 3 * k + 1)] rfl rfl (by repeat constructor) fun K2 hK2 => ?_
      (refine qf_pure tabOk rfl rfl rfl (qf_ar tabOk rfl rfl rfl rfl (by omega) (by omega) (qf_pure tabOk rfl rfl rfl (qf_pure tabOk rfl rfl rfl ?_))); refine qf_loadBa tabOk rfl rfl rfl ?_; refine qf_ar tabOk rfl rfl rfl rfl (by omega) (by omega) ?_)
      refine qf_call (β := Int) (ψ := fun zq v => v = .int .i64 zq ∧ 0 ≤ zq ∧ (zq < ((n : Int) - 1) ∨ zq = 0)) (L' := fun _ => [dkP bs b (K + 3 + n + 3 * k + 1 + 1)]) tabOk [dkP bs b (K + 3 + n + 3 * k + 1)] _ (fun x => x = b) rfl rfl rfl rfl (Sp.cons (by repeat constructor) (Sp.refl _)) (fun x hx => ⟨_, .head _, hx⟩) (fun w' hs => drawP_ca (((n : Int) - 1)) (K + 3 + n + 3 * k + 1) (by omega) w' b lo hi bs (hby.keepP hlh hs.chg) hlh (hs.all _ (.head _))) ?_; rintro x _ ⟨rfl, hx⟩
      (refine qf_ar tabOk rfl rfl rfl rfl (by omega) (by omega) (qf_pure tabOk rfl rfl rfl ?_); refine qf_loadBa tabOk rfl rfl rfl ?_; refine qf_remN rfl rfl rfl (by omega) (by omega) (qf_pure tabOk rfl rfl rfl (qf_nil ?_)))
      refine hK2 _ _ (qb_nil ?_)
      obtain ⟨j, hj, hj2, hj3⟩ := mod_two hi2 hx.1 (by omega)
      rw [hj]
      have hi4 : i < real.length := by omega
      have hj4 : j < real.length := by omega
      have bi := hB _ (List.getElem_mem hi4)
      have bj := hB _ (List.getElem_mem hj4)
      skip
      refine q_drawB2 [true, true, true, true, true, true, true, true, true, true, true, true, true, true, true, true, true, true, true, true, true, true, true, false, false, false] [.pt b8 [.int .i64 n, .int .i64 er, .slice va k vc] 25, .ow (.slice va k vc) 33 3 k (rnC rs), .ow (.slice (some ⟨g, 0, none⟩) n gc) 3 1 n (ints real), .pt b6 [.int .i64 0, .int .i64 0, .slice none 0 0] 25] [dkP bs b (K + 3 + n + 3 * k + 1 + 1)] [.ow (.slice (some ⟨g, 0, none⟩) n gc) 3 1 n (ints real), .pt b6 [.int .i64 0, .int .i64 0, .slice none 0 0] 25] [.pt b8 [.int .i64 n, .int .i64 er, .slice va k vc] 25, .ow (.slice va k vc) 33 3 k (rnC rs)] (by repeat constructor) (by repeat constructor) (by kernel_rfl) (by kernel_rfl) (by kernel_rfl) ?_
      refine qb_T2 23 [dkP bs b (K + 3 + n + 3 * k + 1 + 1)] rfl rfl (by repeat constructor) fun K2 hK2 => ?_
      (refine qf_pure tabOk rfl rfl rfl ?_; refine qf_loadBa tabOk rfl rfl rfl ?_; (iterate 4 refine qf_pure tabOk rfl rfl rfl ?_))
      refine qf_index tabOk rfl rfl rfl rfl rfl (by omega) (by omega) ?_
      refine qf_load1 (v := .int .i64 real[i]) tabOk rfl rfl rfl (fun w hs => RdI.at (hs.rdI (v := .slice (some ⟨g, 0, none⟩) n gc) (l := real) (t := 3) (n := n) (by repeat constructor) hln.symm) i hi4) ?_
      (refine qf_pure tabOk rfl rfl rfl (qf_pure tabOk rfl rfl rfl ?_))
      refine qf_index tabOk rfl rfl rfl rfl rfl (by omega) (by omega) ?_
      refine qf_load1 (v := .int .i64 real[j]) tabOk rfl rfl rfl (fun w hs => RdI.at (hs.rdI (v := .slice (some ⟨g, 0, none⟩) n gc) (l := real) (t := 3) (n := n) (by repeat constructor) hln.symm) j hj4) ?_
      (refine qf_ar tabOk rfl rfl rfl rfl (by omega) (by omega) (qf_pure tabOk rfl rfl rfl (qf_pure tabOk rfl rfl rfl ?_)); refine qf_loadBa tabOk rfl rfl rfl ?_; refine qf_neg tabOk rfl rfl (by omega) (by omega) (qf_pure tabOk rfl rfl rfl ?_); refine qf_loadBa tabOk rfl rfl rfl ?_)
      refine qf_call (β := Int) (ψ := fun zq v => v = .int .i64 zq ∧ (-er) ≤ zq ∧ zq ≤ er) (L' := fun _ => [dkP bs b (K + 3 + n + 3 * k + 1 + 1 + 1)]) tabOk [dkP bs b (K + 3 + n + 3 * k + 1 + 1)] _ (fun x => x = b) rfl rfl rfl rfl (Sp.cons (by repeat constructor) (Sp.refl _)) (fun x hx => ⟨_, .head _, hx⟩) (fun w' hs => between_ca ((-er)) (er) (by omega) (by omega) (by omega) (K + 3 + n + 3 * k + 1 + 1) (by omega) w' b lo hi bs (hby.keepP hlh hs.chg) hlh (hs.all _ (.head _))) ?_; rintro y _ ⟨rfl, hy⟩
      (refine qf_ar tabOk rfl rfl rfl rfl (by omega) (by omega) ?_)
      refine qf_mk #[.int .i64 i, .int .i64 j, .int .i64 (real[i] - real[j] + y)] rfl (by kernel_rfl) rfl ?_
      skip
      refine qf_mkS 33 [.int .i64 i, .int .i64 j, .int .i64 (real[i] - real[j] + y)] rfl (by kernel_rfl) rfl (fun bn => ?_)
      (refine qf_nil ?_)
      refine hK2 _ _ (qb_F 3 [.pt bn [.int .i64 i, .int .i64 j, .int .i64 (real[i] - real[j] + y)] 33, dkP bs b (K + 3 + n + 3 * k + 1 + 1 + 1), .pt b8 [.int .i64 n, .int .i64 er, .slice va k vc] 25, .ow (.slice va k vc) 33 3 k (rnC rs)] rfl rfl (by repeat constructor) fun K2 hK2 => ?_)
      refine qf_append (q := 1) (news := [.int .i64 i, .int .i64 j, .int .i64 (real[i] - real[j] + y)]) slR rfl rfl rfl (fun v' => by repeat constructor) (fun w' hs => ⟨_, _, Blk.rdN (hs.blk (b := bn) (by repeat constructor)) rfl⟩) (by simp [oneV]) (by omega) (by omega) (fun u' => ?_)
      refine qf_fact (fun w hs => hs.slice2 (v := u') (by repeat constructor)) ?_
      rintro ⟨a1, c1, rfl⟩
      (refine qf_pure tabOk rfl rfl rfl ?_; refine qf_st2 tabOk rfl rfl rfl rfl (by repeat constructor) ?_; refine qf_nil ?_)
      refine hK2 _ _ (qb_nil ?_)
      (refine q_blk (q_region (ql_ar tabOk rfl rfl rfl rfl (by omega) (by omega) (ql_pure tabOk rfl rfl (q_nil ?_)))))
      have e1 := rnC_snoc rs ⟨i, j, real[i] - real[j] + y⟩
      have e3 : K + 3 + n + 3 * (k + 1) = K + 3 + n + 3 * k + 1 + 1 + 1 := by omega
      exact hK1 (.slice a1 (k + 1) c1, rs ++ [⟨i, j, real[i] - real[j] + y⟩]) _ _ ⟨by simp; omega, fun r hr => by
        rcases List.mem_append.1 hr with hr | hr
        · exact hI r hr
        · rw [List.mem_singleton.1 hr]
          refine ⟨⟨by simp only; omega, by simp only; omega, by simp only; omega, by simp only; omega, by simp only; omega, by simp only; omega, by simp only; omega⟩, ?_, ?_⟩
          · simp only [Int.toNat_natCast, getD_get hi4, getD_get hj4]; omega
          · simp only [Int.toNat_natCast, getD_get hi4, getD_get hj4]; omega⟩ (by simp; omega) ⟨rfl, rfl, rfl, rfl, rfl, lookI rfl (by simp; omega), trivial⟩ (by dsimp only; rw [e1, show (rs ++ [(⟨i, j, real[i] - real[j] + y⟩ : Rn)]).length = k + 1 from by simp [hk], e3]; repeat constructor)
    · have hcc : rs.length = cn := by omega
      have hln' : real.length = n := hln
      clear hc hK1
      refine q_fact (fun w hs => hs.slice2 (v := v) (by repeat constructor)) ?_
      rintro ⟨va, vc, rfl⟩
      (refine q_exit _ rfl (q_seq (q_region ?_)); refine ql_loadABa tabOk rfl rfl rfl ?_; refine ql_pure tabOk rfl rfl ?_; refine ql_setA tabOk rfl rfl rfl rfl rfl (by repeat constructor) rfl ?_; refine ql_pure tabOk rfl rfl (q_nil (q_ret ?_)))
      refine q_fin tabOk rfl (by repeat constructor) fun w hs => ?_
      refine ⟨(.slice va rs.length vc, .slice (some ⟨g, 0, none⟩) n gc, ⟨n, er, rs⟩, real), ⟨rfl, ⟨by simp only; omega, by simp only; omega, by simp only; omega, by simp only; omega, by simp only; omega, fun r hr => (hI r hr).1⟩, by simp only; omega, by simp only; omega, by simp only; omega, by simp only; omega, fun r hr => (hI r hr).2, by unfold Lb.n; simp only; omega, hB⟩, ?_⟩
      have hs1 := hs.sp (H' := [dkP bs b (K + 3 + n + 3 * rs.length), .ow (.slice va rs.length vc) 33 3 rs.length (rnC rs), .ow (.slice (some ⟨g, 0, none⟩) n gc) 3 1 n (ints real)]) (by repeat constructor)
      have hs2 := Sat.dk hs1 (K' := K + 100) (by omega)
      dsimp only
      rw [hln']
      exact hs2.sp (by repeat constructor)
end Go.Proofs.Ytcmpdmobmbbplaa

/- Walks: tables are made of numbers, and copied. -/
namespace Go.Proofs.Ytcmpdmobmbbplaa
open Go Go.Eng

end Go.Proofs.Ytcmpdmobmbbplaa

/- Walks: the regrets of a table; lists of lists copied. -/
namespace Go.Proofs.Ytcmpdmobmbbplaa
open Go Go.Eng

end Go.Proofs.Ytcmpdmobmbbplaa

/- Walks: breaks; slices.Clone; waxes that are good on a snow. -/
namespace Go.Proofs.Ytcmpdmobmbbplaa
open Go Go.Eng

/-- Chosen waxes as numbers. -/
def chI (ch : List Nat) : List Int := ch.map fun (x : Nat) => (x : Int)
theorem chI_len (ch : List Nat) : (chI ch).length = ch.length := by simp [chI]
def pGd (R : List (List Int)) (most : Int) (s : Nat) : Value → Bool
  | .int _ i => decide ((R.getD i.toNat []).getD s 0 ≤ most)
  | _ => false
end Go.Proofs.Ytcmpdmobmbbplaa

/- Walks: whether places are known; the first order that fits; where a number is. -/
namespace Go.Proofs.Ytcmpdmobmbbplaa
open Go Go.Eng

theorem known_ok (w : World) (lo hi : Nat) (l : Lb) (v : Value) (k : Nat) (h : RdR w lo hi v l.runs) (hl : l.Ok) (hc : NoC l.ord l.n) (k1 : 1 ≤ k) (k2 : k ≤ l.n) : Ca Try.prog 59 [.agg (lbC l v).toArray, .int .i64 k] w fun x w' => x = .tuple #[.bool (knownO l.ord l.n k), .int .i64 0] ∧ Chg [] w w' := by
  obtain ⟨n, en, hn', h8, h1⟩ := hl.nat
  rw [hn'] at k2 ⊢
  have hlen : l.runs.length ≤ maxLen := by have := hl.len; simp only [maxLen]; omega
  have hpl : placedV l k = 0 := placed_iff.2 ⟨hl, by omega, by omega⟩
  refine q_of (Sat.nil w M0) Try.func59 rfl (by simp [Try.ntmps59]) ?_
  (refine q_seq (q_region ?_))
  refine ql_box rfl rfl (fun b2 => ?_)
  rw [agg_cells]
  (refine ql_pure tabOk rfl rfl (ql_pure tabOk rfl rfl (q_nil (q_seq (q_seq (q_region ?_))))); refine ql_loadABa tabOk rfl rfl rfl ?_; refine ql_pure tabOk rfl rfl ?_)
  refine ql_callv (val := .int .i64 0) tabOk rfl rfl rfl rfl (fun w hs => ?_) ?_; exact by have := placed_ca w lo hi l v k (RdE.keep h hs.chg0) hlen; rw [hpl] at this; exact this
  (refine ql_pure tabOk rfl rfl (q_nil (q_seq (q_region (ql_pure tabOk rfl rfl (ql_neqF tabOk rfl rfl rfl (by omega) (q_nil (q_cond_false rfl (q_skip (q_seq (q_region ?_)))))))))); refine ql_loadABa tabOk rfl rfl rfl ?_)
  refine ql_call (β := Nat) tabOk [] _ M0 rfl rfl rfl rfl (Sp.refl _) (fun _ h => h.elim) (fun w' hs => agreed_ok w' lo hi l v (RdE.keep h hs.chg0) hl hc) ?_
  rintro b _ rfl
  dsimp only [List.cons_append, List.nil_append]
  (refine ql_pure tabOk rfl rfl (ql_ext tabOk rfl rfl rfl (ql_ext tabOk rfl rfl rfl (ql_pure tabOk rfl rfl (ql_pure tabOk rfl rfl (q_nil (q_seq (q_seq (q_region (ql_pure tabOk rfl rfl (ql_neqF tabOk rfl rfl rfl (by omega) (q_nil ?_))))))))))); refine q_cond_false rfl (q_skip (q_seq ?_)))
  refine q_draw _ [] (Sp.refl _) (by kernel_rfl) (by kernel_rfl) ?_
  ((iterate 3 refine qf_pure tabOk rfl rfl rfl ?_); refine qf_loadABa tabOk rfl rfl rfl ?_; (iterate 4 refine qf_pure tabOk rfl rfl rfl ?_); refine qf_loadBa tabOk rfl rfl rfl ?_; refine qf_pure tabOk rfl rfl rfl ?_)
  rw [dk_take, en]
  refine qf_callv (val := .bool (knownO l.ord n k)) tabOk rfl rfl rfl rfl (fun w hs => ?_) ?_; exact known_ca w l.ord n k h8 k2
  (refine qf_pure tabOk rfl rfl rfl (qf_pure tabOk rfl rfl rfl (qf_nil (q_ret ?_))))
  refine q_fin tabOk rfl (by repeat constructor) fun w hs => ?_
  exact ⟨rfl, hs.chg0⟩
/-- Where a number is in a list, or -1. -/
def idxN (L : List Nat) (x : Nat) : Int := if x ∈ L then (L.idxOf x : Int) else -1
theorem idxN_at {L : List Nat} {x : Nat} {i : Nat} (hi : i < L.length) (h : x ∉ L.take i) (e : L[i] = x) : idxN L x = i := by
  unfold idxN
  rw [if_pos (by rw [← e]; exact List.getElem_mem hi)]
  have h1 : (L.take i ++ L.drop i).idxOf x = (L.drop i).idxOf x + (L.take i).length := by rw [List.idxOf_append, if_neg h]
  rw [List.take_append_drop, List.drop_eq_getElem_cons hi, e, List.idxOf_cons_self, List.length_take] at h1
  omega
theorem indexN_ca (w : World) (lo hi : Nat) (v : Value) (L : List Nat) (x : Nat) (h : RdI w lo hi v (chI L)) (hlen : L.length ≤ 1000000) :
    Ca Try.prog 62 [v, .int .i64 x] w fun r w' => r = .int .i64 (idxN L x) ∧ Chg [] w w' := by
  obtain ⟨a, ca, rfl, hsa⟩ := RdI.outI h
  have hcl := chI_len L
  rw [hcl] at hsa h ⊢
  refine q_of (Sat.nil w M0) Try.func62 rfl (by simp [Try.ntmps62]) ?_
  (refine q_seq (q_region (ql_pure tabOk rfl rfl (q_nil (q_seq (q_seq (q_region ?_)))))); (iterate 3 refine ql_pure tabOk rfl rfl ?_); refine q_nil (q_block ?_))
  refine q_loop (σ := Nat) (fun s => s ≤ L.length ∧ x ∉ L.take s) (fun s => L.length - s) (fun s => [(0, .slice a L.length ca), (1, .int .i64 x), (7, .int .i64 L.length), (8, .int .i64 s)]) (fun _ => []) 0 (by simp) ⟨rfl, rfl, rfl, rfl, trivial⟩ (by repeat constructor) ?_
  rintro i ⟨hi, ht⟩ K hK
  (refine q_seq (q_region (ql_pure tabOk rfl rfl (q_nil (q_seq ?_)))))
  refine q_if rfl (fun hc => ?_) (fun hc => ?_)
  · have hi2 : i < L.length := by omega
    clear hc
    obtain ⟨ba, oa, rfl⟩ := hsa (by omega)
    by_cases he : x = L[i]
    · (refine q_skip (q_seq (q_block (q_seq (q_region (ql_pure tabOk rfl rfl (ql_pure tabOk rfl rfl (q_nil (q_seq (q_region ?_))))))))); (iterate 3 refine ql_pure tabOk rfl rfl ?_))
      refine ql_index tabOk rfl rfl rfl rfl rfl (by omega) (by omega) ?_
      refine ql_load1 (v := .int .i64 (L[i] : Nat)) tabOk rfl rfl rfl (fun w hs => by
        have := RdI.at (RdE.keep h hs.chg0) i (by omega)
        rw [show (chI L)[i]'(by omega) = ((L[i] : Nat) : Int) from by simp [chI]] at this
        exact this) ?_
      (refine ql_eqlT tabOk rfl rfl rfl (by omega) (q_nil (q_cond_true rfl (q_seq (q_region (ql_pure tabOk rfl rfl (ql_pure tabOk rfl rfl (q_nil (q_ret ?_)))))))))
      refine q_fin tabOk rfl (by repeat constructor) fun w hs => ?_
      exact ⟨by rw [idxN_at hi2 ht he.symm]; rfl, hs.chg0⟩
    · (refine q_skip (q_seq (q_block (q_seq (q_region (ql_pure tabOk rfl rfl (ql_pure tabOk rfl rfl (q_nil (q_seq (q_region ?_))))))))); (iterate 3 refine ql_pure tabOk rfl rfl ?_))
      refine ql_index tabOk rfl rfl rfl rfl rfl (by omega) (by omega) ?_
      refine ql_load1 (v := .int .i64 (L[i] : Nat)) tabOk rfl rfl rfl (fun w hs => by
        have := RdI.at (RdE.keep h hs.chg0) i (by omega)
        rw [show (chI L)[i]'(by omega) = ((L[i] : Nat) : Int) from by simp [chI]] at this
        exact this) ?_
      (refine ql_eqlF tabOk rfl rfl rfl (by omega) (q_nil (q_cond_false rfl (q_skip (q_blk (q_region (ql_ar tabOk rfl rfl rfl rfl (by omega) (by omega) (ql_pure tabOk rfl rfl (q_nil ?_)))))))))
      exact hK (i + 1) _ _ ⟨by omega, fun hm => by
        rw [List.take_succ_eq_append_getElem hi2] at hm
        rcases List.mem_append.1 hm with hm | hm
        · exact ht hm
        · exact he (List.mem_singleton.1 hm)⟩ (by omega) ⟨rfl, rfl, rfl, rfl, trivial⟩ (by repeat constructor)
  · obtain rfl : i = L.length := by omega
    rw [List.take_length] at ht
    (refine q_exit _ rfl (q_seq (q_region (ql_pure tabOk rfl rfl (q_nil (q_ret ?_))))))
    refine q_fin tabOk rfl (by repeat constructor) fun w hs => ?_
    exact ⟨by unfold idxN; rw [if_neg ht]; rfl, hs.chg0⟩
theorem chI_snoc' (ch : List Nat) (x : Nat) : ints (chI ch ++ [(x : Int)]) = ints (chI ch) ++ [.int .i64 (x : Int)] := by simp [ints]
theorem chI_app' (ch : List Nat) (x : Nat) : chI (ch ++ [x]) = chI ch ++ [(x : Int)] := by simp [chI]
theorem first_step {o n j : Nat} : firF o n (j + 1) = match nextO o n (firF o n j).2 with | some s => ((firF o n j).1 ++ [s], (firF o n j).2 ||| 2 ^ s) | none => firF o n j := rfl
set_option maxHeartbeats 1000000 in
theorem first_ok (w : World) (lo hi : Nat) (l : Lb) (v : Value) (h : RdR w lo hi v l.runs) (hl : l.Ok) (hc0 : NoC l.ord l.n) : Ca Try.prog 63 [.agg (lbC l v).toArray] w fun x w' => ∃ u : Value, x = .tuple #[u, .int .i64 0] ∧ Sat w M0 [.ow u 3 1 l.n (ints (chI (firF l.ord l.n l.n).1))] w' := by
  obtain ⟨n, en, hn', h8, h1⟩ := hl.nat
  have hfi := fun j (hj : j ≤ l.n) => fir_is hc0 hl.o hl.n8 j hj
  rw [hn'] at hfi ⊢
  refine q_of (Sat.nil w M0) Try.func63 rfl (by simp [Try.ntmps63]) ?_
  (refine q_seq (q_region ?_))
  refine ql_box rfl rfl (fun b1 => ?_)
  rw [agg_cells]
  (refine ql_pure tabOk rfl rfl (ql_pure tabOk rfl rfl (q_nil (q_seq (q_region ?_)))); refine ql_loadABa tabOk rfl rfl rfl ?_)
  refine ql_call (β := Nat) tabOk [] _ M0 rfl rfl rfl rfl (Sp.refl _) (fun _ h => h.elim) (fun w' hs => agreed_ok w' lo hi l v (RdE.keep h hs.chg0) hl hc0) ?_
  rintro b _ rfl
  dsimp only [List.cons_append, List.nil_append]
  (refine ql_pure tabOk rfl rfl (ql_ext tabOk rfl rfl rfl (ql_ext tabOk rfl rfl rfl (ql_pure tabOk rfl rfl (ql_pure tabOk rfl rfl (q_nil (q_seq (q_seq (q_region (ql_pure tabOk rfl rfl (ql_neqF tabOk rfl rfl rfl (by omega) (q_nil ?_))))))))))); refine q_cond_false rfl (q_skip (q_seq (q_region (ql_pure tabOk rfl rfl (q_nil (q_seq (q_region (ql_pure tabOk rfl rfl (q_nil (q_seq (q_seq ?_))))))))))); refine q_region ?_; (iterate 4 refine ql_pure tabOk rfl rfl ?_); refine ql_loadBa tabOk rfl rfl rfl ?_; refine ql_pure tabOk rfl rfl (q_nil (q_block ?_)))
  rw [en]
  refine q_conv (H' := [.ow (.slice none 0 0) 3 1 0 (ints (chI (firF l.ord n 0).1)), .pt b (dkC l v l.ord) 136]) (fun w' hs => (Sat.ownil hs 3 1).sp (by repeat constructor)) ?_
  refine q_loop (σ := Nat × Value) (fun y => y.1 ≤ n) (fun y => n - y.1) (fun y => [(4, .pointer (some ⟨b, 0, none⟩)), (6, y.2), (7, .int .i64 (firF l.ord n y.1).2), (21, .int .i64 n), (22, .int .i64 y.1)]) (fun y => [.ow y.2 3 1 y.1 (ints (chI (firF l.ord n y.1).1)), .pt b (dkC l v l.ord) 136]) (0, .slice none 0 0) (by simp only; omega) ⟨rfl, rfl, rfl, rfl, rfl, trivial⟩ (by repeat constructor) ?_
  rintro ⟨j, u⟩ hj K hK
  dsimp only at hj ⊢
  (refine q_seq (q_region (ql_pure tabOk rfl rfl (q_nil (q_seq ?_)))))
  refine q_if rfl (fun hc => ?_) (fun hc => ?_)
  · have hj2 : j < n := by omega
    clear hc
    have hI := hfi j (by omega)
    have hI2 := hfi (j + 1) (by omega)
    rw [first_step] at hI2
    have hst := first_step (o := l.ord) (n := n) (j := j)
    have hbd := hI.bd
    have h256 : 2 ^ n ≤ 256 := by have := Nat.pow_le_pow_right (show 0 < 2 by omega) h8; simpa using this
    obtain ⟨L, S, hLS⟩ : ∃ L S, firF l.ord n j = (L, S) := ⟨_, _, rfl⟩
    rw [hLS] at hI hI2 hst hbd ⊢
    dsimp only at hI hI2 hst hbd ⊢
    have hex : ∃ s, nextO l.ord n S = some s := by
      cases hnx : nextO l.ord n S with
      | some s => exact ⟨s, rfl⟩
      | none =>
        rw [hnx] at hI2
        have h3 := hI2.len
        have h4 := hI.len
        dsimp only at h3
        omega
    obtain ⟨s0, hs0⟩ := hex
    rw [hs0] at hst
    dsimp only at hst
    obtain ⟨hf0, hr0, hb0⟩ := List.find?_range_eq_some.1 hs0
    have hs0n := List.mem_range.1 hr0
    have hS : S < 256 := by omega
    (refine q_skip (q_seq (q_block (q_seq (q_region ?_)))); (iterate 4 refine ql_pure tabOk rfl rfl ?_); refine ql_loadBa tabOk rfl rfl rfl ?_; refine ql_pure tabOk rfl rfl (q_nil (q_block ?_)))
    rw [en]
    refine q_loop (σ := Nat) (fun s => s ≤ s0) (fun s => n - s) (fun s => [(4, .pointer (some ⟨b, 0, none⟩)), (6, u), (7, .int .i64 S), (21, .int .i64 n), (22, .int .i64 j), (28, .int .i64 n), (29, .int .i64 s)]) (fun _ => [.ow u 3 1 j (ints (chI L)), .pt b (dkC l v l.ord) 136]) 0 (by omega) ⟨rfl, rfl, rfl, rfl, rfl, rfl, rfl, trivial⟩ (by repeat constructor) ?_
    rintro s hs1 K2 hK2
    (refine q_seq (q_region (ql_lssT tabOk rfl rfl rfl (by omega) (q_nil (q_seq (q_cond_true rfl (q_skip (q_seq (q_block (q_seq (q_region (ql_pure tabOk rfl rfl ?_))))))))))); refine ql_pure tabOk rfl rfl (q_nil (q_seq (q_region ?_))); (iterate 3 refine ql_pure tabOk rfl rfl ?_))
    refine ql_callv (val := .bool (freeO l.ord n s S)) tabOk rfl rfl rfl rfl (fun w hs => ?_) ?_; exact by have := free_ca w b 136 l v l.ord s S (hs.blk (by repeat constructor)) hl (by omega) (by omega); rw [hn'] at this; exact this
    by_cases hss : s = s0
    · subst hss
      rw [hf0]
      have hpow : (2 : Nat) ^ s ≤ 128 := by have := Nat.pow_le_pow_right (show 0 < 2 by omega) (show s ≤ 7 by omega); simpa using this
      (refine q_nil (q_cond_true rfl (q_seq (q_region (ql_pure tabOk rfl rfl (ql_pure tabOk rfl rfl ?_))))))
      refine ql_mkS 3 [.int .i64 s] rfl (by kernel_rfl) rfl (fun bn => ?_)
      skip
      refine ql_append (q := 1) (news := [.int .i64 s]) slI rfl rfl rfl (fun v' => by repeat constructor) (fun w' hs => ⟨_, _, Blk.rdN (hs.blk (b := bn) (by repeat constructor)) rfl⟩) (by simp [oneV]) (by omega) (by omega) (fun u' => ?_)
      (refine ql_pure tabOk rfl rfl (q_nil (q_seq (q_region (ql_pure tabOk rfl rfl (ql_pure tabOk rfl rfl ?_))))))
      obtain ⟨pk, hpk⟩ : ∃ p, p = 2 ^ s := ⟨_, rfl⟩
      have sh2 : (1 : Int) * 2 ^ (s : Int).toNat = (pk : Int) := by rw [hpk, Int.toNat_natCast, Int.one_mul]; norm_cast
      rw [← hpk] at hpow hst
      refine ql_shl rfl rfl rfl (by omega) (by rw [sh2]; omega) (by rw [sh2]; omega) ?_
      rw [sh2]
      skip
      refine ql_orN rfl rfl rfl (by omega) (by omega) ?_
      (refine ql_pure tabOk rfl rfl (q_nil (q_exit _ rfl (q_blk (q_region (ql_ar tabOk rfl rfl rfl rfl (by omega) (by omega) (ql_pure tabOk rfl rfl (q_nil ?_))))))))
      exact hK (j + 1, u') _ _ (by simp only; omega) (by simp only; omega) ⟨rfl, rfl, by rw [hst]; rfl, rfl, rfl, trivial⟩ (by dsimp only; rw [hst]; dsimp only; rw [chI_app', chI_snoc']; repeat constructor)
    · have hff : freeO l.ord n s S = false := by simpa using hb0 s (by omega)
      rw [hff]
      (refine q_nil (q_cond_false rfl (q_skip (q_blk (q_region (ql_ar tabOk rfl rfl rfl rfl (by omega) (by omega) (ql_pure tabOk rfl rfl (q_nil ?_))))))))
      exact hK2 (s + 1) _ _ (by omega) (by omega) ⟨rfl, rfl, rfl, rfl, rfl, rfl, rfl, trivial⟩ (by repeat constructor)
  · obtain rfl : j = n := by omega
    (refine q_exit _ rfl (q_seq (q_region ?_)); (iterate 3 refine ql_pure tabOk rfl rfl ?_); refine q_nil (q_ret ?_))
    refine q_fin tabOk rfl (by repeat constructor) fun w hs => ?_
    exact ⟨u, rfl, hs.sp (by repeat constructor)⟩
end Go.Proofs.Ytcmpdmobmbbplaa

/- Walks: what a run is worth; the next run. -/
namespace Go.Proofs.Ytcmpdmobmbbplaa
open Go Go.Eng

/-- What a run of two skis is worth. -/
def worthV (n k o a b : Nat) : Nat := if (fa o a b || fa o b a) = true then 1 + planO n k o else worthO n k o a b
theorem worthV_und {n k o a b : Nat} (h1 : fa o a b = false) (h2 : fa o b a = false) : worthV n k o a b = worthO n k o a b := by unfold worthV; rw [h1, h2]; rfl
theorem worthV_dec {n k o a b : Nat} (h : (fa o a b || fa o b a) = true) : worthV n k o a b = 1 + planO n k o := if_pos h
theorem worthV_comm (n k o a b : Nat) : worthV n k o a b = worthV n k o b a := by unfold worthV; rw [Bool.or_comm, worth_comm]
set_option maxHeartbeats 1000000 in
theorem worthD_ca (n k bm b2 b3 b6 b7 b8 o a b : Nat) (hn : n ≤ 8) (hk : k ≤ n) (ho : Ord o) (ha : a < n) (hb : b < n) (hd : (fa o a b || fa o b a) = true) (w : World) (f : Value → Option Value) (hE : PlE w n k bm b2 b3 b6 b7 b8) (hm : MapAt w bm oK eqV f) (hg : GoodP n k f) :
    Ca Try.prog 122 [oV o, .int .i64 a, .int .i64 b, .pointer (some ⟨b7, 0, none⟩)] w fun v w' => ∃ f, (v = .int .i64 ((1 + planO n k o : Nat) : Int) ∧ GoodP n k f) ∧ Sat w (· = bm) [mpO bm f] w' := by
  obtain ⟨t7, hb7⟩ := hE.h7
  have hb7 := fun w' (c : ChgP (· = bm) w w') => Blk.mapC hb7 hm c
  have h64 : n * n ≤ 64 := Nat.mul_le_mul hn hn
  have hpl := plan_le (k := k) hn ho
  refine q_of (H := [mpO bm f]) (map_sat hm) Try.func122 rfl (by simp [Try.ntmps122]) ?_
  (refine q_seq (q_region ?_))
  refine ql_box rfl rfl (fun b4 => ?_)
  rw [agg_cells]
  (refine ql_pure tabOk rfl rfl (q_nil (q_seq (q_seq (q_region (ql_pure tabOk rfl rfl (ql_pure tabOk rfl rfl ?_)))))))
  refine ql_indexA (len := 8) o_arr rfl rfl rfl (by omega) (by omega) ?_
  skip
  refine ql_indexA (len := 8) r_arr rfl rfl rfl (by omega) (by omega) ?_
  skip
  refine ql_load1 (v := .bool (fa o a b)) tabOk rfl rfl rfl (fun w hs => o_cell hs (b := b4) (off := 0 + (a : Int).toNat * 8 + (b : Int).toNat * 1) (by repeat constructor) a b (by omega) (by omega) (by omega)) ?_
  cases hab : fa o a b with
  | true =>
    (refine ql_pure tabOk rfl rfl ?_; (iterate 5 refine ql_gno rfl rfl rfl ?_); refine ql_pure tabOk rfl rfl (q_nil (q_cond_true rfl (q_seq (q_region ?_)))); refine ql_loadG tabOk rfl rfl rfl (by assumption) (by rfl) ?_; refine ql_loadABa tabOk rfl rfl rfl ?_)
    rw [oC_take]
    refine ql_callF (β := Value → Option Value) (ψ := fun g v => v = .int .i64 (planO n k o) ∧ GoodP n k g) (L' := fun g => [mpO bm g]) [mpO bm f] [.pt b4 (oC o) 134] (· = bm) rfl rfl rfl (by repeat constructor) (fun x hx => ⟨_, .head _, hx⟩) (fun w' hs => CaF.of tabOk (by kernel_rfl) (plan_ca n k bm b2 b3 b6 b7 b8 hn hk _ o rfl ho w' f (hE.mapC hm hs.chg) (hs.mem (c := mpO bm f) (by repeat constructor)) hg)) ?_
    rintro g' v ⟨rfl, hg'⟩
    (refine ql_ar tabOk rfl rfl rfl rfl (by omega) (by omega) (ql_pure tabOk rfl rfl (q_nil (q_ret ?_))))
    refine q_fin tabOk rfl (by repeat constructor) fun w hs => ?_
    exact ⟨g', ⟨by show Value.int .i64 (1 + (planO n k o : Int)) = _; rw [Int.natCast_add]; rfl, hg'⟩, hs.sp (by repeat constructor)⟩
  | false =>
    have hba : fa o b a = true := by rw [hab] at hd; exact hd
    (refine ql_pure tabOk rfl rfl (ql_gyes rfl (ql_pure tabOk rfl rfl (ql_gyes rfl (ql_pure tabOk rfl rfl (ql_gyes rfl ?_))))))
    refine ql_indexA (len := 8) o_arr rfl rfl rfl (by omega) (by omega) ?_
    (refine ql_gyes rfl ?_)
    refine ql_indexA (len := 8) r_arr rfl rfl rfl (by omega) (by omega) ?_
    (refine ql_gyes rfl ?_)
    refine ql_load1 (v := .bool true) tabOk rfl rfl rfl (fun w hs => by have := o_cell hs (b := b4) (off := 0 + (b : Int).toNat * 8 + (a : Int).toNat * 1) (by repeat constructor) b a (by omega) (by omega) (by omega); rw [hba] at this; exact this) ?_
    (refine ql_pure tabOk rfl rfl (q_nil (q_cond_true rfl (q_seq (q_region ?_)))); refine ql_loadG tabOk rfl rfl rfl (by assumption) (by rfl) ?_; refine ql_loadABa tabOk rfl rfl rfl ?_)
    rw [oC_take]
    refine ql_callF (β := Value → Option Value) (ψ := fun g v => v = .int .i64 (planO n k o) ∧ GoodP n k g) (L' := fun g => [mpO bm g]) [mpO bm f] [.pt b4 (oC o) 134] (· = bm) rfl rfl rfl (by repeat constructor) (fun x hx => ⟨_, .head _, hx⟩) (fun w' hs => CaF.of tabOk (by kernel_rfl) (plan_ca n k bm b2 b3 b6 b7 b8 hn hk _ o rfl ho w' f (hE.mapC hm hs.chg) (hs.mem (c := mpO bm f) (by repeat constructor)) hg)) ?_
    rintro g' v ⟨rfl, hg'⟩
    (refine ql_ar tabOk rfl rfl rfl rfl (by omega) (by omega) (ql_pure tabOk rfl rfl (q_nil (q_ret ?_))))
    refine q_fin tabOk rfl (by repeat constructor) fun w hs => ?_
    exact ⟨g', ⟨by show Value.int .i64 (1 + (planO n k o : Int)) = _; rw [Int.natCast_add]; rfl, hg'⟩, hs.sp (by repeat constructor)⟩
theorem worthA_ca (n k bm b2 b3 b6 b7 b8 o a b : Nat) (hn : n ≤ 8) (hk : k ≤ n) (ho : Ord o) (ha : a < n) (hb : b < n) (hne : a ≠ b) (w : World) (f : Value → Option Value) (hE : PlE w n k bm b2 b3 b6 b7 b8) (hm : MapAt w bm oK eqV f) (hg : GoodP n k f) :
    Ca Try.prog 122 [oV o, .int .i64 a, .int .i64 b, .pointer (some ⟨b7, 0, none⟩)] w fun v w' => ∃ f, (v = .int .i64 (worthV n k o a b : Nat) ∧ GoodP n k f) ∧ Sat w (· = bm) [mpO bm f] w' := by
  cases hd : fa o a b || fa o b a with
  | true =>
    rw [worthV_dec hd]
    exact worthD_ca n k bm b2 b3 b6 b7 b8 o a b hn hk ho ha hb hd w f hE hm hg
  | false =>
    obtain ⟨h1, h2⟩ := Bool.or_eq_false_iff.1 hd
    rw [worthV_und h1 h2]
    refine worth_ca n k bm b2 b3 b6 b7 b8 o a b hn ⟨ho, hn, ha, hb, hne, h1, h2⟩ (fun o' ho' => ?_) w f hE hm hg
    rcases ho' with rfl | rfl
    · exact plan_ca n k bm b2 b3 b6 b7 b8 hn hk _ _ rfl (ho.with (by omega) (by omega))
    · exact plan_ca n k bm b2 b3 b6 b7 b8 hn hk _ _ rfl (ho.with (by omega) (by omega))
theorem worthP_ok (w : World) (lo hi : Nat) (l : Lb) (v : Value) (k a b : Nat) (h : RdR w lo hi v l.runs) (hp : PlanOk l k) (ha : a < l.n) (hb : b < l.n) (hne : a ≠ b) : Ca Try.prog 60 [.agg (lbC l v).toArray, .int .i64 k, .int .i64 a, .int .i64 b] w fun x w' => x = .tuple #[.int .i64 (worthV l.n k l.ord a b), .int .i64 0] ∧ Chg [] w w' := by
  obtain ⟨n, en, hn', h8, h1⟩ := hp.ok.nat
  have hk := hp.k2
  rw [hn'] at ha hb ⊢
  refine q_of (Sat.nil w M0) Try.func60 rfl (by simp [Try.ntmps60]) ?_
  (refine q_seq (q_region ?_))
  refine ql_box rfl rfl (fun b4 => ?_)
  rw [agg_cells]
  (refine ql_pure tabOk rfl rfl (ql_pure tabOk rfl rfl (q_nil (q_seq (q_region ?_)))); refine ql_loadABa tabOk rfl rfl rfl ?_; refine ql_pure tabOk rfl rfl ?_)
  refine ql_call (β := Nat) tabOk [] _ M0 rfl rfl rfl rfl (Sp.refl _) (fun _ h => h.elim) (fun w' hs => planned_ok w' lo hi l v k (RdE.keep h hs.chg0) hp) ?_
  rintro bd _ rfl
  dsimp only [List.cons_append, List.nil_append]
  (refine ql_pure tabOk rfl rfl (ql_ext tabOk rfl rfl rfl (ql_ext tabOk rfl rfl rfl (ql_pure tabOk rfl rfl (ql_pure tabOk rfl rfl (q_nil (q_seq (q_block (q_seq (q_region (ql_pure tabOk rfl rfl (ql_neqF tabOk rfl rfl rfl (by omega) ?_))))))))))); refine ql_pure tabOk rfl rfl (q_nil (q_cond_false rfl (q_seq (q_region (ql_pure tabOk rfl rfl (ql_pure tabOk rfl rfl ?_)))))); refine ql_loadBa tabOk rfl rfl rfl ?_; refine ql_ar tabOk rfl rfl rfl rfl (by omega) (by omega) ?_)
  rw [en]
  refine ql_callv (val := .bool true) tabOk rfl rfl rfl rfl (fun w hs => ?_) ?_; exact by have := within_ca a 0 ((n : Int) - 1) w; rw [show inB (a : Int) 0 ((n : Int) - 1) = true from inB_iff.2 (by omega)] at this; exact this
  (refine ql_pure tabOk rfl rfl (ql_pure tabOk rfl rfl (ql_gyes rfl (ql_pure tabOk rfl rfl (ql_gyes rfl (ql_pure tabOk rfl rfl (ql_gyes rfl ?_)))))); refine ql_loadBa tabOk rfl rfl rfl ?_; refine ql_gyes rfl (ql_ar tabOk rfl rfl rfl rfl (by omega) (by omega) (ql_gyes rfl ?_)))
  rw [en]
  refine ql_callv (val := .bool true) tabOk rfl rfl rfl rfl (fun w hs => ?_) ?_; exact by have := within_ca b 0 ((n : Int) - 1) w; rw [show inB (b : Int) 0 ((n : Int) - 1) = true from inB_iff.2 (by omega)] at this; exact this
  (refine ql_gyes rfl ?_; (iterate 3 refine ql_pure tabOk rfl rfl ?_); refine ql_gyes rfl (ql_pure tabOk rfl rfl (ql_gyes rfl (ql_pure tabOk rfl rfl (ql_gyes rfl (ql_eqlF tabOk rfl rfl rfl (by omega) (ql_pure tabOk rfl rfl (ql_pure tabOk rfl rfl (q_nil (q_cond_false rfl (q_skip (q_blk ?_))))))))))); refine q_seq (q_region ?_); (iterate 4 refine ql_pure tabOk rfl rfl ?_); refine ql_loadBa tabOk rfl rfl rfl ?_; refine ql_pure tabOk rfl rfl ?_)
  rw [en]
  refine ql_call (β := Nat × Nat × Nat × Nat × Nat × Nat) tabOk [] _ M0 rfl rfl rfl rfl (Sp.refl _) (fun _ h => h.elim) (fun w' hs => planner_ca w' n k) ?_
  rintro ⟨bm, b2, b3, b6, b7, b8⟩ _ rfl
  dsimp only [List.cons_append, List.nil_append]
  (refine ql_pure tabOk rfl rfl (ql_ext tabOk rfl rfl rfl (ql_ext tabOk rfl rfl rfl (ql_pure tabOk rfl rfl (ql_pure tabOk rfl rfl (q_nil (q_seq (q_region ?_))))))); (iterate 4 refine ql_pure tabOk rfl rfl ?_); refine ql_loadABa tabOk rfl rfl rfl ?_; refine ql_pure tabOk rfl rfl (ql_pure tabOk rfl rfl ?_))
  rw [dk_take]
  refine ql_callF (β := Value → Option Value) (ψ := fun g v => v = .int .i64 (worthV n k l.ord a b : Nat) ∧ GoodP n k g) (L' := fun g => [mpO bm g]) [mpO bm (fun _ => none)] [.pt b2 [.int .i64 n] 3, .pt b3 [.int .i64 k] 3, .pt b6 [.map (some bm)] 183, .pt b7 [plnF b2 b3 b6 b8] 139, .pt b8 [worthF b7] 140] (· = bm) rfl rfl rfl (by repeat constructor) (fun x hx => ⟨_, .head _, hx⟩) (fun w' hs => CaF.of tabOk (by kernel_rfl) (worthA_ca n k bm b2 b3 b6 b7 b8 l.ord a b h8 (by omega) hp.ok.o ha hb hne w' _ ⟨⟨_, hs.blk (b := b2) (by repeat constructor)⟩, ⟨_, hs.blk (b := b3) (by repeat constructor)⟩, ⟨_, hs.blk (b := b6) (by repeat constructor)⟩, ⟨_, hs.blk (b := b7) (by repeat constructor)⟩, ⟨_, hs.blk (b := b8) (by repeat constructor)⟩⟩ (hs.mem (c := mpO bm (fun _ => none)) (by repeat constructor)) (good_nil n k))) ?_
  rintro g' v ⟨rfl, hg'⟩
  (refine ql_pure tabOk rfl rfl (ql_pure tabOk rfl rfl (q_nil (q_ret ?_))))
  refine q_fin tabOk rfl (by repeat constructor) fun w hs => ?_
  exact ⟨rfl, hs.chg0⟩
/-- The pairs as they are asked. -/
def nxPairs (b a : Nat) : List (Nat × Nat) := ((List.range b).flatMap fun y => (List.range y).map fun x => (x, y)) ++ (List.range a).map fun x => (x, b)
theorem nx_succ (b a : Nat) : nxPairs b (a + 1) = nxPairs b a ++ [(a, b)] := by unfold nxPairs; rw [List.range_succ, List.map_append, ← List.append_assoc]; rfl
theorem nx_next (b : Nat) : nxPairs b b = nxPairs (b + 1) 0 := by unfold nxPairs; rw [List.range_succ, List.flatMap_append]; simp
theorem nx_mem {b a x y : Nat} (hab : a ≤ b) (h : (x, y) ∈ nxPairs b a) : x < y := by
  unfold nxPairs at h
  rcases List.mem_append.1 h with h | h
  · obtain ⟨z, _, h2⟩ := List.mem_flatMap.1 h
    obtain ⟨u, h3, h4⟩ := List.mem_map.1 h2
    have := List.mem_range.1 h3
    cases h4
    omega
  · obtain ⟨u, h3, h4⟩ := List.mem_map.1 h
    have := List.mem_range.1 h3
    cases h4
    omega
/-- The first pair that is worth the fewest. -/
def nxV (n k o : Nat) (L : List (Nat × Nat)) : Option (Nat × Nat) := L.find? fun p => decide (worthV n k o p.1 p.2 = planO n k o)
def nxC (p : Option (Nat × Nat)) : List Value := match p with | some p => [.int .i64 p.1, .int .i64 p.2, .int .i64 0] | none => [.int .i64 0, .int .i64 0, .int .i64 0]
theorem nxV_snoc (n k o : Nat) (L : List (Nat × Nat)) (p : Nat × Nat) : nxV n k o (L ++ [p]) = match nxV n k o L with | some q => some q | none => if worthV n k o p.1 p.2 = planO n k o then some p else none := by
  unfold nxV
  rw [List.find?_append]
  cases L.find? fun p => decide (worthV n k o p.1 p.2 = planO n k o) with
  | some q => rfl
  | none =>
    rw [Option.none_or, List.find?_singleton]
    by_cases h : worthV n k o p.1 p.2 = planO n k o
    · rw [if_pos h, if_pos (by simpa using h)]
    · rw [if_neg h, if_neg (by simpa using h)]
set_option maxHeartbeats 2000000 in
theorem next_ok (w : World) (lo hi : Nat) (l : Lb) (v : Value) (k : Nat) (h : RdR w lo hi v l.runs) (hp : PlanOk l k) : Ca Try.prog 58 [.agg (lbC l v).toArray, .int .i64 k] w fun x w' => x = .tuple #[.agg (nxC (if planO l.n k l.ord = 0 then none else nxV l.n k l.ord (nxPairs l.n 0))).toArray, .int .i64 (if planO l.n k l.ord = 0 then 6 else 0)] ∧ Chg [] w w' := by
  obtain ⟨n, en, hn', h8, h1⟩ := hp.ok.nat
  have hk := hp.k2
  have h64 : n * n ≤ 64 := Nat.mul_le_mul h8 h8
  rw [hn']
  have hpl := plan_le (k := k) h8 hp.ok.o
  refine q_of (Sat.nil w M0) Try.func58 rfl (by simp [Try.ntmps58]) ?_
  (refine q_seq (q_region ?_))
  refine ql_box rfl rfl (fun bx => ?_)
  rw [agg_cells]
  skip
  refine ql_alloc zero33 rfl (fun b4 => ?_)
  (refine ql_pure tabOk rfl rfl (q_nil (q_seq (q_region ?_))); refine ql_loadABa tabOk rfl rfl rfl ?_; refine ql_pure tabOk rfl rfl ?_)
  refine ql_call (β := Nat) tabOk [] _ M0 rfl rfl rfl rfl (Sp.refl _) (fun _ h => h.elim) (fun w' hs => planned_ok w' lo hi l v k (RdE.keep h hs.chg0) hp) ?_
  rintro bd _ rfl
  dsimp only [List.cons_append, List.nil_append]
  (refine ql_pure tabOk rfl rfl (ql_ext tabOk rfl rfl rfl (ql_ext tabOk rfl rfl rfl (ql_pure tabOk rfl rfl (ql_pure tabOk rfl rfl (q_nil (q_seq (q_seq (q_region (ql_pure tabOk rfl rfl (ql_neqF tabOk rfl rfl rfl (by omega) (q_nil ?_))))))))))); refine q_cond_false rfl (q_skip (q_seq (q_region ?_))); (iterate 4 refine ql_pure tabOk rfl rfl ?_); refine ql_loadBa tabOk rfl rfl rfl ?_; refine ql_pure tabOk rfl rfl ?_)
  rw [en]
  refine ql_call (β := Nat × Nat × Nat × Nat × Nat × Nat) tabOk [] _ M0 rfl rfl rfl rfl (Sp.refl _) (fun _ h => h.elim) (fun w' hs => planner_ca w' n k) ?_
  rintro ⟨bm, b2, b3, b6, b7, b8⟩ _ rfl
  dsimp only [List.cons_append, List.nil_append]
  (refine ql_pure tabOk rfl rfl (ql_ext tabOk rfl rfl rfl (ql_ext tabOk rfl rfl rfl (ql_pure tabOk rfl rfl (ql_pure tabOk rfl rfl (q_nil (q_seq (q_region ?_))))))); (iterate 4 refine ql_pure tabOk rfl rfl ?_); refine ql_loadABa tabOk rfl rfl rfl ?_)
  rw [dk_take]
  refine ql_callF (β := Value → Option Value) (ψ := fun g v => v = .int .i64 (planO n k l.ord) ∧ GoodP n k g) (L' := fun g => [mpO bm g]) [mpO bm (fun _ => none)] [.pt b2 [.int .i64 n] 3, .pt b3 [.int .i64 k] 3, .pt b6 [.map (some bm)] 183, .pt b7 [plnF b2 b3 b6 b8] 139, .pt b8 [worthF b7] 140, .pt bd (dkC l v l.ord) 136, .pt b4 [.int .i64 0, .int .i64 0, .int .i64 0] 33] (· = bm) rfl rfl rfl (by repeat constructor) (fun x hx => ⟨_, .head _, hx⟩) (fun w' hs => CaF.of tabOk (by kernel_rfl) (plan_ca n k bm b2 b3 b6 b7 b8 h8 (by omega) _ l.ord rfl hp.ok.o w' _ ⟨⟨_, hs.blk (b := b2) (by repeat constructor)⟩, ⟨_, hs.blk (b := b3) (by repeat constructor)⟩, ⟨_, hs.blk (b := b6) (by repeat constructor)⟩, ⟨_, hs.blk (b := b7) (by repeat constructor)⟩, ⟨_, hs.blk (b := b8) (by repeat constructor)⟩⟩ (hs.mem (c := mpO bm (fun _ => none)) (by repeat constructor)) (good_nil n k))) ?_
  rintro g' v' ⟨rfl, hg'⟩
  dsimp only [List.cons_append, List.nil_append]
  by_cases h0 : planO n k l.ord = 0
  · rw [if_pos h0, if_pos h0]
    (refine ql_pure tabOk rfl rfl (q_nil (q_seq (q_seq (q_region (ql_pure tabOk rfl rfl (ql_eqlT tabOk rfl rfl rfl (by omega) (q_nil (q_cond_true rfl (q_seq (q_region ?_)))))))))))
    refine ql_mk #[.int .i64 0, .int .i64 0, .int .i64 0] rfl (by kernel_rfl) rfl ?_
    (refine ql_setA tabOk rfl rfl rfl rfl rfl (by repeat constructor) rfl ?_; refine ql_pure tabOk rfl rfl (q_nil (q_ret ?_)))
    refine q_fin tabOk rfl (by repeat constructor) fun w hs => ?_
    exact ⟨rfl, hs.chg0⟩
  · rw [if_neg h0, if_neg h0]
    (refine ql_pure tabOk rfl rfl (q_nil (q_seq (q_seq (q_region (ql_pure tabOk rfl rfl (ql_eqlF tabOk rfl rfl rfl (by omega) (q_nil (q_cond_false rfl (q_skip (q_seq (q_region ?_))))))))))))
    refine ql_alloc zero33 rfl (fun b11 => ?_)
    (refine q_nil (q_seq (q_seq (q_region ?_))); (iterate 4 refine ql_pure tabOk rfl rfl ?_); refine ql_loadBa tabOk rfl rfl rfl ?_; refine ql_pure tabOk rfl rfl (q_nil (q_block ?_)))
    rw [en]
    refine q_loop (σ := Nat × (Value → Option Value)) (fun s => s.1 ≤ n ∧ GoodP n k s.2) (fun s => n - s.1) (fun s => [(4, .pointer (some ⟨b4, 0, none⟩)), (6, .pointer (some ⟨bd, 0, none⟩)), (9, worthF b7), (10, .int .i64 (planO n k l.ord)), (11, .pointer (some ⟨b11, 0, none⟩)), (47, .int .i64 n), (48, .int .i64 s.1)]) (fun s => [mpO bm s.2, .pt b11 (nxC (nxV n k l.ord (nxPairs s.1 0))) 33, .pt b2 [.int .i64 n] 3, .pt b3 [.int .i64 k] 3, .pt b6 [.map (some bm)] 183, .pt b7 [plnF b2 b3 b6 b8] 139, .pt b8 [worthF b7] 140, .pt bd (dkC l v l.ord) 136, .pt b4 [.int .i64 0, .int .i64 0, .int .i64 0] 33]) (0, g') ⟨by simp, hg'⟩ ⟨rfl, rfl, rfl, rfl, rfl, rfl, rfl, trivial⟩ (by repeat constructor) ?_
    clear hg'
    rintro ⟨y, g⟩ ⟨hy, hg⟩ K hK
    dsimp only at hy hg ⊢
    (refine q_seq (q_region (ql_pure tabOk rfl rfl (q_nil (q_seq ?_)))))
    refine q_if rfl (fun hc => ?_) (fun hc => ?_)
    · have hy2 : y < n := by omega
      clear hc
      (refine q_skip (q_seq (q_block (q_seq (q_region (ql_pure tabOk rfl rfl (ql_pure tabOk rfl rfl (q_nil (q_seq (q_region (ql_pure tabOk rfl rfl (ql_pure tabOk rfl rfl ?_))))))))))); refine q_nil (q_block ?_))
      refine q_loop (σ := Nat × (Value → Option Value)) (fun s => s.1 ≤ y ∧ GoodP n k s.2) (fun s => y - s.1) (fun s => [(4, .pointer (some ⟨b4, 0, none⟩)), (6, .pointer (some ⟨bd, 0, none⟩)), (9, worthF b7), (10, .int .i64 (planO n k l.ord)), (11, .pointer (some ⟨b11, 0, none⟩)), (12, .int .i64 y), (47, .int .i64 n), (48, .int .i64 y), (51, .int .i64 y), (52, .int .i64 s.1)]) (fun s => [mpO bm s.2, .pt b11 (nxC (nxV n k l.ord (nxPairs y s.1))) 33, .pt b2 [.int .i64 n] 3, .pt b3 [.int .i64 k] 3, .pt b6 [.map (some bm)] 183, .pt b7 [plnF b2 b3 b6 b8] 139, .pt b8 [worthF b7] 140, .pt bd (dkC l v l.ord) 136, .pt b4 [.int .i64 0, .int .i64 0, .int .i64 0] 33]) (0, g) ⟨by simp, hg⟩ ⟨rfl, rfl, rfl, rfl, rfl, rfl, rfl, rfl, rfl, rfl, trivial⟩ (by repeat constructor) ?_
      clear hg
      rintro ⟨x, g⟩ ⟨hx, hg⟩ K2 hK2
      dsimp only at hx hg ⊢
      (refine q_seq (q_region (ql_pure tabOk rfl rfl (q_nil (q_seq ?_)))))
      refine q_if rfl (fun hc => ?_) (fun hc => ?_)
      · have hx2 : x < y := by omega
        clear hc
        have hsn := nxV_snoc n k l.ord (nxPairs y x) (x, y)
        rw [← nx_succ] at hsn
        cases hnx : nxV n k l.ord (nxPairs y x) with
        | some q =>
          obtain ⟨q1, q2⟩ := q
          rw [hnx] at hsn
          dsimp only at hsn
          have hq2 : 1 ≤ q2 := by have := nx_mem hx (List.mem_of_find?_eq_some hnx); omega
          show Q _ _ _ _ _ _ _ _ (_ :: .pt b11 [.int .i64 q1, .int .i64 q2, .int .i64 0] 33 :: _)
          (refine q_skip (q_seq (q_block (q_seq (q_region (ql_pure tabOk rfl rfl (ql_pure tabOk rfl rfl (q_nil (q_seq (q_region ?_))))))))); refine ql_loadABa tabOk rfl rfl rfl ?_)
          refine ql_mk #[.int .i64 0, .int .i64 0, .int .i64 0] rfl (by kernel_rfl) rfl ?_
          skip
          refine ql_eqF [some .i64, some .i64, some .i64] run_flat rfl rfl rfl rfl rfl ?_
          rw [show eqL (List.take 3 (List.drop 0 [Value.int .i64 q1, .int .i64 q2, .int .i64 0])) [Value.int .i64 0, .int .i64 0, .int .i64 0] = false from by
            show eqL [Value.int .i64 q1, .int .i64 q2, .int .i64 0] [Value.int .i64 0, .int .i64 0, .int .i64 0] = false
            simp only [eqL]
            rw [decide_eq_false (show ¬ ((q2 : Int) = 0) by omega)]
            simp]
          (refine ql_pure tabOk rfl rfl ?_; (iterate 10 refine ql_gno rfl rfl rfl ?_); refine ql_pure tabOk rfl rfl (q_nil (q_cond_false rfl (q_skip (q_blk (q_region (ql_ar tabOk rfl rfl rfl rfl (by omega) (by omega) (ql_pure tabOk rfl rfl (q_nil ?_)))))))))
          exact hK2 (x + 1, g) _ _ ⟨by simp only; omega, hg⟩ (by simp only; omega) ⟨rfl, rfl, rfl, rfl, rfl, rfl, rfl, rfl, rfl, rfl, trivial⟩ (by dsimp only; rw [hsn]; repeat constructor)
        | none =>
          rw [hnx] at hsn
          dsimp only at hsn
          show Q _ _ _ _ _ _ _ _ (_ :: .pt b11 [.int .i64 0, .int .i64 0, .int .i64 0] 33 :: _)
          (refine q_skip (q_seq (q_block (q_seq (q_region (ql_pure tabOk rfl rfl (ql_pure tabOk rfl rfl (q_nil (q_seq (q_region ?_))))))))); refine ql_loadABa tabOk rfl rfl rfl ?_)
          refine ql_mk #[.int .i64 0, .int .i64 0, .int .i64 0] rfl (by kernel_rfl) rfl ?_
          skip
          refine ql_eqF [some .i64, some .i64, some .i64] run_flat rfl rfl rfl rfl rfl ?_
          rw [show eqL (List.take 3 (List.drop 0 [Value.int .i64 0, .int .i64 0, .int .i64 0])) [Value.int .i64 0, .int .i64 0, .int .i64 0] = true from rfl]
          (refine ql_pure tabOk rfl rfl (ql_gyes rfl (ql_pure tabOk rfl rfl (ql_gyes rfl (ql_pure tabOk rfl rfl (ql_gyes rfl (ql_pure tabOk rfl rfl (ql_gyes rfl (ql_pure tabOk rfl rfl (ql_gyes rfl ?_))))))))); refine ql_loadABa tabOk rfl rfl rfl ?_; refine ql_gyes rfl (ql_pure tabOk rfl rfl (ql_gyes rfl (ql_pure tabOk rfl rfl (ql_gyes rfl ?_)))))
          rw [dk_take]
          refine ql_callF (β := Value → Option Value) (ψ := fun g v => v = .int .i64 (worthV n k l.ord x y : Nat) ∧ GoodP n k g) (L' := fun g => [mpO bm g]) [mpO bm g] [.pt b11 [.int .i64 0, .int .i64 0, .int .i64 0] 33, .pt b2 [.int .i64 n] 3, .pt b3 [.int .i64 k] 3, .pt b6 [.map (some bm)] 183, .pt b7 [plnF b2 b3 b6 b8] 139, .pt b8 [worthF b7] 140, .pt bd (dkC l v l.ord) 136, .pt b4 [.int .i64 0, .int .i64 0, .int .i64 0] 33] (· = bm) rfl rfl rfl (by repeat constructor) (fun x hx => ⟨_, .head _, hx⟩) (fun w' hs => CaF.of tabOk (by kernel_rfl) (worthA_ca n k bm b2 b3 b6 b7 b8 l.ord x y h8 (by omega) hp.ok.o (by omega) (by omega) (by omega) w' _ ⟨⟨_, hs.blk (b := b2) (by repeat constructor)⟩, ⟨_, hs.blk (b := b3) (by repeat constructor)⟩, ⟨_, hs.blk (b := b6) (by repeat constructor)⟩, ⟨_, hs.blk (b := b7) (by repeat constructor)⟩, ⟨_, hs.blk (b := b8) (by repeat constructor)⟩⟩ (hs.mem (c := mpO bm g) (by repeat constructor)) hg)) ?_
          rintro g2 v2 ⟨rfl, hg2⟩
          dsimp only [List.cons_append, List.nil_append]
          by_cases hwv : worthV n k l.ord x y = planO n k l.ord
          · rw [if_pos hwv] at hsn
            (refine ql_gyes rfl (ql_pure tabOk rfl rfl (ql_gyes rfl (ql_eqlT tabOk rfl rfl rfl (by omega) (ql_pure tabOk rfl rfl (q_nil (q_cond_true rfl (q_region (ql_pure tabOk rfl rfl (ql_pure tabOk rfl rfl ?_))))))))))
            refine ql_mk #[.int .i64 x, .int .i64 y, .int .i64 0] rfl (by kernel_rfl) rfl ?_
            (refine ql_setA tabOk rfl rfl rfl rfl rfl (by repeat constructor) rfl ?_; refine q_nil (q_blk (q_region (ql_ar tabOk rfl rfl rfl rfl (by omega) (by omega) (ql_pure tabOk rfl rfl (q_nil ?_))))))
            exact hK2 (x + 1, g2) _ _ ⟨by simp only; omega, hg2⟩ (by simp only; omega) ⟨rfl, rfl, rfl, rfl, rfl, rfl, rfl, rfl, rfl, rfl, trivial⟩ (by dsimp only; rw [hsn]; repeat constructor)
          · rw [if_neg hwv] at hsn
            (refine ql_gyes rfl (ql_pure tabOk rfl rfl (ql_gyes rfl (ql_eqlF tabOk rfl rfl rfl (by omega) (ql_pure tabOk rfl rfl (q_nil (q_cond_false rfl (q_skip (q_blk (q_region (ql_ar tabOk rfl rfl rfl rfl (by omega) (by omega) (ql_pure tabOk rfl rfl ?_))))))))))); refine q_nil ?_)
            exact hK2 (x + 1, g2) _ _ ⟨by simp only; omega, hg2⟩ (by simp only; omega) ⟨rfl, rfl, rfl, rfl, rfl, rfl, rfl, rfl, rfl, rfl, trivial⟩ (by dsimp only; rw [hsn]; repeat constructor)
      · obtain rfl : x = y := by omega
        (refine q_exit _ rfl (q_blk (q_region (ql_ar tabOk rfl rfl rfl rfl (by omega) (by omega) (ql_pure tabOk rfl rfl (q_nil ?_))))))
        exact hK (x + 1, g) _ _ ⟨by simp only; omega, hg⟩ (by simp only; omega) ⟨rfl, rfl, rfl, rfl, rfl, rfl, rfl, trivial⟩ (by dsimp only; rw [← nx_next]; repeat constructor)
    · obtain rfl : y = n := by omega
      obtain ⟨nc, hnc⟩ : ∃ nc, nc = nxC (nxV y k l.ord (nxPairs y 0)) := ⟨_, rfl⟩
      have hn3 : ∃ c1 c2 c3 : Int, nc = [.int .i64 c1, .int .i64 c2, .int .i64 c3] := by
        rw [hnc]
        cases nxV y k l.ord (nxPairs y 0) with
        | some q => exact ⟨_, _, _, rfl⟩
        | none => exact ⟨_, _, _, rfl⟩
      rw [← hnc]
      obtain ⟨c1, c2, c3, rfl⟩ := hn3
      (refine q_exit _ rfl (q_seq (q_region ?_)); refine ql_loadABa tabOk rfl rfl rfl ?_; refine ql_setA tabOk rfl rfl rfl rfl rfl (by repeat constructor) rfl ?_; refine ql_pure tabOk rfl rfl (q_nil (q_ret ?_)))
      refine q_fin tabOk rfl (by repeat constructor) fun w hs => ?_
      exact ⟨rfl, hs.chg0⟩
end Go.Proofs.Ytcmpdmobmbbplaa

/- Walks: the skis, the fastest one first. -/
namespace Go.Proofs.Ytcmpdmobmbbplaa
open Go Go.Eng

theorem ranked1_ca (w : World) (lo hi b t : Nat) (v : Value) (st : List Int) (h : RdI w lo hi v st) (hb : Blk w b [v] t) (hst : ∀ x ∈ st, 0 ≤ x ∧ x ≤ 100000) (i j : Nat) (hi' : i < st.length) (hj : j < st.length) : Ca Try.prog 115 [.int .i64 i, .int .i64 j, .pointer (some ⟨b, 0, none⟩)] w fun x w' => x = .int .i64 (rnkK st i - rnkK st j) ∧ Chg [] w w' := by
  obtain ⟨a, c, rfl, ha⟩ := RdI.outI h
  obtain ⟨ab, ao, rfl⟩ := ha (by omega)
  have e1 : rnkK st i - rnkK st j = st[j] - st[i] := by unfold rnkK; rw [Int.toNat_natCast, Int.toNat_natCast, getD_get hi', getD_get hj]; omega
  have b1 := hst _ (List.getElem_mem hi')
  have b2 := hst _ (List.getElem_mem hj)
  rw [e1]
  refine q_of (Sat.nil w M0) Try.func115 rfl (by simp [Try.ntmps115]) ?_
  (refine q_seq (q_region (ql_pure tabOk rfl rfl (q_nil (q_seq ?_)))))
  refine q_draw _ [] (Sp.refl _) (by kernel_rfl) (by kernel_rfl) ?_
  (refine qf_loadP tabOk rfl rfl rfl (by assumption) (by rfl) ?_; refine qf_pure tabOk rfl rfl rfl ?_)
  refine qf_index tabOk rfl rfl rfl rfl rfl (by omega) (by omega) ?_
  refine qf_load1 (v := .int .i64 st[j]) tabOk rfl rfl rfl (fun w hs => RdI.at (RdE.keep h hs.chg0) j hj) ?_
  (refine qf_loadP tabOk rfl rfl rfl (by assumption) (by rfl) ?_; refine qf_pure tabOk rfl rfl rfl ?_)
  refine qf_index tabOk rfl rfl rfl rfl rfl (by omega) (by omega) ?_
  refine qf_load1 (v := .int .i64 st[i]) tabOk rfl rfl rfl (fun w hs => RdI.at (RdE.keep h hs.chg0) i hi') ?_
  (refine qf_ar tabOk rfl rfl rfl rfl (by omega) (by omega) (qf_pure tabOk rfl rfl rfl (qf_nil (q_ret ?_))))
  refine q_fin tabOk rfl (by repeat constructor) fun w hs => ?_
  exact ⟨rfl, hs.chg0⟩
theorem ranked_ca (w : World) (lo hi : Nat) (v : Value) (st : List Int) (h : RdI w lo hi v st) (hl1 : 1 ≤ st.length) (hl2 : st.length ≤ 16) (hst : ∀ x ∈ st, 0 ≤ x ∧ x ≤ 100000) : Ca Try.prog 61 [v] w fun x w' => ∃ u : Value, x = u ∧ Sat w M0 [.ow u 3 1 st.length (ints (rankL st))] w' := by
  obtain ⟨a, c, rfl, ha⟩ := RdI.outI h
  refine q_of (Sat.nil w M0) Try.func61 rfl (by simp [Try.ntmps61]) ?_
  (refine q_seq (q_region ?_))
  refine ql_box rfl rfl (fun b1 => ?_)
  (refine ql_pure tabOk rfl rfl (q_nil (q_seq (q_region (ql_pure tabOk rfl rfl (q_nil (q_seq (q_seq (q_region ?_)))))))); refine ql_loadBa tabOk rfl rfl rfl ?_; refine ql_pure tabOk rfl rfl (ql_pure tabOk rfl rfl (q_nil (q_block ?_))))
  refine q_conv (H' := [.ow (.slice none 0 0) 3 1 0 (ints (iotaL 0)), .pt b1 [.slice a st.length c] 26]) (fun w' hs => (Sat.ownil hs 3 1).sp (by repeat constructor)) ?_
  refine q_loop (σ := Nat × Value) (fun y => y.1 ≤ st.length) (fun y => st.length - y.1) (fun y => [(1, .pointer (some ⟨b1, 0, none⟩)), (3, y.2), (6, .int .i64 st.length), (7, .int .i64 y.1)])
    (fun y => [.ow y.2 3 1 y.1 (ints (iotaL y.1)), .pt b1 [.slice a st.length c] 26]) (0, .slice none 0 0) (by simp only; omega) ⟨rfl, rfl, rfl, rfl, trivial⟩ (by repeat constructor) ?_
  rintro ⟨k, u⟩ hk K hK
  dsimp only at hk ⊢
  (refine q_seq (q_region (ql_pure tabOk rfl rfl (q_nil (q_seq ?_)))))
  refine q_if rfl (fun hc => ?_) (fun hc => ?_)
  · have hk2 : k < st.length := by omega
    clear hc
    (refine q_skip (q_seq (q_block (q_seq (q_region (ql_pure tabOk rfl rfl (ql_pure tabOk rfl rfl (q_nil (q_region (ql_pure tabOk rfl rfl (ql_pure tabOk rfl rfl ?_)))))))))))
    refine ql_mkS 3 [.int .i64 k] rfl (by kernel_rfl) rfl (fun bn => ?_)
    skip
    refine ql_append (q := 1) (news := [.int .i64 k]) slI rfl rfl rfl (fun v' => by repeat constructor) (fun w' hs => ⟨_, _, Blk.rdN (hs.blk (b := bn) (by repeat constructor)) rfl⟩) (by simp [oneV]) (by omega) (by omega) (fun u' => ?_)
    (refine ql_pure tabOk rfl rfl (q_nil (q_blk (q_region (ql_ar tabOk rfl rfl rfl rfl (by omega) (by omega) (ql_pure tabOk rfl rfl (q_nil ?_)))))))
    exact hK (k + 1, u') _ _ (by simp only; omega) (by simp only; omega) ⟨rfl, rfl, rfl, rfl, trivial⟩ (by dsimp only; rw [iota_succ]; repeat constructor)
  · obtain rfl : k = st.length := by omega
    clear hc hK hk
    refine q_fact (fun w hs => hs.ownSome (v := u) (by repeat constructor) (by omega)) ?_
    rintro ⟨b5, c5, rfl⟩
    (refine q_exit _ rfl (q_seq (q_region (ql_pure tabOk rfl rfl (ql_pure tabOk rfl rfl ?_)))))
    refine ql_call (β := List Int) (ψ := fun L v => v = .tuple #[] ∧ L.Perm (iotaL st.length) ∧ SrtK (rnkK st) L) (L' := fun L => [.ow (.slice (some ⟨b5, 0, none⟩) st.length c5) 3 1 st.length (ints L)]) tabOk [.ow (.slice (some ⟨b5, 0, none⟩) st.length c5) 3 1 st.length (ints (iotaL st.length))] _ (fun x => x = b5) rfl rfl rfl rfl (Sp.cons (by repeat constructor) (Sp.refl _)) (fun x hx => ⟨_, .head _, by subst hx; rfl⟩) (fun w' hs => by
      have hcmp : CmpAt w' b5 (.func (.func 115) #[] #[.pointer (some ⟨b1, 0, none⟩)]) (rnkK st) (iotaL st.length) := fun w2 hc2 x hx y hy => by
        have hx2 := iota_mem.1 hx
        have hy2 := iota_mem.1 hy
        have hc3 : ChgP (DL [Ck.ow (.slice (some ⟨b5, 0, none⟩) st.length c5) 3 1 st.length (ints (iotaL st.length))]) w' w2 := (ChgP.refl _ w').upP hc2 fun k hk => .inl ⟨_, .head _, by subst hk; rfl⟩
        have hb1 : Blk w2 b1 [.slice a st.length c] 26 := hs.aside hc3 (x := .pt b1 [.slice a st.length c] 26) (by repeat constructor)
        have hc4 := hs.asideOld hc3
        obtain ⟨i, rfl⟩ := Int.eq_ofNat_of_zero_le hx2.1
        obtain ⟨j, rfl⟩ := Int.eq_ofNat_of_zero_le hy2.1
        exact CaF.of tabOk (by kernel_rfl) (ranked1_ca w2 lo hi b1 _ _ st (RdE.keep h hc4) hb1 hst i j (by omega) (by omega))
      have := sortF_ca w' b5 c5 (iotaL st.length) (rnkK st) (.func (.func 115) #[] #[.pointer (some ⟨b1, 0, none⟩)]) (by rw [iota_len]; omega) (by rw [iota_len]; omega) (SrI.start _) hcmp (by rw [iota_len]; exact hs.all _ (.head _))
      rw [iota_len] at this
      exact this) ?_
    rintro L _ ⟨rfl, hp, hso⟩
    have hL : L = rankL st := ordK_eq hp hso
    subst hL
    dsimp only [List.cons_append, List.nil_append]
    (refine q_nil (q_seq (q_region (ql_pure tabOk rfl rfl (ql_pure tabOk rfl rfl (q_nil (q_ret ?_)))))))
    refine q_fin tabOk rfl (by repeat constructor) fun w hs => ?_
    exact ⟨_, rfl, hs.sp (by repeat constructor)⟩
end Go.Proofs.Ytcmpdmobmbbplaa

/- Walks: labs are copied, and get a run more. -/
namespace Go.Proofs.Ytcmpdmobmbbplaa
open Go Go.Eng

theorem rnC_one (l : List Rn) : ∀ c ∈ rnC l, oneV c = true := fun c hc => by obtain ⟨y, _, hy⟩ := List.mem_flatMap.1 hc; simp at hy; rcases hy with rfl | rfl | rfl <;> rfl
theorem cloneR_ca (w : World) (lo hi : Nat) (v : Value) (l : List Rn) (h : RdR w lo hi v l) (hlen : l.length ≤ 1000) : Ca Try.prog 70 [v] w fun x w' => ∃ u : Value, x = u ∧ Sat w M0 [.ow u 33 3 l.length (rnC l)] w' := by
  obtain ⟨a, c, rfl, ha⟩ := RdR.outI h
  refine q_of (Sat.nil w M0) Try.func70 rfl (by simp [Try.ntmps70]) ?_
  refine q_conv (H' := [.ow (.slice none 0 0) 33 3 0 (rnC [])]) (fun w' hs => Sat.ownil hs 33 3) ?_
  (refine q_seq (q_region (ql_pure tabOk rfl rfl (q_nil (q_seq (q_region (ql_pure tabOk rfl rfl ?_)))))))
  refine ql_append (q := l.length) (news := rnC l) slR rfl rfl rfl (fun v' => by repeat constructor) (fun w' hs => ⟨_, _, RdR.row (RdE.keep h hs.chg0)⟩) (rnC_one l) (by omega) (by omega) (fun u' => ?_)
  (refine ql_pure tabOk rfl rfl (q_nil (q_ret ?_)))
  refine q_fin tabOk rfl (by repeat constructor) fun w hs => ?_
  exact ⟨u', rfl, hs.sp (by simp only [rnC, List.flatMap_nil, List.nil_append, Nat.zero_add]; repeat constructor)⟩
def tD3_563eb24 : OT := chainT [0, 1, 2, 3, 4, 5, 6, 7, 8] (.nil)
theorem cloneL_ca (w : World) (lo hi : Nat) (l : Lb) (v : Value) (h : RdR w lo hi v l.runs) (hlen : l.runs.length ≤ 1000) : Ca Try.prog 13 [.agg (lbC l v).toArray] w fun x w' => ∃ u : Value, x = .agg (lbC l u).toArray ∧ Sat w M0 [.ow u 33 3 l.runs.length (rnC l.runs)] w' := by
  obtain ⟨a, c, rfl, ha⟩ := RdR.outI h
  refine q_of (Sat.nil w M0) Try.func13 rfl (by simp [Try.ntmps13]) ?_
  (refine q_seq (q_region ?_))
  refine ql_box rfl rfl (fun b1 => ?_)
  skip
  refine ql_alloc zero25 rfl (fun b2 => ?_)
  (refine q_nil (q_seq ?_))
  refine q_cut (σ := Value) (fun u => [(2, .pointer (some ⟨b2, 0, none⟩))])
      (fun u => [.pt b2 [.int .i64 l.skis, .int .i64 l.err, u] 25, .ow u 33 3 l.runs.length (rnC l.runs)]) ?_ ?_
  rotate_left
  · intro K2 hK2
    refine q_drawT (tD3_563eb24) _ [.pt b2 [.int .i64 0, .int .i64 0, .slice none 0 0] 25] (Sp.cons (by repeat constructor) (Sp.refl _)) (by kernel_rfl) (by kernel_rfl) ?_
    refine qt_seg (by repeat (first | exact PickL.nil | (apply PickL.cons; rfl))) fun K1 hK1 => ?_
    (refine qf_pure tabOk rfl rfl rfl ?_; refine qf_loadBa tabOk rfl rfl rfl ?_; refine qf_pure tabOk rfl rfl rfl ?_; refine qf_loadBa tabOk rfl rfl rfl ?_; refine qf_pure tabOk rfl rfl rfl ?_; refine qf_loadBa tabOk rfl rfl rfl ?_)
    refine qf_call (β := Value) tabOk [] _ M0 rfl rfl rfl rfl (Sp.refl _) (fun _ h => h.elim) (fun w' hs => cloneR_ca w' lo hi _ l.runs (RdE.keep h hs.chg0) (by omega)) ?_
    rintro _ u rfl
    dsimp only [List.cons_append, List.nil_append]
    refine qf_fact (fun w hs => hs.slice2 (v := u) (by repeat constructor)) ?_
    rintro ⟨a1, c1, rfl⟩
    skip
    refine qf_mk #[.int .i64 l.skis, .int .i64 l.err, .slice a1 l.runs.length c1] rfl (by kernel_rfl) rfl ?_
    (refine qf_setA tabOk rfl rfl rfl rfl rfl (by repeat constructor) rfl ?_; refine qf_nil ?_)
    exact hK1 _ _ (qt_nil (hK2 (.slice a1 l.runs.length c1) _ _ ⟨rfl, trivial⟩ (by repeat constructor)))
  intro u
  (refine q_ret ?_)
  refine q_fin tabOk rfl (by repeat constructor) fun w hs => ?_
  exact ⟨u, rfl, hs.sp (by repeat constructor)⟩
theorem further_ca (w : World) (lo hi : Nat) (l : Lb) (v : Value) (x y : Int) (h : RdR w lo hi v l.runs) (hlen : l.runs.length ≤ 1000) (he : 0 ≤ l.err ∧ l.err ≤ 1000) : Ca Try.prog 27 [.agg (lbC l v).toArray, .int .i64 x, .int .i64 y] w fun r w' => ∃ u : Value, r = .agg (lbC (l.add ⟨x, y, l.err + 1⟩) u).toArray ∧ Sat w M0 [.ow u 33 3 (l.add ⟨x, y, l.err + 1⟩).runs.length (rnC (l.add ⟨x, y, l.err + 1⟩).runs)] w' := by
  obtain ⟨a, c, rfl, ha⟩ := RdR.outI h
  refine q_of (Sat.nil w M0) Try.func27 rfl (by simp [Try.ntmps27]) ?_
  (refine q_seq (q_region ?_))
  refine ql_box rfl rfl (fun b3 => ?_)
  skip
  refine ql_alloc zero25 rfl (fun b6 => ?_)
  (refine q_nil (q_seq (q_region ?_)); refine ql_loadABa tabOk rfl rfl rfl ?_)
  refine ql_call (β := Value) tabOk [] _ M0 rfl rfl rfl rfl (Sp.refl _) (fun _ h => h.elim) (fun w' hs => cloneL_ca w' lo hi l _ (RdE.keep h hs.chg0) hlen) ?_
  rintro u _ rfl
  dsimp only [List.cons_append, List.nil_append]
  refine ql_fact (fun w hs => hs.slice2 (v := u) (by repeat constructor)) ?_
  rintro ⟨a1, c1, rfl⟩
  skip
  refine ql_alloc zero25 rfl (fun b7 => ?_)
  (refine ql_setA tabOk rfl rfl rfl rfl rfl (by repeat constructor) rfl ?_; refine q_nil (q_seq (q_region (ql_pure tabOk rfl rfl ?_))); refine ql_loadBa tabOk rfl rfl rfl ?_; (iterate 3 refine ql_pure tabOk rfl rfl ?_); refine ql_loadBa tabOk rfl rfl rfl ?_; refine ql_ar tabOk rfl rfl rfl rfl (by omega) (by omega) ?_)
  refine ql_mk #[.int .i64 x, .int .i64 y, .int .i64 (l.err + 1)] rfl (by kernel_rfl) rfl ?_
  skip
  refine ql_mkS 33 [.int .i64 x, .int .i64 y, .int .i64 (l.err + 1)] rfl (by kernel_rfl) rfl (fun bn => ?_)
  skip
  refine ql_append (q := 1) (news := [.int .i64 x, .int .i64 y, .int .i64 (l.err + 1)]) slR rfl rfl rfl (fun v' => by repeat constructor) (fun w' hs => ⟨_, _, Blk.rdN (hs.blk (b := bn) (by repeat constructor)) rfl⟩) (by simp [oneV]) (by omega) (by omega) (fun u' => ?_)
  refine ql_fact (fun w hs => hs.slice2 (v := u') (by repeat constructor)) ?_
  rintro ⟨a2, c2, rfl⟩
  (refine ql_pure tabOk rfl rfl ?_; refine ql_st2 tabOk rfl rfl rfl rfl (by repeat constructor) ?_; refine q_nil (q_seq (q_region ?_)); refine ql_loadABa tabOk rfl rfl rfl ?_; refine ql_setA tabOk rfl rfl rfl rfl rfl (by repeat constructor) rfl ?_; refine q_nil (q_ret ?_))
  have e1 := rnC_snoc l.runs ⟨x, y, l.err + 1⟩
  refine q_fin tabOk rfl (by repeat constructor) fun w hs => ?_
  exact ⟨.slice a2 (l.runs.length + 1) c2, rfl, hs.sp (by
    show Sp _ [.ow _ _ _ (l.runs ++ [(⟨x, y, l.err + 1⟩ : Rn)]).length (rnC (l.runs ++ [(⟨x, y, l.err + 1⟩ : Rn)]))]
    rw [e1, List.length_append]
    repeat constructor)⟩
end Go.Proofs.Ytcmpdmobmbbplaa

/- Lists of labs, and what is told of them. -/
namespace Go.Proofs.Ytcmpdmobmbbplaa
open Go Go.Eng

abbrev LbM := Lb × Option Addr × Nat
def labCs (M : List LbM) : List Value := M.flatMap fun m => [.int .i64 m.1.skis, .int .i64 m.1.err, .slice m.2.1 m.1.runs.length m.2.2]
def labOs (t : Nat) (M : List LbM) : List Ck := M.map fun m => .ow (.slice m.2.1 m.1.runs.length m.2.2) t 3 m.1.runs.length (rnC m.1.runs)
/-- Places that were told. -/
def plOs (t : Nat) (M : List LbM) (ps : List Value) : List Ck := (M.zip ps).map fun x => .ow x.2 t 2 x.1.1.n (spC (plC x.1.1 x.1.1.ord x.1.1.n))
/-- An array that is filled. -/
def filA (f : Nat → Int) (n j : Nat) : List Int := (List.range n).map fun i => if i < j then f i else 0
def lbM (M : List LbM) (i : Nat) : Lb := (M.getD i (⟨0, 0, []⟩, none, 0)).1
def oM (M : List LbM) (i : Nat) : Int := cnt (lbM M i).ord (lbM M i).n (2 ^ (lbM M i).n - 1)
def rM (M : List LbM) (k i : Nat) : Int := (planO (lbM M i).n k (lbM M i).ord : Nat)
/-- What all labs of a list have. -/
structure AllOk (sk : Nat) (m : LbM) : Prop where
  ok : m.1.Ok
  noC : NoC m.1.ord m.1.n
  skis : m.1.skis = (sk : Int)
theorem AllOk.n {sk : Nat} {m : LbM} (h : AllOk sk m) : m.1.n = sk := by unfold Lb.n; rw [h.skis]; omega
end Go.Proofs.Ytcmpdmobmbbplaa

/- Walks: all pairs of skis of which one is faster; whether a pair is among them. -/
namespace Go.Proofs.Ytcmpdmobmbbplaa
open Go Go.Eng

/-- The pairs with a faster ski of a list of skis. -/
def prA (o n : Nat) (L : List Nat) : List (Int × Int) := L.flatMap fun a => ((List.range n).filter fun b => fa o a b).map fun (b : Nat) => ((a : Int), (b : Int))
/-- All pairs of skis of which one is faster. -/
def fasL (o n : Nat) : List (Int × Int) := prA o n (List.range n)
/-- Those of the skis ahead of the k-th one, and the first ones of its own. -/
def fasI (o n a b : Nat) : List (Int × Int) := prA o n (List.range a) ++ ((List.range b).filter fun b => fa o a b).map fun (b : Nat) => ((a : Int), (b : Int))
/-- Where a pair is, or -1. -/
def idxP (L : List (Int × Int)) (p : Int × Int) : Int := if p ∈ L then (L.idxOf p : Int) else -1
end Go.Proofs.Ytcmpdmobmbbplaa

/- Labs that grow, and what is read of them. -/
namespace Go.Proofs.Ytcmpdmobmbbplaa
open Go Go.Eng

theorem mod_natK {a : Int} {n : Nat} (ha : 0 ≤ a) (hn : 0 < n) : ∃ x : Nat, a % (n : Int) = x ∧ x < n := ⟨(a % n).toNat, by have := Int.emod_nonneg a (show (n : Int) ≠ 0 by omega); omega, by have := Int.emod_lt_of_pos a (show (0 : Int) < n by omega); have := Int.emod_nonneg a (show (n : Int) ≠ 0 by omega); omega⟩
theorem madeK {w0 w : World} {R : List Ck} {b K : Nat} {bs : Value} {most runs : Nat} (hby : DkB w0 0 w0.heap.size bs) (hs : Sat w0 M0 (dkP bs b K :: R) w) (h1 : 2 ≤ most) (h2 : most ≤ 8) (h3 : runs ≤ 20) (hK : K < 100000) :
    Ca Try.prog 11 [.pointer (some ⟨b, 0, none⟩), .int .i64 most, .int .i64 runs] w fun v w' => ∃ y : Value × Value × Lb × List Int, (v = .tuple #[.agg (lbC y.2.2.1 y.1).toArray, y.2.1] ∧ MadeL most runs y.2.2.1 y.2.2.2) ∧ Sat w (fun x => x = b) [.ow y.1 33 3 y.2.2.1.runs.length (rnC y.2.2.1.runs), .ow y.2.1 3 1 y.2.2.2.length (ints y.2.2.2), dkP bs b (K + 100)] w' :=
  made_ca most runs h1 h2 h3 K hK w b 0 w0.heap.size bs (hby.keep hs.chg0) (dk_new hs) (hs.all _ (.head _))
theorem runs_rdK {w0 w : World} {M : Nat → Prop} {H : List Ck} {v : Value} {t n : Nat} {l : List Rn} (hs : Sat w0 M H w) (hm : .ow v t 3 n (rnC l) ∈ H) (hn : n = l.length) : RdR w 0 w.heap.size v l := own_rdR (t := t) (hs.mem hm) hn
/-- The slice of a lab's runs. -/
abbrev slV (m : LbM) : Value := .slice m.2.1 m.1.runs.length m.2.2
theorem lab_in {w0 w : World} {Mp : Nat → Prop} {H : List Ck} {t : Nat} {M : List LbM} (hs : Sat w0 Mp H w) (hm : un (labOs t M) ∈ H) {m : LbM} (hi : m ∈ M) : RdR w 0 w.heap.size (slV m) m.1.runs :=
  own_rdR (t := t) ((hs.mem hm).1 (.ow (slV m) t 3 m.1.runs.length (rnC m.1.runs)) (List.mem_map.2 ⟨_, hi, rfl⟩)) rfl
theorem labOs_add {w0 w : World} {Mp : Nat → Prop} {R : List Ck} {t : Nat} {M : List LbM} {m : LbM} (h : Sat w0 Mp (.ow (slV m) t 3 m.1.runs.length (rnC m.1.runs) :: un (labOs t M) :: R) w) : Sat w0 Mp (un (labOs t (M ++ [m])) :: R) w :=
  (Sat.un_in h).un_perm (L' := labOs t (M ++ [m])) (by unfold labOs; rw [List.map_append]; exact (List.perm_append_comm (l₁ := [_])))
theorem labOs_one {w0 w : World} {Mp : Nat → Prop} {R : List Ck} {t : Nat} {m : LbM} (h : Sat w0 Mp (.ow (slV m) t 3 m.1.runs.length (rnC m.1.runs) :: R) w) : Sat w0 Mp (un (labOs t [m]) :: R) w := Sat.un_iff.2 h
end Go.Proofs.Ytcmpdmobmbbplaa

/- The plain law of SkiPlanned: following the plan; parts of lists. -/
namespace Go.Proofs.Ytcmpdmobmbbplaa
open Go Go.Eng
theorem nx_iff {n x y : Nat} : (x, y) ∈ nxPairs n 0 ↔ x < y ∧ y < n := by
  unfold nxPairs
  simp only [List.range_zero, List.map_nil, List.append_nil, List.mem_flatMap, List.mem_map, List.mem_range, Prod.mk.injEq]
  constructor
  · rintro ⟨z, h1, u, h2, rfl, rfl⟩
    exact ⟨h2, h1⟩
  · rintro ⟨h1, h2⟩
    exact ⟨y, h2, x, h1, rfl, rfl⟩
/-- The next run: two skis of which it is not known which one is faster; one run fewer is enough after it. -/
theorem next_says {n k o : Nat} (hn : n ≤ 8) (h1 : 1 ≤ n) (hk : k ≤ n) (ho : Ord o) (hc : NoC o n) (h0 : planO n k o ≠ 0) : ∃ a b, nxV n k o (nxPairs n 0) = some (a, b) ∧ a < b ∧ b < n ∧ Und o n a b ∧ max (planO n k (withO o a b)) (planO n k (withO o b a)) + 1 = planO n k o := by
  obtain ⟨p, hp, hu, hw⟩ := plan_at hn h1 hk ho hc (fun hkn => h0 ((plan_zero hn h1 hk ho hc).2 hkn))
  obtain ⟨p1, p2⟩ := p
  obtain ⟨h2, h3⟩ := pairs_iff.1 hp
  obtain ⟨h4, h5⟩ := und_iff.1 hu
  dsimp only at h4 h5 hw
  cases hf : nxV n k o (nxPairs n 0) with
  | none =>
    exfalso
    have := List.find?_eq_none.1 hf (p2, p1) (nx_iff.2 ⟨h3, h2⟩)
    refine this (decide_eq_true ?_)
    rw [worthV_und h5 h4, worth_comm, hw]
  | some q =>
    obtain ⟨a, b⟩ := q
    have h6 : worthV n k o a b = planO n k o := by
      unfold nxV at hf
      have h7 := List.find?_some hf
      dsimp only at h7
      exact of_decide_eq_true h7
    obtain ⟨h7, h8⟩ := nx_iff.1 (List.mem_of_find?_eq_some (show (nxPairs n 0).find? (fun p => decide (worthV n k o p.1 p.2 = planO n k o)) = some (a, b) from hf))
    cases hd : fa o a b || fa o b a with
    | true =>
      rw [worthV_dec hd] at h6
      omega
    | false =>
      obtain ⟨h9, h10⟩ := Bool.or_eq_false_iff.1 hd
      rw [worthV_und h9 h10] at h6
      unfold worthO at h6
      exact ⟨a, b, rfl, h7, h8, ⟨ho, hn, by omega, h8, by omega, h9, h10⟩, by omega⟩
theorem worth_says {n k o a b : Nat} (hn : n ≤ 8) (h1 : 1 ≤ n) (hk : k ≤ n) (ho : Ord o) (hc : NoC o n) (ha : a < n) (hb : b < n) (hne : a ≠ b) : planO n k o ≤ worthV n k o a b ∧ (planO n k o = 0 → worthV n k o a b = 1) ∧ worthV n k o a b ≤ 100 := by
  have hpl := plan_le (k := k) hn ho
  have h64 : n * n ≤ 64 := Nat.mul_le_mul hn hn
  cases hd : fa o a b || fa o b a with
  | true =>
    rw [worthV_dec hd]
    exact ⟨by omega, fun h => by omega, by omega⟩
  | false =>
    obtain ⟨h9, h10⟩ := Bool.or_eq_false_iff.1 hd
    have hU : Und o n a b := ⟨ho, hn, ha, hb, hne, h9, h10⟩
    rw [worthV_und h9 h10]
    have o1 := ho.with (f := a) (s := b) (by omega) (by omega)
    have o2 := ho.with (f := b) (s := a) (by omega) (by omega)
    have p1 := plan_le (k := k) hn o1
    have p2 := plan_le (k := k) hn o2
    refine ⟨plan_worth hU, fun h => ?_, by unfold worthO; omega⟩
    have hkn := (plan_zero hn h1 hk ho hc).1 h
    have z1 := (plan_zero hn h1 hk o1 (hc.with hU)).2 (known_mono hn o1 (hc.with hU) (le_with o a b) hkn)
    have z2 := (plan_zero hn h1 hk o2 (hc.with hU.swap)).2 (known_mono hn o2 (hc.with hU.swap) (le_with o b a) hkn)
    unfold worthO
    rw [z1, z2]
    rfl
theorem rank_chI (real : List Int) : chI ((rankL real).map Int.toNat) = rankL real := by
  unfold chI
  rw [List.map_map]
  refine (List.map_congr_left fun x hx => ?_).trans (List.map_id _)
  have := (ordK_mem (key := rnkK real) (n := real.length) (x := x)).1 hx
  simp only [Function.comp, id]
  omega
theorem chI_take (L : List Nat) (k : Nat) : (chI L).take k = chI (L.take k) := by unfold chI; rw [List.map_take]
theorem idx_lt {o n a b : Nat} {L : List Nat} (h : LinO o n L) (ha : a < n) (hb : b < n) : (idxN L a < idxN L b ↔ L.idxOf a < L.idxOf b) ∧ 0 ≤ idxN L a ∧ idxN L a ≤ 100000 ∨ 100000 < n := by
  have h1 := h.mem.2 ha
  have h2 := h.mem.2 hb
  have h3 := List.idxOf_lt_length_iff.2 h1
  have h4 := h.len
  unfold idxN
  rw [if_pos h1, if_pos h2]
  rcases Nat.lt_or_ge 100000 n with h5 | h5
  · exact .inr h5
  · exact .inl ⟨by omega, by omega, by omega⟩
/-- What the skis that are run one after the other show. -/
structure Goes (l : Lb) (N k : Nat) (L : List Nat) (r : Nat) (m : Lb) : Prop where
  ok : m.Ok
  sk : m.skis = l.skis
  err : m.err = l.err
  len : m.runs.length ≤ l.runs.length + r
  lin : LinO m.ord l.n L
  few : planO l.n k m.ord + r ≤ N
theorem Goes.n {l m : Lb} {N k r : Nat} {L : List Nat} (h : Goes l N k L r m) : m.n = l.n := by unfold Lb.n; rw [h.sk]
theorem Goes.noC {l m : Lb} {N k r : Nat} {L : List Nat} (h : Goes l N k L r m) (hl : l.Ok) : NoC m.ord m.n := by rw [h.n]; exact h.lin.noC hl.n8
theorem Goes.next {l m : Lb} {N k r : Nat} {L : List Nat} (h : Goes l N k L r m) (hl : l.Ok) (hr : l.runs.length + r < 40) {x y : Nat} (hx : x < l.n) (hy : y < l.n) (hne : x ≠ y) (hi : L.idxOf x < L.idxOf y) (hp : planO l.n k (withO m.ord x y) + 1 ≤ planO l.n k m.ord) : Goes l N k L (r + 1) (m.add ⟨x, y, m.err + 1⟩) := by
  have h2 := h.len
  have h3 := h.few
  have ho := furt_ord h.ok x y
  refine ⟨furt_ok h.ok (by rw [h.n]; exact hx) (by rw [h.n]; exact hy) hne (by omega), h.sk, h.err, ?_, ?_, ?_⟩
  · show (m.runs ++ [_]).length ≤ _
    rw [List.length_append, List.length_singleton]
    omega
  · rw [ho]
    exact h.lin.with hl.n8 hx hy hi
  · rw [ho]
    omega
theorem own_cap {w0 w : World} {M : Nat → Prop} {H : List Ck} {e sz m n c : Nat} {a : Option Addr} {xs : List Value} (h : Sat w0 M H w) (hc : Ck.ow (.slice a n c) e sz m xs ∈ H) : n ≤ c := by
  have h1 : w.ownsRow 0 e sz (.slice a n c) m xs := h.all _ hc
  rcases h1.2 with ⟨h2, _⟩ | ⟨g, cap, cur, h2, _, _, h3⟩
  · injection h2 with _ h4 h5
    omega
  · injection h2 with _ h4 h5
    omega
/-- Where a part begins. -/
def toA (a : Option Addr) (c : Nat) : Option Addr := if c = 0 then a else a.map (·.add 0)
theorem toA_some {b c : Nat} (hc : 0 < c) : toA (some ⟨b, 0, none⟩) c = some ⟨b, 0, none⟩ := by
  unfold toA
  rw [if_neg (by omega), Option.map_some, Addr.add_lit]
theorem rdI_to {w : World} {lo hi b n c k : Nat} {l : List Int} (h : RdI w lo hi (.slice (some ⟨b, 0, none⟩) n c) l) (hk : k ≤ l.length) (hk1 : 1 ≤ k) (hc : 0 < c) : RdI w lo hi (.slice (toA (some ⟨b, 0, none⟩) c) k c) (l.take k) := by
  rw [toA_some hc]
  have := RdI.part (c2 := c) h (k := 0) (h := k) (m := k) (by omega) hk rfl
  rw [Nat.zero_mul, Nat.add_zero, List.drop_zero] at this
  exact this
section
variable {P : Program} {ro : Cx} {n : Nat} {F : Fin} {w0 : World} {M : Nat → Prop} {ks : List It} {ops : Array Oper} {rest : List Oper} {e : Env} {H Hq : List Ck}
theorem qf_to {d t et sz : Nat} {x lo : Operand} {a : Option Addr} {len cap : Nat} {kl : IntKind} (k : Nat) {ty : TypeId} {pos : String} {af : Array Edge} (hu : P.underlying t = some (.slice et)) (hsz : (P.info? et).map (·.size) = some sz)
    (hx : opv e x = some (.slice a len cap)) (hl : opv e lo = some (.int kl k)) (hd : Nat.blt d n = true) (h1 : k ≤ cap)
    (h : QF P ro n F w0 M ks ops Hq rest ((d, .slice (toA a cap) k cap) :: e) H) : QF P ro n F w0 M ks ops Hq (⟨some d, .slice t x none (some lo) none, ty, pos, af, none⟩ :: rest) e H :=
  qf_sliceTo hu hsz hx hl hd (by omega) (by omega) (by rw [Int.toNat_natCast]; exact h)
end
end Go.Proofs.Ytcmpdmobmbbplaa

/- SkiPlanned. -/
namespace Go.Proofs.Ytcmpdmobmbbplaa
open Go Go.Eng

set_option maxHeartbeats 8000000 in
set_option maxRecDepth 20000 in
theorem skiPlanned_ca (w : World) (a : Option Addr) (nb cb : Nat) (pl a1 a2 : Int) (hpl : 0 ≤ pl ∧ pl < 256) (ha1 : 0 ≤ a1 ∧ a1 < 256) (ha2 : 0 ≤ a2 ∧ a2 < 256) (hbyb1 : DkB w 0 w.heap.size (.slice a nb cb)) :
    Ca Try.prog 9 [.slice a nb cb, .int .u8 pl, .int .u8 a1, .int .u8 a2] w fun r w' => r = .bool true ∧ Chg [] w w' := by
  refine q_of (Sat.nil w M0) Try.func9 rfl (by simp [Try.ntmps9]) ?_
  (refine q_seq (q_region (ql_pure tabOk rfl rfl (q_nil (q_seq (q_region (ql_pure tabOk rfl rfl ?_)))))))
  refine ql_call (β := Nat) tabOk [] _ M0 rfl rfl rfl rfl (Sp.refl _) (fun _ h => h.elim) (fun w' hs => of_ca w' a nb cb) ?_
  rintro b1 _ rfl
  dsimp only [List.cons_append, List.nil_append]
  refine ql_call (β := Value × Value × Lb × List Int) (ψ := fun y v => v = .tuple #[.agg (lbC y.2.2.1 y.1).toArray, y.2.1] ∧ MadeL 5 8 y.2.2.1 y.2.2.2) (L' := fun y => [.ow y.1 33 3 y.2.2.1.runs.length (rnC y.2.2.1.runs), .ow y.2.1 3 1 y.2.2.2.length (ints y.2.2.2), dkP (.slice a nb cb) b1 (0 + 100)]) tabOk [dkP (.slice a nb cb) b1 0] _ (fun x => x = b1) rfl rfl rfl rfl (Sp.cons (by repeat constructor) (Sp.refl _)) (fun x hx => ⟨_, .head _, hx⟩) (fun w' hs => madeK (most := 5) (runs := 8) hbyb1 hs (by omega) (by omega) (by omega) (by omega)) ?_
  rintro ⟨v, rv, ⟨ls, err, runs⟩, real⟩ _ ⟨rfl, hm⟩
  dsimp only [List.cons_append, List.nil_append, lbC] at hm ⊢
  have hok := hm.ok
  have hs2 : 2 ≤ ls := hm.s2
  have hsm : ls ≤ 5 := hm.sm
  have he0 : 0 ≤ err := hok.e0
  have he12 : err ≤ 11 := hm.e12
  have hlen : runs.length ≤ 8 := hm.len
  obtain ⟨sk, rfl⟩ := Int.eq_ofNat_of_zero_le (show 0 ≤ ls by omega)
  have hln : (⟨(sk : Int), err, runs⟩ : Lb).n = sk := by unfold Lb.n; simp
  have hNC := true_noC hok hm.tr
  refine ql_fact (fun w hs => hs.slice2 (v := v) (by repeat constructor)) ?_
  rintro ⟨va, vc, rfl⟩
  refine ql_fact (fun w hs => hs.slice2 (v := rv) (by repeat constructor)) ?_
  rintro ⟨rg, rc, rfl⟩
  (refine ql_pure tabOk rfl rfl (ql_ext tabOk rfl rfl rfl (ql_ext tabOk rfl rfl rfl ?_)))
  refine ql_alloc zero25 rfl (fun b9 => ?_)
  have e1 : IntKind.i64.wrap a1 = a1 := w64 (by omega) (by omega)
  have e2 : IntKind.i64.wrap a2 = a2 := w64 (by omega) (by omega)
  have e0 : IntKind.i64.wrap pl = pl := w64 (by omega) (by omega)
  obtain ⟨kx, hkx, hkx2⟩ := mod_natK hpl.1 (show 0 < sk by omega)
  obtain ⟨x, hx, hx2⟩ := mod_natK ha1.1 (show 0 < sk by omega)
  obtain ⟨y, hy, hy2⟩ := mod_natK ha2.1 (show 0 < sk by omega)
  have hrl2 : real.length = sk := by rw [hm.rl, hln]
  have hrb := hm.rb
  have q0 : 0 ≤ IntKind.i64.wrap pl % (sk : Int) ∧ IntKind.i64.wrap pl % (sk : Int) < sk := by rw [e0, hkx]; omega
  obtain ⟨k, hk⟩ : ∃ k, k = kx + 1 := ⟨_, rfl⟩
  (refine ql_setA tabOk rfl rfl rfl rfl rfl (by repeat constructor) rfl ?_; refine ql_pure tabOk rfl rfl (q_nil (q_seq (q_region ?_))); (iterate 3 refine ql_pure tabOk rfl rfl ?_); refine ql_loadBa tabOk rfl rfl rfl ?_; refine ql_remN rfl rfl rfl (by omega) (by omega) (ql_ar tabOk rfl rfl rfl rfl (by omega) (by omega) (ql_pure tabOk rfl rfl (q_nil (q_seq (q_region ?_))))); refine ql_loadABa tabOk rfl rfl rfl ?_; refine ql_pure tabOk rfl rfl ?_)
  rw [e0, hkx, show (1 : Int) + (kx : Int) = (k : Int) from by omega, hrl2]
  generalize hL : (⟨(sk : Int), err, runs⟩ : Lb) = l at hm hok hln hNC
  have hls : l.skis = (sk : Int) := by rw [← hL]
  have hle : l.err = err := by rw [← hL]
  have hlr : l.runs = runs := by rw [← hL]
  rw [show (Value.agg (List.take 3 (List.drop 0 [Value.int .i64 (sk : Int), .int .i64 err, .slice va runs.length vc])).toArray) = .agg (lbC l (.slice va l.runs.length vc)).toArray from by rw [← hL]; rfl]
  refine ql_conv (H' := [.pt b9 (lbC l (.slice va l.runs.length vc)) 25, un (labOs 33 [(l, va, vc)]), .ow (.slice rg sk rc) 3 1 sk (ints real)]) (fun w' hs => by
    subst hL
    have h1 := (labOs_one (m := ((⟨(sk : Int), err, runs⟩ : Lb), va, vc)) (R := [.pt b9 (lbC (⟨(sk : Int), err, runs⟩ : Lb) (.slice va runs.length vc)) 25, .ow (.slice rg sk rc) 3 1 sk (ints real)]) (hs.sp (by repeat constructor)))
    exact h1.sp (by repeat constructor)) ?_
  have q1 : 0 ≤ IntKind.i64.wrap a1 % l.skis ∧ IntKind.i64.wrap a1 % l.skis < sk := by rw [e1, hls, hx]; omega
  have q2 : 0 ≤ IntKind.i64.wrap a2 % l.skis ∧ IntKind.i64.wrap a2 % l.skis < sk := by rw [e2, hls, hy]; omega
  have hk1 : 1 ≤ k := by omega
  have hk2 : k ≤ sk := by omega
  have hpo : PlanOk l k := ⟨hok, hNC, by omega, by omega, by omega⟩
  rw [hln] at hNC
  obtain ⟨N, hN⟩ : ∃ N : Nat, N = planO sk k l.ord := ⟨_, rfl⟩
  have hN10 : N ≤ 10 := by rw [hN]; exact plan_few (by omega) (by omega) hk2 hok.o hNC
  have hkn : knownO l.ord sk k = decide (N = 0) := by
    have := plan_zero (n := sk) (k := k) (by omega) (by omega) hk2 hok.o hNC
    rw [← hN] at this
    by_cases h0 : N = 0
    · rw [decide_eq_true h0]; exact this.1 h0
    · rw [decide_eq_false h0]; exact Bool.eq_false_iff.2 fun h => h0 (this.2 h)
  obtain ⟨c1, c2, hcc, hcd⟩ : ∃ c1 c2 : Nat, nxC (if planO sk k l.ord = 0 then none else nxV sk k l.ord (nxPairs sk 0)) = [.int .i64 c1, .int .i64 c2, .int .i64 0] ∧ (N ≠ 0 → c1 < c2 ∧ c2 < sk ∧ Und l.ord sk c1 c2 ∧ max (planO sk k (withO l.ord c1 c2)) (planO sk k (withO l.ord c2 c1)) + 1 = N) := by
    rw [← hN]
    by_cases h0 : N = 0
    · exact ⟨0, 0, by rw [if_pos h0]; rfl, fun h => absurd h0 h⟩
    · obtain ⟨a', b', h3, h4, h5, h6, h7⟩ := next_says (n := sk) (k := k) (by omega) (by omega) hk2 hok.o hNC (by rw [← hN]; exact h0)
      exact ⟨a', b', by rw [if_neg h0, h3]; rfl, fun _ => ⟨h4, h5, h6, by rw [h7, hN]⟩⟩
  refine ql_callv (val := .tuple #[.int .i64 N, .int .i64 0]) tabOk rfl rfl rfl rfl (fun w hs => ?_) ?_; exact by have := fewest_ok w 0 w.heap.size l _ k (lab_in hs (m := (l, va, vc)) (by repeat constructor) (by simp)) hpo; rw [hln, ← hN] at this; exact this
  (refine ql_pure tabOk rfl rfl (ql_ext tabOk rfl rfl rfl (ql_ext tabOk rfl rfl rfl (ql_pure tabOk rfl rfl (ql_pure tabOk rfl rfl (q_nil (q_seq (q_region ?_))))))); refine ql_loadABa tabOk rfl rfl rfl ?_; refine ql_pure tabOk rfl rfl ?_)
  refine ql_callv (val := .tuple #[.agg #[.int .i64 c1, .int .i64 c2, .int .i64 0], .int .i64 (if N = 0 then 6 else 0)]) tabOk rfl rfl rfl rfl (fun w hs => ?_) ?_; exact by have := next_ok w 0 w.heap.size l _ k (lab_in hs (m := (l, va, vc)) (by repeat constructor) (by simp)) hpo; rw [hln, hcc, ← hN] at this; exact this
  obtain ⟨er, her⟩ : ∃ er : Int, er = if N = 0 then 6 else 0 := ⟨_, rfl⟩
  rw [← her]
  (refine ql_pure tabOk rfl rfl (ql_ext tabOk rfl rfl rfl (ql_ext tabOk rfl rfl rfl ?_)))
  refine ql_alloc zero33 rfl (fun b14 => ?_)
  (refine ql_setA tabOk rfl rfl rfl rfl rfl (by repeat constructor) rfl ?_; refine ql_pure tabOk rfl rfl (q_nil (q_seq (q_region ?_))); refine ql_loadABa tabOk rfl rfl rfl ?_; refine ql_pure tabOk rfl rfl ?_)
  refine ql_callv (val := .tuple #[.bool (decide (N = 0)), .int .i64 0]) tabOk rfl rfl rfl rfl (fun w hs => ?_) ?_; exact by have := known_ok w 0 w.heap.size l _ k (lab_in hs (m := (l, va, vc)) (by repeat constructor) (by simp)) hok (by rw [hln]; exact hNC) hk1 (by rw [hln]; exact hk2); rw [hln, hkn] at this; exact this
  (refine ql_pure tabOk rfl rfl (ql_ext tabOk rfl rfl rfl (ql_ext tabOk rfl rfl rfl (ql_pure tabOk rfl rfl (ql_pure tabOk rfl rfl (q_nil (q_seq (q_seq ?_))))))))
  refine q_conv (H' := [.pt b9 (lbC l (.slice va l.runs.length vc)) 25, un (labOs 33 [(l, va, vc)]), .ow (.slice rg sk rc) 3 1 sk (ints real), .pt b14 [.int .i64 c1, .int .i64 c2, .int .i64 0] 33]) (fun w' hs => hs.sp (by repeat constructor)) ?_
  have hc2N : N ≠ 0 → c1 < c2 ∧ c2 < sk := fun h => ⟨(hcd h).1, (hcd h).2.1⟩
  refine q_cut (σ := Unit) (fun _ => [(2, .int .u8 a1), (3, .int .u8 a2), (9, .pointer (some ⟨b9, 0, none⟩)), (10, .slice rg sk rc), (11, .int .i64 k), (12, .int .i64 N), (14, .pointer (some ⟨b14, 0, none⟩)), (94, .bool false)]) (fun _ => [.pt b9 (lbC l (.slice va l.runs.length vc)) 25, un (labOs 33 [(l, va, vc)]), .ow (.slice rg sk rc) 3 1 sk (ints real), .pt b14 [.int .i64 c1, .int .i64 c2, .int .i64 0] 33]) ?_ ?_
  rotate_left
  · intro K2 hK2
    have hnb : (decide (N = 0) == decide ((N : Int) = 0)) = true := by
      by_cases h0 : N = 0
      · rw [decide_eq_true h0, decide_eq_true (show (N : Int) = 0 by omega)]; rfl
      · rw [decide_eq_false h0, decide_eq_false (show ¬ (N : Int) = 0 by omega)]; rfl
    (refine q_region (ql_pure tabOk rfl rfl (ql_neqF tabOk rfl rfl rfl (by omega) (ql_pure tabOk rfl rfl (ql_gyes rfl (ql_pure tabOk rfl rfl (ql_gyes rfl (ql_neqF tabOk rfl rfl rfl (by omega) (ql_pure tabOk rfl rfl (ql_pure tabOk rfl rfl (ql_gyes rfl (ql_pure tabOk rfl rfl ?_))))))))))); refine ql_gyes rfl (ql_lssF tabOk rfl rfl rfl (by omega) (ql_pure tabOk rfl rfl (ql_pure tabOk rfl rfl (ql_gyes rfl (ql_pure tabOk rfl rfl (ql_gyes rfl (ql_pure tabOk rfl rfl (ql_gyes rfl (ql_pure tabOk rfl rfl (ql_gyes rfl ?_)))))))))))
    refine ql_neb (by kernel_rfl) rfl rfl rfl ?_
    rw [hnb]
    by_cases h0 : N = 0
    · rw [if_pos h0] at her
      (refine ql_pure tabOk rfl rfl (ql_pure tabOk rfl rfl (ql_gyes rfl (ql_pure tabOk rfl rfl (ql_gyes rfl (ql_eqlF tabOk rfl rfl rfl (by omega) (ql_gyes rfl (ql_pure tabOk rfl rfl (ql_gyes rfl (ql_gtrF tabOk rfl rfl rfl (by omega) (ql_gyes rfl ?_)))))))))))
      refine ql_neb (by kernel_rfl) rfl rfl rfl ?_
      (refine ql_pure tabOk rfl rfl (ql_pure tabOk rfl rfl (ql_gyes rfl (ql_pure tabOk rfl rfl (ql_gyes rfl (ql_neqT tabOk rfl rfl rfl (by omega) (ql_gyes rfl (ql_pure tabOk rfl rfl (ql_gyes rfl (ql_pure tabOk rfl rfl (ql_gyes rfl (ql_neqF tabOk rfl rfl rfl (by omega) ?_))))))))))); refine ql_gyes rfl (ql_pure tabOk rfl rfl (ql_pure tabOk rfl rfl (q_nil ?_))))
      exact hK2 () _ _ ⟨rfl, rfl, rfl, rfl, rfl, rfl, rfl, rfl, trivial⟩ (by repeat constructor)
    · rw [if_neg h0] at her
      (refine ql_pure tabOk rfl rfl (ql_pure tabOk rfl rfl (ql_gyes rfl (ql_pure tabOk rfl rfl (ql_gyes rfl (ql_eqlT tabOk rfl rfl rfl (by omega) (ql_gyes rfl (ql_pure tabOk rfl rfl (ql_gyes rfl (ql_gtrT tabOk rfl rfl rfl (by omega) (ql_gyes rfl ?_)))))))))))
      refine ql_neb (by kernel_rfl) rfl rfl rfl ?_
      (refine ql_pure tabOk rfl rfl (ql_pure tabOk rfl rfl (ql_gyes rfl (ql_pure tabOk rfl rfl (ql_gyes rfl (ql_neqF tabOk rfl rfl rfl (by omega) (ql_gyes rfl (ql_pure tabOk rfl rfl (ql_gno rfl rfl rfl (ql_gno rfl rfl rfl (ql_gyes rfl (ql_pure tabOk rfl rfl ?_))))))))))); refine ql_pure tabOk rfl rfl (q_nil ?_))
      exact hK2 () _ _ ⟨rfl, rfl, rfl, rfl, rfl, rfl, rfl, rfl, trivial⟩ (by repeat constructor)
  intro _
  clear her hkn
  (refine q_cond_false rfl (q_skip (q_seq (q_seq ?_))))
  refine q_draw _ [] (Sp.refl _) (by kernel_rfl) (by kernel_rfl) ?_
  ((iterate 3 refine qf_pure tabOk rfl rfl rfl ?_); refine qf_loadBa tabOk rfl rfl rfl ?_; refine qf_remN rfl rfl rfl (by omega) (by omega) ?_; (iterate 3 refine qf_pure tabOk rfl rfl rfl ?_); refine qf_loadBa tabOk rfl rfl rfl ?_; refine qf_remN rfl rfl rfl (by omega) (by omega) (qf_pure tabOk rfl rfl rfl (qf_pure tabOk rfl rfl rfl (qf_nil (q_seq (q_region ?_))))); (iterate 3 refine ql_pure tabOk rfl rfl ?_); refine q_nil ?_)
  rw [hls, e1, hx, e2, hy]
  refine q_cut (σ := Unit) (fun _ => [(9, .pointer (some ⟨b9, 0, none⟩)), (10, .slice rg sk rc), (11, .int .i64 k), (12, .int .i64 N), (14, .pointer (some ⟨b14, 0, none⟩))]) (fun _ => [.pt b9 (lbC l (.slice va l.runs.length vc)) 25, un (labOs 33 [(l, va, vc)]), .ow (.slice rg sk rc) 3 1 sk (ints real), .pt b14 [.int .i64 c1, .int .i64 c2, .int .i64 0] 33]) ?_ ?_
  rotate_left
  · intro K2 hK2
    by_cases hxy : x = y
    · rw [decide_eq_true (show (x : Int) = (y : Int) by omega)]
      (refine q_cond_false rfl (q_skip ?_))
      exact hK2 () _ _ ⟨rfl, rfl, rfl, rfl, rfl, trivial⟩ (by repeat constructor)
    · rw [decide_eq_false (show ¬ (x : Int) = (y : Int) by omega)]
      obtain ⟨w1, w2, w3⟩ := worth_says (n := sk) (k := k) (by omega) (by omega) hk2 hok.o hNC hx2 hy2 hxy
      rw [← hN] at w1 w2
      have w4 := worthV_comm sk k l.ord x y
      (refine q_cond_true rfl (q_seq (q_region ?_)); refine ql_loadABa tabOk rfl rfl rfl ?_; (iterate 3 refine ql_pure tabOk rfl rfl ?_))
      refine ql_callv (val := .tuple #[.int .i64 (worthV sk k l.ord x y), .int .i64 0]) tabOk rfl rfl rfl rfl (fun w hs => ?_) ?_; exact by have := worthP_ok w 0 w.heap.size l _ k x y (lab_in hs (m := (l, va, vc)) (by repeat constructor) (by simp)) hpo (by omega) (by omega) hxy; rw [hln] at this; exact this
      (refine ql_pure tabOk rfl rfl (ql_ext tabOk rfl rfl rfl (ql_ext tabOk rfl rfl rfl (ql_pure tabOk rfl rfl (ql_pure tabOk rfl rfl (q_nil (q_seq (q_region ?_))))))); refine ql_loadABa tabOk rfl rfl rfl ?_; (iterate 3 refine ql_pure tabOk rfl rfl ?_))
      refine ql_callv (val := .tuple #[.int .i64 (worthV sk k l.ord x y), .int .i64 0]) tabOk rfl rfl rfl rfl (fun w hs => ?_) ?_; exact by have := worthP_ok w 0 w.heap.size l _ k y x (lab_in hs (m := (l, va, vc)) (by repeat constructor) (by simp)) hpo (by omega) (by omega) (Ne.symm hxy); rw [hln, ← w4] at this; exact this
      clear w4
      generalize worthV sk k l.ord x y = wv at w1 w2 w3 ⊢
      by_cases h0 : N = 0
      · have w5 := w2 h0
        (refine ql_pure tabOk rfl rfl (ql_ext tabOk rfl rfl rfl (ql_ext tabOk rfl rfl rfl (ql_pure tabOk rfl rfl (ql_pure tabOk rfl rfl (q_nil (q_seq (q_region (ql_pure tabOk rfl rfl (ql_neqF tabOk rfl rfl rfl (by omega) (ql_pure tabOk rfl rfl (ql_gyes rfl ?_))))))))))); refine ql_pure tabOk rfl rfl (ql_gyes rfl (ql_neqF tabOk rfl rfl rfl (by omega) (ql_pure tabOk rfl rfl (ql_pure tabOk rfl rfl (ql_gyes rfl (ql_pure tabOk rfl rfl (ql_gyes rfl (ql_pure tabOk rfl rfl (ql_gyes rfl (ql_neqF tabOk rfl rfl rfl (by omega) (ql_pure tabOk rfl rfl ?_))))))))))); refine ql_pure tabOk rfl rfl (ql_gyes rfl (ql_pure tabOk rfl rfl (ql_gyes rfl (ql_gtrF tabOk rfl rfl rfl (by omega) (ql_gyes rfl (ql_pure tabOk rfl rfl ?_)))))); (iterate 3 refine ql_gno rfl rfl rfl ?_); refine ql_gyes rfl ?_; (iterate 3 refine ql_pure tabOk rfl rfl ?_); refine ql_gyes rfl (ql_pure tabOk rfl rfl (ql_gyes rfl (ql_eqlT tabOk rfl rfl rfl (by omega) (ql_gyes rfl (ql_pure tabOk rfl rfl (ql_gyes rfl (ql_pure tabOk rfl rfl (ql_gyes rfl (ql_neqF tabOk rfl rfl rfl (by omega) (ql_gyes rfl (ql_pure tabOk rfl rfl ?_))))))))))); refine ql_pure tabOk rfl rfl (q_nil (q_cond_false rfl (q_skip ?_))))
        exact hK2 () _ _ ⟨rfl, rfl, rfl, rfl, rfl, trivial⟩ (by repeat constructor)
      · (refine ql_pure tabOk rfl rfl (ql_ext tabOk rfl rfl rfl (ql_ext tabOk rfl rfl rfl (ql_pure tabOk rfl rfl (ql_pure tabOk rfl rfl (q_nil (q_seq (q_region (ql_pure tabOk rfl rfl (ql_neqF tabOk rfl rfl rfl (by omega) (ql_pure tabOk rfl rfl (ql_gyes rfl ?_))))))))))); refine ql_pure tabOk rfl rfl (ql_gyes rfl (ql_neqF tabOk rfl rfl rfl (by omega) (ql_pure tabOk rfl rfl (ql_pure tabOk rfl rfl (ql_gyes rfl (ql_pure tabOk rfl rfl (ql_gyes rfl (ql_pure tabOk rfl rfl (ql_gyes rfl (ql_neqF tabOk rfl rfl rfl (by omega) (ql_pure tabOk rfl rfl ?_))))))))))); refine ql_pure tabOk rfl rfl (ql_gyes rfl (ql_pure tabOk rfl rfl (ql_gyes rfl (ql_gtrT tabOk rfl rfl rfl (by omega) (ql_gyes rfl (ql_pure tabOk rfl rfl (ql_gyes rfl (ql_pure tabOk rfl rfl (ql_gyes rfl (ql_pure tabOk rfl rfl (ql_gyes rfl ?_))))))))))); refine ql_lssF tabOk rfl rfl rfl (by omega) (ql_gyes rfl ?_); (iterate 3 refine ql_pure tabOk rfl rfl ?_); refine ql_gyes rfl (ql_pure tabOk rfl rfl (ql_gyes rfl (ql_eqlF tabOk rfl rfl rfl (by omega) (ql_gyes rfl (ql_pure tabOk rfl rfl (ql_gno rfl rfl rfl (ql_gno rfl rfl rfl (ql_gyes rfl (ql_pure tabOk rfl rfl (ql_pure tabOk rfl rfl (q_nil ?_))))))))))); refine q_cond_false rfl (q_skip ?_))
        exact hK2 () _ _ ⟨rfl, rfl, rfl, rfl, rfl, trivial⟩ (by repeat constructor)
  intro _
  (refine q_seq (q_seq (q_region (ql_pure tabOk rfl rfl (ql_pure tabOk rfl rfl (q_nil ?_))))))
  refine q_cut (σ := Unit) (fun _ => [(9, .pointer (some ⟨b9, 0, none⟩)), (10, .slice rg sk rc), (11, .int .i64 k), (12, .int .i64 N)]) (fun _ => [.pt b9 (lbC l (.slice va l.runs.length vc)) 25, un (labOs 33 [(l, va, vc)]), .ow (.slice rg sk rc) 3 1 sk (ints real)]) ?_ ?_
  rotate_left
  · intro K2 hK2
    by_cases h0 : N = 0
    · rw [decide_eq_false (show ¬ (0 : Int) < (N : Int) by omega)]
      (refine q_cond_false rfl (q_skip ?_))
      exact hK2 () _ _ ⟨rfl, rfl, rfl, rfl, trivial⟩ (by repeat constructor)
    · rw [decide_eq_true (show (0 : Int) < (N : Int) by omega)]
      obtain ⟨h12, h2s, hU, hmx⟩ := hcd h0
      have okA := furt_ok hok (x := c1) (y := c2) (by omega) (by omega) (by omega) (by rw [hlr]; omega)
      have okB := furt_ok hok (x := c2) (y := c1) (by omega) (by omega) (by omega) (by rw [hlr]; omega)
      have pA : PlanOk (l.add ⟨c1, c2, l.err + 1⟩) k := ⟨okA, by rw [show (l.add ⟨c1, c2, l.err + 1⟩).n = sk from hln, furt_ord hok]; exact hNC.with hU, by omega, by show (k : Int) ≤ l.skis; omega, by show l.skis ≤ 5; omega⟩
      have pB : PlanOk (l.add ⟨c2, c1, l.err + 1⟩) k := ⟨okB, by rw [show (l.add ⟨c2, c1, l.err + 1⟩).n = sk from hln, furt_ord hok]; exact hNC.with hU.swap, by omega, by show (k : Int) ≤ l.skis; omega, by show l.skis ≤ 5; omega⟩
      (refine q_cond_true rfl (q_seq (q_seq (q_region (ql_pure tabOk rfl rfl ?_)))); refine ql_loadBa tabOk rfl rfl rfl ?_; refine ql_lssF tabOk rfl rfl rfl (by omega) (ql_pure tabOk rfl rfl (ql_gyes rfl (ql_pure tabOk rfl rfl (ql_gyes rfl ?_)))); refine ql_loadBa tabOk rfl rfl rfl ?_; refine ql_gyes rfl (ql_pure tabOk rfl rfl (ql_gyes rfl ?_)); refine ql_loadBa tabOk rfl rfl rfl ?_; refine ql_gyes rfl (ql_geqF tabOk rfl rfl rfl (by omega) (ql_pure tabOk rfl rfl (ql_pure tabOk rfl rfl (ql_gyes rfl (ql_pure tabOk rfl rfl (ql_gyes rfl ?_)))))); refine ql_loadBa tabOk rfl rfl rfl ?_; refine ql_gyes rfl (ql_pure tabOk rfl rfl (ql_gyes rfl ?_)); refine ql_loadBa tabOk rfl rfl rfl ?_; refine ql_gyes rfl (ql_geqF tabOk rfl rfl rfl (by omega) (ql_pure tabOk rfl rfl (q_nil (q_cond_false rfl (q_skip (q_seq (q_region ?_))))))); refine ql_loadABa tabOk rfl rfl rfl ?_; refine ql_pure tabOk rfl rfl ?_; refine ql_loadBa tabOk rfl rfl rfl ?_; refine ql_pure tabOk rfl rfl ?_; refine ql_loadBa tabOk rfl rfl rfl ?_)
      refine ql_call (β := Value) tabOk [] _ M0 rfl rfl rfl rfl (Sp.refl _) (fun _ h => h.elim) (fun w' hs => further_ca w' 0 w'.heap.size l (.slice va l.runs.length vc) c1 c2 (lab_in hs (m := (l, va, vc)) (by repeat constructor) (by simp)) (by rw [hlr]; omega) (by omega)) ?_
      rintro uc1 _ rfl
      dsimp only [List.cons_append, List.nil_append]
      (refine ql_pure tabOk rfl rfl ?_)
      refine ql_callv (val := .tuple #[.int .i64 (planO sk k (withO l.ord c1 c2)), .int .i64 0]) tabOk rfl rfl rfl rfl (fun w hs => ?_) ?_; exact by have := fewest_ok w 0 w.heap.size (l.add ⟨c1, c2, l.err + 1⟩) _ k (runs_rdK hs (v := uc1) (t := 33) (l := (l.add ⟨c1, c2, l.err + 1⟩).runs) (by repeat constructor) rfl) pA; rw [show (l.add ⟨c1, c2, l.err + 1⟩).n = sk from hln, furt_ord hok] at this; exact this
      (refine ql_pure tabOk rfl rfl (ql_ext tabOk rfl rfl rfl (ql_ext tabOk rfl rfl rfl (ql_pure tabOk rfl rfl (ql_pure tabOk rfl rfl (q_nil (q_seq (q_region ?_))))))); refine ql_loadABa tabOk rfl rfl rfl ?_; refine ql_pure tabOk rfl rfl ?_; refine ql_loadBa tabOk rfl rfl rfl ?_; refine ql_pure tabOk rfl rfl ?_; refine ql_loadBa tabOk rfl rfl rfl ?_)
      refine ql_call (β := Value) tabOk [] _ M0 rfl rfl rfl rfl (Sp.refl _) (fun _ h => h.elim) (fun w' hs => further_ca w' 0 w'.heap.size l (.slice va l.runs.length vc) c2 c1 (lab_in hs (m := (l, va, vc)) (by repeat constructor) (by simp)) (by rw [hlr]; omega) (by omega)) ?_
      rintro uc2 _ rfl
      dsimp only [List.cons_append, List.nil_append]
      (refine ql_pure tabOk rfl rfl ?_)
      refine ql_callv (val := .tuple #[.int .i64 (planO sk k (withO l.ord c2 c1)), .int .i64 0]) tabOk rfl rfl rfl rfl (fun w hs => ?_) ?_; exact by have := fewest_ok w 0 w.heap.size (l.add ⟨c2, c1, l.err + 1⟩) _ k (runs_rdK hs (v := uc2) (t := 33) (l := (l.add ⟨c2, c1, l.err + 1⟩).runs) (by repeat constructor) rfl) pB; rw [show (l.add ⟨c2, c1, l.err + 1⟩).n = sk from hln, furt_ord hok] at this; exact this
      generalize planO sk k (withO l.ord c1 c2) = pa at hmx ⊢
      generalize planO sk k (withO l.ord c2 c1) = pb at hmx ⊢
      (refine ql_pure tabOk rfl rfl (ql_ext tabOk rfl rfl rfl (ql_ext tabOk rfl rfl rfl (ql_pure tabOk rfl rfl (ql_pure tabOk rfl rfl (q_nil (q_seq (q_region (ql_pure tabOk rfl rfl (ql_neqF tabOk rfl rfl rfl (by omega) (ql_pure tabOk rfl rfl (ql_gyes rfl ?_))))))))))); refine ql_pure tabOk rfl rfl (ql_gyes rfl (ql_neqF tabOk rfl rfl rfl (by omega) (ql_pure tabOk rfl rfl (ql_pure tabOk rfl rfl (ql_gyes rfl (ql_pure tabOk rfl rfl (ql_gyes rfl (ql_pure tabOk rfl rfl (ql_gyes rfl (ql_pure tabOk rfl rfl (ql_gyes rfl ?_))))))))))); refine ql_pure tabOk rfl rfl (ql_gyes rfl (ql_ar tabOk rfl rfl rfl rfl (by omega) (by omega) (ql_gyes rfl (ql_neqF tabOk rfl rfl rfl (by omega) (ql_pure tabOk rfl rfl (q_nil (q_cond_false rfl (q_skip ?_)))))))))
      exact hK2 () _ _ ⟨rfl, rfl, rfl, rfl, trivial⟩ (by repeat constructor)
  intro _
  (refine q_seq (q_seq (q_region (ql_pure tabOk rfl rfl (ql_pure tabOk rfl rfl ?_)))); refine ql_loadBa tabOk rfl rfl rfl ?_; refine ql_pure tabOk rfl rfl (q_nil ?_))
  rw [hls]
  refine q_cut (σ := Unit) (fun _ => [(9, .pointer (some ⟨b9, 0, none⟩)), (10, .slice rg sk rc), (11, .int .i64 k), (12, .int .i64 N)]) (fun _ => [.pt b9 (lbC l (.slice va l.runs.length vc)) 25, un (labOs 33 [(l, va, vc)]), .ow (.slice rg sk rc) 3 1 sk (ints real)]) ?_ ?_
  rotate_left
  · intro K2 hK2
    by_cases hks : k = sk
    · rw [decide_eq_true (show (k : Int) = (sk : Int) by omega)]
      have hcp := cnt_plan (n := sk) (by omega) (by omega) _ l.ord (Nat.le_refl _) hok.o hNC
      have hNe : planO sk sk l.ord = N := by rw [hN, hks]
      rw [hNe] at hcp
      have hp2 : (2 : Nat) ^ N ≤ 1024 := by have := Nat.pow_le_pow_right (show 0 < 2 by omega) hN10; simpa using this
      obtain ⟨cn, hcn⟩ : ∃ cn, cn = cnt l.ord sk (2 ^ sk - 1) := ⟨_, rfl⟩
      rw [← hcn] at hcp
      obtain ⟨pk, hpk⟩ : ∃ p, p = 2 ^ N := ⟨_, rfl⟩
      have sh2 : (1 : Int) * 2 ^ (N : Int).toNat = (pk : Int) := by rw [hpk, Int.toNat_natCast, Int.one_mul]; norm_cast
      rw [← hpk] at hcp hp2
      (refine q_cond_true rfl (q_seq (q_region ?_)); refine ql_loadABa tabOk rfl rfl rfl ?_)
      refine ql_callv (val := .tuple #[.int .i64 cn, .int .i64 0]) tabOk rfl rfl rfl rfl (fun w hs => ?_) ?_; exact by have := orders_ok w 0 w.heap.size l _ (lab_in hs (m := (l, va, vc)) (by repeat constructor) (by simp)) hok (by rw [hln]; exact hNC); rw [hln, ← hcn] at this; exact this
      (refine ql_pure tabOk rfl rfl (ql_ext tabOk rfl rfl rfl (ql_ext tabOk rfl rfl rfl (ql_pure tabOk rfl rfl (ql_pure tabOk rfl rfl (q_nil (q_seq (q_region (ql_pure tabOk rfl rfl (ql_neqF tabOk rfl rfl rfl (by omega) (ql_pure tabOk rfl rfl (ql_gyes rfl ?_))))))))))); refine ql_pure tabOk rfl rfl (ql_gyes rfl (ql_gtrF tabOk rfl rfl rfl (by omega) (ql_pure tabOk rfl rfl (ql_pure tabOk rfl rfl (ql_gyes rfl (ql_pure tabOk rfl rfl (ql_gyes rfl (ql_pure tabOk rfl rfl (ql_gyes rfl ?_))))))))))
      refine ql_shl rfl rfl rfl (by omega) (by rw [sh2]; omega) (by rw [sh2]; omega) ?_
      rw [sh2]
      (refine ql_gyes rfl (ql_gtrF tabOk rfl rfl rfl (by omega) (ql_pure tabOk rfl rfl (q_nil (q_cond_false rfl (q_skip ?_))))))
      exact hK2 () _ _ ⟨rfl, rfl, rfl, rfl, trivial⟩ (by repeat constructor)
    · rw [decide_eq_false (show ¬ (k : Int) = (sk : Int) by omega)]
      (refine q_cond_false rfl (q_skip ?_))
      exact hK2 () _ _ ⟨rfl, rfl, rfl, rfl, trivial⟩ (by repeat constructor)
  intro _
  clear hcd hc2N hcc
  have hLin := rank_lin hok hm.tr (by rw [hrl2, hln])
  rw [hln] at hLin
  have hRC := rank_chI real
  (refine q_seq (q_region (ql_pure tabOk rfl rfl ?_)))
  refine ql_call (β := Value) tabOk [] _ M0 rfl rfl rfl rfl (Sp.refl _) (fun _ h => h.elim) (fun w' hs => ranked_ca w' 0 w'.heap.size _ real (own_rdI (t := 3) (hs.mem (c := .ow (.slice rg sk rc) 3 1 sk (ints real)) (by repeat constructor)) hrl2.symm) (by omega) (by omega) (fun x hx => by have := hrb x hx; omega)) ?_
  rintro _ v30 rfl
  dsimp only [List.cons_append, List.nil_append]
  rw [hrl2, ← hRC]
  generalize (rankL real).map Int.toNat = Lr at hLin ⊢
  refine ql_fact (fun w hs => hs.ownSome (v := v30) (by repeat constructor) (by omega)) ?_
  rintro ⟨g30, c30, rfl⟩
  refine ql_fact (fun w hs => own_cap hs (c := c30) (n := sk) (a := some ⟨g30, 0, none⟩) (by repeat constructor)) ?_
  intro hcap30
  (refine ql_pure tabOk rfl rfl (q_nil (q_seq (q_seq (q_region (ql_pure tabOk rfl rfl (ql_pure tabOk rfl rfl (q_nil ?_))))))))
  refine q_conv (H' := [.pt b9 (lbC l (.slice va l.runs.length vc)) 25, un (labOs 33 [(l, va, vc)]), .ow (.slice (some ⟨g30, 0, none⟩) sk c30) 3 1 sk (ints (chI Lr))]) (fun w' hs => hs.sp (by repeat constructor)) ?_
  refine q_cut (σ := {z : List LbM × LbM // z.2 ∈ z.1 ∧ ∃ r, r ≤ N ∧ Goes l N k Lr r z.2.1 ∧ planO sk k z.2.1.ord = 0}) (fun z => [(9, .pointer (some ⟨b9, 0, none⟩)), (11, .int .i64 k), (30, .slice (some ⟨g30, 0, none⟩) sk c30)]) (fun z => [.pt b9 (lbC z.1.2.1 (slV z.1.2)) 25, un (labOs 33 z.1.1), .ow (.slice (some ⟨g30, 0, none⟩) sk c30) 3 1 sk (ints (chI Lr))]) ?_ ?_
  rotate_left
  · intro KC hKC
    (refine q_block ?_)
    refine q_loop (σ := Nat × List LbM × LbM) (fun s => s.1 ≤ N ∧ s.2.2 ∈ s.2.1 ∧ Goes l N k Lr s.1 s.2.2.1) (fun s => N - s.1) (fun s => [(9, .pointer (some ⟨b9, 0, none⟩)), (11, .int .i64 k), (30, .slice (some ⟨g30, 0, none⟩) sk c30), (230, .int .i64 N), (231, .int .i64 s.1)]) (fun s => [.pt b9 (lbC s.2.2.1 (slV s.2.2)) 25, un (labOs 33 s.2.1), .ow (.slice (some ⟨g30, 0, none⟩) sk c30) 3 1 sk (ints (chI Lr))]) (0, [(l, va, vc)], (l, va, vc)) ⟨by simp, by simp, ⟨hok, rfl, rfl, by simp, by rw [hln]; exact hLin, by rw [hln]; simp only; omega⟩⟩ ⟨rfl, rfl, rfl, rfl, rfl, trivial⟩ (by repeat constructor) ?_
    rintro ⟨r, M, m⟩ ⟨hr, hmM, hg⟩ K hK
    dsimp only at hr hmM hg ⊢
    have hgn := hg.n
    have hgs := hg.sk
    have hge := hg.err
    have hgl := hg.len
    have hgf := hg.few
    have hgo := hg.ok
    have hgc := hg.noC hok
    have hgi := hg.lin
    rw [hln] at hgn hgf hgi
    rw [hls] at hgs
    rw [hgn] at hgc
    rw [hlr] at hgl
    (refine q_seq (q_region (ql_pure tabOk rfl rfl (q_nil (q_seq ?_)))))
    refine q_if rfl (fun hc => ?_) (fun hc => ?_)
    · have hr2 : r < N := by omega
      clear hc
      have hpm : PlanOk m.1 k := ⟨hgo, by rw [hgn]; exact hgc, by omega, by omega, by omega⟩
      by_cases hz : planO sk k m.1.ord = 0
      · (refine q_skip (q_seq (q_block (q_seq (q_region ?_)))); refine ql_loadABa tabOk rfl rfl rfl ?_; refine ql_pure tabOk rfl rfl ?_)
        refine ql_callv (val := .tuple #[.agg #[.int .i64 0, .int .i64 0, .int .i64 0], .int .i64 6]) tabOk rfl rfl rfl rfl (fun w hs => ?_) ?_; exact by have := next_ok w 0 w.heap.size m.1 (slV m) k (lab_in hs (by repeat constructor) hmM) hpm; rw [hgn, if_pos hz, if_pos hz] at this; exact this
        (refine ql_pure tabOk rfl rfl (ql_ext tabOk rfl rfl rfl (ql_ext tabOk rfl rfl rfl ?_)))
        refine ql_alloc zero33 rfl (fun b31 => ?_)
        (refine ql_setA tabOk rfl rfl rfl rfl rfl (by repeat constructor) rfl ?_; refine ql_pure tabOk rfl rfl (q_nil (q_seq (q_seq (q_region (ql_pure tabOk rfl rfl (ql_eqlT tabOk rfl rfl rfl (by omega) (q_nil (q_cond_true rfl (q_exit _ rfl ?_))))))))))
        exact hKC ⟨(M, m), hmM, r, hr, hg, hz⟩ _ _ ⟨rfl, rfl, rfl, trivial⟩ (by repeat constructor)
      · obtain ⟨a', b', hnx, hab, hbs, hU, hmx⟩ := next_says (n := sk) (k := k) (by omega) (by omega) hk2 hgo.o hgc hz
        (refine q_skip (q_seq (q_block (q_seq (q_region ?_)))); refine ql_loadABa tabOk rfl rfl rfl ?_; refine ql_pure tabOk rfl rfl ?_)
        refine ql_callv (val := .tuple #[.agg #[.int .i64 a', .int .i64 b', .int .i64 0], .int .i64 0]) tabOk rfl rfl rfl rfl (fun w hs => ?_) ?_; exact by have := next_ok w 0 w.heap.size m.1 (slV m) k (lab_in hs (by repeat constructor) hmM) hpm; rw [hgn, if_neg hz, if_neg hz, hnx] at this; exact this
        (refine ql_pure tabOk rfl rfl (ql_ext tabOk rfl rfl rfl (ql_ext tabOk rfl rfl rfl ?_)))
        refine ql_alloc zero33 rfl (fun b31 => ?_)
        (refine ql_setA tabOk rfl rfl rfl rfl rfl (by repeat constructor) rfl ?_; refine ql_pure tabOk rfl rfl (q_nil (q_seq (q_seq (q_region (ql_pure tabOk rfl rfl (ql_eqlF tabOk rfl rfl rfl (by omega) (q_nil (q_cond_false rfl (q_skip (q_seq (q_seq ?_))))))))))); refine q_region (ql_pure tabOk rfl rfl (ql_neqF tabOk rfl rfl rfl (by omega) (ql_pure tabOk rfl rfl (ql_gyes rfl (ql_pure tabOk rfl rfl (ql_gyes rfl ?_)))))); refine ql_loadBa tabOk rfl rfl rfl ?_; refine ql_gyes rfl (ql_lssF tabOk rfl rfl rfl (by omega) (ql_pure tabOk rfl rfl (ql_pure tabOk rfl rfl (ql_gyes rfl (ql_pure tabOk rfl rfl (ql_gyes rfl ?_)))))); refine ql_loadBa tabOk rfl rfl rfl ?_; refine ql_gyes rfl (ql_pure tabOk rfl rfl (ql_gyes rfl ?_)); refine ql_loadBa tabOk rfl rfl rfl ?_; refine ql_gyes rfl (ql_geqF tabOk rfl rfl rfl (by omega) (ql_pure tabOk rfl rfl (ql_pure tabOk rfl rfl (ql_gyes rfl (ql_pure tabOk rfl rfl (ql_gyes rfl ?_)))))); refine ql_loadBa tabOk rfl rfl rfl ?_; refine ql_gyes rfl (ql_pure tabOk rfl rfl (ql_gyes rfl ?_)); refine ql_loadBa tabOk rfl rfl rfl ?_; refine ql_gyes rfl (ql_geqF tabOk rfl rfl rfl (by omega) (ql_pure tabOk rfl rfl (q_nil (q_cond_false rfl (q_skip (q_seq ?_)))))))
        refine q_draw _ [] (Sp.refl _) (by kernel_rfl) (by kernel_rfl) ?_
        (refine qf_pure tabOk rfl rfl rfl (qf_pure tabOk rfl rfl rfl ?_); refine qf_loadBa tabOk rfl rfl rfl ?_)
        refine qf_callv (val := .int .i64 (idxN Lr a')) tabOk rfl rfl rfl rfl (fun w hs => ?_) ?_; exact indexN_ca w 0 w.heap.size _ Lr a' (own_rdI (t := 3) (hs.mem (c := .ow (.slice (some ⟨g30, 0, none⟩) sk c30) 3 1 sk (ints (chI Lr))) (by repeat constructor)) (by rw [chI_len]; exact hgi.len.symm)) (by rw [hgi.len]; omega)
        (refine qf_pure tabOk rfl rfl rfl (qf_pure tabOk rfl rfl rfl ?_); refine qf_loadBa tabOk rfl rfl rfl ?_)
        refine qf_callv (val := .int .i64 (idxN Lr b')) tabOk rfl rfl rfl rfl (fun w hs => ?_) ?_; exact indexN_ca w 0 w.heap.size _ Lr b' (own_rdI (t := 3) (hs.mem (c := .ow (.slice (some ⟨g30, 0, none⟩) sk c30) 3 1 sk (ints (chI Lr))) (by repeat constructor)) (by rw [chI_len]; exact hgi.len.symm)) (by rw [hgi.len]; omega)
        have hix := (idx_lt hgi (a := a') (b := b') (by omega) (by omega)).resolve_right (by omega)
        have hne := idx_ne hgi (x := a') (y := b') (by omega) (by omega)
        by_cases hlt : Lr.idxOf a' < Lr.idxOf b'
        · have hq := hix.1.2 hlt
          have hnx2 := hg.next hok (by rw [hlr]; omega) (x := a') (y := b') (by omega) (by omega) (by omega) hlt (by rw [hln]; omega)
          (refine qf_lssT tabOk rfl rfl rfl (by omega) (qf_nil (q_cond_true rfl (q_region ?_))); refine ql_loadABa tabOk rfl rfl rfl ?_; refine ql_pure tabOk rfl rfl ?_; refine ql_loadBa tabOk rfl rfl rfl ?_; refine ql_pure tabOk rfl rfl ?_; refine ql_loadBa tabOk rfl rfl rfl ?_)
          refine ql_call (β := Value) tabOk [] _ M0 rfl rfl rfl rfl (Sp.refl _) (fun _ h => h.elim) (fun w' hs => further_ca w' 0 w'.heap.size m.1 (slV m) a' b' (lab_in hs (by repeat constructor) hmM) (by omega) (by omega)) ?_
          rintro u _ rfl
          dsimp only [List.cons_append, List.nil_append]
          refine ql_fact (fun w hs => hs.slice2 (v := u) (by repeat constructor)) ?_
          rintro ⟨pu, qu, rfl⟩
          (refine ql_setA tabOk rfl rfl rfl rfl rfl (by repeat constructor) rfl ?_; refine q_nil (q_blk (q_region (ql_ar tabOk rfl rfl rfl rfl (by omega) (by omega) (ql_pure tabOk rfl rfl (q_nil ?_))))))
          refine q_conv (H' := [.pt b9 (lbC (m.1.add ⟨a', b', m.1.err + 1⟩, pu, qu).1 (slV (m.1.add ⟨a', b', m.1.err + 1⟩, pu, qu))) 25, un (labOs 33 (M ++ [(m.1.add ⟨a', b', m.1.err + 1⟩, pu, qu)])), .ow (.slice (some ⟨g30, 0, none⟩) sk c30) 3 1 sk (ints (chI Lr))]) (fun w' hs => (labOs_add (m := (m.1.add ⟨a', b', m.1.err + 1⟩, pu, qu)) (M := M) (R := [.pt b9 (lbC (m.1.add ⟨a', b', m.1.err + 1⟩, pu, qu).1 (slV (m.1.add ⟨a', b', m.1.err + 1⟩, pu, qu))) 25, .ow (.slice (some ⟨g30, 0, none⟩) sk c30) 3 1 sk (ints (chI Lr))]) (hs.sp (by repeat constructor))).sp (by repeat constructor)) ?_
          exact hK (r + 1, M ++ [(m.1.add ⟨a', b', m.1.err + 1⟩, pu, qu)], (m.1.add ⟨a', b', m.1.err + 1⟩, pu, qu)) _ _ ⟨by simp only; omega, by simp, hnx2⟩ (by simp only; omega) ⟨rfl, rfl, rfl, rfl, rfl, trivial⟩ (by repeat constructor)
        · have hq : ¬ idxN Lr a' < idxN Lr b' := fun h => hlt (hix.1.1 h)
          have hnx2 := hg.next hok (by rw [hlr]; omega) (x := b') (y := a') (by omega) (by omega) (by omega) (by omega) (by rw [hln]; omega)
          (refine qf_lssF tabOk rfl rfl rfl (by omega) (qf_nil (q_cond_false rfl (q_region ?_))); refine ql_loadABa tabOk rfl rfl rfl ?_; refine ql_pure tabOk rfl rfl ?_; refine ql_loadBa tabOk rfl rfl rfl ?_; refine ql_pure tabOk rfl rfl ?_; refine ql_loadBa tabOk rfl rfl rfl ?_)
          refine ql_call (β := Value) tabOk [] _ M0 rfl rfl rfl rfl (Sp.refl _) (fun _ h => h.elim) (fun w' hs => further_ca w' 0 w'.heap.size m.1 (slV m) b' a' (lab_in hs (by repeat constructor) hmM) (by omega) (by omega)) ?_
          rintro u _ rfl
          dsimp only [List.cons_append, List.nil_append]
          refine ql_fact (fun w hs => hs.slice2 (v := u) (by repeat constructor)) ?_
          rintro ⟨pu, qu, rfl⟩
          (refine ql_setA tabOk rfl rfl rfl rfl rfl (by repeat constructor) rfl ?_; refine q_nil (q_blk (q_region (ql_ar tabOk rfl rfl rfl rfl (by omega) (by omega) (ql_pure tabOk rfl rfl (q_nil ?_))))))
          refine q_conv (H' := [.pt b9 (lbC (m.1.add ⟨b', a', m.1.err + 1⟩, pu, qu).1 (slV (m.1.add ⟨b', a', m.1.err + 1⟩, pu, qu))) 25, un (labOs 33 (M ++ [(m.1.add ⟨b', a', m.1.err + 1⟩, pu, qu)])), .ow (.slice (some ⟨g30, 0, none⟩) sk c30) 3 1 sk (ints (chI Lr))]) (fun w' hs => (labOs_add (m := (m.1.add ⟨b', a', m.1.err + 1⟩, pu, qu)) (M := M) (R := [.pt b9 (lbC (m.1.add ⟨b', a', m.1.err + 1⟩, pu, qu).1 (slV (m.1.add ⟨b', a', m.1.err + 1⟩, pu, qu))) 25, .ow (.slice (some ⟨g30, 0, none⟩) sk c30) 3 1 sk (ints (chI Lr))]) (hs.sp (by repeat constructor))).sp (by repeat constructor)) ?_
          exact hK (r + 1, M ++ [(m.1.add ⟨b', a', m.1.err + 1⟩, pu, qu)], (m.1.add ⟨b', a', m.1.err + 1⟩, pu, qu)) _ _ ⟨by simp only; omega, by simp, hnx2⟩ (by simp only; omega) ⟨rfl, rfl, rfl, rfl, rfl, trivial⟩ (by repeat constructor)
    · obtain rfl : r = N := by omega
      (refine q_exit _ rfl ?_)
      exact hKC ⟨(M, m), hmM, r, hr, hg, by show planO sk k m.1.ord = 0; omega⟩ _ _ ⟨rfl, rfl, rfl, trivial⟩ (by repeat constructor)
  rintro ⟨⟨M, m⟩, hmM, r, hr, hg, hz⟩
  dsimp only at hmM hg hz ⊢
  have hgn := hg.n
  have hgs := hg.sk
  have hgo := hg.ok
  have hgc := hg.noC hok
  have hgi := hg.lin
  have hgio := hgo.inO
  rw [hln] at hgn hgi
  rw [hls] at hgs
  rw [hgn] at hgc hgio
  have hkn2 := (plan_zero (n := sk) (k := k) (by omega) (by omega) hk2 hgo.o hgc).1 hz
  have hfl := first_lin hgc hgo.o (by omega) hgio
  have hsame := lin_same hfl hgi (by omega) hkn2 hk2
  have hFl := hfl.len
  have hLl := hgi.len
  (refine q_seq (q_region ?_); refine ql_loadABa tabOk rfl rfl rfl ?_; refine ql_pure tabOk rfl rfl ?_)
  refine ql_callv (val := .tuple #[.bool true, .int .i64 0]) tabOk rfl rfl rfl rfl (fun w hs => ?_) ?_; exact by have := known_ok w 0 w.heap.size m.1 (slV m) k (lab_in hs (by repeat constructor) hmM) hgo (by rw [hgn]; exact hgc) hk1 (by rw [hgn]; exact hk2); rw [hgn, hkn2] at this; exact this
  (refine ql_pure tabOk rfl rfl (ql_ext tabOk rfl rfl rfl (ql_ext tabOk rfl rfl rfl (ql_pure tabOk rfl rfl (ql_pure tabOk rfl rfl (q_nil (q_seq (q_region ?_))))))); refine ql_loadABa tabOk rfl rfl rfl ?_)
  refine ql_call (β := Value) tabOk [] _ M0 rfl rfl rfl rfl (Sp.refl _) (fun _ h => h.elim) (fun w' hs => first_ok w' 0 w'.heap.size m.1 (slV m) (lab_in hs (by repeat constructor) hmM) hgo (by rw [hgn]; exact hgc)) ?_
  rintro v33 _ rfl
  dsimp only [List.cons_append, List.nil_append]
  rw [hgn]
  generalize (firF m.1.ord sk sk).1 = Fl at hsame hFl ⊢
  refine ql_fact (fun w hs => hs.ownSome (v := v33) (by repeat constructor) (by omega)) ?_
  rintro ⟨g33, c33, rfl⟩
  refine ql_fact (fun w hs => own_cap hs (c := c33) (n := sk) (a := some ⟨g33, 0, none⟩) (by repeat constructor)) ?_
  intro hcap33
  (refine ql_pure tabOk rfl rfl (ql_ext tabOk rfl rfl rfl (ql_ext tabOk rfl rfl rfl (ql_pure tabOk rfl rfl (ql_pure tabOk rfl rfl (q_nil (q_seq ?_)))))))
  refine q_draw _ [] (Sp.refl _) (by kernel_rfl) (by kernel_rfl) ?_
  (refine qf_pure tabOk rfl rfl rfl (qf_eqlT tabOk rfl rfl rfl (by omega) (qf_pure tabOk rfl rfl rfl (qf_gyes rfl (qf_pure tabOk rfl rfl rfl (qf_gyes rfl (qf_eqlT tabOk rfl rfl rfl (by omega) (qf_pure tabOk rfl rfl rfl (qf_pure tabOk rfl rfl rfl (qf_gyes rfl ?_))))))))); (iterate 3 refine qf_pure tabOk rfl rfl rfl ?_); refine qf_gyes rfl (qf_pure tabOk rfl rfl rfl (qf_gyes rfl (qf_pure tabOk rfl rfl rfl (qf_gyes rfl (qf_pure tabOk rfl rfl rfl (qf_gyes rfl ?_)))))); refine qf_loadBa tabOk rfl rfl rfl ?_; refine qf_gyes rfl (qf_eqlT tabOk rfl rfl rfl (by omega) (qf_pure tabOk rfl rfl rfl (qf_pure tabOk rfl rfl rfl (qf_gyes rfl (qf_pure tabOk rfl rfl rfl (qf_gyes rfl (qf_pure tabOk rfl rfl rfl (qf_gyes rfl ?_)))))))))
  rw [hgs]
  skip
  refine qf_to (et := 3) (sz := 1) k (by kernel_rfl) (by kernel_rfl) rfl rfl rfl (by omega) ?_
  (refine qf_gyes rfl (qf_pure tabOk rfl rfl rfl (qf_gyes rfl (qf_pure tabOk rfl rfl rfl (qf_gyes rfl ?_)))))
  refine qf_to (et := 3) (sz := 1) k (by kernel_rfl) (by kernel_rfl) rfl rfl rfl (by omega) ?_
  (refine qf_gyes rfl ?_)
  refine qf_callv (val := .bool true) tabOk rfl rfl rfl rfl (fun w hs => ?_) ?_; exact eqI_ca w 0 w.heap.size 0 w.heap.size _ _ ((chI Lr).take k) (by have := rdI_to (k := k) (own_rdI (t := 3) (l := chI Fl) (hs.mem (c := .ow (.slice (some ⟨g33, 0, none⟩) sk c33) 3 1 sk (ints (chI Fl))) (by repeat constructor)) (by rw [chI_len]; exact hFl.symm)) (by rw [chI_len]; omega) hk1 (by omega); rw [chI_take, hsame, ← chI_take] at this; exact this) (rdI_to (k := k) (own_rdI (t := 3) (l := chI Lr) (hs.mem (c := .ow (.slice (some ⟨g30, 0, none⟩) sk c30) 3 1 sk (ints (chI Lr))) (by repeat constructor)) (by rw [chI_len]; exact hLl.symm)) (by rw [chI_len]; omega) hk1 (by omega)) (by rw [List.length_take]; omega)
  (refine qf_pure tabOk rfl rfl rfl (qf_pure tabOk rfl rfl rfl (qf_gyes rfl ?_)))
  refine qf_callv (val := .bool true) tabOk rfl rfl rfl rfl (fun w hs => ?_) ?_; exact awake_ca w
  (refine qf_pure tabOk rfl rfl rfl (qf_pure tabOk rfl rfl rfl (qf_nil (q_ret ?_))))
  refine q_fin tabOk rfl (by repeat constructor) fun w hs => ?_
  exact ⟨rfl, hs.chg0⟩
end Go.Proofs.Ytcmpdmobmbbplaa
