/- My texts K1, K26, K27, L0, L2, L4, joined: a claim takes at most 60 files. -/
import Derived.Test.YtgeajgmefokifaaJ3

/- Walks: klisterkit's deck. Only the ranges of what it deals are told. -/
namespace Go.Proofs.Ytgeajgmefokifaa
open Go Go.Eng

section
attribute [local irreducible] IntKind.wrap Int.tmod Int.tdiv

/-- The deck's own variable, after at most K cards. -/
def DkS (w : World) (b : Nat) (bs : Value) (K : Nat) : Prop :=
  ∃ next st, Blk w b [bs, .int .i64 next, .int .u32 st] 165 ∧ 0 ≤ next ∧ next ≤ K ∧ 0 ≤ st ∧ st < 4294967296
/-- Its bytes. -/
def DkB (w : World) (lo hi : Nat) (bs : Value) : Prop := ∃ nb cs, Rd w lo hi bs 1 nb cs ∧ (∀ c ∈ cs, ∃ x, c = .int .u8 x ∧ 0 ≤ x ∧ x < 256)
theorem DkB.keep {w w' : World} {lo hi : Nat} {bs : Value} (h : DkB w lo hi bs) (c : Chg [] w w') : DkB w' lo hi bs := by
  obtain ⟨nb, cs, h1, h2⟩ := h
  exact ⟨nb, cs, h1.keep c, h2⟩

set_option maxHeartbeats 1000000 in
theorem draw_ca (n : Int) (K : Nat) (hK : K < 4611686018427387904) (w : World) (b lo hi : Nat) (bs : Value) (hby : DkB w lo hi bs) (hlh : hi ≤ b) (hd : DkS w b bs K) :
    Ca Try.prog 39 [.pointer (some ⟨b, 0, none⟩), .int .i64 n] w fun v w' => ∃ r, v = .int .i64 r ∧ 0 ≤ r ∧ (r < n ∨ r = 0) ∧ Chg [b] w w' ∧ w'.heap.size = w.heap.size ∧ DkS w' b bs (K + 1) := by
  obtain ⟨nb, cs, hrd, hcs⟩ := hby
  obtain ⟨next, st, hb, hn0, hnK, hs0, hs1⟩ := hd
  have hd : DkS w b bs (K + 1) := ⟨next, st, hb, hn0, by omega, hs0, hs1⟩
  obtain ⟨a, cap, rfl, hsl⟩ := hrd.out
  refine ca_of Try.func39 rfl (by simp [Try.ntmps39]) ?_
  (refine y_seq ?_; refine y_region ?_; refine yl_pure tabOk rfl rfl ?_; (iterate 2 refine y_seq ?_); refine y_region ?_; (iterate 3 refine yl_pure tabOk rfl rfl ?_))
  refine yl_split rfl rfl (fun hc => ?_) (fun hc => ?_)
  · ((iterate 6 refine yl_guard_no rfl rfl rfl ?_); refine yl_pure tabOk rfl rfl ?_; refine y_cond_true rfl ?_; refine y_seq ?_; refine y_region ?_; refine yl_pure tabOk rfl rfl ?_; refine y_ret ?_)
    exact y_fin1 rfl rfl ⟨0, rfl, by omega, .inr rfl, Chg.refl _ _, rfl, hd⟩
  (refine yl_guard_yes rfl ?_; refine yl_pure tabOk rfl rfl ?_; refine yl_guard_yes rfl ?_; refine yl_pure tabOk rfl rfl ?_; refine yl_guard_yes rfl ?_; refine yl_pure tabOk rfl rfl ?_; refine yl_guard_yes rfl ?_; refine yl_loadB tabOk rfl rfl rfl (by assumption) (by rfl) ?_; refine yl_guard_yes rfl ?_; refine yl_pure tabOk rfl rfl ?_; refine yl_guard_yes rfl ?_; (iterate 2 refine yl_pure tabOk rfl rfl ?_); refine yl_nil ?_)
  have hn := of_decide_eq_false hc
  refine y_if rfl (fun hc => ?_) (fun hc => ?_)
  · (refine y_seq ?_; refine y_region ?_; refine yl_pure tabOk rfl rfl ?_; refine y_ret ?_)
    exact y_fin1 rfl rfl ⟨0, rfl, by omega, .inr rfl, Chg.refl _ _, rfl, hd⟩
  have hnb : 0 < nb := by omega
  obtain ⟨bb, off, rfl, hcell⟩ := hsl hnb
  (refine y_skip ?_; refine y_seq ?_)
  refine y_draw [] (by kernel_rfl) (by kernel_rfl) (fun w1 hc1 hs1 => ?_)
  have hb1 := hb.keep hc1
  ((iterate 3 refine yf_pure tabOk rfl rfl rfl ?_); refine yf_loadB tabOk rfl rfl rfl (by assumption) (by first | assumption | simp) (by rfl) ?_; (iterate 3 refine yf_pure tabOk rfl rfl rfl ?_); refine yf_loadB tabOk rfl rfl rfl (by assumption) (by first | assumption | simp) (by rfl) ?_; (iterate 3 refine yf_pure tabOk rfl rfl rfl ?_); refine yf_loadB tabOk rfl rfl rfl (by assumption) (by first | assumption | simp) (by rfl) ?_; refine yf_pure tabOk rfl rfl rfl ?_)
  have hlen : cs.length = nb := by have := hrd.1; omega
  have hm := tmod_pos hn0 (by omega : (0 : Int) < nb)
  refine yf_rem rfl rfl (by omega) rfl ?_
  refine yf_index tabOk rfl rfl rfl rfl rfl hm.1 hm.2 ?_
  obtain ⟨x, hx, hx0, hx1⟩ := hcs (cs[(next.tmod nb).toNat]'(by omega)) (List.getElem_mem _)
  refine yf_load1 tabOk rfl rfl rfl (fun w' hw' => ?_) (v := .int .u8 x) ?_
  · have h1 := ((hrd.keep hc1).keep hw').cell rfl (next.tmod nb).toNat (by omega)
    rw [Nat.mul_one, h1, List.getElem?_eq_getElem (by omega), hx]
  ((iterate 4 refine yf_pure tabOk rfl rfl rfl ?_); refine yf_loadB tabOk rfl rfl rfl (by assumption) (by first | assumption | simp) (by rfl) ?_; (iterate 3 refine yf_pure tabOk rfl rfl rfl ?_); refine yf_loadB tabOk rfl rfl rfl (by assumption) (by first | assumption | simp) (by rfl) ?_; refine yf_pure tabOk rfl rfl rfl ?_)
  refine yf_quo rfl rfl (by omega) rfl ?_
  ((iterate 3 refine yf_pure tabOk rfl rfl rfl ?_); refine y_seq ?_; refine y_region ?_; (iterate 3 refine yl_pure tabOk rfl rfl ?_); refine yl_loadB tabOk rfl rfl rfl (by assumption) (by rfl) ?_; (iterate 3 refine yl_pure tabOk rfl rfl ?_))
  refine yl_store1 tabOk rfl rfl rfl rfl (by assumption) (by simp) (fun w2 hc2 hs2 hb2 => ?_)
  (refine y_seq ?_; refine y_region ?_; (iterate 4 refine yl_pure tabOk rfl rfl ?_); refine yl_loadB tabOk rfl rfl rfl (by assumption) (by rfl) ?_; (iterate 7 refine yl_pure tabOk rfl rfl ?_))
  refine yl_rem rfl rfl (by omega) rfl ?_
  ((iterate 2 refine yl_pure tabOk rfl rfl ?_))
  refine yl_store1 tabOk rfl rfl rfl rfl (by assumption) (by simp) (fun w3 hc3 hs3 hb3 => ?_)
  have hc03 : Chg [b] w w3 := (hc1.nil.trans hc2).trans hc3
  generalize hq : IntKind.u32.wrap (IntKind.i64.wrap (next.tdiv nb)) = q at *
  clear hq
  generalize hz : Int.tmod _ 65519 = z at *
  have hz0 : 0 ≤ z ∧ z < 65519 := by rw [← hz]; exact tmod_pos (wu32_range _).1 (by omega)
  clear hz
  have hd3 : DkS w3 b (.slice (some ⟨bb, off, none⟩) nb cap) (K + 1) := by
    refine ⟨next + 1, z, ?_, by omega, by omega, hz0.1, by omega⟩
    rw [w64 (by omega) (by omega)] at hb3
    exact hb3
  have hfin : ∀ y : Int, ∃ r, Value.int .i64 ((IntKind.i64.wrap (IntKind.u32.wrap y)).tmod n) = .int .i64 r ∧ 0 ≤ r ∧ (r < n ∨ r = 0) ∧ Chg [b] w w3 ∧ w3.heap.size = w.heap.size ∧ DkS w3 b (.slice (some ⟨bb, off, none⟩) nb cap) (K + 1) := by
    intro y
    have h1 := wu32_range y
    have h2 : IntKind.i64.wrap (IntKind.u32.wrap y) = IntKind.u32.wrap y := w64 (by omega) (by omega)
    rw [h2]
    have h3 := tmod_pos h1.1 (by omega : (0 : Int) < n)
    exact ⟨_, rfl, h3.1, .inl h3.2, hc03, by omega, hd3⟩
  ((iterate 2 refine y_seq ?_); refine y_region ?_; (iterate 3 refine yl_pure tabOk rfl rfl ?_))
  refine yl_split rfl rfl (fun hc => ?_) (fun hc => ?_)
  · (refine yl_guard_yes rfl ?_; refine yl_pure tabOk rfl rfl ?_; refine yl_guard_yes rfl ?_; (iterate 2 refine yl_pure tabOk rfl rfl ?_); refine yl_nil ?_)
    refine y_if rfl (fun hc => ?_) (fun hc => ?_)
    · (refine y_seq ?_; refine y_region ?_; (iterate 3 refine yl_pure tabOk rfl rfl ?_))
      refine yl_rem rfl rfl (by omega) rfl ?_
      (refine yl_pure tabOk rfl rfl ?_; refine y_ret ?_)
      exact y_fin1 rfl rfl (hfin _)
    · (refine y_skip ?_; refine y_seq ?_; refine y_region ?_; (iterate 3 refine yl_pure tabOk rfl rfl ?_); refine yl_loadB tabOk rfl rfl rfl (by assumption) (by rfl) ?_; (iterate 5 refine yl_pure tabOk rfl rfl ?_))
      refine yl_rem rfl rfl (by omega) rfl ?_
      (refine yl_pure tabOk rfl rfl ?_; refine y_ret ?_)
      exact y_fin1 rfl rfl (hfin _)
  · ((iterate 2 refine yl_guard_no rfl rfl rfl ?_); refine yl_pure tabOk rfl rfl ?_; refine y_cond_false rfl ?_; refine y_skip ?_; refine y_seq ?_; refine y_region ?_; (iterate 3 refine yl_pure tabOk rfl rfl ?_); refine yl_loadB tabOk rfl rfl rfl (by assumption) (by rfl) ?_; (iterate 5 refine yl_pure tabOk rfl rfl ?_))
    refine yl_rem rfl rfl (by omega) rfl ?_
    (refine yl_pure tabOk rfl rfl ?_; refine y_ret ?_)
    exact y_fin1 rfl rfl (hfin _)


end
/-- A deck, after at most K cards. -/
def dkP (bs : Value) (b K : Nat) : Ck := .gn (fun x => x = b) (fun w => DkS w b bs K) (fun w w' N h hc hN => by
  obtain ⟨next, st, h1, h2⟩ := h
  exact ⟨next, st, (hc.block b h1.lt (hN b rfl)).trans h1, h2⟩)

theorem drawP_ca (n : Int) (K : Nat) (hK : K < 4611686018427387904) (w : World) (b lo hi : Nat) (bs : Value) (hby : DkB w lo hi bs) (hlh : hi ≤ b) (hd : DkS w b bs K) :
    Ca Try.prog 39 [.pointer (some ⟨b, 0, none⟩), .int .i64 n] w fun v w' => ∃ x : Int, (v = .int .i64 x ∧ 0 ≤ x ∧ (x < n ∨ x = 0)) ∧ Sat w (fun x => x = b) [dkP bs b (K + 1)] w' :=
  (draw_ca n K hK w b lo hi bs hby hlh hd).mono fun v w' ⟨r, h1, h2, h3, h4, h5, h6⟩ =>
    ⟨r, ⟨h1, h2, h3⟩, ⟨h4.os, h4.tape, h4.output, h4.size, fun k hk hkb => h4.block k hk (by simpa using hkb)⟩, by simpa [dkP, Ck.p] using h6, .cons (by simp) .nil, fun c hc x hx => by
      obtain rfl : c = dkP bs b (K + 1) := by simpa using hc
      obtain rfl : x = b := hx
      obtain ⟨_, _, h7, _⟩ := h6
      exact ⟨h7.lt, .inl rfl⟩⟩



theorem dk_sat {w : World} {b K : Nat} {bs : Value} (hd : DkS w b bs K) : Sat w (fun x => x = b) [dkP bs b K] w :=
  ⟨ChgP.refl _ _, by simpa [dkP, Ck.p] using hd, .cons (by simp) .nil, fun c hc x hx => by
    obtain rfl : c = dkP bs b K := by simpa using hc
    obtain rfl : x = b := hx
    obtain ⟨_, _, h7, _⟩ := hd
    exact ⟨h7.lt, .inl rfl⟩⟩

theorem between_ca (l h : Int) (hl : -1000000 ≤ l) (hh : h ≤ 1000000) (hlh2 : l ≤ h) (K : Nat) (hK : K < 4611686018427387904) (w : World) (b lo hi : Nat) (bs : Value) (hby : DkB w lo hi bs) (hlh : hi ≤ b) (hd : DkS w b bs K) :
    Ca Try.prog 38 [.pointer (some ⟨b, 0, none⟩), .int .i64 l, .int .i64 h] w fun v w' => ∃ x : Int, (v = .int .i64 x ∧ l ≤ x ∧ x ≤ h) ∧ Sat w (fun x => x = b) [dkP bs b (K + 1)] w' := by
  refine q_of (dk_sat hd) Try.func38 rfl (by simp [Try.ntmps38]) ?_
  (refine q_seq ?_; refine q_region ?_; refine ql_pure tabOk rfl rfl ?_; refine q_nil ?_; refine q_seq ?_; refine q_region ?_; (iterate 4 refine ql_pure tabOk rfl rfl ?_); (iterate 2 refine ql_ar tabOk rfl rfl rfl rfl (by omega) (by omega) ?_))
  refine ql_call (β := Int) (ψ := fun x v => v = .int .i64 x ∧ 0 ≤ x ∧ (x < h - l + 1 ∨ x = 0)) (L' := fun _ => [dkP bs b (K + 1)]) tabOk [dkP bs b K] [] (fun x => x = b) rfl rfl rfl rfl (Sp.refl _) (fun x hx => ⟨_, .head _, hx⟩) (fun w' hs => drawP_ca (h - l + 1) K hK w' b lo hi bs (by
    obtain ⟨nb, cs, h1, h2⟩ := hby
    exact ⟨nb, cs, h1.chg (N := [b]) ⟨hs.chg.os, hs.chg.tape, hs.chg.output, hs.chg.size, fun k hk hkb => hs.chg.block k hk (by simpa using hkb)⟩ (fun k hk => .inr (by simp at hk; omega)), h2⟩) hlh (hs.all _ (.head _))) ?_
  rintro x _ ⟨rfl, hx0, hx1⟩
  (refine ql_ar tabOk rfl rfl rfl rfl (by omega) (by omega) ?_; refine ql_pure tabOk rfl rfl ?_; refine q_nil ?_; refine q_ret ?_)
  refine q_fin tabOk rfl (by repeat (first | exact RVs.nil | apply RVs.tmp rfl | apply RVs.cellA rfl rfl (by repeat first | exact .head _ | refine .tail _ ?_) (by rfl) | apply RVs.cell1 rfl rfl (by repeat first | exact .head _ | refine .tail _ ?_))) fun w hs => ?_
  exact ⟨_, ⟨rfl, by omega, by omega⟩, hs⟩



theorem of_ca (w : World) (a : Option Addr) (n c : Nat) : Ca Try.prog 36 [.slice a n c] w fun v w' => ∃ b : Nat, v = .pointer (some ⟨b, 0, none⟩) ∧ Sat w M0 [dkP (.slice a n c) b 0] w' := by
  refine q_of (Sat.nil w M0) Try.func36 rfl (by simp [Try.ntmps36]) ?_
  (refine q_seq ?_; refine q_region ?_; refine ql_pure tabOk rfl rfl ?_; refine q_nil ?_; refine q_seq ?_; refine q_region ?_; refine ql_pure tabOk rfl rfl ?_)
  refine ql_mk #[.slice a n c, .int .i64 0, .int .u32 17] rfl (by kernel_rfl) rfl ?_
  skip
  refine ql_box rfl rfl (fun b1 => ?_)
  (refine ql_pure tabOk rfl rfl ?_; refine q_nil ?_; refine q_ret ?_)
  refine q_fin tabOk rfl (by repeat (first | exact RVs.nil | apply RVs.tmp rfl | apply RVs.cellA rfl rfl (by repeat first | exact .head _ | refine .tail _ ?_) (by rfl) | apply RVs.cell1 rfl rfl (by repeat first | exact .head _ | refine .tail _ ?_))) fun w hs => ?_
  refine ⟨b1, rfl, ⟨hs.chg, fun d hd => ?_, .cons (by simp) .nil, fun d hd x hx => ?_⟩⟩
  · obtain rfl : d = dkP (.slice a n c) b1 0 := by simpa using hd
    exact ⟨0, 17, hs.all _ (.head _), by omega, by omega, by omega, by omega⟩
  · obtain rfl : d = dkP (.slice a n c) b1 0 := by simpa using hd
    obtain rfl : x = b1 := hx
    exact hs.bd _ (.head _) x rfl



theorem DkB.keepP {w w' : World} {lo hi b : Nat} {bs : Value} (h : DkB w lo hi bs) (hlh : hi ≤ b) (hc : ChgP (fun x => x = b) w w') : DkB w' lo hi bs := by
  obtain ⟨nb, cs, h1, h2⟩ := h
  exact ⟨nb, cs, h1.chg (N := [b]) ⟨hc.os, hc.tape, hc.output, hc.size, fun k hk hkb => hc.block k hk (by simpa using hkb)⟩ (fun k hk => .inr (by simp at hk; omega)), h2⟩
theorem DkS.mono {w : World} {b K K' : Nat} {bs : Value} (h : DkS w b bs K) (hk : K ≤ K') : DkS w b bs K' := by
  obtain ⟨next, st, h1, h2, h3, h4⟩ := h
  exact ⟨next, st, h1, h2, by omega, h4⟩
theorem Sat.dk {w0 w : World} {M : Nat → Prop} {R : List Ck} {b K K' : Nat} {bs : Value} (h : Sat w0 M (dkP bs b K :: R) w) (hk : K ≤ K') : Sat w0 M (dkP bs b K' :: R) w := h.turn (fun _ h => h) (fun h => DkS.mono h hk)



section
variable {K b : Nat} {bs : Value} {w0 w : World} {R : List Ck}
theorem dk_new (hs : Sat w0 M0 (dkP bs b K :: R) w) : w0.heap.size ≤ b := (hs.bd _ (.head _) b rfl).2.resolve_left (fun h => h)
end
end Go.Proofs.Ytgeajgmefokifaa

/- Walks: a winter is made of numbers. -/
namespace Go.Proofs.Ytgeajgmefokifaa
open Go Go.Eng

structure DayB (d : Dy) : Prop where
  n : 0 ≤ d.n0 ∧ d.n0 ≤ 29 ∧ d.n0 ≤ d.n1 ∧ d.n1 ≤ d.n0 + 11
  m : 0 ≤ d.m0 ∧ d.m0 ≤ 39 ∧ d.m0 ≤ d.m1 ∧ d.m1 ≤ d.m0 + 19
  l : 0 ≤ d.l0 ∧ d.l0 ≤ 5 ∧ d.l0 ≤ d.l1 ∧ d.l1 ≤ d.l0 + 3
/-- What MadeWinter makes. -/
structure WinB (days : Nat) (x : Wn) : Prop where
  store : 20 ≤ x.store ∧ x.store ≤ 200
  stock : 0 ≤ x.stock ∧ x.stock ≤ x.store
  d1 : 1 ≤ x.days.length
  d2 : x.days.length ≤ days
  days : ∀ d ∈ x.days, DayB d
theorem WinB.right {days : Nat} {x : Wn} (h : WinB days x) (hd : days ≤ 60) : x.Right := by
  have h1 := h.store
  have h2 := h.d2
  refine ⟨by omega, h.stock, h.d1, by omega, fun d hdm => ?_⟩
  have := h.days d hdm
  have a := this.n
  have b := this.m
  have c := this.l
  exact ⟨by omega, by omega, by omega⟩
theorem coin_ca (n : Int) (hn : 1 ≤ n) (K : Nat) (hK : K < 1000000) (w : World) (b lo hi : Nat) (bs : Value) (hby : DkB w lo hi bs) (hlh : hi ≤ b) (hd : DkS w b bs K) :
    Ca Try.prog 103 [.pointer (some ⟨b, 0, none⟩), .int .i64 n] w fun v w' => ∃ x : Bool, v = .bool x ∧ Sat w (fun x => x = b) [dkP bs b (K + 1)] w' := by
  refine q_of (dk_sat hd) Try.func103 rfl (by simp [Try.ntmps103]) ?_
  (refine q_seq ?_; refine q_region ?_; refine ql_pure tabOk rfl rfl ?_; refine q_nil ?_; refine q_seq ?_; refine q_region ?_; (iterate 2 refine ql_pure tabOk rfl rfl ?_))
  refine ql_call (β := Int) (ψ := fun x v => v = .int .i64 x ∧ 0 ≤ x ∧ (x < n ∨ x = 0)) (L' := fun _ => [dkP bs b (K + 1)]) tabOk [dkP bs b (K)] _ (fun x => x = b) rfl rfl rfl rfl (Sp.cons (by repeat constructor) (Sp.refl _)) (fun x hx => ⟨_, .head _, hx⟩) (fun w' hs => drawP_ca (n) (K) (by omega) w' b lo hi bs (hby.keepP hlh hs.chg) hlh (hs.all _ (.head _))) ?_; rintro x _ ⟨rfl, hx⟩
  ((iterate 2 refine ql_pure tabOk rfl rfl ?_); refine q_nil ?_; refine q_ret ?_)
  refine q_fin tabOk rfl (by repeat (first | exact RVs.nil | apply RVs.tmp rfl | apply RVs.cellA rfl rfl (by repeat first | exact .head _ | refine .tail _ ?_) (by rfl) | apply RVs.cell1 rfl rfl (by repeat first | exact .head _ | refine .tail _ ?_))) fun w hs => ?_
  exact ⟨_, rfl, hs⟩

theorem dyC_snoc (l : List Dy) (d : Dy) : dyC (l ++ [d]) = dyC l ++ dyC [d] := by simp [dyC]
theorem dyC_one (l : List Dy) : ∀ c ∈ dyC l, oneV c = true := fun c hc => by obtain ⟨y, _, hy⟩ := List.mem_flatMap.1 hc; simp at hy; rcases hy with rfl | rfl | rfl | rfl | rfl | rfl <;> rfl
theorem slD : SlT Try.prog 59 73 6 48 (.agg #[.int .i64 0, .int .i64 0, .int .i64 0, .int .i64 0, .int .i64 0, .int .i64 0]) := ⟨by kernel_rfl, by kernel_rfl, by kernel_rfl, by decide⟩
theorem Blk.rdDy {w : World} {b : Nat} {d : Dy} {t : TypeId} (h : Blk w b (dyC [d]) t) : Rd w b (b + 1) (.slice (some ⟨b, 0, none⟩) 1 1) 6 1 (dyC [d]) :=
  ⟨rfl, .inr ⟨b, 0, 1, rfl, fun _ => ⟨Nat.le_refl _, Nat.lt_succ_self _, h.lt⟩, fun j _ => by rw [Blk.cell h]; simp⟩⟩
/-- The spans made so far. -/
structure DayI (i : Nat) (d : Dy) : Prop where
  n : 1 ≤ i → 0 ≤ d.n0 ∧ d.n0 ≤ 29 ∧ d.n0 ≤ d.n1 ∧ d.n1 ≤ d.n0 + 11
  m : 2 ≤ i → 0 ≤ d.m0 ∧ d.m0 ≤ 39 ∧ d.m0 ≤ d.m1 ∧ d.m1 ≤ d.m0 + 19
  l : 3 ≤ i → 0 ≤ d.l0 ∧ d.l0 ≤ 5 ∧ d.l0 ≤ d.l1 ∧ d.l1 ≤ d.l0 + 3

set_option maxHeartbeats 4000000 in
theorem madeW_ca (days : Nat) (h1 : 1 ≤ days) (h2 : days ≤ 60) (K : Nat) (hK : K < 100000) (w : World) (b lo hi : Nat) (bs : Value) (hby : DkB w lo hi bs) (hlh : hi ≤ b) (hd : DkS w b bs K) :
    Ca Try.prog 35 [.pointer (some ⟨b, 0, none⟩), .int .i64 days] w fun v w' => ∃ y : Nat × Nat × Wn, (v = .agg (wnC y.2.2 (some ⟨y.1, 0, none⟩) y.2.1).toArray ∧ WinB days y.2.2) ∧ Sat w (fun x => x = b) [.ow (.slice (some ⟨y.1, 0, none⟩) y.2.2.days.length y.2.1) 73 6 y.2.2.days.length (dyC y.2.2.days), dkP bs b (K + 1000)] w' := by
  refine q_of (dk_sat hd) Try.func35 rfl (by simp [Try.ntmps35]) ?_
  (refine q_seq ?_; refine q_region ?_)
  refine ql_alloc zero61 rfl (fun b4 => ?_)
  (refine q_nil ?_; refine q_seq ?_; refine q_region ?_; refine ql_pure tabOk rfl rfl ?_)
  refine ql_call (β := Int) (ψ := fun x v => v = .int .i64 x ∧ 20 ≤ x ∧ x ≤ 200) (L' := fun _ => [dkP bs b (K + 1)]) tabOk [dkP bs b (K)] _ (fun x => x = b) rfl rfl rfl rfl (Sp.cons (by repeat constructor) (Sp.refl _)) (fun x hx => ⟨_, .head _, hx⟩) (fun w' hs => between_ca (20) (200) (by omega) (by omega) (by omega) (K) (by omega) w' b lo hi bs (hby.keepP hlh hs.chg) hlh (hs.all _ (.head _))) ?_; rintro sto _ ⟨rfl, hsto⟩
  refine ql_mk #[.int .i64 0, .int .i64 sto, .slice none 0 0] rfl (by kernel_rfl) rfl ?_
  refine ql_alloc zero61 rfl (fun b5 => ?_)
  (refine ql_setA tabOk rfl rfl rfl rfl rfl (by repeat constructor) rfl ?_; refine q_nil ?_; refine q_seq ?_; refine q_region ?_; (iterate 2 refine ql_pure tabOk rfl rfl ?_); refine ql_loadB tabOk rfl rfl rfl (by repeat first | exact .head _ | refine .tail _ ?_) (by rfl) ?_; refine ql_ar tabOk rfl rfl rfl rfl (by omega) (by omega) ?_)
  refine ql_call (β := Int) (ψ := fun x v => v = .int .i64 x ∧ 0 ≤ x ∧ (x < sto + 1 ∨ x = 0)) (L' := fun _ => [dkP bs b (K + 1 + 1)]) tabOk [dkP bs b (K + 1)] _ (fun x => x = b) rfl rfl rfl rfl (Sp.cons (by repeat constructor) (Sp.refl _)) (fun x hx => ⟨_, .head _, hx⟩) (fun w' hs => drawP_ca (sto + 1) (K + 1) (by omega) w' b lo hi bs (hby.keepP hlh hs.chg) hlh (hs.all _ (.head _))) ?_; rintro stk _ ⟨rfl, hstk⟩
  (refine ql_pure tabOk rfl rfl ?_; refine ql_st0 tabOk rfl rfl rfl rfl (by repeat constructor) ?_; refine q_nil ?_; (iterate 2 refine q_seq ?_); refine q_region ?_; (iterate 2 refine ql_pure tabOk rfl rfl ?_))
  refine ql_call (β := Int) (ψ := fun x v => v = .int .i64 x ∧ 1 ≤ x ∧ x ≤ days) (L' := fun _ => [dkP bs b (K + 2 + 1)]) tabOk [dkP bs b (K + 2)] _ (fun x => x = b) rfl rfl rfl rfl (Sp.cons (by repeat constructor) (Sp.refl _)) (fun x hx => ⟨_, .head _, hx⟩) (fun w' hs => between_ca (1) (days) (by omega) (by omega) (by omega) (K + 2) (by omega) w' b lo hi bs (hby.keepP hlh hs.chg) hlh (hs.all _ (.head _))) ?_; rintro cnt _ ⟨rfl, hcnt⟩
  (refine ql_pure tabOk rfl rfl ?_; refine q_nil ?_; refine q_block ?_)
  obtain ⟨cn, rfl⟩ := Int.eq_ofNat_of_zero_le (show 0 ≤ cnt by omega)
  have hcn : 1 ≤ cn ∧ cn ≤ days := by omega
  clear hcnt
  refine q_conv (H' := [.pt b5 [.int .i64 stk, .int .i64 sto, .slice none 0 0] 61, .ow (.slice none 0 0) 73 6 0 (dyC []), dkP bs b (K + 3 + 8 * 0), .pt b4 [.int .i64 0, .int .i64 0, .slice none 0 0] 61])
    (fun w' hs => (Sat.ownil hs 73 6).sp (by repeat (first | exact Sp.nil | exact Sp.refl _ | refine Sp.cons (by repeat constructor) ?_))) ?_
  refine q_loop (σ := Value × List Dy) (fun s => s.2.length ≤ cn ∧ ∀ d ∈ s.2, DayB d) (fun s => cn - s.2.length) (fun s => [(0, .pointer (some ⟨b, 0, none⟩)), (4, .pointer (some ⟨b4, 0, none⟩)), (5, .pointer (some ⟨b5, 0, none⟩)), (21, .int .i64 cn), (22, .int .i64 s.2.length)])
    (fun s => [.pt b5 [.int .i64 stk, .int .i64 sto, s.1] 61, .ow s.1 73 6 s.2.length (dyC s.2), dkP bs b (K + 3 + 8 * s.2.length), .pt b4 [.int .i64 0, .int .i64 0, .slice none 0 0] 61]) (.slice none 0 0, []) (by simp) ⟨rfl, rfl, rfl, rfl, rfl, trivial⟩ (by repeat (first | exact Sp.nil | exact Sp.refl _ | refine Sp.cons (by repeat constructor) ?_)) ?_
  rintro ⟨v, l⟩ ⟨hl, hB⟩ K1 hK1
  simp only at hl hB
  dsimp only
  (refine q_seq ?_; refine q_region ?_; refine ql_pure tabOk rfl rfl ?_; refine q_nil ?_; refine q_seq ?_)
  refine q_if rfl (fun hc => ?_) (fun hc => ?_)
  · have hl2 : l.length < cn := by omega
    clear hc
    obtain ⟨k, hk⟩ : ∃ k, k = l.length := ⟨_, rfl⟩
    rw [← hk]
    (refine q_skip ?_; refine q_seq ?_; refine q_block ?_; refine q_seq ?_; refine q_region ?_)
    refine ql_alloc zero73 rfl (fun b6 => ?_)
    (refine q_nil ?_; (iterate 2 refine q_seq ?_); refine q_region ?_; (iterate 3 refine ql_pure tabOk rfl rfl ?_))
    refine ql_mkS 83 [.pointer (some ⟨b6, 0, none⟩), .pointer (some ⟨b6, 2, none⟩), .pointer (some ⟨b6, 4, none⟩)] rfl (by kernel_rfl) rfl (fun bp => ?_)
    ((iterate 2 refine ql_pure tabOk rfl rfl ?_); refine q_nil ?_)
    refine q_cut (σ := {d : Dy // DayB d}) (fun d => [(0, .pointer (some ⟨b, 0, none⟩)), (4, .pointer (some ⟨b4, 0, none⟩)), (5, .pointer (some ⟨b5, 0, none⟩)), (6, .pointer (some ⟨b6, 0, none⟩)), (21, .int .i64 cn), (22, .int .i64 k)])
      (fun d => [.pt b6 (dyC [d.1]) 73, dkP bs b (K + 3 + 8 * k + 6), .pt b5 [.int .i64 stk, .int .i64 sto, v] 61, .ow v 73 6 k (dyC l), .pt b4 [.int .i64 0, .int .i64 0, .slice none 0 0] 61]) ?_ (fun KK hKK => ?_)
    rotate_left
    · skip
      (refine q_block ?_)
      refine q_loop (σ := Nat × Dy) (fun s => s.1 ≤ 3 ∧ DayI s.1 s.2) (fun s => 3 - s.1) (fun s => [(0, .pointer (some ⟨b, 0, none⟩)), (4, .pointer (some ⟨b4, 0, none⟩)), (5, .pointer (some ⟨b5, 0, none⟩)), (6, .pointer (some ⟨b6, 0, none⟩)), (21, .int .i64 cn), (22, .int .i64 k), (27, .slice (some ⟨bp, 0, none⟩) 3 3), (28, .int .i64 3), (29, .int .i64 s.1)])
        (fun s => [.pt bp [.pointer (some ⟨b6, 0, none⟩), .pointer (some ⟨b6, 2, none⟩), .pointer (some ⟨b6, 4, none⟩)] 83, .pt b6 (dyC [s.2]) 73, dkP bs b (K + 3 + 8 * k + 2 * s.1), .pt b5 [.int .i64 stk, .int .i64 sto, v] 61, .ow v 73 6 k (dyC l), .pt b4 [.int .i64 0, .int .i64 0, .slice none 0 0] 61]) (0, ⟨0, 0, 0, 0, 0, 0⟩) ⟨by decide, ⟨by omega, by omega, by omega⟩⟩ ⟨rfl, rfl, rfl, rfl, rfl, rfl, rfl, rfl, rfl, trivial⟩ (by repeat (first | exact Sp.nil | exact Sp.refl _ | refine Sp.cons (by repeat constructor) ?_)) ?_
      rintro ⟨i, d⟩ ⟨hi3, hdI⟩ K2 hK2
      simp only at hi3 hdI
      dsimp only
      obtain rfl | rfl | rfl | rfl : i = 0 ∨ i = 1 ∨ i = 2 ∨ i = 3 := by omega
      · skip
        (refine q_seq ?_; refine q_region ?_; refine ql_lssT tabOk rfl rfl rfl (by omega) ?_; refine q_nil ?_; refine q_seq ?_; refine q_cond_true rfl ?_; refine q_skip ?_; refine q_seq ?_; refine q_block ?_; refine q_seq ?_; refine q_region ?_; refine ql_pure tabOk rfl rfl ?_)
        refine ql_index tabOk rfl rfl rfl rfl rfl (by decide) (by decide) ?_
        (refine ql_loadB tabOk rfl rfl rfl (by repeat first | exact .head _ | refine .tail _ ?_) (by rfl) ?_; (iterate 2 refine ql_pure tabOk rfl rfl ?_); refine q_nil ?_; refine q_seq ?_; refine q_region ?_; refine ql_pure tabOk rfl rfl ?_)
        refine ql_mkS 3 [.int .i64 30, .int .i64 40, .int .i64 6] rfl (by kernel_rfl) rfl (fun c1 => ?_)
        (refine ql_pure tabOk rfl rfl ?_)
        refine ql_index tabOk rfl rfl rfl rfl rfl (by decide) (by decide) ?_
        (refine ql_loadB tabOk rfl rfl rfl (by repeat first | exact .head _ | refine .tail _ ?_) (by rfl) ?_)
        refine ql_call (β := Int) (ψ := fun x v => v = .int .i64 x ∧ 0 ≤ x ∧ (x < 30 ∨ x = 0)) (L' := fun _ => [dkP bs b (K + 3 + 8 * k + 2 * 0 + 1)]) tabOk [dkP bs b (K + 3 + 8 * k + 2 * 0)] _ (fun x => x = b) rfl rfl rfl rfl (Sp.cons (by repeat constructor) (Sp.refl _)) (fun x hx => ⟨_, .head _, hx⟩) (fun w' hs => drawP_ca (30) (K + 3 + 8 * k + 2 * 0) (by omega) w' b lo hi bs (hby.keepP hlh hs.chg) hlh (hs.all _ (.head _))) ?_; rintro x _ ⟨rfl, hx⟩
        (refine ql_pure tabOk rfl rfl ?_; refine q_nil ?_; refine q_region ?_; (iterate 4 refine ql_pure tabOk rfl rfl ?_))
        refine ql_mkS 3 [.int .i64 12, .int .i64 20, .int .i64 4] rfl (by kernel_rfl) rfl (fun c2 => ?_)
        (refine ql_pure tabOk rfl rfl ?_)
        refine ql_index tabOk rfl rfl rfl rfl rfl (by decide) (by decide) ?_
        (refine ql_loadB tabOk rfl rfl rfl (by repeat first | exact .head _ | refine .tail _ ?_) (by rfl) ?_)
        refine ql_call (β := Int) (ψ := fun x v => v = .int .i64 x ∧ 0 ≤ x ∧ (x < 12 ∨ x = 0)) (L' := fun _ => [dkP bs b (K + 3 + 8 * k + 2 * 0 + 1 + 1)]) tabOk [dkP bs b (K + 3 + 8 * k + 2 * 0 + 1)] _ (fun x => x = b) rfl rfl rfl rfl (Sp.cons (by repeat constructor) (Sp.refl _)) (fun x hx => ⟨_, .head _, hx⟩) (fun w' hs => drawP_ca (12) (K + 3 + 8 * k + 2 * 0 + 1) (by omega) w' b lo hi bs (hby.keepP hlh hs.chg) hlh (hs.all _ (.head _))) ?_; rintro y _ ⟨rfl, hy⟩
        (refine ql_ar tabOk rfl rfl rfl rfl (by omega) (by omega) ?_)
        refine ql_callv tabOk rfl rfl rfl rfl (fun w hs => spanM_ca _ _ w) ?_
        (refine ql_pure tabOk rfl rfl ?_)
        refine ql_stA [.int .i64 x, .int .i64 (x + y), .int .i64 d.m0, .int .i64 d.m1, .int .i64 d.l0, .int .i64 d.l1] tabOk rfl rfl rfl rfl rfl (by repeat constructor) rfl rfl ?_
        (refine q_nil ?_; refine q_blk ?_; refine q_region ?_; refine ql_ar tabOk rfl rfl rfl rfl (by omega) (by omega) ?_; refine ql_pure tabOk rfl rfl ?_; refine q_nil ?_)
        exact hK2 (1, ⟨x, (x + y), d.m0, d.m1, d.l0, d.l1⟩) _ _ ⟨by dsimp only; omega, fun h => ⟨by dsimp only; omega, by dsimp only; omega, by dsimp only; omega, by dsimp only; omega⟩, fun h => by dsimp only at h; omega, fun h => by dsimp only at h; omega⟩ (by dsimp only; omega) ⟨rfl, rfl, rfl, rfl, rfl, rfl, rfl, rfl, rfl, trivial⟩ (by repeat (first | exact Sp.nil | exact Sp.refl _ | refine Sp.cons (by repeat constructor) ?_))
      · skip
        (refine q_seq ?_; refine q_region ?_; refine ql_lssT tabOk rfl rfl rfl (by omega) ?_; refine q_nil ?_; refine q_seq ?_; refine q_cond_true rfl ?_; refine q_skip ?_; refine q_seq ?_; refine q_block ?_; refine q_seq ?_; refine q_region ?_; refine ql_pure tabOk rfl rfl ?_)
        refine ql_index tabOk rfl rfl rfl rfl rfl (by decide) (by decide) ?_
        (refine ql_loadB tabOk rfl rfl rfl (by repeat first | exact .head _ | refine .tail _ ?_) (by rfl) ?_; (iterate 2 refine ql_pure tabOk rfl rfl ?_); refine q_nil ?_; refine q_seq ?_; refine q_region ?_; refine ql_pure tabOk rfl rfl ?_)
        refine ql_mkS 3 [.int .i64 30, .int .i64 40, .int .i64 6] rfl (by kernel_rfl) rfl (fun c1 => ?_)
        (refine ql_pure tabOk rfl rfl ?_)
        refine ql_index tabOk rfl rfl rfl rfl rfl (by decide) (by decide) ?_
        (refine ql_loadB tabOk rfl rfl rfl (by repeat first | exact .head _ | refine .tail _ ?_) (by rfl) ?_)
        refine ql_call (β := Int) (ψ := fun x v => v = .int .i64 x ∧ 0 ≤ x ∧ (x < 40 ∨ x = 0)) (L' := fun _ => [dkP bs b (K + 3 + 8 * k + 2 * 1 + 1)]) tabOk [dkP bs b (K + 3 + 8 * k + 2 * 1)] _ (fun x => x = b) rfl rfl rfl rfl (Sp.cons (by repeat constructor) (Sp.refl _)) (fun x hx => ⟨_, .head _, hx⟩) (fun w' hs => drawP_ca (40) (K + 3 + 8 * k + 2 * 1) (by omega) w' b lo hi bs (hby.keepP hlh hs.chg) hlh (hs.all _ (.head _))) ?_; rintro x _ ⟨rfl, hx⟩
        (refine ql_pure tabOk rfl rfl ?_; refine q_nil ?_; refine q_region ?_; (iterate 4 refine ql_pure tabOk rfl rfl ?_))
        refine ql_mkS 3 [.int .i64 12, .int .i64 20, .int .i64 4] rfl (by kernel_rfl) rfl (fun c2 => ?_)
        (refine ql_pure tabOk rfl rfl ?_)
        refine ql_index tabOk rfl rfl rfl rfl rfl (by decide) (by decide) ?_
        (refine ql_loadB tabOk rfl rfl rfl (by repeat first | exact .head _ | refine .tail _ ?_) (by rfl) ?_)
        refine ql_call (β := Int) (ψ := fun x v => v = .int .i64 x ∧ 0 ≤ x ∧ (x < 20 ∨ x = 0)) (L' := fun _ => [dkP bs b (K + 3 + 8 * k + 2 * 1 + 1 + 1)]) tabOk [dkP bs b (K + 3 + 8 * k + 2 * 1 + 1)] _ (fun x => x = b) rfl rfl rfl rfl (Sp.cons (by repeat constructor) (Sp.refl _)) (fun x hx => ⟨_, .head _, hx⟩) (fun w' hs => drawP_ca (20) (K + 3 + 8 * k + 2 * 1 + 1) (by omega) w' b lo hi bs (hby.keepP hlh hs.chg) hlh (hs.all _ (.head _))) ?_; rintro y _ ⟨rfl, hy⟩
        (refine ql_ar tabOk rfl rfl rfl rfl (by omega) (by omega) ?_)
        refine ql_callv tabOk rfl rfl rfl rfl (fun w hs => spanM_ca _ _ w) ?_
        (refine ql_pure tabOk rfl rfl ?_)
        refine ql_stA [.int .i64 d.n0, .int .i64 d.n1, .int .i64 x, .int .i64 (x + y), .int .i64 d.l0, .int .i64 d.l1] tabOk rfl rfl rfl rfl rfl (by repeat constructor) rfl rfl ?_
        (refine q_nil ?_; refine q_blk ?_; refine q_region ?_; refine ql_ar tabOk rfl rfl rfl rfl (by omega) (by omega) ?_; refine ql_pure tabOk rfl rfl ?_; refine q_nil ?_)
        exact hK2 (2, ⟨d.n0, d.n1, x, (x + y), d.l0, d.l1⟩) _ _ ⟨by dsimp only; omega, fun h => hdI.n (by omega), fun h => ⟨by dsimp only; omega, by dsimp only; omega, by dsimp only; omega, by dsimp only; omega⟩, fun h => by dsimp only at h; omega⟩ (by dsimp only; omega) ⟨rfl, rfl, rfl, rfl, rfl, rfl, rfl, rfl, rfl, trivial⟩ (by repeat (first | exact Sp.nil | exact Sp.refl _ | refine Sp.cons (by repeat constructor) ?_))
      · skip
        (refine q_seq ?_; refine q_region ?_; refine ql_lssT tabOk rfl rfl rfl (by omega) ?_; refine q_nil ?_; refine q_seq ?_; refine q_cond_true rfl ?_; refine q_skip ?_; refine q_seq ?_; refine q_block ?_; refine q_seq ?_; refine q_region ?_; refine ql_pure tabOk rfl rfl ?_)
        refine ql_index tabOk rfl rfl rfl rfl rfl (by decide) (by decide) ?_
        (refine ql_loadB tabOk rfl rfl rfl (by repeat first | exact .head _ | refine .tail _ ?_) (by rfl) ?_; (iterate 2 refine ql_pure tabOk rfl rfl ?_); refine q_nil ?_; refine q_seq ?_; refine q_region ?_; refine ql_pure tabOk rfl rfl ?_)
        refine ql_mkS 3 [.int .i64 30, .int .i64 40, .int .i64 6] rfl (by kernel_rfl) rfl (fun c1 => ?_)
        (refine ql_pure tabOk rfl rfl ?_)
        refine ql_index tabOk rfl rfl rfl rfl rfl (by decide) (by decide) ?_
        (refine ql_loadB tabOk rfl rfl rfl (by repeat first | exact .head _ | refine .tail _ ?_) (by rfl) ?_)
        refine ql_call (β := Int) (ψ := fun x v => v = .int .i64 x ∧ 0 ≤ x ∧ (x < 6 ∨ x = 0)) (L' := fun _ => [dkP bs b (K + 3 + 8 * k + 2 * 2 + 1)]) tabOk [dkP bs b (K + 3 + 8 * k + 2 * 2)] _ (fun x => x = b) rfl rfl rfl rfl (Sp.cons (by repeat constructor) (Sp.refl _)) (fun x hx => ⟨_, .head _, hx⟩) (fun w' hs => drawP_ca (6) (K + 3 + 8 * k + 2 * 2) (by omega) w' b lo hi bs (hby.keepP hlh hs.chg) hlh (hs.all _ (.head _))) ?_; rintro x _ ⟨rfl, hx⟩
        (refine ql_pure tabOk rfl rfl ?_; refine q_nil ?_; refine q_region ?_; (iterate 4 refine ql_pure tabOk rfl rfl ?_))
        refine ql_mkS 3 [.int .i64 12, .int .i64 20, .int .i64 4] rfl (by kernel_rfl) rfl (fun c2 => ?_)
        (refine ql_pure tabOk rfl rfl ?_)
        refine ql_index tabOk rfl rfl rfl rfl rfl (by decide) (by decide) ?_
        (refine ql_loadB tabOk rfl rfl rfl (by repeat first | exact .head _ | refine .tail _ ?_) (by rfl) ?_)
        refine ql_call (β := Int) (ψ := fun x v => v = .int .i64 x ∧ 0 ≤ x ∧ (x < 4 ∨ x = 0)) (L' := fun _ => [dkP bs b (K + 3 + 8 * k + 2 * 2 + 1 + 1)]) tabOk [dkP bs b (K + 3 + 8 * k + 2 * 2 + 1)] _ (fun x => x = b) rfl rfl rfl rfl (Sp.cons (by repeat constructor) (Sp.refl _)) (fun x hx => ⟨_, .head _, hx⟩) (fun w' hs => drawP_ca (4) (K + 3 + 8 * k + 2 * 2 + 1) (by omega) w' b lo hi bs (hby.keepP hlh hs.chg) hlh (hs.all _ (.head _))) ?_; rintro y _ ⟨rfl, hy⟩
        (refine ql_ar tabOk rfl rfl rfl rfl (by omega) (by omega) ?_)
        refine ql_callv tabOk rfl rfl rfl rfl (fun w hs => spanM_ca _ _ w) ?_
        (refine ql_pure tabOk rfl rfl ?_)
        refine ql_stA [.int .i64 d.n0, .int .i64 d.n1, .int .i64 d.m0, .int .i64 d.m1, .int .i64 x, .int .i64 (x + y)] tabOk rfl rfl rfl rfl rfl (by repeat constructor) rfl rfl ?_
        (refine q_nil ?_; refine q_blk ?_; refine q_region ?_; refine ql_ar tabOk rfl rfl rfl rfl (by omega) (by omega) ?_; refine ql_pure tabOk rfl rfl ?_; refine q_nil ?_)
        exact hK2 (3, ⟨d.n0, d.n1, d.m0, d.m1, x, (x + y)⟩) _ _ ⟨by dsimp only; omega, fun h => hdI.n (by omega), fun h => hdI.m (by omega), fun h => ⟨by dsimp only; omega, by dsimp only; omega, by dsimp only; omega, by dsimp only; omega⟩⟩ (by dsimp only; omega) ⟨rfl, rfl, rfl, rfl, rfl, rfl, rfl, rfl, rfl, trivial⟩ (by repeat (first | exact Sp.nil | exact Sp.refl _ | refine Sp.cons (by repeat constructor) ?_))
      · (refine q_seq ?_; refine q_region ?_; refine ql_lssF tabOk rfl rfl rfl (by omega) ?_; refine q_nil ?_; refine q_seq ?_; refine q_cond_false rfl ?_; refine q_exit _ rfl ?_)
        exact hKK ⟨d, hdI.n (by omega), hdI.m (by omega), hdI.l (by omega)⟩ _ _ ⟨rfl, rfl, rfl, rfl, rfl, rfl, trivial⟩ (by repeat (first | exact Sp.nil | exact Sp.refl _ | refine Sp.cons (by repeat constructor) ?_))
    rintro ⟨d, hdB⟩
    dsimp only
    ((iterate 2 refine q_seq ?_); refine q_region ?_; refine ql_pure tabOk rfl rfl ?_)
    refine ql_call (β := Bool) (L' := fun _ => [dkP bs b (K + 3 + 8 * k + 6 + 1)]) tabOk [dkP bs b (K + 3 + 8 * k + 6)] _ (fun x => x = b) rfl rfl rfl rfl (Sp.cons (by repeat constructor) (Sp.refl _)) (fun x hx => ⟨_, .head _, hx⟩) (fun w' hs => coin_ca 4 (by omega) (K + 3 + 8 * k + 6) (by omega) w' b lo hi bs (hby.keepP hlh hs.chg) hlh (hs.all _ (.head _))) ?_
    rintro co _ rfl
    dsimp only [List.cons_append, List.nil_append]
    (refine q_nil ?_)
    refine q_cut (σ := {d : Dy // DayB d}) (fun d => [(0, .pointer (some ⟨b, 0, none⟩)), (4, .pointer (some ⟨b4, 0, none⟩)), (5, .pointer (some ⟨b5, 0, none⟩)), (6, .pointer (some ⟨b6, 0, none⟩)), (21, .int .i64 cn), (22, .int .i64 k)])
      (fun d => [.pt b6 (dyC [d.1]) 73, dkP bs b (K + 3 + 8 * k + 8), .pt b5 [.int .i64 stk, .int .i64 sto, v] 61, .ow v 73 6 k (dyC l), .pt b4 [.int .i64 0, .int .i64 0, .slice none 0 0] 61]) ?_ (fun KK hKK => ?_)
    rotate_left
    · cases co
      · (refine q_cond_false rfl ?_; refine q_skip ?_)
        refine q_conv (H' := [dkP bs b (K + 3 + 8 * k + 8), .pt b6 (dyC [d]) 73, .pt b5 [.int .i64 stk, .int .i64 sto, v] 61, .ow v 73 6 k (dyC l), .pt b4 [.int .i64 0, .int .i64 0, .slice none 0 0] 61]) (fun w' hs => Sat.dk (K := K + 3 + 8 * k + 6 + 1) (hs.sp (by repeat (first | exact Sp.nil | exact Sp.refl _ | refine Sp.cons (by repeat constructor) ?_))) (by omega)) ?_
        exact hKK ⟨d, hdB⟩ _ _ ⟨rfl, rfl, rfl, rfl, rfl, rfl, trivial⟩ (by repeat (first | exact Sp.nil | exact Sp.refl _ | refine Sp.cons (by repeat constructor) ?_))
      · (refine q_cond_true rfl ?_; refine q_region ?_; refine ql_pure tabOk rfl rfl ?_)
        refine ql_call (β := Int) (ψ := fun x v => v = .int .i64 x ∧ 0 ≤ x ∧ (x < 3 ∨ x = 0)) (L' := fun _ => [dkP bs b (K + 3 + 8 * k + 6 + 1 + 1)]) tabOk [dkP bs b (K + 3 + 8 * k + 6 + 1)] _ (fun x => x = b) rfl rfl rfl rfl (Sp.cons (by repeat constructor) (Sp.refl _)) (fun x hx => ⟨_, .head _, hx⟩) (fun w' hs => drawP_ca (3) (K + 3 + 8 * k + 6 + 1) (by omega) w' b lo hi bs (hby.keepP hlh hs.chg) hlh (hs.all _ (.head _))) ?_; rintro x _ ⟨rfl, hx⟩
        refine ql_callv tabOk rfl rfl rfl rfl (fun w hs => spanM_ca _ _ w) ?_
        (refine ql_pure tabOk rfl rfl ?_)
        refine ql_stA [.int .i64 d.n0, .int .i64 d.n1, .int .i64 0, .int .i64 x, .int .i64 d.l0, .int .i64 d.l1] tabOk rfl rfl rfl rfl rfl (by repeat constructor) rfl rfl ?_
        (refine q_nil ?_)
        exact hKK ⟨⟨d.n0, d.n1, 0, x, d.l0, d.l1⟩, hdB.n, by dsimp only; omega, hdB.l⟩ _ _ ⟨rfl, rfl, rfl, rfl, rfl, rfl, trivial⟩ (by repeat (first | exact Sp.nil | exact Sp.refl _ | refine Sp.cons (by repeat constructor) ?_))
    clear hdB
    rintro ⟨d, hdB⟩
    dsimp only
    (refine q_region ?_; refine ql_pure tabOk rfl rfl ?_; refine ql_loadB tabOk rfl rfl rfl (by repeat first | exact .head _ | refine .tail _ ?_) (by rfl) ?_; refine ql_loadAB tabOk rfl rfl rfl (by repeat first | exact .head _ | refine .tail _ ?_) (by rfl) (by rfl) ?_)
    refine ql_mkS 73 (dyC [d]) rfl (by kernel_rfl) rfl (fun bn => ?_)
    refine ql_append (q := 1) slD rfl rfl rfl (fun v' => by repeat constructor) (fun w' hs => ⟨_, _, Blk.rdDy (hs.blk (b := bn) (by repeat first | exact .head _ | refine .tail _ ?_))⟩) (dyC_one _) (by omega) (by omega) (fun u => ?_)
    refine ql_fact (fun w hs => hs.slice (v := u) (by repeat first | exact .head _ | refine .tail _ ?_)) ?_
    rintro ⟨a1, g1, d1, rfl⟩
    (refine ql_pure tabOk rfl rfl ?_; refine ql_st2 tabOk rfl rfl rfl rfl (by repeat constructor) ?_; refine q_nil ?_; refine q_blk ?_; refine q_region ?_; refine ql_ar tabOk rfl rfl rfl rfl (by omega) (by omega) ?_; refine ql_pure tabOk rfl rfl ?_; refine q_nil ?_)
    refine hK1 (.slice a1 g1 d1, l ++ [d]) _ _ ⟨by simp; omega, ?_⟩ (by simp; omega) ⟨rfl, rfl, rfl, rfl, lookI rfl (by simp; omega), trivial⟩ (by dsimp only; rw [dyC_snoc, List.length_append, List.length_singleton, ← hk]; repeat (first | exact Sp.nil | exact Sp.refl _ | refine Sp.cons (by repeat constructor) ?_))
    intro z hz
    rcases List.mem_append.1 hz with hz | hz
    · exact hB z hz
    · obtain rfl : z = d := by simpa using hz
      exact hdB
  · have hk : l.length = cn := by omega
    refine q_fact (fun w hs => hs.ownSome (v := v) (by repeat first | exact .head _ | refine .tail _ ?_) (by omega)) ?_
    rintro ⟨g, c, rfl⟩
    (refine q_exit _ rfl ?_; refine q_seq ?_; refine q_region ?_; refine ql_loadAB tabOk rfl rfl rfl (by repeat first | exact .head _ | refine .tail _ ?_) (by rfl) (by rfl) ?_; refine ql_setA tabOk rfl rfl rfl rfl rfl (by repeat constructor) rfl ?_; refine q_nil ?_; refine q_ret ?_)
    refine q_fin tabOk rfl (by repeat (first | exact RVs.nil | apply RVs.tmp rfl | apply RVs.cellA rfl rfl (by repeat first | exact .head _ | refine .tail _ ?_) (by rfl) | apply RVs.cell1 rfl rfl (by repeat first | exact .head _ | refine .tail _ ?_))) fun w hs => ?_
    refine ⟨(g, c, ⟨stk, sto, l⟩), ⟨rfl, by dsimp only; omega, by dsimp only; omega, by dsimp only; omega, by dsimp only; omega, hB⟩, ?_⟩
    exact (Sat.dk (K := K + 3 + 8 * l.length) (K' := K + 1000) (R := [.ow (.slice (some ⟨g, 0, none⟩) l.length c) 73 6 l.length (dyC l)]) (hs.sp (by repeat (first | exact Sp.nil | exact Sp.refl _ | refine Sp.cons (by repeat constructor) ?_))) (by omega)).sp (by repeat (first | exact Sp.nil | exact Sp.refl _ | refine Sp.cons (by repeat constructor) ?_))
end Go.Proofs.Ytgeajgmefokifaa

/- Walks: a weather is drawn. -/
namespace Go.Proofs.Ytgeajgmefokifaa
open Go Go.Eng

theorem getD_snoc (l : List Int) (x : Int) (i : Nat) : (l ++ [x]).getD i 0 = if i < l.length then l.getD i 0 else if i = l.length then x else 0 := by
  simp only [List.getD_eq_getElem?_getD, List.getElem?_append]
  by_cases h : i < l.length
  · simp [h]
  · rw [if_neg h, if_neg h]
    by_cases h2 : i = l.length
    · subst h2; simp
    · rw [if_neg h2, List.getElem?_eq_none (by simp; omega)]
      rfl
/-- A weather of the first days. -/
structure WtP (days : List Dy) (k : Nat) (t : Wt) : Prop where
  ln : t.need.length = k
  lm : t.make.length = k
  ll : t.loss.length = k
  n : ∀ i, i < k → ∀ (h : i < days.length), days[i].n0 ≤ t.need.getD i 0 ∧ t.need.getD i 0 ≤ days[i].n1
  m : ∀ i, i < k → ∀ (h : i < days.length), days[i].m0 ≤ t.make.getD i 0 ∧ t.make.getD i 0 ≤ days[i].m1
  l : ∀ i, i < k → ∀ (h : i < days.length), days[i].l0 ≤ t.loss.getD i 0 ∧ t.loss.getD i 0 ≤ days[i].l1
theorem WtP.step {days : List Dy} {k : Nat} {t : Wt} (h : WtP days k t) (hk : k < days.length) {x y z : Int} (hx : days[k].n0 ≤ x ∧ x ≤ days[k].n1) (hy : days[k].m0 ≤ y ∧ y ≤ days[k].m1) (hz : days[k].l0 ≤ z ∧ z ≤ days[k].l1) : WtP days (k + 1) ⟨t.need ++ [x], t.make ++ [y], t.loss ++ [z]⟩ := by
  refine ⟨by simp [h.ln], by simp [h.lm], by simp [h.ll], fun i hi hd => ?_, fun i hi hd => ?_, fun i hi hd => ?_⟩
  · rw [getD_snoc, h.ln]
    split
    · exact h.n i (by assumption) hd
    · obtain rfl : i = k := by omega
      simpa using hx
  · rw [getD_snoc, h.lm]
    split
    · exact h.m i (by assumption) hd
    · obtain rfl : i = k := by omega
      simpa using hy
  · rw [getD_snoc, h.ll]
    split
    · exact h.l i (by assumption) hd
    · obtain rfl : i = k := by omega
      simpa using hz
theorem WtP.in {x : Wn} {t : Wt} (h : WtP x.days x.days.length t) : t.In x := ⟨h.ln, h.lm, h.ll, fun i hi => h.n i hi hi, fun i hi => h.m i hi hi, fun i hi => h.l i hi hi⟩
theorem DkB.keepM {w w' : World} {lo hi : Nat} {bs : Value} {M : Nat → Prop} (h : DkB w lo hi bs) (hM : ∀ k, M k → hi ≤ k) (hc : ChgP M w w') : DkB w' lo hi bs := by
  obtain ⟨nb, cs, h1, h2⟩ := h
  refine ⟨nb, cs, ⟨h1.1, ?_⟩, h2⟩
  rcases h1.2 with h3 | ⟨b, off, cap, hv, hb, hcell⟩
  · exact .inl h3
  · refine .inr ⟨b, off, cap, hv, fun hp => ⟨(hb hp).1, (hb hp).2.1, Nat.lt_of_lt_of_le (hb hp).2.2 hc.size⟩, fun j hj => ?_⟩
    rw [← hcell j hj]
    have hnb : 0 < cs.length := by omega
    exact World.cell?_of_block (w := w) (hc.block b (hb hnb).2.2 (fun hm => by have := hM b hm; have := (hb hnb).2.1; omega))
/-- The deck, and the days. -/
abbrev drL (bs : Value) (b K g c : Nat) (l : List Dy) : List Ck := [dkP bs b K, .ow (.slice (some ⟨g, 0, none⟩) l.length c) 73 6 l.length (dyC l)]

set_option maxHeartbeats 4000000 in
theorem drawn_ca (x : Wn) (hx : x.Right) (K : Nat) (hK : K < 100000) (w : World) (b g c lo hi : Nat) (bs : Value) (hby : DkB w lo hi bs) (hM : ∀ k, DL (drL bs b K g c x.days) k → hi ≤ k) (hs0 : Sat w (DL (drL bs b K g c x.days)) (drL bs b K g c x.days) w) :
    Ca Try.prog 61 [.pointer (some ⟨b, 0, none⟩), .agg (wnC x (some ⟨g, 0, none⟩) c).toArray] w fun v w' => ∃ y : (Value × Value × Value) × Wt, (v = .agg #[y.1.1, y.1.2.1, y.1.2.2] ∧ y.2.In x) ∧ Sat w (DL (drL bs b K g c x.days)) (wtK y.1.1 y.1.2.1 y.1.2.2 y.2 ++ drL bs b (K + 200) g c x.days) w' := by
  have hd2 := hx.d2
  have hd1 := hx.d1
  have hlb : hi ≤ b := hM b ⟨_, .head _, rfl⟩
  refine q_of hs0 Try.func61 rfl (by simp [Try.ntmps61]) ?_
  (refine q_seq ?_; refine q_region ?_)
  refine ql_box rfl rfl (fun b3 => ?_)
  refine ql_alloc zero107 rfl (fun b4 => ?_)
  (refine q_nil ?_; refine q_seq ?_; refine q_region ?_)
  refine ql_alloc zero107 rfl (fun b5 => ?_)
  (refine q_nil ?_; (iterate 2 refine q_seq ?_); refine q_region ?_; refine ql_pure tabOk rfl rfl ?_; refine ql_loadB tabOk rfl rfl rfl (by repeat first | exact .head _ | refine .tail _ ?_) (by rfl) ?_; (iterate 2 refine ql_pure tabOk rfl rfl ?_); refine q_nil ?_; refine q_block ?_)
  refine q_conv (H' := [.pt b5 [.slice none 0 0, .slice none 0 0, .slice none 0 0] 107, .ow (.slice none 0 0) 3 1 0 (ints []), .ow (.slice none 0 0) 3 1 0 (ints []), .ow (.slice none 0 0) 3 1 0 (ints []), dkP bs b (K + 3 * 0), .ow (.slice (some ⟨g, 0, none⟩) x.days.length c) 73 6 x.days.length (dyC x.days), .pt b4 [.slice none 0 0, .slice none 0 0, .slice none 0 0] 107])
    (fun w' hs => (Sat.ownil (Sat.ownil (Sat.ownil hs 3 1) 3 1) 3 1).sp (by repeat (first | exact Sp.nil | exact Sp.refl _ | refine Sp.cons (by repeat constructor) ?_))) ?_
  refine q_loop (σ := Nat × (Value × Value × Value) × Wt) (fun s => s.1 ≤ x.days.length ∧ WtP x.days s.1 s.2.2) (fun s => x.days.length - s.1) (fun s => [(0, .pointer (some ⟨b, 0, none⟩)), (4, .pointer (some ⟨b4, 0, none⟩)), (5, .pointer (some ⟨b5, 0, none⟩)), (9, .slice (some ⟨g, 0, none⟩) x.days.length c), (10, .int .i64 x.days.length), (11, .int .i64 s.1)])
    (fun s => [.pt b5 [s.2.1.1, s.2.1.2.1, s.2.1.2.2] 107, .ow s.2.1.1 3 1 s.1 (ints s.2.2.need), .ow s.2.1.2.1 3 1 s.1 (ints s.2.2.make), .ow s.2.1.2.2 3 1 s.1 (ints s.2.2.loss), dkP bs b (K + 3 * s.1), .ow (.slice (some ⟨g, 0, none⟩) x.days.length c) 73 6 x.days.length (dyC x.days), .pt b4 [.slice none 0 0, .slice none 0 0, .slice none 0 0] 107])
    (0, (.slice none 0 0, .slice none 0 0, .slice none 0 0), ⟨[], [], []⟩) ⟨by simp, ⟨rfl, rfl, rfl, fun i h => by simp at h, fun i h => by simp at h, fun i h => by simp at h⟩⟩ ⟨rfl, rfl, rfl, rfl, rfl, rfl, trivial⟩ (Sp.refl _) ?_
  rintro ⟨k, ⟨v1, v2, v3⟩, t⟩ ⟨hk, hP⟩ KK hKK
  simp only at hk hP
  dsimp only
  (refine q_seq ?_; refine q_region ?_; refine ql_pure tabOk rfl rfl ?_; refine q_nil ?_; refine q_seq ?_)
  refine q_if rfl (fun hc => ?_) (fun hc => ?_)
  · have hk2 : k < x.days.length := by omega
    clear hc
    have hR := hx.days _ (List.getElem_mem hk2)
    have hRn := hR.n
    have hRm := hR.m
    have hRl := hR.l
    have hst := fun {a b c} h1 h2 h3 => hP.step hk2 (x := a) (y := b) (z := c) h1 h2 h3
    (refine q_skip ?_; refine q_seq ?_; refine q_block ?_; refine q_seq ?_; refine q_region ?_)
    refine ql_index tabOk rfl rfl rfl rfl rfl (by omega) (by omega) ?_
    refine ql_loadA tabOk rfl rfl rfl rfl (fun w hs => RdD.at (own_rdD (t := 73) (hs.mem (c := .ow (.slice (some ⟨g, 0, none⟩) x.days.length c) 73 6 x.days.length (dyC x.days)) (by repeat first | exact .head _ | refine .tail _ ?_)) rfl) k hk2) ?_
    skip
    refine ql_alloc zero73 rfl (fun b7 => ?_)
    (refine ql_setA tabOk rfl rfl rfl rfl rfl (by repeat constructor) rfl ?_; refine q_nil ?_)
    generalize x.days[k] = d at *
    obtain ⟨n0, n1, m0, m1, l0, l1⟩ := d
    dsimp only at hRn hRm hRl hst ⊢
    refine q_drawS2 36 [.pt b7 [.int .i64 n0, .int .i64 n1, .int .i64 m0, .int .i64 m1, .int .i64 l0, .int .i64 l1] 73, .pt b5 [v1, v2, v3] 107, .ow (.slice (some ⟨g, 0, none⟩) x.days.length c) 73 6 x.days.length (dyC x.days), .pt b4 [.slice none 0 0, .slice none 0 0, .slice none 0 0] 107] [.ow v1 3 1 k (ints t.need), .ow v2 3 1 k (ints t.make), .ow v3 3 1 k (ints t.loss), dkP bs b (K + 3 * k)] [.ow (.slice (some ⟨g, 0, none⟩) x.days.length c) 73 6 x.days.length (dyC x.days), .pt b4 [.slice none 0 0, .slice none 0 0, .slice none 0 0] 107] [.pt b5 [v1, v2, v3] 107]
      (by repeat (first | exact Sp.nil | exact Sp.refl _ | refine Sp.cons (by repeat constructor) ?_)) (by repeat (first | exact Sp.nil | exact Sp.refl _ | refine Sp.cons (by repeat constructor) ?_)) (by kernel_rfl) (by kernel_rfl) (by kernel_rfl) fun K1 hK1 => ?_
    (refine qf_pure tabOk rfl rfl rfl ?_; refine qf_loadB tabOk rfl rfl rfl (by repeat first | exact .head _ | refine .tail _ ?_) (by rfl) ?_; (iterate 3 refine qf_pure tabOk rfl rfl rfl ?_); refine qf_loadB tabOk rfl rfl rfl (by repeat first | exact .head _ | refine .tail _ ?_) (by rfl) ?_; (iterate 2 refine qf_pure tabOk rfl rfl rfl ?_); refine qf_loadB tabOk rfl rfl rfl (by repeat first | exact .head _ | refine .tail _ ?_) (by rfl) ?_)
    refine qf_call (β := Int) (ψ := fun x v => v = .int .i64 x ∧ n0 ≤ x ∧ x ≤ n1) (L' := fun _ => [dkP bs b (K + 3 * k + 0 + 1)]) tabOk [dkP bs b (K + 3 * k + 0)] _ (fun x => x = b) rfl rfl rfl rfl (Sp.cons (by repeat constructor) (Sp.refl _)) (fun x hx => ⟨_, .head _, hx⟩) (fun w' hs => between_ca n0 n1 (by omega) (by omega) (by omega) (K + 3 * k + 0) (by omega) w' b lo hi bs (hby.keepM hM hs.chg) hlb (hs.all _ (.head _))) ?_
    rintro nx _ ⟨rfl, hnx⟩
    refine qf_mkS 3 [.int .i64 nx] rfl (by kernel_rfl) rfl (fun c0 => ?_)
    refine qf_append (q := 1) slI rfl rfl rfl (fun v' => by repeat constructor) (fun w' hs => ⟨_, _, Blk.rd (hs.blk (b := c0) (by repeat first | exact .head _ | refine .tail _ ?_)) rfl 1⟩) (by simp [oneV]) (by omega) (by omega) (fun u0 => ?_)
    (refine qf_pure tabOk rfl rfl rfl ?_; refine qf_loadB tabOk rfl rfl rfl (by repeat first | exact .head _ | refine .tail _ ?_) (by rfl) ?_; (iterate 3 refine qf_pure tabOk rfl rfl rfl ?_); refine qf_loadB tabOk rfl rfl rfl (by repeat first | exact .head _ | refine .tail _ ?_) (by rfl) ?_; (iterate 2 refine qf_pure tabOk rfl rfl rfl ?_); refine qf_loadB tabOk rfl rfl rfl (by repeat first | exact .head _ | refine .tail _ ?_) (by rfl) ?_)
    refine qf_call (β := Int) (ψ := fun x v => v = .int .i64 x ∧ m0 ≤ x ∧ x ≤ m1) (L' := fun _ => [dkP bs b (K + 3 * k + 1 + 1)]) tabOk [dkP bs b (K + 3 * k + 1)] _ (fun x => x = b) rfl rfl rfl rfl (Sp.cons (by repeat constructor) (Sp.refl _)) (fun x hx => ⟨_, .head _, hx⟩) (fun w' hs => between_ca m0 m1 (by omega) (by omega) (by omega) (K + 3 * k + 1) (by omega) w' b lo hi bs (hby.keepM hM hs.chg) hlb (hs.all _ (.head _))) ?_
    rintro mx _ ⟨rfl, hmx⟩
    refine qf_mkS 3 [.int .i64 mx] rfl (by kernel_rfl) rfl (fun c1 => ?_)
    refine qf_append (q := 1) slI rfl rfl rfl (fun v' => by repeat constructor) (fun w' hs => ⟨_, _, Blk.rd (hs.blk (b := c1) (by repeat first | exact .head _ | refine .tail _ ?_)) rfl 1⟩) (by simp [oneV]) (by omega) (by omega) (fun u1 => ?_)
    (refine qf_pure tabOk rfl rfl rfl ?_; refine qf_loadB tabOk rfl rfl rfl (by repeat first | exact .head _ | refine .tail _ ?_) (by rfl) ?_; (iterate 3 refine qf_pure tabOk rfl rfl rfl ?_); refine qf_loadB tabOk rfl rfl rfl (by repeat first | exact .head _ | refine .tail _ ?_) (by rfl) ?_; (iterate 2 refine qf_pure tabOk rfl rfl rfl ?_); refine qf_loadB tabOk rfl rfl rfl (by repeat first | exact .head _ | refine .tail _ ?_) (by rfl) ?_)
    refine qf_call (β := Int) (ψ := fun x v => v = .int .i64 x ∧ l0 ≤ x ∧ x ≤ l1) (L' := fun _ => [dkP bs b (K + 3 * k + 2 + 1)]) tabOk [dkP bs b (K + 3 * k + 2)] _ (fun x => x = b) rfl rfl rfl rfl (Sp.cons (by repeat constructor) (Sp.refl _)) (fun x hx => ⟨_, .head _, hx⟩) (fun w' hs => between_ca l0 l1 (by omega) (by omega) (by omega) (K + 3 * k + 2) (by omega) w' b lo hi bs (hby.keepM hM hs.chg) hlb (hs.all _ (.head _))) ?_
    rintro lx _ ⟨rfl, hlx⟩
    refine qf_mkS 3 [.int .i64 lx] rfl (by kernel_rfl) rfl (fun c2 => ?_)
    refine qf_append (q := 1) slI rfl rfl rfl (fun v' => by repeat constructor) (fun w' hs => ⟨_, _, Blk.rd (hs.blk (b := c2) (by repeat first | exact .head _ | refine .tail _ ?_)) rfl 1⟩) (by simp [oneV]) (by omega) (by omega) (fun u2 => ?_)
    (refine qf_nil ?_)
    refine hK1 _ _ [.pt b5 [v1, v2, v3] 107, .ow u0 3 1 (k + 1) (ints t.need ++ [.int .i64 nx]), .ow u1 3 1 (k + 1) (ints t.make ++ [.int .i64 mx]), .ow u2 3 1 (k + 1) (ints t.loss ++ [.int .i64 lx]), dkP bs b (K + 3 * k + 2 + 1)] (by repeat (first | exact Sp.nil | exact Sp.refl _ | refine Sp.cons (by repeat constructor) ?_)) ?_
    refine qf_fact (fun w hs => hs.slice (v := u0) (by repeat first | exact .head _ | refine .tail _ ?_)) ?_
    rintro ⟨a1, g1, d1, rfl⟩
    refine qf_fact (fun w hs => hs.slice (v := u1) (by repeat first | exact .head _ | refine .tail _ ?_)) ?_
    rintro ⟨a2, g2, d2, rfl⟩
    refine qf_fact (fun w hs => hs.slice (v := u2) (by repeat first | exact .head _ | refine .tail _ ?_)) ?_
    rintro ⟨a3, g3, d3, rfl⟩
    (refine qf_pure tabOk rfl rfl rfl ?_; refine qf_st0 tabOk rfl rfl rfl rfl (by repeat constructor) ?_; refine qf_pure tabOk rfl rfl rfl ?_; refine qf_st1 tabOk rfl rfl rfl rfl (by repeat constructor) ?_; refine qf_pure tabOk rfl rfl rfl ?_; refine qf_st2 tabOk rfl rfl rfl rfl (by repeat constructor) ?_; refine qf_nil ?_; refine q_blk ?_; refine q_region ?_; refine ql_ar tabOk rfl rfl rfl rfl (by omega) (by omega) ?_; refine ql_pure tabOk rfl rfl ?_; refine q_nil ?_)
    have f1 : ints (t.need ++ [nx]) = ints t.need ++ [.int .i64 nx] := by simp [ints]
    have f2 : ints (t.make ++ [mx]) = ints t.make ++ [.int .i64 mx] := by simp [ints]
    have f3 : ints (t.loss ++ [lx]) = ints t.loss ++ [.int .i64 lx] := by simp [ints]
    exact hKK (k + 1, (.slice a1 g1 d1, .slice a2 g2 d2, .slice a3 g3 d3), ⟨t.need ++ [nx], t.make ++ [mx], t.loss ++ [lx]⟩) _ _ ⟨by dsimp only; omega, hst hnx hmx hlx⟩ (by dsimp only; omega) ⟨rfl, rfl, rfl, rfl, rfl, rfl, trivial⟩ (by dsimp only; rw [f1, f2, f3]; repeat (first | exact Sp.nil | exact Sp.refl _ | refine Sp.cons (by repeat constructor) ?_))
  · obtain rfl : k = x.days.length := by omega
    clear hc hKK
    refine q_fact (fun w hs => hs.slice (v := v1) (by repeat first | exact .head _ | refine .tail _ ?_)) ?_
    rintro ⟨a1, g1, d1, rfl⟩
    refine q_fact (fun w hs => hs.slice (v := v2) (by repeat first | exact .head _ | refine .tail _ ?_)) ?_
    rintro ⟨a2, g2, d2, rfl⟩
    refine q_fact (fun w hs => hs.slice (v := v3) (by repeat first | exact .head _ | refine .tail _ ?_)) ?_
    rintro ⟨a3, g3, d3, rfl⟩
    (refine q_exit _ rfl ?_; refine q_seq ?_; refine q_region ?_; refine ql_loadAB tabOk rfl rfl rfl (by repeat first | exact .head _ | refine .tail _ ?_) (by rfl) (by rfl) ?_; refine ql_setA tabOk rfl rfl rfl rfl rfl (by repeat constructor) rfl ?_; refine q_nil ?_; refine q_ret ?_)
    refine q_fin tabOk rfl (by repeat (first | exact RVs.nil | apply RVs.tmp rfl | apply RVs.cellA rfl rfl (by repeat first | exact .head _ | refine .tail _ ?_) (by rfl) | apply RVs.cell1 rfl rfl (by repeat first | exact .head _ | refine .tail _ ?_))) fun w hs => ?_
    refine ⟨((.slice a1 g1 d1, .slice a2 g2 d2, .slice a3 g3 d3), t), ⟨rfl, hP.in⟩, ?_⟩
    dsimp only [wtK]
    rw [hP.ln, hP.lm, hP.ll]
    exact (Sat.dk (K := K + 3 * x.days.length) (K' := K + 200) (R := [.ow (.slice a1 g1 d1) 3 1 x.days.length (ints t.need), .ow (.slice a2 g2 d2) 3 1 x.days.length (ints t.make), .ow (.slice a3 g3 d3) 3 1 x.days.length (ints t.loss), .ow (.slice (some ⟨g, 0, none⟩) x.days.length c) 73 6 x.days.length (dyC x.days)]) (hs.sp (by repeat (first | exact Sp.nil | exact Sp.refl _ | refine Sp.cons (by repeat constructor) ?_))) (by omega)).sp (by repeat (first | exact Sp.nil | exact Sp.refl _ | refine Sp.cons (by repeat constructor) ?_))
end Go.Proofs.Ytgeajgmefokifaa

/- What the laws of winters share. -/
namespace Go.Proofs.Ytgeajgmefokifaa
open Go Go.Eng

section
variable {K b g c : Nat} {bs : Value} {w0 w : World} {R : List Ck}
theorem madeW0 {days : Nat} (hby : DkB w0 0 w0.heap.size bs) (hs : Sat w0 M0 (dkP bs b K :: R) w) (h1 : 1 ≤ days) (h2 : days ≤ 60) (hK : K < 100000) :
    Ca Try.prog 35 [.pointer (some ⟨b, 0, none⟩), .int .i64 days] w fun v w' => ∃ y : Nat × Nat × Wn, (v = .agg (wnC y.2.2 (some ⟨y.1, 0, none⟩) y.2.1).toArray ∧ WinB days y.2.2) ∧ Sat w (fun x => x = b) [.ow (.slice (some ⟨y.1, 0, none⟩) y.2.2.days.length y.2.1) 73 6 y.2.2.days.length (dyC y.2.2.days), dkP bs b (K + 1000)] w' :=
  madeW_ca days h1 h2 K hK w b 0 w0.heap.size bs (hby.keep hs.chg0) (dk_new hs) (hs.all _ (.head _))
theorem drawn0 {x : Wn} (hx : x.Right) (hby : DkB w0 0 w0.heap.size bs) (hs : Sat w0 M0 (drL bs b K g c x.days ++ R) w) (hK : K < 100000) :
    Ca Try.prog 61 [.pointer (some ⟨b, 0, none⟩), .agg (wnC x (some ⟨g, 0, none⟩) c).toArray] w fun v w' => ∃ y : (Value × Value × Value) × Wt, (v = .agg #[y.1.1, y.1.2.1, y.1.2.2] ∧ y.2.In x) ∧ Sat w (DL (drL bs b K g c x.days)) (wtK y.1.1 y.1.2.1 y.1.2.2 y.2 ++ drL bs b (K + 200) g c x.days) w' :=
  drawn_ca x hx K hK w b g c 0 w0.heap.size bs (hby.keep hs.chg0) (fun k ⟨d, hd, hk⟩ => (hs.bd d (List.mem_append_left _ hd) k hk).2.resolve_left (fun h => h)) (Sat.self hs)
/-- Days that are owned can be read. -/
theorem days_rd {M : Nat → Prop} {H : List Ck} {x : Wn} (hs : Sat w0 M H w) (hm : .ow (.slice (some ⟨g, 0, none⟩) x.days.length c) 73 6 x.days.length (dyC x.days) ∈ H) : RdD w 0 w.heap.size (.slice (some ⟨g, 0, none⟩) x.days.length c) x.days :=
  own_rdD (t := 73) (hs.mem hm) rfl
end
end Go.Proofs.Ytgeajgmefokifaa

/- The walk of CourseLazy. -/
namespace Go.Proofs.Ytgeajgmefokifaa
open Go Go.Eng

theorem stocks_in {x : Wn} {t : Wt} (hx : x.Right) (ht : t.In x) (w : World) (lo hi : Nat) (a : Option Addr) (c : Nat) (v1 v2 v3 : Value) (h : RdD w lo hi (.slice a x.days.length c) x.days) (hw : WtR w t v1 v2 v3) :
    Ca Try.prog 62 [.agg (wnC x a c).toArray, .agg #[v1, v2, v3]] w fun r w' => ∃ v : Value, r = .tuple #[v, .int .i64 0] ∧ Sat w M0 [.ow v 3 1 (hapV x t).stocks.length (ints (hapV x t).stocks)] w' := by
  have h2 := hx.d2
  have h3 := ht.need
  have h4 := ht.make
  have h5 := ht.loss
  exact stocks_ok w lo hi x a c t v1 v2 v3 h (by omega) hw (by omega) (by omega) (by omega) (weatV_iff.2 ⟨hx, ht⟩)

end Go.Proofs.Ytgeajgmefokifaa

/- The walk of CourseRanged. -/
namespace Go.Proofs.Ytgeajgmefokifaa
open Go Go.Eng

theorem rngL_len (A B : List Int) : (rngL A B).length = A.length := by simp [rngL]
theorem rngL_at (A B : List Int) {k : Nat} (h1 : k < A.length) (h2 : k < B.length) (h : k < (rngL A B).length) : (rngL A B)[k] = (A[k], B[k]) := by
  simp only [rngL, List.getElem_map, List.getElem_range]
  rw [getD_at h1, getD_at h2]

theorem lsp_rd {w0 w : World} {M : Nat → Prop} {H : List Ck} {v : Value} {m : Nat} {l : List (Int × Int)} (hl : l.length = m) (hs : Sat w0 M H w) (hm : .ow v 24 2 m (spC l) ∈ H) : RdS w 0 w.heap.size v l :=
  own_rdS (t := 24) (hs.mem hm) hl.symm
set_option maxRecDepth 20000 in
set_option maxHeartbeats 8000000 in
theorem courseRanged_ca (w : World) (a : Option Addr) (n c : Nat) (a2 : Option Addr) (n2 c2 : Nat) (hbyb1 : DkB w 0 w.heap.size (.slice a n c)) (hbyb2 : DkB w 0 w.heap.size (.slice a2 n2 c2)) :
    Ca Try.prog 11 [.slice a n c, .slice a2 n2 c2] w fun r w' => r = .bool true ∧ Chg [] w w' := by
  refine q_of (Sat.nil w M0) Try.func11 rfl (by simp [Try.ntmps11]) ?_
  (refine q_seq ?_; refine q_region ?_; refine ql_pure tabOk rfl rfl ?_; refine q_nil ?_; refine q_seq ?_; refine q_region ?_; refine ql_pure tabOk rfl rfl ?_)
  refine ql_call (β := Nat) tabOk [] _ M0 rfl rfl rfl rfl (Sp.refl _) (fun _ h => h.elim) (fun w' hs => of_ca w' a n c) ?_
  rintro b1 _ rfl
  skip
  refine ql_call (β := Nat × Nat × Wn) (ψ := fun y v => v = .agg (wnC y.2.2 (some ⟨y.1, 0, none⟩) y.2.1).toArray ∧ WinB 20 y.2.2) (L' := fun y => [.ow (.slice (some ⟨y.1, 0, none⟩) y.2.2.days.length y.2.1) 73 6 y.2.2.days.length (dyC y.2.2.days), dkP (.slice a n c) b1 (0 + 1000)]) tabOk [dkP (.slice a n c) b1 (0)] _ (fun x => x = b1) rfl rfl rfl rfl (Sp.cons (by repeat constructor) (Sp.refl _)) (fun x hx => ⟨_, .head _, hx⟩) (fun w' hs => madeW0 (days := 20) hbyb1 hs (by omega) (by omega) (by omega)) ?_; rintro ⟨g, cd, x⟩ _ ⟨rfl, hwx⟩; dsimp only [List.cons_append, List.nil_append] at hwx ⊢
  have hrx := hwx.right (by omega)
  have hrb2 := hrx
  skip
  refine ql_alloc zero61 rfl (fun b5 => ?_)
  (refine ql_setA tabOk rfl rfl rfl rfl rfl (by repeat constructor) rfl ?_; refine q_nil ?_; refine q_seq ?_; refine q_region ?_; refine ql_pure tabOk rfl rfl ?_)
  refine ql_call (β := Nat) tabOk [] _ M0 rfl rfl rfl rfl (Sp.refl _) (fun _ h => h.elim) (fun w' hs => of_ca w' a2 n2 c2) ?_
  rintro b2 _ rfl
  (refine ql_pure tabOk rfl rfl ?_; refine q_nil ?_; refine q_seq ?_; refine q_region ?_; refine ql_loadAB tabOk rfl rfl rfl (by repeat first | exact .head _ | refine .tail _ ?_) (by rfl) (by rfl) ?_)
  have hlen := hrx.d2
  have hw1 := worst_fine hrx
  have hw2 := best_fine hrx
  have hcAB := count_le hrx hw1 hw2 (fun k hk => sq_worst (best_in hrx) k hk)
  have hcA := (hap_len hrx hw1).1
  have hcB := (hap_len hrx hw2).1
  have hAt := fun {i} (hi : i < (hapV x (worstW x)).stocks.length) => stocks_at hrx hw1 hi
  have hBt := fun {i} (hi : i < (hapV x (bestW x)).stocks.length) => stocks_at hrx hw2 hi
  have hT : ∀ t : Wt, t.In x → (hapV x (worstW x)).stocks.length ≤ (hapV x t).stocks.length ∧ (hapV x t).stocks.length ≤ x.days.length ∧ ∀ i, i < (hapV x (worstW x)).stocks.length → (hapV x (worstW x)).stocks.getD i 0 ≤ (hapV x t).stocks.getD i 0 ∧ (hapV x t).stocks.getD i 0 ≤ (hapV x (bestW x)).stocks.getD i 0 := fun t ht => by
    have h1 := count_le hrx hw1 (in_fine hrx ht) (fun k hk => sq_worst ht k hk)
    have h2 := (hap_len hrx (in_fine hrx ht)).1
    refine ⟨h1, h2, fun i hi => ?_⟩
    rw [hAt hi, hBt (by omega), stocks_at hrx (in_fine hrx ht) (by omega)]
    exact ⟨sq_worst ht _ (by omega), sq_best ht _ (by omega)⟩
  have hAB := (hT _ (best_in hrx)).2.2
  refine ql_call (β := Value) tabOk [] _ M0 rfl rfl rfl rfl (Sp.refl _) (fun _ h => h.elim) (fun w' hs => ranges_ok w' 0 w'.heap.size x (some ⟨g, 0, none⟩) cd (days_rd hs (by repeat first | exact .head _ | refine .tail _ ?_)) hrx) ?_
  rintro lv _ rfl
  rw [rngL_eq, rngL_len]
  dsimp only [List.cons_append, List.nil_append]
  refine ql_fact (fun w hs => hs.slice2 (v := lv) (by repeat first | exact .head _ | refine .tail _ ?_)) ?_
  rintro ⟨la, lc, rfl⟩
  (refine ql_pure tabOk rfl rfl ?_; (iterate 2 refine ql_ext tabOk rfl rfl rfl ?_); (iterate 2 refine ql_pure tabOk rfl rfl ?_); refine q_nil ?_; refine q_seq ?_; refine q_region ?_; refine ql_loadAB tabOk rfl rfl rfl (by repeat first | exact .head _ | refine .tail _ ?_) (by rfl) (by rfl) ?_)
  refine ql_call (β := Value × Value × Value) tabOk [] _ M0 rfl rfl rfl rfl (Sp.refl _) (fun _ h => h.elim) (fun w' hs => worstE_ok w' 0 w'.heap.size x (some ⟨g, 0, none⟩) cd (days_rd hs (by repeat first | exact .head _ | refine .tail _ ?_)) hrx) ?_
  rintro ⟨v1, v2, v3⟩ _ rfl
  dsimp only [wtK, List.cons_append, List.nil_append]
  refine ql_fact (fun w hs => hs.slice2 (v := v1) (by repeat first | exact .head _ | refine .tail _ ?_)) ?_
  rintro ⟨av1, cv1, rfl⟩
  refine ql_fact (fun w hs => hs.slice2 (v := v2) (by repeat first | exact .head _ | refine .tail _ ?_)) ?_
  rintro ⟨av2, cv2, rfl⟩
  refine ql_fact (fun w hs => hs.slice2 (v := v3) (by repeat first | exact .head _ | refine .tail _ ?_)) ?_
  rintro ⟨av3, cv3, rfl⟩
  (refine ql_pure tabOk rfl rfl ?_; (iterate 2 refine ql_ext tabOk rfl rfl rfl ?_))
  refine ql_alloc zero107 rfl (fun b9 => ?_)
  (refine ql_setA tabOk rfl rfl rfl rfl rfl (by repeat constructor) rfl ?_; refine ql_pure tabOk rfl rfl ?_; refine q_nil ?_; (iterate 2 refine q_seq ?_); refine q_region ?_; refine ql_pure tabOk rfl rfl ?_; refine ql_neqF tabOk rfl rfl rfl (by omega) ?_; refine ql_pure tabOk rfl rfl ?_; refine ql_gyes rfl ?_; refine ql_pure tabOk rfl rfl ?_; refine ql_gyes rfl ?_; refine ql_neqF tabOk rfl rfl rfl (by omega) ?_; (iterate 2 refine ql_pure tabOk rfl rfl ?_); refine ql_gyes rfl ?_; refine ql_pure tabOk rfl rfl ?_; refine ql_gyes rfl ?_; refine ql_pure tabOk rfl rfl ?_; refine ql_gyes rfl ?_; refine ql_pure tabOk rfl rfl ?_; refine ql_gyes rfl ?_; refine ql_loadB tabOk rfl rfl rfl (by repeat first | exact .head _ | refine .tail _ ?_) (by rfl) ?_; refine ql_gyes rfl ?_; refine ql_pure tabOk rfl rfl ?_; refine ql_gyes rfl ?_; refine ql_gtrF tabOk rfl rfl rfl (by omega) ?_; refine ql_pure tabOk rfl rfl ?_; refine q_nil ?_; refine q_cond_false rfl ?_; refine q_skip ?_; refine q_seq ?_; refine q_region ?_)
  refine ql_alloc zero107 rfl (fun b11 => ?_)
  (refine q_nil ?_; (iterate 2 refine q_seq ?_); refine q_region ?_; refine ql_pure tabOk rfl rfl ?_; refine ql_loadB tabOk rfl rfl rfl (by repeat first | exact .head _ | refine .tail _ ?_) (by rfl) ?_; (iterate 2 refine ql_pure tabOk rfl rfl ?_); refine q_nil ?_; refine q_block ?_)
  refine q_conv (H' := [.pt b11 [.slice none 0 0, .slice none 0 0, .slice none 0 0] 107, .ow (.slice none 0 0) 3 1 0 (ints []), .ow (.slice none 0 0) 3 1 0 (ints []), .ow (.slice none 0 0) 3 1 0 (ints []), .pt b9 [.slice av1 (worstW x).need.length cv1, .slice av2 (worstW x).make.length cv2, .slice av3 (worstW x).loss.length cv3] 107, .ow (.slice av1 (worstW x).need.length cv1) 3 1 (worstW x).need.length (ints (worstW x).need), .ow (.slice av2 (worstW x).make.length cv2) 3 1 (worstW x).make.length (ints (worstW x).make), .ow (.slice av3 (worstW x).loss.length cv3) 3 1 (worstW x).loss.length (ints (worstW x).loss), .ow (.slice la (hapV x (worstW x)).stocks.length lc) 24 2 (hapV x (worstW x)).stocks.length (spC (rngL (hapV x (worstW x)).stocks (hapV x (bestW x)).stocks)), dkP (.slice a2 n2 c2) b2 0, .ow (.slice (some ⟨g, 0, none⟩) x.days.length cd) 73 6 x.days.length (dyC x.days), .pt b5 (wnC x (some ⟨g, 0, none⟩) cd) 61])
    (fun w' hs => (Sat.ownil (Sat.ownil (Sat.ownil hs 3 1) 3 1) 3 1).sp (by repeat (first | exact Sp.nil | exact Sp.refl _ | refine Sp.cons (by repeat constructor) ?_))) ?_
  refine q_loop (σ := Nat × Value × Value × Value) (fun s => s.1 ≤ x.days.length) (fun s => x.days.length - s.1) (fun s => [(5, .pointer (some ⟨b5, 0, none⟩)), (6, .pointer (some ⟨b2, 0, none⟩)), (7, .slice la (hapV x (worstW x)).stocks.length lc), (9, .pointer (some ⟨b9, 0, none⟩)), (11, .pointer (some ⟨b11, 0, none⟩)), (52, .slice (some ⟨g, 0, none⟩) x.days.length cd), (53, .int .i64 x.days.length), (54, .int .i64 s.1)])
    (fun s => [.pt b11 [s.2.1, s.2.2.1, s.2.2.2] 107, .ow s.2.1 3 1 s.1 (ints (endW (fun a _ => a) (fun _ b => b) (x.days.take s.1)).need), .ow s.2.2.1 3 1 s.1 (ints (endW (fun a _ => a) (fun _ b => b) (x.days.take s.1)).make), .ow s.2.2.2 3 1 s.1 (ints (endW (fun a _ => a) (fun _ b => b) (x.days.take s.1)).loss), .pt b9 [.slice av1 (worstW x).need.length cv1, .slice av2 (worstW x).make.length cv2, .slice av3 (worstW x).loss.length cv3] 107, .ow (.slice av1 (worstW x).need.length cv1) 3 1 (worstW x).need.length (ints (worstW x).need), .ow (.slice av2 (worstW x).make.length cv2) 3 1 (worstW x).make.length (ints (worstW x).make), .ow (.slice av3 (worstW x).loss.length cv3) 3 1 (worstW x).loss.length (ints (worstW x).loss), .ow (.slice la (hapV x (worstW x)).stocks.length lc) 24 2 (hapV x (worstW x)).stocks.length (spC (rngL (hapV x (worstW x)).stocks (hapV x (bestW x)).stocks)), dkP (.slice a2 n2 c2) b2 0, .ow (.slice (some ⟨g, 0, none⟩) x.days.length cd) 73 6 x.days.length (dyC x.days), .pt b5 (wnC x (some ⟨g, 0, none⟩) cd) 61])
    (0, .slice none 0 0, .slice none 0 0, .slice none 0 0) (by simp) ⟨rfl, rfl, rfl, rfl, rfl, rfl, rfl, rfl, trivial⟩ (Sp.refl _) ?_
  rintro ⟨k, v1, v2, v3⟩ hk K hK
  simp only at hk
  dsimp only
  (refine q_seq ?_; refine q_region ?_; refine ql_pure tabOk rfl rfl ?_; refine q_nil ?_; refine q_seq ?_)
  refine q_if rfl (fun hc => ?_) (fun hc => ?_)
  · have hk2 : k < x.days.length := by first | omega | (simp at hc; omega)
    clear hc
    (refine q_skip ?_; refine q_seq ?_; refine q_block ?_; refine q_seq ?_; refine q_region ?_)
    refine ql_index tabOk rfl rfl rfl rfl rfl (by omega) (by omega) ?_
    refine ql_loadA tabOk rfl rfl rfl rfl (fun w hs => RdD.at (days_rd (x := x) hs (by repeat first | exact .head _ | refine .tail _ ?_)) k hk2) ?_
    skip
    refine ql_alloc zero73 rfl (fun b13 => ?_)
    (refine ql_setA tabOk rfl rfl rfl rfl rfl (by repeat constructor) rfl ?_; refine q_nil ?_)
    have e0 : endW (fun a _ => a) (fun _ b => b) (x.days.take (k + 1)) = ⟨(endW (fun a _ => a) (fun _ b => b) (x.days.take k)).need ++ [x.days[k].n0], (endW (fun a _ => a) (fun _ b => b) (x.days.take k)).make ++ [x.days[k].m1], (endW (fun a _ => a) (fun _ b => b) (x.days.take k)).loss ++ [x.days[k].l0]⟩ := by
      rw [List.take_succ_eq_append_getElem hk2]
      simp only [endW, List.map_append]
      rfl
    generalize x.days[k] = d at *
    obtain ⟨n0, n1, m0, m1, l0, l1⟩ := d
    dsimp only at e0 ⊢
    refine q_drawX (.alt (chainT [2, 3, 4, 5] (.alt (chainT [0, 1, 6] (.alt (chainT [9, 10, 11, 12] (.alt (chainT [7, 8, 13] (chainT [16, 17, 18, 19] (chainT [14, 15, 20] (chainT [21, 22, 23, 24, 25, 26] .nil)))) (chainT [16, 17, 18, 19] (chainT [7, 8, 13] (chainT [14, 15, 20] (chainT [21, 22, 23, 24, 25, 26] .nil)))))) (chainT [16, 17, 18, 19] (chainT [9, 10, 11, 12] (chainT [7, 8, 13] (chainT [14, 15, 20] (chainT [21, 22, 23, 24, 25, 26] .nil))))))) (.alt (chainT [9, 10, 11, 12] (.alt (chainT [0, 1, 6] (.alt (chainT [7, 8, 13] (chainT [16, 17, 18, 19] (chainT [14, 15, 20] (chainT [21, 22, 23, 24, 25, 26] .nil)))) (chainT [16, 17, 18, 19] (chainT [7, 8, 13] (chainT [14, 15, 20] (chainT [21, 22, 23, 24, 25, 26] .nil)))))) (chainT [16, 17, 18, 19] (chainT [0, 1, 6] (chainT [7, 8, 13] (chainT [14, 15, 20] (chainT [21, 22, 23, 24, 25, 26] .nil))))))) (chainT [16, 17, 18, 19] (.alt (chainT [0, 1, 6] (chainT [9, 10, 11, 12] (chainT [7, 8, 13] (chainT [14, 15, 20] (chainT [21, 22, 23, 24, 25, 26] .nil))))) (chainT [9, 10, 11, 12] (chainT [0, 1, 6] (chainT [7, 8, 13] (chainT [14, 15, 20] (chainT [21, 22, 23, 24, 25, 26] .nil)))))))))) (.alt (chainT [9, 10, 11, 12] (.alt (chainT [2, 3, 4, 5] (.alt (chainT [0, 1, 6] (.alt (chainT [7, 8, 13] (chainT [16, 17, 18, 19] (chainT [14, 15, 20] (chainT [21, 22, 23, 24, 25, 26] .nil)))) (chainT [16, 17, 18, 19] (chainT [7, 8, 13] (chainT [14, 15, 20] (chainT [21, 22, 23, 24, 25, 26] .nil)))))) (chainT [16, 17, 18, 19] (chainT [0, 1, 6] (chainT [7, 8, 13] (chainT [14, 15, 20] (chainT [21, 22, 23, 24, 25, 26] .nil))))))) (chainT [16, 17, 18, 19] (chainT [2, 3, 4, 5] (chainT [0, 1, 6] (chainT [7, 8, 13] (chainT [14, 15, 20] (chainT [21, 22, 23, 24, 25, 26] .nil)))))))) (chainT [16, 17, 18, 19] (.alt (chainT [2, 3, 4, 5] (.alt (chainT [0, 1, 6] (chainT [9, 10, 11, 12] (chainT [7, 8, 13] (chainT [14, 15, 20] (chainT [21, 22, 23, 24, 25, 26] .nil))))) (chainT [9, 10, 11, 12] (chainT [0, 1, 6] (chainT [7, 8, 13] (chainT [14, 15, 20] (chainT [21, 22, 23, 24, 25, 26] .nil))))))) (chainT [9, 10, 11, 12] (chainT [2, 3, 4, 5] (chainT [0, 1, 6] (chainT [7, 8, 13] (chainT [14, 15, 20] (chainT [21, 22, 23, 24, 25, 26] .nil)))))))))) [true, true, true, true, true, true, true, true, true, true, true, true, true, true, true, true, true, true, true, true, true, false, false, false, false, false, false] [.pt b11 [v1, v2, v3] 107, .pt b13 [.int .i64 n0, .int .i64 n1, .int .i64 m0, .int .i64 m1, .int .i64 l0, .int .i64 l1] 73, .pt b9 [.slice av1 (worstW x).need.length cv1, .slice av2 (worstW x).make.length cv2, .slice av3 (worstW x).loss.length cv3] 107, .ow (.slice av1 (worstW x).need.length cv1) 3 1 (worstW x).need.length (ints (worstW x).need), .ow (.slice av2 (worstW x).make.length cv2) 3 1 (worstW x).make.length (ints (worstW x).make), .ow (.slice av3 (worstW x).loss.length cv3) 3 1 (worstW x).loss.length (ints (worstW x).loss), .ow (.slice la (hapV x (worstW x)).stocks.length lc) 24 2 (hapV x (worstW x)).stocks.length (spC (rngL (hapV x (worstW x)).stocks (hapV x (bestW x)).stocks)), dkP (.slice a2 n2 c2) b2 0, .ow (.slice (some ⟨g, 0, none⟩) x.days.length cd) 73 6 x.days.length (dyC x.days), .pt b5 (wnC x (some ⟨g, 0, none⟩) cd) 61] [.ow v1 3 1 k (ints (endW (fun a _ => a) (fun _ b => b) (x.days.take k)).need), .ow v2 3 1 k (ints (endW (fun a _ => a) (fun _ b => b) (x.days.take k)).make), .ow v3 3 1 k (ints (endW (fun a _ => a) (fun _ b => b) (x.days.take k)).loss)] [.pt b13 [.int .i64 n0, .int .i64 n1, .int .i64 m0, .int .i64 m1, .int .i64 l0, .int .i64 l1] 73, .pt b9 [.slice av1 (worstW x).need.length cv1, .slice av2 (worstW x).make.length cv2, .slice av3 (worstW x).loss.length cv3] 107, .ow (.slice av1 (worstW x).need.length cv1) 3 1 (worstW x).need.length (ints (worstW x).need), .ow (.slice av2 (worstW x).make.length cv2) 3 1 (worstW x).make.length (ints (worstW x).make), .ow (.slice av3 (worstW x).loss.length cv3) 3 1 (worstW x).loss.length (ints (worstW x).loss), .ow (.slice la (hapV x (worstW x)).stocks.length lc) 24 2 (hapV x (worstW x)).stocks.length (spC (rngL (hapV x (worstW x)).stocks (hapV x (bestW x)).stocks)), dkP (.slice a2 n2 c2) b2 0, .ow (.slice (some ⟨g, 0, none⟩) x.days.length cd) 73 6 x.days.length (dyC x.days), .pt b5 (wnC x (some ⟨g, 0, none⟩) cd) 61] [.pt b11 [v1, v2, v3] 107] (by repeat (first | exact Sp.nil | exact Sp.refl _ | refine Sp.cons (by repeat constructor) ?_)) (by repeat (first | exact Sp.nil | exact Sp.refl _ | refine Sp.cons (by repeat constructor) ?_)) (by kernel_rfl) (by kernel_rfl) (by kernel_rfl) ?_
    refine qx_let (σ := Nat × Value × Nat × Value × Nat × Value × Unit) (chainT [21, 22, 23, 24, 25, 26] .nil) (fun ⟨lt0, ap0, lt1, ap1, lt2, ap2, ()⟩ => [(5, .pointer (some ⟨b5, 0, none⟩)), (6, .pointer (some ⟨b2, 0, none⟩)), (7, .slice la (hapV x (worstW x)).stocks.length lc), (9, .pointer (some ⟨b9, 0, none⟩)), (11, .pointer (some ⟨b11, 0, none⟩)), (13, .pointer (some ⟨b13, 0, none⟩)), (52, .slice (some ⟨g, 0, none⟩) x.days.length cd), (53, .int .i64 x.days.length), (54, .int .i64 k), (64, ap0), (71, ap1), (78, ap2)]) (fun ⟨lt0, ap0, lt1, ap1, lt2, ap2, ()⟩ => [.ow ap0 3 1 (k + 1) (ints (endW (fun a _ => a) (fun _ b => b) (x.days.take k)).need ++ [.int .i64 n0]), .ow ap1 3 1 (k + 1) (ints (endW (fun a _ => a) (fun _ b => b) (x.days.take k)).make ++ [.int .i64 m1]), .ow ap2 3 1 (k + 1) (ints (endW (fun a _ => a) (fun _ b => b) (x.days.take k)).loss ++ [.int .i64 l0]), .pt b11 [v1, v2, v3] 107, .pt b13 [.int .i64 n0, .int .i64 n1, .int .i64 m0, .int .i64 m1, .int .i64 l0, .int .i64 l1] 73, .pt b9 [.slice av1 (worstW x).need.length cv1, .slice av2 (worstW x).make.length cv2, .slice av3 (worstW x).loss.length cv3] 107, .ow (.slice av1 (worstW x).need.length cv1) 3 1 (worstW x).need.length (ints (worstW x).need), .ow (.slice av2 (worstW x).make.length cv2) 3 1 (worstW x).make.length (ints (worstW x).make), .ow (.slice av3 (worstW x).loss.length cv3) 3 1 (worstW x).loss.length (ints (worstW x).loss), .ow (.slice la (hapV x (worstW x)).stocks.length lc) 24 2 (hapV x (worstW x)).stocks.length (spC (rngL (hapV x (worstW x)).stocks (hapV x (bestW x)).stocks)), dkP (.slice a2 n2 c2) b2 0, .ow (.slice (some ⟨g, 0, none⟩) x.days.length cd) 73 6 x.days.length (dyC x.days), .pt b5 (wnC x (some ⟨g, 0, none⟩) cd) 61]) ?_ (fun hS5_6_12_13_19_20 => ?_)
    · rintro ⟨lt0, ap0, lt1, ap1, lt2, ap2, _⟩
      refine qx_F [.ow ap0 3 1 (k + 1) (ints (endW (fun a _ => a) (fun _ b => b) (x.days.take k)).need ++ [.int .i64 n0]), .ow ap1 3 1 (k + 1) (ints (endW (fun a _ => a) (fun _ b => b) (x.days.take k)).make ++ [.int .i64 m1]), .ow ap2 3 1 (k + 1) (ints (endW (fun a _ => a) (fun _ b => b) (x.days.take k)).loss ++ [.int .i64 l0]), .pt b11 [v1, v2, v3] 107] (by repeat (first | exact PickL.nil | (apply PickL.cons; rfl))) rfl (by repeat (first | exact Sp.nil | exact Sp.refl _ | refine Sp.cons (by repeat constructor) ?_)) fun K1 hK1 => ?_
      refine qf_fact (fun w hs => hs.slice (v := ap0) (by repeat first | exact .head _ | refine .tail _ ?_)) ?_
      rintro ⟨w0, g0, d0, rfl⟩
      refine qf_fact (fun w hs => hs.slice (v := ap1) (by repeat first | exact .head _ | refine .tail _ ?_)) ?_
      rintro ⟨w1, g1, d1, rfl⟩
      refine qf_fact (fun w hs => hs.slice (v := ap2) (by repeat first | exact .head _ | refine .tail _ ?_)) ?_
      rintro ⟨w2, g2, d2, rfl⟩
      (refine qf_pure tabOk rfl rfl rfl ?_; refine qf_st0 tabOk rfl rfl rfl rfl (by repeat constructor) ?_; refine qf_pure tabOk rfl rfl rfl ?_; refine qf_st1 tabOk rfl rfl rfl rfl (by repeat constructor) ?_; refine qf_pure tabOk rfl rfl rfl ?_; refine qf_st2 tabOk rfl rfl rfl rfl (by repeat constructor) ?_; refine qf_nil ?_)
      refine hK1 _ _ (qx_nil ?_)
      have f0 : ints (endW (fun a _ => a) (fun _ b => b) (x.days.take (k + 1))).need = ints (endW (fun a _ => a) (fun _ b => b) (x.days.take k)).need ++ [.int .i64 n0] := by rw [e0]; simp [ints]
      have f1 : ints (endW (fun a _ => a) (fun _ b => b) (x.days.take (k + 1))).make = ints (endW (fun a _ => a) (fun _ b => b) (x.days.take k)).make ++ [.int .i64 m1] := by rw [e0]; simp [ints]
      have f2 : ints (endW (fun a _ => a) (fun _ b => b) (x.days.take (k + 1))).loss = ints (endW (fun a _ => a) (fun _ b => b) (x.days.take k)).loss ++ [.int .i64 l0] := by rw [e0]; simp [ints]
      (refine q_blk ?_; refine q_region ?_; refine ql_ar tabOk rfl rfl rfl rfl (by omega) (by omega) ?_; refine ql_pure tabOk rfl rfl ?_; refine q_nil ?_)
      exact hK (k + 1, .slice w0 g0 d0, .slice w1 g1 d1, .slice w2 g2 d2) _ _ (by simp only; omega) (by simp only; omega) ⟨rfl, rfl, rfl, rfl, rfl, rfl, rfl, rfl, trivial⟩ (by dsimp only; rw [f0, f1, f2]; repeat (first | exact Sp.nil | exact Sp.refl _ | refine Sp.cons (by repeat constructor) ?_))
    refine qx_let (σ := Nat × Value × Nat × Value × Nat × Unit) (chainT [14, 15, 20] (chainT [21, 22, 23, 24, 25, 26] .nil)) (fun ⟨lt0, ap0, lt1, ap1, lt2, ()⟩ => [(5, .pointer (some ⟨b5, 0, none⟩)), (6, .pointer (some ⟨b2, 0, none⟩)), (7, .slice la (hapV x (worstW x)).stocks.length lc), (9, .pointer (some ⟨b9, 0, none⟩)), (11, .pointer (some ⟨b11, 0, none⟩)), (13, .pointer (some ⟨b13, 0, none⟩)), (52, .slice (some ⟨g, 0, none⟩) x.days.length cd), (53, .int .i64 x.days.length), (54, .int .i64 k), (64, ap0), (71, ap1), (77, .slice (some ⟨lt2, 0, none⟩) 1 1)]) (fun ⟨lt0, ap0, lt1, ap1, lt2, ()⟩ => [.ow ap0 3 1 (k + 1) (ints (endW (fun a _ => a) (fun _ b => b) (x.days.take k)).need ++ [.int .i64 n0]), .ow ap1 3 1 (k + 1) (ints (endW (fun a _ => a) (fun _ b => b) (x.days.take k)).make ++ [.int .i64 m1]), .ow v3 3 1 k (ints (endW (fun a _ => a) (fun _ b => b) (x.days.take k)).loss), .pt lt2 [.int .i64 l0] 3, .pt b11 [v1, v2, v3] 107, .pt b13 [.int .i64 n0, .int .i64 n1, .int .i64 m0, .int .i64 m1, .int .i64 l0, .int .i64 l1] 73, .pt b9 [.slice av1 (worstW x).need.length cv1, .slice av2 (worstW x).make.length cv2, .slice av3 (worstW x).loss.length cv3] 107, .ow (.slice av1 (worstW x).need.length cv1) 3 1 (worstW x).need.length (ints (worstW x).need), .ow (.slice av2 (worstW x).make.length cv2) 3 1 (worstW x).make.length (ints (worstW x).make), .ow (.slice av3 (worstW x).loss.length cv3) 3 1 (worstW x).loss.length (ints (worstW x).loss), .ow (.slice la (hapV x (worstW x)).stocks.length lc) 24 2 (hapV x (worstW x)).stocks.length (spC (rngL (hapV x (worstW x)).stocks (hapV x (bestW x)).stocks)), dkP (.slice a2 n2 c2) b2 0, .ow (.slice (some ⟨g, 0, none⟩) x.days.length cd) 73 6 x.days.length (dyC x.days), .pt b5 (wnC x (some ⟨g, 0, none⟩) cd) 61]) ?_ (fun hS5_6_12_13_19 => ?_)
    · rintro ⟨lt0, ap0, lt1, ap1, lt2, _⟩
      refine qx_T [.ow ap0 3 1 (k + 1) (ints (endW (fun a _ => a) (fun _ b => b) (x.days.take k)).need ++ [.int .i64 n0]), .ow ap1 3 1 (k + 1) (ints (endW (fun a _ => a) (fun _ b => b) (x.days.take k)).make ++ [.int .i64 m1]), .ow v3 3 1 k (ints (endW (fun a _ => a) (fun _ b => b) (x.days.take k)).loss), .pt lt2 [.int .i64 l0] 3] (by repeat (first | exact PickL.nil | (apply PickL.cons; rfl))) rfl (by repeat (first | exact Sp.nil | exact Sp.refl _ | refine Sp.cons (by repeat constructor) ?_)) fun K1 hK1 => ?_
      (refine qf_pure tabOk rfl rfl rfl ?_; refine qf_loadB tabOk rfl rfl rfl (by repeat first | exact .head _ | refine .tail _ ?_) (by rfl) ?_)
      refine qf_append (q := 1) slI rfl rfl rfl (fun v' => by repeat constructor) (fun w' hs => ⟨_, _, Blk.rd (hs.blk (b := lt2) (by repeat first | exact .head _ | refine .tail _ ?_)) rfl 1⟩) (by simp [oneV]) (by omega) (by omega) (fun ap2 => ?_)
      (refine qf_nil ?_)
      exact hK1 _ _ (hS5_6_12_13_19_20 ⟨lt0, ap0, lt1, ap1, lt2, ap2, ()⟩ _ _ ⟨rfl, rfl, rfl, rfl, rfl, rfl, rfl, rfl, rfl, rfl, rfl, rfl, trivial⟩ (by repeat (first | exact Sp.nil | exact Sp.refl _ | refine Sp.cons (by repeat constructor) ?_)))
    refine qx_let (σ := Nat × Value × Nat × Value × Unit) (chainT [16, 17, 18, 19] (chainT [14, 15, 20] (chainT [21, 22, 23, 24, 25, 26] .nil))) (fun ⟨lt0, ap0, lt1, ap1, ()⟩ => [(5, .pointer (some ⟨b5, 0, none⟩)), (6, .pointer (some ⟨b2, 0, none⟩)), (7, .slice la (hapV x (worstW x)).stocks.length lc), (9, .pointer (some ⟨b9, 0, none⟩)), (11, .pointer (some ⟨b11, 0, none⟩)), (13, .pointer (some ⟨b13, 0, none⟩)), (52, .slice (some ⟨g, 0, none⟩) x.days.length cd), (53, .int .i64 x.days.length), (54, .int .i64 k), (64, ap0), (71, ap1)]) (fun ⟨lt0, ap0, lt1, ap1, ()⟩ => [.ow ap0 3 1 (k + 1) (ints (endW (fun a _ => a) (fun _ b => b) (x.days.take k)).need ++ [.int .i64 n0]), .ow ap1 3 1 (k + 1) (ints (endW (fun a _ => a) (fun _ b => b) (x.days.take k)).make ++ [.int .i64 m1]), .ow v3 3 1 k (ints (endW (fun a _ => a) (fun _ b => b) (x.days.take k)).loss), .pt b11 [v1, v2, v3] 107, .pt b13 [.int .i64 n0, .int .i64 n1, .int .i64 m0, .int .i64 m1, .int .i64 l0, .int .i64 l1] 73, .pt b9 [.slice av1 (worstW x).need.length cv1, .slice av2 (worstW x).make.length cv2, .slice av3 (worstW x).loss.length cv3] 107, .ow (.slice av1 (worstW x).need.length cv1) 3 1 (worstW x).need.length (ints (worstW x).need), .ow (.slice av2 (worstW x).make.length cv2) 3 1 (worstW x).make.length (ints (worstW x).make), .ow (.slice av3 (worstW x).loss.length cv3) 3 1 (worstW x).loss.length (ints (worstW x).loss), .ow (.slice la (hapV x (worstW x)).stocks.length lc) 24 2 (hapV x (worstW x)).stocks.length (spC (rngL (hapV x (worstW x)).stocks (hapV x (bestW x)).stocks)), dkP (.slice a2 n2 c2) b2 0, .ow (.slice (some ⟨g, 0, none⟩) x.days.length cd) 73 6 x.days.length (dyC x.days), .pt b5 (wnC x (some ⟨g, 0, none⟩) cd) 61]) ?_ (fun hS5_6_12_13 => ?_)
    · rintro ⟨lt0, ap0, lt1, ap1, _⟩
      refine qx_T [.ow ap0 3 1 (k + 1) (ints (endW (fun a _ => a) (fun _ b => b) (x.days.take k)).need ++ [.int .i64 n0]), .ow ap1 3 1 (k + 1) (ints (endW (fun a _ => a) (fun _ b => b) (x.days.take k)).make ++ [.int .i64 m1]), .ow v3 3 1 k (ints (endW (fun a _ => a) (fun _ b => b) (x.days.take k)).loss)] (by repeat (first | exact PickL.nil | (apply PickL.cons; rfl))) rfl (by repeat (first | exact Sp.nil | exact Sp.refl _ | refine Sp.cons (by repeat constructor) ?_)) fun K1 hK1 => ?_
      ((iterate 2 refine qf_pure tabOk rfl rfl rfl ?_); refine qf_loadB tabOk rfl rfl rfl (by repeat first | exact .head _ | refine .tail _ ?_) (by rfl) ?_)
      refine qf_mkS 3 [.int .i64 l0] rfl (by kernel_rfl) rfl (fun lt2 => ?_)
      (refine qf_nil ?_)
      exact hK1 _ _ (hS5_6_12_13_19 ⟨lt0, ap0, lt1, ap1, lt2, ()⟩ _ _ ⟨rfl, rfl, rfl, rfl, rfl, rfl, rfl, rfl, rfl, rfl, rfl, rfl, trivial⟩ (by repeat (first | exact Sp.nil | exact Sp.refl _ | refine Sp.cons (by repeat constructor) ?_)))
    refine qx_let (σ := Nat × Value × Nat × Nat × Unit) (chainT [7, 8, 13] (chainT [14, 15, 20] (chainT [21, 22, 23, 24, 25, 26] .nil))) (fun ⟨lt0, ap0, lt1, lt2, ()⟩ => [(5, .pointer (some ⟨b5, 0, none⟩)), (6, .pointer (some ⟨b2, 0, none⟩)), (7, .slice la (hapV x (worstW x)).stocks.length lc), (9, .pointer (some ⟨b9, 0, none⟩)), (11, .pointer (some ⟨b11, 0, none⟩)), (13, .pointer (some ⟨b13, 0, none⟩)), (52, .slice (some ⟨g, 0, none⟩) x.days.length cd), (53, .int .i64 x.days.length), (54, .int .i64 k), (64, ap0), (70, .slice (some ⟨lt1, 0, none⟩) 1 1), (77, .slice (some ⟨lt2, 0, none⟩) 1 1)]) (fun ⟨lt0, ap0, lt1, lt2, ()⟩ => [.ow ap0 3 1 (k + 1) (ints (endW (fun a _ => a) (fun _ b => b) (x.days.take k)).need ++ [.int .i64 n0]), .ow v2 3 1 k (ints (endW (fun a _ => a) (fun _ b => b) (x.days.take k)).make), .pt lt1 [.int .i64 m1] 3, .ow v3 3 1 k (ints (endW (fun a _ => a) (fun _ b => b) (x.days.take k)).loss), .pt lt2 [.int .i64 l0] 3, .pt b11 [v1, v2, v3] 107, .pt b13 [.int .i64 n0, .int .i64 n1, .int .i64 m0, .int .i64 m1, .int .i64 l0, .int .i64 l1] 73, .pt b9 [.slice av1 (worstW x).need.length cv1, .slice av2 (worstW x).make.length cv2, .slice av3 (worstW x).loss.length cv3] 107, .ow (.slice av1 (worstW x).need.length cv1) 3 1 (worstW x).need.length (ints (worstW x).need), .ow (.slice av2 (worstW x).make.length cv2) 3 1 (worstW x).make.length (ints (worstW x).make), .ow (.slice av3 (worstW x).loss.length cv3) 3 1 (worstW x).loss.length (ints (worstW x).loss), .ow (.slice la (hapV x (worstW x)).stocks.length lc) 24 2 (hapV x (worstW x)).stocks.length (spC (rngL (hapV x (worstW x)).stocks (hapV x (bestW x)).stocks)), dkP (.slice a2 n2 c2) b2 0, .ow (.slice (some ⟨g, 0, none⟩) x.days.length cd) 73 6 x.days.length (dyC x.days), .pt b5 (wnC x (some ⟨g, 0, none⟩) cd) 61]) ?_ (fun hS5_6_12_19 => ?_)
    · rintro ⟨lt0, ap0, lt1, lt2, _⟩
      refine qx_T [.ow ap0 3 1 (k + 1) (ints (endW (fun a _ => a) (fun _ b => b) (x.days.take k)).need ++ [.int .i64 n0]), .ow v2 3 1 k (ints (endW (fun a _ => a) (fun _ b => b) (x.days.take k)).make), .pt lt1 [.int .i64 m1] 3, .ow v3 3 1 k (ints (endW (fun a _ => a) (fun _ b => b) (x.days.take k)).loss), .pt lt2 [.int .i64 l0] 3] (by repeat (first | exact PickL.nil | (apply PickL.cons; rfl))) rfl (by repeat (first | exact Sp.nil | exact Sp.refl _ | refine Sp.cons (by repeat constructor) ?_)) fun K1 hK1 => ?_
      (refine qf_pure tabOk rfl rfl rfl ?_; refine qf_loadB tabOk rfl rfl rfl (by repeat first | exact .head _ | refine .tail _ ?_) (by rfl) ?_)
      refine qf_append (q := 1) slI rfl rfl rfl (fun v' => by repeat constructor) (fun w' hs => ⟨_, _, Blk.rd (hs.blk (b := lt1) (by repeat first | exact .head _ | refine .tail _ ?_)) rfl 1⟩) (by simp [oneV]) (by omega) (by omega) (fun ap1 => ?_)
      (refine qf_nil ?_)
      exact hK1 _ _ (hS5_6_12_13_19 ⟨lt0, ap0, lt1, ap1, lt2, ()⟩ _ _ ⟨rfl, rfl, rfl, rfl, rfl, rfl, rfl, rfl, rfl, rfl, rfl, rfl, trivial⟩ (by repeat (first | exact Sp.nil | exact Sp.refl _ | refine Sp.cons (by repeat constructor) ?_)))
    refine qx_let (σ := Nat × Value × Nat × Unit) (.alt (chainT [7, 8, 13] (chainT [16, 17, 18, 19] (chainT [14, 15, 20] (chainT [21, 22, 23, 24, 25, 26] .nil)))) (chainT [16, 17, 18, 19] (chainT [7, 8, 13] (chainT [14, 15, 20] (chainT [21, 22, 23, 24, 25, 26] .nil))))) (fun ⟨lt0, ap0, lt1, ()⟩ => [(5, .pointer (some ⟨b5, 0, none⟩)), (6, .pointer (some ⟨b2, 0, none⟩)), (7, .slice la (hapV x (worstW x)).stocks.length lc), (9, .pointer (some ⟨b9, 0, none⟩)), (11, .pointer (some ⟨b11, 0, none⟩)), (13, .pointer (some ⟨b13, 0, none⟩)), (52, .slice (some ⟨g, 0, none⟩) x.days.length cd), (53, .int .i64 x.days.length), (54, .int .i64 k), (64, ap0), (70, .slice (some ⟨lt1, 0, none⟩) 1 1)]) (fun ⟨lt0, ap0, lt1, ()⟩ => [.ow ap0 3 1 (k + 1) (ints (endW (fun a _ => a) (fun _ b => b) (x.days.take k)).need ++ [.int .i64 n0]), .ow v2 3 1 k (ints (endW (fun a _ => a) (fun _ b => b) (x.days.take k)).make), .pt lt1 [.int .i64 m1] 3, .ow v3 3 1 k (ints (endW (fun a _ => a) (fun _ b => b) (x.days.take k)).loss), .pt b11 [v1, v2, v3] 107, .pt b13 [.int .i64 n0, .int .i64 n1, .int .i64 m0, .int .i64 m1, .int .i64 l0, .int .i64 l1] 73, .pt b9 [.slice av1 (worstW x).need.length cv1, .slice av2 (worstW x).make.length cv2, .slice av3 (worstW x).loss.length cv3] 107, .ow (.slice av1 (worstW x).need.length cv1) 3 1 (worstW x).need.length (ints (worstW x).need), .ow (.slice av2 (worstW x).make.length cv2) 3 1 (worstW x).make.length (ints (worstW x).make), .ow (.slice av3 (worstW x).loss.length cv3) 3 1 (worstW x).loss.length (ints (worstW x).loss), .ow (.slice la (hapV x (worstW x)).stocks.length lc) 24 2 (hapV x (worstW x)).stocks.length (spC (rngL (hapV x (worstW x)).stocks (hapV x (bestW x)).stocks)), dkP (.slice a2 n2 c2) b2 0, .ow (.slice (some ⟨g, 0, none⟩) x.days.length cd) 73 6 x.days.length (dyC x.days), .pt b5 (wnC x (some ⟨g, 0, none⟩) cd) 61]) ?_ (fun hS5_6_12 => ?_)
    · rintro ⟨lt0, ap0, lt1, _⟩
      refine qx_alt ?_ ?_
      · skip
        refine qx_T [.ow ap0 3 1 (k + 1) (ints (endW (fun a _ => a) (fun _ b => b) (x.days.take k)).need ++ [.int .i64 n0]), .ow v2 3 1 k (ints (endW (fun a _ => a) (fun _ b => b) (x.days.take k)).make), .pt lt1 [.int .i64 m1] 3, .ow v3 3 1 k (ints (endW (fun a _ => a) (fun _ b => b) (x.days.take k)).loss)] (by repeat (first | exact PickL.nil | (apply PickL.cons; rfl))) rfl (by repeat (first | exact Sp.nil | exact Sp.refl _ | refine Sp.cons (by repeat constructor) ?_)) fun K1 hK1 => ?_
        (refine qf_pure tabOk rfl rfl rfl ?_; refine qf_loadB tabOk rfl rfl rfl (by repeat first | exact .head _ | refine .tail _ ?_) (by rfl) ?_)
        refine qf_append (q := 1) slI rfl rfl rfl (fun v' => by repeat constructor) (fun w' hs => ⟨_, _, Blk.rd (hs.blk (b := lt1) (by repeat first | exact .head _ | refine .tail _ ?_)) rfl 1⟩) (by simp [oneV]) (by omega) (by omega) (fun ap1 => ?_)
        (refine qf_nil ?_)
        exact hK1 _ _ (hS5_6_12_13 ⟨lt0, ap0, lt1, ap1, ()⟩ _ _ ⟨rfl, rfl, rfl, rfl, rfl, rfl, rfl, rfl, rfl, rfl, rfl, trivial⟩ (by repeat (first | exact Sp.nil | exact Sp.refl _ | refine Sp.cons (by repeat constructor) ?_)))
      · skip
        refine qx_T [.ow ap0 3 1 (k + 1) (ints (endW (fun a _ => a) (fun _ b => b) (x.days.take k)).need ++ [.int .i64 n0]), .ow v2 3 1 k (ints (endW (fun a _ => a) (fun _ b => b) (x.days.take k)).make), .pt lt1 [.int .i64 m1] 3, .ow v3 3 1 k (ints (endW (fun a _ => a) (fun _ b => b) (x.days.take k)).loss)] (by repeat (first | exact PickL.nil | (apply PickL.cons; rfl))) rfl (by repeat (first | exact Sp.nil | exact Sp.refl _ | refine Sp.cons (by repeat constructor) ?_)) fun K1 hK1 => ?_
        ((iterate 2 refine qf_pure tabOk rfl rfl rfl ?_); refine qf_loadB tabOk rfl rfl rfl (by repeat first | exact .head _ | refine .tail _ ?_) (by rfl) ?_)
        refine qf_mkS 3 [.int .i64 l0] rfl (by kernel_rfl) rfl (fun lt2 => ?_)
        (refine qf_nil ?_)
        exact hK1 _ _ (hS5_6_12_19 ⟨lt0, ap0, lt1, lt2, ()⟩ _ _ ⟨rfl, rfl, rfl, rfl, rfl, rfl, rfl, rfl, rfl, rfl, rfl, rfl, trivial⟩ (by repeat (first | exact Sp.nil | exact Sp.refl _ | refine Sp.cons (by repeat constructor) ?_)))
    refine qx_let (σ := Nat × Value × Nat × Unit) (chainT [9, 10, 11, 12] (chainT [7, 8, 13] (chainT [14, 15, 20] (chainT [21, 22, 23, 24, 25, 26] .nil)))) (fun ⟨lt0, ap0, lt2, ()⟩ => [(5, .pointer (some ⟨b5, 0, none⟩)), (6, .pointer (some ⟨b2, 0, none⟩)), (7, .slice la (hapV x (worstW x)).stocks.length lc), (9, .pointer (some ⟨b9, 0, none⟩)), (11, .pointer (some ⟨b11, 0, none⟩)), (13, .pointer (some ⟨b13, 0, none⟩)), (52, .slice (some ⟨g, 0, none⟩) x.days.length cd), (53, .int .i64 x.days.length), (54, .int .i64 k), (64, ap0), (77, .slice (some ⟨lt2, 0, none⟩) 1 1)]) (fun ⟨lt0, ap0, lt2, ()⟩ => [.ow ap0 3 1 (k + 1) (ints (endW (fun a _ => a) (fun _ b => b) (x.days.take k)).need ++ [.int .i64 n0]), .ow v2 3 1 k (ints (endW (fun a _ => a) (fun _ b => b) (x.days.take k)).make), .ow v3 3 1 k (ints (endW (fun a _ => a) (fun _ b => b) (x.days.take k)).loss), .pt lt2 [.int .i64 l0] 3, .pt b11 [v1, v2, v3] 107, .pt b13 [.int .i64 n0, .int .i64 n1, .int .i64 m0, .int .i64 m1, .int .i64 l0, .int .i64 l1] 73, .pt b9 [.slice av1 (worstW x).need.length cv1, .slice av2 (worstW x).make.length cv2, .slice av3 (worstW x).loss.length cv3] 107, .ow (.slice av1 (worstW x).need.length cv1) 3 1 (worstW x).need.length (ints (worstW x).need), .ow (.slice av2 (worstW x).make.length cv2) 3 1 (worstW x).make.length (ints (worstW x).make), .ow (.slice av3 (worstW x).loss.length cv3) 3 1 (worstW x).loss.length (ints (worstW x).loss), .ow (.slice la (hapV x (worstW x)).stocks.length lc) 24 2 (hapV x (worstW x)).stocks.length (spC (rngL (hapV x (worstW x)).stocks (hapV x (bestW x)).stocks)), dkP (.slice a2 n2 c2) b2 0, .ow (.slice (some ⟨g, 0, none⟩) x.days.length cd) 73 6 x.days.length (dyC x.days), .pt b5 (wnC x (some ⟨g, 0, none⟩) cd) 61]) ?_ (fun hS5_6_19 => ?_)
    · rintro ⟨lt0, ap0, lt2, _⟩
      refine qx_T [.ow ap0 3 1 (k + 1) (ints (endW (fun a _ => a) (fun _ b => b) (x.days.take k)).need ++ [.int .i64 n0]), .ow v2 3 1 k (ints (endW (fun a _ => a) (fun _ b => b) (x.days.take k)).make), .ow v3 3 1 k (ints (endW (fun a _ => a) (fun _ b => b) (x.days.take k)).loss), .pt lt2 [.int .i64 l0] 3] (by repeat (first | exact PickL.nil | (apply PickL.cons; rfl))) rfl (by repeat (first | exact Sp.nil | exact Sp.refl _ | refine Sp.cons (by repeat constructor) ?_)) fun K1 hK1 => ?_
      ((iterate 2 refine qf_pure tabOk rfl rfl rfl ?_); refine qf_loadB tabOk rfl rfl rfl (by repeat first | exact .head _ | refine .tail _ ?_) (by rfl) ?_)
      refine qf_mkS 3 [.int .i64 m1] rfl (by kernel_rfl) rfl (fun lt1 => ?_)
      (refine qf_nil ?_)
      exact hK1 _ _ (hS5_6_12_19 ⟨lt0, ap0, lt1, lt2, ()⟩ _ _ ⟨rfl, rfl, rfl, rfl, rfl, rfl, rfl, rfl, rfl, rfl, rfl, rfl, trivial⟩ (by repeat (first | exact Sp.nil | exact Sp.refl _ | refine Sp.cons (by repeat constructor) ?_)))
    refine qx_let (σ := Nat × Nat × Nat × Unit) (chainT [0, 1, 6] (chainT [7, 8, 13] (chainT [14, 15, 20] (chainT [21, 22, 23, 24, 25, 26] .nil)))) (fun ⟨lt0, lt1, lt2, ()⟩ => [(5, .pointer (some ⟨b5, 0, none⟩)), (6, .pointer (some ⟨b2, 0, none⟩)), (7, .slice la (hapV x (worstW x)).stocks.length lc), (9, .pointer (some ⟨b9, 0, none⟩)), (11, .pointer (some ⟨b11, 0, none⟩)), (13, .pointer (some ⟨b13, 0, none⟩)), (52, .slice (some ⟨g, 0, none⟩) x.days.length cd), (53, .int .i64 x.days.length), (54, .int .i64 k), (63, .slice (some ⟨lt0, 0, none⟩) 1 1), (70, .slice (some ⟨lt1, 0, none⟩) 1 1), (77, .slice (some ⟨lt2, 0, none⟩) 1 1)]) (fun ⟨lt0, lt1, lt2, ()⟩ => [.ow v1 3 1 k (ints (endW (fun a _ => a) (fun _ b => b) (x.days.take k)).need), .pt lt0 [.int .i64 n0] 3, .ow v2 3 1 k (ints (endW (fun a _ => a) (fun _ b => b) (x.days.take k)).make), .pt lt1 [.int .i64 m1] 3, .ow v3 3 1 k (ints (endW (fun a _ => a) (fun _ b => b) (x.days.take k)).loss), .pt lt2 [.int .i64 l0] 3, .pt b11 [v1, v2, v3] 107, .pt b13 [.int .i64 n0, .int .i64 n1, .int .i64 m0, .int .i64 m1, .int .i64 l0, .int .i64 l1] 73, .pt b9 [.slice av1 (worstW x).need.length cv1, .slice av2 (worstW x).make.length cv2, .slice av3 (worstW x).loss.length cv3] 107, .ow (.slice av1 (worstW x).need.length cv1) 3 1 (worstW x).need.length (ints (worstW x).need), .ow (.slice av2 (worstW x).make.length cv2) 3 1 (worstW x).make.length (ints (worstW x).make), .ow (.slice av3 (worstW x).loss.length cv3) 3 1 (worstW x).loss.length (ints (worstW x).loss), .ow (.slice la (hapV x (worstW x)).stocks.length lc) 24 2 (hapV x (worstW x)).stocks.length (spC (rngL (hapV x (worstW x)).stocks (hapV x (bestW x)).stocks)), dkP (.slice a2 n2 c2) b2 0, .ow (.slice (some ⟨g, 0, none⟩) x.days.length cd) 73 6 x.days.length (dyC x.days), .pt b5 (wnC x (some ⟨g, 0, none⟩) cd) 61]) ?_ (fun hS5_12_19 => ?_)
    · rintro ⟨lt0, lt1, lt2, _⟩
      refine qx_T [.ow v1 3 1 k (ints (endW (fun a _ => a) (fun _ b => b) (x.days.take k)).need), .pt lt0 [.int .i64 n0] 3, .ow v2 3 1 k (ints (endW (fun a _ => a) (fun _ b => b) (x.days.take k)).make), .pt lt1 [.int .i64 m1] 3, .ow v3 3 1 k (ints (endW (fun a _ => a) (fun _ b => b) (x.days.take k)).loss), .pt lt2 [.int .i64 l0] 3] (by repeat (first | exact PickL.nil | (apply PickL.cons; rfl))) rfl (by repeat (first | exact Sp.nil | exact Sp.refl _ | refine Sp.cons (by repeat constructor) ?_)) fun K1 hK1 => ?_
      (refine qf_pure tabOk rfl rfl rfl ?_; refine qf_loadB tabOk rfl rfl rfl (by repeat first | exact .head _ | refine .tail _ ?_) (by rfl) ?_)
      refine qf_append (q := 1) slI rfl rfl rfl (fun v' => by repeat constructor) (fun w' hs => ⟨_, _, Blk.rd (hs.blk (b := lt0) (by repeat first | exact .head _ | refine .tail _ ?_)) rfl 1⟩) (by simp [oneV]) (by omega) (by omega) (fun ap0 => ?_)
      (refine qf_nil ?_)
      exact hK1 _ _ (hS5_6_12_19 ⟨lt0, ap0, lt1, lt2, ()⟩ _ _ ⟨rfl, rfl, rfl, rfl, rfl, rfl, rfl, rfl, rfl, rfl, rfl, rfl, trivial⟩ (by repeat (first | exact Sp.nil | exact Sp.refl _ | refine Sp.cons (by repeat constructor) ?_)))
    refine qx_let (σ := Nat × Value × Unit) (.alt (chainT [9, 10, 11, 12] (.alt (chainT [7, 8, 13] (chainT [16, 17, 18, 19] (chainT [14, 15, 20] (chainT [21, 22, 23, 24, 25, 26] .nil)))) (chainT [16, 17, 18, 19] (chainT [7, 8, 13] (chainT [14, 15, 20] (chainT [21, 22, 23, 24, 25, 26] .nil)))))) (chainT [16, 17, 18, 19] (chainT [9, 10, 11, 12] (chainT [7, 8, 13] (chainT [14, 15, 20] (chainT [21, 22, 23, 24, 25, 26] .nil)))))) (fun ⟨lt0, ap0, ()⟩ => [(5, .pointer (some ⟨b5, 0, none⟩)), (6, .pointer (some ⟨b2, 0, none⟩)), (7, .slice la (hapV x (worstW x)).stocks.length lc), (9, .pointer (some ⟨b9, 0, none⟩)), (11, .pointer (some ⟨b11, 0, none⟩)), (13, .pointer (some ⟨b13, 0, none⟩)), (52, .slice (some ⟨g, 0, none⟩) x.days.length cd), (53, .int .i64 x.days.length), (54, .int .i64 k), (64, ap0)]) (fun ⟨lt0, ap0, ()⟩ => [.ow ap0 3 1 (k + 1) (ints (endW (fun a _ => a) (fun _ b => b) (x.days.take k)).need ++ [.int .i64 n0]), .ow v2 3 1 k (ints (endW (fun a _ => a) (fun _ b => b) (x.days.take k)).make), .ow v3 3 1 k (ints (endW (fun a _ => a) (fun _ b => b) (x.days.take k)).loss), .pt b11 [v1, v2, v3] 107, .pt b13 [.int .i64 n0, .int .i64 n1, .int .i64 m0, .int .i64 m1, .int .i64 l0, .int .i64 l1] 73, .pt b9 [.slice av1 (worstW x).need.length cv1, .slice av2 (worstW x).make.length cv2, .slice av3 (worstW x).loss.length cv3] 107, .ow (.slice av1 (worstW x).need.length cv1) 3 1 (worstW x).need.length (ints (worstW x).need), .ow (.slice av2 (worstW x).make.length cv2) 3 1 (worstW x).make.length (ints (worstW x).make), .ow (.slice av3 (worstW x).loss.length cv3) 3 1 (worstW x).loss.length (ints (worstW x).loss), .ow (.slice la (hapV x (worstW x)).stocks.length lc) 24 2 (hapV x (worstW x)).stocks.length (spC (rngL (hapV x (worstW x)).stocks (hapV x (bestW x)).stocks)), dkP (.slice a2 n2 c2) b2 0, .ow (.slice (some ⟨g, 0, none⟩) x.days.length cd) 73 6 x.days.length (dyC x.days), .pt b5 (wnC x (some ⟨g, 0, none⟩) cd) 61]) ?_ (fun hS5_6 => ?_)
    · rintro ⟨lt0, ap0, _⟩
      refine qx_alt ?_ ?_
      · skip
        refine qx_T [.ow ap0 3 1 (k + 1) (ints (endW (fun a _ => a) (fun _ b => b) (x.days.take k)).need ++ [.int .i64 n0]), .ow v2 3 1 k (ints (endW (fun a _ => a) (fun _ b => b) (x.days.take k)).make), .ow v3 3 1 k (ints (endW (fun a _ => a) (fun _ b => b) (x.days.take k)).loss)] (by repeat (first | exact PickL.nil | (apply PickL.cons; rfl))) rfl (by repeat (first | exact Sp.nil | exact Sp.refl _ | refine Sp.cons (by repeat constructor) ?_)) fun K1 hK1 => ?_
        ((iterate 2 refine qf_pure tabOk rfl rfl rfl ?_); refine qf_loadB tabOk rfl rfl rfl (by repeat first | exact .head _ | refine .tail _ ?_) (by rfl) ?_)
        refine qf_mkS 3 [.int .i64 m1] rfl (by kernel_rfl) rfl (fun lt1 => ?_)
        (refine qf_nil ?_)
        exact hK1 _ _ (hS5_6_12 ⟨lt0, ap0, lt1, ()⟩ _ _ ⟨rfl, rfl, rfl, rfl, rfl, rfl, rfl, rfl, rfl, rfl, rfl, trivial⟩ (by repeat (first | exact Sp.nil | exact Sp.refl _ | refine Sp.cons (by repeat constructor) ?_)))
      · skip
        refine qx_T [.ow ap0 3 1 (k + 1) (ints (endW (fun a _ => a) (fun _ b => b) (x.days.take k)).need ++ [.int .i64 n0]), .ow v2 3 1 k (ints (endW (fun a _ => a) (fun _ b => b) (x.days.take k)).make), .ow v3 3 1 k (ints (endW (fun a _ => a) (fun _ b => b) (x.days.take k)).loss)] (by repeat (first | exact PickL.nil | (apply PickL.cons; rfl))) rfl (by repeat (first | exact Sp.nil | exact Sp.refl _ | refine Sp.cons (by repeat constructor) ?_)) fun K1 hK1 => ?_
        ((iterate 2 refine qf_pure tabOk rfl rfl rfl ?_); refine qf_loadB tabOk rfl rfl rfl (by repeat first | exact .head _ | refine .tail _ ?_) (by rfl) ?_)
        refine qf_mkS 3 [.int .i64 l0] rfl (by kernel_rfl) rfl (fun lt2 => ?_)
        (refine qf_nil ?_)
        exact hK1 _ _ (hS5_6_19 ⟨lt0, ap0, lt2, ()⟩ _ _ ⟨rfl, rfl, rfl, rfl, rfl, rfl, rfl, rfl, rfl, rfl, rfl, trivial⟩ (by repeat (first | exact Sp.nil | exact Sp.refl _ | refine Sp.cons (by repeat constructor) ?_)))
    refine qx_let (σ := Nat × Nat × Unit) (.alt (chainT [0, 1, 6] (.alt (chainT [7, 8, 13] (chainT [16, 17, 18, 19] (chainT [14, 15, 20] (chainT [21, 22, 23, 24, 25, 26] .nil)))) (chainT [16, 17, 18, 19] (chainT [7, 8, 13] (chainT [14, 15, 20] (chainT [21, 22, 23, 24, 25, 26] .nil)))))) (chainT [16, 17, 18, 19] (chainT [0, 1, 6] (chainT [7, 8, 13] (chainT [14, 15, 20] (chainT [21, 22, 23, 24, 25, 26] .nil)))))) (fun ⟨lt0, lt1, ()⟩ => [(5, .pointer (some ⟨b5, 0, none⟩)), (6, .pointer (some ⟨b2, 0, none⟩)), (7, .slice la (hapV x (worstW x)).stocks.length lc), (9, .pointer (some ⟨b9, 0, none⟩)), (11, .pointer (some ⟨b11, 0, none⟩)), (13, .pointer (some ⟨b13, 0, none⟩)), (52, .slice (some ⟨g, 0, none⟩) x.days.length cd), (53, .int .i64 x.days.length), (54, .int .i64 k), (63, .slice (some ⟨lt0, 0, none⟩) 1 1), (70, .slice (some ⟨lt1, 0, none⟩) 1 1)]) (fun ⟨lt0, lt1, ()⟩ => [.ow v1 3 1 k (ints (endW (fun a _ => a) (fun _ b => b) (x.days.take k)).need), .pt lt0 [.int .i64 n0] 3, .ow v2 3 1 k (ints (endW (fun a _ => a) (fun _ b => b) (x.days.take k)).make), .pt lt1 [.int .i64 m1] 3, .ow v3 3 1 k (ints (endW (fun a _ => a) (fun _ b => b) (x.days.take k)).loss), .pt b11 [v1, v2, v3] 107, .pt b13 [.int .i64 n0, .int .i64 n1, .int .i64 m0, .int .i64 m1, .int .i64 l0, .int .i64 l1] 73, .pt b9 [.slice av1 (worstW x).need.length cv1, .slice av2 (worstW x).make.length cv2, .slice av3 (worstW x).loss.length cv3] 107, .ow (.slice av1 (worstW x).need.length cv1) 3 1 (worstW x).need.length (ints (worstW x).need), .ow (.slice av2 (worstW x).make.length cv2) 3 1 (worstW x).make.length (ints (worstW x).make), .ow (.slice av3 (worstW x).loss.length cv3) 3 1 (worstW x).loss.length (ints (worstW x).loss), .ow (.slice la (hapV x (worstW x)).stocks.length lc) 24 2 (hapV x (worstW x)).stocks.length (spC (rngL (hapV x (worstW x)).stocks (hapV x (bestW x)).stocks)), dkP (.slice a2 n2 c2) b2 0, .ow (.slice (some ⟨g, 0, none⟩) x.days.length cd) 73 6 x.days.length (dyC x.days), .pt b5 (wnC x (some ⟨g, 0, none⟩) cd) 61]) ?_ (fun hS5_12 => ?_)
    · rintro ⟨lt0, lt1, _⟩
      refine qx_alt ?_ ?_
      · skip
        refine qx_T [.ow v1 3 1 k (ints (endW (fun a _ => a) (fun _ b => b) (x.days.take k)).need), .pt lt0 [.int .i64 n0] 3, .ow v2 3 1 k (ints (endW (fun a _ => a) (fun _ b => b) (x.days.take k)).make), .pt lt1 [.int .i64 m1] 3, .ow v3 3 1 k (ints (endW (fun a _ => a) (fun _ b => b) (x.days.take k)).loss)] (by repeat (first | exact PickL.nil | (apply PickL.cons; rfl))) rfl (by repeat (first | exact Sp.nil | exact Sp.refl _ | refine Sp.cons (by repeat constructor) ?_)) fun K1 hK1 => ?_
        (refine qf_pure tabOk rfl rfl rfl ?_; refine qf_loadB tabOk rfl rfl rfl (by repeat first | exact .head _ | refine .tail _ ?_) (by rfl) ?_)
        refine qf_append (q := 1) slI rfl rfl rfl (fun v' => by repeat constructor) (fun w' hs => ⟨_, _, Blk.rd (hs.blk (b := lt0) (by repeat first | exact .head _ | refine .tail _ ?_)) rfl 1⟩) (by simp [oneV]) (by omega) (by omega) (fun ap0 => ?_)
        (refine qf_nil ?_)
        exact hK1 _ _ (hS5_6_12 ⟨lt0, ap0, lt1, ()⟩ _ _ ⟨rfl, rfl, rfl, rfl, rfl, rfl, rfl, rfl, rfl, rfl, rfl, trivial⟩ (by repeat (first | exact Sp.nil | exact Sp.refl _ | refine Sp.cons (by repeat constructor) ?_)))
      · skip
        refine qx_T [.ow v1 3 1 k (ints (endW (fun a _ => a) (fun _ b => b) (x.days.take k)).need), .pt lt0 [.int .i64 n0] 3, .ow v2 3 1 k (ints (endW (fun a _ => a) (fun _ b => b) (x.days.take k)).make), .pt lt1 [.int .i64 m1] 3, .ow v3 3 1 k (ints (endW (fun a _ => a) (fun _ b => b) (x.days.take k)).loss)] (by repeat (first | exact PickL.nil | (apply PickL.cons; rfl))) rfl (by repeat (first | exact Sp.nil | exact Sp.refl _ | refine Sp.cons (by repeat constructor) ?_)) fun K1 hK1 => ?_
        ((iterate 2 refine qf_pure tabOk rfl rfl rfl ?_); refine qf_loadB tabOk rfl rfl rfl (by repeat first | exact .head _ | refine .tail _ ?_) (by rfl) ?_)
        refine qf_mkS 3 [.int .i64 l0] rfl (by kernel_rfl) rfl (fun lt2 => ?_)
        (refine qf_nil ?_)
        exact hK1 _ _ (hS5_12_19 ⟨lt0, lt1, lt2, ()⟩ _ _ ⟨rfl, rfl, rfl, rfl, rfl, rfl, rfl, rfl, rfl, rfl, rfl, rfl, trivial⟩ (by repeat (first | exact Sp.nil | exact Sp.refl _ | refine Sp.cons (by repeat constructor) ?_)))
    refine qx_let (σ := Nat × Nat × Unit) (.alt (chainT [0, 1, 6] (chainT [9, 10, 11, 12] (chainT [7, 8, 13] (chainT [14, 15, 20] (chainT [21, 22, 23, 24, 25, 26] .nil))))) (chainT [9, 10, 11, 12] (chainT [0, 1, 6] (chainT [7, 8, 13] (chainT [14, 15, 20] (chainT [21, 22, 23, 24, 25, 26] .nil)))))) (fun ⟨lt0, lt2, ()⟩ => [(5, .pointer (some ⟨b5, 0, none⟩)), (6, .pointer (some ⟨b2, 0, none⟩)), (7, .slice la (hapV x (worstW x)).stocks.length lc), (9, .pointer (some ⟨b9, 0, none⟩)), (11, .pointer (some ⟨b11, 0, none⟩)), (13, .pointer (some ⟨b13, 0, none⟩)), (52, .slice (some ⟨g, 0, none⟩) x.days.length cd), (53, .int .i64 x.days.length), (54, .int .i64 k), (63, .slice (some ⟨lt0, 0, none⟩) 1 1), (77, .slice (some ⟨lt2, 0, none⟩) 1 1)]) (fun ⟨lt0, lt2, ()⟩ => [.ow v1 3 1 k (ints (endW (fun a _ => a) (fun _ b => b) (x.days.take k)).need), .pt lt0 [.int .i64 n0] 3, .ow v2 3 1 k (ints (endW (fun a _ => a) (fun _ b => b) (x.days.take k)).make), .ow v3 3 1 k (ints (endW (fun a _ => a) (fun _ b => b) (x.days.take k)).loss), .pt lt2 [.int .i64 l0] 3, .pt b11 [v1, v2, v3] 107, .pt b13 [.int .i64 n0, .int .i64 n1, .int .i64 m0, .int .i64 m1, .int .i64 l0, .int .i64 l1] 73, .pt b9 [.slice av1 (worstW x).need.length cv1, .slice av2 (worstW x).make.length cv2, .slice av3 (worstW x).loss.length cv3] 107, .ow (.slice av1 (worstW x).need.length cv1) 3 1 (worstW x).need.length (ints (worstW x).need), .ow (.slice av2 (worstW x).make.length cv2) 3 1 (worstW x).make.length (ints (worstW x).make), .ow (.slice av3 (worstW x).loss.length cv3) 3 1 (worstW x).loss.length (ints (worstW x).loss), .ow (.slice la (hapV x (worstW x)).stocks.length lc) 24 2 (hapV x (worstW x)).stocks.length (spC (rngL (hapV x (worstW x)).stocks (hapV x (bestW x)).stocks)), dkP (.slice a2 n2 c2) b2 0, .ow (.slice (some ⟨g, 0, none⟩) x.days.length cd) 73 6 x.days.length (dyC x.days), .pt b5 (wnC x (some ⟨g, 0, none⟩) cd) 61]) ?_ (fun hS5_19 => ?_)
    · rintro ⟨lt0, lt2, _⟩
      refine qx_alt ?_ ?_
      · skip
        refine qx_T [.ow v1 3 1 k (ints (endW (fun a _ => a) (fun _ b => b) (x.days.take k)).need), .pt lt0 [.int .i64 n0] 3, .ow v2 3 1 k (ints (endW (fun a _ => a) (fun _ b => b) (x.days.take k)).make), .ow v3 3 1 k (ints (endW (fun a _ => a) (fun _ b => b) (x.days.take k)).loss), .pt lt2 [.int .i64 l0] 3] (by repeat (first | exact PickL.nil | (apply PickL.cons; rfl))) rfl (by repeat (first | exact Sp.nil | exact Sp.refl _ | refine Sp.cons (by repeat constructor) ?_)) fun K1 hK1 => ?_
        (refine qf_pure tabOk rfl rfl rfl ?_; refine qf_loadB tabOk rfl rfl rfl (by repeat first | exact .head _ | refine .tail _ ?_) (by rfl) ?_)
        refine qf_append (q := 1) slI rfl rfl rfl (fun v' => by repeat constructor) (fun w' hs => ⟨_, _, Blk.rd (hs.blk (b := lt0) (by repeat first | exact .head _ | refine .tail _ ?_)) rfl 1⟩) (by simp [oneV]) (by omega) (by omega) (fun ap0 => ?_)
        (refine qf_nil ?_)
        exact hK1 _ _ (hS5_6_19 ⟨lt0, ap0, lt2, ()⟩ _ _ ⟨rfl, rfl, rfl, rfl, rfl, rfl, rfl, rfl, rfl, rfl, rfl, trivial⟩ (by repeat (first | exact Sp.nil | exact Sp.refl _ | refine Sp.cons (by repeat constructor) ?_)))
      · skip
        refine qx_T [.ow v1 3 1 k (ints (endW (fun a _ => a) (fun _ b => b) (x.days.take k)).need), .pt lt0 [.int .i64 n0] 3, .ow v2 3 1 k (ints (endW (fun a _ => a) (fun _ b => b) (x.days.take k)).make), .ow v3 3 1 k (ints (endW (fun a _ => a) (fun _ b => b) (x.days.take k)).loss), .pt lt2 [.int .i64 l0] 3] (by repeat (first | exact PickL.nil | (apply PickL.cons; rfl))) rfl (by repeat (first | exact Sp.nil | exact Sp.refl _ | refine Sp.cons (by repeat constructor) ?_)) fun K1 hK1 => ?_
        ((iterate 2 refine qf_pure tabOk rfl rfl rfl ?_); refine qf_loadB tabOk rfl rfl rfl (by repeat first | exact .head _ | refine .tail _ ?_) (by rfl) ?_)
        refine qf_mkS 3 [.int .i64 m1] rfl (by kernel_rfl) rfl (fun lt1 => ?_)
        (refine qf_nil ?_)
        exact hK1 _ _ (hS5_12_19 ⟨lt0, lt1, lt2, ()⟩ _ _ ⟨rfl, rfl, rfl, rfl, rfl, rfl, rfl, rfl, rfl, rfl, rfl, rfl, trivial⟩ (by repeat (first | exact Sp.nil | exact Sp.refl _ | refine Sp.cons (by repeat constructor) ?_)))
    refine qx_let (σ := Nat × Nat × Unit) (chainT [2, 3, 4, 5] (chainT [0, 1, 6] (chainT [7, 8, 13] (chainT [14, 15, 20] (chainT [21, 22, 23, 24, 25, 26] .nil))))) (fun ⟨lt1, lt2, ()⟩ => [(5, .pointer (some ⟨b5, 0, none⟩)), (6, .pointer (some ⟨b2, 0, none⟩)), (7, .slice la (hapV x (worstW x)).stocks.length lc), (9, .pointer (some ⟨b9, 0, none⟩)), (11, .pointer (some ⟨b11, 0, none⟩)), (13, .pointer (some ⟨b13, 0, none⟩)), (52, .slice (some ⟨g, 0, none⟩) x.days.length cd), (53, .int .i64 x.days.length), (54, .int .i64 k), (70, .slice (some ⟨lt1, 0, none⟩) 1 1), (77, .slice (some ⟨lt2, 0, none⟩) 1 1)]) (fun ⟨lt1, lt2, ()⟩ => [.ow v1 3 1 k (ints (endW (fun a _ => a) (fun _ b => b) (x.days.take k)).need), .ow v2 3 1 k (ints (endW (fun a _ => a) (fun _ b => b) (x.days.take k)).make), .pt lt1 [.int .i64 m1] 3, .ow v3 3 1 k (ints (endW (fun a _ => a) (fun _ b => b) (x.days.take k)).loss), .pt lt2 [.int .i64 l0] 3, .pt b11 [v1, v2, v3] 107, .pt b13 [.int .i64 n0, .int .i64 n1, .int .i64 m0, .int .i64 m1, .int .i64 l0, .int .i64 l1] 73, .pt b9 [.slice av1 (worstW x).need.length cv1, .slice av2 (worstW x).make.length cv2, .slice av3 (worstW x).loss.length cv3] 107, .ow (.slice av1 (worstW x).need.length cv1) 3 1 (worstW x).need.length (ints (worstW x).need), .ow (.slice av2 (worstW x).make.length cv2) 3 1 (worstW x).make.length (ints (worstW x).make), .ow (.slice av3 (worstW x).loss.length cv3) 3 1 (worstW x).loss.length (ints (worstW x).loss), .ow (.slice la (hapV x (worstW x)).stocks.length lc) 24 2 (hapV x (worstW x)).stocks.length (spC (rngL (hapV x (worstW x)).stocks (hapV x (bestW x)).stocks)), dkP (.slice a2 n2 c2) b2 0, .ow (.slice (some ⟨g, 0, none⟩) x.days.length cd) 73 6 x.days.length (dyC x.days), .pt b5 (wnC x (some ⟨g, 0, none⟩) cd) 61]) ?_ (fun hS12_19 => ?_)
    · rintro ⟨lt1, lt2, _⟩
      refine qx_T [.ow v1 3 1 k (ints (endW (fun a _ => a) (fun _ b => b) (x.days.take k)).need), .ow v2 3 1 k (ints (endW (fun a _ => a) (fun _ b => b) (x.days.take k)).make), .pt lt1 [.int .i64 m1] 3, .ow v3 3 1 k (ints (endW (fun a _ => a) (fun _ b => b) (x.days.take k)).loss), .pt lt2 [.int .i64 l0] 3] (by repeat (first | exact PickL.nil | (apply PickL.cons; rfl))) rfl (by repeat (first | exact Sp.nil | exact Sp.refl _ | refine Sp.cons (by repeat constructor) ?_)) fun K1 hK1 => ?_
      ((iterate 2 refine qf_pure tabOk rfl rfl rfl ?_); refine qf_loadB tabOk rfl rfl rfl (by repeat first | exact .head _ | refine .tail _ ?_) (by rfl) ?_)
      refine qf_mkS 3 [.int .i64 n0] rfl (by kernel_rfl) rfl (fun lt0 => ?_)
      (refine qf_nil ?_)
      exact hK1 _ _ (hS5_12_19 ⟨lt0, lt1, lt2, ()⟩ _ _ ⟨rfl, rfl, rfl, rfl, rfl, rfl, rfl, rfl, rfl, rfl, rfl, rfl, trivial⟩ (by repeat (first | exact Sp.nil | exact Sp.refl _ | refine Sp.cons (by repeat constructor) ?_)))
    refine qx_let (σ := Nat × Unit) (.alt (chainT [0, 1, 6] (.alt (chainT [9, 10, 11, 12] (.alt (chainT [7, 8, 13] (chainT [16, 17, 18, 19] (chainT [14, 15, 20] (chainT [21, 22, 23, 24, 25, 26] .nil)))) (chainT [16, 17, 18, 19] (chainT [7, 8, 13] (chainT [14, 15, 20] (chainT [21, 22, 23, 24, 25, 26] .nil)))))) (chainT [16, 17, 18, 19] (chainT [9, 10, 11, 12] (chainT [7, 8, 13] (chainT [14, 15, 20] (chainT [21, 22, 23, 24, 25, 26] .nil))))))) (.alt (chainT [9, 10, 11, 12] (.alt (chainT [0, 1, 6] (.alt (chainT [7, 8, 13] (chainT [16, 17, 18, 19] (chainT [14, 15, 20] (chainT [21, 22, 23, 24, 25, 26] .nil)))) (chainT [16, 17, 18, 19] (chainT [7, 8, 13] (chainT [14, 15, 20] (chainT [21, 22, 23, 24, 25, 26] .nil)))))) (chainT [16, 17, 18, 19] (chainT [0, 1, 6] (chainT [7, 8, 13] (chainT [14, 15, 20] (chainT [21, 22, 23, 24, 25, 26] .nil))))))) (chainT [16, 17, 18, 19] (.alt (chainT [0, 1, 6] (chainT [9, 10, 11, 12] (chainT [7, 8, 13] (chainT [14, 15, 20] (chainT [21, 22, 23, 24, 25, 26] .nil))))) (chainT [9, 10, 11, 12] (chainT [0, 1, 6] (chainT [7, 8, 13] (chainT [14, 15, 20] (chainT [21, 22, 23, 24, 25, 26] .nil))))))))) (fun ⟨lt0, ()⟩ => [(5, .pointer (some ⟨b5, 0, none⟩)), (6, .pointer (some ⟨b2, 0, none⟩)), (7, .slice la (hapV x (worstW x)).stocks.length lc), (9, .pointer (some ⟨b9, 0, none⟩)), (11, .pointer (some ⟨b11, 0, none⟩)), (13, .pointer (some ⟨b13, 0, none⟩)), (52, .slice (some ⟨g, 0, none⟩) x.days.length cd), (53, .int .i64 x.days.length), (54, .int .i64 k), (63, .slice (some ⟨lt0, 0, none⟩) 1 1)]) (fun ⟨lt0, ()⟩ => [.ow v1 3 1 k (ints (endW (fun a _ => a) (fun _ b => b) (x.days.take k)).need), .pt lt0 [.int .i64 n0] 3, .ow v2 3 1 k (ints (endW (fun a _ => a) (fun _ b => b) (x.days.take k)).make), .ow v3 3 1 k (ints (endW (fun a _ => a) (fun _ b => b) (x.days.take k)).loss), .pt b11 [v1, v2, v3] 107, .pt b13 [.int .i64 n0, .int .i64 n1, .int .i64 m0, .int .i64 m1, .int .i64 l0, .int .i64 l1] 73, .pt b9 [.slice av1 (worstW x).need.length cv1, .slice av2 (worstW x).make.length cv2, .slice av3 (worstW x).loss.length cv3] 107, .ow (.slice av1 (worstW x).need.length cv1) 3 1 (worstW x).need.length (ints (worstW x).need), .ow (.slice av2 (worstW x).make.length cv2) 3 1 (worstW x).make.length (ints (worstW x).make), .ow (.slice av3 (worstW x).loss.length cv3) 3 1 (worstW x).loss.length (ints (worstW x).loss), .ow (.slice la (hapV x (worstW x)).stocks.length lc) 24 2 (hapV x (worstW x)).stocks.length (spC (rngL (hapV x (worstW x)).stocks (hapV x (bestW x)).stocks)), dkP (.slice a2 n2 c2) b2 0, .ow (.slice (some ⟨g, 0, none⟩) x.days.length cd) 73 6 x.days.length (dyC x.days), .pt b5 (wnC x (some ⟨g, 0, none⟩) cd) 61]) ?_ (fun hS5 => ?_)
    · rintro ⟨lt0, _⟩
      refine qx_alt ?_ (qx_alt ?_ ?_)
      · skip
        refine qx_T [.ow v1 3 1 k (ints (endW (fun a _ => a) (fun _ b => b) (x.days.take k)).need), .pt lt0 [.int .i64 n0] 3, .ow v2 3 1 k (ints (endW (fun a _ => a) (fun _ b => b) (x.days.take k)).make), .ow v3 3 1 k (ints (endW (fun a _ => a) (fun _ b => b) (x.days.take k)).loss)] (by repeat (first | exact PickL.nil | (apply PickL.cons; rfl))) rfl (by repeat (first | exact Sp.nil | exact Sp.refl _ | refine Sp.cons (by repeat constructor) ?_)) fun K1 hK1 => ?_
        (refine qf_pure tabOk rfl rfl rfl ?_; refine qf_loadB tabOk rfl rfl rfl (by repeat first | exact .head _ | refine .tail _ ?_) (by rfl) ?_)
        refine qf_append (q := 1) slI rfl rfl rfl (fun v' => by repeat constructor) (fun w' hs => ⟨_, _, Blk.rd (hs.blk (b := lt0) (by repeat first | exact .head _ | refine .tail _ ?_)) rfl 1⟩) (by simp [oneV]) (by omega) (by omega) (fun ap0 => ?_)
        (refine qf_nil ?_)
        exact hK1 _ _ (hS5_6 ⟨lt0, ap0, ()⟩ _ _ ⟨rfl, rfl, rfl, rfl, rfl, rfl, rfl, rfl, rfl, rfl, trivial⟩ (by repeat (first | exact Sp.nil | exact Sp.refl _ | refine Sp.cons (by repeat constructor) ?_)))
      · skip
        refine qx_T [.ow v1 3 1 k (ints (endW (fun a _ => a) (fun _ b => b) (x.days.take k)).need), .pt lt0 [.int .i64 n0] 3, .ow v2 3 1 k (ints (endW (fun a _ => a) (fun _ b => b) (x.days.take k)).make), .ow v3 3 1 k (ints (endW (fun a _ => a) (fun _ b => b) (x.days.take k)).loss)] (by repeat (first | exact PickL.nil | (apply PickL.cons; rfl))) rfl (by repeat (first | exact Sp.nil | exact Sp.refl _ | refine Sp.cons (by repeat constructor) ?_)) fun K1 hK1 => ?_
        ((iterate 2 refine qf_pure tabOk rfl rfl rfl ?_); refine qf_loadB tabOk rfl rfl rfl (by repeat first | exact .head _ | refine .tail _ ?_) (by rfl) ?_)
        refine qf_mkS 3 [.int .i64 m1] rfl (by kernel_rfl) rfl (fun lt1 => ?_)
        (refine qf_nil ?_)
        exact hK1 _ _ (hS5_12 ⟨lt0, lt1, ()⟩ _ _ ⟨rfl, rfl, rfl, rfl, rfl, rfl, rfl, rfl, rfl, rfl, rfl, trivial⟩ (by repeat (first | exact Sp.nil | exact Sp.refl _ | refine Sp.cons (by repeat constructor) ?_)))
      · skip
        refine qx_T [.ow v1 3 1 k (ints (endW (fun a _ => a) (fun _ b => b) (x.days.take k)).need), .pt lt0 [.int .i64 n0] 3, .ow v2 3 1 k (ints (endW (fun a _ => a) (fun _ b => b) (x.days.take k)).make), .ow v3 3 1 k (ints (endW (fun a _ => a) (fun _ b => b) (x.days.take k)).loss)] (by repeat (first | exact PickL.nil | (apply PickL.cons; rfl))) rfl (by repeat (first | exact Sp.nil | exact Sp.refl _ | refine Sp.cons (by repeat constructor) ?_)) fun K1 hK1 => ?_
        ((iterate 2 refine qf_pure tabOk rfl rfl rfl ?_); refine qf_loadB tabOk rfl rfl rfl (by repeat first | exact .head _ | refine .tail _ ?_) (by rfl) ?_)
        refine qf_mkS 3 [.int .i64 l0] rfl (by kernel_rfl) rfl (fun lt2 => ?_)
        (refine qf_nil ?_)
        exact hK1 _ _ (hS5_19 ⟨lt0, lt2, ()⟩ _ _ ⟨rfl, rfl, rfl, rfl, rfl, rfl, rfl, rfl, rfl, rfl, rfl, trivial⟩ (by repeat (first | exact Sp.nil | exact Sp.refl _ | refine Sp.cons (by repeat constructor) ?_)))
    refine qx_let (σ := Nat × Unit) (.alt (chainT [2, 3, 4, 5] (.alt (chainT [0, 1, 6] (.alt (chainT [7, 8, 13] (chainT [16, 17, 18, 19] (chainT [14, 15, 20] (chainT [21, 22, 23, 24, 25, 26] .nil)))) (chainT [16, 17, 18, 19] (chainT [7, 8, 13] (chainT [14, 15, 20] (chainT [21, 22, 23, 24, 25, 26] .nil)))))) (chainT [16, 17, 18, 19] (chainT [0, 1, 6] (chainT [7, 8, 13] (chainT [14, 15, 20] (chainT [21, 22, 23, 24, 25, 26] .nil))))))) (chainT [16, 17, 18, 19] (chainT [2, 3, 4, 5] (chainT [0, 1, 6] (chainT [7, 8, 13] (chainT [14, 15, 20] (chainT [21, 22, 23, 24, 25, 26] .nil))))))) (fun ⟨lt1, ()⟩ => [(5, .pointer (some ⟨b5, 0, none⟩)), (6, .pointer (some ⟨b2, 0, none⟩)), (7, .slice la (hapV x (worstW x)).stocks.length lc), (9, .pointer (some ⟨b9, 0, none⟩)), (11, .pointer (some ⟨b11, 0, none⟩)), (13, .pointer (some ⟨b13, 0, none⟩)), (52, .slice (some ⟨g, 0, none⟩) x.days.length cd), (53, .int .i64 x.days.length), (54, .int .i64 k), (70, .slice (some ⟨lt1, 0, none⟩) 1 1)]) (fun ⟨lt1, ()⟩ => [.ow v1 3 1 k (ints (endW (fun a _ => a) (fun _ b => b) (x.days.take k)).need), .ow v2 3 1 k (ints (endW (fun a _ => a) (fun _ b => b) (x.days.take k)).make), .pt lt1 [.int .i64 m1] 3, .ow v3 3 1 k (ints (endW (fun a _ => a) (fun _ b => b) (x.days.take k)).loss), .pt b11 [v1, v2, v3] 107, .pt b13 [.int .i64 n0, .int .i64 n1, .int .i64 m0, .int .i64 m1, .int .i64 l0, .int .i64 l1] 73, .pt b9 [.slice av1 (worstW x).need.length cv1, .slice av2 (worstW x).make.length cv2, .slice av3 (worstW x).loss.length cv3] 107, .ow (.slice av1 (worstW x).need.length cv1) 3 1 (worstW x).need.length (ints (worstW x).need), .ow (.slice av2 (worstW x).make.length cv2) 3 1 (worstW x).make.length (ints (worstW x).make), .ow (.slice av3 (worstW x).loss.length cv3) 3 1 (worstW x).loss.length (ints (worstW x).loss), .ow (.slice la (hapV x (worstW x)).stocks.length lc) 24 2 (hapV x (worstW x)).stocks.length (spC (rngL (hapV x (worstW x)).stocks (hapV x (bestW x)).stocks)), dkP (.slice a2 n2 c2) b2 0, .ow (.slice (some ⟨g, 0, none⟩) x.days.length cd) 73 6 x.days.length (dyC x.days), .pt b5 (wnC x (some ⟨g, 0, none⟩) cd) 61]) ?_ (fun hS12 => ?_)
    · rintro ⟨lt1, _⟩
      refine qx_alt ?_ ?_
      · skip
        refine qx_T [.ow v1 3 1 k (ints (endW (fun a _ => a) (fun _ b => b) (x.days.take k)).need), .ow v2 3 1 k (ints (endW (fun a _ => a) (fun _ b => b) (x.days.take k)).make), .pt lt1 [.int .i64 m1] 3, .ow v3 3 1 k (ints (endW (fun a _ => a) (fun _ b => b) (x.days.take k)).loss)] (by repeat (first | exact PickL.nil | (apply PickL.cons; rfl))) rfl (by repeat (first | exact Sp.nil | exact Sp.refl _ | refine Sp.cons (by repeat constructor) ?_)) fun K1 hK1 => ?_
        ((iterate 2 refine qf_pure tabOk rfl rfl rfl ?_); refine qf_loadB tabOk rfl rfl rfl (by repeat first | exact .head _ | refine .tail _ ?_) (by rfl) ?_)
        refine qf_mkS 3 [.int .i64 n0] rfl (by kernel_rfl) rfl (fun lt0 => ?_)
        (refine qf_nil ?_)
        exact hK1 _ _ (hS5_12 ⟨lt0, lt1, ()⟩ _ _ ⟨rfl, rfl, rfl, rfl, rfl, rfl, rfl, rfl, rfl, rfl, rfl, trivial⟩ (by repeat (first | exact Sp.nil | exact Sp.refl _ | refine Sp.cons (by repeat constructor) ?_)))
      · skip
        refine qx_T [.ow v1 3 1 k (ints (endW (fun a _ => a) (fun _ b => b) (x.days.take k)).need), .ow v2 3 1 k (ints (endW (fun a _ => a) (fun _ b => b) (x.days.take k)).make), .pt lt1 [.int .i64 m1] 3, .ow v3 3 1 k (ints (endW (fun a _ => a) (fun _ b => b) (x.days.take k)).loss)] (by repeat (first | exact PickL.nil | (apply PickL.cons; rfl))) rfl (by repeat (first | exact Sp.nil | exact Sp.refl _ | refine Sp.cons (by repeat constructor) ?_)) fun K1 hK1 => ?_
        ((iterate 2 refine qf_pure tabOk rfl rfl rfl ?_); refine qf_loadB tabOk rfl rfl rfl (by repeat first | exact .head _ | refine .tail _ ?_) (by rfl) ?_)
        refine qf_mkS 3 [.int .i64 l0] rfl (by kernel_rfl) rfl (fun lt2 => ?_)
        (refine qf_nil ?_)
        exact hK1 _ _ (hS12_19 ⟨lt1, lt2, ()⟩ _ _ ⟨rfl, rfl, rfl, rfl, rfl, rfl, rfl, rfl, rfl, rfl, rfl, trivial⟩ (by repeat (first | exact Sp.nil | exact Sp.refl _ | refine Sp.cons (by repeat constructor) ?_)))
    refine qx_let (σ := Nat × Unit) (.alt (chainT [2, 3, 4, 5] (.alt (chainT [0, 1, 6] (chainT [9, 10, 11, 12] (chainT [7, 8, 13] (chainT [14, 15, 20] (chainT [21, 22, 23, 24, 25, 26] .nil))))) (chainT [9, 10, 11, 12] (chainT [0, 1, 6] (chainT [7, 8, 13] (chainT [14, 15, 20] (chainT [21, 22, 23, 24, 25, 26] .nil))))))) (chainT [9, 10, 11, 12] (chainT [2, 3, 4, 5] (chainT [0, 1, 6] (chainT [7, 8, 13] (chainT [14, 15, 20] (chainT [21, 22, 23, 24, 25, 26] .nil))))))) (fun ⟨lt2, ()⟩ => [(5, .pointer (some ⟨b5, 0, none⟩)), (6, .pointer (some ⟨b2, 0, none⟩)), (7, .slice la (hapV x (worstW x)).stocks.length lc), (9, .pointer (some ⟨b9, 0, none⟩)), (11, .pointer (some ⟨b11, 0, none⟩)), (13, .pointer (some ⟨b13, 0, none⟩)), (52, .slice (some ⟨g, 0, none⟩) x.days.length cd), (53, .int .i64 x.days.length), (54, .int .i64 k), (77, .slice (some ⟨lt2, 0, none⟩) 1 1)]) (fun ⟨lt2, ()⟩ => [.ow v1 3 1 k (ints (endW (fun a _ => a) (fun _ b => b) (x.days.take k)).need), .ow v2 3 1 k (ints (endW (fun a _ => a) (fun _ b => b) (x.days.take k)).make), .ow v3 3 1 k (ints (endW (fun a _ => a) (fun _ b => b) (x.days.take k)).loss), .pt lt2 [.int .i64 l0] 3, .pt b11 [v1, v2, v3] 107, .pt b13 [.int .i64 n0, .int .i64 n1, .int .i64 m0, .int .i64 m1, .int .i64 l0, .int .i64 l1] 73, .pt b9 [.slice av1 (worstW x).need.length cv1, .slice av2 (worstW x).make.length cv2, .slice av3 (worstW x).loss.length cv3] 107, .ow (.slice av1 (worstW x).need.length cv1) 3 1 (worstW x).need.length (ints (worstW x).need), .ow (.slice av2 (worstW x).make.length cv2) 3 1 (worstW x).make.length (ints (worstW x).make), .ow (.slice av3 (worstW x).loss.length cv3) 3 1 (worstW x).loss.length (ints (worstW x).loss), .ow (.slice la (hapV x (worstW x)).stocks.length lc) 24 2 (hapV x (worstW x)).stocks.length (spC (rngL (hapV x (worstW x)).stocks (hapV x (bestW x)).stocks)), dkP (.slice a2 n2 c2) b2 0, .ow (.slice (some ⟨g, 0, none⟩) x.days.length cd) 73 6 x.days.length (dyC x.days), .pt b5 (wnC x (some ⟨g, 0, none⟩) cd) 61]) ?_ (fun hS19 => ?_)
    · rintro ⟨lt2, _⟩
      refine qx_alt ?_ ?_
      · skip
        refine qx_T [.ow v1 3 1 k (ints (endW (fun a _ => a) (fun _ b => b) (x.days.take k)).need), .ow v2 3 1 k (ints (endW (fun a _ => a) (fun _ b => b) (x.days.take k)).make), .ow v3 3 1 k (ints (endW (fun a _ => a) (fun _ b => b) (x.days.take k)).loss), .pt lt2 [.int .i64 l0] 3] (by repeat (first | exact PickL.nil | (apply PickL.cons; rfl))) rfl (by repeat (first | exact Sp.nil | exact Sp.refl _ | refine Sp.cons (by repeat constructor) ?_)) fun K1 hK1 => ?_
        ((iterate 2 refine qf_pure tabOk rfl rfl rfl ?_); refine qf_loadB tabOk rfl rfl rfl (by repeat first | exact .head _ | refine .tail _ ?_) (by rfl) ?_)
        refine qf_mkS 3 [.int .i64 n0] rfl (by kernel_rfl) rfl (fun lt0 => ?_)
        (refine qf_nil ?_)
        exact hK1 _ _ (hS5_19 ⟨lt0, lt2, ()⟩ _ _ ⟨rfl, rfl, rfl, rfl, rfl, rfl, rfl, rfl, rfl, rfl, rfl, trivial⟩ (by repeat (first | exact Sp.nil | exact Sp.refl _ | refine Sp.cons (by repeat constructor) ?_)))
      · skip
        refine qx_T [.ow v1 3 1 k (ints (endW (fun a _ => a) (fun _ b => b) (x.days.take k)).need), .ow v2 3 1 k (ints (endW (fun a _ => a) (fun _ b => b) (x.days.take k)).make), .ow v3 3 1 k (ints (endW (fun a _ => a) (fun _ b => b) (x.days.take k)).loss), .pt lt2 [.int .i64 l0] 3] (by repeat (first | exact PickL.nil | (apply PickL.cons; rfl))) rfl (by repeat (first | exact Sp.nil | exact Sp.refl _ | refine Sp.cons (by repeat constructor) ?_)) fun K1 hK1 => ?_
        ((iterate 2 refine qf_pure tabOk rfl rfl rfl ?_); refine qf_loadB tabOk rfl rfl rfl (by repeat first | exact .head _ | refine .tail _ ?_) (by rfl) ?_)
        refine qf_mkS 3 [.int .i64 m1] rfl (by kernel_rfl) rfl (fun lt1 => ?_)
        (refine qf_nil ?_)
        exact hK1 _ _ (hS12_19 ⟨lt1, lt2, ()⟩ _ _ ⟨rfl, rfl, rfl, rfl, rfl, rfl, rfl, rfl, rfl, rfl, rfl, trivial⟩ (by repeat (first | exact Sp.nil | exact Sp.refl _ | refine Sp.cons (by repeat constructor) ?_)))
    refine qx_alt ?_ (qx_alt ?_ ?_)
    · skip
      refine qx_T [.ow v1 3 1 k (ints (endW (fun a _ => a) (fun _ b => b) (x.days.take k)).need), .ow v2 3 1 k (ints (endW (fun a _ => a) (fun _ b => b) (x.days.take k)).make), .ow v3 3 1 k (ints (endW (fun a _ => a) (fun _ b => b) (x.days.take k)).loss)] (by repeat (first | exact PickL.nil | (apply PickL.cons; rfl))) rfl (by repeat (first | exact Sp.nil | exact Sp.refl _ | refine Sp.cons (by repeat constructor) ?_)) fun K1 hK1 => ?_
      ((iterate 2 refine qf_pure tabOk rfl rfl rfl ?_); refine qf_loadB tabOk rfl rfl rfl (by repeat first | exact .head _ | refine .tail _ ?_) (by rfl) ?_)
      refine qf_mkS 3 [.int .i64 n0] rfl (by kernel_rfl) rfl (fun lt0 => ?_)
      (refine qf_nil ?_)
      exact hK1 _ _ (hS5 ⟨lt0, ()⟩ _ _ ⟨rfl, rfl, rfl, rfl, rfl, rfl, rfl, rfl, rfl, rfl, trivial⟩ (by repeat (first | exact Sp.nil | exact Sp.refl _ | refine Sp.cons (by repeat constructor) ?_)))
    · skip
      refine qx_T [.ow v1 3 1 k (ints (endW (fun a _ => a) (fun _ b => b) (x.days.take k)).need), .ow v2 3 1 k (ints (endW (fun a _ => a) (fun _ b => b) (x.days.take k)).make), .ow v3 3 1 k (ints (endW (fun a _ => a) (fun _ b => b) (x.days.take k)).loss)] (by repeat (first | exact PickL.nil | (apply PickL.cons; rfl))) rfl (by repeat (first | exact Sp.nil | exact Sp.refl _ | refine Sp.cons (by repeat constructor) ?_)) fun K1 hK1 => ?_
      ((iterate 2 refine qf_pure tabOk rfl rfl rfl ?_); refine qf_loadB tabOk rfl rfl rfl (by repeat first | exact .head _ | refine .tail _ ?_) (by rfl) ?_)
      refine qf_mkS 3 [.int .i64 m1] rfl (by kernel_rfl) rfl (fun lt1 => ?_)
      (refine qf_nil ?_)
      exact hK1 _ _ (hS12 ⟨lt1, ()⟩ _ _ ⟨rfl, rfl, rfl, rfl, rfl, rfl, rfl, rfl, rfl, rfl, trivial⟩ (by repeat (first | exact Sp.nil | exact Sp.refl _ | refine Sp.cons (by repeat constructor) ?_)))
    · skip
      refine qx_T [.ow v1 3 1 k (ints (endW (fun a _ => a) (fun _ b => b) (x.days.take k)).need), .ow v2 3 1 k (ints (endW (fun a _ => a) (fun _ b => b) (x.days.take k)).make), .ow v3 3 1 k (ints (endW (fun a _ => a) (fun _ b => b) (x.days.take k)).loss)] (by repeat (first | exact PickL.nil | (apply PickL.cons; rfl))) rfl (by repeat (first | exact Sp.nil | exact Sp.refl _ | refine Sp.cons (by repeat constructor) ?_)) fun K1 hK1 => ?_
      ((iterate 2 refine qf_pure tabOk rfl rfl rfl ?_); refine qf_loadB tabOk rfl rfl rfl (by repeat first | exact .head _ | refine .tail _ ?_) (by rfl) ?_)
      refine qf_mkS 3 [.int .i64 l0] rfl (by kernel_rfl) rfl (fun lt2 => ?_)
      (refine qf_nil ?_)
      exact hK1 _ _ (hS19 ⟨lt2, ()⟩ _ _ ⟨rfl, rfl, rfl, rfl, rfl, rfl, rfl, rfl, rfl, rfl, trivial⟩ (by repeat (first | exact Sp.nil | exact Sp.refl _ | refine Sp.cons (by repeat constructor) ?_)))
  · obtain rfl : k = x.days.length := by omega
    clear hc hK
    rw [List.take_length, best_eq]
    have z1 : (bestW x).need.length = x.days.length := by simp [bestW]
    have z2 : (bestW x).make.length = x.days.length := by simp [bestW]
    have z3 : (bestW x).loss.length = x.days.length := by simp [bestW]
    refine q_fact (fun w hs => hs.slice2 (v := v1) (by repeat first | exact .head _ | refine .tail _ ?_)) ?_
    rintro ⟨bv1, dv1, rfl⟩
    refine q_fact (fun w hs => hs.slice2 (v := v2) (by repeat first | exact .head _ | refine .tail _ ?_)) ?_
    rintro ⟨bv2, dv2, rfl⟩
    refine q_fact (fun w hs => hs.slice2 (v := v3) (by repeat first | exact .head _ | refine .tail _ ?_)) ?_
    rintro ⟨bv3, dv3, rfl⟩
    (refine q_exit _ rfl ?_; refine q_seq ?_; refine q_region ?_; (iterate 2 refine ql_loadAB tabOk rfl rfl rfl (by repeat first | exact .head _ | refine .tail _ ?_) (by rfl) (by rfl) ?_))
    refine ql_call (β := Value) tabOk [] _ M0 rfl rfl rfl rfl (Sp.refl _) (fun _ h => h.elim) (fun w' hs => stocks_in hrx (worst_in hrx) w' 0 w'.heap.size (some ⟨g, 0, none⟩) cd _ _ _ (days_rd hs (by repeat first | exact .head _ | refine .tail _ ?_)) (wtK_R hs (by repeat first | exact .head _ | refine .tail _ ?_) (by repeat first | exact .head _ | refine .tail _ ?_) (by repeat first | exact .head _ | refine .tail _ ?_))) ?_
    rintro lo _ rfl
    dsimp only [List.cons_append, List.nil_append]
    refine ql_fact (fun w hs => hs.slice2 (v := lo) (by repeat first | exact .head _ | refine .tail _ ?_)) ?_
    rintro ⟨loa, loc, rfl⟩
    (refine ql_pure tabOk rfl rfl ?_; (iterate 2 refine ql_ext tabOk rfl rfl rfl ?_); (iterate 2 refine ql_pure tabOk rfl rfl ?_); refine q_nil ?_; refine q_seq ?_; refine q_region ?_; (iterate 2 refine ql_loadAB tabOk rfl rfl rfl (by repeat first | exact .head _ | refine .tail _ ?_) (by rfl) (by rfl) ?_))
    refine ql_call (β := Value) tabOk [] _ M0 rfl rfl rfl rfl (Sp.refl _) (fun _ h => h.elim) (fun w' hs => stocks_in hrx (best_in hrx) w' 0 w'.heap.size (some ⟨g, 0, none⟩) cd _ _ _ (days_rd hs (by repeat first | exact .head _ | refine .tail _ ?_)) (wtK_R hs (by rw [z1]; repeat first | exact .head _ | refine .tail _ ?_) (by rw [z2]; repeat first | exact .head _ | refine .tail _ ?_) (by rw [z3]; repeat first | exact .head _ | refine .tail _ ?_))) ?_
    rintro hi _ rfl
    dsimp only [List.cons_append, List.nil_append]
    refine ql_fact (fun w hs => hs.slice2 (v := hi) (by repeat first | exact .head _ | refine .tail _ ?_)) ?_
    rintro ⟨hia, hic, rfl⟩
    have hlt := rngL_len (hapV x (worstW x)).stocks (hapV x (bestW x)).stocks
    have hra := fun {k : Nat} (h1 : k < (hapV x (worstW x)).stocks.length) (h2 : k < (hapV x (bestW x)).stocks.length) => rngL_at (hapV x (worstW x)).stocks (hapV x (bestW x)).stocks h1 h2
    clear hAt hBt
    generalize (hapV x (worstW x)).stocks = A at *
    generalize (hapV x (bestW x)).stocks = B at *
    generalize hLL : rngL A B = LL at *
    (refine ql_pure tabOk rfl rfl ?_; (iterate 2 refine ql_ext tabOk rfl rfl rfl ?_); (iterate 2 refine ql_pure tabOk rfl rfl ?_); refine q_nil ?_; (iterate 2 refine q_seq ?_); refine q_region ?_; refine ql_pure tabOk rfl rfl ?_; refine ql_neqF tabOk rfl rfl rfl (by omega) ?_; refine ql_pure tabOk rfl rfl ?_; refine ql_gyes rfl ?_; refine ql_pure tabOk rfl rfl ?_; refine ql_gyes rfl ?_; refine ql_neqF tabOk rfl rfl rfl (by omega) ?_; (iterate 2 refine ql_pure tabOk rfl rfl ?_); refine ql_gyes rfl ?_; refine ql_pure tabOk rfl rfl ?_; refine ql_gyes rfl ?_; refine ql_pure tabOk rfl rfl ?_; refine ql_gyes rfl ?_; refine ql_pure tabOk rfl rfl ?_; refine ql_gyes rfl ?_; refine ql_pure tabOk rfl rfl ?_; refine ql_gyes rfl ?_; refine ql_neqF tabOk rfl rfl rfl (by omega) ?_; (iterate 2 refine ql_pure tabOk rfl rfl ?_); refine ql_gyes rfl ?_; refine ql_pure tabOk rfl rfl ?_; refine ql_gyes rfl ?_; refine ql_pure tabOk rfl rfl ?_; refine ql_gyes rfl ?_; refine ql_pure tabOk rfl rfl ?_; refine ql_gyes rfl ?_; refine ql_pure tabOk rfl rfl ?_; refine ql_gyes rfl ?_; refine ql_lssF tabOk rfl rfl rfl (by omega) ?_; refine ql_pure tabOk rfl rfl ?_; refine q_nil ?_; refine q_cond_false rfl ?_; refine q_skip ?_; (iterate 2 refine q_seq ?_); refine q_region ?_; (iterate 3 refine ql_pure tabOk rfl rfl ?_); refine q_nil ?_; refine q_block ?_)
    refine q_loop (σ := Nat) (fun k => k ≤ A.length) (fun k => A.length - k) (fun k => [(5, .pointer (some ⟨b5, 0, none⟩)), (6, .pointer (some ⟨b2, 0, none⟩)), (7, .slice la A.length lc), (14, .slice loa A.length loc), (15, .slice hia B.length hic), (115, .slice la A.length lc), (116, .int .i64 A.length), (117, .int .i64 k)])
      (fun k => [.ow (.slice la A.length lc) 24 2 A.length (spC LL), .ow (.slice loa A.length loc) 3 1 A.length (ints A), .ow (.slice hia B.length hic) 3 1 B.length (ints B), dkP (.slice a2 n2 c2) b2 0, .ow (.slice (some ⟨g, 0, none⟩) x.days.length cd) 73 6 x.days.length (dyC x.days), .pt b5 (wnC x (some ⟨g, 0, none⟩) cd) 61]) 0 (by omega) ⟨rfl, rfl, rfl, rfl, rfl, rfl, rfl, rfl, trivial⟩ (by repeat (first | exact Sp.nil | exact Sp.refl _ | refine Sp.cons (by repeat constructor) ?_)) ?_
    rintro k hk K hK
    (refine q_seq ?_; refine q_region ?_; refine ql_pure tabOk rfl rfl ?_; refine q_nil ?_; refine q_seq ?_)
    refine q_if rfl (fun hc => ?_) (fun hc => ?_)
    · have hk2 : k < A.length := by first | omega | (simp at hc; omega)
      have hk3 : k < B.length := by omega
      have hkl : k < LL.length := by omega
      clear hc
      have he := hra hk2 hk3 hkl
      have hab := (hAB k hk2).1
      rw [getD_at hk2, getD_at hk3] at hab
      refine q_fact (fun w hs => hs.ownSome (v := .slice la A.length lc) (by repeat first | exact .head _ | refine .tail _ ?_) (by omega)) ?_
      rintro ⟨e1, f1, zz1⟩
      cases zz1
      refine q_fact (fun w hs => hs.ownSome (v := .slice loa A.length loc) (by repeat first | exact .head _ | refine .tail _ ?_) (by omega)) ?_
      rintro ⟨e2, f2, zz2⟩
      cases zz2
      refine q_fact (fun w hs => hs.ownSome (v := .slice hia B.length hic) (by repeat first | exact .head _ | refine .tail _ ?_) (by omega)) ?_
      rintro ⟨e3, f3, zz3⟩
      cases zz3
      (refine q_skip ?_; refine q_seq ?_; refine q_block ?_; refine q_seq ?_; refine q_region ?_; refine ql_pure tabOk rfl rfl ?_)
      refine ql_index tabOk rfl rfl rfl rfl rfl (by omega) (by omega) ?_
      refine ql_loadA tabOk rfl rfl rfl rfl (fun w hs => RdS.at (lsp_rd hlt hs (by repeat first | exact .head _ | refine .tail _ ?_)) k hkl) ?_
      rw [he]
      dsimp only
      skip
      refine ql_alloc zero24 rfl (fun b17 => ?_)
      (refine ql_pure tabOk rfl rfl ?_; refine ql_setA tabOk rfl rfl rfl rfl rfl (by repeat constructor) rfl ?_; refine q_nil ?_; refine q_seq ?_)
      refine q_draw _ [] (Sp.refl _) (by kernel_rfl) (by kernel_rfl) ?_
      ((iterate 2 refine qf_pure tabOk rfl rfl rfl ?_))
      (refine qf_index tabOk rfl rfl rfl rfl rfl (by omega) (by omega) ?_; refine qf_load1 tabOk rfl rfl rfl (fun w hs => RdI.at (hs.rdI (v := .slice (some ⟨e2, 0, none⟩) A.length loc) (l := A) (by repeat first | exact .head _ | refine .tail _ ?_) rfl) k hk2) ?_)
      (refine qf_pure tabOk rfl rfl rfl ?_; refine qf_loadB tabOk rfl rfl rfl (by repeat first | exact .head _ | refine .tail _ ?_) (by rfl) ?_; refine qf_neqF tabOk rfl rfl rfl (by omega) ?_; refine qf_pure tabOk rfl rfl rfl ?_; refine qf_gyes rfl ?_; refine qf_pure tabOk rfl rfl rfl ?_; refine qf_gyes rfl ?_; refine qf_pure tabOk rfl rfl rfl ?_; refine qf_gyes rfl ?_)
      refine qf_index tabOk rfl rfl rfl rfl rfl (by omega) (by omega) ?_
      (refine qf_gyes rfl ?_)
      refine qf_load1 (v := .int .i64 B[k]) tabOk rfl rfl rfl (fun w hs => RdI.at (hs.rdI (v := .slice (some ⟨e3, 0, none⟩) B.length hic) (l := B) (by repeat first | exact .head _ | refine .tail _ ?_) rfl) k hk3) ?_
      (refine qf_gyes rfl ?_; refine qf_pure tabOk rfl rfl rfl ?_; refine qf_gyes rfl ?_; refine qf_loadB tabOk rfl rfl rfl (by repeat first | exact .head _ | refine .tail _ ?_) (by rfl) ?_; refine qf_gyes rfl ?_; refine qf_neqF tabOk rfl rfl rfl (by omega) ?_; (iterate 2 refine qf_pure tabOk rfl rfl rfl ?_); refine qf_gyes rfl ?_; refine qf_pure tabOk rfl rfl rfl ?_; refine qf_gyes rfl ?_; refine qf_loadB tabOk rfl rfl rfl (by repeat first | exact .head _ | refine .tail _ ?_) (by rfl) ?_; refine qf_gyes rfl ?_; refine qf_pure tabOk rfl rfl rfl ?_; refine qf_gyes rfl ?_; refine qf_loadB tabOk rfl rfl rfl (by repeat first | exact .head _ | refine .tail _ ?_) (by rfl) ?_; refine qf_gyes rfl ?_; refine qf_gtrF tabOk rfl rfl rfl (by omega) ?_; refine qf_pure tabOk rfl rfl rfl ?_; refine qf_nil ?_; refine q_cond_false rfl ?_; refine q_skip ?_; refine q_blk ?_; refine q_region ?_; refine ql_ar tabOk rfl rfl rfl rfl (by omega) (by omega) ?_; refine ql_pure tabOk rfl rfl ?_; refine q_nil ?_)
      exact hK (k + 1) _ _ (by omega) (by omega) ⟨rfl, rfl, rfl, rfl, rfl, rfl, rfl, rfl, trivial⟩ (by repeat (first | exact Sp.nil | exact Sp.refl _ | refine Sp.cons (by repeat constructor) ?_))
    · clear hc hK
      (refine q_exit _ rfl ?_; (iterate 2 refine q_seq ?_); refine q_region ?_; refine ql_pure tabOk rfl rfl ?_; refine q_nil ?_; refine q_block ?_)
      refine q_loop (σ := Nat) (fun k => k ≤ 5) (fun k => 5 - k) (fun k => [(5, .pointer (some ⟨b5, 0, none⟩)), (6, .pointer (some ⟨b2, 0, none⟩)), (7, .slice la A.length lc), (146, .int .i64 k)])
        (fun k => [dkP (.slice a2 n2 c2) b2 (0 + 200 * k), .ow (.slice (some ⟨g, 0, none⟩) x.days.length cd) 73 6 x.days.length (dyC x.days), .ow (.slice la A.length lc) 24 2 A.length (spC LL), .pt b5 (wnC x (some ⟨g, 0, none⟩) cd) 61]) 0 (by omega) ⟨rfl, rfl, rfl, rfl, trivial⟩ (by repeat (first | exact Sp.nil | exact Sp.refl _ | refine Sp.cons (by repeat constructor) ?_)) ?_
      rintro j hj K1 hK1
      (refine q_seq ?_; refine q_region ?_; refine ql_pure tabOk rfl rfl ?_; refine q_nil ?_; refine q_seq ?_)
      refine q_if rfl (fun hc => ?_) (fun hc => ?_)
      · have hj2 : j < 5 := by first | omega | (simp at hc; omega)
        clear hc
        (refine q_skip ?_; refine q_seq ?_; refine q_block ?_; refine q_seq ?_)
        refine q_draw _ [dkP (.slice a2 n2 c2) b2 (0 + 200 * j), .ow (.slice (some ⟨g, 0, none⟩) x.days.length cd) 73 6 x.days.length (dyC x.days)] (Sp.cons (by repeat constructor) (Sp.cons (by repeat constructor) (Sp.refl _))) (by kernel_rfl) (by kernel_rfl) ?_
        (refine qf_loadAB tabOk rfl rfl rfl (by repeat first | exact .head _ | refine .tail _ ?_) (by rfl) (by rfl) ?_; refine qf_pure tabOk rfl rfl rfl ?_; refine qf_loadAB tabOk rfl rfl rfl (by repeat first | exact .head _ | refine .tail _ ?_) (by rfl) (by rfl) ?_)
        refine qf_call (β := (Value × Value × Value) × Wt) (ψ := fun y v => v = .agg #[y.1.1, y.1.2.1, y.1.2.2] ∧ y.2.In x) (L' := fun y => wtK y.1.1 y.1.2.1 y.1.2.2 y.2 ++ drL ((.slice a2 n2 c2)) b2 (0 + 200 * j + 200) g cd x.days) tabOk (drL ((.slice a2 n2 c2)) b2 (0 + 200 * j) g cd x.days) _ (DL (drL ((.slice a2 n2 c2)) b2 (0 + 200 * j) g cd x.days)) rfl rfl rfl rfl (Sp.cons (by repeat constructor) (Sp.cons (by repeat constructor) (Sp.refl _))) (fun x hx => hx) (fun w' hs => drawn0 hrx hbyb2 hs (by omega)) ?_; rintro ⟨⟨u1, u2, u3⟩, t⟩ _ ⟨rfl, ht⟩; dsimp only [wtK, drL, List.cons_append, List.nil_append] at ht ⊢; refine qf_fact (fun w hs => hs.slice2 (v := u1) (by repeat first | exact .head _ | refine .tail _ ?_)) ?_; rintro ⟨au1, cu1, rfl⟩; refine qf_fact (fun w hs => hs.slice2 (v := u2) (by repeat first | exact .head _ | refine .tail _ ?_)) ?_; rintro ⟨au2, cu2, rfl⟩; refine qf_fact (fun w hs => hs.slice2 (v := u3) (by repeat first | exact .head _ | refine .tail _ ?_)) ?_; rintro ⟨au3, cu3, rfl⟩
        skip
        refine qf_call (β := Value) tabOk [] _ M0 rfl rfl rfl rfl (Sp.refl _) (fun _ h => h.elim) (fun w' hs => stocks_in hrx ht w' 0 w'.heap.size (some ⟨g, 0, none⟩) cd _ _ _ (days_rd hs (by repeat first | exact .head _ | refine .tail _ ?_)) (wtK_R hs (by repeat first | exact .head _ | refine .tail _ ?_) (by repeat first | exact .head _ | refine .tail _ ?_) (by repeat first | exact .head _ | refine .tail _ ?_))) ?_
        rintro sv _ rfl
        dsimp only [List.cons_append, List.nil_append]
        refine qf_fact (fun w hs => hs.slice2 (v := sv) (by repeat first | exact .head _ | refine .tail _ ?_)) ?_
        rintro ⟨sa, sc, rfl⟩
        obtain ⟨hT1, hT2, hT3⟩ := hT t ht
        generalize (hapV x t).stocks = C at *
        (refine qf_pure tabOk rfl rfl rfl ?_; (iterate 2 refine qf_ext tabOk rfl rfl rfl ?_); (iterate 2 refine qf_pure tabOk rfl rfl rfl ?_); refine qf_nil ?_; (iterate 2 refine q_seq ?_); refine q_region ?_; refine ql_pure tabOk rfl rfl ?_; refine ql_neqF tabOk rfl rfl rfl (by omega) ?_; refine ql_pure tabOk rfl rfl ?_; refine ql_gyes rfl ?_; refine ql_pure tabOk rfl rfl ?_; refine ql_gyes rfl ?_; refine ql_pure tabOk rfl rfl ?_; refine ql_gyes rfl ?_; refine ql_pure tabOk rfl rfl ?_; refine ql_gyes rfl ?_; refine ql_pure tabOk rfl rfl ?_; refine ql_gyes rfl ?_; refine ql_lssF tabOk rfl rfl rfl (by omega) ?_; refine ql_pure tabOk rfl rfl ?_; refine q_nil ?_; refine q_cond_false rfl ?_; refine q_skip ?_; refine q_seq ?_; refine q_region ?_; (iterate 3 refine ql_pure tabOk rfl rfl ?_); refine q_nil ?_; refine q_block ?_)
        refine q_loop (σ := Nat) (fun k => k ≤ A.length) (fun k => A.length - k) (fun k => [(5, .pointer (some ⟨b5, 0, none⟩)), (6, .pointer (some ⟨b2, 0, none⟩)), (7, .slice la A.length lc), (146, .int .i64 j), (18, .slice sa C.length sc), (165, .slice la A.length lc), (166, .int .i64 A.length), (167, .int .i64 k)])
          (fun k => [dkP (.slice a2 n2 c2) b2 (0 + 200 * j + 200), .ow (.slice sa C.length sc) 3 1 C.length (ints C), .ow (.slice (some ⟨g, 0, none⟩) x.days.length cd) 73 6 x.days.length (dyC x.days), .ow (.slice la A.length lc) 24 2 A.length (spC LL), .pt b5 (wnC x (some ⟨g, 0, none⟩) cd) 61]) 0 (by omega) ⟨rfl, rfl, rfl, rfl, rfl, rfl, rfl, rfl, trivial⟩ (by repeat (first | exact Sp.nil | exact Sp.refl _ | refine Sp.cons (by repeat constructor) ?_)) ?_
        rintro k hk K2 hK2
        (refine q_seq ?_; refine q_region ?_; refine ql_pure tabOk rfl rfl ?_; refine q_nil ?_; refine q_seq ?_)
        refine q_if rfl (fun hc => ?_) (fun hc => ?_)
        · have hk2 : k < A.length := by first | omega | (simp at hc; omega)
          have hk3 : k < B.length := by omega
          have hk4 : k < C.length := by omega
          have hkl : k < LL.length := by omega
          clear hc
          have he := hra hk2 hk3 hkl
          have hab := hT3 k hk2
          rw [getD_at hk2, getD_at hk3, getD_at hk4] at hab
          refine q_fact (fun w hs => hs.ownSome (v := .slice la A.length lc) (by repeat first | exact .head _ | refine .tail _ ?_) (by omega)) ?_
          rintro ⟨e1, f1, zz1⟩
          cases zz1
          refine q_fact (fun w hs => hs.ownSome (v := .slice sa C.length sc) (by repeat first | exact .head _ | refine .tail _ ?_) (by omega)) ?_
          rintro ⟨e2, f2, zz2⟩
          cases zz2
          (refine q_skip ?_; refine q_seq ?_; refine q_block ?_; refine q_seq ?_; refine q_region ?_; refine ql_pure tabOk rfl rfl ?_)
          refine ql_index tabOk rfl rfl rfl rfl rfl (by omega) (by omega) ?_
          refine ql_loadA tabOk rfl rfl rfl rfl (fun w hs => RdS.at (lsp_rd hlt hs (by repeat first | exact .head _ | refine .tail _ ?_)) k hkl) ?_
          rw [he]
          dsimp only
          skip
          refine ql_alloc zero24 rfl (fun b21 => ?_)
          (refine ql_pure tabOk rfl rfl ?_; refine ql_setA tabOk rfl rfl rfl rfl rfl (by repeat constructor) rfl ?_; refine q_nil ?_; refine q_seq ?_)
          refine q_draw _ [] (Sp.refl _) (by kernel_rfl) (by kernel_rfl) ?_
          ((iterate 2 refine qf_pure tabOk rfl rfl rfl ?_))
          (refine qf_index tabOk rfl rfl rfl rfl rfl (by omega) (by omega) ?_; refine qf_load1 tabOk rfl rfl rfl (fun w hs => RdI.at (hs.rdI (v := .slice (some ⟨e2, 0, none⟩) C.length sc) (l := C) (by repeat first | exact .head _ | refine .tail _ ?_) rfl) k hk4) ?_)
          (refine qf_pure tabOk rfl rfl rfl ?_; refine qf_loadB tabOk rfl rfl rfl (by repeat first | exact .head _ | refine .tail _ ?_) (by rfl) ?_; refine qf_lssF tabOk rfl rfl rfl (by omega) ?_; refine qf_pure tabOk rfl rfl rfl ?_; refine qf_gyes rfl ?_; refine qf_pure tabOk rfl rfl rfl ?_; refine qf_gyes rfl ?_; refine qf_pure tabOk rfl rfl rfl ?_; refine qf_gyes rfl ?_)
          refine qf_index tabOk rfl rfl rfl rfl rfl (by omega) (by omega) ?_
          (refine qf_gyes rfl ?_)
          refine qf_load1 (v := .int .i64 C[k]) tabOk rfl rfl rfl (fun w hs => RdI.at (hs.rdI (v := .slice (some ⟨e2, 0, none⟩) C.length sc) (l := C) (by repeat first | exact .head _ | refine .tail _ ?_) rfl) k hk4) ?_
          (refine qf_gyes rfl ?_; refine qf_pure tabOk rfl rfl rfl ?_; refine qf_gyes rfl ?_; refine qf_loadB tabOk rfl rfl rfl (by repeat first | exact .head _ | refine .tail _ ?_) (by rfl) ?_; refine qf_gyes rfl ?_; refine qf_gtrF tabOk rfl rfl rfl (by omega) ?_; refine qf_pure tabOk rfl rfl rfl ?_; refine qf_nil ?_; refine q_cond_false rfl ?_; refine q_skip ?_; refine q_blk ?_; refine q_region ?_; refine ql_ar tabOk rfl rfl rfl rfl (by omega) (by omega) ?_; refine ql_pure tabOk rfl rfl ?_; refine q_nil ?_)
          exact hK2 (k + 1) _ _ (by omega) (by omega) ⟨rfl, rfl, rfl, rfl, rfl, rfl, rfl, rfl, trivial⟩ (by repeat (first | exact Sp.nil | exact Sp.refl _ | refine Sp.cons (by repeat constructor) ?_))
        · clear hc hK2
          (refine q_exit _ rfl ?_; refine q_blk ?_; refine q_region ?_; refine ql_ar tabOk rfl rfl rfl rfl (by omega) (by omega) ?_; refine ql_pure tabOk rfl rfl ?_; refine q_nil ?_)
          exact hK1 (j + 1) _ _ (by omega) (by omega) ⟨rfl, rfl, rfl, rfl, trivial⟩ (by repeat (first | exact Sp.nil | exact Sp.refl _ | refine Sp.cons (by repeat constructor) ?_))
      · (refine q_exit _ rfl ?_; refine q_seq ?_; refine q_region ?_)
        refine ql_callv (val := .bool true) tabOk rfl rfl rfl rfl (fun w hs => ?_) ?_; exact awake_ca w
        (refine ql_pure tabOk rfl rfl ?_; refine q_nil ?_; refine q_ret ?_)
        refine q_fin tabOk rfl (by repeat (first | exact RVs.nil | apply RVs.tmp rfl | apply RVs.cellA rfl rfl (by repeat first | exact .head _ | refine .tail _ ?_) (by rfl) | apply RVs.cell1 rfl rfl (by repeat first | exact .head _ | refine .tail _ ?_))) fun w hs => ?_
        exact ⟨rfl, hs.chg0⟩
end Go.Proofs.Ytgeajgmefokifaa
