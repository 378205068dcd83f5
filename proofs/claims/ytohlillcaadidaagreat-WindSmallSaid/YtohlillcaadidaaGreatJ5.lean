/- My texts M1, E7, M2, Y2, E8, E9, E10, E11, B16, B17, B18, B19, B20, M3, joined: a claim takes at most 60 files. -/
import Derived.Test.YtohlillcaadidaaGreatJ4

/- The walk of WindChances. -/
namespace Go.Proofs.YtohlillcaadidaaGreat
open Go Go.Eng

theorem chances_no (w : World) (cs : List Value) (r : Rg) (h : RgC w cs r) (hsm : r.Small) (hck : checkV r ≠ 0) :
  Ca Tryz.prog 61 [.agg cs.toArray] w fun v w' => v = .tuple #[.slice none 0 0, .int .i64 (checkV r)] ∧ Chg [] w w' := by
 have h0 := h
 obtain ⟨lo, hi, ag, cg, ad, cd, af, cf, an, cn, rfl, hg, hdr, hf, hn⟩ := h
 refine q_ofM (Sat.nil w M0) Tryz.func61 Z (by simp [Tryz.ntmps61]) ?_
 (refine aE (aB ?_))
 refine bG Z Z (fun b1 => ?_)
 (refine aA V Z Z (aA V Z Z (aF (aE (aB ?_)))); refine aI V Z Z Z ?_)
 refine aJ (val := .tuple #[.pointer none, .int .i64 (checkV r)]) V Z Z Z Z (fun w hs => ?_) ?_; exact jN w _ r (h0.keep hs.chg0) hsm hck
 (refine aA V Z Z (bC V Z Z Z (bC V Z Z Z ?_)))
 refine aV zero84 Z (fun b4 => ?_)
 (refine eV V Z Z Z Z U ?_; refine aA V Z Z (aF (aE (aE (aB (aA V Z Z (ql_neqT V Z Z Z O (aF (aM Z (aE (aB ?_)))))))))); (iterate 3 refine aA V Z Z ?_); refine aF (aW ?_))
 refine q_finM V Z U fun w hs => ?_
 exact ⟨Z, hs.chg0⟩
/-- The chances of the states; none if the range is not right. -/
def mA (r : Rg) : List (List (Int × Int)) := if checkV r = 0 then (List.range 5).map (rowX r) else []
theorem rdSS_nil (w : World) (hi : Nat) : RdSS w 0 hi (.slice none 0 0) [] := ⟨[], RdE.one ⟨rfl, .inl ⟨.inl rfl, rfl⟩⟩ (by simp), rfl, fun i h => absurd h (by simp)⟩
theorem chK_rd2 {w : World} {r : Rg} {v : Value} {vs : List Value} (h5 : vs.length = 5) (hu : (un (chK r vs)).p w) (ho : w.ownsRow 0 100 1 v 5 vs) : RdSS w 0 w.heap.size v ((List.range 5).map (rowX r)) := by
 have hel : ∀ i (hi : i < vs.length), w.ownsRow 0 36 2 vs[i] r.drifts.length (spC (rowX r i)) := fun i hi => by
  refine hu.1 (.ow vs[i] 36 2 r.drifts.length (spC (rowX r i))) ?_
  unfold chK
  exact List.mem_map.2 ⟨(vs[i], i), by rw [List.mem_zipIdx_iff_getElem?]; simp [hi], Z⟩
 refine ⟨vs, ?_, by simp [h5], fun i hi hi' => ?_⟩
 ·have h1 := ho
  rw [← h5] at h1
  exact RdE.one (jB h1) (fun e he => by obtain ⟨i, hi, rfl⟩ := List.getElem_of_mem he; exact own_one' (hel i hi))
 ·have h4 : RdS w 0 w.heap.size vs[i] (rowX r i) := by
   refine ⟨?_, fun e he => by obtain ⟨x, _, rfl⟩ := List.mem_map.1 he; rfl⟩
   have h5 := jB (hel i hi)
   rw [cells_sp]
   have e : ((rowX r i).map rtV).length = r.drifts.length := by simp [rowX]
   rw [e]
   exact h5
  simpa using h4
theorem chances_u (w : World) (cs : List Value) (r : Rg) (h : RgC w cs r) (hsm : r.Small) :
  Ca Tryz.prog 61 [.agg cs.toArray] w fun v w' => ∃ x : Value × List Ck, (v = .tuple #[x.1, .int .i64 (checkV r)] ∧ ∀ w'', (∀ c ∈ x.2, c.p w'') → RdSS w'' 0 w''.heap.size x.1 (mA r)) ∧ Sat w M0 [un x.2] w' := by
 by_cases hck : checkV r = 0
 ·refine (chances_r w cs r h hsm ((bM r).1 hck)).mono fun v w' ⟨x, ⟨h1, h2⟩, h3⟩ => ⟨(x.1, [un (chK r x.2), .ow x.1 100 1 5 x.2]), ⟨by rw [h1, hck], fun w'' hp => ?_⟩, Sat.un1.2 h3⟩
  unfold mA
  rw [if_pos hck]
  exact chK_rd2 h2 (hp _ (by simp)) (hp (.ow x.1 100 1 5 x.2) (by simp))
 ·refine (chances_no w cs r h hsm hck).mono fun v w' ⟨h1, h2⟩ => ⟨(.slice none 0 0, []), ⟨h1, fun w'' _ => ?_⟩, Sat.un1.2 ((Sat.nil w M0).keep h2)⟩
  unfold mA
  rw [if_neg hck]
  exact rdSS_nil _ _
theorem rchances_u (w : World) (cs : List Value) (r : Rg) (h : RgC w cs r) (hsm : r.Small) :
  Ca Tryz.prog 62 [.agg cs.toArray] w fun v w' => ∃ x : Value × List Ck, (v = .tuple #[x.1, .int .i64 (checkV r)] ∧ ∀ w'', (∀ c ∈ x.2, c.p w'') → RdSS w'' 0 w''.heap.size x.1 (mA r)) ∧ Sat w M0 [un x.2] w' := by
 by_cases hck : checkV r = 0
 ·refine (rchances_ok w cs r h hsm ((bM r).1 hck)).mono fun v w' ⟨x, ⟨h1, h2⟩, h3⟩ => ⟨(x.1, [un (chK r x.2), .ow x.1 100 1 5 x.2]), ⟨by rw [h1, hck], fun w'' hp => ?_⟩, Sat.un1.2 h3⟩
  unfold mA
  rw [if_pos hck]
  exact chK_rd2 h2 (hp _ (by simp)) (hp (.ow x.1 100 1 5 x.2) (by simp))
 ·refine (rchances_no w cs r h hsm hck).mono fun v w' ⟨h1, h2⟩ => ⟨(.slice none 0 0, []), ⟨h1, fun w'' _ => ?_⟩, Sat.un1.2 ((Sat.nil w M0).keep h2)⟩
  unfold mA
  rw [if_neg hck]
  exact rdSS_nil _ _
theorem chRows_len (r : Rg) : (mA r).length ≤ 5 := by
 unfold mA
 split <;> simp
theorem chRows_row (r : Rg) (hsm : r.Small) : ∀ l ∈ mA r, l.length ≤ 1000000 := by
 have := hsm.drifts
 unfold mA
 split
 ·intro l hl
  obtain ⟨k, _, rfl⟩ := List.mem_map.1 hl
  simp [rowX]
  omega
 ·simp

def tM1_9f6b35e : OT := aN [7] (.nil)
def jY : OT := aN [6] (tM1_9f6b35e)
def pA : OT := aN [5] (jY)
def nV : OT := aN [4] (jY)
def tM1_cae5bd2 : OT := .alt (aN [4] (pA)) (aN [5] (nV))
def kS : OT := aN [2, 3] (jY)
def oE : OT := .alt (aN [2, 3] (pA)) (aN [5] (kS))
def oG : OT := .alt (aN [2, 3] (nV)) (aN [4] (kS))
def tM1_54d3bd4 : OT := .alt (aN [2, 3] (tM1_cae5bd2)) (.alt (aN [4] (oE)) (aN [5] (oG)))
def pO : OT := aN [0, 1] (kS)
def tM1_95e93e2 : OT := .alt (aN [0, 1] (oE)) (aN [5] (pO))
def tM1_ae3c7f7 : OT := .alt (aN [0, 1] (oG)) (aN [4] (pO))
def tM1_d8f867d : OT := .alt (aN [0, 1] (tM1_54d3bd4)) (.alt (aN [4] (tM1_95e93e2)) (aN [5] (tM1_ae3c7f7)))
set_option maxRecDepth 40000 in
set_option maxHeartbeats 16000000 in
theorem cY (w : World) (cs : List Value) (r : Rg) (state click : Int) (h : RgC w cs r) (hl : r.next.length ≤ maxLen) :
  Ca Tryz.prog 24 [.agg cs.toArray, .int .i64 state, .int .i64 click] w fun r w' => r = .bool true ∧ Chg [] w w' := by
 have h0 := h
 obtain ⟨lo, hi, ag, cg, ad, cd, af, cf, an, cn, rfl, hg, hdr, hf, hn⟩ := h
 refine dB (Sat.nil w M0) Tryz.func24 Z (by simp [Tryz.ntmps24]) ?_
 (refine aE (aB ?_))
 refine bG Z Z (fun b3 => ?_)
 (refine aA V Z Z (aF (aE (aE (aB ?_)))); refine aI V Z Z Z ?_)
 refine bO (β := Bool) V [] _ M0 Z Z Z Z (Sp.refl _) qS (fun w' hs => long_ca w' _ r (h0.keep hs.chg0) hl) ?_
 rintro b _ ⟨rfl, hsm⟩
 (refine aF ?_)
 cases b with
 | true =>
  (refine aM Z (aE (aB ?_)))
  refine aJ (val := .bool true) V Z Z Z Z (fun w hs => ?_) ?_; exact dQ w
  (refine aA V Z Z (aF (aW ?_)))
  refine aX V Z U fun w hs => ?_
  exact ⟨Z, hs.chg0⟩
 | false =>
 replace hsm := hsm rfl
 (refine aL Z (aR (aE ?_)))
 refine jG (σ := Nat × Nat × Cp r × Cp r) (fun ⟨b7, b8, x1, x2⟩ => [(1, .int .i64 state), (2, .int .i64 click), (3, .pointer (some ⟨b3, 0, none⟩)), (7, .pointer (some ⟨b7, 0, none⟩)), (8, .pointer (some ⟨b8, 0, none⟩))]) (fun ⟨b7, b8, x1, x2⟩ => [.pt b7 [.int .i64 r.radius, .int .i64 r.unit, .int .i64 r.clicks, .int .i64 r.total, .slice x1.a1 r.group.length x1.c1, .slice x1.a2 r.drifts.length x1.c2, .slice x1.a3 r.first.length x1.c3, .slice x1.a4 r.next.length x1.c4] 25, .pt b8 [.int .i64 r.radius, .int .i64 r.unit, .int .i64 r.clicks, .int .i64 r.total, .slice x2.a1 r.group.length x2.c1, .slice x2.a2 r.drifts.length x2.c2, .slice x2.a3 r.first.length x2.c3, .slice x2.a4 r.next.length x2.c4] 34, un x1.K, un x2.K, .pt b3 [.int .i64 r.radius, .int .i64 r.unit, .int .i64 r.clicks, .int .i64 r.total, .slice ag r.group.length cg, .slice ad r.drifts.length cd, .slice af r.first.length cf, .slice an r.next.length cn] 25]) ?_ (fun K2 hK2 => ?_)
 rotate_left
 ·refine gU (tM1_d8f867d) _ [] (Sp.refl _) qR qR ?_
  refine bV (σ := Cp r × Cp r × Nat × Nat × Unit) (.nil) (fun ⟨x1, x2, b7, b8, ()⟩ => [(1, .int .i64 state), (2, .int .i64 click), (3, .pointer (some ⟨b3, 0, none⟩)), (21, .agg #[.int .i64 r.radius, .int .i64 r.unit, .int .i64 r.clicks, .int .i64 r.total, .slice x1.a1 r.group.length x1.c1, .slice x1.a2 r.drifts.length x1.c2, .slice x1.a3 r.first.length x1.c3, .slice x1.a4 r.next.length x1.c4]), (23, .agg #[.int .i64 r.radius, .int .i64 r.unit, .int .i64 r.clicks, .int .i64 r.total, .slice x2.a1 r.group.length x2.c1, .slice x2.a2 r.drifts.length x2.c2, .slice x2.a3 r.first.length x2.c3, .slice x2.a4 r.next.length x2.c4]), (7, .pointer (some ⟨b7, 0, none⟩)), (8, .pointer (some ⟨b8, 0, none⟩))]) (fun ⟨x1, x2, b7, b8, ()⟩ => [un x1.K, un x2.K, .pt b7 [.int .i64 r.radius, .int .i64 r.unit, .int .i64 r.clicks, .int .i64 r.total, .slice x1.a1 r.group.length x1.c1, .slice x1.a2 r.drifts.length x1.c2, .slice x1.a3 r.first.length x1.c3, .slice x1.a4 r.next.length x1.c4] 25, .pt b8 [.int .i64 r.radius, .int .i64 r.unit, .int .i64 r.clicks, .int .i64 r.total, .slice x2.a1 r.group.length x2.c1, .slice x2.a2 r.drifts.length x2.c2, .slice x2.a3 r.first.length x2.c3, .slice x2.a4 r.next.length x2.c4] 34]) ?_ (fun hS1_3_4_5_6_7 => ?_)
  ·rintro ⟨x1, x2, b7, b8, _⟩
   exact bZ (hK2 (b7, b8, x1, x2) _ _ ⟨Z, Z, Z, Z, Z, trivial⟩ U)
  refine bV (σ := Cp r × Cp r × Nat × Nat × Unit) (tM1_9f6b35e) (fun ⟨x1, x2, b7, b8, ()⟩ => [(1, .int .i64 state), (2, .int .i64 click), (3, .pointer (some ⟨b3, 0, none⟩)), (21, .agg #[.int .i64 r.radius, .int .i64 r.unit, .int .i64 r.clicks, .int .i64 r.total, .slice x1.a1 r.group.length x1.c1, .slice x1.a2 r.drifts.length x1.c2, .slice x1.a3 r.first.length x1.c3, .slice x1.a4 r.next.length x1.c4]), (23, .agg #[.int .i64 r.radius, .int .i64 r.unit, .int .i64 r.clicks, .int .i64 r.total, .slice x2.a1 r.group.length x2.c1, .slice x2.a2 r.drifts.length x2.c2, .slice x2.a3 r.first.length x2.c3, .slice x2.a4 r.next.length x2.c4]), (7, .pointer (some ⟨b7, 0, none⟩)), (8, .pointer (some ⟨b8, 0, none⟩))]) (fun ⟨x1, x2, b7, b8, ()⟩ => [un x1.K, un x2.K, .pt b7 [.int .i64 r.radius, .int .i64 r.unit, .int .i64 r.clicks, .int .i64 r.total, .slice x1.a1 r.group.length x1.c1, .slice x1.a2 r.drifts.length x1.c2, .slice x1.a3 r.first.length x1.c3, .slice x1.a4 r.next.length x1.c4] 25, .pt b8 [.int .i64 0, .int .i64 0, .int .i64 0, .int .i64 0, .slice none 0 0, .slice none 0 0, .slice none 0 0, .slice none 0 0] 34]) ?_ (fun hS1_3_4_5_6 => ?_)
  ·rintro ⟨x1, x2, b7, b8, _⟩
   refine aQ J fun K1 hK1 => ?_
   (refine bK V Z Z Z Z Z U Z ?_; refine aK ?_)
   exact hK1 _ _ (hS1_3_4_5_6_7 ⟨x1, x2, b7, b8, ()⟩ _ _ ⟨Z, Z, Z, Z, Z, Z, Z, trivial⟩ U)
  refine bV (σ := Cp r × Cp r × Nat × Nat × Unit) (jY) (fun ⟨x1, x2, b7, b8, ()⟩ => [(1, .int .i64 state), (2, .int .i64 click), (3, .pointer (some ⟨b3, 0, none⟩)), (21, .agg #[.int .i64 r.radius, .int .i64 r.unit, .int .i64 r.clicks, .int .i64 r.total, .slice x1.a1 r.group.length x1.c1, .slice x1.a2 r.drifts.length x1.c2, .slice x1.a3 r.first.length x1.c3, .slice x1.a4 r.next.length x1.c4]), (23, .agg #[.int .i64 r.radius, .int .i64 r.unit, .int .i64 r.clicks, .int .i64 r.total, .slice x2.a1 r.group.length x2.c1, .slice x2.a2 r.drifts.length x2.c2, .slice x2.a3 r.first.length x2.c3, .slice x2.a4 r.next.length x2.c4]), (7, .pointer (some ⟨b7, 0, none⟩)), (8, .pointer (some ⟨b8, 0, none⟩))]) (fun ⟨x1, x2, b7, b8, ()⟩ => [un x1.K, un x2.K, .pt b7 [.int .i64 0, .int .i64 0, .int .i64 0, .int .i64 0, .slice none 0 0, .slice none 0 0, .slice none 0 0, .slice none 0 0] 25, .pt b8 [.int .i64 0, .int .i64 0, .int .i64 0, .int .i64 0, .slice none 0 0, .slice none 0 0, .slice none 0 0, .slice none 0 0] 34]) ?_ (fun hS1_3_4_5 => ?_)
  ·rintro ⟨x1, x2, b7, b8, _⟩
   refine aQ J fun K1 hK1 => ?_
   (refine bK V Z Z Z Z Z U Z ?_; refine aK ?_)
   exact hK1 _ _ (hS1_3_4_5_6 ⟨x1, x2, b7, b8, ()⟩ _ _ ⟨Z, Z, Z, Z, Z, Z, Z, trivial⟩ U)
  refine bV (σ := Cp r × Cp r × Nat × Unit) (pA) (fun ⟨x1, x2, b7, ()⟩ => [(1, .int .i64 state), (2, .int .i64 click), (3, .pointer (some ⟨b3, 0, none⟩)), (21, .agg #[.int .i64 r.radius, .int .i64 r.unit, .int .i64 r.clicks, .int .i64 r.total, .slice x1.a1 r.group.length x1.c1, .slice x1.a2 r.drifts.length x1.c2, .slice x1.a3 r.first.length x1.c3, .slice x1.a4 r.next.length x1.c4]), (23, .agg #[.int .i64 r.radius, .int .i64 r.unit, .int .i64 r.clicks, .int .i64 r.total, .slice x2.a1 r.group.length x2.c1, .slice x2.a2 r.drifts.length x2.c2, .slice x2.a3 r.first.length x2.c3, .slice x2.a4 r.next.length x2.c4]), (7, .pointer (some ⟨b7, 0, none⟩))]) (fun ⟨x1, x2, b7, ()⟩ => [un x1.K, un x2.K, .pt b7 [.int .i64 0, .int .i64 0, .int .i64 0, .int .i64 0, .slice none 0 0, .slice none 0 0, .slice none 0 0, .slice none 0 0] 25]) ?_ (fun hS1_3_4 => ?_)
  ·rintro ⟨x1, x2, b7, _⟩
   refine aQ J fun K1 hK1 => ?_
   refine aU dV Z (fun b8 => ?_)
   (refine aK ?_)
   exact hK1 _ _ (hS1_3_4_5 ⟨x1, x2, b7, b8, ()⟩ _ _ ⟨Z, Z, Z, Z, Z, Z, Z, trivial⟩ U)
  refine bV (σ := Cp r × Cp r × Nat × Unit) (nV) (fun ⟨x1, x2, b8, ()⟩ => [(1, .int .i64 state), (2, .int .i64 click), (3, .pointer (some ⟨b3, 0, none⟩)), (21, .agg #[.int .i64 r.radius, .int .i64 r.unit, .int .i64 r.clicks, .int .i64 r.total, .slice x1.a1 r.group.length x1.c1, .slice x1.a2 r.drifts.length x1.c2, .slice x1.a3 r.first.length x1.c3, .slice x1.a4 r.next.length x1.c4]), (23, .agg #[.int .i64 r.radius, .int .i64 r.unit, .int .i64 r.clicks, .int .i64 r.total, .slice x2.a1 r.group.length x2.c1, .slice x2.a2 r.drifts.length x2.c2, .slice x2.a3 r.first.length x2.c3, .slice x2.a4 r.next.length x2.c4]), (8, .pointer (some ⟨b8, 0, none⟩))]) (fun ⟨x1, x2, b8, ()⟩ => [un x1.K, un x2.K, .pt b8 [.int .i64 0, .int .i64 0, .int .i64 0, .int .i64 0, .slice none 0 0, .slice none 0 0, .slice none 0 0, .slice none 0 0] 34]) ?_ (fun hS1_3_5 => ?_)
  ·rintro ⟨x1, x2, b8, _⟩
   refine aQ J fun K1 hK1 => ?_
   refine aU cU Z (fun b7 => ?_)
   (refine aK ?_)
   exact hK1 _ _ (hS1_3_4_5 ⟨x1, x2, b7, b8, ()⟩ _ _ ⟨Z, Z, Z, Z, Z, Z, Z, trivial⟩ U)
  refine bV (σ := Cp r × Nat × Nat × Unit) (kS) (fun ⟨x1, b7, b8, ()⟩ => [(1, .int .i64 state), (2, .int .i64 click), (3, .pointer (some ⟨b3, 0, none⟩)), (21, .agg #[.int .i64 r.radius, .int .i64 r.unit, .int .i64 r.clicks, .int .i64 r.total, .slice x1.a1 r.group.length x1.c1, .slice x1.a2 r.drifts.length x1.c2, .slice x1.a3 r.first.length x1.c3, .slice x1.a4 r.next.length x1.c4]), (7, .pointer (some ⟨b7, 0, none⟩)), (8, .pointer (some ⟨b8, 0, none⟩))]) (fun ⟨x1, b7, b8, ()⟩ => [un x1.K, .pt b7 [.int .i64 0, .int .i64 0, .int .i64 0, .int .i64 0, .slice none 0 0, .slice none 0 0, .slice none 0 0, .slice none 0 0] 25, .pt b8 [.int .i64 0, .int .i64 0, .int .i64 0, .int .i64 0, .slice none 0 0, .slice none 0 0, .slice none 0 0, .slice none 0 0] 34]) ?_ (fun hS1_4_5 => ?_)
  ·rintro ⟨x1, b7, b8, _⟩
   refine aQ J fun K1 hK1 => ?_
   (refine aO V Z Z Z ?_)
   refine bD (β := Cp r) V [] _ M0 Z Z Z Z (Sp.refl _) qS (fun w' hs => cB w' _ r (h0.keep hs.chg0) hsm) ?_
   rintro x2 _ rfl
   (refine aK ?_)
   exact hK1 _ _ (hS1_3_4_5 ⟨x1, x2, b7, b8, ()⟩ _ _ ⟨Z, Z, Z, Z, Z, Z, Z, trivial⟩ U)
  refine bV (σ := Cp r × Cp r × Unit) (tM1_cae5bd2) (fun ⟨x1, x2, ()⟩ => [(1, .int .i64 state), (2, .int .i64 click), (3, .pointer (some ⟨b3, 0, none⟩)), (21, .agg #[.int .i64 r.radius, .int .i64 r.unit, .int .i64 r.clicks, .int .i64 r.total, .slice x1.a1 r.group.length x1.c1, .slice x1.a2 r.drifts.length x1.c2, .slice x1.a3 r.first.length x1.c3, .slice x1.a4 r.next.length x1.c4]), (23, .agg #[.int .i64 r.radius, .int .i64 r.unit, .int .i64 r.clicks, .int .i64 r.total, .slice x2.a1 r.group.length x2.c1, .slice x2.a2 r.drifts.length x2.c2, .slice x2.a3 r.first.length x2.c3, .slice x2.a4 r.next.length x2.c4])]) (fun ⟨x1, x2, ()⟩ => [un x1.K, un x2.K]) ?_ (fun hS1_3 => ?_)
  ·rintro ⟨x1, x2, _⟩
   refine bE ?_ ?_
   ·refine aQ J fun K1 hK1 => ?_
    refine aU cU Z (fun b7 => ?_)
    (refine aK ?_)
    exact hK1 _ _ (hS1_3_4 ⟨x1, x2, b7, ()⟩ _ _ ⟨Z, Z, Z, Z, Z, Z, trivial⟩ U)
   ·refine aQ J fun K1 hK1 => ?_
    refine aU dV Z (fun b8 => ?_)
    (refine aK ?_)
    exact hK1 _ _ (hS1_3_5 ⟨x1, x2, b8, ()⟩ _ _ ⟨Z, Z, Z, Z, Z, Z, trivial⟩ U)
  refine bV (σ := Cp r × Nat × Unit) (oE) (fun ⟨x1, b7, ()⟩ => [(1, .int .i64 state), (2, .int .i64 click), (3, .pointer (some ⟨b3, 0, none⟩)), (21, .agg #[.int .i64 r.radius, .int .i64 r.unit, .int .i64 r.clicks, .int .i64 r.total, .slice x1.a1 r.group.length x1.c1, .slice x1.a2 r.drifts.length x1.c2, .slice x1.a3 r.first.length x1.c3, .slice x1.a4 r.next.length x1.c4]), (7, .pointer (some ⟨b7, 0, none⟩))]) (fun ⟨x1, b7, ()⟩ => [un x1.K, .pt b7 [.int .i64 0, .int .i64 0, .int .i64 0, .int .i64 0, .slice none 0 0, .slice none 0 0, .slice none 0 0, .slice none 0 0] 25]) ?_ (fun hS1_4 => ?_)
  ·rintro ⟨x1, b7, _⟩
   refine bE ?_ ?_
   ·refine aQ J fun K1 hK1 => ?_
    (refine aO V Z Z Z ?_)
    refine bD (β := Cp r) V [] _ M0 Z Z Z Z (Sp.refl _) qS (fun w' hs => cB w' _ r (h0.keep hs.chg0) hsm) ?_
    rintro x2 _ rfl
    (refine aK ?_)
    exact hK1 _ _ (hS1_3_4 ⟨x1, x2, b7, ()⟩ _ _ ⟨Z, Z, Z, Z, Z, Z, trivial⟩ U)
   ·refine aQ J fun K1 hK1 => ?_
    refine aU dV Z (fun b8 => ?_)
    (refine aK ?_)
    exact hK1 _ _ (hS1_4_5 ⟨x1, b7, b8, ()⟩ _ _ ⟨Z, Z, Z, Z, Z, Z, trivial⟩ U)
  refine bV (σ := Cp r × Nat × Unit) (oG) (fun ⟨x1, b8, ()⟩ => [(1, .int .i64 state), (2, .int .i64 click), (3, .pointer (some ⟨b3, 0, none⟩)), (21, .agg #[.int .i64 r.radius, .int .i64 r.unit, .int .i64 r.clicks, .int .i64 r.total, .slice x1.a1 r.group.length x1.c1, .slice x1.a2 r.drifts.length x1.c2, .slice x1.a3 r.first.length x1.c3, .slice x1.a4 r.next.length x1.c4]), (8, .pointer (some ⟨b8, 0, none⟩))]) (fun ⟨x1, b8, ()⟩ => [un x1.K, .pt b8 [.int .i64 0, .int .i64 0, .int .i64 0, .int .i64 0, .slice none 0 0, .slice none 0 0, .slice none 0 0, .slice none 0 0] 34]) ?_ (fun hS1_5 => ?_)
  ·rintro ⟨x1, b8, _⟩
   refine bE ?_ ?_
   ·refine aQ J fun K1 hK1 => ?_
    (refine aO V Z Z Z ?_)
    refine bD (β := Cp r) V [] _ M0 Z Z Z Z (Sp.refl _) qS (fun w' hs => cB w' _ r (h0.keep hs.chg0) hsm) ?_
    rintro x2 _ rfl
    (refine aK ?_)
    exact hK1 _ _ (hS1_3_5 ⟨x1, x2, b8, ()⟩ _ _ ⟨Z, Z, Z, Z, Z, Z, trivial⟩ U)
   ·refine aQ J fun K1 hK1 => ?_
    refine aU cU Z (fun b7 => ?_)
    (refine aK ?_)
    exact hK1 _ _ (hS1_4_5 ⟨x1, b7, b8, ()⟩ _ _ ⟨Z, Z, Z, Z, Z, Z, trivial⟩ U)
  refine bV (σ := Nat × Nat × Unit) (pO) (fun ⟨b7, b8, ()⟩ => [(1, .int .i64 state), (2, .int .i64 click), (3, .pointer (some ⟨b3, 0, none⟩)), (7, .pointer (some ⟨b7, 0, none⟩)), (8, .pointer (some ⟨b8, 0, none⟩))]) (fun ⟨b7, b8, ()⟩ => [.pt b7 [.int .i64 0, .int .i64 0, .int .i64 0, .int .i64 0, .slice none 0 0, .slice none 0 0, .slice none 0 0, .slice none 0 0] 25, .pt b8 [.int .i64 0, .int .i64 0, .int .i64 0, .int .i64 0, .slice none 0 0, .slice none 0 0, .slice none 0 0, .slice none 0 0] 34]) ?_ (fun hS4_5 => ?_)
  ·rintro ⟨b7, b8, _⟩
   refine aQ J fun K1 hK1 => ?_
   (refine aO V Z Z Z ?_)
   refine bD (β := Cp r) V [] _ M0 Z Z Z Z (Sp.refl _) qS (fun w' hs => cB w' _ r (h0.keep hs.chg0) hsm) ?_
   rintro x1 _ rfl
   (refine aK ?_)
   exact hK1 _ _ (hS1_4_5 ⟨x1, b7, b8, ()⟩ _ _ ⟨Z, Z, Z, Z, Z, Z, trivial⟩ U)
  refine bV (σ := Cp r × Unit) (tM1_54d3bd4) (fun ⟨x1, ()⟩ => [(1, .int .i64 state), (2, .int .i64 click), (3, .pointer (some ⟨b3, 0, none⟩)), (21, .agg #[.int .i64 r.radius, .int .i64 r.unit, .int .i64 r.clicks, .int .i64 r.total, .slice x1.a1 r.group.length x1.c1, .slice x1.a2 r.drifts.length x1.c2, .slice x1.a3 r.first.length x1.c3, .slice x1.a4 r.next.length x1.c4])]) (fun ⟨x1, ()⟩ => [un x1.K]) ?_ (fun hS1 => ?_)
  ·rintro ⟨x1, _⟩
   refine bE ?_ (bE ?_ ?_)
   ·refine aQ J fun K1 hK1 => ?_
    (refine aO V Z Z Z ?_)
    refine bD (β := Cp r) V [] _ M0 Z Z Z Z (Sp.refl _) qS (fun w' hs => cB w' _ r (h0.keep hs.chg0) hsm) ?_
    rintro x2 _ rfl
    (refine aK ?_)
    exact hK1 _ _ (hS1_3 ⟨x1, x2, ()⟩ _ _ ⟨Z, Z, Z, Z, Z, trivial⟩ U)
   ·refine aQ J fun K1 hK1 => ?_
    refine aU cU Z (fun b7 => ?_)
    (refine aK ?_)
    exact hK1 _ _ (hS1_4 ⟨x1, b7, ()⟩ _ _ ⟨Z, Z, Z, Z, Z, trivial⟩ U)
   ·refine aQ J fun K1 hK1 => ?_
    refine aU dV Z (fun b8 => ?_)
    (refine aK ?_)
    exact hK1 _ _ (hS1_5 ⟨x1, b8, ()⟩ _ _ ⟨Z, Z, Z, Z, Z, trivial⟩ U)
  refine bV (σ := Nat × Unit) (tM1_95e93e2) (fun ⟨b7, ()⟩ => [(1, .int .i64 state), (2, .int .i64 click), (3, .pointer (some ⟨b3, 0, none⟩)), (7, .pointer (some ⟨b7, 0, none⟩))]) (fun ⟨b7, ()⟩ => [.pt b7 [.int .i64 0, .int .i64 0, .int .i64 0, .int .i64 0, .slice none 0 0, .slice none 0 0, .slice none 0 0, .slice none 0 0] 25]) ?_ (fun hS4 => ?_)
  ·rintro ⟨b7, _⟩
   refine bE ?_ ?_
   ·refine aQ J fun K1 hK1 => ?_
    (refine aO V Z Z Z ?_)
    refine bD (β := Cp r) V [] _ M0 Z Z Z Z (Sp.refl _) qS (fun w' hs => cB w' _ r (h0.keep hs.chg0) hsm) ?_
    rintro x1 _ rfl
    (refine aK ?_)
    exact hK1 _ _ (hS1_4 ⟨x1, b7, ()⟩ _ _ ⟨Z, Z, Z, Z, Z, trivial⟩ U)
   ·refine aQ J fun K1 hK1 => ?_
    refine aU dV Z (fun b8 => ?_)
    (refine aK ?_)
    exact hK1 _ _ (hS4_5 ⟨b7, b8, ()⟩ _ _ ⟨Z, Z, Z, Z, Z, trivial⟩ U)
  refine bV (σ := Nat × Unit) (tM1_ae3c7f7) (fun ⟨b8, ()⟩ => [(1, .int .i64 state), (2, .int .i64 click), (3, .pointer (some ⟨b3, 0, none⟩)), (8, .pointer (some ⟨b8, 0, none⟩))]) (fun ⟨b8, ()⟩ => [.pt b8 [.int .i64 0, .int .i64 0, .int .i64 0, .int .i64 0, .slice none 0 0, .slice none 0 0, .slice none 0 0, .slice none 0 0] 34]) ?_ (fun hS5 => ?_)
  ·rintro ⟨b8, _⟩
   refine bE ?_ ?_
   ·refine aQ J fun K1 hK1 => ?_
    (refine aO V Z Z Z ?_)
    refine bD (β := Cp r) V [] _ M0 Z Z Z Z (Sp.refl _) qS (fun w' hs => cB w' _ r (h0.keep hs.chg0) hsm) ?_
    rintro x1 _ rfl
    (refine aK ?_)
    exact hK1 _ _ (hS1_5 ⟨x1, b8, ()⟩ _ _ ⟨Z, Z, Z, Z, Z, trivial⟩ U)
   ·refine aQ J fun K1 hK1 => ?_
    refine aU cU Z (fun b7 => ?_)
    (refine aK ?_)
    exact hK1 _ _ (hS4_5 ⟨b7, b8, ()⟩ _ _ ⟨Z, Z, Z, Z, Z, trivial⟩ U)
  refine bE ?_ (bE ?_ ?_)
  ·refine aQ J fun K1 hK1 => ?_
   (refine aO V Z Z Z ?_)
   refine bD (β := Cp r) V [] _ M0 Z Z Z Z (Sp.refl _) qS (fun w' hs => cB w' _ r (h0.keep hs.chg0) hsm) ?_
   rintro x1 _ rfl
   (refine aK ?_)
   exact hK1 _ _ (hS1 ⟨x1, ()⟩ _ _ ⟨Z, Z, Z, Z, trivial⟩ U)
  ·refine aQ J fun K1 hK1 => ?_
   refine aU cU Z (fun b7 => ?_)
   (refine aK ?_)
   exact hK1 _ _ (hS4 ⟨b7, ()⟩ _ _ ⟨Z, Z, Z, Z, trivial⟩ U)
  ·refine aQ J fun K1 hK1 => ?_
   refine aU dV Z (fun b8 => ?_)
   (refine aK ?_)
   exact hK1 _ _ (hS5 ⟨b8, ()⟩ _ _ ⟨Z, Z, Z, Z, trivial⟩ U)
 rintro ⟨b7, b8, x1, x2⟩
 dsimp only
 (refine aE (aE ?_))
 refine bX _ [] (Sp.refl _) qR qR ?_
 (refine aO V Z Z Z ?_)
 refine aS (val := .int .i64 (checkV r)) V Z Z Z Z (fun w hs => ?_) ?_; exact dJ w _ r (Cp.at2 x1 r Z Z Z Z hs U) hsm
 (refine aO V Z Z Z ?_)
 refine aS (val := .int .i64 (checkV r)) V Z Z Z Z (fun w hs => ?_) ?_; exact gI w _ r (Cp.at2 x2 r Z Z Z Z hs U) hsm
 (refine qf_neqF V Z Z Z O (aK (aL Z (aR (aE (aB ?_))))); refine aI V Z Z Z ?_)
 refine bO (β := Value × List Ck) (L' := fun x => [un x.2]) V [] _ M0 Z Z Z Z (Sp.refl _) qS (fun w' hs => chances_u w' _ r (Cp.at2 x1 r Z Z Z Z hs U) hsm) ?_
 rintro ⟨va, K1⟩ _ ⟨rfl, hva⟩
 dsimp only at hva ⊢
 (refine aA V Z Z (bC V Z Z Z (bC V Z Z Z (aA V Z Z (aA V Z Z (aF (aE (aB ?_))))))); refine aI V Z Z Z ?_)
 refine bO (β := Value × List Ck) (L' := fun x => [un x.2]) V [] _ M0 Z Z Z Z (Sp.refl _) qS (fun w' hs => rchances_u w' _ r (Cp.at2 x2 r Z Z Z Z hs U) hsm) ?_
 rintro ⟨vb, K2⟩ _ ⟨rfl, hvb⟩
 dsimp only at hvb ⊢
 (refine aA V Z Z (bC V Z Z Z (bC V Z Z Z (aA V Z Z (aA V Z Z (aF (aE (aE (aB (aA V Z Z (aA V Z Z (dM V Z Z Z O ?_))))))))))); refine aA V Z Z (aC Z (aA V Z Z (aC Z (aA V Z Z (aC Z ?_))))))
 refine aJ (val := .bool true) V Z Z Z Z (fun w hs => ?_) ?_; exact eqRR_ca w _ _ _ _ va vb (mA r) (hva w (fun c hc => hs.un_mem (L := K1) U hc)) (hvb w (fun c hc => hs.un_mem (L := K2) U hc)) (by have := chRows_len r; omega) (chRows_row r hsm)
 (refine aC Z (aA V Z Z (aA V Z Z (aF (aL Z (aR (aE (aB ?_))))))); refine aI V Z Z Z ?_; refine aA V Z Z (aA V Z Z ?_))
 refine aJ (val := .tuple #[.agg #[.int .i64 (hitV r state click).1.1, .int .i64 (hitV r state click).1.2], .int .i64 (hitV r state click).2]) V Z Z Z Z (fun w hs => ?_) ?_; exact hit_ca w _ r state click (Cp.at2 x1 r Z Z Z Z hs U) hsm
 (refine aA V Z Z (bC V Z Z Z (bC V Z Z Z ?_)))
 refine aV cO Z (fun b13 => ?_)
 (refine aY V Z Z Z Z Z U Z ?_; refine aA V Z Z (aF (aE (aB ?_))); refine aI V Z Z Z ?_; refine aA V Z Z (aA V Z Z ?_))
 refine aJ (val := .tuple #[.agg #[.int .i64 (hitV r state click).1.1, .int .i64 (hitV r state click).1.2], .int .i64 (hitV r state click).2]) V Z Z Z Z (fun w hs => ?_) ?_; exact rhit_ca w _ r state click (Cp.at2 x2 r Z Z Z Z hs U) hsm
 (refine aA V Z Z (bC V Z Z Z (bC V Z Z Z ?_)))
 refine aV cO Z (fun b14 => ?_)
 (refine aY V Z Z Z Z Z U Z ?_; refine aA V Z Z (aF (aE (aE (aB (aA V Z Z (aA V Z Z (dM V Z Z Z O (aA V Z Z (aC Z ?_))))))))); refine aI V Z Z Z ?_; refine aC Z ?_; refine aI V Z Z Z ?_; refine aC Z ?_)
 refine mL [some .i64, some .i64] eZ Z Z Z Z Z ?_; rw [eO]
 (refine aA V Z Z (aF (aL Z (aR (aE (aB ?_))))); refine aI V Z Z Z ?_; refine aA V Z Z ?_)
 refine aJ (val := .tuple #[.agg #[.int .i64 (mG r click).1.1, .int .i64 (mG r click).1.2], .int .i64 (mG r click).2]) V Z Z Z Z (fun w hs => ?_) ?_; exact expectedF_ca w _ r click (Cp.at2 x1 r Z Z Z Z hs U) hsm
 (refine aA V Z Z (bC V Z Z Z (bC V Z Z Z ?_)); refine aY V Z Z Z Z Z U Z ?_; refine aA V Z Z (aF (aE (aB ?_))); refine aI V Z Z Z ?_; refine aA V Z Z ?_)
 refine aJ (val := .tuple #[.agg #[.int .i64 (mG r click).1.1, .int .i64 (mG r click).1.2], .int .i64 (mG r click).2]) V Z Z Z Z (fun w hs => ?_) ?_; exact rexpectedF_ca w _ r click (Cp.at2 x2 r Z Z Z Z hs U) hsm
 (refine aA V Z Z (bC V Z Z Z (bC V Z Z Z ?_)); refine aY V Z Z Z Z Z U Z ?_; refine aA V Z Z (aF (aE (aE (aB (aA V Z Z (aA V Z Z (dM V Z Z Z O (aA V Z Z (aC Z ?_))))))))); refine aI V Z Z Z ?_; refine aC Z ?_; refine aI V Z Z Z ?_; refine aC Z ?_)
 refine mL [some .i64, some .i64] eZ Z Z Z Z Z ?_; rw [eO]
 (refine aA V Z Z (aF (aL Z (aR (aE (aB ?_))))); refine aI V Z Z Z ?_)
 refine aJ (val := .tuple #[.int .i64 (jS r).1, .agg #[.int .i64 (jS r).2.1.1, .int .i64 (jS r).2.1.2], .int .i64 (jS r).2.2]) V Z Z Z Z (fun w hs => ?_) ?_; exact bestF_ca w _ r (Cp.at2 x1 r Z Z Z Z hs U) hsm
 (refine aA V Z Z ?_; (iterate 3 refine bC V Z Z Z ?_); refine aA V Z Z ?_; refine aY V Z Z Z Z Z U Z ?_; refine aA V Z Z (aF (aE (aB ?_))); refine aI V Z Z Z ?_)
 refine aJ (val := .tuple #[.int .i64 (jS r).1, .agg #[.int .i64 (jS r).2.1.1, .int .i64 (jS r).2.1.2], .int .i64 (jS r).2.2]) V Z Z Z Z (fun w hs => ?_) ?_; exact rbest_ca w _ r (Cp.at2 x2 r Z Z Z Z hs U) hsm
 (refine aA V Z Z ?_; (iterate 3 refine bC V Z Z Z ?_); refine aA V Z Z ?_; refine aY V Z Z Z Z Z U Z ?_; refine aA V Z Z (aF (aE (aB (aA V Z Z (aA V Z Z (dG V Z Z Z O (aA V Z Z (aC Z (aA V Z Z (aC Z (aA V Z Z ?_))))))))))); refine aC Z (dG V Z Z Z O (aA V Z Z (aA V Z Z (aC Z ?_)))); refine aI V Z Z Z ?_; refine aC Z ?_; refine aI V Z Z Z ?_; refine aC Z ?_)
 refine qD [some .i64, some .i64] eZ Z Z Z Z Z ?_; rw [eO]
 (refine aA V Z Z (aA V Z Z (aC Z ?_)); refine aI V Z Z Z ?_; refine aC Z ?_; refine aI V Z Z Z ?_; refine aC Z ?_)
 refine aJ (val := .bool true) V Z Z Z Z (fun w hs => ?_) ?_; exact same_ca w _ _ r (Cp.at2 x1 r Z Z Z Z hs U) (h0.keep hs.chg0) hsm
 (refine aA V Z Z (aA V Z Z (aC Z ?_)))
 refine aJ (val := .bool true) V Z Z Z Z (fun w hs => ?_) ?_; exact dQ w
 (refine aA V Z Z (aA V Z Z (aF (aW ?_))))
 refine aX V Z U fun w hs => ?_
 exact ⟨Z, hs.chg0⟩
end Go.Proofs.YtohlillcaadidaaGreat

/- Walks of the reference: flags and impacts. -/
namespace Go.Proofs.YtohlillcaadidaaGreat
open Go Go.Eng

theorem drift_err {fl : List (Int × Int)} {we : List Int} (h1 : 1 ≤ fl.length) (h2 : fl.length ≤ 6) (h3 : we.length = fl.length) (k : Nat) (hk : k < fl.length) (hk2 : k < we.length) (h : spB 1000 fl[k] = false ∨ inB we[k] 0 100 = false) : eR fl we = ((0, 0), 3) := by
 have e1 : inB fl.length 1 6 = true := bH.2 O
 unfold eR
 rw [e1, if_neg (by simp), if_neg O]
 cases h4 : fl.all (spB 1000) with
 | false => rfl
 | true =>
  rw [if_neg (by simp)]
  cases h5 : we.all (fun n => inB n 0 100) with
  | false => rfl
  | true =>
   have g1 := List.all_eq_true.1 h4 _ (List.getElem_mem hk)
   have g2 := List.all_eq_true.1 h5 _ (List.getElem_mem hk2)
   rcases h with h | h
   ·rw [h] at g1; cases g1
   ·rw [h] at g2; cases g2
theorem kN {m : Int} {s : Int × Int} : spB m s = true ↔ s.1 ≤ s.2 ∧ -m ≤ s.1 ∧ s.2 ≤ m := by simp [spB]
theorem dr_bd {fl : List (Int × Int)} {we : List Int} (k : Nat) (h : ∀ i, i < k → (-1000 ≤ (fl.getD i (0, 0)).1 ∧ (fl.getD i (0, 0)).1 ≤ 1000) ∧ (-1000 ≤ (fl.getD i (0, 0)).2 ∧ (fl.getD i (0, 0)).2 ≤ 1000) ∧ -100 ≤ we.getD i 0 ∧ we.getD i 0 ≤ 100) :
  (-(100000 * k : Int) ≤ drLo fl we k ∧ drLo fl we k ≤ 100000 * k) ∧ (-(100000 * k : Int) ≤ drHi fl we k ∧ drHi fl we k ≤ 100000 * k) := by
 induction k with
 | zero => simp [drLo, drHi, cV]
 | succ k ih =>
  have ih := ih (fun i hi => h i O)
  obtain ⟨h1, h2, h3⟩ := h k O
  have m1 := gK h3 h1
  have m2 := gK h3 h2
  simp only [drLo, drHi, cV] at ih ⊢
  omega

set_option maxHeartbeats 4000000 in
theorem rdrift_ca (w : World) (l0 h1 l2 h2 : Nat) (v u : Value) (fl : List (Int × Int)) (we : List Int) (hl : RdS w l0 h1 v fl) (hlen : fl.length < 1000000) (hu : RdI w l2 h2 u we) (hwlen : we.length < 1000000) :
  Ca Tryz.prog 73 [v, u] w fun v w' => v = .tuple #[rtV (eR fl we).1, .int .i64 (eR fl we).2] ∧ Chg [] w w' := by
 obtain ⟨a, ca, rfl, hsa⟩ := RdS.outI hl
 obtain ⟨b, cb, rfl, hsb⟩ := RdI.outI hu
 refine dB (Sat.nil w M0) Tryz.func73 Z (by simp [Tryz.ntmps73]) ?_
 (refine aE (aB ?_))
 refine aV qI Z (fun b4 => ?_)
 (refine aA V Z Z (aF (aE (aE (aB ?_)))); (iterate 4 refine aA V Z Z ?_))
 have e2 : ¬ (1 ≤ fl.length ∧ fl.length ≤ 6 ∧ we.length = fl.length) → eR fl we = ((0, 0), 2) := fun h => by
  unfold eR
  by_cases h1 : inB fl.length 1 6 = true
  ·have := bH.1 h1
   rw [h1, if_neg (by simp), if_pos O]
  ·rw [if_pos (by simpa using h1)]
 refine bU Z Z (fun hc => ?_) (fun hc => ?_)
 ·((iterate 3 refine bA Z Z Z ?_); refine aA V Z Z (aA V Z Z ?_); (iterate 5 refine bA Z Z Z ?_); refine aA V Z Z (aF (aM Z (aE (aB ?_)))))
  refine cE #[.int .i64 0, .int .i64 0] Z qR Z ?_
  (refine aY V Z Z Z Z Z U Z ?_; refine aA V Z Z (aF (aW ?_)))
  refine aX V Z U fun w hs => ?_
  exact ⟨by rw [e2 (by simp at hc; omega)]; rfl, hs.chg0⟩
 have c1 := of_decide_eq_false hc
 clear hc
 (refine aC Z (aA V Z Z (aC Z (aA V Z Z (aC Z ?_)))); (iterate 3 refine aA V Z Z ?_))
 refine bU Z Z (fun hc => ?_) (fun hc => ?_)
 ·((iterate 5 refine bA Z Z Z ?_); refine aA V Z Z (aF (aM Z (aE (aB ?_)))))
  refine cE #[.int .i64 0, .int .i64 0] Z qR Z ?_
  (refine aY V Z Z Z Z Z U Z ?_; refine aA V Z Z (aF (aW ?_)))
  refine aX V Z U fun w hs => ?_
  exact ⟨by rw [e2 (by simp at hc; omega)]; rfl, hs.chg0⟩
 have c2 := of_decide_eq_false hc
 clear hc
 (refine aC Z (aA V Z Z (aC Z (aA V Z Z (aC Z (aA V Z Z (aC Z (aA V Z Z (aC Z (aA V Z Z (aA V Z Z (aF ?_))))))))))))
 refine iN Z (fun hc => ?_) (fun hc => ?_)
 ·(refine aE (aB ?_))
  refine cE #[.int .i64 0, .int .i64 0] Z qR Z ?_
  (refine aY V Z Z Z Z Z U Z ?_; refine aA V Z Z (aF (aW ?_)))
  refine aX V Z U fun w hs => ?_
  exact ⟨by rw [e2 O]; rfl, hs.chg0⟩
 have c3 : we.length = fl.length := by omega
 clear hc e2
 (refine aR (aE (aB (aA V Z Z (aA V Z Z (aF (aE (aE (aB (aA V Z Z (aF (aP ?_))))))))))))
 refine bN (σ := Nat) (fun k => k ≤ fl.length ∧ (fl.take k).all (spB 1000) = true ∧ (we.take k).all (fun n => inB n 0 100) = true) (fun k => fl.length - k) (fun k => [(0, .slice a fl.length ca), (1, .slice b we.length cb), (4, .pointer (some ⟨b4, 0, none⟩)), (6, .int .i64 (drLo fl we k)), (7, .int .i64 (drHi fl we k)), (8, .int .i64 k)])
  (fun _ => [.pt b4 [.int .i64 0, .int .i64 0] 32]) 0 ⟨by omega, rfl, rfl⟩ ⟨rfl, rfl, rfl, rfl, rfl, rfl, trivial⟩ U ?_
 rintro k ⟨hk, hf, hw⟩ K hK
 (refine aE (aE (aB ?_)); (iterate 4 refine aA V Z Z ?_); refine aF ?_)
 refine dD Z (fun hc => ?_) (fun hc => ?_)
 ·have hk1 : k < fl.length := by omega
  have hk2 : k < we.length := by omega
  clear hc
  obtain ⟨ba, oa, rfl⟩ := hsa O
  obtain ⟨bb, ob, rfl⟩ := hsb O
  have herr := drift_err O O c3 k hk1 hk2
  have key : ∀ i, i < k → (-1000 ≤ (fl.getD i (0, 0)).1 ∧ (fl.getD i (0, 0)).1 ≤ 1000) ∧ (-1000 ≤ (fl.getD i (0, 0)).2 ∧ (fl.getD i (0, 0)).2 ≤ 1000) ∧ -100 ≤ we.getD i 0 ∧ we.getD i 0 ≤ 100 := fun i hi => by
   have g1 := List.all_eq_true.1 hf fl[i] (by rw [List.mem_take_iff_getElem]; exact ⟨i, by omega, rfl⟩)
   have g2 := List.all_eq_true.1 hw we[i] (by rw [List.mem_take_iff_getElem]; exact ⟨i, by omega, rfl⟩)
   have g3 := kN.1 g1
   have g4 := bH.1 g2
   simp only [List.getD_eq_getElem?_getD, List.getElem?_eq_getElem (show i < fl.length by omega), List.getElem?_eq_getElem (show i < we.length by omega), Option.getD_some]
   omega
  have hbd := dr_bd k key
  (refine aR (aE (aP (aE (aE ?_)))))
  refine bX _ [] (Sp.refl _) qR qR ?_
  (refine aD V Z Z Z (aD V Z Z Z ?_))
  refine bF V Z Z Z Z Z O O ?_
  (refine aD V Z Z Z ?_)
  refine bI (v := .int .i64 fl[k].1) V Z Z Z (fun w hs => RdS.at0 (RdE.keep hl hs.chg0) k hk1) ?_
  (refine aD V Z Z Z (aD V Z Z Z ?_))
  refine bF V Z Z Z Z Z O O ?_
  (refine aD V Z Z Z ?_)
  refine bI (v := .int .i64 fl[k].2) V Z Z Z (fun w hs => RdS.at1 (RdE.keep hl hs.chg0) k hk1) ?_
  (refine aD V Z Z Z (aD V Z Z Z ?_))
  refine jA Z Z (fun hc => ?_) (fun hc => ?_)
  ·((iterate 6 refine eD Z Z Z ?_); refine aD V Z Z Z (aD V Z Z Z ?_); (iterate 6 refine eD Z Z Z ?_); refine aD V Z Z Z (aD V Z Z Z ?_); (iterate 5 refine eD Z Z Z ?_); refine aD V Z Z Z (aK (aM Z (aE (aB ?_)))))
   refine cE #[.int .i64 0, .int .i64 0] Z qR Z ?_
   (refine aY V Z Z Z Z Z U Z ?_; refine aA V Z Z (aF (aW ?_)))
   refine aX V Z U fun w hs => ?_
   exact ⟨by rw [herr (.inl (by cases hh : spB 1000 fl[k] with | false => rfl | true => have := kN.1 hh; simp at hc; omega))]; rfl, hs.chg0⟩
  have d1 := of_decide_eq_false hc
  clear hc
  (refine aG Z (aD V Z Z Z (aG Z (aD V Z Z Z (aG Z ?_)))))
  refine bF V Z Z Z Z Z O O ?_
  (refine aG Z (aD V Z Z Z (aG Z ?_)))
  refine bI (v := .int .i64 fl[k].1) V Z Z Z (fun w hs => RdS.at0 (RdE.keep hl hs.chg0) k hk1) ?_
  (refine aG Z ?_; (iterate 3 refine aD V Z Z Z ?_))
  refine jA Z Z (fun hc => ?_) (fun hc => ?_)
  ·((iterate 6 refine eD Z Z Z ?_); refine aD V Z Z Z (aD V Z Z Z ?_); (iterate 5 refine eD Z Z Z ?_); refine aD V Z Z Z (aK (aM Z (aE (aB ?_)))))
   refine cE #[.int .i64 0, .int .i64 0] Z qR Z ?_
   (refine aY V Z Z Z Z Z U Z ?_; refine aA V Z Z (aF (aW ?_)))
   refine aX V Z U fun w hs => ?_
   exact ⟨by rw [herr (.inl (by cases hh : spB 1000 fl[k] with | false => rfl | true => have := kN.1 hh; simp at hc; omega))]; rfl, hs.chg0⟩
  have d2 := of_decide_eq_false hc
  clear hc
  (refine aG Z (aD V Z Z Z (aG Z (aD V Z Z Z (aG Z ?_)))))
  refine bF V Z Z Z Z Z O O ?_
  (refine aG Z (aD V Z Z Z (aG Z ?_)))
  refine bI (v := .int .i64 fl[k].2) V Z Z Z (fun w hs => RdS.at1 (RdE.keep hl hs.chg0) k hk1) ?_
  (refine aG Z ?_; (iterate 3 refine aD V Z Z Z ?_))
  refine jA Z Z (fun hc => ?_) (fun hc => ?_)
  ·((iterate 5 refine eD Z Z Z ?_); refine aD V Z Z Z (aK (aM Z (aE (aB ?_)))))
   refine cE #[.int .i64 0, .int .i64 0] Z qR Z ?_
   (refine aY V Z Z Z Z Z U Z ?_; refine aA V Z Z (aF (aW ?_)))
   refine aX V Z U fun w hs => ?_
   exact ⟨by rw [herr (.inl (by cases hh : spB 1000 fl[k] with | false => rfl | true => have := kN.1 hh; simp at hc; omega))]; rfl, hs.chg0⟩
  have d3 := of_decide_eq_false hc
  clear hc
  have hsp : spB 1000 fl[k] = true := kN.2 O
  (refine aG Z (aD V Z Z Z (aG Z (aD V Z Z Z (aG Z ?_)))))
  refine bF V Z Z Z Z Z O O ?_
  (refine aG Z ?_)
  refine bI (v := .int .i64 we[k]) V Z Z Z (fun w hs => RdI.at (RdE.keep hu hs.chg0) k hk2) ?_
  (refine aG Z ?_)
  refine aS (val := .bool (!(inB we[k] 0 100))) V Z Z Z Z (fun w hs => ?_) ?_; exact fO we[k] 0 100 w
  cases hin : inB we[k] 0 100 with
  | false =>
   (refine aD V Z Z Z (aK (aM Z (aE (aB ?_)))))
   refine cE #[.int .i64 0, .int .i64 0] Z qR Z ?_
   (refine aY V Z Z Z Z Z U Z ?_; refine aA V Z Z (aF (aW ?_)))
   refine aX V Z U fun w hs => ?_
   exact ⟨by rw [herr (.inr hin)]; rfl, hs.chg0⟩
  | true =>
  have hwb := bH.1 hin
  have m1 := gK (A := 100) (B := 1000) (show -100 ≤ we[k] ∧ we[k] ≤ 100 by omega) (show -1000 ≤ fl[k].1 ∧ fl[k].1 ≤ 1000 by omega)
  have m2 := gK (A := 100) (B := 1000) (show -100 ≤ we[k] ∧ we[k] ≤ 100 by omega) (show -1000 ≤ fl[k].2 ∧ fl[k].2 ≤ 1000 by omega)
  have s1 : drLo fl we (k + 1) = drLo fl we k + we[k] * fl[k].1 := by rw [drLo, cV]; simp [drLo, List.getD_eq_getElem?_getD, hk1, hk2]
  have s2 : drHi fl we (k + 1) = drHi fl we k + we[k] * fl[k].2 := by rw [drHi, cV]; simp [drHi, List.getD_eq_getElem?_getD, hk1, hk2]
  (refine aD V Z Z Z (aK (aL Z (aR ?_))))
  refine bX _ [] (Sp.refl _) qR qR ?_
  ((iterate 3 refine aD V Z Z Z ?_))
  (refine bF V Z Z Z Z Z O O ?_; refine bI V Z Z Z (fun w hs => RdI.at (RdE.keep hu hs.chg0) k hk2) ?_)
  (refine aD V Z Z Z (aD V Z Z Z ?_))
  refine bF V Z Z Z Z Z O O ?_
  (refine aD V Z Z Z ?_)
  refine bI (v := .int .i64 fl[k].1) V Z Z Z (fun w hs => RdS.at0 (RdE.keep hl hs.chg0) k hk1) ?_
  (refine bY V Z Z Z Z O O (bY V Z Z Z Z O O ?_); (iterate 3 refine aD V Z Z Z ?_))
  (refine bF V Z Z Z Z Z O O ?_; refine bI V Z Z Z (fun w hs => RdI.at (RdE.keep hu hs.chg0) k hk2) ?_)
  (refine aD V Z Z Z (aD V Z Z Z ?_))
  refine bF V Z Z Z Z Z O O ?_
  (refine aD V Z Z Z ?_)
  refine bI (v := .int .i64 fl[k].2) V Z Z Z (fun w hs => RdS.at1 (RdE.keep hl hs.chg0) k hk1) ?_
  (refine bY V Z Z Z Z O O (bY V Z Z Z Z O O (aD V Z Z Z (aD V Z Z Z (aK (bL (aB (aA V Z Z (bB V Z Z Z Z O O (aA V Z Z (aF ?_)))))))))))
  exact hK (k + 1) _ _ ⟨by omega, eI hk1 hf hsp, eI hk2 hw hin⟩ O ⟨Z, Z, Z, by rw [s1]; rfl, by rw [s2]; rfl, Z, trivial⟩ U
 ·obtain rfl : k = fl.length := by omega
  clear hc hK
  rw [List.take_length] at hf
  rw [← c3, List.take_length] at hw
  have e0 : eR fl we = ((drLo fl we fl.length, drHi fl we fl.length), 0) := by
   unfold eR
   rw [show inB fl.length 1 6 = true from bH.2 O, if_neg (by simp), if_neg O, hf, if_neg (by simp), hw, if_neg (by simp)]
  rw [e0]
  (refine bJ _ Z (aE (aB (aA V Z Z (aA V Z Z ?_)))))
  refine cE #[.int .i64 (drLo fl we fl.length), .int .i64 (drHi fl we fl.length)] Z qR Z ?_
  (refine aY V Z Z Z Z Z U Z ?_; refine aA V Z Z (aF (aW ?_)))
  refine aX V Z U fun w hs => ?_
  exact ⟨Z, hs.chg0⟩

theorem zerQ_eq (r : Rg) (l : List Int) (c : Int) : zerQ r l c = (zerN r l c l.length, 1) := by simp [zerQ, ratioV]
theorem rzero_ca (w : World) (l0 h1 : Nat) (cs : List Value) (r : Rg) (v : Value) (l : List Int) (h : RgC w cs r) (hsm : r.Small) (hl : RdI w l0 h1 v l) (hlen : l.length < 1000000) :
  Ca Tryz.prog 74 [.agg cs.toArray, v] w fun v w' => v = .tuple #[.int .i64 (iV r l).1, .int .i64 (iV r l).2] ∧ Chg [] w w' := by
 have h0 := h
 obtain ⟨lo, hi, ag, cg, ad, cd, af, cf, an, cn, rfl, hg, hdr, hf, hn⟩ := h
 obtain ⟨a, ca, rfl, hsa⟩ := RdI.outI hl
 refine dB (Sat.nil w M0) Tryz.func74 Z (by simp [Tryz.ntmps74]) ?_
 (refine aE (aB ?_))
 refine bG Z Z (fun b2 => ?_)
 (refine aA V Z Z (aA V Z Z (aF (aE (aE (aB ?_))))); refine aI V Z Z Z ?_)
 refine aJ (val := .int .i64 (checkV r)) V Z Z Z Z (fun w hs => ?_) ?_; exact gI w _ r (h0.keep hs.chg0) hsm
 (refine aA V Z Z (aF (aE (aB (aA V Z Z (aA V Z Z (aF ?_)))))))
 refine iN Z (fun hc => ?_) (fun hc => ?_)
 ·(refine aE (aB ?_); (iterate 3 refine aA V Z Z ?_); refine aF (aW ?_))
  refine aX V Z U fun w hs => ?_
  exact ⟨by simp [fT, iV, hc], hs.chg0⟩
 have hck : checkV r = 0 := by simpa using hc
 have hr := (bM r).1 hck
 have hC := hr.clicks
 have hun := hr.unit
 have hra := hr.radius
 clear hc
 (refine aR (aE (aE (aB ?_))); (iterate 3 refine aA V Z Z ?_); refine aF ?_)
 refine dD Z (fun hc => ?_) (fun hc => ?_)
 ·(refine aE (aB (aA V Z Z (aA V Z Z (aF (aW ?_))))))
  refine aX V Z U fun w hs => ?_
  exact ⟨by simp only [iV]; rw [if_neg O, if_pos O]; rfl, hs.chg0⟩
 have h20 : l.length ≤ 20 := by omega
 clear hc
 (refine aR (aE (aE (aB (aA V Z Z ?_)))))
 refine aJ (val := .bool (!(l.all fun n => inB n (-1000) 1000))) V Z Z Z Z (fun w hs => ?_) ?_; exact iX w l0 h1 _ l (-1000) 1000 (RdE.keep hl hs.chg0) hlen
 cases hal : l.all (fun n => inB n (-1000) 1000) with
 | false =>
  (refine aF (aM Z (aE (aB (aA V Z Z (aA V Z Z (aF (aW ?_))))))))
  refine aX V Z U fun w hs => ?_
  exact ⟨by simp only [iV]; rw [if_neg O, if_neg O, if_pos (by simp only [hal]; rfl)]; rfl, hs.chg0⟩
 | true =>
 have hlb : ∀ x ∈ l, -1000 ≤ x ∧ x ≤ 1000 := fun x hx => bH.1 (List.all_eq_true.1 hal x hx)
 obtain ⟨m, hm1, hm2, hm3⟩ := pick_law (zerQ r l) (fun c => zerN r l c l.length) r.clicks hC.1 (fun a b _ _ => by rw [zerQ_eq, zerQ_eq]; simp [nW])
 have hzv : iV r l = (m, 0) := by simp only [iV]; rw [if_neg O, if_neg O, if_neg (by simp only [hal]; simp), hm1]
 rw [hzv]
 (refine aF (aL Z (aR (aE (aB (aA V Z Z (aF (aE (aE (aB (aA V Z Z ?_)))))))))); refine aH V Z Z Z ?_; refine fJ V Z Z O O (aA V Z Z (aF (aP ?_))))
 refine fD (H' := [.ow (.slice none 0 0) 36 2 0 (spC (((eT r.clicks).take 0).map (zerQ r l))), .pt b2 [.int .i64 r.radius, .int .i64 r.unit, .int .i64 r.clicks, .int .i64 r.total, .slice ag r.group.length cg, .slice ad r.drifts.length cd, .slice af r.first.length cf, .slice an r.next.length cn] 34]) (fun w' hs => Sat.ownil (hs.sp U) _ _) ?_
 refine bN (σ := Nat × Value) (fun s => s.1 ≤ (2 * r.clicks + 1).toNat) (fun s => (2 * r.clicks + 1).toNat - s.1) (fun s => [(1, .slice a l.length ca), (2, .pointer (some ⟨b2, 0, none⟩)), (7, s.2), (8, .int .i64 ((s.1 : Int) - r.clicks))])
  (fun s => [.ow s.2 36 2 s.1 (spC (((eT r.clicks).take s.1).map (zerQ r l))), .pt b2 [.int .i64 r.radius, .int .i64 r.unit, .int .i64 r.clicks, .int .i64 r.total, .slice ag r.group.length cg, .slice ad r.drifts.length cd, .slice af r.first.length cf, .slice an r.next.length cn] 34]) (0, .slice none 0 0) (by simp) ⟨rfl, rfl, rfl, fE rfl (by simp), trivial⟩ U ?_
 rintro ⟨j, v⟩ hj K hK
 simp only at hj
 dsimp only
 (refine aE (aE (aB (aA V Z Z (aA V Z Z ?_)))); refine aH V Z Z Z ?_; refine aA V Z Z (aF ?_))
 refine dD Z (fun hc => ?_) (fun hc => ?_)
 ·have hj2 : j < (2 * r.clicks + 1).toNat := by omega
  clear hc
  obtain ⟨c, hcj⟩ : ∃ c : Int, c = (j : Int) - r.clicks := ⟨_, rfl⟩
  have e1 : spC (((eT r.clicks).take (j + 1)).map (zerQ r l)) = spC (((eT r.clicks).take j).map (zerQ r l)) ++ [.int .i64 (zerN r l c l.length), .int .i64 1] := by
   rw [qQ _ _ hj2, ← hcj]
   simp [spC, zerQ_eq]
  have hcb : -6 ≤ c ∧ c ≤ 6 := by omega
  have hcu := gK hcb (B := 20) (show -20 ≤ r.unit ∧ r.unit ≤ 20 by omega)
  rw [← hcj]
  (refine aR (aE (aP (aE (aB (aA V Z Z (aF (aE (aE (aB (aA V Z Z (aF ?_))))))))))); refine aP ?_)
  refine bN (σ := Nat) (fun i => i ≤ l.length) (fun i => l.length - i) (fun i => [(1, .slice a l.length ca), (2, .pointer (some ⟨b2, 0, none⟩)), (7, v), (8, .int .i64 c), (9, .int .i64 (zerN r l c i)), (10, .int .i64 i)])
   (fun _ => [.ow v 36 2 j (spC (((eT r.clicks).take j).map (zerQ r l))), .pt b2 [.int .i64 r.radius, .int .i64 r.unit, .int .i64 r.clicks, .int .i64 r.total, .slice ag r.group.length cg, .slice ad r.drifts.length cd, .slice af r.first.length cf, .slice an r.next.length cn] 34]) 0 O ⟨rfl, rfl, rfl, rfl, rfl, rfl, trivial⟩ U ?_
  intro i hi K2 hK2
  (refine aE (aE (aB ?_)); (iterate 4 refine aA V Z Z ?_); refine aF ?_)
  refine dD Z (fun hc => ?_) (fun hc => ?_)
  ·have hi2 : i < l.length := by omega
   clear hc
   obtain ⟨ba, oa, rfl⟩ := hsa O
   have hlx := hlb l[i] (List.getElem_mem hi2)
   have hzb := zerN_bd r l c i
   have hst : zerN r l c (i + 1) = zerN r l c i + if hitB r (l[i] + c * r.unit) then 0 else 1 := by rw [zerN, cV]; simp [zerN, List.getD_eq_getElem?_getD, hi2]
   (refine aR (aE (aP (aE ?_))))
   refine bX _ [] (Sp.refl _) qR qR ?_
   (refine aD V Z Z Z (aD V Z Z Z ?_))
   (refine bF V Z Z Z Z Z O O ?_; refine bI V Z Z Z (fun w hs => RdI.at (RdE.keep hl hs.chg0) i hi2) ?_)
   (refine aD V Z Z Z (aD V Z Z Z ?_); refine aT V Z Z Z ?_; refine bY V Z Z Z Z O O (bY V Z Z Z Z O O (aD V Z Z Z ?_)); refine aT V Z Z Z ?_; refine qf_neg V Z Z O O (aD V Z Z Z ?_); refine aT V Z Z Z ?_)
   refine aS (val := .bool (!(hitB r (l[i] + c * r.unit)))) V Z Z Z Z (fun w hs => ?_) ?_; exact fO (l[i] + c * r.unit) (-r.radius) r.radius w
   cases hh : hitB r (l[i] + c * r.unit) with
   | true =>
    rw [hh] at hst
    (refine aK (aL Z (aR (bL (aB (aA V Z Z (bB V Z Z Z Z O O (aA V Z Z (aF ?_)))))))))
    exact hK2 (i + 1) _ _ O O ⟨Z, Z, Z, Z, by rw [hst]; simp; rfl, Z, trivial⟩ U
   | false =>
    rw [hh] at hst
    (refine aK (aM Z (aB (aA V Z Z (bB V Z Z Z Z O O (aA V Z Z (aF (bL (aB (aA V Z Z (bB V Z Z Z Z O O (aA V Z Z ?_))))))))))); refine aF ?_)
    exact hK2 (i + 1) _ _ O O ⟨Z, Z, Z, Z, by rw [hst]; simp; rfl, Z, trivial⟩ U
  ·obtain rfl : i = l.length := by omega
   clear hc hK2
   (refine bJ _ Z (aB (aA V Z Z (aA V Z Z ?_))))
   refine cE #[.int .i64 (zerN r l c l.length), .int .i64 1] Z qR Z ?_
   refine dP 36 [.int .i64 (zerN r l c l.length), .int .i64 1] Z qR Z (fun bn => ?_)
   refine eH (q := 1) slR Z Z Z (fun v' => by repeat constructor) (fun w' hs => ⟨_, _, Blk.rdSp (hs.blk (b := bn) U)⟩) (by simp [dY]) O O (fun v' => ?_)
   (refine aA V Z Z (aF (bL (aB (aA V Z Z (bB V Z Z Z Z O O (aA V Z Z (aF ?_))))))))
   exact hK (j + 1, v') _ _ (by simp only; omega) (by simp only; omega) ⟨Z, Z, Z, fE Z (by simp only; omega), trivial⟩ (by simp only [e1]; repeat constructor)
 ·obtain rfl : j = (2 * r.clicks + 1).toNat := by omega
  clear hc hK
  have hlen2 : ((eT r.clicks).map (zerQ r l)).length = (2 * r.clicks + 1).toNat := by rw [List.length_map, gA]
  rw [List.take_of_length_le (by rw [gA]; omega)]
  have hm4 : pickI r.clicks ((eT r.clicks).map (zerQ r l)) (((eT r.clicks).map (zerQ r l)).length - 1) = (m + r.clicks).toNat := by
   rw [hlen2, show (2 * r.clicks + 1).toNat - 1 = (2 * r.clicks).toNat by omega]
   omega
  (refine bJ _ Z (aE (aB ?_)); refine aI V Z Z Z ?_; refine aA V Z Z ?_)
  refine aJ (val := .tuple #[.int .i64 m, .agg #[.int .i64 (((eT r.clicks).map (zerQ r l)).getD (m + r.clicks).toNat (0, 1)).1, .int .i64 (((eT r.clicks).map (zerQ r l)).getD (m + r.clicks).toNat (0, 1)).2]]) V rfl rfl rfl rfl (fun w hs => ?_) ?_; exact by have := pick_ca w 0 w.heap.size _ r v ((eT r.clicks).map (zerQ r l)) (h0.keep hs.chg0) hC (Sat.rdSp hs (t := 36) (k := (2 * r.clicks + 1).toNat) U hlen2.symm) O O (fun x hx => by obtain ⟨c, _, rfl⟩ := List.mem_map.1 hx; rw [zerQ_eq]; have := zerN_bd r l c l.length; exact ⟨by simp only; omega, by simp only; omega, by simp, by simp⟩); rw [hm4, show (((m + r.clicks).toNat : Nat) : Int) - r.clicks = m by omega] at this; exact this
  (refine aA V Z Z (bC V Z Z Z (bC V Z Z Z ?_)))
  refine aV cO Z (fun b9 => ?_)
  (refine aA V Z Z ?_; refine aY V Z Z Z Z Z U Z ?_; refine aF (aE (aB ?_)); (iterate 3 refine aA V Z Z ?_); refine aF (aW ?_))
  refine aX V Z U fun w hs => ?_
  exact ⟨Z, hs.chg0⟩
end Go.Proofs.YtohlillcaadidaaGreat

/- The walk of WindReads. -/
namespace Go.Proofs.YtohlillcaadidaaGreat
open Go Go.Eng

set_option maxHeartbeats 1000000 in
theorem eqS_ca (w : World) (lo hi lo2 hi2 : Nat) (v u : Value) (l : List (Int × Int)) (h1 : RdS w lo hi v l) (h2 : RdS w lo2 hi2 u l) (hlen : l.length ≤ 1000000) :
  Ca Tryz.prog 19 [v, u] w fun r w' => r = .bool true ∧ Chg [] w w' := by
 obtain ⟨a, ca, rfl, hsa⟩ := RdS.outI h1
 obtain ⟨b, cb, rfl, hsb⟩ := RdS.outI h2
 refine dB (Sat.nil w M0) Tryz.func19 Z (by simp [Tryz.ntmps19]) ?_
 (refine aE (aB (aA V Z Z (aF (aE (aE (aB ?_)))))); (iterate 4 refine aA V Z Z ?_); refine dM V Z Z Z O (aF (aL Z (aR (aE (aE (aB ?_)))))); (iterate 3 refine aA V Z Z ?_); refine aF (aP ?_))
 refine bN (σ := Nat) (fun s => s ≤ l.length) (fun s => l.length - s) (fun s => [(0, .slice a l.length ca), (1, .slice b l.length cb), (12, .int .i64 l.length), (13, .int .i64 s)]) (fun _ => []) 0 O ⟨Z, Z, Z, Z, trivial⟩ U ?_
 intro i hi K hK
 (refine aE (aB (aA V Z Z (aF (aE ?_)))))
 refine dD Z (fun hc => ?_) (fun hc => ?_)
 ·have hi2 : i < l.length := by omega
  clear hc
  obtain ⟨ba, oa, rfl⟩ := hsa O
  obtain ⟨bb, ob, rfl⟩ := hsb O
  (refine aR (aE (aP (aE (aB (aA V Z Z (aA V Z Z (aF (aE ?_)))))))))
  refine bX _ [] (Sp.refl _) qR qR ?_
  (refine aD V Z Z Z (aD V Z Z Z ?_))
  (refine bF V Z Z Z Z Z O O ?_; refine gY V Z Z Z Z (fun w hs => RdS.at (RdE.keep h1 hs.chg0) i hi2) ?_)
  (refine aD V Z Z Z (aD V Z Z Z ?_))
  (refine bF V Z Z Z Z Z O O ?_; refine gY V Z Z Z Z (fun w hs => RdS.at (RdE.keep h2 hs.chg0) i hi2) ?_)
  refine qf_neF [some .i64, some .i64] spn_flat Z Z Z Z Z ?_
  rw [eO]
  (refine aK (aL Z (aR (bL (aB (bB V Z Z Z Z O O (aA V Z Z (aF ?_))))))))
  exact hK (i + 1) _ _ O O ⟨Z, Z, Z, Z, trivial⟩ U
 ·(refine bJ _ Z (aE (aB (aA V Z Z (aF (aW ?_))))))
  refine aX V Z U fun w hs => ?_
  exact ⟨Z, hs.chg0⟩

def pM : OT := aN [9, 10, 11, 12] (.nil)
def tM2_bcd7028 : OT := aN [8] (pM)
def oW : OT := aN [6, 7] (pM)
def tM2_7ab9e7d : OT := .alt (aN [6, 7] (tM2_bcd7028)) (aN [8] (oW))
def pJ : OT := aN [4, 5] (oW)
def tM2_683c67a : OT := .alt (aN [4, 5] (tM2_7ab9e7d)) (aN [8] (pJ))
def pD : OT := aN [2, 3] (pJ)
def tM2_484ec27 : OT := .alt (aN [2, 3] (tM2_683c67a)) (aN [8] (pD))
def tM2_1d552b6 : OT := aN [0, 1] (pD)
def tM2_09a4d58 : OT := .alt (aN [0, 1] (tM2_484ec27)) (aN [8] (tM2_1d552b6))
set_option maxRecDepth 40000 in
set_option maxHeartbeats 16000000 in
theorem eU (w : World) (l0 h0_ l1 h1_ l3 h3_ : Nat) (vf vw vi : Value) (fl : List (Int × Int)) (we im : List Int) (cs : List Value) (r : Rg) (hfl : RdS w l0 h0_ vf fl) (hwe : RdI w l1 h1_ vw we) (h : RgC w cs r) (him : RdI w l3 h3_ vi im) (n0 : fl.length ≤ maxLen) (n1 : we.length ≤ maxLen) (hl : r.next.length ≤ maxLen) (n3 : im.length ≤ maxLen) :
  Ca Tryz.prog 27 [vf, vw, .agg cs.toArray, vi] w fun r w' => r = .bool true ∧ Chg [] w w' := by
 have h0 := h
 obtain ⟨lo, hi, ag, cg, ad, cd, af, cf, an, cn, rfl, hg, hdr, hf, hn⟩ := h
 obtain ⟨fa, fc, rfl, _⟩ := RdS.outI hfl
 obtain ⟨wa, wc, rfl, _⟩ := RdI.outI hwe
 obtain ⟨ia, ic, rfl, _⟩ := RdI.outI him
 simp only [maxLen] at n0 n1 n3
 refine dB (Sat.nil w M0) Tryz.func27 Z (by simp [Tryz.ntmps27]) ?_
 (refine aE (aB ?_))
 refine bG Z Z (fun b6 => ?_)
 (refine aA V Z Z (aF (aE (aE (aB ?_)))); (iterate 4 refine aA V Z Z ?_))
 refine bU Z Z (fun hc => ?_) (fun hc => ?_)
 ·((iterate 3 refine bA Z Z Z ?_); refine aA V Z Z (aA V Z Z (bA Z Z Z (bA Z Z Z (aA V Z Z (aA V Z Z ?_))))); (iterate 3 refine bA Z Z Z ?_); refine aA V Z Z (aF (aM Z (aE (aB ?_)))))
  refine aJ (val := .bool true) V Z Z Z Z (fun w hs => ?_) ?_; exact dQ w
  (refine aA V Z Z (aF (aW ?_)))
  refine aX V Z U fun w hs => ?_
  exact ⟨Z, hs.chg0⟩
 have c1 := of_decide_eq_false hc
 clear hc
 (refine aC Z (aA V Z Z (aC Z (aA V Z Z (aC Z ?_)))); (iterate 3 refine aA V Z Z ?_))
 refine bU Z Z (fun hc => ?_) (fun hc => ?_)
 ·(refine bA Z Z Z (bA Z Z Z (aA V Z Z (aA V Z Z ?_))); (iterate 3 refine bA Z Z Z ?_); refine aA V Z Z (aF (aM Z (aE (aB ?_)))))
  refine aJ (val := .bool true) V Z Z Z Z (fun w hs => ?_) ?_; exact dQ w
  (refine aA V Z Z (aF (aW ?_)))
  refine aX V Z U fun w hs => ?_
  exact ⟨Z, hs.chg0⟩
 have c2 := of_decide_eq_false hc
 clear hc
 (refine aC Z ?_; refine aI V Z Z Z ?_; refine aC Z ?_)
 refine bO (β := Bool) V [] _ M0 Z Z Z Z (Sp.refl _) qS (fun w' hs => long_ca w' _ r (h0.keep hs.chg0) hl) ?_
 rintro b _ ⟨rfl, hsm⟩
 cases b with
 | true =>
  (refine aA V Z Z (aA V Z Z ?_); (iterate 3 refine bA Z Z Z ?_); refine aA V Z Z (aF (aM Z (aE (aB ?_)))))
  refine aJ (val := .bool true) V Z Z Z Z (fun w hs => ?_) ?_; exact dQ w
  (refine aA V Z Z (aF (aW ?_)))
  refine aX V Z U fun w hs => ?_
  exact ⟨Z, hs.chg0⟩
 | false =>
 replace hsm := hsm rfl
 (refine aA V Z Z (aA V Z Z (aC Z (aA V Z Z (aC Z (aA V Z Z (aC Z (aA V Z Z (aA V Z Z (aF ?_))))))))))
 refine dD Z (fun hc => ?_) (fun hc => ?_)
 ·(refine aE (aB ?_))
  refine aJ (val := .bool true) V Z Z Z Z (fun w hs => ?_) ?_; exact dQ w
  (refine aA V Z Z (aF (aW ?_)))
  refine aX V Z U fun w hs => ?_
  exact ⟨Z, hs.chg0⟩
 rename_i hc3
 have c3 : im.length ≤ 24 := by omega
 (refine aR (aE ?_))
 refine jG (σ := Nat × Value × Value × Cp r × Value) (fun ⟨b11, x1, x2, x3, x4⟩ => [(0, .slice fa fl.length fc), (1, .slice wa we.length wc), (3, .slice ia im.length ic), (6, .pointer (some ⟨b6, 0, none⟩)), (11, .pointer (some ⟨b11, 0, none⟩)), (9, x1), (10, x2), (12, x4)]) (fun ⟨b11, x1, x2, x3, x4⟩ => [.ow x1 32 2 fl.length (spC fl), .ow x2 3 1 we.length (aZ we), un x3.K, .ow x4 3 1 im.length (aZ im), .pt b11 [.int .i64 r.radius, .int .i64 r.unit, .int .i64 r.clicks, .int .i64 r.total, .slice x3.a1 r.group.length x3.c1, .slice x3.a2 r.drifts.length x3.c2, .slice x3.a3 r.first.length x3.c3, .slice x3.a4 r.next.length x3.c4] 25, .pt b6 [.int .i64 r.radius, .int .i64 r.unit, .int .i64 r.clicks, .int .i64 r.total, .slice ag r.group.length cg, .slice ad r.drifts.length cd, .slice af r.first.length cf, .slice an r.next.length cn] 25]) ?_ (fun K2 hK2 => ?_)
 rotate_left
 ·refine gU (tM2_09a4d58) _ [] (Sp.refl _) qR qR ?_
  refine bV (σ := Value × Value × Cp r × Value × Nat × Unit) (.nil) (fun ⟨x1, x2, x3, x4, b11, ()⟩ => [(0, .slice fa fl.length fc), (1, .slice wa we.length wc), (3, .slice ia im.length ic), (6, .pointer (some ⟨b6, 0, none⟩)), (38, x1), (40, x2), (42, .agg #[.int .i64 r.radius, .int .i64 r.unit, .int .i64 r.clicks, .int .i64 r.total, .slice x3.a1 r.group.length x3.c1, .slice x3.a2 r.drifts.length x3.c2, .slice x3.a3 r.first.length x3.c3, .slice x3.a4 r.next.length x3.c4]), (44, x4), (11, .pointer (some ⟨b11, 0, none⟩)), (9, x1), (10, x2), (12, x4)]) (fun ⟨x1, x2, x3, x4, b11, ()⟩ => [.ow x1 32 2 fl.length (spC fl), .ow x2 3 1 we.length (aZ we), un x3.K, .ow x4 3 1 im.length (aZ im), .pt b11 [.int .i64 r.radius, .int .i64 r.unit, .int .i64 r.clicks, .int .i64 r.total, .slice x3.a1 r.group.length x3.c1, .slice x3.a2 r.drifts.length x3.c2, .slice x3.a3 r.first.length x3.c3, .slice x3.a4 r.next.length x3.c4] 25]) ?_ (fun hS1_3_5_7_8_11 => ?_)
  ·rintro ⟨x1, x2, x3, x4, b11, _⟩
   exact bZ (hK2 (b11, x1, x2, x3, x4) _ _ ⟨Z, Z, Z, Z, Z, Z, Z, Z, trivial⟩ U)
  refine bV (σ := Value × Value × Cp r × Value × Nat × Unit) (pM) (fun ⟨x1, x2, x3, x4, b11, ()⟩ => [(0, .slice fa fl.length fc), (1, .slice wa we.length wc), (3, .slice ia im.length ic), (6, .pointer (some ⟨b6, 0, none⟩)), (38, x1), (40, x2), (42, .agg #[.int .i64 r.radius, .int .i64 r.unit, .int .i64 r.clicks, .int .i64 r.total, .slice x3.a1 r.group.length x3.c1, .slice x3.a2 r.drifts.length x3.c2, .slice x3.a3 r.first.length x3.c3, .slice x3.a4 r.next.length x3.c4]), (44, x4), (11, .pointer (some ⟨b11, 0, none⟩))]) (fun ⟨x1, x2, x3, x4, b11, ()⟩ => [.ow x1 32 2 fl.length (spC fl), .ow x2 3 1 we.length (aZ we), un x3.K, .ow x4 3 1 im.length (aZ im), .pt b11 [.int .i64 0, .int .i64 0, .int .i64 0, .int .i64 0, .slice none 0 0, .slice none 0 0, .slice none 0 0, .slice none 0 0] 25]) ?_ (fun hS1_3_5_7_8 => ?_)
  ·rintro ⟨x1, x2, x3, x4, b11, _⟩
   refine aQ J fun K1 hK1 => ?_
   (refine aD V Z Z Z (aD V Z Z Z ?_); refine bK V Z Z Z Z Z U Z ?_; refine aD V Z Z Z (aK ?_))
   exact hK1 _ _ (hS1_3_5_7_8_11 ⟨x1, x2, x3, x4, b11, ()⟩ _ _ ⟨Z, Z, Z, Z, Z, Z, Z, Z, Z, Z, Z, Z, trivial⟩ U)
  refine bV (σ := Value × Value × Cp r × Value × Unit) (tM2_bcd7028) (fun ⟨x1, x2, x3, x4, ()⟩ => [(0, .slice fa fl.length fc), (1, .slice wa we.length wc), (3, .slice ia im.length ic), (6, .pointer (some ⟨b6, 0, none⟩)), (38, x1), (40, x2), (42, .agg #[.int .i64 r.radius, .int .i64 r.unit, .int .i64 r.clicks, .int .i64 r.total, .slice x3.a1 r.group.length x3.c1, .slice x3.a2 r.drifts.length x3.c2, .slice x3.a3 r.first.length x3.c3, .slice x3.a4 r.next.length x3.c4]), (44, x4)]) (fun ⟨x1, x2, x3, x4, ()⟩ => [.ow x1 32 2 fl.length (spC fl), .ow x2 3 1 we.length (aZ we), un x3.K, .ow x4 3 1 im.length (aZ im)]) ?_ (fun hS1_3_5_7 => ?_)
  ·rintro ⟨x1, x2, x3, x4, _⟩
   refine aQ J fun K1 hK1 => ?_
   refine aU cU Z (fun b11 => ?_)
   (refine aK ?_)
   exact hK1 _ _ (hS1_3_5_7_8 ⟨x1, x2, x3, x4, b11, ()⟩ _ _ ⟨Z, Z, Z, Z, Z, Z, Z, Z, Z, trivial⟩ U)
  refine bV (σ := Value × Value × Cp r × Nat × Unit) (oW) (fun ⟨x1, x2, x3, b11, ()⟩ => [(0, .slice fa fl.length fc), (1, .slice wa we.length wc), (3, .slice ia im.length ic), (6, .pointer (some ⟨b6, 0, none⟩)), (38, x1), (40, x2), (42, .agg #[.int .i64 r.radius, .int .i64 r.unit, .int .i64 r.clicks, .int .i64 r.total, .slice x3.a1 r.group.length x3.c1, .slice x3.a2 r.drifts.length x3.c2, .slice x3.a3 r.first.length x3.c3, .slice x3.a4 r.next.length x3.c4]), (11, .pointer (some ⟨b11, 0, none⟩))]) (fun ⟨x1, x2, x3, b11, ()⟩ => [.ow x1 32 2 fl.length (spC fl), .ow x2 3 1 we.length (aZ we), un x3.K, .pt b11 [.int .i64 0, .int .i64 0, .int .i64 0, .int .i64 0, .slice none 0 0, .slice none 0 0, .slice none 0 0, .slice none 0 0] 25]) ?_ (fun hS1_3_5_8 => ?_)
  ·rintro ⟨x1, x2, x3, b11, _⟩
   refine aQ J fun K1 hK1 => ?_
   (refine aD V Z Z Z ?_)
   refine bD (β := Value) (L' := fun x => [.ow x 3 1 im.length (aZ im)]) V [] _ M0 Z Z Z Z (Sp.refl _) qS (fun w' hs => dK w' _ _ _ im (RdE.keep him hs.chg0) O) ?_
   rintro _ x4 rfl
   (refine aK ?_)
   exact hK1 _ _ (hS1_3_5_7_8 ⟨x1, x2, x3, x4, b11, ()⟩ _ _ ⟨Z, Z, Z, Z, Z, Z, Z, Z, Z, trivial⟩ U)
  refine bV (σ := Value × Value × Cp r × Unit) (tM2_7ab9e7d) (fun ⟨x1, x2, x3, ()⟩ => [(0, .slice fa fl.length fc), (1, .slice wa we.length wc), (3, .slice ia im.length ic), (6, .pointer (some ⟨b6, 0, none⟩)), (38, x1), (40, x2), (42, .agg #[.int .i64 r.radius, .int .i64 r.unit, .int .i64 r.clicks, .int .i64 r.total, .slice x3.a1 r.group.length x3.c1, .slice x3.a2 r.drifts.length x3.c2, .slice x3.a3 r.first.length x3.c3, .slice x3.a4 r.next.length x3.c4])]) (fun ⟨x1, x2, x3, ()⟩ => [.ow x1 32 2 fl.length (spC fl), .ow x2 3 1 we.length (aZ we), un x3.K]) ?_ (fun hS1_3_5 => ?_)
  ·rintro ⟨x1, x2, x3, _⟩
   refine bE ?_ ?_
   ·refine aQ J fun K1 hK1 => ?_
    (refine aD V Z Z Z ?_)
    refine bD (β := Value) (L' := fun x => [.ow x 3 1 im.length (aZ im)]) V [] _ M0 Z Z Z Z (Sp.refl _) qS (fun w' hs => dK w' _ _ _ im (RdE.keep him hs.chg0) O) ?_
    rintro _ x4 rfl
    (refine aK ?_)
    exact hK1 _ _ (hS1_3_5_7 ⟨x1, x2, x3, x4, ()⟩ _ _ ⟨Z, Z, Z, Z, Z, Z, Z, Z, trivial⟩ U)
   ·refine aQ J fun K1 hK1 => ?_
    refine aU cU Z (fun b11 => ?_)
    (refine aK ?_)
    exact hK1 _ _ (hS1_3_5_8 ⟨x1, x2, x3, b11, ()⟩ _ _ ⟨Z, Z, Z, Z, Z, Z, Z, Z, trivial⟩ U)
  refine bV (σ := Value × Value × Nat × Unit) (pJ) (fun ⟨x1, x2, b11, ()⟩ => [(0, .slice fa fl.length fc), (1, .slice wa we.length wc), (3, .slice ia im.length ic), (6, .pointer (some ⟨b6, 0, none⟩)), (38, x1), (40, x2), (11, .pointer (some ⟨b11, 0, none⟩))]) (fun ⟨x1, x2, b11, ()⟩ => [.ow x1 32 2 fl.length (spC fl), .ow x2 3 1 we.length (aZ we), .pt b11 [.int .i64 0, .int .i64 0, .int .i64 0, .int .i64 0, .slice none 0 0, .slice none 0 0, .slice none 0 0, .slice none 0 0] 25]) ?_ (fun hS1_3_8 => ?_)
  ·rintro ⟨x1, x2, b11, _⟩
   refine aQ J fun K1 hK1 => ?_
   (refine aO V Z Z Z ?_)
   refine bD (β := Cp r) V [] _ M0 Z Z Z Z (Sp.refl _) qS (fun w' hs => cB w' _ r (h0.keep hs.chg0) hsm) ?_
   rintro x3 _ rfl
   (refine aK ?_)
   exact hK1 _ _ (hS1_3_5_8 ⟨x1, x2, x3, b11, ()⟩ _ _ ⟨Z, Z, Z, Z, Z, Z, Z, Z, trivial⟩ U)
  refine bV (σ := Value × Value × Unit) (tM2_683c67a) (fun ⟨x1, x2, ()⟩ => [(0, .slice fa fl.length fc), (1, .slice wa we.length wc), (3, .slice ia im.length ic), (6, .pointer (some ⟨b6, 0, none⟩)), (38, x1), (40, x2)]) (fun ⟨x1, x2, ()⟩ => [.ow x1 32 2 fl.length (spC fl), .ow x2 3 1 we.length (aZ we)]) ?_ (fun hS1_3 => ?_)
  ·rintro ⟨x1, x2, _⟩
   refine bE ?_ ?_
   ·refine aQ J fun K1 hK1 => ?_
    (refine aO V Z Z Z ?_)
    refine bD (β := Cp r) V [] _ M0 Z Z Z Z (Sp.refl _) qS (fun w' hs => cB w' _ r (h0.keep hs.chg0) hsm) ?_
    rintro x3 _ rfl
    (refine aK ?_)
    exact hK1 _ _ (hS1_3_5 ⟨x1, x2, x3, ()⟩ _ _ ⟨Z, Z, Z, Z, Z, Z, Z, trivial⟩ U)
   ·refine aQ J fun K1 hK1 => ?_
    refine aU cU Z (fun b11 => ?_)
    (refine aK ?_)
    exact hK1 _ _ (hS1_3_8 ⟨x1, x2, b11, ()⟩ _ _ ⟨Z, Z, Z, Z, Z, Z, Z, trivial⟩ U)
  refine bV (σ := Value × Nat × Unit) (pD) (fun ⟨x1, b11, ()⟩ => [(0, .slice fa fl.length fc), (1, .slice wa we.length wc), (3, .slice ia im.length ic), (6, .pointer (some ⟨b6, 0, none⟩)), (38, x1), (11, .pointer (some ⟨b11, 0, none⟩))]) (fun ⟨x1, b11, ()⟩ => [.ow x1 32 2 fl.length (spC fl), .pt b11 [.int .i64 0, .int .i64 0, .int .i64 0, .int .i64 0, .slice none 0 0, .slice none 0 0, .slice none 0 0, .slice none 0 0] 25]) ?_ (fun hS1_8 => ?_)
  ·rintro ⟨x1, b11, _⟩
   refine aQ J fun K1 hK1 => ?_
   (refine aD V Z Z Z ?_)
   refine bD (β := Value) (L' := fun x => [.ow x 3 1 we.length (aZ we)]) V [] _ M0 Z Z Z Z (Sp.refl _) qS (fun w' hs => dK w' _ _ _ we (RdE.keep hwe hs.chg0) O) ?_
   rintro _ x2 rfl
   (refine aK ?_)
   exact hK1 _ _ (hS1_3_8 ⟨x1, x2, b11, ()⟩ _ _ ⟨Z, Z, Z, Z, Z, Z, Z, trivial⟩ U)
  refine bV (σ := Value × Unit) (tM2_484ec27) (fun ⟨x1, ()⟩ => [(0, .slice fa fl.length fc), (1, .slice wa we.length wc), (3, .slice ia im.length ic), (6, .pointer (some ⟨b6, 0, none⟩)), (38, x1)]) (fun ⟨x1, ()⟩ => [.ow x1 32 2 fl.length (spC fl)]) ?_ (fun hS1 => ?_)
  ·rintro ⟨x1, _⟩
   refine bE ?_ ?_
   ·refine aQ J fun K1 hK1 => ?_
    (refine aD V Z Z Z ?_)
    refine bD (β := Value) (L' := fun x => [.ow x 3 1 we.length (aZ we)]) V [] _ M0 Z Z Z Z (Sp.refl _) qS (fun w' hs => dK w' _ _ _ we (RdE.keep hwe hs.chg0) O) ?_
    rintro _ x2 rfl
    (refine aK ?_)
    exact hK1 _ _ (hS1_3 ⟨x1, x2, ()⟩ _ _ ⟨Z, Z, Z, Z, Z, Z, trivial⟩ U)
   ·refine aQ J fun K1 hK1 => ?_
    refine aU cU Z (fun b11 => ?_)
    (refine aK ?_)
    exact hK1 _ _ (hS1_8 ⟨x1, b11, ()⟩ _ _ ⟨Z, Z, Z, Z, Z, Z, trivial⟩ U)
  refine bV (σ := Nat × Unit) (tM2_1d552b6) (fun ⟨b11, ()⟩ => [(0, .slice fa fl.length fc), (1, .slice wa we.length wc), (3, .slice ia im.length ic), (6, .pointer (some ⟨b6, 0, none⟩)), (11, .pointer (some ⟨b11, 0, none⟩))]) (fun ⟨b11, ()⟩ => [.pt b11 [.int .i64 0, .int .i64 0, .int .i64 0, .int .i64 0, .slice none 0 0, .slice none 0 0, .slice none 0 0, .slice none 0 0] 25]) ?_ (fun hS8 => ?_)
  ·rintro ⟨b11, _⟩
   refine aQ J fun K1 hK1 => ?_
   (refine aD V Z Z Z ?_)
   refine bD (β := Value) (L' := fun x => [.ow x 32 2 fl.length (spC fl)]) V [] _ M0 Z Z Z Z (Sp.refl _) qS (fun w' hs => jP w' _ _ _ fl (RdE.keep hfl hs.chg0) O) ?_
   rintro _ x1 rfl
   (refine aK ?_)
   exact hK1 _ _ (hS1_8 ⟨x1, b11, ()⟩ _ _ ⟨Z, Z, Z, Z, Z, Z, trivial⟩ U)
  refine bE ?_ ?_
  ·refine aQ J fun K1 hK1 => ?_
   (refine aD V Z Z Z ?_)
   refine bD (β := Value) (L' := fun x => [.ow x 32 2 fl.length (spC fl)]) V [] _ M0 Z Z Z Z (Sp.refl _) qS (fun w' hs => jP w' _ _ _ fl (RdE.keep hfl hs.chg0) O) ?_
   rintro _ x1 rfl
   (refine aK ?_)
   exact hK1 _ _ (hS1 ⟨x1, ()⟩ _ _ ⟨Z, Z, Z, Z, Z, trivial⟩ U)
  ·refine aQ J fun K1 hK1 => ?_
   refine aU cU Z (fun b11 => ?_)
   (refine aK ?_)
   exact hK1 _ _ (hS8 ⟨b11, ()⟩ _ _ ⟨Z, Z, Z, Z, Z, trivial⟩ U)
 rintro ⟨b11, x1, x2, x3, x4⟩
 dsimp only
 (refine aE (aB (aA V Z Z (aA V Z Z ?_))))
 refine aJ (val := .tuple #[.agg #[.int .i64 (eR fl we).1.1, .int .i64 (eR fl we).1.2], .int .i64 (eR fl we).2]) V Z Z Z Z (fun w hs => ?_) ?_; exact driftF_ca w _ _ _ _ _ _ fl we (Sat.rdSp hs (t := 32) (k := fl.length) U Z) O (hs.rdI (l := we) (t := 3) (n := we.length) U Z) O
 (refine aA V Z Z (bC V Z Z Z (bC V Z Z Z ?_)))
 refine aV qI Z (fun b13 => ?_)
 (refine aY V Z Z Z Z Z U Z ?_; refine aA V Z Z (aF (aE (aB (aA V Z Z (aA V Z Z ?_))))))
 refine aJ (val := .tuple #[.agg #[.int .i64 (eR fl we).1.1, .int .i64 (eR fl we).1.2], .int .i64 (eR fl we).2]) V Z Z Z Z (fun w hs => ?_) ?_; exact rdrift_ca w _ _ _ _ _ _ fl we (RdE.keep hfl hs.chg0) O (RdE.keep hwe hs.chg0) O
 (refine aA V Z Z (bC V Z Z Z (bC V Z Z Z ?_)))
 refine aV qI Z (fun b15 => ?_)
 (refine aY V Z Z Z Z Z U Z ?_; refine aA V Z Z (aF (aE (aE (aB (aA V Z Z (aA V Z Z (dM V Z Z Z O (aA V Z Z (aC Z ?_))))))))); refine aI V Z Z Z ?_; refine aC Z ?_; refine aI V Z Z Z ?_; refine aC Z ?_)
 refine mL [some .i64, some .i64] spn_flat Z Z Z Z Z ?_
 rw [eO]
 (refine aA V Z Z (aF (aL Z (aR (aE (aB ?_))))); refine aI V Z Z Z ?_; refine aA V Z Z ?_)
 refine aJ (val := .tuple #[.int .i64 (iV r im).1, .int .i64 (iV r im).2]) V Z Z Z Z (fun w hs => ?_) ?_; exact zeroF_ca w _ _ _ r _ im (Cp.at2 x3 r Z Z Z Z hs U) hsm (hs.rdI (l := im) (t := 3) (n := im.length) U Z) O
 (refine aA V Z Z (bC V Z Z Z (bC V Z Z Z (aA V Z Z (aA V Z Z (aF (aE (aB ?_))))))); refine aI V Z Z Z ?_)
 refine bO (β := Cp r) V [] _ M0 Z Z Z Z (Sp.refl _) qS (fun w' hs => cB w' _ r (h0.keep hs.chg0) hsm) ?_
 rintro x5 _ rfl
 (refine aA V Z Z ?_)
 refine aJ (val := .tuple #[.int .i64 (iV r im).1, .int .i64 (iV r im).2]) V Z Z Z Z (fun w hs => ?_) ?_; exact rzero_ca w _ _ _ r _ im (Cp.at2 x5 r Z Z Z Z hs U) hsm (RdE.keep him hs.chg0) O
 (refine aA V Z Z (bC V Z Z Z (bC V Z Z Z (aA V Z Z (aA V Z Z (aF (aE (aB (aA V Z Z (aA V Z Z (dG V Z Z Z O (aA V Z Z ?_))))))))))); refine aC Z (aA V Z Z (aC Z (aA V Z Z (aC Z (dG V Z Z Z O (aA V Z Z (aA V Z Z (aC Z (aA V Z Z (aC Z (aA V Z Z ?_))))))))))); refine aC Z ?_)
 refine aJ (val := .bool true) V Z Z Z Z (fun w hs => ?_) ?_; exact eqS_ca w _ _ _ _ _ _ fl (Sat.rdSp hs (t := 32) (k := fl.length) U Z) (RdE.keep hfl hs.chg0) O
 (refine aA V Z Z (aA V Z Z (aC Z (aA V Z Z (aC Z (aA V Z Z (aC Z ?_)))))))
 refine aJ (val := .bool true) V Z Z Z Z (fun w hs => ?_) ?_; exact nN w _ _ _ _ _ _ we (hs.rdI (l := we) (t := 3) (n := we.length) U Z) (RdE.keep hwe hs.chg0) O
 (refine aA V Z Z (aA V Z Z (aC Z ?_)); refine aI V Z Z Z ?_; refine aC Z ?_; refine aI V Z Z Z ?_; refine aC Z ?_)
 refine aJ (val := .bool true) V Z Z Z Z (fun w hs => ?_) ?_; exact same_ca w _ _ r (Cp.at2 x3 r Z Z Z Z hs U) (h0.keep hs.chg0) hsm
 (refine aA V Z Z (aA V Z Z (aC Z (aA V Z Z (aC Z (aA V Z Z (aC Z ?_)))))))
 refine aJ (val := .bool true) V Z Z Z Z (fun w hs => ?_) ?_; exact nN w _ _ _ _ _ _ im (hs.rdI (l := im) (t := 3) (n := im.length) U Z) (RdE.keep him hs.chg0) O
 (refine aA V Z Z (aA V Z Z (aC Z ?_)))
 refine aJ (val := .bool true) V Z Z Z Z (fun w hs => ?_) ?_; exact dQ w
 (refine aA V Z Z (aA V Z Z (aF (aW ?_))))
 refine aX V Z U fun w hs => ?_
 exact ⟨Z, hs.chg0⟩
end Go.Proofs.YtohlillcaadidaaGreat

/- The plain laws of the reference: the table of values. -/
namespace Go.Proofs.YtohlillcaadidaaGreat
open Go Go.Eng

section
variable {r : Rg} {p : Ru}
theorem jI (i : Nat) (hi : i < (plcL r p).length) : idxP r p (plcL r p)[i] = i := by
 have h := plcL_idx r p
 have h2 : ((plcL r p).map (idxP r p))[i]? = (List.range (plcL r p).length)[i]? := by rw [h]
 simpa [hi] using h2
theorem idx_lt {x : Plc} (h : x ∈ plcL r p) : idxP r p x < (plcL r p).length := by
 obtain ⟨i, hi, rfl⟩ := List.getElem_of_mem h
 rw [jI i hi]
 exact hi
theorem idx_inj {x y : Plc} (hx : x ∈ plcL r p) (hy : y ∈ plcL r p) (h : idxP r p x = idxP r p y) : x = y := by
 obtain ⟨i, hi, rfl⟩ := List.getElem_of_mem hx
 obtain ⟨j, hj, rfl⟩ := List.getElem_of_mem hy
 rw [jI i hi, jI j hj] at h
 subst h
 rfl
/-- A table that holds some values. -/
structure TabI (r : Rg) (p : Ru) (D : Plc → Prop) (l : List Int) : Prop where
 len : l.length = (plcL r p).length
 bd : ∀ v ∈ l, 0 ≤ v ∧ v ≤ 1000000000000000
 val : ∀ x, x ∈ plcL r p → D x → l.getD (idxP r p x) 0 = nG r p x
theorem TabI.step {D D' : Plc → Prop} {l : List Int} {x : Plc} (hr : r.Right) (hp : p.Right) (h : TabI r p D l) (hx : x ∈ plcL r p) (hD : ∀ y, y ∈ plcL r p → D' y → y = x ∨ D y) : TabI r p D' (l.set (idxP r p x) (nG r p x)) := by
 refine ⟨by rw [List.length_set, h.len], fun v hv => ?_, fun y hy hd => ?_⟩
 ·rcases List.mem_or_eq_of_mem_set hv with hv | rfl
  ·exact h.bd v hv
  ·obtain ⟨a, b, c, d⟩ := x
   obtain ⟨h1, h2, h3, h4⟩ := (dA r p a b c d).1 hx
   exact mY r hr p hp a b c d h2 h3 h4
 ·rw [List.getD_eq_getElem?_getD, List.getElem?_set]
  split
  ·rename_i he
   obtain rfl := idx_inj hx hy he
   rw [if_pos (by rw [h.len]; exact idx_lt hx)]
   rfl
  ·rename_i he
   rw [← List.getD_eq_getElem?_getD]
   rcases hD y hy hd with rfl | hd
   ·exact absurd Z he
   ·exact h.val y hy hd
theorem TabI.all {D : Plc → Prop} {l : List Int} (h : TabI r p D l) (hD : ∀ x ∈ plcL r p, D x) : l = (plcL r p).map (nG r p) := by
 refine List.ext_getElem (by rw [h.len]; simp) (fun i h1 h2 => ?_)
 have hi : i < (plcL r p).length := by simpa using h2
 have := h.val _ (List.getElem_mem hi) (hD _ (List.getElem_mem hi))
 rw [jI i hi, List.getD_eq_getElem?_getD, List.getElem?_eq_getElem h1] at this
 rw [List.getElem_map]
 exact this
theorem TabI.zero {D : Plc → Prop} (hD : ∀ x, x ∈ plcL r p → ¬ D x) : TabI r p D (List.replicate (plcL r p).length 0) :=
 ⟨by simp, fun v hv => by rw [(List.mem_replicate.1 hv).2]; omega, fun x hx hd => absurd hd (hD x hx)⟩
theorem TabI.mono {D D' : Plc → Prop} {l : List Int} (h : TabI r p D l) (hD : ∀ y, y ∈ plcL r p → D' y → D y) : TabI r p D' l := ⟨h.len, h.bd, fun x hx hd => h.val x hx (hD x hx hd)⟩
/-- The situations that are done: those of later shots, of the same shot with fewer waits .. -/
def Don (sh wt st : Nat) (cl : Int) (y : Plc) : Prop := sh < y.1 ∨ y.1 = sh ∧ (y.2.1 < wt ∨ y.2.1 = wt ∧ (y.2.2.1 < st ∨ y.2.2.1 = st ∧ y.2.2.2 < cl))
theorem tab_cho {l : List Int} {sh wt st : Nat} {cl : Int} (h : TabI r p (Don sh wt st cl) l) (hx : (sh, wt, st, cl) ∈ plcL r p) : chV r p (gV r p l (sh + 1) wt) (gV r p l sh (wt - 1)) sh wt st cl = jW r p sh wt st cl := by
 obtain ⟨h1, h2, h3, h4⟩ := (dA r p sh wt st cl).1 hx
 unfold jW
 refine qN r p _ _ _ _ sh wt st cl h4 (fun hs t c ht hc => ?_) (fun hw t ht => ?_)
 ·exact h.val (sh + 1, wt, t, c) ((dA r p _ _ _ _).2 ⟨by omega, h2, ht, hc⟩) (.inl (by simp only; omega))
 ·exact h.val (sh, wt - 1, t, cl) ((dA r p _ _ _ _).2 ⟨h1, by omega, ht, h4⟩) (.inr ⟨Z, .inl (by simp only; omega)⟩)
theorem tab_full {sh wt st : Nat} {cl : Int} (hr : r.Right) (hp : p.Right) (hx : (sh, wt, st, cl) ∈ plcL r p) : chV r p (gV r p ((plcL r p).map (nG r p)) (sh + 1) wt) (gV r p ((plcL r p).map (nG r p)) sh (wt - 1)) sh wt st cl = jW r p sh wt st cl := by
 refine tab_cho ⟨by simp, fun v hv => ?_, fun x hx _ => ?_⟩ hx
 ·obtain ⟨⟨a, b, c, d⟩, hm, rfl⟩ := List.mem_map.1 hv
  obtain ⟨h1, h2, h3, h4⟩ := (dA r p a b c d).1 hm
  exact mY r hr p hp a b c d h2 h3 h4
 ·have hi := idx_lt hx
  obtain ⟨i, hi2, rfl⟩ := List.getElem_of_mem hx
  rw [jI i hi2]
  simp [List.getD_eq_getElem?_getD, hi2]
end
end Go.Proofs.YtohlillcaadidaaGreat

/- Walks of the reference: rules, and the best choice of a situation. -/
namespace Go.Proofs.YtohlillcaadidaaGreat
open Go Go.Eng

abbrev ruV (p : Ru) : Value := .agg #[.int .i64 p.miss, .int .i64 p.click, .int .i64 p.wait, .int .i64 p.waits]
theorem jH (w : World) (cs : List Value) (r : Rg) (p : Ru) (h : RgC w cs r) (hsm : r.Small) : Ca Tryz.prog 68 [.agg cs.toArray, ruV p] w fun v w' => v = .int .i64 (cH r p) ∧ Chg [] w w' := by
 have h0 := h
 obtain ⟨lo, hi, ag, cg, ad, cd, af, cf, an, cn, rfl, hg, hdr, hf, hn⟩ := h
 refine dB (Sat.nil w M0) Tryz.func68 Z (by simp [Tryz.ntmps68]) ?_
 (refine aE (aB ?_))
 refine bG Z Z (fun b2 => ?_)
 refine bG Z Z (fun b3 => ?_)
 (refine aA V Z Z (aF (aE (aE (aB ?_)))); refine aI V Z Z Z ?_)
 refine aJ (val := .int .i64 (checkV r)) V Z Z Z Z (fun w hs => ?_) ?_; exact gI w _ r (h0.keep hs.chg0) hsm
 (refine aA V Z Z (aF (aE (aB (aA V Z Z (aA V Z Z (aF ?_)))))))
 refine iN Z (fun hc => ?_) (fun hc => ?_)
 ·(refine aE (aB (aA V Z Z (aA V Z Z (aF (aW ?_))))))
  refine aX V Z U fun w hs => ?_
  exact ⟨by rw [cH, if_pos hc]; rfl, hs.chg0⟩
 have hck : checkV r = 0 := by simpa using hc
 clear hc
 (refine aR (aE (aE (aB (aA V Z Z ?_)))); refine aH V Z Z Z ?_)
 refine aJ (val := .bool (!(inB p.miss 0 6000))) V Z Z Z Z (fun w hs => ?_) ?_; exact fO p.miss 0 6000 w
 (refine aA V Z Z ?_)
 cases c1 : inB p.miss 0 6000 with
 | false =>
  ((iterate 3 refine bA Z Z Z ?_); refine aA V Z Z (aA V Z Z ?_); (iterate 3 refine bA Z Z Z ?_); refine aA V Z Z (aA V Z Z ?_); (iterate 3 refine bA Z Z Z ?_); refine aA V Z Z (aF (aM Z (aE (aB (aA V Z Z (aF (aW ?_))))))))
  refine aX V Z U fun w hs => ?_
  exact ⟨by simp [cH, hck, c1, fT], hs.chg0⟩
 | true =>
 (refine aC Z (aA V Z Z (aC Z ?_)); refine aH V Z Z Z ?_; refine aC Z ?_)
 refine aJ (val := .bool (!(inB p.click 0 600))) V Z Z Z Z (fun w hs => ?_) ?_; exact fO p.click 0 600 w
 (refine aA V Z Z (aA V Z Z ?_))
 cases c2 : inB p.click 0 600 with
 | false =>
  ((iterate 3 refine bA Z Z Z ?_); refine aA V Z Z (aA V Z Z ?_); (iterate 3 refine bA Z Z Z ?_); refine aA V Z Z (aF (aM Z (aE (aB (aA V Z Z (aF (aW ?_))))))))
  refine aX V Z U fun w hs => ?_
  exact ⟨by simp [cH, hck, c1, c2, fT], hs.chg0⟩
 | true =>
 (refine aC Z (aA V Z Z (aC Z ?_)); refine aH V Z Z Z ?_; refine aC Z ?_)
 refine aJ (val := .bool (!(inB p.wait 0 600))) V Z Z Z Z (fun w hs => ?_) ?_; exact fO p.wait 0 600 w
 (refine aA V Z Z (aA V Z Z ?_))
 cases c3 : inB p.wait 0 600 with
 | false =>
  ((iterate 3 refine bA Z Z Z ?_); refine aA V Z Z (aF (aM Z (aE (aB (aA V Z Z (aF (aW ?_))))))))
  refine aX V Z U fun w hs => ?_
  exact ⟨by simp [cH, hck, c1, c2, c3, fT], hs.chg0⟩
 | true =>
 (refine aC Z (aA V Z Z (aC Z ?_)); refine aH V Z Z Z ?_; refine aC Z ?_)
 refine aJ (val := .bool (!(inB p.waits 0 3))) V Z Z Z Z (fun w hs => ?_) ?_; exact fO p.waits 0 3 w
 (refine aA V Z Z (aF ?_))
 cases c4 : inB p.waits 0 3 with
 | false =>
  (refine aM Z (aE (aB (aA V Z Z (aF (aW ?_))))))
  refine aX V Z U fun w hs => ?_
  exact ⟨by simp [cH, hck, c1, c2, c3, c4, fT], hs.chg0⟩
 | true =>
 (refine aL Z (aR (aE (aB (aA V Z Z (aF (aW ?_)))))))
 refine aX V Z U fun w hs => ?_
 exact ⟨by simp [cH, hck, c1, c2, c3, c4, fT], hs.chg0⟩

theorem idxP_int {r : Rg} {p : Ru} (hr : r.Right) (hp : p.Right) (sh wt st : Nat) (cl : Int) (hc : -r.clicks ≤ cl ∧ cl ≤ r.clicks) : ((idxP r p (sh, wt, st, cl) : Nat) : Int) = (((sh : Int) * (p.waits + 1) + wt) * r.drifts.length + st) * (2 * r.clicks + 1) + cl + r.clicks := by
 have h1 := hp.waits
 have h2 := hr.clicks
 have e1 : (((p.waits + 1).toNat : Nat) : Int) = p.waits + 1 := Int.toNat_of_nonneg O
 have e2 : (((2 * r.clicks + 1).toNat : Nat) : Int) = 2 * r.clicks + 1 := Int.toNat_of_nonneg O
 have e3 : (((cl + r.clicks).toNat : Nat) : Int) = cl + r.clicks := Int.toNat_of_nonneg O
 unfold idxP
 simp only [Int.natCast_add, Int.natCast_mul, e1, e2, e3]
 omega
theorem at_ca (w : World) (cs : List Value) (r : Rg) (p : Ru) (sh wt st : Nat) (cl : Int) (h : RgC w cs r) (hr : r.Right) (hp : p.Right) (hs4 : sh ≤ 4) (hw : (wt : Int) ≤ p.waits) (hst : st < r.drifts.length) (hcl : -r.clicks ≤ cl ∧ cl ≤ r.clicks) :
  Ca Tryz.prog 118 [.agg cs.toArray, ruV p, .int .i64 sh, .int .i64 wt, .int .i64 st, .int .i64 cl] w fun v w' => v = .int .i64 ((idxP r p (sh, wt, st, cl) : Nat) : Int) ∧ Chg [] w w' := by
 have h0 := h
 obtain ⟨lo, hi, ag, cg, ad, cd, af, cf, an, cn, rfl, hg, hdr, hf, hn⟩ := h
 have hwa := hp.waits
 have hC := hr.clicks
 have hd2 := hr.d2
 have m1 := bR (A := 4) (B := 4) (show 0 ≤ (sh : Int) ∧ (sh : Int) ≤ 4 by omega) (show 0 ≤ p.waits + 1 ∧ p.waits + 1 ≤ 4 by omega)
 have m2 := bR (A := 19) (B := 5) (show 0 ≤ (sh : Int) * (p.waits + 1) + wt ∧ (sh : Int) * (p.waits + 1) + wt ≤ 19 by omega) (show 0 ≤ (r.drifts.length : Int) ∧ (r.drifts.length : Int) ≤ 5 by omega)
 have m3 := bR (A := 100) (B := 13) (show 0 ≤ ((sh : Int) * (p.waits + 1) + wt) * r.drifts.length + st ∧ ((sh : Int) * (p.waits + 1) + wt) * r.drifts.length + st ≤ 100 by omega) (show 0 ≤ 2 * r.clicks + 1 ∧ 2 * r.clicks + 1 ≤ 13 by omega)
 refine dB (Sat.nil w M0) Tryz.func118 Z (by simp [Tryz.ntmps118]) ?_
 (refine aE (aB ?_))
 refine bG Z Z (fun b6 => ?_)
 refine bG Z Z (fun b7 => ?_)
 (refine aA V Z Z (aF (aE (aB (aA V Z Z (aA V Z Z ?_))))); refine aH V Z Z Z ?_; refine bB V Z Z Z Z O O (bB V Z Z Z Z O O (aA V Z Z (bB V Z Z Z Z O O (aA V Z Z ?_)))); refine aH V Z Z Z ?_; refine aA V Z Z (bB V Z Z Z Z O O (aA V Z Z (bB V Z Z Z Z O O (aA V Z Z ?_)))); refine aH V Z Z Z ?_; (iterate 3 refine bB V Z Z Z Z O O ?_); refine aA V Z Z (bB V Z Z Z Z O O (aA V Z Z ?_)); refine aH V Z Z Z ?_; refine bB V Z Z Z Z O O (aA V Z Z (aF (aW ?_))))
 refine aX V Z U fun w hs => ?_
 exact ⟨by rw [idxP_int hr hp sh wt st cl hcl]; rfl, hs.chg0⟩

theorem plc_in {r : Rg} {p : Ru} (sh wt st : Nat) (cl : Int) (h1 : sh < 5) (h2 : (wt : Int) ≤ p.waits) (h3 : st < r.drifts.length) (h4 : -r.clicks ≤ cl ∧ cl ≤ r.clicks) : (sh, wt, st, cl) ∈ plcL r p := (dA r p _ _ _ _).2 ⟨h1, h2, h3, h4⟩
/-- A list of values: as many as there are situations, none beyond the bound. -/
structure ValL (r : Rg) (p : Ru) (l : List Int) : Prop where
 len : l.length = (plcL r p).length
 bd : ∀ v ∈ l, 0 ≤ v ∧ v ≤ 1000000000000000
theorem ValL.at {r : Rg} {p : Ru} {l : List Int} (h : ValL r p l) (sh wt st : Nat) (cl : Int) : 0 ≤ gV r p l sh wt st cl ∧ gV r p l sh wt st cl ≤ 1000000000000000 := by
 unfold gV
 generalize idxP r p (sh, wt, st, cl) = i
 by_cases hi : i < l.length
 ·rw [List.getD_eq_getElem?_getD, List.getElem?_eq_getElem hi, Option.getD_some]
  exact h.bd _ (List.getElem_mem hi)
 ·rw [List.getD_eq_getElem?_getD, List.getElem?_eq_none O]
  simp
/-- The sum behind a shot, so far. -/
def folP (r : Rg) (p : Ru) (l : List Int) (sh wt st : Nat) (cl : Int) (k : Nat) : Int := cV (fun t => (r.next.getD st []).getD t 0 * gV r p l sh wt t cl) k
theorem folP_bd {r : Rg} {p : Ru} {l : List Int} (hr : r.Right) (h : ValL r p l) (sh wt st : Nat) (cl : Int) (k : Nat) (hk : k ≤ r.drifts.length) : 0 ≤ folP r p l sh wt st cl k ∧ folP r p l sh wt st cl k ≤ 60000000000000000 := by
 have h1 := fol_bd r hr (fun t => gV r p l sh wt t cl) 1000000000000000 (fun t _ => h.at sh wt t cl) st k hk
 have h2 := hr.d2
 have : 12 * 1000000000000000 * (k : Int) ≤ 60000000000000000 := by omega
 unfold folP
 omega
theorem parts_ring {r : Rg} (hr : r.Right) (a f m : Int) (sh wt : Nat) : (a * f * r.group.sum + m) * r.total ^ (4 - sh + wt) = a * f * cJ r sh wt + m * (cJ r sh wt / r.group.sum) := by
 rw [pY r hr, cJ, Int.add_mul, Int.mul_assoc (a * f)]

set_option maxHeartbeats 4000000 in
theorem shoots_ca (w : World) (l0 h1 : Nat) (cs : List Value) (r : Rg) (p : Ru) (vl : Value) (l : List Int) (sh wt st : Nat) (cl click : Int) (h : RgC w cs r) (hr : r.Right) (hp : p.Right) (hl : RdI w l0 h1 vl l) (hv : ValL r p l) (hs4 : sh ≤ 4) (hw : (wt : Int) ≤ p.waits) (hst : st < r.drifts.length) (hcl : -r.clicks ≤ cl ∧ cl ≤ r.clicks) (hck : -r.clicks ≤ click ∧ click ≤ r.clicks) :
  Ca Tryz.prog 129 [.agg cs.toArray, ruV p, vl, .int .i64 sh, .int .i64 wt, .int .i64 st, .int .i64 cl, .int .i64 click] w fun v w' => v = .int .i64 (cS r p (gV r p l (sh + 1) wt) sh wt st cl click) ∧ Chg [] w w' := by
 have h0 := h
 obtain ⟨lo, hi, ag, cg, ad, cd, af, cf, an, cn, rfl, hg, hdr, hf, hn⟩ := h
 obtain ⟨_, _, hsl, hsd⟩ := RdI.outI hdr
 cases hsl
 obtain ⟨_, _, hsl, hsn⟩ := RdII.outI hn
 cases hsl
 obtain ⟨la, lc, rfl, hsl⟩ := RdI.outI hl
 obtain ⟨bd, od, rfl⟩ := hsd O
 have hwa := hp.waits
 have hpc := hp.click
 have hpm := hp.miss
 have hC := hr.clicks
 have hd2 := hr.d2
 have hg2 := hr.g2
 have hgs := hr.gsum
 have hnl := hr.next
 have hdb := hr.drift r.drifts[st] (List.getElem_mem hst)
 have hms := eC r hr r.drifts[st] click
 have hgd : r.drifts.getD st 0 = r.drifts[st] := by simp [List.getD_eq_getElem?_getD, hst]
 obtain ⟨f, hf0⟩ : ∃ f, f = max (click - cl) (cl - click) := ⟨_, rfl⟩
 have hfb : 0 ≤ f ∧ f ≤ 12 := by omega
 have m1 := bR (A := 600) (B := 12) hpc hfb
 have m2 := bR (A := 7200) (B := 100) (show 0 ≤ p.click * f ∧ p.click * f ≤ 7200 by omega) (show 0 ≤ r.group.sum ∧ r.group.sum ≤ 100 by omega)
 have m3 := bR (A := 6000) (B := 100) hpm (show 0 ≤ cX r r.drifts[st] click ∧ cX r r.drifts[st] click ≤ 100 by omega)
 have hT := tot8 r hr (4 - sh + wt) O
 have m4 := bR (A := 1320000) (B := 429981696) (show 0 ≤ p.click * f * r.group.sum + p.miss * cX r r.drifts[st] click ∧ p.click * f * r.group.sum + p.miss * cX r r.drifts[st] click ≤ 1320000 by omega) (show 0 ≤ r.total ^ (4 - sh + wt) ∧ r.total ^ (4 - sh + wt) ≤ 429981696 by omega)
 have hsv : cS r p (gV r p l (sh + 1) wt) sh wt st cl click = (p.click * f * r.group.sum + p.miss * cX r r.drifts[st] click) * r.total ^ (4 - sh + wt) + (if sh < 4 then folP r p l (sh + 1) wt st click r.drifts.length else 0) := by
  rw [parts_ring hr]
  unfold cS folS folP
  rw [hgd, hf0]
 obtain ⟨B, hB⟩ : ∃ B, B = (p.click * f * r.group.sum + p.miss * cX r r.drifts[st] click) * r.total ^ (4 - sh + wt) := ⟨_, rfl⟩
 rw [hsv]
 refine dB (Sat.nil w M0) Tryz.func129 Z (by simp [Tryz.ntmps129]) ?_
 (refine aE (aB ?_))
 refine bG Z Z (fun b8 => ?_)
 refine bG Z Z (fun b9 => ?_)
 (refine aA V Z Z (aF (aE (aB (aA V Z Z (aA V Z Z (bB V Z Z Z Z O O (aA V Z Z (aF (aE (aE (aB ?_))))))))))); refine aA V Z Z (aA V Z Z (aF ?_)))
 refine jG (σ := Unit) (fun _ => [(2, .slice la l.length lc), (3, .int .i64 sh), (4, .int .i64 wt), (5, .int .i64 st), (7, .int .i64 click), (8, .pointer (some ⟨b8, 0, none⟩)), (9, .pointer (some ⟨b9, 0, none⟩)), (17, .int .i64 f)]) (fun _ => [.pt b8 [.int .i64 r.radius, .int .i64 r.unit, .int .i64 r.clicks, .int .i64 r.total, .slice ag r.group.length cg, .slice (some ⟨bd, od, none⟩) r.drifts.length cd, .slice af r.first.length cf, .slice an r.next.length cn] 34, .pt b9 [.int .i64 p.miss, .int .i64 p.click, .int .i64 p.wait, .int .i64 p.waits] 124]) ?_ (fun K2 hK2 => ?_)
 rotate_left
 ·refine dD Z (fun hc => ?_) (fun hc => ?_)
  ·(refine aB (aA V Z Z (fJ V Z Z O O (aA V Z Z (aF ?_)))))
   exact hK2 () _ _ ⟨Z, Z, Z, Z, Z, Z, Z, fE Z O, trivial⟩ U
  ·(refine aR ?_)
   exact hK2 () _ _ ⟨Z, Z, Z, Z, Z, Z, Z, fE Z O, trivial⟩ U
 rintro ⟨⟩
 (refine aE ?_)
 refine bX _ [] (Sp.refl _) qR qR ?_
 (refine aD V Z Z Z ?_; refine aT V Z Z Z ?_; refine aD V Z Z Z (bY V Z Z Z Z O O (aD V Z Z Z ?_)); refine aT V Z Z Z ?_)
 refine aS (val := .int .i64 r.group.sum) V Z Z Z Z (fun w hs => ?_) ?_; exact fI w lo hi _ r.group (RdE.keep hg hs.chg0) O (fun x hx => by have := hr.weight x hx; omega)
 (refine bY V Z Z Z Z O O (aD V Z Z Z ?_); refine aT V Z Z Z ?_; refine aO V Z Z Z ?_; refine aD V Z Z Z ?_; refine aT V Z Z Z ?_; refine aD V Z Z Z ?_)
 (refine bF V Z Z Z Z Z O O ?_; refine bI V Z Z Z (fun w hs => RdI.at (RdE.keep hdr hs.chg0) st hst) ?_)
 (refine aD V Z Z Z ?_)
 refine aS (val := .int .i64 (cX r r.drifts[st] click)) V Z Z Z Z (fun w hs => ?_) ?_; exact mC w _ r _ click (h0.keep hs.chg0) hr O O
 (refine bY V Z Z Z Z O O (bY V Z Z Z Z O O ?_); refine aO V Z Z Z ?_; refine aD V Z Z Z (bY V Z Z Z Z O O (aD V Z Z Z (bY V Z Z Z Z O O ?_))))
 refine aS (val := .int .i64 (r.total ^ (4 - sh + wt))) V Z Z Z Z (fun w hs => ?_) ?_; exact by have := qH w _ r (4 - sh + wt) (h0.keep hs.chg0) hr O; rw [show ((4 - sh + wt : Nat) : Int) = 4 - (sh : Int) + (wt : Int) by omega] at this; exact this
 (refine bY V Z Z Z Z O O (aD V Z Z Z (aK (aE (aE (aB (aA V Z Z (aF (aP ?_)))))))))
 rw [← hB] at m4 ⊢
 refine bN (σ := Nat) (fun t => t ≤ r.drifts.length ∧ (t = 0 ∨ sh < 4)) (fun t => r.drifts.length - t) (fun t => [(2, .slice la l.length lc), (3, .int .i64 sh), (4, .int .i64 wt), (5, .int .i64 st), (7, .int .i64 click), (8, .pointer (some ⟨b8, 0, none⟩)), (9, .pointer (some ⟨b9, 0, none⟩)), (18, .int .i64 (B + folP r p l (sh + 1) wt st click t)), (19, .int .i64 t)])
  (fun _ => [.pt b8 [.int .i64 r.radius, .int .i64 r.unit, .int .i64 r.clicks, .int .i64 r.total, .slice ag r.group.length cg, .slice (some ⟨bd, od, none⟩) r.drifts.length cd, .slice af r.first.length cf, .slice an r.next.length cn] 34, .pt b9 [.int .i64 p.miss, .int .i64 p.click, .int .i64 p.wait, .int .i64 p.waits] 124]) 0 ⟨by omega, .inl rfl⟩ ⟨rfl, rfl, rfl, rfl, rfl, rfl, rfl, by simp [folP, cV]; rfl, rfl, trivial⟩ U ?_
 rintro t ⟨ht, ht4⟩ K hK
 (refine aE (aE (aB (aA V Z Z (aA V Z Z ?_)))); refine aH V Z Z Z ?_; (iterate 3 refine aA V Z Z ?_))
 refine bU Z Z (fun hc => ?_) (fun hc => ?_)
 ·have ht2 : t < r.drifts.length := by simp at hc; omega
  clear hc
  (refine aC Z (aA V Z Z (aC Z (aA V Z Z (aA V Z Z (aF ?_))))))
  refine dD Z (fun hc => ?_) (fun hc => ?_)
  ·have hs3 : sh < 4 := by omega
   clear hc
   have hstn : st < r.next.length := by omega
   obtain ⟨bn, on, rfl⟩ := hsn O
   obtain ⟨ar, cr, hrow, hcell⟩ := hn.row st hstn
   have hrl := hr.rows _ (List.getElem_mem hstn)
   have hgn : r.next.getD st [] = r.next[st] := by simp [List.getD_eq_getElem?_getD, hstn]
   have hix := idx_lt (plc_in (r := r) (p := p) (sh + 1) wt t click O hw ht2 hck)
   rw [← hv.len] at hix
   have hga : gV r p l (sh + 1) wt t click = l[idxP r p (sh + 1, wt, t, click)] := by unfold gV; simp [List.getD_eq_getElem?_getD, hix]
   have hgb := hv.at (sh + 1) wt t click
   have hst1 : folP r p l (sh + 1) wt st click (t + 1) = folP r p l (sh + 1) wt st click t + r.next[st].getD t 0 * gV r p l (sh + 1) wt t click := by rw [folP, cV, hgn]; simp only [folP, hgn]
   have hfb1 := folP_bd hr hv (sh + 1) wt st click (t + 1) O
   have hfb0 := folP_bd hr hv (sh + 1) wt st click t O
   rw [hst1] at hfb1
   have hnb : 0 ≤ r.next[st].getD t 0 ∧ r.next[st].getD t 0 ≤ 12 := by have := next_bd2 hr st t; rw [hgn] at this; exact this
   have mm := bR hnb hgb
   generalize hrw : r.next[st] = row at hrow hcell hrl hst1 hfb1 hnb mm
   have htr : t < row.length := by omega
   have hgr : row.getD t 0 = row[t] := by simp [List.getD_eq_getElem?_getD, htr]
   rw [hgr] at hst1 hfb1 mm
   obtain ⟨_, _, hsl2, hsr⟩ := RdI.outI hrow
   cases hsl2
   obtain ⟨br, offr, rfl⟩ := hsr O
   obtain ⟨bl, ol, rfl⟩ := hsl O
   rw [hga] at hst1 hfb1 mm
   (refine aR (aE (aP ?_)))
   refine bX _ [] (Sp.refl _) qR qR ?_
   (refine aD V Z Z Z (aD V Z Z Z ?_); refine aT V Z Z Z ?_; refine aD V Z Z Z ?_)
   refine bF V Z Z Z Z Z O O ?_
   refine bI (v := .slice (some ⟨br, offr, none⟩) row.length cr) V Z Z Z (fun w' hs => hcell w' hs.chg0) ?_
   (refine aD V Z Z Z ?_)
   (refine bF V Z Z Z Z Z O O ?_; refine bI V Z Z Z (fun w hs => RdI.at (RdE.keep hrow hs.chg0) t htr) ?_)
   (refine aD V Z Z Z ?_; (iterate 2 refine aO V Z Z Z ?_); refine aD V Z Z Z (bY V Z Z Z Z O O ?_); (iterate 3 refine aD V Z Z Z ?_))
   refine aS (val := .int .i64 ((idxP r p (sh + 1, wt, t, click) : Nat) : Int)) V Z Z Z Z (fun w hs => ?_) ?_; exact at_ca w _ r p (sh + 1) wt t click (h0.keep hs.chg0) hr hp O hw ht2 hck
   (refine bF V Z Z Z Z Z O O ?_; refine bI V Z Z Z (fun w hs => RdI.at (RdE.keep hl hs.chg0) (idxP r p (sh + 1, wt, t, click)) hix) ?_)
   (refine bY V Z Z Z Z O O (bY V Z Z Z Z O O (aD V Z Z Z (aK (bL (aB (aA V Z Z (bB V Z Z Z Z O O (aA V Z Z (aF ?_))))))))))
   exact hK (t + 1) _ _ ⟨by omega, .inr hs3⟩ O ⟨Z, Z, Z, Z, Z, Z, Z, by rw [hst1, ← Int.add_assoc]; rfl, Z, trivial⟩ U
  ·have hs3 : ¬ sh < 4 := by omega
   obtain rfl : t = 0 := by omega
   rw [if_neg hs3]
   (refine bJ _ Z (aE (aB (aA V Z Z (aA V Z Z (aF (aW ?_)))))))
   refine aX V Z U fun w hs => ?_
   exact ⟨by simp only [folP, cV]; rfl, hs.chg0⟩
 ·obtain rfl : t = r.drifts.length := by simp at hc; omega
  have hs3 : sh < 4 := by have := hr.d1; omega
  rw [if_pos hs3]
  (refine bA Z Z Z (bA Z Z Z (aA V Z Z (aF (aL Z (bJ _ Z (aE (aB (aA V Z Z (aA V Z Z (aF (aW ?_))))))))))))
  refine aX V Z U fun w hs => ?_
  exact ⟨Z, hs.chg0⟩
end Go.Proofs.YtohlillcaadidaaGreat

/- Walks of the reference: waiting, choosing, the table of values. -/
namespace Go.Proofs.YtohlillcaadidaaGreat
open Go Go.Eng

set_option maxHeartbeats 4000000 in
theorem waiting_ca (w : World) (l0 h1 : Nat) (cs : List Value) (r : Rg) (p : Ru) (vl : Value) (l : List Int) (sh wt st : Nat) (cl : Int) (h : RgC w cs r) (hr : r.Right) (hp : p.Right) (hl : RdI w l0 h1 vl l) (hv : ValL r p l) (hs4 : sh ≤ 4) (hw0 : 0 < wt) (hw : (wt : Int) ≤ p.waits) (hst : st < r.drifts.length) (hcl : -r.clicks ≤ cl ∧ cl ≤ r.clicks) :
  Ca Tryz.prog 130 [.agg cs.toArray, ruV p, vl, .int .i64 sh, .int .i64 wt, .int .i64 st, .int .i64 cl] w fun v w' => v = .int .i64 (mI r p (gV r p l sh (wt - 1)) sh wt st cl) ∧ Chg [] w w' := by
 have h0 := h
 obtain ⟨lo, hi, ag, cg, ad, cd, af, cf, an, cn, rfl, hg, hdr, hf, hn⟩ := h
 obtain ⟨_, _, hsl, hsn⟩ := RdII.outI hn
 cases hsl
 obtain ⟨la, lc, rfl, hsl⟩ := RdI.outI hl
 have hwa := hp.waits
 have hpw := hp.wait
 have hC := hr.clicks
 have hd2 := hr.d2
 have hg2 := hr.g2
 have hgs := hr.gsum
 have hnl := hr.next
 have m1 := bR (A := 600) (B := 100) hpw (show 0 ≤ r.group.sum ∧ r.group.sum ≤ 100 by omega)
 have hT := tot8 r hr (4 - sh + wt) O
 have m2 := bR (A := 60000) (B := 429981696) (show 0 ≤ p.wait * r.group.sum ∧ p.wait * r.group.sum ≤ 60000 by omega) (show 0 ≤ r.total ^ (4 - sh + wt) ∧ r.total ^ (4 - sh + wt) ≤ 429981696 by omega)
 have hsv : mI r p (gV r p l sh (wt - 1)) sh wt st cl = p.wait * r.group.sum * r.total ^ (4 - sh + wt) + folP r p l sh (wt - 1) st cl r.drifts.length := by
  unfold mI folS folP cJ
  rw [Int.mul_assoc]
 obtain ⟨B, hB⟩ : ∃ B, B = p.wait * r.group.sum * r.total ^ (4 - sh + wt) := ⟨_, rfl⟩
 rw [hsv]
 refine dB (Sat.nil w M0) Tryz.func130 Z (by simp [Tryz.ntmps130]) ?_
 (refine aE (aB ?_))
 refine bG Z Z (fun b7 => ?_)
 refine bG Z Z (fun b8 => ?_)
 (refine aA V Z Z (aF (aE ?_)))
 refine bX _ [] (Sp.refl _) qR qR ?_
 (refine aD V Z Z Z ?_; refine aT V Z Z Z ?_; refine aD V Z Z Z ?_; refine aT V Z Z Z ?_)
 refine aS (val := .int .i64 r.group.sum) V Z Z Z Z (fun w hs => ?_) ?_; exact fI w lo hi _ r.group (RdE.keep hg hs.chg0) O (fun x hx => by have := hr.weight x hx; omega)
 (refine bY V Z Z Z Z O O ?_; refine aO V Z Z Z ?_; refine aD V Z Z Z (bY V Z Z Z Z O O (aD V Z Z Z (bY V Z Z Z Z O O ?_))))
 refine aS (val := .int .i64 (r.total ^ (4 - sh + wt))) V Z Z Z Z (fun w hs => ?_) ?_; exact by have := qH w _ r (4 - sh + wt) (h0.keep hs.chg0) hr O; rw [show ((4 - sh + wt : Nat) : Int) = 4 - (sh : Int) + (wt : Int) by omega] at this; exact this
 (refine bY V Z Z Z Z O O (aD V Z Z Z (aK (aE (aE (aB (aA V Z Z (aF (aP ?_)))))))))
 rw [← hB] at m2 ⊢
 refine bN (σ := Nat) (fun t => t ≤ r.drifts.length) (fun t => r.drifts.length - t) (fun t => [(2, .slice la l.length lc), (3, .int .i64 sh), (4, .int .i64 wt), (5, .int .i64 st), (6, .int .i64 cl), (7, .pointer (some ⟨b7, 0, none⟩)), (8, .pointer (some ⟨b8, 0, none⟩)), (15, .int .i64 (B + folP r p l sh (wt - 1) st cl t)), (16, .int .i64 t)])
  (fun _ => [.pt b7 [.int .i64 r.radius, .int .i64 r.unit, .int .i64 r.clicks, .int .i64 r.total, .slice ag r.group.length cg, .slice ad r.drifts.length cd, .slice af r.first.length cf, .slice an r.next.length cn] 34, .pt b8 [.int .i64 p.miss, .int .i64 p.click, .int .i64 p.wait, .int .i64 p.waits] 124]) 0 O ⟨rfl, rfl, rfl, rfl, rfl, rfl, rfl, by simp [folP, cV]; rfl, rfl, trivial⟩ U ?_
 intro t ht K hK
 (refine aE (aE (aB (aA V Z Z (aA V Z Z ?_)))); refine aH V Z Z Z ?_; refine aA V Z Z (aA V Z Z (aF ?_)))
 refine dD Z (fun hc => ?_) (fun hc => ?_)
 ·have ht2 : t < r.drifts.length := by omega
  clear hc
  have hstn : st < r.next.length := by omega
  obtain ⟨bn, on, rfl⟩ := hsn O
  obtain ⟨ar, cr, hrow, hcell⟩ := hn.row st hstn
  have hrl := hr.rows _ (List.getElem_mem hstn)
  have hgn : r.next.getD st [] = r.next[st] := by simp [List.getD_eq_getElem?_getD, hstn]
  have hix := idx_lt (plc_in (r := r) (p := p) sh (wt - 1) t cl O O ht2 hcl)
  rw [← hv.len] at hix
  have hga : gV r p l sh (wt - 1) t cl = l[idxP r p (sh, wt - 1, t, cl)] := by unfold gV; simp [List.getD_eq_getElem?_getD, hix]
  have hgb := hv.at sh (wt - 1) t cl
  have hst1 : folP r p l sh (wt - 1) st cl (t + 1) = folP r p l sh (wt - 1) st cl t + r.next[st].getD t 0 * gV r p l sh (wt - 1) t cl := by rw [folP, cV, hgn]; simp only [folP, hgn]
  have hfb1 := folP_bd hr hv sh (wt - 1) st cl (t + 1) O
  have hfb0 := folP_bd hr hv sh (wt - 1) st cl t O
  rw [hst1] at hfb1
  have hnb : 0 ≤ r.next[st].getD t 0 ∧ r.next[st].getD t 0 ≤ 12 := by have := next_bd2 hr st t; rw [hgn] at this; exact this
  have mm := bR hnb hgb
  generalize hrw : r.next[st] = row at hrow hcell hrl hst1 hfb1 hnb mm
  have htr : t < row.length := by omega
  have hgr : row.getD t 0 = row[t] := by simp [List.getD_eq_getElem?_getD, htr]
  rw [hgr] at hst1 hfb1 mm
  obtain ⟨_, _, hsl2, hsr⟩ := RdI.outI hrow
  cases hsl2
  obtain ⟨br, offr, rfl⟩ := hsr O
  obtain ⟨bl, ol, rfl⟩ := hsl O
  rw [hga] at hst1 hfb1 mm
  (refine aR (aE (aP ?_)))
  refine bX _ [] (Sp.refl _) qR qR ?_
  (refine aD V Z Z Z (aD V Z Z Z ?_); refine aT V Z Z Z ?_; refine aD V Z Z Z ?_)
  refine bF V Z Z Z Z Z O O ?_
  refine bI (v := .slice (some ⟨br, offr, none⟩) row.length cr) V Z Z Z (fun w' hs => hcell w' hs.chg0) ?_
  (refine aD V Z Z Z ?_)
  (refine bF V Z Z Z Z Z O O ?_; refine bI V Z Z Z (fun w hs => RdI.at (RdE.keep hrow hs.chg0) t htr) ?_)
  (refine aD V Z Z Z ?_; (iterate 2 refine aO V Z Z Z ?_); refine aD V Z Z Z (aD V Z Z Z (bY V Z Z Z Z O O (aD V Z Z Z (aD V Z Z Z ?_)))))
  refine aS (val := .int .i64 ((idxP r p (sh, wt - 1, t, cl) : Nat) : Int)) V Z Z Z Z (fun w hs => ?_) ?_; exact by have := at_ca w _ r p sh (wt - 1) t cl (h0.keep hs.chg0) hr hp O O ht2 hcl; rw [show ((wt - 1 : Nat) : Int) = (wt : Int) - 1 by omega] at this; exact this
  (refine bF V Z Z Z Z Z O O ?_; refine bI V Z Z Z (fun w hs => RdI.at (RdE.keep hl hs.chg0) (idxP r p (sh, wt - 1, t, cl)) hix) ?_)
  (refine bY V Z Z Z Z O O (bY V Z Z Z Z O O (aD V Z Z Z (aK (bL (aB (aA V Z Z (bB V Z Z Z Z O O (aA V Z Z (aF ?_))))))))))
  exact hK (t + 1) _ _ O O ⟨Z, Z, Z, Z, Z, Z, Z, by rw [hst1, ← Int.add_assoc]; rfl, Z, trivial⟩ U
 ·obtain rfl : t = r.drifts.length := by omega
  (refine bJ _ Z (aE (aB (aA V Z Z (aA V Z Z (aF (aW ?_)))))))
  refine aX V Z U fun w hs => ?_
  exact ⟨Z, hs.chg0⟩

theorem rcP_bd {r : Rg} {p : Ru} {l : List Int} (hr : r.Right) (hp : p.Right) (hv : ValL r p l) (sh wt st : Nat) (cl : Int) (hw3 : wt ≤ 3) (hcl : -r.clicks ≤ cl ∧ cl ≤ r.clicks) : ∀ k, k ≤ (2 * r.clicks + 1).toNat → (-r.clicks ≤ (rcP r p (gV r p l (sh + 1) wt) sh wt st cl k).1 ∧ (rcP r p (gV r p l (sh + 1) wt) sh wt st cl k).1 ≤ r.clicks)
 | 0, _ => hcl
 | k + 1, hk => by
  have ih := rcP_bd hr hp hv sh wt st cl hw3 hcl k O
  rw [rcP_succ _ _ _ _ _ _ _ _ O, rcStep]
  split
  ·simp only
   omega
  ·exact ih

set_option maxHeartbeats 8000000 in
theorem mU (w : World) (l0 h1 : Nat) (cs : List Value) (r : Rg) (p : Ru) (vl : Value) (l : List Int) (sh wt st : Nat) (cl : Int) (h : RgC w cs r) (hr : r.Right) (hp : p.Right) (hl : RdI w l0 h1 vl l) (hv : ValL r p l) (hs4 : sh ≤ 4) (hw : (wt : Int) ≤ p.waits) (hst : st < r.drifts.length) (hcl : -r.clicks ≤ cl ∧ cl ≤ r.clicks) :
  Ca Tryz.prog 117 [.agg cs.toArray, ruV p, vl, .int .i64 sh, .int .i64 wt, .int .i64 st, .int .i64 cl] w fun v w' => v = .tuple #[.bool (chV r p (gV r p l (sh + 1) wt) (gV r p l sh (wt - 1)) sh wt st cl).1.1, .int .i64 (chV r p (gV r p l (sh + 1) wt) (gV r p l sh (wt - 1)) sh wt st cl).1.2, .int .i64 (chV r p (gV r p l (sh + 1) wt) (gV r p l sh (wt - 1)) sh wt st cl).2] ∧ Chg [] w w' := by
 have h0 := h
 obtain ⟨lo, hi, ag, cg, ad, cd, af, cf, an, cn, rfl, hg, hdr, hf, hn⟩ := h
 obtain ⟨la, lc, rfl, _⟩ := RdI.outI hl
 have hwa := hp.waits
 have hC := hr.clicks
 have hrl := rc_law r p (gV r p l (sh + 1) wt) sh wt st cl hcl
 refine dB (Sat.nil w M0) Tryz.func117 Z (by simp [Tryz.ntmps117]) ?_
 (refine aE (aB ?_))
 refine bG Z Z (fun b7 => ?_)
 refine bG Z Z (fun b8 => ?_)
 ((iterate 3 refine aA V Z Z ?_); refine aF (aE (aB (aA V Z Z (aA V Z Z (aF (aE (aB ?_))))))); (iterate 2 refine aI V Z Z Z ?_); (iterate 6 refine aA V Z Z ?_))
 refine aJ (val := .int .i64 (cS r p (gV r p l (sh + 1) wt) sh wt st cl cl)) V Z Z Z Z (fun w hs => ?_) ?_; exact shoots_ca w _ _ _ r p _ l sh wt st cl cl (h0.keep hs.chg0) hr hp (RdE.keep hl hs.chg0) hv hs4 hw hst hcl hcl
 (refine aA V Z Z (aF (aE (aE (aB (aA V Z Z ?_))))); refine aH V Z Z Z ?_; refine fJ V Z Z O O (aA V Z Z (aF (aP ?_))))
 refine bN (σ := Nat) (fun j => j ≤ (2 * r.clicks + 1).toNat) (fun j => (2 * r.clicks + 1).toNat - j) (fun j => [(2, .slice la l.length lc), (3, .int .i64 sh), (4, .int .i64 wt), (5, .int .i64 st), (6, .int .i64 cl), (7, .pointer (some ⟨b7, 0, none⟩)), (8, .pointer (some ⟨b8, 0, none⟩)), (17, .int .i64 (rcP r p (gV r p l (sh + 1) wt) sh wt st cl j).1), (18, .int .i64 (rcP r p (gV r p l (sh + 1) wt) sh wt st cl j).2), (19, .int .i64 ((j : Int) - r.clicks))])
  (fun _ => [.pt b7 [.int .i64 r.radius, .int .i64 r.unit, .int .i64 r.clicks, .int .i64 r.total, .slice ag r.group.length cg, .slice ad r.drifts.length cd, .slice af r.first.length cf, .slice an r.next.length cn] 34, .pt b8 [.int .i64 p.miss, .int .i64 p.click, .int .i64 p.wait, .int .i64 p.waits] 124]) 0 O ⟨rfl, rfl, rfl, rfl, rfl, rfl, rfl, rfl, rfl, fE rfl O, trivial⟩ U ?_
 intro j hj K hK
 have hsb := rcP_bd hr hp hv sh wt st cl O hcl j hj
 (refine aE (aE (aB (aA V Z Z (aA V Z Z ?_)))); refine aH V Z Z Z ?_; refine aA V Z Z (aF ?_))
 refine dD Z (fun hc => ?_) (fun hc => ?_)
 ·have hj2 : j < (2 * r.clicks + 1).toNat := by omega
  clear hc
  have hstep := rcP_succ r p (gV r p l (sh + 1) wt) sh wt st cl j hj2
  obtain ⟨c, hcj⟩ : ∃ c : Int, c = (j : Int) - r.clicks := ⟨_, rfl⟩
  have hcb : -r.clicks ≤ c ∧ c ≤ r.clicks := by omega
  rw [← hcj] at hstep ⊢
  obtain ⟨S, hS⟩ : ∃ S, S = rcP r p (gV r p l (sh + 1) wt) sh wt st cl j := ⟨_, rfl⟩
  rw [← hS] at hsb hstep ⊢
  obtain ⟨b, co⟩ := S
  simp only at hsb
  unfold rcStep at hstep
  simp only at hstep
  dsimp only
  (refine aR (aE (aP (aE (aB ?_)))); (iterate 2 refine aI V Z Z Z ?_); (iterate 6 refine aA V Z Z ?_))
  refine aJ (val := .int .i64 (cS r p (gV r p l (sh + 1) wt) sh wt st cl c)) V Z Z Z Z (fun w hs => ?_) ?_; exact shoots_ca w _ _ _ r p _ l sh wt st cl c (h0.keep hs.chg0) hr hp (RdE.keep hl hs.chg0) hv hs4 hw hst hcl hcb
  obtain ⟨n, hn2⟩ : ∃ n, n = cS r p (gV r p l (sh + 1) wt) sh wt st cl c := ⟨_, rfl⟩
  rw [← hn2] at hstep ⊢
  have k1 := near_key (n := cl) c b
  have m1 := gK (A := 12) (B := 12) (show -12 ≤ c - cl ∧ c - cl ≤ 12 by omega) (show -12 ≤ c - cl ∧ c - cl ≤ 12 by omega)
  have m2 := gK (A := 12) (B := 12) (show -12 ≤ b - cl ∧ b - cl ≤ 12 by omega) (show -12 ≤ b - cl ∧ b - cl ≤ 12 by omega)
  (refine aA V Z Z (aF (aE ?_)))
  refine jG (σ := {nb : Bool // nb = true ↔ kyN cl c < kyN cl b}) (fun nb => [(2, .slice la l.length lc), (3, .int .i64 sh), (4, .int .i64 wt), (5, .int .i64 st), (6, .int .i64 cl), (7, .pointer (some ⟨b7, 0, none⟩)), (8, .pointer (some ⟨b8, 0, none⟩)), (17, .int .i64 b), (18, .int .i64 co), (19, .int .i64 c), (20, .int .i64 n), (21, .bool nb.1)]) (fun _ => [.pt b7 [.int .i64 r.radius, .int .i64 r.unit, .int .i64 r.clicks, .int .i64 r.total, .slice ag r.group.length cg, .slice ad r.drifts.length cd, .slice af r.first.length cf, .slice an r.next.length cn] 34, .pt b8 [.int .i64 p.miss, .int .i64 p.click, .int .i64 p.wait, .int .i64 p.waits] 124]) ?_ (fun K2 hK2 => ?_)
  rotate_left
  ·(refine aB (aA V Z Z (aA V Z Z (bB V Z Z Z Z O O (aA V Z Z (aA V Z Z (bB V Z Z Z Z O O (bB V Z Z Z Z O O (aA V Z Z (aA V Z Z (bB V Z Z Z Z O O (aA V Z Z ?_))))))))))); refine aA V Z Z (bB V Z Z Z Z O O (bB V Z Z Z Z O O (aA V Z Z (aA V Z Z ?_)))))
   refine bU Z Z (fun hc => ?_) (fun hc => ?_)
   ·have e1 := of_decide_eq_true hc
    ((iterate 16 refine bA Z Z Z ?_); (iterate 3 refine qO Z Z ?_); refine bA Z Z Z (aA V Z Z (aA V Z Z (aF ?_))))
    exact hK2 ⟨true, ⟨fun _ => k1.1 (.inl e1), fun _ => Z⟩⟩ _ _ ⟨Z, Z, Z, Z, Z, Z, Z, Z, Z, Z, Z, Z, trivial⟩ U
   ·have e1 := of_decide_eq_false hc
    clear hc
    (refine aC Z (aA V Z Z (aC Z (aA V Z Z (aC Z (bB V Z Z Z Z O O (aC Z (aA V Z Z (aC Z (aA V Z Z (aC Z (bB V Z Z Z Z O O ?_))))))))))); refine aC Z (bB V Z Z Z Z O O (aC Z (aA V Z Z (aC Z (aA V Z Z (aC Z (bB V Z Z Z Z O O (aC Z (aA V Z Z (aC Z (aA V Z Z ?_))))))))))); refine aC Z (bB V Z Z Z Z O O (aC Z (bB V Z Z Z Z O O (aC Z (aA V Z Z (aC Z (aA V Z Z ?_))))))))
    refine bU Z Z (fun hc => ?_) (fun hc => ?_)
    ·have e2 := of_decide_eq_true hc
     clear hc
     (refine aC Z (aA V Z Z (aC Z (aA V Z Z (aC Z (aA V Z Z (aC Z ?_)))))); (iterate 3 refine aA V Z Z ?_); refine aF ?_)
     exact hK2 ⟨decide (c < b), by rw [decide_eq_true_eq]; exact ⟨fun h => k1.1 (.inr ⟨e2, h⟩), fun h => by rcases k1.2 h with h | h; exact absurd h e1; exact h.2⟩⟩ _ _ ⟨rfl, rfl, rfl, rfl, rfl, rfl, rfl, rfl, rfl, rfl, rfl, rfl, trivial⟩ U
    ·have e2 := of_decide_eq_false hc
     clear hc
     ((iterate 3 refine bA Z Z Z ?_); refine aC Z ?_; (iterate 3 refine aA V Z Z ?_); refine aF ?_)
     exact hK2 ⟨false, ⟨fun h => Bool.noConfusion h, fun h => (k1.2 h).elim (fun h => absurd h e1) (fun h => absurd h.1 e2)⟩⟩ _ _ ⟨Z, Z, Z, Z, Z, Z, Z, Z, Z, Z, Z, Z, trivial⟩ U
  rintro ⟨nb, hnb⟩
  dsimp only
  (refine aE (aB ?_); (iterate 4 refine aA V Z Z ?_))
  refine bU Z Z (fun hc => ?_) (fun hc => ?_)
  ·have e1 := of_decide_eq_true hc
   clear hc
   rw [if_pos (.inl e1)] at hstep
   ((iterate 4 refine bA Z Z Z ?_); refine qO Z Z (bA Z Z Z (aA V Z Z (aF (aM Z (aB ?_))))); (iterate 4 refine aA V Z Z ?_); refine aF (bL (aB (aA V Z Z (bB V Z Z Z Z O O (aA V Z Z (aF ?_)))))))
   exact hK (j + 1) _ _ O O ⟨Z, Z, Z, Z, Z, Z, Z, by rw [hstep]; rfl, by rw [hstep]; rfl, fE Z O, trivial⟩ U
  ·have e1 := of_decide_eq_false hc
   clear hc
   (refine aC Z (aA V Z Z (aC Z (aA V Z Z (aC Z (aA V Z Z (aC Z (aA V Z Z ?_))))))))
   refine bU Z Z (fun hc => ?_) (fun hc => ?_)
   ·have e2 := of_decide_eq_true hc
    clear hc
    cases nb with
    | true =>
     rw [if_pos (.inr ⟨e2, hnb.1 rfl⟩)] at hstep
     (refine aC Z (aA V Z Z (aC Z (aA V Z Z (aA V Z Z (aF (aM Z (aB ?_))))))); (iterate 4 refine aA V Z Z ?_); refine aF (bL (aB (aA V Z Z (bB V Z Z Z Z O O (aA V Z Z (aF ?_)))))))
     exact hK (j + 1) _ _ O O ⟨Z, Z, Z, Z, Z, Z, Z, by rw [hstep]; rfl, by rw [hstep]; rfl, fE Z O, trivial⟩ U
    | false =>
     rw [if_neg (by rintro (h | h); exact e1 h; have := hnb.2 h.2; cases this)] at hstep
     (refine aC Z (aA V Z Z (aC Z (aA V Z Z (aA V Z Z (aF (aL Z (aR (bL (aB (aA V Z Z (bB V Z Z Z Z O O ?_))))))))))); refine aA V Z Z (aF ?_))
     exact hK (j + 1) _ _ O O ⟨Z, Z, Z, Z, Z, Z, Z, by rw [hstep]; rfl, by rw [hstep]; rfl, fE Z O, trivial⟩ U
   ·have e2 := of_decide_eq_false hc
    clear hc
    rw [if_neg (by rintro (h | h); exact e1 h; exact e2 h.1)] at hstep
    (refine bA Z Z Z (aC Z (aA V Z Z (aA V Z Z (aF (aL Z (aR (bL (aB (aA V Z Z (bB V Z Z Z Z O O (aA V Z Z ?_))))))))))); refine aF ?_)
    exact hK (j + 1) _ _ O O ⟨Z, Z, Z, Z, Z, Z, Z, by rw [hstep]; rfl, by rw [hstep]; rfl, fE Z O, trivial⟩ U
 ·obtain rfl : j = (2 * r.clicks + 1).toNat := by omega
  clear hc hK hsb
  rw [hrl]
  have hch : chV r p (gV r p l (sh + 1) wt) (gV r p l sh (wt - 1)) sh wt st cl = if 0 < wt then (if mI r p (gV r p l sh (wt - 1)) sh wt st cl < (dH r p (gV r p l (sh + 1) wt) sh wt st cl).2 then ((true, 0), mI r p (gV r p l sh (wt - 1)) sh wt st cl) else ((false, (dH r p (gV r p l (sh + 1) wt) sh wt st cl).1), (dH r p (gV r p l (sh + 1) wt) sh wt st cl).2)) else ((false, (dH r p (gV r p l (sh + 1) wt) sh wt st cl).1), (dH r p (gV r p l (sh + 1) wt) sh wt st cl).2) := rfl
  obtain ⟨S, hS⟩ : ∃ S, S = dH r p (gV r p l (sh + 1) wt) sh wt st cl := ⟨_, rfl⟩
  rw [← hS] at hch ⊢
  (refine bJ _ Z (aE (aE (aB (aA V Z Z (aA V Z Z (aF ?_)))))))
  refine dD Z (fun hc => ?_) (fun hc => ?_)
  ·have hw0 : 0 < wt := by omega
   rw [if_pos hw0] at hch
   (refine aE (aB ?_); (iterate 2 refine aI V Z Z Z ?_); (iterate 5 refine aA V Z Z ?_))
   refine aJ (val := .int .i64 (mI r p (gV r p l sh (wt - 1)) sh wt st cl)) V Z Z Z Z (fun w hs => ?_) ?_; exact waiting_ca w _ _ _ r p _ l sh wt st cl (h0.keep hs.chg0) hr hp (RdE.keep hl hs.chg0) hv hs4 hw0 hw hst hcl
   (refine aA V Z Z (aF (aE (aB ?_))); (iterate 3 refine aA V Z Z ?_); refine aF ?_)
   refine dD Z (fun hc => ?_) (fun hc => ?_)
   ·rename_i hc2
    rw [if_pos (by assumption)] at hch
    (refine aE (aB ?_); (iterate 4 refine aA V Z Z ?_); refine aF (aW ?_))
    refine aX V Z U fun w hs => ?_
    exact ⟨by rw [hch]; rfl, hs.chg0⟩
   ·rw [if_neg (by assumption)] at hch
    (refine aR (aE (aB ?_)); (iterate 5 refine aA V Z Z ?_); refine aF (aW ?_))
    refine aX V Z U fun w hs => ?_
    exact ⟨by rw [hch]; rfl, hs.chg0⟩
  ·rw [if_neg O] at hch
   (refine aR (aE (aB ?_)); (iterate 5 refine aA V Z Z ?_); refine aF (aW ?_))
   refine aX V Z U fun w hs => ?_
   exact ⟨by rw [hch]; rfl, hs.chg0⟩
end Go.Proofs.YtohlillcaadidaaGreat

/- Walks of the reference: the table of values; choices. -/
namespace Go.Proofs.YtohlillcaadidaaGreat
open Go Go.Eng

theorem blk_rdI {w : World} {b n c : Nat} {l : List Int} {t : TypeId} (h : Blk w b (aZ l) t) (hn : n = l.length) : RdI w b (b + 1) (.slice (some ⟨b, 0, none⟩) n c) l := by
 subst hn
 exact RdE.one (by have := Blk.rd h (show (aZ l).length = l.length by simp) c; simpa using this) (fun e he => by obtain ⟨x, _, rfl⟩ := List.mem_map.1 he; rfl)

set_option maxHeartbeats 8000000 in
theorem rvalues_ca (w : World) (cs : List Value) (r : Rg) (p : Ru) (h : RgC w cs r) (hr : r.Right) (hp : p.Right) :
  Ca Tryz.prog 116 [.agg cs.toArray, ruV p] w fun v w' => ∃ b : Nat, v = .slice (some ⟨b, 0, none⟩) (plcL r p).length (plcL r p).length ∧ Sat w M0 [.pt b (aZ ((plcL r p).map (nG r p))) 3] w' := by
 have h0 := h
 obtain ⟨lo, hi, ag, cg, ad, cd, af, cf, an, cn, rfl, hg, hdr, hf, hn⟩ := h
 have hwa := hp.waits
 have hC := hr.clicks
 have hd2 := hr.d2
 have hcb := cntP_bd hr hp
 have hcl : 5 * (p.waits + 1) * (r.drifts.length : Int) * (2 * r.clicks + 1) = ((plcL r p).length : Int) := cntP_eq hr hp
 refine dB (Sat.nil w M0) Tryz.func116 Z (by simp [Tryz.ntmps116]) ?_
 (refine aE (aB ?_))
 refine bG Z Z (fun b2 => ?_)
 refine bG Z Z (fun b3 => ?_)
 (refine aA V Z Z (aF (aE (aB (aA V Z Z ?_)))); refine aH V Z Z Z ?_; refine bB V Z Z Z Z O O (bB V Z Z Z Z O O (aA V Z Z ?_)); refine aH V Z Z Z ?_; refine aA V Z Z (bB V Z Z Z Z O O (aA V Z Z ?_)); refine aH V Z Z Z ?_; (iterate 3 refine bB V Z Z Z Z O O ?_))
 rw [hcl]
 refine ql_makeI slI Z Z Z (kK r p hr hp) (fun bl => ?_)
 have hz : TabI r p (fun y => 4 < y.1 + 0) (List.replicate (plcL r p).length 0) := TabI.zero (fun x hx => by obtain ⟨a, b, c, d⟩ := x; have := (dA r p a b c d).1 hx; simp only; omega)
 obtain ⟨z, hze⟩ : ∃ z, z = List.replicate (plcL r p).length (0 : Int) := ⟨_, rfl⟩
 rw [← hze] at hz ⊢
 obtain ⟨N, hN⟩ : ∃ N, N = (plcL r p).length := ⟨_, rfl⟩
 rw [← hN]
 (refine aA V Z Z (aF (aE (aE (aB (aA V Z Z (aF (aP ?_))))))))
 refine bN (σ := Nat × List Int) (fun s => s.1 ≤ 5 ∧ TabI r p (fun y => 4 < y.1 + s.1) s.2) (fun s => 5 - s.1) (fun s => [(2, .pointer (some ⟨b2, 0, none⟩)), (3, .pointer (some ⟨b3, 0, none⟩)), (5, .slice (some ⟨bl, 0, none⟩) N N), (6, .int .i64 (4 - (s.1 : Int)))])
  (fun s => [.pt bl (aZ s.2) 3, .pt b2 [.int .i64 r.radius, .int .i64 r.unit, .int .i64 r.clicks, .int .i64 r.total, .slice ag r.group.length cg, .slice ad r.drifts.length cd, .slice af r.first.length cf, .slice an r.next.length cn] 34, .pt b3 [.int .i64 p.miss, .int .i64 p.click, .int .i64 p.wait, .int .i64 p.waits] 124]) (0, z) ⟨by simp, hz⟩ ⟨rfl, rfl, rfl, rfl, trivial⟩ U ?_
 rintro ⟨k, l1⟩ ⟨hk, ht1⟩ K1 hK1
 simp only at hk ht1
 dsimp only
 (refine aE (aE (aB (aA V Z Z (aA V Z Z (aF ?_))))))
 refine dD Z (fun hc => ?_) (fun hc => ?_)
 ·have hk4 : k ≤ 4 := by omega
  clear hc
  obtain ⟨sh, hsh⟩ : ∃ sh, sh = 4 - k := ⟨_, rfl⟩
  have hsi : 4 - (k : Int) = (sh : Int) := by omega
  rw [hsi]
  (refine aR (aE (aP (aE (aB (aA V Z Z (aF (aP ?_))))))))
  refine bN (σ := Nat × List Int) (fun s => s.1 ≤ (p.waits + 1).toNat ∧ TabI r p (fun y => sh < y.1 ∨ y.1 = sh ∧ y.2.1 < s.1) s.2) (fun s => (p.waits + 1).toNat - s.1) (fun s => [(2, .pointer (some ⟨b2, 0, none⟩)), (3, .pointer (some ⟨b3, 0, none⟩)), (5, .slice (some ⟨bl, 0, none⟩) N N), (6, .int .i64 (sh : Int)), (7, .int .i64 s.1)])
   (fun s => [.pt bl (aZ s.2) 3, .pt b2 [.int .i64 r.radius, .int .i64 r.unit, .int .i64 r.clicks, .int .i64 r.total, .slice ag r.group.length cg, .slice ad r.drifts.length cd, .slice af r.first.length cf, .slice an r.next.length cn] 34, .pt b3 [.int .i64 p.miss, .int .i64 p.click, .int .i64 p.wait, .int .i64 p.waits] 124]) (0, l1) ⟨by simp, ht1.mono (fun y _ hd => by simp only at hd ⊢; omega)⟩ ⟨rfl, rfl, rfl, rfl, rfl, trivial⟩ U ?_
  rintro ⟨wt, l2⟩ ⟨hwt, ht2⟩ K2 hK2
  simp only at hwt ht2
  dsimp only
  (refine aE (aE (aB (aA V Z Z (aA V Z Z ?_)))); refine aH V Z Z Z ?_; refine aA V Z Z (aF ?_))
  refine dD Z (fun hc => ?_) (fun hc => ?_)
  ·have hwt2 : (wt : Int) ≤ p.waits := by omega
   clear hc
   (refine aR (aE (aP (aE (aB (aA V Z Z (aF (aP ?_))))))))
   refine bN (σ := Nat × List Int) (fun s => s.1 ≤ r.drifts.length ∧ TabI r p (fun y => sh < y.1 ∨ y.1 = sh ∧ (y.2.1 < wt ∨ y.2.1 = wt ∧ y.2.2.1 < s.1)) s.2) (fun s => r.drifts.length - s.1) (fun s => [(2, .pointer (some ⟨b2, 0, none⟩)), (3, .pointer (some ⟨b3, 0, none⟩)), (5, .slice (some ⟨bl, 0, none⟩) N N), (6, .int .i64 (sh : Int)), (7, .int .i64 wt), (8, .int .i64 s.1)])
    (fun s => [.pt bl (aZ s.2) 3, .pt b2 [.int .i64 r.radius, .int .i64 r.unit, .int .i64 r.clicks, .int .i64 r.total, .slice ag r.group.length cg, .slice ad r.drifts.length cd, .slice af r.first.length cf, .slice an r.next.length cn] 34, .pt b3 [.int .i64 p.miss, .int .i64 p.click, .int .i64 p.wait, .int .i64 p.waits] 124]) (0, l2) ⟨by simp, ht2.mono (fun y _ hd => by simp only at hd ⊢; omega)⟩ ⟨rfl, rfl, rfl, rfl, rfl, rfl, trivial⟩ U ?_
   rintro ⟨st, l3⟩ ⟨hst, ht3⟩ K3 hK3
   simp only at hst ht3
   dsimp only
   (refine aE (aE (aB (aA V Z Z (aA V Z Z ?_)))); refine aH V Z Z Z ?_; refine aA V Z Z (aA V Z Z (aF ?_)))
   refine dD Z (fun hc => ?_) (fun hc => ?_)
   ·have hst2 : st < r.drifts.length := by omega
    clear hc
    (refine aR (aE (aP (aE (aB (aA V Z Z ?_))))); refine aH V Z Z Z ?_; refine fJ V Z Z O O (aA V Z Z (aF (aP ?_))))
    refine bN (σ := Nat × List Int) (fun s => s.1 ≤ (2 * r.clicks + 1).toNat ∧ TabI r p (Don sh wt st ((s.1 : Int) - r.clicks)) s.2) (fun s => (2 * r.clicks + 1).toNat - s.1) (fun s => [(2, .pointer (some ⟨b2, 0, none⟩)), (3, .pointer (some ⟨b3, 0, none⟩)), (5, .slice (some ⟨bl, 0, none⟩) N N), (6, .int .i64 (sh : Int)), (7, .int .i64 wt), (8, .int .i64 st), (9, .int .i64 ((s.1 : Int) - r.clicks))])
     (fun s => [.pt bl (aZ s.2) 3, .pt b2 [.int .i64 r.radius, .int .i64 r.unit, .int .i64 r.clicks, .int .i64 r.total, .slice ag r.group.length cg, .slice ad r.drifts.length cd, .slice af r.first.length cf, .slice an r.next.length cn] 34, .pt b3 [.int .i64 p.miss, .int .i64 p.click, .int .i64 p.wait, .int .i64 p.waits] 124]) (0, l3) ⟨by simp, ht3.mono (fun y hy hd => by obtain ⟨a, b, c, d⟩ := y; have := (dA r p a b c d).1 hy; unfold Don at hd; simp only at hd ⊢; omega)⟩ ⟨rfl, rfl, rfl, rfl, rfl, rfl, fE rfl (by simp), trivial⟩ U ?_
    rintro ⟨j, l4⟩ ⟨hj, ht4⟩ K4 hK4
    simp only at hj ht4
    dsimp only
    (refine aE (aE (aB (aA V Z Z (aA V Z Z ?_)))); refine aH V Z Z Z ?_; refine aA V Z Z (aF ?_))
    refine dD Z (fun hc => ?_) (fun hc => ?_)
    ·have hj2 : j < (2 * r.clicks + 1).toNat := by omega
     clear hc
     obtain ⟨cl, hclj⟩ : ∃ cl : Int, cl = (j : Int) - r.clicks := ⟨_, rfl⟩
     have hclb : -r.clicks ≤ cl ∧ cl ≤ r.clicks := by omega
     rw [← hclj] at ht4 ⊢
     have hin := plc_in (r := r) (p := p) sh wt st cl O hwt2 hst2 hclb
     have hix := idx_lt hin
     rw [← ht4.len] at hix
     have hlN : l4.length = N := by rw [ht4.len, hN]
     have hvl : ValL r p l4 := ⟨ht4.len, ht4.bd⟩
     have hstep := ht4.step (D' := Don sh wt st (cl + 1)) hr hp hin (fun y hy hd => by
      obtain ⟨a, b, c, d⟩ := y
      unfold Don at hd ⊢
      simp only [Prod.mk.injEq] at hd ⊢
      omega)
     (refine aR (aE (aP (aE (aB ?_)))); (iterate 2 refine aI V Z Z Z ?_); (iterate 5 refine aA V Z Z ?_))
     refine aJ (val := .tuple #[.bool (jW r p sh wt st cl).1.1, .int .i64 (jW r p sh wt st cl).1.2, .int .i64 (iU r p sh wt st cl)]) V Z Z Z Z (fun w hs => ?_) ?_; exact by have := mU w _ _ _ r p _ l4 sh wt st cl (h0.keep hs.chg0) hr hp (blk_rdI (c := N) (hs.blk (b := bl) U) hlN.symm) hvl O hwt2 hst2 hclb; rw [tab_cho ht4 hin, ← valV_eq r p sh wt st cl O hwt2 hst2 hclb] at this; exact this
     (refine aA V Z Z ?_; (iterate 3 refine bC V Z Z Z ?_); (iterate 3 refine aA V Z Z ?_); refine aF (aB (aA V Z Z ?_)); (iterate 2 refine aI V Z Z Z ?_); (iterate 4 refine aA V Z Z ?_))
     refine aJ (val := .int .i64 ((idxP r p (sh, wt, st, cl) : Nat) : Int)) V Z Z Z Z (fun w hs => ?_) ?_; exact at_ca w _ r p sh wt st cl (h0.keep hs.chg0) hr hp O hwt2 hst2 hclb
     (refine aA V Z Z ?_)
     refine bW V Z Z Z Z Z O O ?_
     refine jT V ((idxP r p (sh, wt, st, cl))) Z Z Z U (by first | rfl | omega | simp) hix ?_
     (refine aF (bL (aB (aA V Z Z (bB V Z Z Z Z O O (aA V Z Z (aF ?_)))))))
     exact hK4 (j + 1, l4.set (idxP r p (sh, wt, st, cl)) (iU r p sh wt st cl)) _ _ ⟨by simp only; omega, by simp only; rw [show ((j + 1 : Nat) : Int) - r.clicks = cl + 1 by omega]; exact hstep⟩ (by simp only; omega) ⟨Z, Z, Z, Z, Z, Z, fE Z (by simp only; omega), trivial⟩ U
    ·obtain rfl : j = (2 * r.clicks + 1).toNat := by omega
     clear hc hK4
     (refine bJ _ Z (bL (aB (aA V Z Z (bB V Z Z Z Z O O (aA V Z Z (aF ?_)))))))
     exact hK3 (st + 1, l4) _ _ ⟨by simp only; omega, ht4.mono (fun y hy hd => by obtain ⟨a, b, c, d⟩ := y; have := (dA r p a b c d).1 hy; unfold Don; simp only at hd ⊢; omega)⟩ (by simp only; omega) ⟨rfl, rfl, rfl, rfl, rfl, rfl, trivial⟩ U
   ·obtain rfl : st = r.drifts.length := by omega
    clear hc hK3
    (refine bJ _ Z (bL (aB (aA V Z Z (bB V Z Z Z Z O O (aA V Z Z (aF ?_)))))))
    exact hK2 (wt + 1, l3) _ _ ⟨by simp only; omega, ht3.mono (fun y hy hd => by obtain ⟨a, b, c, d⟩ := y; have := (dA r p a b c d).1 hy; simp only at hd ⊢; omega)⟩ (by simp only; omega) ⟨rfl, rfl, rfl, rfl, rfl, trivial⟩ U
  ·obtain rfl : wt = (p.waits + 1).toNat := by omega
   clear hc hK2
   (refine bJ _ Z (bL (aB (aA V Z Z (bB V Z Z Z Z O O (aA V Z Z (aF ?_)))))))
   exact hK1 (k + 1, l2) _ _ ⟨by simp only; omega, ht2.mono (fun y hy hd => by obtain ⟨a, b, c, d⟩ := y; have := (dA r p a b c d).1 hy; simp only at hd ⊢; omega)⟩ (by simp only; omega) ⟨rfl, rfl, rfl, fE rfl (by simp only; omega), trivial⟩ U
 ·obtain rfl : k = 5 := by omega
  clear hc hK1
  have hall := ht1.all (fun x _ => by omega)
  subst hall
  subst hN
  (refine bJ _ Z (aE (aB (aA V Z Z (aA V Z Z (aF (aW ?_)))))))
  refine aX V Z U fun w hs => ?_
  exact ⟨bl, Z, hs.sp U⟩

theorem rvaluesF_no (w : World) (cs : List Value) (r : Rg) (p : Ru) (h : RgC w cs r) (hsm : r.Small) (hru : cH r p ≠ 0) : Ca Tryz.prog 69 [.agg cs.toArray, ruV p] w fun v w' => v = .tuple #[.slice none 0 0, .int .i64 (cH r p)] ∧ Chg [] w w' := by
 have h0 := h
 obtain ⟨lo, hi, ag, cg, ad, cd, af, cf, an, cn, rfl, hg, hdr, hf, hn⟩ := h
 refine dB (Sat.nil w M0) Tryz.func69 Z (by simp [Tryz.ntmps69]) ?_
 (refine aE (aB ?_))
 refine bG Z Z (fun b2 => ?_)
 refine bG Z Z (fun b3 => ?_)
 (refine aA V Z Z (aA V Z Z (aF (aE (aE (aB ?_))))); (iterate 2 refine aI V Z Z Z ?_))
 refine aJ (val := .int .i64 (cH r p)) V Z Z Z Z (fun w hs => ?_) ?_; exact jH w _ r p (h0.keep hs.chg0) hsm
 (refine aA V Z Z (aF (aE (aB (aA V Z Z (ql_neqT V Z Z Z O (aF (aM Z (aE (aB ?_))))))))); (iterate 3 refine aA V Z Z ?_); refine aF (aW ?_))
 refine aX V Z U fun w hs => ?_
 exact ⟨Z, hs.chg0⟩
theorem rvaluesF_ok (w : World) (cs : List Value) (r : Rg) (p : Ru) (h : RgC w cs r) (hsm : r.Small) (hru : cH r p = 0) : Ca Tryz.prog 69 [.agg cs.toArray, ruV p] w fun v w' =>
  ∃ b : Nat, v = .tuple #[.slice (some ⟨b, 0, none⟩) (plcL r p).length (plcL r p).length, .int .i64 0] ∧ Sat w M0 [.pt b (aZ ((plcL r p).map (nG r p))) 3] w' := by
 have h0 := h
 obtain ⟨hck, hp⟩ := (fY r p).1 hru
 have hr := (bM r).1 hck
 obtain ⟨lo, hi, ag, cg, ad, cd, af, cf, an, cn, rfl, hg, hdr, hf, hn⟩ := h
 refine dB (Sat.nil w M0) Tryz.func69 Z (by simp [Tryz.ntmps69]) ?_
 (refine aE (aB ?_))
 refine bG Z Z (fun b2 => ?_)
 refine bG Z Z (fun b3 => ?_)
 (refine aA V Z Z (aA V Z Z (aF (aE (aE (aB ?_))))); (iterate 2 refine aI V Z Z Z ?_))
 refine aJ (val := .int .i64 0) V Z Z Z Z (fun w hs => ?_) ?_; exact by have := jH w _ r p (h0.keep hs.chg0) hsm; rw [hru] at this; exact this
 (refine aA V Z Z (aF (aE (aB (aA V Z Z (dM V Z Z Z O (aF (aL Z (aR (aE (aB ?_)))))))))); (iterate 2 refine aI V Z Z Z ?_))
 refine bO (β := Nat) V [] _ M0 Z Z Z Z (Sp.refl _) qS (fun w' hs => rvalues_ca w' _ r p (h0.keep hs.chg0) hr hp) ?_
 rintro b _ rfl
 (refine aA V Z Z (aA V Z Z (aF (aW ?_))))
 refine aX V Z U fun w hs => ?_
 exact ⟨b, Z, hs.sp U⟩

theorem rchooseF_ca (w : World) (cs : List Value) (r : Rg) (p : Ru) (shot waits state click : Int) (h : RgC w cs r) (hsm : r.Small) : Ca Tryz.prog 71 [.agg cs.toArray, ruV p, .int .i64 shot, .int .i64 waits, .int .i64 state, .int .i64 click] w fun v w' =>
  v = .tuple #[.bool (cZ r p shot waits state click).1.1, .int .i64 (cZ r p shot waits state click).1.2, .int .i64 (cZ r p shot waits state click).2] ∧ Chg [] w w' := by
 have h0 := h
 obtain ⟨lo, hi, ag, cg, ad, cd, af, cf, an, cn, rfl, hg, hdr, hf, hn⟩ := h
 have s2 := hsm.drifts
 refine dB (Sat.nil w M0) Tryz.func71 Z (by simp [Tryz.ntmps71]) ?_
 (refine aE (aB ?_))
 refine bG Z Z (fun b6 => ?_)
 refine bG Z Z (fun b7 => ?_)
 ((iterate 3 refine aA V Z Z ?_); refine aF (aE (aE (aB ?_))); (iterate 2 refine aI V Z Z Z ?_))
 refine aJ (val := .int .i64 (cH r p)) V Z Z Z Z (fun w hs => ?_) ?_; exact jH w _ r p (h0.keep hs.chg0) hsm
 (refine aA V Z Z (aF (aE (aB (aA V Z Z (aA V Z Z (aF ?_)))))))
 refine iN Z (fun hc => ?_) (fun hc => ?_)
 ·(refine aE (aB ?_); (iterate 4 refine aA V Z Z ?_); refine aF (aW ?_))
  refine aX V Z U fun w hs => ?_
  exact ⟨by simp [fT, cZ, hc], hs.chg0⟩
 have hru : cH r p = 0 := by simpa using hc
 obtain ⟨hck, hp⟩ := (fY r p).1 hru
 have hr := (bM r).1 hck
 have hC := hr.clicks
 have hwa := hp.waits
 clear hc
 (refine aR (aE (aE (aB (aA V Z Z ?_)))))
 refine aJ (val := .bool (!(inB shot 0 4))) V Z Z Z Z (fun w hs => ?_) ?_; exact fO shot 0 4 w
 (refine aA V Z Z ?_)
 cases c1 : inB shot 0 4 with
 | false =>
  ((iterate 6 refine bA Z Z Z ?_); refine aA V Z Z (aF (aM Z (aE (aB ?_)))); (iterate 3 refine aA V Z Z ?_); refine aF (aW ?_))
  refine aX V Z U fun w hs => ?_
  exact ⟨by simp [fT, cZ, hru, c1], hs.chg0⟩
 | true =>
 (refine aC Z (aA V Z Z (aC Z (aA V Z Z (aC Z ?_)))); refine aH V Z Z Z ?_; refine aC Z (aA V Z Z (aC Z (bB V Z Z Z Z O O (aC Z ?_)))))
 refine aJ (val := .bool (!(inB state 0 ((r.drifts.length : Int) - 1)))) V Z Z Z Z (fun w hs => ?_) ?_; exact fO state 0 ((r.drifts.length : Int) - 1) w
 (refine aA V Z Z (aF ?_))
 cases c2 : inB state 0 ((r.drifts.length : Int) - 1) with
 | false =>
  (refine aM Z (aE (aB ?_)); (iterate 3 refine aA V Z Z ?_); refine aF (aW ?_))
  refine aX V Z U fun w hs => ?_
  exact ⟨by simp [fT, cZ, hru, c1, c2], hs.chg0⟩
 | true =>
 (refine aL Z (aR (aE (aE (aB (aA V Z Z (aA V Z Z ?_)))))); refine aH V Z Z Z ?_)
 refine aJ (val := .bool (!(inB waits 0 p.waits))) V Z Z Z Z (fun w hs => ?_) ?_; exact fO waits 0 p.waits w
 (refine aA V Z Z ?_)
 cases c3 : inB waits 0 p.waits with
 | false =>
  ((iterate 7 refine bA Z Z Z ?_); refine aA V Z Z (aF (aM Z (aE (aB ?_)))); (iterate 3 refine aA V Z Z ?_); refine aF (aW ?_))
  refine aX V Z U fun w hs => ?_
  exact ⟨by simp [fT, cZ, hru, c1, c2, c3], hs.chg0⟩
 | true =>
 (refine aC Z (aA V Z Z (aC Z (aA V Z Z (aC Z ?_)))); refine aH V Z Z Z ?_; refine aC Z (fJ V Z Z O O (aC Z (aA V Z Z (aC Z ?_)))); refine aH V Z Z Z ?_; refine aC Z ?_)
 refine aJ (val := .bool (!(inB click (-r.clicks) r.clicks))) V Z Z Z Z (fun w hs => ?_) ?_; exact fO click (-r.clicks) r.clicks w
 (refine aA V Z Z (aF ?_))
 cases c4 : inB click (-r.clicks) r.clicks with
 | false =>
  (refine aM Z (aE (aB ?_)); (iterate 3 refine aA V Z Z ?_); refine aF (aW ?_))
  refine aX V Z U fun w hs => ?_
  exact ⟨by simp [fT, cZ, hru, c1, c2, c3, c4], hs.chg0⟩
 | true =>
 have b1 := bH.1 c1
 have b2' := bH.1 c2
 have b3 := bH.1 c3
 have b4 := bH.1 c4
 obtain ⟨sh, rfl⟩ := Int.eq_ofNat_of_zero_le b1.1
 obtain ⟨st, rfl⟩ := Int.eq_ofNat_of_zero_le b2'.1
 obtain ⟨wt, rfl⟩ := Int.eq_ofNat_of_zero_le b3.1
 have hin := plc_in (r := r) (p := p) sh wt st click O O O O
 have hvl : ValL r p ((plcL r p).map (nG r p)) := ⟨by simp, fun v hv => by
  obtain ⟨⟨a, b, c, d⟩, hm, rfl⟩ := List.mem_map.1 hv
  obtain ⟨h1, h2, h3, h4⟩ := (dA r p a b c d).1 hm
  exact mY r hr p hp a b c d h2 h3 h4⟩
 have hcv : cZ r p sh wt st click = ((jW r p sh wt st click).1, 0) := by unfold cZ; rw [if_neg O, c1, if_neg (by simp), c2, if_neg (by simp), c3, if_neg (by simp), c4, if_neg (by simp)]; rfl
 (refine aL Z (aR (aE ?_)))
 refine bX _ [] (Sp.refl _) qR qR ?_
 ((iterate 4 refine aO V Z Z Z ?_))
 refine bD (β := Nat) V [] _ M0 Z Z Z Z (Sp.refl _) qS (fun w' hs => rvalues_ca w' _ r p (h0.keep hs.chg0) hr hp) ?_
 rintro bv _ rfl
 ((iterate 4 refine aD V Z Z Z ?_))
 refine aS (val := .tuple #[.bool (jW r p sh wt st click).1.1, .int .i64 (jW r p sh wt st click).1.2, .int .i64 (iU r p sh wt st click)]) V Z Z Z Z (fun w hs => ?_) ?_; exact by have := mU w _ _ _ r p _ _ sh wt st click (h0.keep hs.chg0) hr hp (blk_rdI (c := (plcL r p).length) (hs.blk (b := bv) U) (List.length_map _).symm) hvl O O O O; rw [tab_full hr hp hin, ← valV_eq r p sh wt st click O O O O] at this; exact this
 (refine aD V Z Z Z ?_; (iterate 3 refine bT V Z Z Z ?_); (iterate 3 refine aD V Z Z Z ?_); refine aK (aE (aB ?_)); (iterate 5 refine aA V Z Z ?_); refine aF (aW ?_))
 refine aX V Z U fun w hs => ?_
 exact ⟨by rw [hcv]; rfl, hs.chg0⟩
end Go.Proofs.YtohlillcaadidaaGreat

/- Walks of the reference: what values prove. -/
namespace Go.Proofs.YtohlillcaadidaaGreat
open Go Go.Eng

/-- The situations that are looked at already. -/
def Ahd (sh wt st : Nat) (cl : Int) (y : Plc) : Prop := y.1 < sh ∨ y.1 = sh ∧ (y.2.1 < wt ∨ y.2.1 = wt ∧ (y.2.2.1 < st ∨ y.2.2.1 = st ∧ y.2.2.2 < cl))
def AllH (r : Rg) (p : Ru) (l : List Int) (D : Plc → Prop) : Prop := ∀ y, y ∈ plcL r p → D y → holdV r p (gV r p l) y = true
theorem AllH.mono {r : Rg} {p : Ru} {l : List Int} {D D' : Plc → Prop} (h : AllH r p l D) (hD : ∀ y, y ∈ plcL r p → D' y → D y) : AllH r p l D' := fun y hy hd => h y hy (hD y hy hd)
theorem proof_8 {r : Rg} {p : Ru} {l : List Int} (h0 : cH r p = 0) (h1 : (l.length : Int) = cntP r p) (h2 : l.all (fun n => inB n 0 1000000000000000) = true) {y : Plc} (hy : y ∈ plcL r p) (hf : holdV r p (gV r p l) y = false) : eM r p l = ((0, 0), 8) := by
 unfold eM
 rw [if_neg O, if_neg O, h2, if_neg (by simp), if_pos]
 rw [List.all_eq_false.2 ⟨y, hy, by simp [hf]⟩]
 rfl
theorem costV_k {r : Rg} (hr : r.Right) {p : Ru} {l : List Int} (hv : ValL r p l) (k : Nat) (hk : k ≤ r.drifts.length) : 0 ≤ cV (fun s => r.first.getD s 0 * gV r p l 0 p.waits.toNat s 0) k ∧ cV (fun s => r.first.getD s 0 * gV r p l 0 p.waits.toNat s 0) k ≤ 60000000000000000 := by
 have h1 := mK (fun s => r.first.getD s 0 * gV r p l 0 p.waits.toNat s 0) 12000000000000000 k (fun i hi => bR (A := 12) (B := 1000000000000000) (by have := first_bd hr i; have := hr.total; omega) (hv.at 0 p.waits.toNat i 0))
 have h2 := hr.d2
 have : 12000000000000000 * (k : Int) ≤ 60000000000000000 := by omega
 omega

set_option maxHeartbeats 8000000 in
theorem rproves_ca (w : World) (l0 h1 : Nat) (cs : List Value) (r : Rg) (p : Ru) (v : Value) (l : List Int) (h : RgC w cs r) (hsm : r.Small) (hl : RdI w l0 h1 v l) (hlen : l.length < 1000000) : Ca Tryz.prog 70 [.agg cs.toArray, ruV p, v] w fun v w' =>
  v = .tuple #[rtV (eM r p l).1, .int .i64 (eM r p l).2] ∧ Chg [] w w' := by
 have h0 := h
 obtain ⟨lo, hi, ag, cg, ad, cd, af, cf, an, cn, rfl, hg, hdr, hf, hn⟩ := h
 obtain ⟨la, lc, rfl, hsl⟩ := RdI.outI hl
 obtain ⟨_, _, hsl2, hsf⟩ := RdI.outI hf
 cases hsl2
 refine dB (Sat.nil w M0) Tryz.func70 Z (by simp [Tryz.ntmps70]) ?_
 (refine aE (aB ?_))
 refine bG Z Z (fun b3 => ?_)
 refine bG Z Z (fun b4 => ?_)
 refine aV cO Z (fun b6 => ?_)
 (refine aA V Z Z (aF (aE (aE (aB ?_)))); (iterate 2 refine aI V Z Z Z ?_))
 refine aJ (val := .int .i64 (cH r p)) V Z Z Z Z (fun w hs => ?_) ?_; exact jH w _ r p (h0.keep hs.chg0) hsm
 (refine aA V Z Z (aF (aE (aB (aA V Z Z (aA V Z Z (aF ?_)))))))
 refine iN Z (fun hc => ?_) (fun hc => ?_)
 ·(refine aE (aB ?_))
  refine cE #[.int .i64 0, .int .i64 0] Z qR Z ?_
  (refine aA V Z Z ?_; refine aY V Z Z Z Z Z U Z ?_; refine aA V Z Z (aF (aW ?_)))
  refine aX V Z U fun w hs => ?_
  exact ⟨by simp [fT, eM, hc, rtV], hs.chg0⟩
 have hru : cH r p = 0 := by simpa using hc
 obtain ⟨hck, hp⟩ := (fY r p).1 hru
 have hr := (bM r).1 hck
 have hwa := hp.waits
 have hC := hr.clicks
 have hd1 := hr.d1
 have hd2 := hr.d2
 have hfl := hr.first
 have hg2 := hr.g2
 have hcb := cntP_bd hr hp
 have hcl : 5 * (p.waits + 1) * (r.drifts.length : Int) * (2 * r.clicks + 1) = ((plcL r p).length : Int) := cntP_eq hr hp
 have hcnt : cntP r p = ((plcL r p).length : Int) := hcl
 clear hc
 (refine aR (aE (aE (aB ?_))); (iterate 3 refine aA V Z Z ?_); refine aH V Z Z Z ?_; refine bB V Z Z Z Z O O (bB V Z Z Z Z O O (aA V Z Z ?_)); refine aH V Z Z Z ?_; refine aA V Z Z (bB V Z Z Z Z O O (aA V Z Z ?_)); refine aH V Z Z Z ?_; (iterate 3 refine bB V Z Z Z Z O O ?_); refine aA V Z Z (aF ?_))
 rw [hcl]
 refine iN Z (fun hc => ?_) (fun hc => ?_)
 ·(refine aE (aB ?_))
  refine cE #[.int .i64 0, .int .i64 0] Z qR Z ?_
  (refine aY V Z Z Z Z Z U Z ?_; refine aA V Z Z (aF (aW ?_)))
  refine aX V Z U fun w hs => ?_
  exact ⟨by simp only [eM]; rw [if_neg O, if_pos O]; rfl, hs.chg0⟩
 have hll : l.length = (plcL r p).length := by omega
 clear hc
 (refine aR (aE (aE (aB (aA V Z Z ?_)))))
 refine aJ (val := .bool (!(l.all fun n => inB n 0 1000000000000000))) V Z Z Z Z (fun w hs => ?_) ?_; exact iX w l0 h1 _ l 0 1000000000000000 (RdE.keep hl hs.chg0) hlen
 cases hal : l.all (fun n => inB n 0 1000000000000000) with
 | false =>
  (refine aF (aM Z (aE (aB ?_))))
  refine cE #[.int .i64 0, .int .i64 0] Z qR Z ?_
  (refine aY V Z Z Z Z Z U Z ?_; refine aA V Z Z (aF (aW ?_)))
  refine aX V Z U fun w hs => ?_
  exact ⟨by simp only [eM]; rw [if_neg O, if_neg O, hal, if_pos (by simp)]; rfl, hs.chg0⟩
 | true =>
 have hvl : ValL r p l := ⟨hll, fun x hx => bH.1 (List.all_eq_true.1 hal x hx)⟩
 have herr := fun y hy hf => proof_8 (r := r) (p := p) (l := l) hru O hal (y := y) hy hf
 (refine aF (aL Z (aR (aE (aE (aB (aA V Z Z (aF (aP ?_)))))))))
 refine bN (σ := Nat) (fun sh => sh ≤ 5 ∧ AllH r p l (fun y => y.1 < sh)) (fun sh => 5 - sh) (fun sh => [(2, .slice la l.length lc), (3, .pointer (some ⟨b3, 0, none⟩)), (4, .pointer (some ⟨b4, 0, none⟩)), (6, .pointer (some ⟨b6, 0, none⟩)), (9, .int .i64 sh)])
  (fun _ => [.pt b6 [.int .i64 0, .int .i64 0] 36, .pt b3 [.int .i64 r.radius, .int .i64 r.unit, .int .i64 r.clicks, .int .i64 r.total, .slice ag r.group.length cg, .slice ad r.drifts.length cd, .slice af r.first.length cf, .slice an r.next.length cn] 34, .pt b4 [.int .i64 p.miss, .int .i64 p.click, .int .i64 p.wait, .int .i64 p.waits] 124]) 0 ⟨by omega, fun y _ hd => absurd hd O⟩ ⟨rfl, rfl, rfl, rfl, rfl, trivial⟩ U ?_
 rintro sh ⟨hsh, ha1⟩ K1 hK1
 (refine aE (aE (aB (aA V Z Z (aA V Z Z (aF ?_))))))
 refine dD Z (fun hc => ?_) (fun hc => ?_)
 ·have hsh2 : sh < 5 := by omega
  clear hc
  (refine aR (aE (aP (aE (aB (aA V Z Z (aF (aP ?_))))))))
  refine bN (σ := Nat) (fun wt => wt ≤ (p.waits + 1).toNat ∧ AllH r p l (fun y => y.1 < sh ∨ y.1 = sh ∧ y.2.1 < wt)) (fun wt => (p.waits + 1).toNat - wt) (fun wt => [(2, .slice la l.length lc), (3, .pointer (some ⟨b3, 0, none⟩)), (4, .pointer (some ⟨b4, 0, none⟩)), (6, .pointer (some ⟨b6, 0, none⟩)), (9, .int .i64 sh), (10, .int .i64 wt)])
   (fun _ => [.pt b6 [.int .i64 0, .int .i64 0] 36, .pt b3 [.int .i64 r.radius, .int .i64 r.unit, .int .i64 r.clicks, .int .i64 r.total, .slice ag r.group.length cg, .slice ad r.drifts.length cd, .slice af r.first.length cf, .slice an r.next.length cn] 34, .pt b4 [.int .i64 p.miss, .int .i64 p.click, .int .i64 p.wait, .int .i64 p.waits] 124]) 0 ⟨by omega, ha1.mono (fun y _ hd => by omega)⟩ ⟨rfl, rfl, rfl, rfl, rfl, rfl, trivial⟩ U ?_
  rintro wt ⟨hwt, ha2⟩ K2 hK2
  (refine aE (aE (aB (aA V Z Z (aA V Z Z ?_)))); refine aH V Z Z Z ?_; refine aA V Z Z (aF ?_))
  refine dD Z (fun hc => ?_) (fun hc => ?_)
  ·have hwt2 : (wt : Int) ≤ p.waits := by omega
   clear hc
   (refine aR (aE (aP (aE (aB (aA V Z Z (aF (aP ?_))))))))
   refine bN (σ := Nat) (fun st => st ≤ r.drifts.length ∧ AllH r p l (fun y => y.1 < sh ∨ y.1 = sh ∧ (y.2.1 < wt ∨ y.2.1 = wt ∧ y.2.2.1 < st))) (fun st => r.drifts.length - st) (fun st => [(2, .slice la l.length lc), (3, .pointer (some ⟨b3, 0, none⟩)), (4, .pointer (some ⟨b4, 0, none⟩)), (6, .pointer (some ⟨b6, 0, none⟩)), (9, .int .i64 sh), (10, .int .i64 wt), (11, .int .i64 st)])
    (fun _ => [.pt b6 [.int .i64 0, .int .i64 0] 36, .pt b3 [.int .i64 r.radius, .int .i64 r.unit, .int .i64 r.clicks, .int .i64 r.total, .slice ag r.group.length cg, .slice ad r.drifts.length cd, .slice af r.first.length cf, .slice an r.next.length cn] 34, .pt b4 [.int .i64 p.miss, .int .i64 p.click, .int .i64 p.wait, .int .i64 p.waits] 124]) 0 ⟨by omega, ha2.mono (fun y _ hd => by omega)⟩ ⟨rfl, rfl, rfl, rfl, rfl, rfl, rfl, trivial⟩ U ?_
   rintro st ⟨hst, ha3⟩ K3 hK3
   (refine aE (aE (aB (aA V Z Z (aA V Z Z ?_)))); refine aH V Z Z Z ?_; refine aA V Z Z (aA V Z Z (aF ?_)))
   refine dD Z (fun hc => ?_) (fun hc => ?_)
   ·have hst2 : st < r.drifts.length := by omega
    clear hc
    (refine aR (aE (aP (aE (aB (aA V Z Z ?_))))); refine aH V Z Z Z ?_; refine fJ V Z Z O O (aA V Z Z (aF (aP ?_))))
    refine bN (σ := Nat) (fun j => j ≤ (2 * r.clicks + 1).toNat ∧ AllH r p l (Ahd sh wt st ((j : Int) - r.clicks))) (fun j => (2 * r.clicks + 1).toNat - j) (fun j => [(2, .slice la l.length lc), (3, .pointer (some ⟨b3, 0, none⟩)), (4, .pointer (some ⟨b4, 0, none⟩)), (6, .pointer (some ⟨b6, 0, none⟩)), (9, .int .i64 sh), (10, .int .i64 wt), (11, .int .i64 st), (12, .int .i64 ((j : Int) - r.clicks))])
     (fun _ => [.pt b6 [.int .i64 0, .int .i64 0] 36, .pt b3 [.int .i64 r.radius, .int .i64 r.unit, .int .i64 r.clicks, .int .i64 r.total, .slice ag r.group.length cg, .slice ad r.drifts.length cd, .slice af r.first.length cf, .slice an r.next.length cn] 34, .pt b4 [.int .i64 p.miss, .int .i64 p.click, .int .i64 p.wait, .int .i64 p.waits] 124]) 0 ⟨by omega, ha3.mono (fun y hy hd => by obtain ⟨a, b, c, d⟩ := y; have := (dA r p a b c d).1 hy; unfold Ahd at hd; simp only at hd ⊢; omega)⟩ ⟨rfl, rfl, rfl, rfl, rfl, rfl, rfl, fE rfl O, trivial⟩ U ?_
    rintro j ⟨hj, ha4⟩ K4 hK4
    (refine aE (aE (aB (aA V Z Z (aA V Z Z ?_)))); refine aH V Z Z Z ?_; refine aA V Z Z (aF ?_))
    refine dD Z (fun hc => ?_) (fun hc => ?_)
    ·have hj2 : j < (2 * r.clicks + 1).toNat := by omega
     clear hc
     obtain ⟨cl, hclj⟩ : ∃ cl : Int, cl = (j : Int) - r.clicks := ⟨_, rfl⟩
     have hclb : -r.clicks ≤ cl ∧ cl ≤ r.clicks := by omega
     rw [← hclj] at ha4 ⊢
     have hin := plc_in (r := r) (p := p) sh wt st cl O hwt2 hst2 hclb
     have hix := idx_lt hin
     rw [← hll] at hix
     have hga : gV r p l sh wt st cl = l[idxP r p (sh, wt, st, cl)] := by unfold gV; simp [List.getD_eq_getElem?_getD, hix]
     obtain ⟨bl, ol, rfl⟩ := hsl O
     have hho : holdV r p (gV r p l) (sh, wt, st, cl) = (decide (l[idxP r p (sh, wt, st, cl)] ≤ (chV r p (gV r p l (sh + 1) wt) (gV r p l sh (wt - 1)) sh wt st cl).2) && true) := by unfold holdV; simp only [hga]
     (refine aR (aE (aP (aE (aB ?_)))); (iterate 2 refine aI V Z Z Z ?_); (iterate 5 refine aA V Z Z ?_))
     refine aJ (val := .tuple #[.bool (chV r p (gV r p l (sh + 1) wt) (gV r p l sh (wt - 1)) sh wt st cl).1.1, .int .i64 (chV r p (gV r p l (sh + 1) wt) (gV r p l sh (wt - 1)) sh wt st cl).1.2, .int .i64 (chV r p (gV r p l (sh + 1) wt) (gV r p l sh (wt - 1)) sh wt st cl).2]) V Z Z Z Z (fun w hs => ?_) ?_; exact mU w _ _ _ r p _ l sh wt st cl (h0.keep hs.chg0) hr hp (RdE.keep hl hs.chg0) hvl O hwt2 hst2 hclb
     (refine aA V Z Z ?_; (iterate 3 refine bC V Z Z Z ?_); (iterate 3 refine aA V Z Z ?_); refine aF (aE (aB (aA V Z Z ?_))); (iterate 2 refine aI V Z Z Z ?_); (iterate 4 refine aA V Z Z ?_))
     refine aJ (val := .int .i64 ((idxP r p (sh, wt, st, cl) : Nat) : Int)) V Z Z Z Z (fun w hs => ?_) ?_; exact at_ca w _ r p sh wt st cl (h0.keep hs.chg0) hr hp O hwt2 hst2 hclb
     (refine bW V Z Z Z Z Z O O ?_; refine cI V Z Z Z (fun w hs => RdI.at (RdE.keep hl hs.chg0) (idxP r p (sh, wt, st, cl)) hix) ?_)
     (refine aA V Z Z (aA V Z Z (aF ?_)))
     refine dD Z (fun hc => ?_) (fun hc => ?_)
     ·(refine aE (aB ?_))
      refine cE #[.int .i64 0, .int .i64 0] Z qR Z ?_
      (refine aY V Z Z Z Z Z U Z ?_; refine aA V Z Z (aF (aW ?_)))
      refine aX V Z U fun w hs => ?_
      exact ⟨by rw [herr _ hin (by rw [hho]; simp; omega)]; rfl, hs.chg0⟩
     ·(refine aR (bL (aB (aA V Z Z (bB V Z Z Z Z O O (aA V Z Z (aF ?_)))))))
      exact hK4 (j + 1) _ _ ⟨by omega, fun y hy hd => by
       rw [show ((j + 1 : Nat) : Int) - r.clicks = cl + 1 by omega] at hd
       by_cases he : y = (sh, wt, st, cl)
       ·subst he
        rw [hho]
        simp
        omega
       ·refine ha4 y hy ?_
        obtain ⟨a, b, c, d⟩ := y
        unfold Ahd at hd ⊢
        simp only [Prod.mk.injEq] at hd he ⊢
        omega⟩ O ⟨rfl, rfl, rfl, rfl, rfl, rfl, rfl, fE rfl O, trivial⟩ U
    ·obtain rfl : j = (2 * r.clicks + 1).toNat := by omega
     clear hc hK4
     (refine bJ _ Z (bL (aB (aA V Z Z (bB V Z Z Z Z O O (aA V Z Z (aF ?_)))))))
     exact hK3 (st + 1) _ _ ⟨by omega, ha4.mono (fun y hy hd => by obtain ⟨a, b, c, d⟩ := y; have := (dA r p a b c d).1 hy; unfold Ahd; simp only at hd ⊢; omega)⟩ O ⟨rfl, rfl, rfl, rfl, rfl, rfl, rfl, trivial⟩ U
   ·obtain rfl : st = r.drifts.length := by omega
    clear hc hK3
    (refine bJ _ Z (bL (aB (aA V Z Z (bB V Z Z Z Z O O (aA V Z Z (aF ?_)))))))
    exact hK2 (wt + 1) _ _ ⟨by omega, ha3.mono (fun y hy hd => by obtain ⟨a, b, c, d⟩ := y; have := (dA r p a b c d).1 hy; simp only at hd ⊢; omega)⟩ O ⟨rfl, rfl, rfl, rfl, rfl, rfl, trivial⟩ U
  ·obtain rfl : wt = (p.waits + 1).toNat := by omega
   clear hc hK2
   (refine bJ _ Z (bL (aB (aA V Z Z (bB V Z Z Z Z O O (aA V Z Z (aF ?_)))))))
   exact hK1 (sh + 1) _ _ ⟨by omega, ha2.mono (fun y hy hd => by obtain ⟨a, b, c, d⟩ := y; have := (dA r p a b c d).1 hy; simp only at hd ⊢; omega)⟩ O ⟨rfl, rfl, rfl, rfl, rfl, trivial⟩ U
 obtain rfl : sh = 5 := by omega
 clear hc hK1
 have hall : (plcL r p).all (holdV r p (gV r p l)) = true := List.all_eq_true.2 (fun y hy => ha1 y hy (by obtain ⟨a, b, c, d⟩ := y; have := (dA r p a b c d).1 hy; simp only; omega))
 obtain ⟨wt, hwt⟩ : ∃ wt, wt = p.waits.toNat := ⟨_, rfl⟩
 have hwi : (wt : Int) = p.waits := by omega
 have hpv : eM r p l = (ratioV (costV r p (gV r p l)) (r.group.sum * r.total ^ (5 + wt)), 0) := by
  unfold eM
  rw [if_neg O, if_neg O, hal, if_neg (by simp), hall, if_neg (by simp), ← hwt, cJ, Int.mul_assoc, ← Int.pow_succ, show (4 - 0 + wt).succ = 5 + wt by omega]
 rw [hpv]
 (refine bJ _ Z (aE (aB (aA V Z Z (aF (aE (aE (aB (aA V Z Z (aF (aP ?_)))))))))))
 refine bN (σ := Nat) (fun s => s ≤ r.drifts.length) (fun s => r.drifts.length - s) (fun s => [(2, .slice la l.length lc), (3, .pointer (some ⟨b3, 0, none⟩)), (4, .pointer (some ⟨b4, 0, none⟩)), (6, .pointer (some ⟨b6, 0, none⟩)), (16, .int .i64 (cV (fun s => r.first.getD s 0 * gV r p l 0 p.waits.toNat s 0) s)), (17, .int .i64 s)])
  (fun _ => [.pt b6 [.int .i64 0, .int .i64 0] 36, .pt b3 [.int .i64 r.radius, .int .i64 r.unit, .int .i64 r.clicks, .int .i64 r.total, .slice ag r.group.length cg, .slice ad r.drifts.length cd, .slice af r.first.length cf, .slice an r.next.length cn] 34, .pt b4 [.int .i64 p.miss, .int .i64 p.click, .int .i64 p.wait, .int .i64 p.waits] 124]) 0 O ⟨rfl, rfl, rfl, rfl, rfl, rfl, trivial⟩ U ?_
 intro s hsl3 K hK
 (refine aE (aE (aB (aA V Z Z (aA V Z Z ?_)))); refine aH V Z Z Z ?_; refine aA V Z Z (aA V Z Z (aF ?_)))
 refine dD Z (fun hc => ?_) (fun hc => ?_)
 ·have hs2 : s < r.drifts.length := by omega
  clear hc
  have hs3 : s < r.first.length := by omega
  have hin := plc_in (r := r) (p := p) 0 wt s 0 O O hs2 O
  have hix := idx_lt hin
  rw [← hll] at hix
  have hga : gV r p l 0 p.waits.toNat s 0 = l[idxP r p (0, wt, s, 0)] := by rw [← hwt]; unfold gV; simp [List.getD_eq_getElem?_getD, hix]
  have hgf : r.first.getD s 0 = r.first[s] := by simp [List.getD_eq_getElem?_getD, hs3]
  have hst1 : cV (fun s => r.first.getD s 0 * gV r p l 0 p.waits.toNat s 0) (s + 1) = cV (fun s => r.first.getD s 0 * gV r p l 0 p.waits.toNat s 0) s + r.first[s] * l[idxP r p (0, wt, s, 0)] := by rw [cV, hga, hgf]
  have hb0 := costV_k hr hvl s O
  have hb1 := costV_k hr hvl (s + 1) O
  have mm := bR (A := 12) (B := 1000000000000000) (show 0 ≤ r.first[s] ∧ r.first[s] ≤ 12 by have := first_bd hr s; have := hr.total; rw [hgf] at *; omega) (hvl.bd _ (List.getElem_mem hix))
  rw [hst1] at hb1
  obtain ⟨bl, ol, rfl⟩ := hsl O
  obtain ⟨bf, of, rfl⟩ := hsf O
  (refine aR (aE (aP ?_)))
  refine bX _ [] (Sp.refl _) qR qR ?_
  (refine aD V Z Z Z (aD V Z Z Z ?_); refine aT V Z Z Z ?_; refine aD V Z Z Z ?_)
  (refine bF V Z Z Z Z Z O O ?_; refine bI V Z Z Z (fun w hs => RdI.at (RdE.keep hf hs.chg0) s hs3) ?_)
  (refine aD V Z Z Z ?_; (iterate 2 refine aO V Z Z Z ?_); refine aD V Z Z Z ?_; refine aT V Z Z Z ?_; refine aD V Z Z Z ?_)
  refine aS (val := .int .i64 ((idxP r p (0, wt, s, 0) : Nat) : Int)) V Z Z Z Z (fun w hs => ?_) ?_; exact by have := at_ca w _ r p 0 wt s 0 (h0.keep hs.chg0) hr hp O O hs2 O; rw [hwi] at this; exact this
  (refine bF V Z Z Z Z Z O O ?_; refine bI V Z Z Z (fun w hs => RdI.at (RdE.keep hl hs.chg0) (idxP r p (0, wt, s, 0)) hix) ?_)
  (refine bY V Z Z Z Z O O (bY V Z Z Z Z O O (aD V Z Z Z (aK (bL (aB (aA V Z Z (bB V Z Z Z Z O O (aA V Z Z (aF ?_))))))))))
  exact hK (s + 1) _ _ O O ⟨Z, Z, Z, Z, by rw [hst1]; rfl, Z, trivial⟩ U
 obtain rfl : s = r.drifts.length := by omega
 clear hc hK
 have hb0 := costV_k hr hvl r.drifts.length O
 have ht := tot8 r hr (5 + wt) O
 have hgs := hr.gsum
 have hmul := bR (A := 100) (B := 429981696) (show 0 ≤ r.group.sum ∧ r.group.sum ≤ 100 by omega) (show 0 ≤ r.total ^ (5 + wt) ∧ r.total ^ (5 + wt) ≤ 429981696 by omega)
 have hpos := Int.mul_pos (show 0 < r.group.sum by omega) (show 0 < r.total ^ (5 + wt) by omega)
 have hco : cV (fun s => r.first.getD s 0 * gV r p l 0 p.waits.toNat s 0) r.drifts.length = costV r p (gV r p l) := rfl
 rw [hco] at hb0 ⊢
 (refine bJ _ Z (aE ?_))
 refine bX _ [.pt b6 _ _] (Sp.cons U (Sp.refl _)) qR qR ?_
 (refine aD V Z Z Z (aD V Z Z Z ?_); refine aT V Z Z Z ?_)
 refine aS (val := .int .i64 r.group.sum) V Z Z Z Z (fun w hs => ?_) ?_; exact fI w lo hi _ r.group (RdE.keep hg hs.chg0) O (fun x hx => by have := hr.weight x hx; omega)
 (refine aO V Z Z Z ?_; refine aD V Z Z Z ?_; refine aT V Z Z Z ?_; refine bY V Z Z Z Z O O ?_)
 refine aS (val := .int .i64 (r.total ^ (5 + wt))) V Z Z Z Z (fun w hs => ?_) ?_; exact by have := qH w _ r (5 + wt) (h0.keep hs.chg0) hr O; rw [show ((5 + wt : Nat) : Int) = 5 + p.waits by omega] at this; exact this
 (refine bY V Z Z Z Z O O ?_)
 refine aS (val := rtV (ratioV (costV r p (gV r p l)) (r.group.sum * r.total ^ (5 + wt)))) V Z Z Z Z (fun w hs => ?_) ?_; exact jV (costV r p (gV r p l)) (r.group.sum * r.total ^ (5 + wt)) w O O O O
 (refine bK V Z Z Z Z Z U Z ?_; refine aD V Z Z Z (aK (aW ?_)))
 refine aX V Z U fun w hs => ?_
 exact ⟨Z, hs.chg0⟩
end Go.Proofs.YtohlillcaadidaaGreat

/- The engine, part B16: shifts, and the last bit. -/
namespace Go.Eng
open Go Go.RowKit

section
variable {P : Program} {ro : Cx} {n : Nat} {F : Fin} {w0 : World} {M : Nat → Prop} {k : List It} {ops : Array Oper} {rest : List Oper} {e : Env} {H Hq : List Ck}
end
end Go.Eng

/- Engine 2: a block of numbers with room behind them. -/
namespace Go.Eng
open Go Go.RowKit

section
variable {P : Program} {T : Tab} {ro : Cx} {n : Nat} {F : Fin} {w0 : World} {M : Nat → Prop} {k : List It} {ops : Array Oper} {rest : List Oper} {e : Env} {H Hq : List Ck}
end
end Go.Eng

/- Engine 2: a region that draws, with any marks. -/
namespace Go.Eng
open Go Go.RowKit

section
variable {P : Program} {ro : Cx} {n : Nat} {F : Fin} {w0 : World} {M : Nat → Prop} {k : List It} {ops : Array Oper} {l : List Oper} {e : Env} {H H1 H2 : List Ck} {bs : List Bool}
structure QB (P : Program) (ro : Cx) (n : Nat) (F : Fin) (w0 : World) (M : Nat → Prop) (k : List It) (ops : Array Oper) (H1 H2 : List Ck) (bs : List Bool) (l : List Oper) (e : Env) (H : List Ck) : Prop where
 h : ∀ w, Sat w0 M H w → YB P ro n F k ops (Sat w0 M H1) (Sat w0 M H2) bs l e w
end
end Go.Eng

/- Engine 2: changing an element of a slice of our own, in a region that draws. -/
namespace Go.Eng
open Go Go.RowKit

section
variable {P : Program} {T : Tab}
variable {ro : Cx} {n : Nat} {F : Fin} {w0 : World} {M : Nat → Prop} {k : List It} {ops : Array Oper} {rest : List Oper} {e : Env} {H Hq : List Ck}
theorem qf_storeW (hT : T.Ok P) {t : Nat} {x y : Operand} {g off m c et : Nat} {xs : List Value} {u : Value} {H' : List Ck} {ty : TypeId} {pos : String} {af : Array Edge} (i : Nat)
  (hx : opv e x = some (.pointer (some ⟨g, off, none⟩))) (hy : opv e y = some u) (h1 : has T.one t = true) (hv : dY u = true)
  (hr : Rp H (.ow (.slice (some ⟨g, 0, none⟩) m c) et 1 m xs) (.ow (.slice (some ⟨g, 0, none⟩) m c) et 1 m (xs.set i u)) H') (ho : off = i) (hi : i < xs.length)
  (h : QF P ro n F w0 M k ops Hq rest e H') : QF P ro n F w0 M k ops Hq (⟨none, .store t x y, ty, pos, af, none⟩ :: rest) e H := .mk fun w hs => by
 subst ho
 obtain ⟨hl, h2⟩ : w.ownsRow 0 et 1 (.slice (some ⟨g, 0, none⟩) m c) m xs := hs.mem (hr.app Hq).mem
 rcases h2 with ⟨hv', _⟩ | ⟨g', cap, cur, hv', hg, hh, hnc, hcm, hcs, ht⟩
 ·cases hv'
 cases hv'
 have hb : Blk w g cur.toList et := by simpa [Blk] using hh
 have hcl : off < cur.toList.length := by
  have := congrArg List.length ht
  simp at this
  simp
  omega
 refine yf_store1 hT hx hy h1 hv hb hcl (fun w' hc _ hb' => ?_)
 have hs' := hs.rep (hr.app Hq) hc (fun k hk => by
  obtain rfl : k = g := by simpa using hk
  rfl) (by
  refine ⟨by simpa using hl, .inr ⟨g, c, (cur.toList.set off u).toArray, Z, hg, by simpa [Blk] using hb', hnc, hcm, by simpa using hcs, ?_⟩⟩
  simp only [List.toList_toArray]
  rw [List.take_set, ht]) (fun b hb2 => by
  have : b = g := by simpa [Ck.D, Value.ownBlock] using hb2.symm
  subst this
  exact ⟨.inl rfl, hb'.lt⟩)
 exact ⟨hs'.right, h.h w' hs'⟩
theorem own_cell {w : World} {et g m c : Nat} {xs : List Value} (h : w.ownsRow 0 et 1 (.slice (some ⟨g, 0, none⟩) m c) m xs) (i : Nat) (hi : i < xs.length) : w.cell? ⟨g, i, none⟩ = some xs[i] := by
 obtain ⟨hl, h2⟩ := h
 rcases h2 with ⟨hv', _⟩ | ⟨g', cap, cur, hv', hg, hh, hnc, hcm, hcs, ht⟩
 ·cases hv'
 cases hv'
 have hb : Blk w g cur.toList et := by simpa [Blk] using hh
 rw [Blk.cell hb i]
 have e : xs[i]? = some xs[i] := List.getElem?_eq_getElem hi
 rw [← e, ← ht, List.getElem?_take, if_pos O]
end
end Go.Eng

/- Engine, part B20: two Bools compared. -/
namespace Go.Eng
open Go Go.RowKit

section
variable {P : Program} {T : Tab} {ro : Cx} {n : Nat} {F : Fin} {w0 : World} {M : Nat → Prop} {k : List It} {ops : Array Oper} {rest : List Oper} {e : Env} {H Hq : List Ck}
def boolB (P : Program) (t : Nat) : Bool := match P.underlying t with | some .bool => true | _ => false
theorem boolB_eq {t : Nat} (h : boolB P t = true) : P.underlying t = some .bool := by
 unfold boolB at h
 split at h
 ·assumption
 ·cases h
theorem exec_eqb {a : Act} {d t t' : Nat} {x y : Operand} {p q : Bool} {ty : TypeId} {pos : String} {af : Array Edge} (hf : Fits n e a) (hx : opv e x = some (.bool p)) (hy : opv e y = some (.bool q)) (hB : boolB P t = true) (w : World) :
  (execOp a.eval ⟨some d, .binOp .eql t x y t', ty, pos, af, none⟩).run P w = .ok (.value (.bool (p == q))) w ∧ (execOp a.eval ⟨some d, .binOp .neq t x y t', ty, pos, af, none⟩).run P w = .ok (.value (.bool (!(p == q)))) w := by
 have e1 := hf.op hx
 have e2 := hf.op hy
 have hu := boolB_eq hB
 have h3 := run_equalIn_bool w 9999 t p q hu
 constructor <;> simp [execOp, e1, e2, eqGuard, binOp, Op.equal, Op.maxDepth, h3]
theorem ql_eqb {d t t' : Nat} {x y : Operand} {p q : Bool} {ty : TypeId} {pos : String} {af : Array Edge} (hB : boolB P t = true) (hx : opv e x = some (.bool p)) (hy : opv e y = some (.bool q)) (hd : Nat.blt d n = true)
  (h : QL P ro n F w0 M k ops rest ((d, .bool (p == q)) :: e) H) : QL P ro n F w0 M k ops (⟨some d, .binOp .eql t x y t', ty, pos, af, none⟩ :: rest) e H := .mk fun w hw =>
 fZ (by simp) hd (fun _ hf => (exec_eqb hf hx hy hB w).1) (h.h w hw)
theorem gO {d t t' : Nat} {x y : Operand} {p q : Bool} {ty : TypeId} {pos : String} {af : Array Edge} (hB : boolB P t = true) (hx : opv e x = some (.bool p)) (hy : opv e y = some (.bool q)) (hd : Nat.blt d n = true)
  (h : QL P ro n F w0 M k ops rest ((d, .bool (!(p == q))) :: e) H) : QL P ro n F w0 M k ops (⟨some d, .binOp .neq t x y t', ty, pos, af, none⟩ :: rest) e H := .mk fun w hw =>
 fZ (by simp) hd (fun _ hf => (exec_eqb hf hx hy hB w).2) (h.h w hw)
end
end Go.Eng

/- The walk of WindPlans. -/
namespace Go.Proofs.YtohlillcaadidaaGreat
open Go Go.Eng

/-- The values of all situations; none if the rules are not right. -/
def valL (r : Rg) (p : Ru) : List Int := if cH r p = 0 then (plcL r p).map (nG r p) else []
theorem valL_len (r : Rg) (p : Ru) : (valL r p).length ≤ 1000000 := by
 unfold valL
 split
 ·rename_i h
  obtain ⟨h1, h2⟩ := (fY r p).1 h
  simpa using kK r p ((bM r).1 h1) h2
 ·simp
theorem rdI_nil (w : World) (hi : Nat) : RdI w 0 hi (.slice none 0 0) [] := RdE.one ⟨rfl, .inl ⟨.inl rfl, rfl⟩⟩ (by simp)
theorem values_u (w : World) (cs : List Value) (r : Rg) (p : Ru) (h : RgC w cs r) (hsm : r.Small) :
  Ca Tryz.prog 23 [.agg cs.toArray, ruV p] w fun v w' => ∃ x : Value × List Ck, (v = .tuple #[x.1, .int .i64 (cH r p)] ∧ ∀ w'', (∀ c ∈ x.2, c.p w'') → RdI w'' 0 w''.heap.size x.1 (valL r p)) ∧ Sat w M0 [un x.2] w' := by
 by_cases hru : cH r p = 0
 ·refine (qK w cs r p h hsm hru).mono fun v w' ⟨x, h1, h3⟩ => ⟨(x, [.ow x 3 1 (plcL r p).length (aZ ((plcL r p).map (nG r p)))]), ⟨by rw [h1, hru], fun w'' hp => ?_⟩, Sat.un1.2 h3⟩
  unfold valL
  rw [if_pos hru]
  exact own_rdI (hp (.ow x 3 1 (plcL r p).length (aZ ((plcL r p).map (nG r p)))) (by simp)) (by simp)
 ·refine (values_no w cs r p h hsm hru).mono fun v w' ⟨h1, h2⟩ => ⟨(.slice none 0 0, []), ⟨h1, fun w'' _ => ?_⟩, Sat.un1.2 ((Sat.nil w M0).keep h2)⟩
  unfold valL
  rw [if_neg hru]
  exact rdI_nil _ _
theorem rvalues_u (w : World) (cs : List Value) (r : Rg) (p : Ru) (h : RgC w cs r) (hsm : r.Small) :
  Ca Tryz.prog 69 [.agg cs.toArray, ruV p] w fun v w' => ∃ x : Value × List Ck, (v = .tuple #[x.1, .int .i64 (cH r p)] ∧ ∀ w'', (∀ c ∈ x.2, c.p w'') → RdI w'' 0 w''.heap.size x.1 (valL r p)) ∧ Sat w M0 [un x.2] w' := by
 by_cases hru : cH r p = 0
 ·refine (rvaluesF_ok w cs r p h hsm hru).mono fun v w' ⟨x, h1, h3⟩ => ⟨(.slice (some ⟨x, 0, none⟩) (plcL r p).length (plcL r p).length, [.pt x (aZ ((plcL r p).map (nG r p))) 3]), ⟨by rw [h1, hru], fun w'' hp => ?_⟩, Sat.un1.2 h3⟩
  unfold valL
  rw [if_pos hru]
  have hb : Blk w'' x (aZ ((plcL r p).map (nG r p))) 3 := hp (.pt x (aZ ((plcL r p).map (nG r p))) 3) (by simp)
  exact RdE.wide (blk_rdI hb (List.length_map _).symm) (Nat.zero_le _) hb.lt
 ·refine (rvaluesF_no w cs r p h hsm hru).mono fun v w' ⟨h1, h2⟩ => ⟨(.slice none 0 0, []), ⟨h1, fun w'' _ => ?_⟩, Sat.un1.2 ((Sat.nil w M0).keep h2)⟩
  unfold valL
  rw [if_neg hru]
  exact rdI_nil _ _

def tM3_5b099f3 : OT := aN [13] (.nil)
def tM3_c1c29ae : OT := aN [12] (tM3_5b099f3)
def iG : OT := aN [6, 10, 11] (tM3_c1c29ae)
def kW : OT := aN [9] (iG)
def kI : OT := aN [8] (iG)
def oO : OT := .alt (aN [8] (kW)) (aN [9] (kI))
def kX : OT := aN [7] (iG)
def oR : OT := .alt (aN [7] (kW)) (aN [9] (kX))
def nT : OT := .alt (aN [7] (kI)) (aN [8] (kX))
def tM3_25c2059 : OT := .alt (aN [7] (oO)) (.alt (aN [8] (oR)) (aN [9] (nT)))
def iL : OT := aN [4, 5] (iG)
def kF : OT := .alt (aN [4, 5] (kW)) (aN [9] (iL))
def kY : OT := .alt (aN [4, 5] (kI)) (aN [8] (iL))
def oA : OT := .alt (aN [4, 5] (oO)) (.alt (aN [8] (kF)) (aN [9] (kY)))
def kD : OT := .alt (aN [4, 5] (kX)) (aN [7] (iL))
def nZ : OT := .alt (aN [4, 5] (oR)) (.alt (aN [7] (kF)) (aN [9] (kD)))
def pG : OT := .alt (aN [4, 5] (nT)) (.alt (aN [7] (kY)) (aN [8] (kD)))
def tM3_bb59fb5 : OT := .alt (aN [4, 5] (tM3_25c2059)) (.alt (aN [7] (oA)) (.alt (aN [8] (nZ)) (aN [9] (pG))))
def iK : OT := aN [2, 3] (iL)
def lD : OT := .alt (aN [2, 3] (kF)) (aN [9] (iK))
def kC : OT := .alt (aN [2, 3] (kY)) (aN [8] (iK))
def oL : OT := .alt (aN [2, 3] (oA)) (.alt (aN [8] (lD)) (aN [9] (kC)))
def kH : OT := .alt (aN [2, 3] (kD)) (aN [7] (iK))
def nY : OT := .alt (aN [2, 3] (nZ)) (.alt (aN [7] (lD)) (aN [9] (kH)))
def pQ : OT := .alt (aN [2, 3] (pG)) (.alt (aN [7] (kC)) (aN [8] (kH)))
def tM3_88b099b : OT := .alt (aN [2, 3] (tM3_bb59fb5)) (.alt (aN [7] (oL)) (.alt (aN [8] (nY)) (aN [9] (pQ))))
def lB : OT := aN [0, 1] (iK)
def nQ : OT := .alt (aN [0, 1] (lD)) (aN [9] (lB))
def oB : OT := .alt (aN [0, 1] (kC)) (aN [8] (lB))
def tM3_f8c691f : OT := .alt (aN [0, 1] (oL)) (.alt (aN [8] (nQ)) (aN [9] (oB)))
def oU : OT := .alt (aN [0, 1] (kH)) (aN [7] (lB))
def tM3_8d3273e : OT := .alt (aN [0, 1] (nY)) (.alt (aN [7] (nQ)) (aN [9] (oU)))
def tM3_d17920e : OT := .alt (aN [0, 1] (pQ)) (.alt (aN [7] (oB)) (aN [8] (oU)))
def tM3_d5ff05e : OT := .alt (aN [0, 1] (tM3_88b099b)) (.alt (aN [7] (tM3_f8c691f)) (.alt (aN [8] (tM3_8d3273e)) (aN [9] (tM3_d17920e))))
set_option maxRecDepth 40000 in
set_option maxHeartbeats 16000000 in
theorem dW (w : World) (l0 h1_ : Nat) (cs : List Value) (r : Rg) (p : Ru) (vv : Value) (vl : List Int) (shot waits state click : Int) (h : RgC w cs r) (hvl : RdI w l0 h1_ vv vl) (hl : r.next.length ≤ maxLen) (n2 : vl.length ≤ maxLen) :
  Ca Tryz.prog 25 [.agg cs.toArray, ruV p, vv, .int .i64 shot, .int .i64 waits, .int .i64 state, .int .i64 click] w fun r w' => r = .bool true ∧ Chg [] w w' := by
 have h0 := h
 obtain ⟨lo, hi, ag, cg, ad, cd, af, cf, an, cn, rfl, hg, hdr, hf, hn⟩ := h
 obtain ⟨va, vc, rfl, _⟩ := RdI.outI hvl
 simp only [maxLen] at n2
 refine dB (Sat.nil w M0) Tryz.func25 Z (by simp [Tryz.ntmps25]) ?_
 (refine aE (aB ?_))
 refine bG Z Z (fun b7 => ?_)
 refine bG Z Z (fun b8 => ?_)
 (refine aA V Z Z (aF (aE (aE (aB ?_)))); refine aI V Z Z Z ?_)
 refine bO (β := Bool) V [] _ M0 Z Z Z Z (Sp.refl _) qS (fun w' hs => long_ca w' _ r (h0.keep hs.chg0) hl) ?_
 rintro b _ ⟨rfl, hsm⟩
 cases b with
 | true =>
  (refine aA V Z Z ?_; (iterate 3 refine bA Z Z Z ?_); refine aA V Z Z (aF (aM Z (aE (aB ?_)))))
  refine aJ (val := .bool true) V Z Z Z Z (fun w hs => ?_) ?_; exact dQ w
  (refine aA V Z Z (aF (aW ?_)))
  refine aX V Z U fun w hs => ?_
  exact ⟨Z, hs.chg0⟩
 | false =>
 replace hsm := hsm rfl
 (refine aA V Z Z (aC Z (aA V Z Z (aC Z (aA V Z Z (aC Z (aA V Z Z (aA V Z Z (aF ?_)))))))))
 refine dD Z (fun hc => ?_) (fun hc => ?_)
 ·(refine aE (aB ?_))
  refine aJ (val := .bool true) V Z Z Z Z (fun w hs => ?_) ?_; exact dQ w
  (refine aA V Z Z (aF (aW ?_)))
  refine aX V Z U fun w hs => ?_
  exact ⟨Z, hs.chg0⟩
 have c3 : vl.length ≤ 1400 := by omega
 clear hc
 (refine aR (aE ?_))
 refine jG (σ := Nat × Nat × Nat × Cp r × Value × Cp r) (fun ⟨b15, b17, b18, x1, x2, x3⟩ => [(2, .slice va vl.length vc), (3, .int .i64 shot), (4, .int .i64 waits), (5, .int .i64 state), (6, .int .i64 click), (7, .pointer (some ⟨b7, 0, none⟩)), (8, .pointer (some ⟨b8, 0, none⟩)), (15, .pointer (some ⟨b15, 0, none⟩)), (17, .pointer (some ⟨b17, 0, none⟩)), (18, .pointer (some ⟨b18, 0, none⟩)), (16, x2)]) (fun ⟨b15, b17, b18, x1, x2, x3⟩ => [un x1.K, .ow x2 3 1 vl.length (aZ vl), un x3.K, .pt b15 [.int .i64 r.radius, .int .i64 r.unit, .int .i64 r.clicks, .int .i64 r.total, .slice x1.a1 r.group.length x1.c1, .slice x1.a2 r.drifts.length x1.c2, .slice x1.a3 r.first.length x1.c3, .slice x1.a4 r.next.length x1.c4] 25, .pt b17 [.int .i64 r.radius, .int .i64 r.unit, .int .i64 r.clicks, .int .i64 r.total, .slice x3.a1 r.group.length x3.c1, .slice x3.a2 r.drifts.length x3.c2, .slice x3.a3 r.first.length x3.c3, .slice x3.a4 r.next.length x3.c4] 34, .pt b18 [.int .i64 p.miss, .int .i64 p.click, .int .i64 p.wait, .int .i64 p.waits] 124, .pt b7 [.int .i64 r.radius, .int .i64 r.unit, .int .i64 r.clicks, .int .i64 r.total, .slice ag r.group.length cg, .slice ad r.drifts.length cd, .slice af r.first.length cf, .slice an r.next.length cn] 25, .pt b8 [.int .i64 p.miss, .int .i64 p.click, .int .i64 p.wait, .int .i64 p.waits] 56]) ?_ (fun K2 hK2 => ?_)
 rotate_left
 ·refine gU (tM3_d5ff05e) _ [] (Sp.refl _) qR qR ?_
  refine bV (σ := Cp r × Value × Cp r × Nat × Nat × Nat × Unit) (.nil) (fun ⟨x1, x2, x3, b15, b17, b18, ()⟩ => [(2, .slice va vl.length vc), (3, .int .i64 shot), (4, .int .i64 waits), (5, .int .i64 state), (6, .int .i64 click), (7, .pointer (some ⟨b7, 0, none⟩)), (8, .pointer (some ⟨b8, 0, none⟩)), (37, .agg #[.int .i64 r.radius, .int .i64 r.unit, .int .i64 r.clicks, .int .i64 r.total, .slice x1.a1 r.group.length x1.c1, .slice x1.a2 r.drifts.length x1.c2, .slice x1.a3 r.first.length x1.c3, .slice x1.a4 r.next.length x1.c4]), (39, x2), (41, .agg #[.int .i64 r.radius, .int .i64 r.unit, .int .i64 r.clicks, .int .i64 r.total, .slice x3.a1 r.group.length x3.c1, .slice x3.a2 r.drifts.length x3.c2, .slice x3.a3 r.first.length x3.c3, .slice x3.a4 r.next.length x3.c4]), (15, .pointer (some ⟨b15, 0, none⟩)), (17, .pointer (some ⟨b17, 0, none⟩)), (18, .pointer (some ⟨b18, 0, none⟩)), (42, .agg #[.int .i64 p.miss, .int .i64 p.click, .int .i64 p.wait, .int .i64 p.waits]), (16, x2)]) (fun ⟨x1, x2, x3, b15, b17, b18, ()⟩ => [un x1.K, .ow x2 3 1 vl.length (aZ vl), un x3.K, .pt b15 [.int .i64 r.radius, .int .i64 r.unit, .int .i64 r.clicks, .int .i64 r.total, .slice x1.a1 r.group.length x1.c1, .slice x1.a2 r.drifts.length x1.c2, .slice x1.a3 r.first.length x1.c3, .slice x1.a4 r.next.length x1.c4] 25, .pt b17 [.int .i64 r.radius, .int .i64 r.unit, .int .i64 r.clicks, .int .i64 r.total, .slice x3.a1 r.group.length x3.c1, .slice x3.a2 r.drifts.length x3.c2, .slice x3.a3 r.first.length x3.c3, .slice x3.a4 r.next.length x3.c4] 34, .pt b18 [.int .i64 p.miss, .int .i64 p.click, .int .i64 p.wait, .int .i64 p.waits] 124]) ?_ (fun hS1_3_5_7_8_9_10_12_13 => ?_)
  ·rintro ⟨x1, x2, x3, b15, b17, b18, _⟩
   exact bZ (hK2 (b15, b17, b18, x1, x2, x3) _ _ ⟨Z, Z, Z, Z, Z, Z, Z, Z, Z, Z, Z, trivial⟩ U)
  refine bV (σ := Cp r × Value × Cp r × Nat × Nat × Nat × Unit) (tM3_5b099f3) (fun ⟨x1, x2, x3, b15, b17, b18, ()⟩ => [(2, .slice va vl.length vc), (3, .int .i64 shot), (4, .int .i64 waits), (5, .int .i64 state), (6, .int .i64 click), (7, .pointer (some ⟨b7, 0, none⟩)), (8, .pointer (some ⟨b8, 0, none⟩)), (37, .agg #[.int .i64 r.radius, .int .i64 r.unit, .int .i64 r.clicks, .int .i64 r.total, .slice x1.a1 r.group.length x1.c1, .slice x1.a2 r.drifts.length x1.c2, .slice x1.a3 r.first.length x1.c3, .slice x1.a4 r.next.length x1.c4]), (39, x2), (41, .agg #[.int .i64 r.radius, .int .i64 r.unit, .int .i64 r.clicks, .int .i64 r.total, .slice x3.a1 r.group.length x3.c1, .slice x3.a2 r.drifts.length x3.c2, .slice x3.a3 r.first.length x3.c3, .slice x3.a4 r.next.length x3.c4]), (15, .pointer (some ⟨b15, 0, none⟩)), (17, .pointer (some ⟨b17, 0, none⟩)), (18, .pointer (some ⟨b18, 0, none⟩)), (42, .agg #[.int .i64 p.miss, .int .i64 p.click, .int .i64 p.wait, .int .i64 p.waits]), (16, x2)]) (fun ⟨x1, x2, x3, b15, b17, b18, ()⟩ => [un x1.K, .ow x2 3 1 vl.length (aZ vl), un x3.K, .pt b15 [.int .i64 r.radius, .int .i64 r.unit, .int .i64 r.clicks, .int .i64 r.total, .slice x1.a1 r.group.length x1.c1, .slice x1.a2 r.drifts.length x1.c2, .slice x1.a3 r.first.length x1.c3, .slice x1.a4 r.next.length x1.c4] 25, .pt b17 [.int .i64 r.radius, .int .i64 r.unit, .int .i64 r.clicks, .int .i64 r.total, .slice x3.a1 r.group.length x3.c1, .slice x3.a2 r.drifts.length x3.c2, .slice x3.a3 r.first.length x3.c3, .slice x3.a4 r.next.length x3.c4] 34, .pt b18 [.int .i64 0, .int .i64 0, .int .i64 0, .int .i64 0] 124]) ?_ (fun hS1_3_5_7_8_9_10_12 => ?_)
  ·rintro ⟨x1, x2, x3, b15, b17, b18, _⟩
   refine aQ J fun K1 hK1 => ?_
   (refine bK V Z Z Z Z Z U Z ?_; refine aK ?_)
   exact hK1 _ _ (hS1_3_5_7_8_9_10_12_13 ⟨x1, x2, x3, b15, b17, b18, ()⟩ _ _ ⟨Z, Z, Z, Z, Z, Z, Z, Z, Z, Z, Z, Z, Z, Z, Z, trivial⟩ U)
  refine bV (σ := Cp r × Value × Cp r × Nat × Nat × Nat × Unit) (tM3_c1c29ae) (fun ⟨x1, x2, x3, b15, b17, b18, ()⟩ => [(2, .slice va vl.length vc), (3, .int .i64 shot), (4, .int .i64 waits), (5, .int .i64 state), (6, .int .i64 click), (7, .pointer (some ⟨b7, 0, none⟩)), (8, .pointer (some ⟨b8, 0, none⟩)), (37, .agg #[.int .i64 r.radius, .int .i64 r.unit, .int .i64 r.clicks, .int .i64 r.total, .slice x1.a1 r.group.length x1.c1, .slice x1.a2 r.drifts.length x1.c2, .slice x1.a3 r.first.length x1.c3, .slice x1.a4 r.next.length x1.c4]), (39, x2), (41, .agg #[.int .i64 r.radius, .int .i64 r.unit, .int .i64 r.clicks, .int .i64 r.total, .slice x3.a1 r.group.length x3.c1, .slice x3.a2 r.drifts.length x3.c2, .slice x3.a3 r.first.length x3.c3, .slice x3.a4 r.next.length x3.c4]), (15, .pointer (some ⟨b15, 0, none⟩)), (17, .pointer (some ⟨b17, 0, none⟩)), (18, .pointer (some ⟨b18, 0, none⟩)), (42, .agg #[.int .i64 p.miss, .int .i64 p.click, .int .i64 p.wait, .int .i64 p.waits]), (16, x2)]) (fun ⟨x1, x2, x3, b15, b17, b18, ()⟩ => [un x1.K, .ow x2 3 1 vl.length (aZ vl), un x3.K, .pt b15 [.int .i64 r.radius, .int .i64 r.unit, .int .i64 r.clicks, .int .i64 r.total, .slice x1.a1 r.group.length x1.c1, .slice x1.a2 r.drifts.length x1.c2, .slice x1.a3 r.first.length x1.c3, .slice x1.a4 r.next.length x1.c4] 25, .pt b17 [.int .i64 0, .int .i64 0, .int .i64 0, .int .i64 0, .slice none 0 0, .slice none 0 0, .slice none 0 0, .slice none 0 0] 34, .pt b18 [.int .i64 0, .int .i64 0, .int .i64 0, .int .i64 0] 124]) ?_ (fun hS1_3_5_7_8_9_10 => ?_)
  ·rintro ⟨x1, x2, x3, b15, b17, b18, _⟩
   refine aQ J fun K1 hK1 => ?_
   (refine bK V Z Z Z Z Z U Z ?_; refine aK ?_)
   exact hK1 _ _ (hS1_3_5_7_8_9_10_12 ⟨x1, x2, x3, b15, b17, b18, ()⟩ _ _ ⟨Z, Z, Z, Z, Z, Z, Z, Z, Z, Z, Z, Z, Z, Z, Z, trivial⟩ U)
  refine bV (σ := Cp r × Value × Cp r × Nat × Nat × Nat × Unit) (iG) (fun ⟨x1, x2, x3, b15, b17, b18, ()⟩ => [(2, .slice va vl.length vc), (3, .int .i64 shot), (4, .int .i64 waits), (5, .int .i64 state), (6, .int .i64 click), (7, .pointer (some ⟨b7, 0, none⟩)), (8, .pointer (some ⟨b8, 0, none⟩)), (37, .agg #[.int .i64 r.radius, .int .i64 r.unit, .int .i64 r.clicks, .int .i64 r.total, .slice x1.a1 r.group.length x1.c1, .slice x1.a2 r.drifts.length x1.c2, .slice x1.a3 r.first.length x1.c3, .slice x1.a4 r.next.length x1.c4]), (39, x2), (41, .agg #[.int .i64 r.radius, .int .i64 r.unit, .int .i64 r.clicks, .int .i64 r.total, .slice x3.a1 r.group.length x3.c1, .slice x3.a2 r.drifts.length x3.c2, .slice x3.a3 r.first.length x3.c3, .slice x3.a4 r.next.length x3.c4]), (15, .pointer (some ⟨b15, 0, none⟩)), (17, .pointer (some ⟨b17, 0, none⟩)), (18, .pointer (some ⟨b18, 0, none⟩))]) (fun ⟨x1, x2, x3, b15, b17, b18, ()⟩ => [un x1.K, .ow x2 3 1 vl.length (aZ vl), un x3.K, .pt b15 [.int .i64 0, .int .i64 0, .int .i64 0, .int .i64 0, .slice none 0 0, .slice none 0 0, .slice none 0 0, .slice none 0 0] 25, .pt b17 [.int .i64 0, .int .i64 0, .int .i64 0, .int .i64 0, .slice none 0 0, .slice none 0 0, .slice none 0 0, .slice none 0 0] 34, .pt b18 [.int .i64 0, .int .i64 0, .int .i64 0, .int .i64 0] 124]) ?_ (fun hS1_3_5_7_8_9 => ?_)
  ·rintro ⟨x1, x2, x3, b15, b17, b18, _⟩
   refine aQ J fun K1 hK1 => ?_
   (refine aO V Z Z Z ?_; refine bK V Z Z Z Z Z U Z ?_; refine aD V Z Z Z (aK ?_))
   exact hK1 _ _ (hS1_3_5_7_8_9_10 ⟨x1, x2, x3, b15, b17, b18, ()⟩ _ _ ⟨Z, Z, Z, Z, Z, Z, Z, Z, Z, Z, Z, Z, Z, Z, Z, trivial⟩ U)
  refine bV (σ := Cp r × Value × Cp r × Nat × Nat × Unit) (kW) (fun ⟨x1, x2, x3, b15, b17, ()⟩ => [(2, .slice va vl.length vc), (3, .int .i64 shot), (4, .int .i64 waits), (5, .int .i64 state), (6, .int .i64 click), (7, .pointer (some ⟨b7, 0, none⟩)), (8, .pointer (some ⟨b8, 0, none⟩)), (37, .agg #[.int .i64 r.radius, .int .i64 r.unit, .int .i64 r.clicks, .int .i64 r.total, .slice x1.a1 r.group.length x1.c1, .slice x1.a2 r.drifts.length x1.c2, .slice x1.a3 r.first.length x1.c3, .slice x1.a4 r.next.length x1.c4]), (39, x2), (41, .agg #[.int .i64 r.radius, .int .i64 r.unit, .int .i64 r.clicks, .int .i64 r.total, .slice x3.a1 r.group.length x3.c1, .slice x3.a2 r.drifts.length x3.c2, .slice x3.a3 r.first.length x3.c3, .slice x3.a4 r.next.length x3.c4]), (15, .pointer (some ⟨b15, 0, none⟩)), (17, .pointer (some ⟨b17, 0, none⟩))]) (fun ⟨x1, x2, x3, b15, b17, ()⟩ => [un x1.K, .ow x2 3 1 vl.length (aZ vl), un x3.K, .pt b15 [.int .i64 0, .int .i64 0, .int .i64 0, .int .i64 0, .slice none 0 0, .slice none 0 0, .slice none 0 0, .slice none 0 0] 25, .pt b17 [.int .i64 0, .int .i64 0, .int .i64 0, .int .i64 0, .slice none 0 0, .slice none 0 0, .slice none 0 0, .slice none 0 0] 34]) ?_ (fun hS1_3_5_7_8 => ?_)
  ·rintro ⟨x1, x2, x3, b15, b17, _⟩
   refine aQ J fun K1 hK1 => ?_
   refine aU fS Z (fun b18 => ?_)
   (refine aK ?_)
   exact hK1 _ _ (hS1_3_5_7_8_9 ⟨x1, x2, x3, b15, b17, b18, ()⟩ _ _ ⟨Z, Z, Z, Z, Z, Z, Z, Z, Z, Z, Z, Z, Z, trivial⟩ U)
  refine bV (σ := Cp r × Value × Cp r × Nat × Nat × Unit) (kI) (fun ⟨x1, x2, x3, b15, b18, ()⟩ => [(2, .slice va vl.length vc), (3, .int .i64 shot), (4, .int .i64 waits), (5, .int .i64 state), (6, .int .i64 click), (7, .pointer (some ⟨b7, 0, none⟩)), (8, .pointer (some ⟨b8, 0, none⟩)), (37, .agg #[.int .i64 r.radius, .int .i64 r.unit, .int .i64 r.clicks, .int .i64 r.total, .slice x1.a1 r.group.length x1.c1, .slice x1.a2 r.drifts.length x1.c2, .slice x1.a3 r.first.length x1.c3, .slice x1.a4 r.next.length x1.c4]), (39, x2), (41, .agg #[.int .i64 r.radius, .int .i64 r.unit, .int .i64 r.clicks, .int .i64 r.total, .slice x3.a1 r.group.length x3.c1, .slice x3.a2 r.drifts.length x3.c2, .slice x3.a3 r.first.length x3.c3, .slice x3.a4 r.next.length x3.c4]), (15, .pointer (some ⟨b15, 0, none⟩)), (18, .pointer (some ⟨b18, 0, none⟩))]) (fun ⟨x1, x2, x3, b15, b18, ()⟩ => [un x1.K, .ow x2 3 1 vl.length (aZ vl), un x3.K, .pt b15 [.int .i64 0, .int .i64 0, .int .i64 0, .int .i64 0, .slice none 0 0, .slice none 0 0, .slice none 0 0, .slice none 0 0] 25, .pt b18 [.int .i64 0, .int .i64 0, .int .i64 0, .int .i64 0] 124]) ?_ (fun hS1_3_5_7_9 => ?_)
  ·rintro ⟨x1, x2, x3, b15, b18, _⟩
   refine aQ J fun K1 hK1 => ?_
   refine aU dV Z (fun b17 => ?_)
   (refine aK ?_)
   exact hK1 _ _ (hS1_3_5_7_8_9 ⟨x1, x2, x3, b15, b17, b18, ()⟩ _ _ ⟨Z, Z, Z, Z, Z, Z, Z, Z, Z, Z, Z, Z, Z, trivial⟩ U)
  refine bV (σ := Cp r × Value × Cp r × Nat × Nat × Unit) (kX) (fun ⟨x1, x2, x3, b17, b18, ()⟩ => [(2, .slice va vl.length vc), (3, .int .i64 shot), (4, .int .i64 waits), (5, .int .i64 state), (6, .int .i64 click), (7, .pointer (some ⟨b7, 0, none⟩)), (8, .pointer (some ⟨b8, 0, none⟩)), (37, .agg #[.int .i64 r.radius, .int .i64 r.unit, .int .i64 r.clicks, .int .i64 r.total, .slice x1.a1 r.group.length x1.c1, .slice x1.a2 r.drifts.length x1.c2, .slice x1.a3 r.first.length x1.c3, .slice x1.a4 r.next.length x1.c4]), (39, x2), (41, .agg #[.int .i64 r.radius, .int .i64 r.unit, .int .i64 r.clicks, .int .i64 r.total, .slice x3.a1 r.group.length x3.c1, .slice x3.a2 r.drifts.length x3.c2, .slice x3.a3 r.first.length x3.c3, .slice x3.a4 r.next.length x3.c4]), (17, .pointer (some ⟨b17, 0, none⟩)), (18, .pointer (some ⟨b18, 0, none⟩))]) (fun ⟨x1, x2, x3, b17, b18, ()⟩ => [un x1.K, .ow x2 3 1 vl.length (aZ vl), un x3.K, .pt b17 [.int .i64 0, .int .i64 0, .int .i64 0, .int .i64 0, .slice none 0 0, .slice none 0 0, .slice none 0 0, .slice none 0 0] 34, .pt b18 [.int .i64 0, .int .i64 0, .int .i64 0, .int .i64 0] 124]) ?_ (fun hS1_3_5_8_9 => ?_)
  ·rintro ⟨x1, x2, x3, b17, b18, _⟩
   refine aQ J fun K1 hK1 => ?_
   refine aU cU Z (fun b15 => ?_)
   (refine aK ?_)
   exact hK1 _ _ (hS1_3_5_7_8_9 ⟨x1, x2, x3, b15, b17, b18, ()⟩ _ _ ⟨Z, Z, Z, Z, Z, Z, Z, Z, Z, Z, Z, Z, Z, trivial⟩ U)
  refine bV (σ := Cp r × Value × Nat × Nat × Nat × Unit) (iL) (fun ⟨x1, x2, b15, b17, b18, ()⟩ => [(2, .slice va vl.length vc), (3, .int .i64 shot), (4, .int .i64 waits), (5, .int .i64 state), (6, .int .i64 click), (7, .pointer (some ⟨b7, 0, none⟩)), (8, .pointer (some ⟨b8, 0, none⟩)), (37, .agg #[.int .i64 r.radius, .int .i64 r.unit, .int .i64 r.clicks, .int .i64 r.total, .slice x1.a1 r.group.length x1.c1, .slice x1.a2 r.drifts.length x1.c2, .slice x1.a3 r.first.length x1.c3, .slice x1.a4 r.next.length x1.c4]), (39, x2), (15, .pointer (some ⟨b15, 0, none⟩)), (17, .pointer (some ⟨b17, 0, none⟩)), (18, .pointer (some ⟨b18, 0, none⟩))]) (fun ⟨x1, x2, b15, b17, b18, ()⟩ => [un x1.K, .ow x2 3 1 vl.length (aZ vl), .pt b15 [.int .i64 0, .int .i64 0, .int .i64 0, .int .i64 0, .slice none 0 0, .slice none 0 0, .slice none 0 0, .slice none 0 0] 25, .pt b17 [.int .i64 0, .int .i64 0, .int .i64 0, .int .i64 0, .slice none 0 0, .slice none 0 0, .slice none 0 0, .slice none 0 0] 34, .pt b18 [.int .i64 0, .int .i64 0, .int .i64 0, .int .i64 0] 124]) ?_ (fun hS1_3_7_8_9 => ?_)
  ·rintro ⟨x1, x2, b15, b17, b18, _⟩
   refine aQ J fun K1 hK1 => ?_
   (refine aO V Z Z Z ?_)
   refine bD (β := Cp r) V [] _ M0 Z Z Z Z (Sp.refl _) qS (fun w' hs => cB w' _ r (h0.keep hs.chg0) hsm) ?_
   rintro x3 _ rfl
   (refine aK ?_)
   exact hK1 _ _ (hS1_3_5_7_8_9 ⟨x1, x2, x3, b15, b17, b18, ()⟩ _ _ ⟨Z, Z, Z, Z, Z, Z, Z, Z, Z, Z, Z, Z, Z, trivial⟩ U)
  refine bV (σ := Cp r × Value × Cp r × Nat × Unit) (oO) (fun ⟨x1, x2, x3, b15, ()⟩ => [(2, .slice va vl.length vc), (3, .int .i64 shot), (4, .int .i64 waits), (5, .int .i64 state), (6, .int .i64 click), (7, .pointer (some ⟨b7, 0, none⟩)), (8, .pointer (some ⟨b8, 0, none⟩)), (37, .agg #[.int .i64 r.radius, .int .i64 r.unit, .int .i64 r.clicks, .int .i64 r.total, .slice x1.a1 r.group.length x1.c1, .slice x1.a2 r.drifts.length x1.c2, .slice x1.a3 r.first.length x1.c3, .slice x1.a4 r.next.length x1.c4]), (39, x2), (41, .agg #[.int .i64 r.radius, .int .i64 r.unit, .int .i64 r.clicks, .int .i64 r.total, .slice x3.a1 r.group.length x3.c1, .slice x3.a2 r.drifts.length x3.c2, .slice x3.a3 r.first.length x3.c3, .slice x3.a4 r.next.length x3.c4]), (15, .pointer (some ⟨b15, 0, none⟩))]) (fun ⟨x1, x2, x3, b15, ()⟩ => [un x1.K, .ow x2 3 1 vl.length (aZ vl), un x3.K, .pt b15 [.int .i64 0, .int .i64 0, .int .i64 0, .int .i64 0, .slice none 0 0, .slice none 0 0, .slice none 0 0, .slice none 0 0] 25]) ?_ (fun hS1_3_5_7 => ?_)
  ·rintro ⟨x1, x2, x3, b15, _⟩
   refine bE ?_ ?_
   ·refine aQ J fun K1 hK1 => ?_
    refine aU dV Z (fun b17 => ?_)
    (refine aK ?_)
    exact hK1 _ _ (hS1_3_5_7_8 ⟨x1, x2, x3, b15, b17, ()⟩ _ _ ⟨Z, Z, Z, Z, Z, Z, Z, Z, Z, Z, Z, Z, trivial⟩ U)
   ·refine aQ J fun K1 hK1 => ?_
    refine aU fS Z (fun b18 => ?_)
    (refine aK ?_)
    exact hK1 _ _ (hS1_3_5_7_9 ⟨x1, x2, x3, b15, b18, ()⟩ _ _ ⟨Z, Z, Z, Z, Z, Z, Z, Z, Z, Z, Z, Z, trivial⟩ U)
  refine bV (σ := Cp r × Value × Cp r × Nat × Unit) (oR) (fun ⟨x1, x2, x3, b17, ()⟩ => [(2, .slice va vl.length vc), (3, .int .i64 shot), (4, .int .i64 waits), (5, .int .i64 state), (6, .int .i64 click), (7, .pointer (some ⟨b7, 0, none⟩)), (8, .pointer (some ⟨b8, 0, none⟩)), (37, .agg #[.int .i64 r.radius, .int .i64 r.unit, .int .i64 r.clicks, .int .i64 r.total, .slice x1.a1 r.group.length x1.c1, .slice x1.a2 r.drifts.length x1.c2, .slice x1.a3 r.first.length x1.c3, .slice x1.a4 r.next.length x1.c4]), (39, x2), (41, .agg #[.int .i64 r.radius, .int .i64 r.unit, .int .i64 r.clicks, .int .i64 r.total, .slice x3.a1 r.group.length x3.c1, .slice x3.a2 r.drifts.length x3.c2, .slice x3.a3 r.first.length x3.c3, .slice x3.a4 r.next.length x3.c4]), (17, .pointer (some ⟨b17, 0, none⟩))]) (fun ⟨x1, x2, x3, b17, ()⟩ => [un x1.K, .ow x2 3 1 vl.length (aZ vl), un x3.K, .pt b17 [.int .i64 0, .int .i64 0, .int .i64 0, .int .i64 0, .slice none 0 0, .slice none 0 0, .slice none 0 0, .slice none 0 0] 34]) ?_ (fun hS1_3_5_8 => ?_)
  ·rintro ⟨x1, x2, x3, b17, _⟩
   refine bE ?_ ?_
   ·refine aQ J fun K1 hK1 => ?_
    refine aU cU Z (fun b15 => ?_)
    (refine aK ?_)
    exact hK1 _ _ (hS1_3_5_7_8 ⟨x1, x2, x3, b15, b17, ()⟩ _ _ ⟨Z, Z, Z, Z, Z, Z, Z, Z, Z, Z, Z, Z, trivial⟩ U)
   ·refine aQ J fun K1 hK1 => ?_
    refine aU fS Z (fun b18 => ?_)
    (refine aK ?_)
    exact hK1 _ _ (hS1_3_5_8_9 ⟨x1, x2, x3, b17, b18, ()⟩ _ _ ⟨Z, Z, Z, Z, Z, Z, Z, Z, Z, Z, Z, Z, trivial⟩ U)
  refine bV (σ := Cp r × Value × Cp r × Nat × Unit) (nT) (fun ⟨x1, x2, x3, b18, ()⟩ => [(2, .slice va vl.length vc), (3, .int .i64 shot), (4, .int .i64 waits), (5, .int .i64 state), (6, .int .i64 click), (7, .pointer (some ⟨b7, 0, none⟩)), (8, .pointer (some ⟨b8, 0, none⟩)), (37, .agg #[.int .i64 r.radius, .int .i64 r.unit, .int .i64 r.clicks, .int .i64 r.total, .slice x1.a1 r.group.length x1.c1, .slice x1.a2 r.drifts.length x1.c2, .slice x1.a3 r.first.length x1.c3, .slice x1.a4 r.next.length x1.c4]), (39, x2), (41, .agg #[.int .i64 r.radius, .int .i64 r.unit, .int .i64 r.clicks, .int .i64 r.total, .slice x3.a1 r.group.length x3.c1, .slice x3.a2 r.drifts.length x3.c2, .slice x3.a3 r.first.length x3.c3, .slice x3.a4 r.next.length x3.c4]), (18, .pointer (some ⟨b18, 0, none⟩))]) (fun ⟨x1, x2, x3, b18, ()⟩ => [un x1.K, .ow x2 3 1 vl.length (aZ vl), un x3.K, .pt b18 [.int .i64 0, .int .i64 0, .int .i64 0, .int .i64 0] 124]) ?_ (fun hS1_3_5_9 => ?_)
  ·rintro ⟨x1, x2, x3, b18, _⟩
   refine bE ?_ ?_
   ·refine aQ J fun K1 hK1 => ?_
    refine aU cU Z (fun b15 => ?_)
    (refine aK ?_)
    exact hK1 _ _ (hS1_3_5_7_9 ⟨x1, x2, x3, b15, b18, ()⟩ _ _ ⟨Z, Z, Z, Z, Z, Z, Z, Z, Z, Z, Z, Z, trivial⟩ U)
   ·refine aQ J fun K1 hK1 => ?_
    refine aU dV Z (fun b17 => ?_)
    (refine aK ?_)
    exact hK1 _ _ (hS1_3_5_8_9 ⟨x1, x2, x3, b17, b18, ()⟩ _ _ ⟨Z, Z, Z, Z, Z, Z, Z, Z, Z, Z, Z, Z, trivial⟩ U)
  refine bV (σ := Cp r × Value × Nat × Nat × Unit) (kF) (fun ⟨x1, x2, b15, b17, ()⟩ => [(2, .slice va vl.length vc), (3, .int .i64 shot), (4, .int .i64 waits), (5, .int .i64 state), (6, .int .i64 click), (7, .pointer (some ⟨b7, 0, none⟩)), (8, .pointer (some ⟨b8, 0, none⟩)), (37, .agg #[.int .i64 r.radius, .int .i64 r.unit, .int .i64 r.clicks, .int .i64 r.total, .slice x1.a1 r.group.length x1.c1, .slice x1.a2 r.drifts.length x1.c2, .slice x1.a3 r.first.length x1.c3, .slice x1.a4 r.next.length x1.c4]), (39, x2), (15, .pointer (some ⟨b15, 0, none⟩)), (17, .pointer (some ⟨b17, 0, none⟩))]) (fun ⟨x1, x2, b15, b17, ()⟩ => [un x1.K, .ow x2 3 1 vl.length (aZ vl), .pt b15 [.int .i64 0, .int .i64 0, .int .i64 0, .int .i64 0, .slice none 0 0, .slice none 0 0, .slice none 0 0, .slice none 0 0] 25, .pt b17 [.int .i64 0, .int .i64 0, .int .i64 0, .int .i64 0, .slice none 0 0, .slice none 0 0, .slice none 0 0, .slice none 0 0] 34]) ?_ (fun hS1_3_7_8 => ?_)
  ·rintro ⟨x1, x2, b15, b17, _⟩
   refine bE ?_ ?_
   ·refine aQ J fun K1 hK1 => ?_
    (refine aO V Z Z Z ?_)
    refine bD (β := Cp r) V [] _ M0 Z Z Z Z (Sp.refl _) qS (fun w' hs => cB w' _ r (h0.keep hs.chg0) hsm) ?_
    rintro x3 _ rfl
    (refine aK ?_)
    exact hK1 _ _ (hS1_3_5_7_8 ⟨x1, x2, x3, b15, b17, ()⟩ _ _ ⟨Z, Z, Z, Z, Z, Z, Z, Z, Z, Z, Z, Z, trivial⟩ U)
   ·refine aQ J fun K1 hK1 => ?_
    refine aU fS Z (fun b18 => ?_)
    (refine aK ?_)
    exact hK1 _ _ (hS1_3_7_8_9 ⟨x1, x2, b15, b17, b18, ()⟩ _ _ ⟨Z, Z, Z, Z, Z, Z, Z, Z, Z, Z, Z, Z, trivial⟩ U)
  refine bV (σ := Cp r × Value × Nat × Nat × Unit) (kY) (fun ⟨x1, x2, b15, b18, ()⟩ => [(2, .slice va vl.length vc), (3, .int .i64 shot), (4, .int .i64 waits), (5, .int .i64 state), (6, .int .i64 click), (7, .pointer (some ⟨b7, 0, none⟩)), (8, .pointer (some ⟨b8, 0, none⟩)), (37, .agg #[.int .i64 r.radius, .int .i64 r.unit, .int .i64 r.clicks, .int .i64 r.total, .slice x1.a1 r.group.length x1.c1, .slice x1.a2 r.drifts.length x1.c2, .slice x1.a3 r.first.length x1.c3, .slice x1.a4 r.next.length x1.c4]), (39, x2), (15, .pointer (some ⟨b15, 0, none⟩)), (18, .pointer (some ⟨b18, 0, none⟩))]) (fun ⟨x1, x2, b15, b18, ()⟩ => [un x1.K, .ow x2 3 1 vl.length (aZ vl), .pt b15 [.int .i64 0, .int .i64 0, .int .i64 0, .int .i64 0, .slice none 0 0, .slice none 0 0, .slice none 0 0, .slice none 0 0] 25, .pt b18 [.int .i64 0, .int .i64 0, .int .i64 0, .int .i64 0] 124]) ?_ (fun hS1_3_7_9 => ?_)
  ·rintro ⟨x1, x2, b15, b18, _⟩
   refine bE ?_ ?_
   ·refine aQ J fun K1 hK1 => ?_
    (refine aO V Z Z Z ?_)
    refine bD (β := Cp r) V [] _ M0 Z Z Z Z (Sp.refl _) qS (fun w' hs => cB w' _ r (h0.keep hs.chg0) hsm) ?_
    rintro x3 _ rfl
    (refine aK ?_)
    exact hK1 _ _ (hS1_3_5_7_9 ⟨x1, x2, x3, b15, b18, ()⟩ _ _ ⟨Z, Z, Z, Z, Z, Z, Z, Z, Z, Z, Z, Z, trivial⟩ U)
   ·refine aQ J fun K1 hK1 => ?_
    refine aU dV Z (fun b17 => ?_)
    (refine aK ?_)
    exact hK1 _ _ (hS1_3_7_8_9 ⟨x1, x2, b15, b17, b18, ()⟩ _ _ ⟨Z, Z, Z, Z, Z, Z, Z, Z, Z, Z, Z, Z, trivial⟩ U)
  refine bV (σ := Cp r × Value × Nat × Nat × Unit) (kD) (fun ⟨x1, x2, b17, b18, ()⟩ => [(2, .slice va vl.length vc), (3, .int .i64 shot), (4, .int .i64 waits), (5, .int .i64 state), (6, .int .i64 click), (7, .pointer (some ⟨b7, 0, none⟩)), (8, .pointer (some ⟨b8, 0, none⟩)), (37, .agg #[.int .i64 r.radius, .int .i64 r.unit, .int .i64 r.clicks, .int .i64 r.total, .slice x1.a1 r.group.length x1.c1, .slice x1.a2 r.drifts.length x1.c2, .slice x1.a3 r.first.length x1.c3, .slice x1.a4 r.next.length x1.c4]), (39, x2), (17, .pointer (some ⟨b17, 0, none⟩)), (18, .pointer (some ⟨b18, 0, none⟩))]) (fun ⟨x1, x2, b17, b18, ()⟩ => [un x1.K, .ow x2 3 1 vl.length (aZ vl), .pt b17 [.int .i64 0, .int .i64 0, .int .i64 0, .int .i64 0, .slice none 0 0, .slice none 0 0, .slice none 0 0, .slice none 0 0] 34, .pt b18 [.int .i64 0, .int .i64 0, .int .i64 0, .int .i64 0] 124]) ?_ (fun hS1_3_8_9 => ?_)
  ·rintro ⟨x1, x2, b17, b18, _⟩
   refine bE ?_ ?_
   ·refine aQ J fun K1 hK1 => ?_
    (refine aO V Z Z Z ?_)
    refine bD (β := Cp r) V [] _ M0 Z Z Z Z (Sp.refl _) qS (fun w' hs => cB w' _ r (h0.keep hs.chg0) hsm) ?_
    rintro x3 _ rfl
    (refine aK ?_)
    exact hK1 _ _ (hS1_3_5_8_9 ⟨x1, x2, x3, b17, b18, ()⟩ _ _ ⟨Z, Z, Z, Z, Z, Z, Z, Z, Z, Z, Z, Z, trivial⟩ U)
   ·refine aQ J fun K1 hK1 => ?_
    refine aU cU Z (fun b15 => ?_)
    (refine aK ?_)
    exact hK1 _ _ (hS1_3_7_8_9 ⟨x1, x2, b15, b17, b18, ()⟩ _ _ ⟨Z, Z, Z, Z, Z, Z, Z, Z, Z, Z, Z, Z, trivial⟩ U)
  refine bV (σ := Cp r × Nat × Nat × Nat × Unit) (iK) (fun ⟨x1, b15, b17, b18, ()⟩ => [(2, .slice va vl.length vc), (3, .int .i64 shot), (4, .int .i64 waits), (5, .int .i64 state), (6, .int .i64 click), (7, .pointer (some ⟨b7, 0, none⟩)), (8, .pointer (some ⟨b8, 0, none⟩)), (37, .agg #[.int .i64 r.radius, .int .i64 r.unit, .int .i64 r.clicks, .int .i64 r.total, .slice x1.a1 r.group.length x1.c1, .slice x1.a2 r.drifts.length x1.c2, .slice x1.a3 r.first.length x1.c3, .slice x1.a4 r.next.length x1.c4]), (15, .pointer (some ⟨b15, 0, none⟩)), (17, .pointer (some ⟨b17, 0, none⟩)), (18, .pointer (some ⟨b18, 0, none⟩))]) (fun ⟨x1, b15, b17, b18, ()⟩ => [un x1.K, .pt b15 [.int .i64 0, .int .i64 0, .int .i64 0, .int .i64 0, .slice none 0 0, .slice none 0 0, .slice none 0 0, .slice none 0 0] 25, .pt b17 [.int .i64 0, .int .i64 0, .int .i64 0, .int .i64 0, .slice none 0 0, .slice none 0 0, .slice none 0 0, .slice none 0 0] 34, .pt b18 [.int .i64 0, .int .i64 0, .int .i64 0, .int .i64 0] 124]) ?_ (fun hS1_7_8_9 => ?_)
  ·rintro ⟨x1, b15, b17, b18, _⟩
   refine aQ J fun K1 hK1 => ?_
   (refine aD V Z Z Z ?_)
   refine bD (β := Value) (L' := fun x => [.ow x 3 1 vl.length (aZ vl)]) V [] _ M0 Z Z Z Z (Sp.refl _) qS (fun w' hs => dK w' _ _ _ vl (RdE.keep hvl hs.chg0) O) ?_
   rintro _ x2 rfl
   (refine aK ?_)
   exact hK1 _ _ (hS1_3_7_8_9 ⟨x1, x2, b15, b17, b18, ()⟩ _ _ ⟨Z, Z, Z, Z, Z, Z, Z, Z, Z, Z, Z, Z, trivial⟩ U)
  refine bV (σ := Cp r × Value × Cp r × Unit) (tM3_25c2059) (fun ⟨x1, x2, x3, ()⟩ => [(2, .slice va vl.length vc), (3, .int .i64 shot), (4, .int .i64 waits), (5, .int .i64 state), (6, .int .i64 click), (7, .pointer (some ⟨b7, 0, none⟩)), (8, .pointer (some ⟨b8, 0, none⟩)), (37, .agg #[.int .i64 r.radius, .int .i64 r.unit, .int .i64 r.clicks, .int .i64 r.total, .slice x1.a1 r.group.length x1.c1, .slice x1.a2 r.drifts.length x1.c2, .slice x1.a3 r.first.length x1.c3, .slice x1.a4 r.next.length x1.c4]), (39, x2), (41, .agg #[.int .i64 r.radius, .int .i64 r.unit, .int .i64 r.clicks, .int .i64 r.total, .slice x3.a1 r.group.length x3.c1, .slice x3.a2 r.drifts.length x3.c2, .slice x3.a3 r.first.length x3.c3, .slice x3.a4 r.next.length x3.c4])]) (fun ⟨x1, x2, x3, ()⟩ => [un x1.K, .ow x2 3 1 vl.length (aZ vl), un x3.K]) ?_ (fun hS1_3_5 => ?_)
  ·rintro ⟨x1, x2, x3, _⟩
   refine bE ?_ (bE ?_ ?_)
   ·refine aQ J fun K1 hK1 => ?_
    refine aU cU Z (fun b15 => ?_)
    (refine aK ?_)
    exact hK1 _ _ (hS1_3_5_7 ⟨x1, x2, x3, b15, ()⟩ _ _ ⟨Z, Z, Z, Z, Z, Z, Z, Z, Z, Z, Z, trivial⟩ U)
   ·refine aQ J fun K1 hK1 => ?_
    refine aU dV Z (fun b17 => ?_)
    (refine aK ?_)
    exact hK1 _ _ (hS1_3_5_8 ⟨x1, x2, x3, b17, ()⟩ _ _ ⟨Z, Z, Z, Z, Z, Z, Z, Z, Z, Z, Z, trivial⟩ U)
   ·refine aQ J fun K1 hK1 => ?_
    refine aU fS Z (fun b18 => ?_)
    (refine aK ?_)
    exact hK1 _ _ (hS1_3_5_9 ⟨x1, x2, x3, b18, ()⟩ _ _ ⟨Z, Z, Z, Z, Z, Z, Z, Z, Z, Z, Z, trivial⟩ U)
  refine bV (σ := Cp r × Value × Nat × Unit) (oA) (fun ⟨x1, x2, b15, ()⟩ => [(2, .slice va vl.length vc), (3, .int .i64 shot), (4, .int .i64 waits), (5, .int .i64 state), (6, .int .i64 click), (7, .pointer (some ⟨b7, 0, none⟩)), (8, .pointer (some ⟨b8, 0, none⟩)), (37, .agg #[.int .i64 r.radius, .int .i64 r.unit, .int .i64 r.clicks, .int .i64 r.total, .slice x1.a1 r.group.length x1.c1, .slice x1.a2 r.drifts.length x1.c2, .slice x1.a3 r.first.length x1.c3, .slice x1.a4 r.next.length x1.c4]), (39, x2), (15, .pointer (some ⟨b15, 0, none⟩))]) (fun ⟨x1, x2, b15, ()⟩ => [un x1.K, .ow x2 3 1 vl.length (aZ vl), .pt b15 [.int .i64 0, .int .i64 0, .int .i64 0, .int .i64 0, .slice none 0 0, .slice none 0 0, .slice none 0 0, .slice none 0 0] 25]) ?_ (fun hS1_3_7 => ?_)
  ·rintro ⟨x1, x2, b15, _⟩
   refine bE ?_ (bE ?_ ?_)
   ·refine aQ J fun K1 hK1 => ?_
    (refine aO V Z Z Z ?_)
    refine bD (β := Cp r) V [] _ M0 Z Z Z Z (Sp.refl _) qS (fun w' hs => cB w' _ r (h0.keep hs.chg0) hsm) ?_
    rintro x3 _ rfl
    (refine aK ?_)
    exact hK1 _ _ (hS1_3_5_7 ⟨x1, x2, x3, b15, ()⟩ _ _ ⟨Z, Z, Z, Z, Z, Z, Z, Z, Z, Z, Z, trivial⟩ U)
   ·refine aQ J fun K1 hK1 => ?_
    refine aU dV Z (fun b17 => ?_)
    (refine aK ?_)
    exact hK1 _ _ (hS1_3_7_8 ⟨x1, x2, b15, b17, ()⟩ _ _ ⟨Z, Z, Z, Z, Z, Z, Z, Z, Z, Z, Z, trivial⟩ U)
   ·refine aQ J fun K1 hK1 => ?_
    refine aU fS Z (fun b18 => ?_)
    (refine aK ?_)
    exact hK1 _ _ (hS1_3_7_9 ⟨x1, x2, b15, b18, ()⟩ _ _ ⟨Z, Z, Z, Z, Z, Z, Z, Z, Z, Z, Z, trivial⟩ U)
  refine bV (σ := Cp r × Value × Nat × Unit) (nZ) (fun ⟨x1, x2, b17, ()⟩ => [(2, .slice va vl.length vc), (3, .int .i64 shot), (4, .int .i64 waits), (5, .int .i64 state), (6, .int .i64 click), (7, .pointer (some ⟨b7, 0, none⟩)), (8, .pointer (some ⟨b8, 0, none⟩)), (37, .agg #[.int .i64 r.radius, .int .i64 r.unit, .int .i64 r.clicks, .int .i64 r.total, .slice x1.a1 r.group.length x1.c1, .slice x1.a2 r.drifts.length x1.c2, .slice x1.a3 r.first.length x1.c3, .slice x1.a4 r.next.length x1.c4]), (39, x2), (17, .pointer (some ⟨b17, 0, none⟩))]) (fun ⟨x1, x2, b17, ()⟩ => [un x1.K, .ow x2 3 1 vl.length (aZ vl), .pt b17 [.int .i64 0, .int .i64 0, .int .i64 0, .int .i64 0, .slice none 0 0, .slice none 0 0, .slice none 0 0, .slice none 0 0] 34]) ?_ (fun hS1_3_8 => ?_)
  ·rintro ⟨x1, x2, b17, _⟩
   refine bE ?_ (bE ?_ ?_)
   ·refine aQ J fun K1 hK1 => ?_
    (refine aO V Z Z Z ?_)
    refine bD (β := Cp r) V [] _ M0 Z Z Z Z (Sp.refl _) qS (fun w' hs => cB w' _ r (h0.keep hs.chg0) hsm) ?_
    rintro x3 _ rfl
    (refine aK ?_)
    exact hK1 _ _ (hS1_3_5_8 ⟨x1, x2, x3, b17, ()⟩ _ _ ⟨Z, Z, Z, Z, Z, Z, Z, Z, Z, Z, Z, trivial⟩ U)
   ·refine aQ J fun K1 hK1 => ?_
    refine aU cU Z (fun b15 => ?_)
    (refine aK ?_)
    exact hK1 _ _ (hS1_3_7_8 ⟨x1, x2, b15, b17, ()⟩ _ _ ⟨Z, Z, Z, Z, Z, Z, Z, Z, Z, Z, Z, trivial⟩ U)
   ·refine aQ J fun K1 hK1 => ?_
    refine aU fS Z (fun b18 => ?_)
    (refine aK ?_)
    exact hK1 _ _ (hS1_3_8_9 ⟨x1, x2, b17, b18, ()⟩ _ _ ⟨Z, Z, Z, Z, Z, Z, Z, Z, Z, Z, Z, trivial⟩ U)
  refine bV (σ := Cp r × Value × Nat × Unit) (pG) (fun ⟨x1, x2, b18, ()⟩ => [(2, .slice va vl.length vc), (3, .int .i64 shot), (4, .int .i64 waits), (5, .int .i64 state), (6, .int .i64 click), (7, .pointer (some ⟨b7, 0, none⟩)), (8, .pointer (some ⟨b8, 0, none⟩)), (37, .agg #[.int .i64 r.radius, .int .i64 r.unit, .int .i64 r.clicks, .int .i64 r.total, .slice x1.a1 r.group.length x1.c1, .slice x1.a2 r.drifts.length x1.c2, .slice x1.a3 r.first.length x1.c3, .slice x1.a4 r.next.length x1.c4]), (39, x2), (18, .pointer (some ⟨b18, 0, none⟩))]) (fun ⟨x1, x2, b18, ()⟩ => [un x1.K, .ow x2 3 1 vl.length (aZ vl), .pt b18 [.int .i64 0, .int .i64 0, .int .i64 0, .int .i64 0] 124]) ?_ (fun hS1_3_9 => ?_)
  ·rintro ⟨x1, x2, b18, _⟩
   refine bE ?_ (bE ?_ ?_)
   ·refine aQ J fun K1 hK1 => ?_
    (refine aO V Z Z Z ?_)
    refine bD (β := Cp r) V [] _ M0 Z Z Z Z (Sp.refl _) qS (fun w' hs => cB w' _ r (h0.keep hs.chg0) hsm) ?_
    rintro x3 _ rfl
    (refine aK ?_)
    exact hK1 _ _ (hS1_3_5_9 ⟨x1, x2, x3, b18, ()⟩ _ _ ⟨Z, Z, Z, Z, Z, Z, Z, Z, Z, Z, Z, trivial⟩ U)
   ·refine aQ J fun K1 hK1 => ?_
    refine aU cU Z (fun b15 => ?_)
    (refine aK ?_)
    exact hK1 _ _ (hS1_3_7_9 ⟨x1, x2, b15, b18, ()⟩ _ _ ⟨Z, Z, Z, Z, Z, Z, Z, Z, Z, Z, Z, trivial⟩ U)
   ·refine aQ J fun K1 hK1 => ?_
    refine aU dV Z (fun b17 => ?_)
    (refine aK ?_)
    exact hK1 _ _ (hS1_3_8_9 ⟨x1, x2, b17, b18, ()⟩ _ _ ⟨Z, Z, Z, Z, Z, Z, Z, Z, Z, Z, Z, trivial⟩ U)
  refine bV (σ := Cp r × Nat × Nat × Unit) (lD) (fun ⟨x1, b15, b17, ()⟩ => [(2, .slice va vl.length vc), (3, .int .i64 shot), (4, .int .i64 waits), (5, .int .i64 state), (6, .int .i64 click), (7, .pointer (some ⟨b7, 0, none⟩)), (8, .pointer (some ⟨b8, 0, none⟩)), (37, .agg #[.int .i64 r.radius, .int .i64 r.unit, .int .i64 r.clicks, .int .i64 r.total, .slice x1.a1 r.group.length x1.c1, .slice x1.a2 r.drifts.length x1.c2, .slice x1.a3 r.first.length x1.c3, .slice x1.a4 r.next.length x1.c4]), (15, .pointer (some ⟨b15, 0, none⟩)), (17, .pointer (some ⟨b17, 0, none⟩))]) (fun ⟨x1, b15, b17, ()⟩ => [un x1.K, .pt b15 [.int .i64 0, .int .i64 0, .int .i64 0, .int .i64 0, .slice none 0 0, .slice none 0 0, .slice none 0 0, .slice none 0 0] 25, .pt b17 [.int .i64 0, .int .i64 0, .int .i64 0, .int .i64 0, .slice none 0 0, .slice none 0 0, .slice none 0 0, .slice none 0 0] 34]) ?_ (fun hS1_7_8 => ?_)
  ·rintro ⟨x1, b15, b17, _⟩
   refine bE ?_ ?_
   ·refine aQ J fun K1 hK1 => ?_
    (refine aD V Z Z Z ?_)
    refine bD (β := Value) (L' := fun x => [.ow x 3 1 vl.length (aZ vl)]) V [] _ M0 Z Z Z Z (Sp.refl _) qS (fun w' hs => dK w' _ _ _ vl (RdE.keep hvl hs.chg0) O) ?_
    rintro _ x2 rfl
    (refine aK ?_)
    exact hK1 _ _ (hS1_3_7_8 ⟨x1, x2, b15, b17, ()⟩ _ _ ⟨Z, Z, Z, Z, Z, Z, Z, Z, Z, Z, Z, trivial⟩ U)
   ·refine aQ J fun K1 hK1 => ?_
    refine aU fS Z (fun b18 => ?_)
    (refine aK ?_)
    exact hK1 _ _ (hS1_7_8_9 ⟨x1, b15, b17, b18, ()⟩ _ _ ⟨Z, Z, Z, Z, Z, Z, Z, Z, Z, Z, Z, trivial⟩ U)
  refine bV (σ := Cp r × Nat × Nat × Unit) (kC) (fun ⟨x1, b15, b18, ()⟩ => [(2, .slice va vl.length vc), (3, .int .i64 shot), (4, .int .i64 waits), (5, .int .i64 state), (6, .int .i64 click), (7, .pointer (some ⟨b7, 0, none⟩)), (8, .pointer (some ⟨b8, 0, none⟩)), (37, .agg #[.int .i64 r.radius, .int .i64 r.unit, .int .i64 r.clicks, .int .i64 r.total, .slice x1.a1 r.group.length x1.c1, .slice x1.a2 r.drifts.length x1.c2, .slice x1.a3 r.first.length x1.c3, .slice x1.a4 r.next.length x1.c4]), (15, .pointer (some ⟨b15, 0, none⟩)), (18, .pointer (some ⟨b18, 0, none⟩))]) (fun ⟨x1, b15, b18, ()⟩ => [un x1.K, .pt b15 [.int .i64 0, .int .i64 0, .int .i64 0, .int .i64 0, .slice none 0 0, .slice none 0 0, .slice none 0 0, .slice none 0 0] 25, .pt b18 [.int .i64 0, .int .i64 0, .int .i64 0, .int .i64 0] 124]) ?_ (fun hS1_7_9 => ?_)
  ·rintro ⟨x1, b15, b18, _⟩
   refine bE ?_ ?_
   ·refine aQ J fun K1 hK1 => ?_
    (refine aD V Z Z Z ?_)
    refine bD (β := Value) (L' := fun x => [.ow x 3 1 vl.length (aZ vl)]) V [] _ M0 Z Z Z Z (Sp.refl _) qS (fun w' hs => dK w' _ _ _ vl (RdE.keep hvl hs.chg0) O) ?_
    rintro _ x2 rfl
    (refine aK ?_)
    exact hK1 _ _ (hS1_3_7_9 ⟨x1, x2, b15, b18, ()⟩ _ _ ⟨Z, Z, Z, Z, Z, Z, Z, Z, Z, Z, Z, trivial⟩ U)
   ·refine aQ J fun K1 hK1 => ?_
    refine aU dV Z (fun b17 => ?_)
    (refine aK ?_)
    exact hK1 _ _ (hS1_7_8_9 ⟨x1, b15, b17, b18, ()⟩ _ _ ⟨Z, Z, Z, Z, Z, Z, Z, Z, Z, Z, Z, trivial⟩ U)
  refine bV (σ := Cp r × Nat × Nat × Unit) (kH) (fun ⟨x1, b17, b18, ()⟩ => [(2, .slice va vl.length vc), (3, .int .i64 shot), (4, .int .i64 waits), (5, .int .i64 state), (6, .int .i64 click), (7, .pointer (some ⟨b7, 0, none⟩)), (8, .pointer (some ⟨b8, 0, none⟩)), (37, .agg #[.int .i64 r.radius, .int .i64 r.unit, .int .i64 r.clicks, .int .i64 r.total, .slice x1.a1 r.group.length x1.c1, .slice x1.a2 r.drifts.length x1.c2, .slice x1.a3 r.first.length x1.c3, .slice x1.a4 r.next.length x1.c4]), (17, .pointer (some ⟨b17, 0, none⟩)), (18, .pointer (some ⟨b18, 0, none⟩))]) (fun ⟨x1, b17, b18, ()⟩ => [un x1.K, .pt b17 [.int .i64 0, .int .i64 0, .int .i64 0, .int .i64 0, .slice none 0 0, .slice none 0 0, .slice none 0 0, .slice none 0 0] 34, .pt b18 [.int .i64 0, .int .i64 0, .int .i64 0, .int .i64 0] 124]) ?_ (fun hS1_8_9 => ?_)
  ·rintro ⟨x1, b17, b18, _⟩
   refine bE ?_ ?_
   ·refine aQ J fun K1 hK1 => ?_
    (refine aD V Z Z Z ?_)
    refine bD (β := Value) (L' := fun x => [.ow x 3 1 vl.length (aZ vl)]) V [] _ M0 Z Z Z Z (Sp.refl _) qS (fun w' hs => dK w' _ _ _ vl (RdE.keep hvl hs.chg0) O) ?_
    rintro _ x2 rfl
    (refine aK ?_)
    exact hK1 _ _ (hS1_3_8_9 ⟨x1, x2, b17, b18, ()⟩ _ _ ⟨Z, Z, Z, Z, Z, Z, Z, Z, Z, Z, Z, trivial⟩ U)
   ·refine aQ J fun K1 hK1 => ?_
    refine aU cU Z (fun b15 => ?_)
    (refine aK ?_)
    exact hK1 _ _ (hS1_7_8_9 ⟨x1, b15, b17, b18, ()⟩ _ _ ⟨Z, Z, Z, Z, Z, Z, Z, Z, Z, Z, Z, trivial⟩ U)
  refine bV (σ := Nat × Nat × Nat × Unit) (lB) (fun ⟨b15, b17, b18, ()⟩ => [(2, .slice va vl.length vc), (3, .int .i64 shot), (4, .int .i64 waits), (5, .int .i64 state), (6, .int .i64 click), (7, .pointer (some ⟨b7, 0, none⟩)), (8, .pointer (some ⟨b8, 0, none⟩)), (15, .pointer (some ⟨b15, 0, none⟩)), (17, .pointer (some ⟨b17, 0, none⟩)), (18, .pointer (some ⟨b18, 0, none⟩))]) (fun ⟨b15, b17, b18, ()⟩ => [.pt b15 [.int .i64 0, .int .i64 0, .int .i64 0, .int .i64 0, .slice none 0 0, .slice none 0 0, .slice none 0 0, .slice none 0 0] 25, .pt b17 [.int .i64 0, .int .i64 0, .int .i64 0, .int .i64 0, .slice none 0 0, .slice none 0 0, .slice none 0 0, .slice none 0 0] 34, .pt b18 [.int .i64 0, .int .i64 0, .int .i64 0, .int .i64 0] 124]) ?_ (fun hS7_8_9 => ?_)
  ·rintro ⟨b15, b17, b18, _⟩
   refine aQ J fun K1 hK1 => ?_
   (refine aO V Z Z Z ?_)
   refine bD (β := Cp r) V [] _ M0 Z Z Z Z (Sp.refl _) qS (fun w' hs => cB w' _ r (h0.keep hs.chg0) hsm) ?_
   rintro x1 _ rfl
   (refine aK ?_)
   exact hK1 _ _ (hS1_7_8_9 ⟨x1, b15, b17, b18, ()⟩ _ _ ⟨Z, Z, Z, Z, Z, Z, Z, Z, Z, Z, Z, trivial⟩ U)
  refine bV (σ := Cp r × Value × Unit) (tM3_bb59fb5) (fun ⟨x1, x2, ()⟩ => [(2, .slice va vl.length vc), (3, .int .i64 shot), (4, .int .i64 waits), (5, .int .i64 state), (6, .int .i64 click), (7, .pointer (some ⟨b7, 0, none⟩)), (8, .pointer (some ⟨b8, 0, none⟩)), (37, .agg #[.int .i64 r.radius, .int .i64 r.unit, .int .i64 r.clicks, .int .i64 r.total, .slice x1.a1 r.group.length x1.c1, .slice x1.a2 r.drifts.length x1.c2, .slice x1.a3 r.first.length x1.c3, .slice x1.a4 r.next.length x1.c4]), (39, x2)]) (fun ⟨x1, x2, ()⟩ => [un x1.K, .ow x2 3 1 vl.length (aZ vl)]) ?_ (fun hS1_3 => ?_)
  ·rintro ⟨x1, x2, _⟩
   refine bE ?_ (bE ?_ (bE ?_ ?_))
   ·refine aQ J fun K1 hK1 => ?_
    (refine aO V Z Z Z ?_)
    refine bD (β := Cp r) V [] _ M0 Z Z Z Z (Sp.refl _) qS (fun w' hs => cB w' _ r (h0.keep hs.chg0) hsm) ?_
    rintro x3 _ rfl
    (refine aK ?_)
    exact hK1 _ _ (hS1_3_5 ⟨x1, x2, x3, ()⟩ _ _ ⟨Z, Z, Z, Z, Z, Z, Z, Z, Z, Z, trivial⟩ U)
   ·refine aQ J fun K1 hK1 => ?_
    refine aU cU Z (fun b15 => ?_)
    (refine aK ?_)
    exact hK1 _ _ (hS1_3_7 ⟨x1, x2, b15, ()⟩ _ _ ⟨Z, Z, Z, Z, Z, Z, Z, Z, Z, Z, trivial⟩ U)
   ·refine aQ J fun K1 hK1 => ?_
    refine aU dV Z (fun b17 => ?_)
    (refine aK ?_)
    exact hK1 _ _ (hS1_3_8 ⟨x1, x2, b17, ()⟩ _ _ ⟨Z, Z, Z, Z, Z, Z, Z, Z, Z, Z, trivial⟩ U)
   ·refine aQ J fun K1 hK1 => ?_
    refine aU fS Z (fun b18 => ?_)
    (refine aK ?_)
    exact hK1 _ _ (hS1_3_9 ⟨x1, x2, b18, ()⟩ _ _ ⟨Z, Z, Z, Z, Z, Z, Z, Z, Z, Z, trivial⟩ U)
  refine bV (σ := Cp r × Nat × Unit) (oL) (fun ⟨x1, b15, ()⟩ => [(2, .slice va vl.length vc), (3, .int .i64 shot), (4, .int .i64 waits), (5, .int .i64 state), (6, .int .i64 click), (7, .pointer (some ⟨b7, 0, none⟩)), (8, .pointer (some ⟨b8, 0, none⟩)), (37, .agg #[.int .i64 r.radius, .int .i64 r.unit, .int .i64 r.clicks, .int .i64 r.total, .slice x1.a1 r.group.length x1.c1, .slice x1.a2 r.drifts.length x1.c2, .slice x1.a3 r.first.length x1.c3, .slice x1.a4 r.next.length x1.c4]), (15, .pointer (some ⟨b15, 0, none⟩))]) (fun ⟨x1, b15, ()⟩ => [un x1.K, .pt b15 [.int .i64 0, .int .i64 0, .int .i64 0, .int .i64 0, .slice none 0 0, .slice none 0 0, .slice none 0 0, .slice none 0 0] 25]) ?_ (fun hS1_7 => ?_)
  ·rintro ⟨x1, b15, _⟩
   refine bE ?_ (bE ?_ ?_)
   ·refine aQ J fun K1 hK1 => ?_
    (refine aD V Z Z Z ?_)
    refine bD (β := Value) (L' := fun x => [.ow x 3 1 vl.length (aZ vl)]) V [] _ M0 Z Z Z Z (Sp.refl _) qS (fun w' hs => dK w' _ _ _ vl (RdE.keep hvl hs.chg0) O) ?_
    rintro _ x2 rfl
    (refine aK ?_)
    exact hK1 _ _ (hS1_3_7 ⟨x1, x2, b15, ()⟩ _ _ ⟨Z, Z, Z, Z, Z, Z, Z, Z, Z, Z, trivial⟩ U)
   ·refine aQ J fun K1 hK1 => ?_
    refine aU dV Z (fun b17 => ?_)
    (refine aK ?_)
    exact hK1 _ _ (hS1_7_8 ⟨x1, b15, b17, ()⟩ _ _ ⟨Z, Z, Z, Z, Z, Z, Z, Z, Z, Z, trivial⟩ U)
   ·refine aQ J fun K1 hK1 => ?_
    refine aU fS Z (fun b18 => ?_)
    (refine aK ?_)
    exact hK1 _ _ (hS1_7_9 ⟨x1, b15, b18, ()⟩ _ _ ⟨Z, Z, Z, Z, Z, Z, Z, Z, Z, Z, trivial⟩ U)
  refine bV (σ := Cp r × Nat × Unit) (nY) (fun ⟨x1, b17, ()⟩ => [(2, .slice va vl.length vc), (3, .int .i64 shot), (4, .int .i64 waits), (5, .int .i64 state), (6, .int .i64 click), (7, .pointer (some ⟨b7, 0, none⟩)), (8, .pointer (some ⟨b8, 0, none⟩)), (37, .agg #[.int .i64 r.radius, .int .i64 r.unit, .int .i64 r.clicks, .int .i64 r.total, .slice x1.a1 r.group.length x1.c1, .slice x1.a2 r.drifts.length x1.c2, .slice x1.a3 r.first.length x1.c3, .slice x1.a4 r.next.length x1.c4]), (17, .pointer (some ⟨b17, 0, none⟩))]) (fun ⟨x1, b17, ()⟩ => [un x1.K, .pt b17 [.int .i64 0, .int .i64 0, .int .i64 0, .int .i64 0, .slice none 0 0, .slice none 0 0, .slice none 0 0, .slice none 0 0] 34]) ?_ (fun hS1_8 => ?_)
  ·rintro ⟨x1, b17, _⟩
   refine bE ?_ (bE ?_ ?_)
   ·refine aQ J fun K1 hK1 => ?_
    (refine aD V Z Z Z ?_)
    refine bD (β := Value) (L' := fun x => [.ow x 3 1 vl.length (aZ vl)]) V [] _ M0 Z Z Z Z (Sp.refl _) qS (fun w' hs => dK w' _ _ _ vl (RdE.keep hvl hs.chg0) O) ?_
    rintro _ x2 rfl
    (refine aK ?_)
    exact hK1 _ _ (hS1_3_8 ⟨x1, x2, b17, ()⟩ _ _ ⟨Z, Z, Z, Z, Z, Z, Z, Z, Z, Z, trivial⟩ U)
   ·refine aQ J fun K1 hK1 => ?_
    refine aU cU Z (fun b15 => ?_)
    (refine aK ?_)
    exact hK1 _ _ (hS1_7_8 ⟨x1, b15, b17, ()⟩ _ _ ⟨Z, Z, Z, Z, Z, Z, Z, Z, Z, Z, trivial⟩ U)
   ·refine aQ J fun K1 hK1 => ?_
    refine aU fS Z (fun b18 => ?_)
    (refine aK ?_)
    exact hK1 _ _ (hS1_8_9 ⟨x1, b17, b18, ()⟩ _ _ ⟨Z, Z, Z, Z, Z, Z, Z, Z, Z, Z, trivial⟩ U)
  refine bV (σ := Cp r × Nat × Unit) (pQ) (fun ⟨x1, b18, ()⟩ => [(2, .slice va vl.length vc), (3, .int .i64 shot), (4, .int .i64 waits), (5, .int .i64 state), (6, .int .i64 click), (7, .pointer (some ⟨b7, 0, none⟩)), (8, .pointer (some ⟨b8, 0, none⟩)), (37, .agg #[.int .i64 r.radius, .int .i64 r.unit, .int .i64 r.clicks, .int .i64 r.total, .slice x1.a1 r.group.length x1.c1, .slice x1.a2 r.drifts.length x1.c2, .slice x1.a3 r.first.length x1.c3, .slice x1.a4 r.next.length x1.c4]), (18, .pointer (some ⟨b18, 0, none⟩))]) (fun ⟨x1, b18, ()⟩ => [un x1.K, .pt b18 [.int .i64 0, .int .i64 0, .int .i64 0, .int .i64 0] 124]) ?_ (fun hS1_9 => ?_)
  ·rintro ⟨x1, b18, _⟩
   refine bE ?_ (bE ?_ ?_)
   ·refine aQ J fun K1 hK1 => ?_
    (refine aD V Z Z Z ?_)
    refine bD (β := Value) (L' := fun x => [.ow x 3 1 vl.length (aZ vl)]) V [] _ M0 Z Z Z Z (Sp.refl _) qS (fun w' hs => dK w' _ _ _ vl (RdE.keep hvl hs.chg0) O) ?_
    rintro _ x2 rfl
    (refine aK ?_)
    exact hK1 _ _ (hS1_3_9 ⟨x1, x2, b18, ()⟩ _ _ ⟨Z, Z, Z, Z, Z, Z, Z, Z, Z, Z, trivial⟩ U)
   ·refine aQ J fun K1 hK1 => ?_
    refine aU cU Z (fun b15 => ?_)
    (refine aK ?_)
    exact hK1 _ _ (hS1_7_9 ⟨x1, b15, b18, ()⟩ _ _ ⟨Z, Z, Z, Z, Z, Z, Z, Z, Z, Z, trivial⟩ U)
   ·refine aQ J fun K1 hK1 => ?_
    refine aU dV Z (fun b17 => ?_)
    (refine aK ?_)
    exact hK1 _ _ (hS1_8_9 ⟨x1, b17, b18, ()⟩ _ _ ⟨Z, Z, Z, Z, Z, Z, Z, Z, Z, Z, trivial⟩ U)
  refine bV (σ := Nat × Nat × Unit) (nQ) (fun ⟨b15, b17, ()⟩ => [(2, .slice va vl.length vc), (3, .int .i64 shot), (4, .int .i64 waits), (5, .int .i64 state), (6, .int .i64 click), (7, .pointer (some ⟨b7, 0, none⟩)), (8, .pointer (some ⟨b8, 0, none⟩)), (15, .pointer (some ⟨b15, 0, none⟩)), (17, .pointer (some ⟨b17, 0, none⟩))]) (fun ⟨b15, b17, ()⟩ => [.pt b15 [.int .i64 0, .int .i64 0, .int .i64 0, .int .i64 0, .slice none 0 0, .slice none 0 0, .slice none 0 0, .slice none 0 0] 25, .pt b17 [.int .i64 0, .int .i64 0, .int .i64 0, .int .i64 0, .slice none 0 0, .slice none 0 0, .slice none 0 0, .slice none 0 0] 34]) ?_ (fun hS7_8 => ?_)
  ·rintro ⟨b15, b17, _⟩
   refine bE ?_ ?_
   ·refine aQ J fun K1 hK1 => ?_
    (refine aO V Z Z Z ?_)
    refine bD (β := Cp r) V [] _ M0 Z Z Z Z (Sp.refl _) qS (fun w' hs => cB w' _ r (h0.keep hs.chg0) hsm) ?_
    rintro x1 _ rfl
    (refine aK ?_)
    exact hK1 _ _ (hS1_7_8 ⟨x1, b15, b17, ()⟩ _ _ ⟨Z, Z, Z, Z, Z, Z, Z, Z, Z, Z, trivial⟩ U)
   ·refine aQ J fun K1 hK1 => ?_
    refine aU fS Z (fun b18 => ?_)
    (refine aK ?_)
    exact hK1 _ _ (hS7_8_9 ⟨b15, b17, b18, ()⟩ _ _ ⟨Z, Z, Z, Z, Z, Z, Z, Z, Z, Z, trivial⟩ U)
  refine bV (σ := Nat × Nat × Unit) (oB) (fun ⟨b15, b18, ()⟩ => [(2, .slice va vl.length vc), (3, .int .i64 shot), (4, .int .i64 waits), (5, .int .i64 state), (6, .int .i64 click), (7, .pointer (some ⟨b7, 0, none⟩)), (8, .pointer (some ⟨b8, 0, none⟩)), (15, .pointer (some ⟨b15, 0, none⟩)), (18, .pointer (some ⟨b18, 0, none⟩))]) (fun ⟨b15, b18, ()⟩ => [.pt b15 [.int .i64 0, .int .i64 0, .int .i64 0, .int .i64 0, .slice none 0 0, .slice none 0 0, .slice none 0 0, .slice none 0 0] 25, .pt b18 [.int .i64 0, .int .i64 0, .int .i64 0, .int .i64 0] 124]) ?_ (fun hS7_9 => ?_)
  ·rintro ⟨b15, b18, _⟩
   refine bE ?_ ?_
   ·refine aQ J fun K1 hK1 => ?_
    (refine aO V Z Z Z ?_)
    refine bD (β := Cp r) V [] _ M0 Z Z Z Z (Sp.refl _) qS (fun w' hs => cB w' _ r (h0.keep hs.chg0) hsm) ?_
    rintro x1 _ rfl
    (refine aK ?_)
    exact hK1 _ _ (hS1_7_9 ⟨x1, b15, b18, ()⟩ _ _ ⟨Z, Z, Z, Z, Z, Z, Z, Z, Z, Z, trivial⟩ U)
   ·refine aQ J fun K1 hK1 => ?_
    refine aU dV Z (fun b17 => ?_)
    (refine aK ?_)
    exact hK1 _ _ (hS7_8_9 ⟨b15, b17, b18, ()⟩ _ _ ⟨Z, Z, Z, Z, Z, Z, Z, Z, Z, Z, trivial⟩ U)
  refine bV (σ := Nat × Nat × Unit) (oU) (fun ⟨b17, b18, ()⟩ => [(2, .slice va vl.length vc), (3, .int .i64 shot), (4, .int .i64 waits), (5, .int .i64 state), (6, .int .i64 click), (7, .pointer (some ⟨b7, 0, none⟩)), (8, .pointer (some ⟨b8, 0, none⟩)), (17, .pointer (some ⟨b17, 0, none⟩)), (18, .pointer (some ⟨b18, 0, none⟩))]) (fun ⟨b17, b18, ()⟩ => [.pt b17 [.int .i64 0, .int .i64 0, .int .i64 0, .int .i64 0, .slice none 0 0, .slice none 0 0, .slice none 0 0, .slice none 0 0] 34, .pt b18 [.int .i64 0, .int .i64 0, .int .i64 0, .int .i64 0] 124]) ?_ (fun hS8_9 => ?_)
  ·rintro ⟨b17, b18, _⟩
   refine bE ?_ ?_
   ·refine aQ J fun K1 hK1 => ?_
    (refine aO V Z Z Z ?_)
    refine bD (β := Cp r) V [] _ M0 Z Z Z Z (Sp.refl _) qS (fun w' hs => cB w' _ r (h0.keep hs.chg0) hsm) ?_
    rintro x1 _ rfl
    (refine aK ?_)
    exact hK1 _ _ (hS1_8_9 ⟨x1, b17, b18, ()⟩ _ _ ⟨Z, Z, Z, Z, Z, Z, Z, Z, Z, Z, trivial⟩ U)
   ·refine aQ J fun K1 hK1 => ?_
    refine aU cU Z (fun b15 => ?_)
    (refine aK ?_)
    exact hK1 _ _ (hS7_8_9 ⟨b15, b17, b18, ()⟩ _ _ ⟨Z, Z, Z, Z, Z, Z, Z, Z, Z, Z, trivial⟩ U)
  refine bV (σ := Cp r × Unit) (tM3_88b099b) (fun ⟨x1, ()⟩ => [(2, .slice va vl.length vc), (3, .int .i64 shot), (4, .int .i64 waits), (5, .int .i64 state), (6, .int .i64 click), (7, .pointer (some ⟨b7, 0, none⟩)), (8, .pointer (some ⟨b8, 0, none⟩)), (37, .agg #[.int .i64 r.radius, .int .i64 r.unit, .int .i64 r.clicks, .int .i64 r.total, .slice x1.a1 r.group.length x1.c1, .slice x1.a2 r.drifts.length x1.c2, .slice x1.a3 r.first.length x1.c3, .slice x1.a4 r.next.length x1.c4])]) (fun ⟨x1, ()⟩ => [un x1.K]) ?_ (fun hS1 => ?_)
  ·rintro ⟨x1, _⟩
   refine bE ?_ (bE ?_ (bE ?_ ?_))
   ·refine aQ J fun K1 hK1 => ?_
    (refine aD V Z Z Z ?_)
    refine bD (β := Value) (L' := fun x => [.ow x 3 1 vl.length (aZ vl)]) V [] _ M0 Z Z Z Z (Sp.refl _) qS (fun w' hs => dK w' _ _ _ vl (RdE.keep hvl hs.chg0) O) ?_
    rintro _ x2 rfl
    (refine aK ?_)
    exact hK1 _ _ (hS1_3 ⟨x1, x2, ()⟩ _ _ ⟨Z, Z, Z, Z, Z, Z, Z, Z, Z, trivial⟩ U)
   ·refine aQ J fun K1 hK1 => ?_
    refine aU cU Z (fun b15 => ?_)
    (refine aK ?_)
    exact hK1 _ _ (hS1_7 ⟨x1, b15, ()⟩ _ _ ⟨Z, Z, Z, Z, Z, Z, Z, Z, Z, trivial⟩ U)
   ·refine aQ J fun K1 hK1 => ?_
    refine aU dV Z (fun b17 => ?_)
    (refine aK ?_)
    exact hK1 _ _ (hS1_8 ⟨x1, b17, ()⟩ _ _ ⟨Z, Z, Z, Z, Z, Z, Z, Z, Z, trivial⟩ U)
   ·refine aQ J fun K1 hK1 => ?_
    refine aU fS Z (fun b18 => ?_)
    (refine aK ?_)
    exact hK1 _ _ (hS1_9 ⟨x1, b18, ()⟩ _ _ ⟨Z, Z, Z, Z, Z, Z, Z, Z, Z, trivial⟩ U)
  refine bV (σ := Nat × Unit) (tM3_f8c691f) (fun ⟨b15, ()⟩ => [(2, .slice va vl.length vc), (3, .int .i64 shot), (4, .int .i64 waits), (5, .int .i64 state), (6, .int .i64 click), (7, .pointer (some ⟨b7, 0, none⟩)), (8, .pointer (some ⟨b8, 0, none⟩)), (15, .pointer (some ⟨b15, 0, none⟩))]) (fun ⟨b15, ()⟩ => [.pt b15 [.int .i64 0, .int .i64 0, .int .i64 0, .int .i64 0, .slice none 0 0, .slice none 0 0, .slice none 0 0, .slice none 0 0] 25]) ?_ (fun hS7 => ?_)
  ·rintro ⟨b15, _⟩
   refine bE ?_ (bE ?_ ?_)
   ·refine aQ J fun K1 hK1 => ?_
    (refine aO V Z Z Z ?_)
    refine bD (β := Cp r) V [] _ M0 Z Z Z Z (Sp.refl _) qS (fun w' hs => cB w' _ r (h0.keep hs.chg0) hsm) ?_
    rintro x1 _ rfl
    (refine aK ?_)
    exact hK1 _ _ (hS1_7 ⟨x1, b15, ()⟩ _ _ ⟨Z, Z, Z, Z, Z, Z, Z, Z, Z, trivial⟩ U)
   ·refine aQ J fun K1 hK1 => ?_
    refine aU dV Z (fun b17 => ?_)
    (refine aK ?_)
    exact hK1 _ _ (hS7_8 ⟨b15, b17, ()⟩ _ _ ⟨Z, Z, Z, Z, Z, Z, Z, Z, Z, trivial⟩ U)
   ·refine aQ J fun K1 hK1 => ?_
    refine aU fS Z (fun b18 => ?_)
    (refine aK ?_)
    exact hK1 _ _ (hS7_9 ⟨b15, b18, ()⟩ _ _ ⟨Z, Z, Z, Z, Z, Z, Z, Z, Z, trivial⟩ U)
  refine bV (σ := Nat × Unit) (tM3_8d3273e) (fun ⟨b17, ()⟩ => [(2, .slice va vl.length vc), (3, .int .i64 shot), (4, .int .i64 waits), (5, .int .i64 state), (6, .int .i64 click), (7, .pointer (some ⟨b7, 0, none⟩)), (8, .pointer (some ⟨b8, 0, none⟩)), (17, .pointer (some ⟨b17, 0, none⟩))]) (fun ⟨b17, ()⟩ => [.pt b17 [.int .i64 0, .int .i64 0, .int .i64 0, .int .i64 0, .slice none 0 0, .slice none 0 0, .slice none 0 0, .slice none 0 0] 34]) ?_ (fun hS8 => ?_)
  ·rintro ⟨b17, _⟩
   refine bE ?_ (bE ?_ ?_)
   ·refine aQ J fun K1 hK1 => ?_
    (refine aO V Z Z Z ?_)
    refine bD (β := Cp r) V [] _ M0 Z Z Z Z (Sp.refl _) qS (fun w' hs => cB w' _ r (h0.keep hs.chg0) hsm) ?_
    rintro x1 _ rfl
    (refine aK ?_)
    exact hK1 _ _ (hS1_8 ⟨x1, b17, ()⟩ _ _ ⟨Z, Z, Z, Z, Z, Z, Z, Z, Z, trivial⟩ U)
   ·refine aQ J fun K1 hK1 => ?_
    refine aU cU Z (fun b15 => ?_)
    (refine aK ?_)
    exact hK1 _ _ (hS7_8 ⟨b15, b17, ()⟩ _ _ ⟨Z, Z, Z, Z, Z, Z, Z, Z, Z, trivial⟩ U)
   ·refine aQ J fun K1 hK1 => ?_
    refine aU fS Z (fun b18 => ?_)
    (refine aK ?_)
    exact hK1 _ _ (hS8_9 ⟨b17, b18, ()⟩ _ _ ⟨Z, Z, Z, Z, Z, Z, Z, Z, Z, trivial⟩ U)
  refine bV (σ := Nat × Unit) (tM3_d17920e) (fun ⟨b18, ()⟩ => [(2, .slice va vl.length vc), (3, .int .i64 shot), (4, .int .i64 waits), (5, .int .i64 state), (6, .int .i64 click), (7, .pointer (some ⟨b7, 0, none⟩)), (8, .pointer (some ⟨b8, 0, none⟩)), (18, .pointer (some ⟨b18, 0, none⟩))]) (fun ⟨b18, ()⟩ => [.pt b18 [.int .i64 0, .int .i64 0, .int .i64 0, .int .i64 0] 124]) ?_ (fun hS9 => ?_)
  ·rintro ⟨b18, _⟩
   refine bE ?_ (bE ?_ ?_)
   ·refine aQ J fun K1 hK1 => ?_
    (refine aO V Z Z Z ?_)
    refine bD (β := Cp r) V [] _ M0 Z Z Z Z (Sp.refl _) qS (fun w' hs => cB w' _ r (h0.keep hs.chg0) hsm) ?_
    rintro x1 _ rfl
    (refine aK ?_)
    exact hK1 _ _ (hS1_9 ⟨x1, b18, ()⟩ _ _ ⟨Z, Z, Z, Z, Z, Z, Z, Z, Z, trivial⟩ U)
   ·refine aQ J fun K1 hK1 => ?_
    refine aU cU Z (fun b15 => ?_)
    (refine aK ?_)
    exact hK1 _ _ (hS7_9 ⟨b15, b18, ()⟩ _ _ ⟨Z, Z, Z, Z, Z, Z, Z, Z, Z, trivial⟩ U)
   ·refine aQ J fun K1 hK1 => ?_
    refine aU dV Z (fun b17 => ?_)
    (refine aK ?_)
    exact hK1 _ _ (hS8_9 ⟨b17, b18, ()⟩ _ _ ⟨Z, Z, Z, Z, Z, Z, Z, Z, Z, trivial⟩ U)
  refine bE ?_ (bE ?_ (bE ?_ ?_))
  ·refine aQ J fun K1 hK1 => ?_
   (refine aO V Z Z Z ?_)
   refine bD (β := Cp r) V [] _ M0 Z Z Z Z (Sp.refl _) qS (fun w' hs => cB w' _ r (h0.keep hs.chg0) hsm) ?_
   rintro x1 _ rfl
   (refine aK ?_)
   exact hK1 _ _ (hS1 ⟨x1, ()⟩ _ _ ⟨Z, Z, Z, Z, Z, Z, Z, Z, trivial⟩ U)
  ·refine aQ J fun K1 hK1 => ?_
   refine aU cU Z (fun b15 => ?_)
   (refine aK ?_)
   exact hK1 _ _ (hS7 ⟨b15, ()⟩ _ _ ⟨Z, Z, Z, Z, Z, Z, Z, Z, trivial⟩ U)
  ·refine aQ J fun K1 hK1 => ?_
   refine aU dV Z (fun b17 => ?_)
   (refine aK ?_)
   exact hK1 _ _ (hS8 ⟨b17, ()⟩ _ _ ⟨Z, Z, Z, Z, Z, Z, Z, Z, trivial⟩ U)
  ·refine aQ J fun K1 hK1 => ?_
   refine aU fS Z (fun b18 => ?_)
   (refine aK ?_)
   exact hK1 _ _ (hS9 ⟨b18, ()⟩ _ _ ⟨Z, Z, Z, Z, Z, Z, Z, Z, trivial⟩ U)
 rintro ⟨b15, b17, b18, x1, x2, x3⟩
 dsimp only
 (refine aE (aE ?_))
 refine bX _ [] (Sp.refl _) qR qR ?_
 ((iterate 2 refine aO V Z Z Z ?_))
 refine aS (val := .int .i64 (cH r p)) V Z Z Z Z (fun w hs => ?_) ?_; exact oF w _ r p (Cp.at2 x1 r Z Z Z Z hs U) hsm
 ((iterate 2 refine aO V Z Z Z ?_))
 refine aS (val := .int .i64 (cH r p)) V Z Z Z Z (fun w hs => ?_) ?_; exact jH w _ r p (Cp.at2 x3 r Z Z Z Z hs U) hsm
 (refine qf_neqF V Z Z Z O (aK (aL Z (aR (aE (aB ?_))))); (iterate 2 refine aI V Z Z Z ?_))
 refine bO (β := Value × List Ck) (L' := fun x => [un x.2]) V [] _ M0 Z Z Z Z (Sp.refl _) qS (fun w' hs => values_u w' _ r p (Cp.at2 x1 r Z Z Z Z hs U) hsm) ?_
 rintro ⟨va1, K1⟩ _ ⟨rfl, hva⟩
 dsimp only at hva ⊢
 (refine aA V Z Z (bC V Z Z Z (bC V Z Z Z (aA V Z Z (aA V Z Z (aF (aE (aB ?_))))))); (iterate 2 refine aI V Z Z Z ?_))
 refine bO (β := Value × List Ck) (L' := fun x => [un x.2]) V [] _ M0 Z Z Z Z (Sp.refl _) qS (fun w' hs => rvalues_u w' _ r p (Cp.at2 x3 r Z Z Z Z hs U) hsm) ?_
 rintro ⟨vb, K2⟩ _ ⟨rfl, hvb⟩
 dsimp only at hvb ⊢
 (refine aA V Z Z (bC V Z Z Z (bC V Z Z Z (aA V Z Z (aA V Z Z (aF (aE (aE (aB (aA V Z Z (aA V Z Z (dM V Z Z Z O ?_))))))))))); refine aA V Z Z (aC Z (aA V Z Z (aC Z (aA V Z Z (aC Z ?_))))))
 refine aJ (val := .bool true) V Z Z Z Z (fun w hs => ?_) ?_; exact nN w _ _ _ _ va1 vb (valL r p) (hva w (fun c hc => hs.un_mem (L := K1) U hc)) (hvb w (fun c hc => hs.un_mem (L := K2) U hc)) (valL_len r p)
 (refine aC Z (aA V Z Z (aA V Z Z (aF (aL Z (aR (aE (aB ?_))))))); (iterate 2 refine aI V Z Z Z ?_); refine aA V Z Z ?_)
 refine aJ (val := .tuple #[.agg #[.int .i64 (eM r p vl).1.1, .int .i64 (eM r p vl).1.2], .int .i64 (eM r p vl).2]) V Z Z Z Z (fun w hs => ?_) ?_; exact qL w _ _ _ r p _ vl (Cp.at2 x1 r Z Z Z Z hs U) hsm (hs.rdI (l := vl) (t := 3) (n := vl.length) U Z) O
 (refine aA V Z Z (bC V Z Z Z (bC V Z Z Z ?_)))
 refine aV cO Z (fun b23 => ?_)
 (refine aY V Z Z Z Z Z U Z ?_; refine aA V Z Z (aF (aE (aB ?_))); (iterate 2 refine aI V Z Z Z ?_); refine aA V Z Z ?_)
 refine aJ (val := .tuple #[.agg #[.int .i64 (eM r p vl).1.1, .int .i64 (eM r p vl).1.2], .int .i64 (eM r p vl).2]) V Z Z Z Z (fun w hs => ?_) ?_; exact rproves_ca w _ _ _ r p _ vl (Cp.at2 x3 r Z Z Z Z hs U) hsm (RdE.keep hvl hs.chg0) O
 (refine aA V Z Z (bC V Z Z Z (bC V Z Z Z ?_)))
 refine aV cO Z (fun b24 => ?_)
 (refine aY V Z Z Z Z Z U Z ?_; refine aA V Z Z (aF (aE (aE (aB (aA V Z Z (aA V Z Z (dM V Z Z Z O (aA V Z Z (aC Z ?_))))))))); refine aI V Z Z Z ?_; refine aC Z ?_; refine aI V Z Z Z ?_; refine aC Z ?_)
 refine mL [some .i64, some .i64] eZ Z Z Z Z Z ?_; rw [eO]
 (refine aA V Z Z (aF (aL Z (aR (aE (aB ?_))))); (iterate 2 refine aI V Z Z Z ?_); (iterate 4 refine aA V Z Z ?_))
 refine aJ (val := .tuple #[.agg #[.bool (cZ r p shot waits state click).1.1, .int .i64 (cZ r p shot waits state click).1.2], .int .i64 (cZ r p shot waits state click).2]) V Z Z Z Z (fun w hs => ?_) ?_; exact jU w _ r p shot waits state click (Cp.at2 x1 r Z Z Z Z hs U) hsm
 (refine aA V Z Z (bC V Z Z Z (bC V Z Z Z ?_)))
 refine aV hU Z (fun b25 => ?_)
 (refine aY V Z Z Z Z Z U Z ?_; refine aA V Z Z (aF (aE (aB ?_))); (iterate 2 refine aI V Z Z Z ?_); (iterate 4 refine aA V Z Z ?_))
 refine aJ (val := .tuple #[.bool (cZ r p shot waits state click).1.1, .int .i64 (cZ r p shot waits state click).1.2, .int .i64 (cZ r p shot waits state click).2]) V Z Z Z Z (fun w hs => ?_) ?_; exact rchooseF_ca w _ r p shot waits state click (Cp.at2 x3 r Z Z Z Z hs U) hsm
 (refine aA V Z Z ?_; (iterate 3 refine bC V Z Z Z ?_); (iterate 3 refine aA V Z Z ?_); refine aF (aE (aB (aA V Z Z (aA V Z Z (dG V Z Z Z O (aA V Z Z (aC Z (aA V Z Z (aC Z ?_))))))))); refine aH V Z Z Z ?_; refine aC Z (aA V Z Z (aC Z ?_)))
 refine ql_eqb qR Z Z Z ?_
 rw [beq_self_eq_true]
 (refine aA V Z Z (aA V Z Z (aC Z (aA V Z Z (aC Z ?_)))); refine aH V Z Z Z ?_; refine aC Z (aA V Z Z (aC Z (dG V Z Z Z O (aA V Z Z (aA V Z Z (aC Z ?_)))))); refine aI V Z Z Z ?_; refine aC Z ?_; refine aI V Z Z Z ?_; refine aC Z ?_)
 refine aJ (val := .bool true) V Z Z Z Z (fun w hs => ?_) ?_; exact same_ca w _ _ r (Cp.at2 x1 r Z Z Z Z hs U) (h0.keep hs.chg0) hsm
 (refine aA V Z Z (aA V Z Z (aC Z (aA V Z Z (aC Z (aA V Z Z (aC Z ?_)))))))
 refine aJ (val := .bool true) V Z Z Z Z (fun w hs => ?_) ?_; exact nN w _ _ _ _ _ _ vl (hs.rdI (l := vl) (t := 3) (n := vl.length) U Z) (RdE.keep hvl hs.chg0) O
 (refine aA V Z Z (aA V Z Z (aC Z ?_)))
 refine aJ (val := .bool true) V Z Z Z Z (fun w hs => ?_) ?_; exact dQ w
 (refine aA V Z Z (aA V Z Z (aF (aW ?_))))
 refine aX V Z U fun w hs => ?_
 exact ⟨Z, hs.chg0⟩
end Go.Proofs.YtohlillcaadidaaGreat
