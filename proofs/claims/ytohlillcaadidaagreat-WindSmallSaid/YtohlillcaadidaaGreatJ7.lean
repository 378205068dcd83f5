/- My texts M6, joined: a claim takes at most 60 files. -/
import Derived.Test.YtohlillcaadidaaGreatJ6

/- The walk of WindSmall (seat Great): a closed statement. Printed by gen_M6.py. -/
namespace Go.Proofs.YtohlillcaadidaaGreat
open Go Go.Eng

def smallV : List Int := [-301, -300, -2, -1, 0, 1, 2, 3, 4, 5, 6, 7, 12, 13, 20, 21, 100, 101, 200, 201, 300, 301, 600, 601, 1000, 1001, 6000, 6001, 9223372036854775807, -9223372036854775808]
/-- The range of the first loop: that of example 1, or with other chances of what comes next. -/
def twoT (t : Bool) : Rg := ⟨2, 2, 1, 2, [1, 2, 1], [0, 3], [1, 1], [[cond t 1 2, cond t 1 0], [cond t 1 0, cond t 1 2]]⟩
def ruS : Ru := ⟨240, 20, 30, 1⟩
def wsS : List (Int × Int) := [(0, 3), (0, 3), (0, 3), (0, 3), (0, 3)]
theorem twoT_small (t : Bool) : (twoT t).Small := by cases t <;> exact ⟨by decide, by decide, by decide, by decide, by decide⟩
theorem twoT_rules (t : Bool) : cH (twoT t) ruS = 0 := by cases t <;> decide +kernel
theorem twoT_plc (t : Bool) : (plcL (twoT t) ruS).length = 60 := by cases t <;> decide +kernel
theorem twoT_blown (t : Bool) : cN (twoT t) wsS = 0 := by cases t <;> decide +kernel
theorem cases32 : ∀ k, k < 32 → (k = 0 ∨ k = 1 ∨ k = 2 ∨ k = 3 ∨ k = 4 ∨ k = 5 ∨ k = 6 ∨ k = 7 ∨ k = 8 ∨ k = 9 ∨ k = 10 ∨ k = 11 ∨ k = 12 ∨ k = 13 ∨ k = 14 ∨ k = 15 ∨ k = 16 ∨ k = 17 ∨ k = 18 ∨ k = 19 ∨ k = 20 ∨ k = 21 ∨ k = 22 ∨ k = 23 ∨ k = 24 ∨ k = 25 ∨ k = 26 ∨ k = 27 ∨ k = 28 ∨ k = 29 ∨ k = 30 ∨ k = 31) := by decide
theorem wit_cell {w0 w : World} {M : Nat → Prop} {H : List Ck} {g cp t : Nat} {a b c : Value} (hs : Sat w0 M H w) (hm : Ck.ow (.slice (some ⟨g, 0, none⟩) 3 cp) t 1 3 [a, b, c] ∈ H) : w.cell? ⟨g, 1, none⟩ = some b := own_cell (hs.all _ hm) 1 (by simp)
theorem rg6 {w : World} {q1 q2 q3 q4 g0 g1 g2 d0 d1 f0 f1 n1 n2 n3 n4 : Int} {b1 b2 b3 b4 b5 b6 : Nat} {t1 t2 t3 t4 t5 t6 : TypeId} (h1 : Blk w b1 (aZ [g0, g1, g2]) t1) (h2 : Blk w b2 (aZ [d0, d1]) t2) (h3 : Blk w b3 (aZ [f0, f1]) t3) (h4 : Blk w b4 (aZ [n1, n2]) t4) (h5 : Blk w b5 (aZ [n3, n4]) t5)
  (h6 : Blk w b6 [.slice (some ⟨b4, 0, none⟩) 2 2, .slice (some ⟨b5, 0, none⟩) 2 2] t6) : RgC w [.int .i64 q1, .int .i64 q2, .int .i64 q3, .int .i64 q4, .slice (some ⟨b1, 0, none⟩) 3 3, .slice (some ⟨b2, 0, none⟩) 2 2, .slice (some ⟨b3, 0, none⟩) 2 2, .slice (some ⟨b6, 0, none⟩) 2 2] ⟨q1, q2, q3, q4, [g0, g1, g2], [d0, d1], [f0, f1], [[n1, n2], [n3, n4]]⟩ := by
 refine ⟨0, w.heap.size, _, _, _, _, _, _, _, _, Z, Blk.rdI h1, Blk.rdI h2, Blk.rdI h3, ?_⟩
 refine RdII.of ((Blk.rd h6 Z 2).wide (Nat.zero_le _) h6.lt) Z (fun i hi hi' => ?_) (by simp [dY])
 have : i = 0 ∨ i = 1 := by simp at hi; omega
 rcases this with rfl | rfl
 ·exact Blk.rdI h4
 ·exact Blk.rdI h5
theorem wit_rd {w0 w : World} {M : Nat → Prop} {H : List Ck} {g cp t e0 e1 e2 t0 t1 t2 : Nat} {l0 l1 l2 : List Int} (hs : Sat w0 M H w) (hm : Ck.ow (.slice (some ⟨g, 0, none⟩) 3 cp) t 1 3 [.slice (some ⟨e0, 0, none⟩) 5 5, .slice (some ⟨e1, 0, none⟩) 5 5, .slice (some ⟨e2, 0, none⟩) 5 5] ∈ H)
  (m0 : Ck.pt e0 (aZ l0) t0 ∈ H) (m1 : Ck.pt e1 (aZ l1) t1 ∈ H) (m2 : Ck.pt e2 (aZ l2) t2 ∈ H) (h0 : l0.length = 5) (h1 : l1.length = 5) (h2 : l2.length = 5) : RdII w 0 w.heap.size (.slice (some ⟨g, 0, none⟩) 3 cp) [l0, l1, l2] := by
 refine RdII.of (vs := [.slice (some ⟨e0, 0, none⟩) 5 5, .slice (some ⟨e1, 0, none⟩) 5 5, .slice (some ⟨e2, 0, none⟩) 5 5]) (jB (hs.all _ hm)) Z (fun i hi hi' => ?_) (by simp [dY])
 have : i = 0 ∨ i = 1 ∨ i = 2 := by simp at hi; omega
 rcases this with rfl | rfl | rfl
 ·have := Blk.rdI (c := 5) (hs.blk m0); rw [h0] at this; exact this
 ·have := Blk.rdI (c := 5) (hs.blk m1); rw [h1] at this; exact this
 ·have := Blk.rdI (c := 5) (hs.blk m2); rw [h2] at this; exact this

theorem em (a b : Int) (h : 0 < b) : 0 ≤ a % b ∧ a % b < b := ⟨Int.emod_nonneg _ O, Int.emod_lt_of_pos _ h⟩
theorem values_any (w : World) (cs : List Value) (r : Rg) (p : Ru) (h : RgC w cs r) (hsm : r.Small) : Ca Tryz.prog 23 [.agg cs.toArray, .agg #[.int .i64 p.miss, .int .i64 p.click, .int .i64 p.wait, .int .i64 p.waits]] w fun v w' =>
  ∃ x : Value × List Int × Int, (v = .tuple #[x.1, .int .i64 x.2.2] ∧ x.2.1.length ≤ 1000000) ∧ Sat w M0 [.ow x.1 3 1 x.2.1.length (aZ x.2.1)] w' := by
 by_cases hr : cH r p = 0
 ·refine (qK w cs r p h hsm hr).mono fun v w' ⟨x, hv, hs⟩ => ⟨(x, (plcL r p).map (nG r p), 0), ⟨hv, ?_⟩, ?_⟩
  ·obtain ⟨h1, h2⟩ := (fY r p).1 hr
   rw [List.length_map]
   exact kK r p ((bM r).1 h1) h2
  ·rw [List.length_map]
   exact hs
 ·exact (values_no w cs r p h hsm hr).mono fun v w' ⟨hv, hc⟩ => ⟨(.slice none 0 0, [], cH r p), ⟨hv, by simp⟩, Sat.ownil ((Sat.nil w M0).keep hc) _ _⟩
theorem rows_in {w0 w : World} {M : Nat → Prop} {xs : List (Nat × List Int)} {x m : Nat} {l : List Int} {v : Value} {R : List Ck} (hs : Sat w0 M (.pt x (aZ l) 3 :: un (cW xs) :: .ow v 22 1 m (dZ xs ++ [.slice (some ⟨x, 0, none⟩) l.length l.length]) :: R) w) :
  Sat w0 M (un (cW (xs ++ [(x, l)])) :: .ow v 22 1 m (dZ (xs ++ [(x, l)])) :: R) w := by
 rw [show dZ (xs ++ [(x, l)]) = dZ xs ++ [.slice (some ⟨x, 0, none⟩) l.length l.length] from by simp [dZ], show cW (xs ++ [(x, l)]) = cW xs ++ [.pt x (aZ l) 3] from by simp [cW]]
 exact hs.un_in.un_perm (List.perm_append_singleton _ _).symm
theorem set_bd {l : List Int} {j i : Nat} {x a b : Int} (h : ∀ z ∈ l, a ≤ z ∧ z ≤ b) (hx : a ≤ x ∧ x ≤ b) (hi : i < (l.set j x).length) : a ≤ (l.set j x)[i] ∧ (l.set j x)[i] ≤ b := by
 rcases List.mem_or_eq_of_mem_set (List.getElem_mem hi) with h1 | h1
 ·exact h _ h1
 ·rw [h1]; exact hx
theorem quo_bd (n i : Nat) (c : Int) (h : 0 < c) : 0 ≤ (n : Int) / ((i : Int) + c) ∧ (n : Int) / ((i : Int) + c) ≤ n := ⟨Int.ediv_nonneg O O, Int.ediv_le_self _ O⟩
theorem mO {w : World} {b m c : Nat} {l : List Int} {t : TypeId} (h : Blk w b (aZ l) t) (hm : m ≤ l.length) : RdI w 0 w.heap.size (.slice (some ⟨b, 0, none⟩) m c) (l.take m) := by
 have e : (l.take m).length = m := by simp; omega
 refine RdI.of ⟨by simp [aZ], .inr ⟨b, 0, c, by rw [e], fun _ => ⟨Nat.zero_le _, h.lt, h.lt⟩, fun j hj => ?_⟩⟩
 rw [Blk.cell h]
 simp only [aZ, List.length_map, e] at hj
 simp only [aZ, List.map_take, Nat.zero_add]
 rw [List.getElem?_take]
 simp; omega
theorem ad_to (b c : Nat) : (if c = 0 then some (⟨b, 0, none⟩ : Addr) else (some (⟨b, 0, none⟩ : Addr)).map (·.add 0)) = some ⟨b, 0, none⟩ := by split <;> rfl
theorem wit0 {w : World} {b1 b2 : Nat} {t1 t2 : TypeId} (h1 : Blk w b1 (aZ [0, 0, 0, 0, 0]) t1) (h2 : Blk w b2 [.slice (some ⟨b1, 0, none⟩) 5 5] t2) : RdII w 0 w.heap.size (.slice (some ⟨b2, 0, none⟩) 1 1) [[0, 0, 0, 0, 0]] := by
 refine RdII.of (vs := [.slice (some ⟨b1, 0, none⟩) 5 5]) ((Blk.rd h2 Z 1).wide (Nat.zero_le _) h2.lt) Z (fun i hi hi' => ?_) (by simp [dY])
 have : i = 0 := by simp at hi; omega
 subst this
 exact Blk.rdI h1
def wG (n i : Nat) : List Int := (List.range n).map fun j => if j < i then 1 + (j : Int) % 2 * 3 else 0
theorem wG_set : ∀ n, n < 25 → ∀ i, i < n → (wG n i).set i (1 + (i : Int) % 2 * 3) = wG n (i + 1) := by decide +kernel
theorem wG_len (n i : Nat) : (wG n i).length = n := by simp [wG]
theorem wG_zero (n : Nat) : wG n 0 = List.replicate n 0 := by
 refine List.ext_getElem (by simp [wG]) fun i h1 h2 => ?_
 simp [wG]
def mD (k : Nat) : List Int := (List.range k).map fun (j : Nat) => 7 * (j : Int) - 9
theorem mD_succ (k : Nat) : mD (k + 1) = mD k ++ [7 * (k : Int) - 9] := by simp [mD, List.range_succ]
theorem mD_len (k : Nat) : (mD k).length = k := by simp [mD]
def rowM (m i : Nat) : List Int := ((List.replicate m (0 : Int)).set ((i + 1) % m) 8).set i (((List.replicate m (0 : Int)).set ((i + 1) % m) 8).getD i 0 + 4)
def mN (m s : Nat) : List (List Int) := (List.range m).map fun i => if i < s then rowM m i else List.replicate m 0
def mF (m s : Nat) : List Int := if s = 0 then List.replicate m 0 else (List.replicate m 0).set 0 12
theorem mN_set : ∀ m, m < 8 → ∀ s, s < m → (mN m s).set s (rowM m s) = mN m (s + 1) := by decide +kernel
theorem mF_set : ∀ m, m < 8 → ∀ s, s < m → (mF m s).set 0 12 = mF m (s + 1) := by decide +kernel
theorem mN_len (m s : Nat) : (mN m s).length = m := by simp [mN]
theorem mF_len (m s : Nat) : (mF m s).length = m := by unfold mF; split <;> simp
theorem mN_at {m s : Nat} (h : s < m) : (mN m s).getD s [] = List.replicate m 0 := by simp [mN, h]
def eK (n : Nat) : Rg := ⟨2, 2, 1, 2, wG n n, [0, 3], [1, 1], [[2, 0], [0, 2]]⟩
def dR (m : Nat) : Rg := ⟨9, 3, m, 12, [1, 3, 8, 3, 1], mD m, mF m m, mN m m⟩
theorem mW : ∀ n, n < 25 → decide (checkV (eK n) = 0) = (decide (n % 2 = 1) && decide (n < 22)) := by decide +kernel
theorem cT : ∀ n, n < 25 → decide (checkV (dR (min n 7)) = 0) = (decide (0 < n) && decide (n < 6)) := by decide +kernel
theorem rg_wide {w : World} {b1 b2 b3 b4 b5 b6 n : Nat} {t1 t2 t3 t4 t5 t6 : TypeId} (h1 : Blk w b1 (aZ (wG n n)) t1) (h2 : Blk w b2 (aZ [0, 3]) t2) (h3 : Blk w b3 (aZ [1, 1]) t3) (h4 : Blk w b4 (aZ [2, 0]) t4) (h5 : Blk w b5 (aZ [0, 2]) t5)
  (h6 : Blk w b6 [.slice (some ⟨b4, 0, none⟩) 2 2, .slice (some ⟨b5, 0, none⟩) 2 2] t6) : RgC w [.int .i64 2, .int .i64 2, .int .i64 1, .int .i64 2, .slice (some ⟨b1, 0, none⟩) n n, .slice (some ⟨b2, 0, none⟩) 2 2, .slice (some ⟨b3, 0, none⟩) 2 2, .slice (some ⟨b6, 0, none⟩) 2 2] (eK n) := by
 have e := Blk.rdI (c := n) h1
 refine ⟨0, w.heap.size, some ⟨b1, 0, none⟩, n, some ⟨b2, 0, none⟩, 2, some ⟨b3, 0, none⟩, 2, some ⟨b6, 0, none⟩, 2, ?_, e, Blk.rdI (l := [0, 3]) (c := 2) h2, Blk.rdI (l := [1, 1]) (c := 2) h3, ?_⟩
 ·simp [eK, wG_len]
 ·refine RdII.of (vs := [.slice (some ⟨b4, 0, none⟩) 2 2, .slice (some ⟨b5, 0, none⟩) 2 2]) ((Blk.rd h6 Z 2).wide (Nat.zero_le _) h6.lt) Z (fun i hi hi' => ?_) (by simp [dY])
  have : i = 0 ∨ i = 1 := by simp at hi; omega
  rcases this with rfl | rfl
  ·exact Blk.rdI (l := [2, 0]) h4
  ·exact Blk.rdI (l := [0, 2]) h5
theorem erase_perm {α : Type} : ∀ (l : List α) (i : Nat) (h : i < l.length), (l[i] :: l.eraseIdx i).Perm l
 | [], _, h => by cases h
 | _ :: _, 0, _ => .refl _
 | a :: l, i + 1, h => (List.Perm.swap a _ _).trans ((erase_perm l i (by simpa using h)).cons a)
theorem set_perm {α : Type} (y : α) : ∀ (l : List α) (i : Nat) (_ : i < l.length), (y :: l.eraseIdx i).Perm (l.set i y)
 | [], _, h => by cases h
 | _ :: _, 0, _ => .refl _
 | a :: l, i + 1, h => (List.Perm.swap a _ _).trans ((set_perm y l i (by simpa using h)).cons a)
theorem rows_out {w0 w : World} {M : Nat → Prop} {xs : List (Nat × List Int)} {R : List Ck} {s : Nat} (hs : Sat w0 M (un (cW xs) :: R) w) (h : s < xs.length) : Sat w0 M (.pt xs[s].1 (aZ xs[s].2) 3 :: un (cW (xs.eraseIdx s)) :: R) w := by
 have h1 : (cW xs).Perm (cW (xs[s] :: xs.eraseIdx s)) := (erase_perm xs s h).symm.map _
 exact (hs.un_perm h1).un_out
theorem rows_out2 {w0 w : World} {M : Nat → Prop} {xs : List (Nat × List Int)} {R : List Ck} {s b : Nat} {l : List Int} (h : s < xs.length) (hy : xs[s] = (b, l)) (hs : Sat w0 M (un (cW xs) :: R) w) : Sat w0 M (.pt b (aZ l) 3 :: un (cW (xs.eraseIdx s)) :: R) w := by
 have := rows_out hs h
 rw [hy] at this
 exact this
theorem rows_back {w0 w : World} {M : Nat → Prop} {xs : List (Nat × List Int)} {R : List Ck} {s b : Nat} {l : List Int} (hs : Sat w0 M (.pt b (aZ l) 3 :: un (cW (xs.eraseIdx s)) :: R) w) (h : s < xs.length) : Sat w0 M (un (cW (xs.set s (b, l))) :: R) w := by
 have h1 : (cW ((b, l) :: xs.eraseIdx s)).Perm (cW (xs.set s (b, l))) := (set_perm (b, l) xs s h).map _
 exact hs.un_in.un_perm h1
theorem row_cell {w0 w : World} {M : Nat → Prop} {H : List Ck} {g m c off s : Nat} {xs : List (Nat × List Int)} {y : Nat × List Int} (hs : Sat w0 M H w) (hm : Ck.ow (.slice (some ⟨g, 0, none⟩) m c) 22 1 m (dZ xs) ∈ H) (ho : off = s) (h : s < xs.length) (hy : xs[s] = y) : w.cell? ⟨g, off, none⟩ = some (.slice (some ⟨y.1, 0, none⟩) y.2.length y.2.length) := by
 subst ho hy
 have := own_cell (hs.all _ hm) off (by simpa [dZ] using h)
 rw [this]
 simp [dZ]
theorem rowsV_set (xs : List (Nat × List Int)) (s b : Nat) (l r : List Int) (h : s < xs.length) (hy : xs[s] = (b, l)) (hl : r.length = l.length) : dZ (xs.set s (b, r)) = dZ xs := by
 unfold dZ
 rw [List.map_set]
 refine List.ext_getElem (by simp) fun i h1 h2 => ?_
 rw [List.getElem_set]
 split
 ·rename_i e
  subst e
  simp [hy, hl]
 ·rfl
theorem sp0 : ∀ k : Nat, cellsOf ((List.replicate k ((0 : Int), (0 : Int))).map rtV) = aZ (List.replicate (k * 2) 0)
 | 0 => rfl
 | k + 1 => by
  rw [List.replicate_succ, List.map_cons, show (k + 1) * 2 = k * 2 + 1 + 1 from by omega, List.replicate_succ, List.replicate_succ]
  show [Value.int .i64 0, Value.int .i64 0] ++ cellsOf _ = _
  rw [sp0 k]
  rfl
theorem rep_rdS {w : World} {b k : Nat} {t : TypeId} {c : Nat} (h : Blk w b (aZ (List.replicate (k * 2) 0)) t) : RdS w 0 w.heap.size (.slice (some ⟨b, 0, none⟩) k c) (List.replicate k (0, 0)) := by
 have := Blk.rdS (l := List.replicate k ((0 : Int), (0 : Int))) (c := c) h (sp0 k).symm
 rw [List.length_replicate] at this
 exact this
theorem dC {w : World} {b k : Nat} {t : TypeId} {c : Nat} (h : Blk w b (aZ (List.replicate k 0)) t) : RdI w 0 w.heap.size (.slice (some ⟨b, 0, none⟩) k c) (List.replicate k 0) := by
 have := Blk.rdI (c := c) h
 rw [List.length_replicate] at this
 exact this
theorem kZ (w : World) : RdI w 0 0 (.slice none 0 0) [] := RdI.of ⟨rfl, .inl ⟨.inl rfl, rfl⟩⟩
theorem slSp : SlT Tryz.prog 26 32 2 16 (.agg #[.int .i64 0, .int .i64 0]) := ⟨by kernel_rfl, by kernel_rfl, by kernel_rfl, by decide⟩
theorem gN : boolB Tryz.prog 4 = true := by kernel_rfl
theorem fK {n : Nat} (h : n < 25) : (eK n).Small := ⟨by simp [eK, wG_len]; omega, by simp [eK], by simp [eK], by simp [eK], by intro l hl; simp [eK] at hl; rcases hl with rfl | rfl <;> decide⟩
theorem fM {m : Nat} (h : m < 8) : (dR m).Small := ⟨by simp [dR], by simp [dR, mD_len]; omega, by simp [dR, mF_len]; omega, by simp [dR, mN_len]; omega, fun l hl => by
 obtain ⟨i, _, rfl⟩ := List.mem_map.1 hl
 split <;> simp [rowM] <;> omega⟩
def zeroR : Rg := ⟨0, 0, 0, 0, [], [], [], []⟩
theorem rd_nilII (w : World) : RdII w 0 0 (.slice none 0 0) [] := RdII.of (vs := []) ⟨rfl, .inl ⟨.inl rfl, rfl⟩⟩ rfl (fun i hi => by cases hi) (fun _ h => by cases h)
theorem rg_zero (w : World) : RgC w [.int .i64 0, .int .i64 0, .int .i64 0, .int .i64 0, .slice none 0 0, .slice none 0 0, .slice none 0 0, .slice none 0 0] zeroR := ⟨0, 0, none, 0, none, 0, none, 0, none, 0, rfl, kZ w, kZ w, kZ w, rd_nilII w⟩
theorem rd_nilS (w : World) : RdS w 0 0 (.slice none 0 0) [] := ⟨⟨rfl, .inl ⟨.inl rfl, rfl⟩⟩, fun e he => by cases he⟩
def P6 (b1 b2 b3 c4 c5 c6 : Nat) (f : List Int) : List Ck := [.pt b1 (aZ [f.getD 4 0, f.getD 5 0, 1]) 3, .pt b2 (aZ [f.getD 6 0, f.getD 7 0]) 3, .pt b3 (aZ [f.getD 8 0, 1]) 3, .pt c4 (aZ [f.getD 9 0, f.getD 10 0]) 3, .pt c5 (aZ [f.getD 11 0, f.getD 12 0]) 3, .pt c6 [.slice (some ⟨c4, 0, none⟩) 2 2, .slice (some ⟨c5, 0, none⟩) 2 2] 22]
abbrev C6 (b1 b2 b3 c6 : Nat) (f : List Int) : List Value := [.int .i64 (f.getD 0 0), .int .i64 (f.getD 1 0), .int .i64 (f.getD 2 0), .int .i64 (f.getD 3 0), .slice (some ⟨b1, 0, none⟩) 3 3, .slice (some ⟨b2, 0, none⟩) 2 2, .slice (some ⟨b3, 0, none⟩) 2 2, .slice (some ⟨c6, 0, none⟩) 2 2]
def R6 (f : List Int) : Rg := ⟨f.getD 0 0, f.getD 1 0, f.getD 2 0, f.getD 3 0, [f.getD 4 0, f.getD 5 0, 1], [f.getD 6 0, f.getD 7 0], [f.getD 8 0, 1], [[f.getD 9 0, f.getD 10 0], [f.getD 11 0, f.getD 12 0]]⟩
theorem own6 (b1 b2 b3 c4 c5 c6 : Nat) (f : List Int) : OwnR (P6 b1 b2 b3 c4 c5 c6 f) (C6 b1 b2 b3 c6 f) (R6 f) := fun _ h => rg6 (h (.pt b1 _ _) U) (h (.pt b2 _ _) U) (h (.pt b3 _ _) U) (h (.pt c4 _ _) U) (h (.pt c5 _ _) U) (h (.pt c6 _ _) U)
def W6 (f : List Int) : List (Int × Int) := [(f.getD 17 0, f.getD 18 0), (f.getD 19 0, f.getD 20 0), (f.getD 21 0, f.getD 22 0), (f.getD 23 0, f.getD 24 0), (f.getD 25 0, f.getD 26 0)]
def U6 (f : List Int) : Ru := ⟨f.getD 13 0, f.getD 14 0, f.getD 15 0, f.getD 16 0⟩
def S6 (f : List Int) : List Int := [f.getD 31 0, f.getD 32 0, f.getD 33 0, f.getD 34 0, f.getD 35 0, f.getD 36 0]
def O6 (f : List Int) : List Int := [f.getD 37 0, f.getD 38 0, f.getD 39 0, f.getD 40 0, f.getD 41 0]
def F6 (f : List Int) : List (Int × Int) := [(f.getD 42 0, f.getD 43 0), (f.getD 44 0, f.getD 45 0)]
def Q6 (f : List Int) : List Int := [f.getD 46 0, f.getD 47 0]
def I6 (f : List Int) : List Int := [f.getD 48 0, f.getD 49 0, f.getD 50 0]
def PW (gb b2 b3 c4 c5 c6 n : Nat) : List Ck := [.pt gb (aZ (wG n n)) 3, .pt c6 [.slice (some ⟨c4, 0, none⟩) 2 2, .slice (some ⟨c5, 0, none⟩) 2 2] 22, .pt c5 (aZ [0, 2]) 3, .pt c4 (aZ [2, 0]) 3, .pt b3 (aZ [1, 1]) 3, .pt b2 (aZ [0, 3]) 3]
abbrev CW (gb b2 b3 c6 n : Nat) : List Value := [.int .i64 2, .int .i64 2, .int .i64 1, .int .i64 2, .slice (some ⟨gb, 0, none⟩) n n, .slice (some ⟨b2, 0, none⟩) 2 2, .slice (some ⟨b3, 0, none⟩) 2 2, .slice (some ⟨c6, 0, none⟩) 2 2]
theorem ownW (gb b2 b3 c4 c5 c6 n : Nat) : OwnR (PW gb b2 b3 c4 c5 c6 n) (CW gb b2 b3 c6 n) (eK n) := fun _ h => rg_wide (h (.pt gb _ _) U) (h (.pt b2 _ _) U) (h (.pt b3 _ _) U) (h (.pt c4 _ _) U) (h (.pt c5 _ _) U) (h (.pt c6 _ _) U)
def P2 (gv dv fv nv : Value) (g m : Nat) (gl dl fl : List Int) (xs : List (Nat × List Int)) : List Ck := [.ow gv 3 1 g (aZ gl), .ow dv 3 1 m (aZ dl), .ow fv 3 1 m (aZ fl), .ow nv 22 1 m (dZ xs), un (cW xs)]
theorem nU {w : World} {e sz n : Nat} {v : Value} {xs : List Value} (h1 : w.ownsRow 0 e sz v n xs) : ∃ a c, v = .slice a n c := by
 rcases h1.2 with ⟨rfl, rfl, _⟩ | ⟨g, cap, cur, rfl, _⟩
 ·exact ⟨_, _, Z⟩
 ·exact ⟨_, _, Z⟩
theorem rows_rd3 {w : World} {v : Value} {xs : List (Nat × List Int)} {n : Nat} (hu : (un (cW xs)).p w) (h1 : w.ownsRow 0 22 1 v n (dZ xs)) : RdII w 0 w.heap.size v (xs.map (·.2)) := rows_rd2 hu h1
theorem own2 (q1 q2 q3 q4 : Int) {gv dv fv nv : Value} {gl dl fl : List Int} {xs : List (Nat × List Int)} {g m : Nat} (e1 : gl.length = g) (e2 : dl.length = m) (e3 : fl.length = m) (e4 : xs.length = m) : OwnR (P2 gv dv fv nv g m gl dl fl xs) [.int .i64 q1, .int .i64 q2, .int .i64 q3, .int .i64 q4, gv, dv, fv, nv] ⟨q1, q2, q3, q4, gl, dl, fl, xs.map (·.2)⟩ := fun w h => by
 have m1 : w.ownsRow 0 3 1 gv g (aZ gl) := h (.ow gv 3 1 g (aZ gl)) U
 have m2 : w.ownsRow 0 3 1 dv m (aZ dl) := h (.ow dv 3 1 m (aZ dl)) U
 have m3 : w.ownsRow 0 3 1 fv m (aZ fl) := h (.ow fv 3 1 m (aZ fl)) U
 have m4 : w.ownsRow 0 22 1 nv m (dZ xs) := h (.ow nv 22 1 m (dZ xs)) U
 have m5 : (un (cW xs)).p w := h (un (cW xs)) U
 subst e1
 obtain ⟨a1, c1, rfl⟩ := nU m1
 obtain ⟨a2, c2, rfl⟩ := nU m2
 obtain ⟨a3, c3, rfl⟩ := nU m3
 obtain ⟨a4, c4, rfl⟩ := nU m4
 have k1 := m1.1
 have n2 : RdI w 0 w.heap.size (.slice a2 m c2) dl := by subst e2; exact RdI.of (jB m2)
 have n3 : RdI w 0 w.heap.size (.slice a3 m c3) fl := by subst e3; exact RdI.of (jB m3)
 exact ⟨0, w.heap.size, a1, c1, a2, c2, a3, c3, a4, c4, by simp [e2, e3, e4], RdI.of (jB m1), by rw [e2]; exact n2, by rw [e3]; exact n3, by simpa [e4] using rows_rd3 m5 m4⟩
def PM (g5 : Nat) (dv fv nv : Value) (m : Nat) (xs : List (Nat × List Int)) : List Ck := [.pt g5 (aZ [1, 3, 8, 3, 1]) 3, .ow dv 3 1 m (aZ (mD m)), .ow fv 3 1 m (aZ (mF m m)), .ow nv 22 1 m (dZ xs), un (cW xs)]
abbrev CM (g5 : Nat) (dv fv nv : Value) (m : Nat) : List Value := [.int .i64 9, .int .i64 3, .int .i64 m, .int .i64 12, .slice (some ⟨g5, 0, none⟩) 5 5, dv, fv, nv]
theorem ownM {g5 m : Nat} {dv fv nv : Value} {xs : List (Nat × List Int)} (e4 : xs.length = m) (e5 : xs.map (·.2) = mN m m) : OwnR (PM g5 dv fv nv m xs) (CM g5 dv fv nv m) (dR m) := fun w h => by
 have m1 : Blk w g5 (aZ [1, 3, 8, 3, 1]) 3 := h (.pt g5 (aZ [1, 3, 8, 3, 1]) 3) U
 have m2 : w.ownsRow 0 3 1 dv m (aZ (mD m)) := h (.ow dv 3 1 m (aZ (mD m))) U
 have m3 : w.ownsRow 0 3 1 fv m (aZ (mF m m)) := h (.ow fv 3 1 m (aZ (mF m m))) U
 have m4 : w.ownsRow 0 22 1 nv m (dZ xs) := h (.ow nv 22 1 m (dZ xs)) U
 have m5 : (un (cW xs)).p w := h (un (cW xs)) U
 obtain ⟨a2, c2, rfl⟩ := nU m2
 obtain ⟨a3, c3, rfl⟩ := nU m3
 obtain ⟨a4, c4, rfl⟩ := nU m4
 have h4 := rows_rd3 m5 m4
 rw [e5] at h4
 have n2 : RdI w 0 w.heap.size (.slice a2 m c2) (mD m) := by have h := jB m2; exact RdI.of (by rw [mD_len]; exact h)
 have n3 : RdI w 0 w.heap.size (.slice a3 m c3) (mF m m) := by have h := jB m3; exact RdI.of (by rw [mF_len]; exact h)
 exact ⟨0, w.heap.size, some ⟨g5, 0, none⟩, 5, a2, c2, a3, c3, a4, c4, by simp [dR, mD_len, mF_len, mN_len], Blk.rdI (l := [1, 3, 8, 3, 1]) (c := 5) m1, by simp only [dR, mD_len]; exact n2, by simp only [dR, mF_len]; exact n3, by simp only [dR, mN_len]; exact h4⟩
abbrev MB (bm m : Nat) (a b c : Value) : Ck := .pt bm [.int .i64 9, .int .i64 3, .int .i64 m, .int .i64 12, .slice none 0 0, a, b, c] 25
abbrev LV (n bw bm m k : Nat) : Env := [(447, .int .i64 n), (30, .int .i64 n), (31, .pointer (some ⟨bw, 0, none⟩)), (32, .pointer (some ⟨bm, 0, none⟩)), (471, .int .i64 m), (472, .int .i64 k)]
abbrev PA (v : Value) (k : Nat) : Ck := .ow v 3 1 k (aZ (mD k))
abbrev PB (v : Value) (k : Nat) : Ck := .ow v 3 1 k (aZ (List.replicate k 0))
abbrev PC (v : Value) (k : Nat) (xs : List (Nat × List Int)) : Ck := .ow v 22 1 k (dZ xs)
abbrev OA (v : Value) (k : Nat) : Ck := .ow v 3 1 (k + 1) (aZ (mD k) ++ [.int .i64 (7 * (k : Int) - 9)])
abbrev OB (v : Value) (k : Nat) : Ck := .ow v 3 1 (k + 1) (aZ (List.replicate k 0) ++ [.int .i64 0])
abbrev OC (v : Value) (k : Nat) (xs : List (Nat × List Int)) (rb m : Nat) : Ck := .ow v 22 1 (k + 1) (dZ xs ++ [.slice (some ⟨rb, 0, none⟩) m m])
inductive StoreTo (H : List Ck) (ad : Addr) (v : Value) (R : List Ck → Prop) : Prop
 | pt {b i : Nat} {cs : List Value} {bt : TypeId} {H' : List Ck} : ad = ⟨b, i, none⟩ → Rp H (.pt b cs bt) (.pt b (cs.set i v) bt) H' → i < cs.length → R H' → StoreTo H ad v R
 | ow {g m c et i : Nat} {xs : List Value} {H' : List Ck} : ad = ⟨g, i, none⟩ → Rp H (.ow (.slice (some ⟨g, 0, none⟩) m c) et 1 m xs) (.ow (.slice (some ⟨g, 0, none⟩) m c) et 1 m (xs.set i v)) H' → i < xs.length → R H' → StoreTo H ad v R
theorem StoreTo.ptI {H : List Ck} {b i : Nat} {l : List Int} {x : Int} {bt : TypeId} {R : List Ck → Prop} {H' : List Ck} (h : Rp H (.pt b (aZ l) bt) (.pt b (aZ (l.set i x)) bt) H') (hi : i < l.length) (hR : R H') : StoreTo H ⟨b, i, none⟩ (.int .i64 x) R :=
 .pt rfl (by rw [show (aZ l).set i (.int .i64 x) = aZ (l.set i x) from by simp [aZ, List.map_set]]; exact h) (by simpa [aZ] using hi) hR
theorem StoreTo.owI {H : List Ck} {g m c et i : Nat} {l : List Int} {x : Int} {R : List Ck → Prop} {H' : List Ck} (h : Rp H (.ow (.slice (some ⟨g, 0, none⟩) m c) et 1 m (aZ l)) (.ow (.slice (some ⟨g, 0, none⟩) m c) et 1 m (aZ (l.set i x))) H') (hi : i < l.length) (hR : R H') : StoreTo H ⟨g, i, none⟩ (.int .i64 x) R :=
 .ow rfl (by rw [show (aZ l).set i (.int .i64 x) = aZ (l.set i x) from by simp [aZ, List.map_set]]; exact h) (by simpa [aZ] using hi) hR
section
variable {P : Program} {ro : Cx} {n : Nat} {F : Fin} {w0 : World} {M : Nat → Prop} {k : List It} {ops : Array Oper} {rest : List Oper} {e : Env} {H : List Ck} {T : Tab}
theorem ql_storeTo {R : List Ck → Prop} (hT : T.Ok P) {t : Nat} {x y : Operand} {ad : Addr} {v : Value} {ty : TypeId} {pos : String} {af : Array Edge}
  (hx : opv e x = some (.pointer (some ad))) (hy : opv e y = some v) (h1 : has T.one t = true) (hv : dY v = true) (hs : StoreTo H ad v R) (h : ∀ H', R H' → QL P ro n F w0 M k ops rest e H') : QL P ro n F w0 M k ops (⟨none, .store t x y, ty, pos, af, none⟩ :: rest) e H := by
 cases hs with
 | pt ha hr hi hR => subst ha; exact fV hT hx hy h1 hv hr hi (h _ hR)
 | ow ha hr hi hR => subst ha; exact ql_storeW hT _ hx hy h1 hv hr rfl hi (h _ hR)
theorem cM {Hq : List Ck} {d t et m : Nat} {x y : Operand} {ty : TypeId} {pos : String} {af : Array Edge} (hS : SlT P t et 1 8 (.int .i64 0)) (hx : opv e x = some (.int .i64 m)) (hy : opv e y = some (.int .i64 m)) (hd : Nat.blt d n = true) (hm : m ≤ 1000000)
  (h : ∀ b, QF P ro n F w0 M k ops Hq rest ((d, .slice (some ⟨b, 0, none⟩) m m) :: e) (.pt b (aZ (List.replicate m 0)) et :: H)) :
  QF P ro n F w0 M k ops Hq (⟨some d, .makeSlice t x y, ty, pos, af, none⟩ :: rest) e H := .mk fun w hs => by
 obtain ⟨ht, hi', hzs, hsz⟩ := hS
 cases hinf : P.info? et with
 | none => simp [hinf] at hi'
 | some i =>
  simp [hinf] at hi'
  obtain ⟨hz, hsize, hby⟩ := hi'
  have hr := run_makeSlice (P := P) w t et i _ ht hinf hz .i64 .i64 m m O (Int.le_refl _) (by rw [hsize]; simp; omega) (by rw [hby]; omega) O
  have hcells : (madeCells (Value.int .i64 0).cells ((m : Int).toNat * i.size)) = (aZ (List.replicate m 0)).toArray := by
   apply Array.ext'
   rw [hsize, show (Value.int .i64 0).cells = #[Value.int .i64 0] from rfl, toList_madeCells_one]
   simp
  rw [hcells] at hr
  have hs' := hs.addPt (eQ w (.cells (aZ (List.replicate m 0)).toArray et)) (by simp) (gH w _ _)
  refine yf_eff (w' := w.alloc (.cells (aZ (List.replicate m 0)).toArray et)) Z hd (fun ac hf => ?_) (hs'.tail).right ((h w.heap.size).h _ hs')
  simp only [execOp, hf.op hx, hf.op hy]
  simp [hr]
theorem lU {Hq : List Ck} {d t et m : Nat} {x y : Operand} {ty : TypeId} {pos : String} {af : Array Edge} (hS : SlT P t et 2 16 (.agg #[.int .i64 0, .int .i64 0])) (hx : opv e x = some (.int .i64 m)) (hy : opv e y = some (.int .i64 m)) (hd : Nat.blt d n = true) (hm : m ≤ 1000)
  (h : ∀ b, QF P ro n F w0 M k ops Hq rest ((d, .slice (some ⟨b, 0, none⟩) m m) :: e) (.pt b (aZ (List.replicate (m * 2) 0)) et :: H)) :
  QF P ro n F w0 M k ops Hq (⟨some d, .makeSlice t x y, ty, pos, af, none⟩ :: rest) e H := .mk fun w hs => by
 obtain ⟨ht, hi', hzs, hsz⟩ := hS
 cases hinf : P.info? et with
 | none => simp [hinf] at hi'
 | some i =>
  simp [hinf] at hi'
  obtain ⟨hz, hsize, hby⟩ := hi'
  have hr := run_makeSlice (P := P) w t et i _ ht hinf hz .i64 .i64 m m O (Int.le_refl _) (by rw [hsize]; simp; omega) (by rw [hby]; omega) O
  have hcells : (madeCells (Value.agg #[.int .i64 0, .int .i64 0]).cells ((m : Int).toNat * i.size)) = (aZ (List.replicate (m * 2) 0)).toArray := by
   apply Array.ext'
   rw [hsize, Int.toNat_natCast]
   refine List.ext_getElem (by simp [madeCells, aZ]) fun j h1 h2 => ?_
   have hj : j % 2 = 0 ∨ j % 2 = 1 := by omega
   rcases hj with hj | hj <;> simp [madeCells, aZ, Value.cells, hj]
  rw [hcells] at hr
  have hs' := hs.addPt (eQ w (.cells (aZ (List.replicate (m * 2) 0)).toArray et)) (by simp) (gH w _ _)
  refine yf_eff (w' := w.alloc (.cells (aZ (List.replicate (m * 2) 0)).toArray et)) Z hd (fun ac hf => ?_) (hs'.tail).right ((h w.heap.size).h _ hs')
  simp only [execOp, hf.op hx, hf.op hy]
  simp [hr]
theorem ptr_cell {w : World} {b : Nat} {l : List Addr} {t : TypeId} {off i : Nat} (hs : Sat w0 M H w) (hm : Ck.pt b (l.map fun a => .pointer (some a)) t ∈ H) (ho : off = i) (hi : i < l.length) : w.cell? ⟨b, off, none⟩ = some (.pointer (some (l.getD i ⟨0, 0, none⟩))) := by
 subst ho
 rw [Blk.cell (hs.mem hm), List.getElem?_map, List.getElem?_eq_getElem hi, List.getD_eq_getElem?_getD, List.getElem?_eq_getElem hi]
 rfl
end
def adL (b1 b2 b3 b4 b5 c4 c5 bw b11 b12 b13 b14 bs bo bf bq bi vg e1 : Nat) : List Addr := [⟨b4, 0, none⟩, ⟨b4, 1, none⟩, ⟨b4, 2, none⟩, ⟨b4, 3, none⟩, ⟨b1, 0, none⟩, ⟨b1, 1, none⟩, ⟨b2, 1, none⟩, ⟨b3, 0, none⟩, ⟨c4, 1, none⟩, ⟨c5, 1, none⟩, ⟨b5, 0, none⟩, ⟨b5, 1, none⟩, ⟨b5, 2, none⟩, ⟨b5, 3, none⟩, ⟨bw, 0, none⟩, ⟨bw, 9, none⟩, ⟨bw, 4, none⟩, ⟨b11, 0, none⟩, ⟨b12, 0, none⟩, ⟨b13, 0, none⟩, ⟨b14, 0, none⟩, ⟨bs, 0, none⟩, ⟨bs, 5, none⟩, ⟨bo, 2, none⟩, ⟨bf, 0, none⟩, ⟨bf, 3, none⟩, ⟨bq, 0, none⟩, ⟨bi, 1, none⟩, ⟨vg, 0, none⟩, ⟨vg, 59, none⟩, ⟨e1, 2, none⟩, ⟨b2, 0, none⟩]
abbrev Sg : Type := List Int × {l : List Int // l.length = 60} × {l : List Int // l.length = 5}
def RS (b1 b2 b3 b4 b5 c4 c5 c6 bw b11 b12 b13 b14 bs bo bf bq bi vg vc e0 e1 e2 ag ac b38 b20 : Nat) (l0 l2 : List Int) (y : Sg) : List Ck := [.pt b4 (C6 b1 b2 b3 c6 y.1) 25, .pt b5 [.int .i64 (y.1.getD 13 0), .int .i64 (y.1.getD 14 0), .int .i64 (y.1.getD 15 0), .int .i64 (y.1.getD 16 0)] 56, .pt bw [.int .i64 (y.1.getD 17 0), .int .i64 (y.1.getD 18 0), .int .i64 (y.1.getD 19 0), .int .i64 (y.1.getD 20 0), .int .i64 (y.1.getD 21 0), .int .i64 (y.1.getD 22 0), .int .i64 (y.1.getD 23 0), .int .i64 (y.1.getD 24 0), .int .i64 (y.1.getD 25 0), .int .i64 (y.1.getD 26 0)] 32, .pt b11 [.int .i64 (y.1.getD 27 0)] 3, .pt b12 [.int .i64 (y.1.getD 28 0)] 3, .pt b13 [.int .i64 (y.1.getD 29 0)] 3, .pt b14 [.int .i64 (y.1.getD 30 0)] 3, .pt bs (aZ (S6 y.1)) 3, .pt bo (aZ (O6 y.1)) 3, .pt bf [.int .i64 (y.1.getD 42 0), .int .i64 (y.1.getD 43 0), .int .i64 (y.1.getD 44 0), .int .i64 (y.1.getD 45 0)] 32, .pt bq (aZ (Q6 y.1)) 3, .pt bi (aZ (I6 y.1)) 3, .ow (.slice (some ⟨vg, 0, none⟩) 60 vc) 3 1 60 (aZ y.2.1.1), .pt e0 (aZ l0) 3, .pt e1 (aZ y.2.2.1) 3, .pt e2 (aZ l2) 3, .ow (.slice (some ⟨ag, 0, none⟩) 3 ac) 22 1 3 [.slice (some ⟨e0, 0, none⟩) 5 5, .slice (some ⟨e1, 0, none⟩) 5 5, .slice (some ⟨e2, 0, none⟩) 5 5], .pt b38 (aZ smallV) 3]
set_option maxHeartbeats 4000000 in
theorem st_all (b1 b2 b3 b4 b5 c4 c5 c6 bw b11 b12 b13 b14 bs bo bf bq bi vg vc e0 e1 e2 ag ac b38 b20 : Nat) (t : Bool) (x : Int) (l0 l1 l2 vl : List Int) (h5 : vl.length = 60) (g1 : l1.length = 5) (k : Nat) (hk : k < 32) : StoreTo [.pt b1 (aZ [1, 2, 1]) 3, .pt b2 (aZ [0, 3]) 3, .pt b3 (aZ [1, 1]) 3, .pt c4 (aZ [cond t 1 2, cond t 1 0]) 3, .pt c5 (aZ [cond t 1 0, cond t 1 2]) 3, .pt c6 [.slice (some ⟨c4, 0, none⟩) 2 2, .slice (some ⟨c5, 0, none⟩) 2 2] 22, .pt b4 ([.int .i64 (2), .int .i64 (2), .int .i64 (1), .int .i64 (2), .slice (some ⟨b1, 0, none⟩) 3 3, .slice (some ⟨b2, 0, none⟩) 2 2, .slice (some ⟨b3, 0, none⟩) 2 2, .slice (some ⟨c6, 0, none⟩) 2 2]) 25, .pt b5 [.int .i64 (240), .int .i64 (20), .int .i64 (30), .int .i64 (1)] 56, .pt bw [.int .i64 (0), .int .i64 (3), .int .i64 (0), .int .i64 (3), .int .i64 (0), .int .i64 (3), .int .i64 (0), .int .i64 (3), .int .i64 (0), .int .i64 (3)] 32, .pt b11 [.int .i64 (1)] 3, .pt b12 [.int .i64 (0)] 3, .pt b13 [.int .i64 (4)] 3, .pt b14 [.int .i64 (1)] 3, .pt bs (aZ [1, 0, 1, 1, 0, 1]) 3, .pt bo (aZ [0, 1, -1, 0, 1]) 3, .pt bf [.int .i64 (10), .int .i64 (20), .int .i64 (-5), .int .i64 (5)] 32, .pt bq (aZ [3, 1]) 3, .pt bi (aZ [4, 5, -1]) 3, .ow (.slice (some ⟨vg, 0, none⟩) 60 vc) 3 1 60 (aZ vl), .pt e0 (aZ l0) 3, .pt e1 (aZ l1) 3, .pt e2 (aZ l2) 3, .ow (.slice (some ⟨ag, 0, none⟩) 3 ac) 22 1 3 [.slice (some ⟨e0, 0, none⟩) 5 5, .slice (some ⟨e1, 0, none⟩) 5 5, .slice (some ⟨e2, 0, none⟩) 5 5], .pt b38 (aZ smallV) 3, .pt b20 ((adL b1 b2 b3 b4 b5 c4 c5 bw b11 b12 b13 b14 bs bo bf bq bi vg e1).map fun a => .pointer (some a)) 60] ((adL b1 b2 b3 b4 b5 c4 c5 bw b11 b12 b13 b14 bs bo bf bq bi vg e1).getD k ⟨0, 0, none⟩) (.int .i64 x) (fun H' => ∃ y : Sg, Sp H' (P6 b1 b2 b3 c4 c5 c6 y.1 ++ RS b1 b2 b3 b4 b5 c4 c5 c6 bw b11 b12 b13 b14 bs bo bf bq bi vg vc e0 e1 e2 ag ac b38 b20 l0 l2 y)) := by
 obtain rfl | rfl | rfl | rfl | rfl | rfl | rfl | rfl | rfl | rfl | rfl | rfl | rfl | rfl | rfl | rfl | rfl | rfl | rfl | rfl | rfl | rfl | rfl | rfl | rfl | rfl | rfl | rfl | rfl | rfl | rfl | rfl := cases32 k hk
 ·exact .pt Z U (by simp) ⟨([x, 2, 1, 2, 1, 2, 0, 3, 1, cond t 1 2, cond t 1 0, cond t 1 0, cond t 1 2, 240, 20, 30, 1, 0, 3, 0, 3, 0, 3, 0, 3, 0, 3, 1, 0, 4, 1, 1, 0, 1, 1, 0, 1, 0, 1, -1, 0, 1, 10, 20, -5, 5, 3, 1, 4, 5, -1], ⟨vl, h5⟩, ⟨l1, g1⟩), by repeat constructor⟩
 ·exact .pt Z U (by simp) ⟨([2, x, 1, 2, 1, 2, 0, 3, 1, cond t 1 2, cond t 1 0, cond t 1 0, cond t 1 2, 240, 20, 30, 1, 0, 3, 0, 3, 0, 3, 0, 3, 0, 3, 1, 0, 4, 1, 1, 0, 1, 1, 0, 1, 0, 1, -1, 0, 1, 10, 20, -5, 5, 3, 1, 4, 5, -1], ⟨vl, h5⟩, ⟨l1, g1⟩), by repeat constructor⟩
 ·exact .pt Z U (by simp) ⟨([2, 2, x, 2, 1, 2, 0, 3, 1, cond t 1 2, cond t 1 0, cond t 1 0, cond t 1 2, 240, 20, 30, 1, 0, 3, 0, 3, 0, 3, 0, 3, 0, 3, 1, 0, 4, 1, 1, 0, 1, 1, 0, 1, 0, 1, -1, 0, 1, 10, 20, -5, 5, 3, 1, 4, 5, -1], ⟨vl, h5⟩, ⟨l1, g1⟩), by repeat constructor⟩
 ·exact .pt Z U (by simp) ⟨([2, 2, 1, x, 1, 2, 0, 3, 1, cond t 1 2, cond t 1 0, cond t 1 0, cond t 1 2, 240, 20, 30, 1, 0, 3, 0, 3, 0, 3, 0, 3, 0, 3, 1, 0, 4, 1, 1, 0, 1, 1, 0, 1, 0, 1, -1, 0, 1, 10, 20, -5, 5, 3, 1, 4, 5, -1], ⟨vl, h5⟩, ⟨l1, g1⟩), by repeat constructor⟩
 ·exact .pt Z U (by simp) ⟨([2, 2, 1, 2, x, 2, 0, 3, 1, cond t 1 2, cond t 1 0, cond t 1 0, cond t 1 2, 240, 20, 30, 1, 0, 3, 0, 3, 0, 3, 0, 3, 0, 3, 1, 0, 4, 1, 1, 0, 1, 1, 0, 1, 0, 1, -1, 0, 1, 10, 20, -5, 5, 3, 1, 4, 5, -1], ⟨vl, h5⟩, ⟨l1, g1⟩), by repeat constructor⟩
 ·exact .pt Z U (by simp) ⟨([2, 2, 1, 2, 1, x, 0, 3, 1, cond t 1 2, cond t 1 0, cond t 1 0, cond t 1 2, 240, 20, 30, 1, 0, 3, 0, 3, 0, 3, 0, 3, 0, 3, 1, 0, 4, 1, 1, 0, 1, 1, 0, 1, 0, 1, -1, 0, 1, 10, 20, -5, 5, 3, 1, 4, 5, -1], ⟨vl, h5⟩, ⟨l1, g1⟩), by repeat constructor⟩
 ·exact .pt Z U (by simp) ⟨([2, 2, 1, 2, 1, 2, 0, x, 1, cond t 1 2, cond t 1 0, cond t 1 0, cond t 1 2, 240, 20, 30, 1, 0, 3, 0, 3, 0, 3, 0, 3, 0, 3, 1, 0, 4, 1, 1, 0, 1, 1, 0, 1, 0, 1, -1, 0, 1, 10, 20, -5, 5, 3, 1, 4, 5, -1], ⟨vl, h5⟩, ⟨l1, g1⟩), by repeat constructor⟩
 ·exact .pt Z U (by simp) ⟨([2, 2, 1, 2, 1, 2, 0, 3, x, cond t 1 2, cond t 1 0, cond t 1 0, cond t 1 2, 240, 20, 30, 1, 0, 3, 0, 3, 0, 3, 0, 3, 0, 3, 1, 0, 4, 1, 1, 0, 1, 1, 0, 1, 0, 1, -1, 0, 1, 10, 20, -5, 5, 3, 1, 4, 5, -1], ⟨vl, h5⟩, ⟨l1, g1⟩), by repeat constructor⟩
 ·exact .pt Z U (by simp) ⟨([2, 2, 1, 2, 1, 2, 0, 3, 1, cond t 1 2, x, cond t 1 0, cond t 1 2, 240, 20, 30, 1, 0, 3, 0, 3, 0, 3, 0, 3, 0, 3, 1, 0, 4, 1, 1, 0, 1, 1, 0, 1, 0, 1, -1, 0, 1, 10, 20, -5, 5, 3, 1, 4, 5, -1], ⟨vl, h5⟩, ⟨l1, g1⟩), by repeat constructor⟩
 ·exact .pt Z U (by simp) ⟨([2, 2, 1, 2, 1, 2, 0, 3, 1, cond t 1 2, cond t 1 0, cond t 1 0, x, 240, 20, 30, 1, 0, 3, 0, 3, 0, 3, 0, 3, 0, 3, 1, 0, 4, 1, 1, 0, 1, 1, 0, 1, 0, 1, -1, 0, 1, 10, 20, -5, 5, 3, 1, 4, 5, -1], ⟨vl, h5⟩, ⟨l1, g1⟩), by repeat constructor⟩
 ·exact .pt Z U (by simp) ⟨([2, 2, 1, 2, 1, 2, 0, 3, 1, cond t 1 2, cond t 1 0, cond t 1 0, cond t 1 2, x, 20, 30, 1, 0, 3, 0, 3, 0, 3, 0, 3, 0, 3, 1, 0, 4, 1, 1, 0, 1, 1, 0, 1, 0, 1, -1, 0, 1, 10, 20, -5, 5, 3, 1, 4, 5, -1], ⟨vl, h5⟩, ⟨l1, g1⟩), by repeat constructor⟩
 ·exact .pt Z U (by simp) ⟨([2, 2, 1, 2, 1, 2, 0, 3, 1, cond t 1 2, cond t 1 0, cond t 1 0, cond t 1 2, 240, x, 30, 1, 0, 3, 0, 3, 0, 3, 0, 3, 0, 3, 1, 0, 4, 1, 1, 0, 1, 1, 0, 1, 0, 1, -1, 0, 1, 10, 20, -5, 5, 3, 1, 4, 5, -1], ⟨vl, h5⟩, ⟨l1, g1⟩), by repeat constructor⟩
 ·exact .pt Z U (by simp) ⟨([2, 2, 1, 2, 1, 2, 0, 3, 1, cond t 1 2, cond t 1 0, cond t 1 0, cond t 1 2, 240, 20, x, 1, 0, 3, 0, 3, 0, 3, 0, 3, 0, 3, 1, 0, 4, 1, 1, 0, 1, 1, 0, 1, 0, 1, -1, 0, 1, 10, 20, -5, 5, 3, 1, 4, 5, -1], ⟨vl, h5⟩, ⟨l1, g1⟩), by repeat constructor⟩
 ·exact .pt Z U (by simp) ⟨([2, 2, 1, 2, 1, 2, 0, 3, 1, cond t 1 2, cond t 1 0, cond t 1 0, cond t 1 2, 240, 20, 30, x, 0, 3, 0, 3, 0, 3, 0, 3, 0, 3, 1, 0, 4, 1, 1, 0, 1, 1, 0, 1, 0, 1, -1, 0, 1, 10, 20, -5, 5, 3, 1, 4, 5, -1], ⟨vl, h5⟩, ⟨l1, g1⟩), by repeat constructor⟩
 ·exact .pt Z U (by simp) ⟨([2, 2, 1, 2, 1, 2, 0, 3, 1, cond t 1 2, cond t 1 0, cond t 1 0, cond t 1 2, 240, 20, 30, 1, x, 3, 0, 3, 0, 3, 0, 3, 0, 3, 1, 0, 4, 1, 1, 0, 1, 1, 0, 1, 0, 1, -1, 0, 1, 10, 20, -5, 5, 3, 1, 4, 5, -1], ⟨vl, h5⟩, ⟨l1, g1⟩), by repeat constructor⟩
 ·exact .pt Z U (by simp) ⟨([2, 2, 1, 2, 1, 2, 0, 3, 1, cond t 1 2, cond t 1 0, cond t 1 0, cond t 1 2, 240, 20, 30, 1, 0, 3, 0, 3, 0, 3, 0, 3, 0, x, 1, 0, 4, 1, 1, 0, 1, 1, 0, 1, 0, 1, -1, 0, 1, 10, 20, -5, 5, 3, 1, 4, 5, -1], ⟨vl, h5⟩, ⟨l1, g1⟩), by repeat constructor⟩
 ·exact .pt Z U (by simp) ⟨([2, 2, 1, 2, 1, 2, 0, 3, 1, cond t 1 2, cond t 1 0, cond t 1 0, cond t 1 2, 240, 20, 30, 1, 0, 3, 0, 3, x, 3, 0, 3, 0, 3, 1, 0, 4, 1, 1, 0, 1, 1, 0, 1, 0, 1, -1, 0, 1, 10, 20, -5, 5, 3, 1, 4, 5, -1], ⟨vl, h5⟩, ⟨l1, g1⟩), by repeat constructor⟩
 ·exact .pt Z U (by simp) ⟨([2, 2, 1, 2, 1, 2, 0, 3, 1, cond t 1 2, cond t 1 0, cond t 1 0, cond t 1 2, 240, 20, 30, 1, 0, 3, 0, 3, 0, 3, 0, 3, 0, 3, x, 0, 4, 1, 1, 0, 1, 1, 0, 1, 0, 1, -1, 0, 1, 10, 20, -5, 5, 3, 1, 4, 5, -1], ⟨vl, h5⟩, ⟨l1, g1⟩), by repeat constructor⟩
 ·exact .pt Z U (by simp) ⟨([2, 2, 1, 2, 1, 2, 0, 3, 1, cond t 1 2, cond t 1 0, cond t 1 0, cond t 1 2, 240, 20, 30, 1, 0, 3, 0, 3, 0, 3, 0, 3, 0, 3, 1, x, 4, 1, 1, 0, 1, 1, 0, 1, 0, 1, -1, 0, 1, 10, 20, -5, 5, 3, 1, 4, 5, -1], ⟨vl, h5⟩, ⟨l1, g1⟩), by repeat constructor⟩
 ·exact .pt Z U (by simp) ⟨([2, 2, 1, 2, 1, 2, 0, 3, 1, cond t 1 2, cond t 1 0, cond t 1 0, cond t 1 2, 240, 20, 30, 1, 0, 3, 0, 3, 0, 3, 0, 3, 0, 3, 1, 0, x, 1, 1, 0, 1, 1, 0, 1, 0, 1, -1, 0, 1, 10, 20, -5, 5, 3, 1, 4, 5, -1], ⟨vl, h5⟩, ⟨l1, g1⟩), by repeat constructor⟩
 ·exact .pt Z U (by simp) ⟨([2, 2, 1, 2, 1, 2, 0, 3, 1, cond t 1 2, cond t 1 0, cond t 1 0, cond t 1 2, 240, 20, 30, 1, 0, 3, 0, 3, 0, 3, 0, 3, 0, 3, 1, 0, 4, x, 1, 0, 1, 1, 0, 1, 0, 1, -1, 0, 1, 10, 20, -5, 5, 3, 1, 4, 5, -1], ⟨vl, h5⟩, ⟨l1, g1⟩), by repeat constructor⟩
 ·exact .pt Z U (by simp) ⟨([2, 2, 1, 2, 1, 2, 0, 3, 1, cond t 1 2, cond t 1 0, cond t 1 0, cond t 1 2, 240, 20, 30, 1, 0, 3, 0, 3, 0, 3, 0, 3, 0, 3, 1, 0, 4, 1, x, 0, 1, 1, 0, 1, 0, 1, -1, 0, 1, 10, 20, -5, 5, 3, 1, 4, 5, -1], ⟨vl, h5⟩, ⟨l1, g1⟩), by repeat constructor⟩
 ·exact .pt Z U (by simp) ⟨([2, 2, 1, 2, 1, 2, 0, 3, 1, cond t 1 2, cond t 1 0, cond t 1 0, cond t 1 2, 240, 20, 30, 1, 0, 3, 0, 3, 0, 3, 0, 3, 0, 3, 1, 0, 4, 1, 1, 0, 1, 1, 0, x, 0, 1, -1, 0, 1, 10, 20, -5, 5, 3, 1, 4, 5, -1], ⟨vl, h5⟩, ⟨l1, g1⟩), by repeat constructor⟩
 ·exact .pt Z U (by simp) ⟨([2, 2, 1, 2, 1, 2, 0, 3, 1, cond t 1 2, cond t 1 0, cond t 1 0, cond t 1 2, 240, 20, 30, 1, 0, 3, 0, 3, 0, 3, 0, 3, 0, 3, 1, 0, 4, 1, 1, 0, 1, 1, 0, 1, 0, 1, x, 0, 1, 10, 20, -5, 5, 3, 1, 4, 5, -1], ⟨vl, h5⟩, ⟨l1, g1⟩), by repeat constructor⟩
 ·exact .pt Z U (by simp) ⟨([2, 2, 1, 2, 1, 2, 0, 3, 1, cond t 1 2, cond t 1 0, cond t 1 0, cond t 1 2, 240, 20, 30, 1, 0, 3, 0, 3, 0, 3, 0, 3, 0, 3, 1, 0, 4, 1, 1, 0, 1, 1, 0, 1, 0, 1, -1, 0, 1, x, 20, -5, 5, 3, 1, 4, 5, -1], ⟨vl, h5⟩, ⟨l1, g1⟩), by repeat constructor⟩
 ·exact .pt Z U (by simp) ⟨([2, 2, 1, 2, 1, 2, 0, 3, 1, cond t 1 2, cond t 1 0, cond t 1 0, cond t 1 2, 240, 20, 30, 1, 0, 3, 0, 3, 0, 3, 0, 3, 0, 3, 1, 0, 4, 1, 1, 0, 1, 1, 0, 1, 0, 1, -1, 0, 1, 10, 20, -5, x, 3, 1, 4, 5, -1], ⟨vl, h5⟩, ⟨l1, g1⟩), by repeat constructor⟩
 ·exact .pt Z U (by simp) ⟨([2, 2, 1, 2, 1, 2, 0, 3, 1, cond t 1 2, cond t 1 0, cond t 1 0, cond t 1 2, 240, 20, 30, 1, 0, 3, 0, 3, 0, 3, 0, 3, 0, 3, 1, 0, 4, 1, 1, 0, 1, 1, 0, 1, 0, 1, -1, 0, 1, 10, 20, -5, 5, x, 1, 4, 5, -1], ⟨vl, h5⟩, ⟨l1, g1⟩), by repeat constructor⟩
 ·exact .pt Z U (by simp) ⟨([2, 2, 1, 2, 1, 2, 0, 3, 1, cond t 1 2, cond t 1 0, cond t 1 0, cond t 1 2, 240, 20, 30, 1, 0, 3, 0, 3, 0, 3, 0, 3, 0, 3, 1, 0, 4, 1, 1, 0, 1, 1, 0, 1, 0, 1, -1, 0, 1, 10, 20, -5, 5, 3, 1, 4, x, -1], ⟨vl, h5⟩, ⟨l1, g1⟩), by repeat constructor⟩
 ·exact .owI U O ⟨([2, 2, 1, 2, 1, 2, 0, 3, 1, cond t 1 2, cond t 1 0, cond t 1 0, cond t 1 2, 240, 20, 30, 1, 0, 3, 0, 3, 0, 3, 0, 3, 0, 3, 1, 0, 4, 1, 1, 0, 1, 1, 0, 1, 0, 1, -1, 0, 1, 10, 20, -5, 5, 3, 1, 4, 5, -1], ⟨vl.set 0 x, by simp [h5]⟩, ⟨l1, g1⟩), by repeat constructor⟩
 ·exact .owI U O ⟨([2, 2, 1, 2, 1, 2, 0, 3, 1, cond t 1 2, cond t 1 0, cond t 1 0, cond t 1 2, 240, 20, 30, 1, 0, 3, 0, 3, 0, 3, 0, 3, 0, 3, 1, 0, 4, 1, 1, 0, 1, 1, 0, 1, 0, 1, -1, 0, 1, 10, 20, -5, 5, 3, 1, 4, 5, -1], ⟨vl.set 59 x, by simp [h5]⟩, ⟨l1, g1⟩), by repeat constructor⟩
 ·exact .ptI U O ⟨([2, 2, 1, 2, 1, 2, 0, 3, 1, cond t 1 2, cond t 1 0, cond t 1 0, cond t 1 2, 240, 20, 30, 1, 0, 3, 0, 3, 0, 3, 0, 3, 0, 3, 1, 0, 4, 1, 1, 0, 1, 1, 0, 1, 0, 1, -1, 0, 1, 10, 20, -5, 5, 3, 1, 4, 5, -1], ⟨vl, h5⟩, ⟨l1.set 2 x, by simp [g1]⟩), by repeat constructor⟩
 ·exact .pt Z U (by simp) ⟨([2, 2, 1, 2, 1, 2, x, 3, 1, cond t 1 2, cond t 1 0, cond t 1 0, cond t 1 2, 240, 20, 30, 1, 0, 3, 0, 3, 0, 3, 0, 3, 0, 3, 1, 0, 4, 1, 1, 0, 1, 1, 0, 1, 0, 1, -1, 0, 1, 10, 20, -5, 5, 3, 1, 4, 5, -1], ⟨vl, h5⟩, ⟨l1, g1⟩), by repeat constructor⟩

def pC : OT := .alt (aN [45, 46, 47, 48, 49, 50, 51, 52, 53, 54, 55, 56, 61, 43, 44, 57, 58, 59, 60, 62, 63, 64] (.nil)) (aN [61, 45, 46, 47, 48, 49, 50, 51, 52, 53, 54, 55, 56, 43, 44, 57, 58, 59, 60, 62, 63, 64] (.nil))
def tM6_17dc6dd : OT := .alt (aN [10, 11, 12, 13, 14, 15, 20, 9, 16, 17, 18, 21, 22, 23, 24, 25, 26, 27, 28, 29, 30, 31, 32, 33, 34, 35, 36, 37, 38, 39, 40, 41, 42] (pC)) (aN [20, 10, 11, 12, 13, 14, 15, 9, 16, 17, 18, 21, 22, 23, 24, 25, 26, 27, 28, 29, 30, 31, 32, 33, 34, 35, 36, 37, 38, 39, 40, 41, 42] (pC))
def tM6_69de943 : OT := .alt (aN [10, 11, 12, 13, 14, 15, 19, 20, 9, 16, 17, 18, 21, 22, 23, 24, 25, 26, 27, 28, 29, 30, 31, 32, 33, 34, 35, 36, 37, 38, 39, 40, 41, 42] (pC)) (aN [19] (tM6_17dc6dd))
def tM6_6d11526 : OT := aN [0, 1, 2, 3, 4, 5, 6, 7, 8] (tM6_69de943)
def tM6_a35bbd9 : OT := aN [20, 21, 22, 23, 24, 25] .nil
def pU : OT := aN [13, 14, 19] (tM6_a35bbd9)
def oQ : OT := aN [18] (pU)
def tM6_be434a6 : OT := aN [15, 16, 17] (oQ)
def kM : OT := aN [9, 10, 12] (pU)
def kR : OT := .alt (aN [9, 10, 12] (oQ)) (aN [18] (kM))
def oY : OT := .alt (aN [9, 10, 12] (tM6_be434a6)) (aN [15, 16, 17] (kR))
def pH : OT := aN [11] (kM)
def nS : OT := .alt (aN [11] (kR)) (aN [18] (pH))
def tM6_280883c : OT := .alt (aN [11] (oY)) (aN [15, 16, 17] (nS))
def kA : OT := aN [0, 1, 8] (kM)
def lF : OT := .alt (aN [0, 1, 8] (kR)) (aN [18] (kA))
def pF : OT := .alt (aN [0, 1, 8] (oY)) (aN [15, 16, 17] (lF))
def nP : OT := .alt (aN [0, 1, 8] (pH)) (aN [11] (kA))
def nX : OT := .alt (aN [0, 1, 8] (nS)) (.alt (aN [11] (lF)) (aN [18] (nP)))
def tM6_b04db41 : OT := .alt (aN [0, 1, 8] (tM6_280883c)) (.alt (aN [11] (pF)) (aN [15, 16, 17] (nX)))
def nR : OT := aN [2, 3, 4, 5, 6, 7] (kA)
def oI : OT := .alt (aN [2, 3, 4, 5, 6, 7] (lF)) (aN [18] (nR))
def tM6_465170f : OT := .alt (aN [2, 3, 4, 5, 6, 7] (pF)) (aN [15, 16, 17] (oI))
def tM6_667e622 : OT := .alt (aN [2, 3, 4, 5, 6, 7] (nP)) (aN [11] (nR))
def tM6_2e09e90 : OT := .alt (aN [2, 3, 4, 5, 6, 7] (nX)) (.alt (aN [11] (oI)) (aN [18] (tM6_667e622)))
def tM6_cca5405 : OT := .alt (aN [2, 3, 4, 5, 6, 7] (tM6_b04db41)) (.alt (aN [11] (tM6_465170f)) (aN [15, 16, 17] (tM6_2e09e90)))
def tM6_ac6011e : OT := .alt (aN [3, 4, 5, 6, 7, 8, 9, 10, 11] (.nil)) (aN [6, 7, 8, 3, 4, 5, 9, 10, 11] (.nil))
def tM6_e19a31b : OT := .alt (aN [0, 1, 2, 6, 7, 8, 9, 10, 11] (.nil)) (aN [6, 7, 8, 0, 1, 2, 9, 10, 11] (.nil))
def tM6_e271ada : OT := .alt (aN [0, 1, 2, 3, 4, 5, 9, 10, 11] (.nil)) (aN [3, 4, 5, 0, 1, 2, 9, 10, 11] (.nil))
def tM6_6a034d0 : OT := .alt (aN [0, 1, 2] (tM6_ac6011e)) (.alt (aN [3, 4, 5] (tM6_e19a31b)) (aN [6, 7, 8] (tM6_e271ada)))
def tM6_cb22373 : OT := .alt (aN [39, 40, 41, 38, 42, 43, 44, 45] (.nil)) (aN [41, 39, 40, 38, 42, 43, 44, 45] (.nil))
def tM6_9480b7e : OT := .alt (aN [37, 41, 38, 42, 43, 44, 45] (.nil)) (aN [41, 37, 38, 42, 43, 44, 45] (.nil))
def tM6_c346b6d : OT := .alt (aN [37, 39, 40, 38, 42, 43, 44, 45] (.nil)) (aN [39, 40, 37, 38, 42, 43, 44, 45] (.nil))
def tM6_9edfc8d : OT := .alt (aN [37] (tM6_cb22373)) (.alt (aN [39, 40] (tM6_9480b7e)) (aN [41] (tM6_c346b6d)))
def oM : OT := aN [0, 1, 2, 3, 4, 5, 6, 7, 8, 9, 10, 11, 12, 13, 14, 15, 16, 17, 18, 19, 20, 21, 22, 23, 24, 25, 28, 26, 27, 29, 30, 31, 32, 33, 34, 35, 36] (tM6_9edfc8d)
set_option maxRecDepth 20000 in
set_option maxHeartbeats 16000000 in
theorem windSmall_ca (w : World) : Ca Tryz.prog 4 [] w fun r w' => r = .bool true ∧ Chg [] w w' := by
 refine dB (Sat.nil w M0) Tryz.func4 Z (by simp [Tryz.ntmps4]) ?_
 (refine aE (aB (aA V Z Z (aF (aE (aE (aB ?_)))))))
 refine dP 3 (aZ smallV) Z qR Z (fun b38 => ?_)
 (refine aA V Z Z (aA V Z Z (aF (aP ?_))))
 refine bN (σ := Nat) (fun i => i ≤ 30) (fun i => 30 - i) (fun i => [(38, .slice (some ⟨b38, 0, none⟩) 30 30), (39, .int .i64 30), (40, .int .i64 i)]) (fun _ => [.pt b38 (aZ smallV) 3]) 0 O ⟨Z, Z, Z, trivial⟩ U ?_
 rintro i hi K hK
 (refine aE (aB (aA V Z Z (aF (aE ?_)))))
 refine dD Z (fun hc => ?_) (fun hc => ?_)
 ·have hi3 : i < 30 := by first | omega | (simp at hc; omega)
  have hi2 : i < smallV.length := hi3
  clear hc
  (refine aR (aE (aP (aE (aB ?_)))))
  refine bW V Z Z Z Z Z O O ?_
  refine ql_loadI V (i) Z Z Z U (by first | rfl | omega | simp) hi2 ?_
  generalize smallV[i] = x at *
  (refine aA V Z Z (aF (aE (aB (aA V Z Z (aF (aP ?_)))))))
  refine bN (σ := Nat) (fun k => k ≤ 32) (fun k => 32 - k) (fun k => [(38, .slice (some ⟨b38, 0, none⟩) 30 30), (39, .int .i64 30), (40, .int .i64 i), (2, .int .i64 x), (44, .int .i64 k)]) (fun _ => [.pt b38 (aZ smallV) 3]) 0 O ⟨Z, Z, Z, Z, Z, trivial⟩ U ?_
  rintro k hk K2 hK2
  (refine aE (aB (aA V Z Z (aF (aE ?_)))))
  refine dD Z (fun hc => ?_) (fun hc => ?_)
  ·have hk2 : k < 32 := by first | omega | (simp at hc; omega)
   clear hc
   (refine aR (aE (aP (aE (aB (aA V Z Z (aA V Z Z (aF (aE (aB ?_))))))))))
   refine bO (β := Nat × Nat × Nat × Nat × Nat × Nat) V [] _ M0 Z Z Z Z (Sp.refl _) qS (fun w' hs => fC w') ?_
   rintro ⟨b1, b2, b3, c4, c5, c6⟩ _ rfl
   dsimp only [List.cons_append, List.nil_append]
   refine cE #[.int .i64 240, .int .i64 20, .int .i64 30, .int .i64 1] Z qR Z ?_
   refine bO (β := Nat) V [] _ M0 Z Z Z Z (Sp.refl _) qS (fun w' hs => qB 0 3 w') ?_
   rintro bw _ rfl
   dsimp only [List.cons_append, List.nil_append]
   refine aV cU Z (fun b4 => ?_)
   refine aV zero56 Z (fun b5 => ?_)
   ((iterate 2 refine aY V Z Z Z Z Z U rfl ?_); refine aA V Z Z (aF (aE (aE (aB (aA V Z Z (dE Z Z Z O O (aA V Z Z (aF ?_)))))))))
   refine jG (σ := Bool × Nat × Nat × Nat) (fun y => [(38, .slice (some ⟨b38, 0, none⟩) 30 30), (39, .int .i64 30), (40, .int .i64 i), (2, .int .i64 x), (44, .int .i64 k), (3, .int .i64 k), (4, .pointer (some ⟨b4, 0, none⟩)), (5, .pointer (some ⟨b5, 0, none⟩)), (6, .slice (some ⟨bw, 0, none⟩) 5 5)])
    (fun y => [.pt b5 [.int .i64 240, .int .i64 20, .int .i64 30, .int .i64 1] 56, .pt b4 (twoC b1 b2 b3 y.2.2.2) 25, .pt bw [.int .i64 0, .int .i64 3, .int .i64 0, .int .i64 3, .int .i64 0, .int .i64 3, .int .i64 0, .int .i64 3, .int .i64 0, .int .i64 3] 32, .pt y.2.2.2 [.slice (some ⟨y.2.1, 0, none⟩) 2 2, .slice (some ⟨y.2.2.1, 0, none⟩) 2 2] 22, .pt y.2.2.1 (aZ [cond y.1 1 0, cond y.1 1 2]) 3, .pt y.2.1 (aZ [cond y.1 1 2, cond y.1 1 0]) 3, .pt b3 (aZ [1, 1]) 3, .pt b2 (aZ [0, 3]) 3, .pt b1 (aZ [1, 2, 1]) 3, .pt b38 (aZ smallV) 3]) ?_ ?_
   rotate_left
   ·intro K3 hK3
    refine dD Z (fun hc => ?_) (fun hc => ?_)
    ·clear hc
     (refine aB ?_)
     refine dP 3 (aZ [1, 1]) Z qR Z (fun d4 => ?_)
     refine dP 3 (aZ [1, 1]) Z qR Z (fun d5 => ?_)
     refine dP 22 [.slice (some ⟨d4, 0, none⟩) 2 2, .slice (some ⟨d5, 0, none⟩) 2 2] Z qR Z (fun d6 => ?_)
     (refine aA V Z Z ?_; refine ql_st7 V Z Z Z Z U ?_; refine aF ?_)
     exact hK3 (true, d4, d5, d6) _ _ ⟨Z, Z, Z, Z, Z, Z, Z, Z, Z, trivial⟩ U
    ·clear hc
     (refine aR ?_)
     exact hK3 (false, c4, c5, c6) _ _ ⟨Z, Z, Z, Z, Z, Z, Z, Z, Z, trivial⟩ U
   clear c4 c5 c6
   rintro ⟨t, c4, c5, c6⟩
   dsimp only
   have h1 := twoT_small t
   have h2 := twoT_rules t
   have h3 := twoT_plc t
   have h4 := twoT_blown t
   (refine aE (aB ?_); (iterate 2 refine aI V Z Z Z ?_))
   refine bO (β := Value) V [] _ M0 Z Z Z Z (Sp.refl _) qS (fun w' hs => (qK w' _ (twoT t) ruS (gE (hs.blk (b := b1) U) (hs.blk (b := b2) U) (hs.blk (b := b3) U) (hs.blk (b := c4) U) (hs.blk (b := c5) U) (hs.blk (b := c6) U)) h1 h2)) ?_
   rintro vv _ rfl
   have h5 : ((plcL (twoT t) ruS).map (nG (twoT t) ruS)).length = 60 := by rw [List.length_map, h3]
   rw [h3]
   generalize (plcL (twoT t) ruS).map (nG (twoT t) ruS) = vl at *
   dsimp only [List.cons_append, List.nil_append]
   (refine aA V Z Z (bC V Z Z Z (bC V Z Z Z (aA V Z Z (aA V Z Z (aF (aE (aB ?_))))))); refine aI V Z Z Z ?_; refine aA V Z Z ?_)
   refine bO (β := Value × List (Nat × List Int)) V [] _ M0 Z Z Z Z (Sp.refl _) qS (fun w' hs => (against_ok w' 0 w'.heap.size _ (twoT t) (.slice (some ⟨bw, 0, none⟩) 5 5) wsS (gE (hs.blk (b := b1) U) (hs.blk (b := b2) U) (hs.blk (b := b3) U) (hs.blk (b := c4) U) (hs.blk (b := c5) U) (hs.blk (b := c6) U)) h1 (Blk.rdS (l := wsS) (hs.blk (b := bw) U) Z) h4)) ?_
   rintro ⟨av, xs⟩ _ ⟨rfl, hxs⟩
   have h6 : xs.length = 3 := by rw [← List.length_map (f := (·.2)), hxs, List.length_map, gA]; rfl
   have h7 : ∀ i (h : i < xs.length), xs[i].2.length = 5 := fun i h => by
    have hm : xs[i].2 ∈ xs.map (·.2) := List.mem_map.2 ⟨_, List.getElem_mem h, rfl⟩
    rw [hxs] at hm
    obtain ⟨c, _, e⟩ := List.mem_map.1 hm
    rw [← e]
    exact worstL5 ((dN (twoT t) wsS).1 h4).2 c
   obtain ⟨⟨e0, l0⟩, ⟨e1, l1⟩, ⟨e2, l2⟩, rfl⟩ : ∃ a b c, xs = [a, b, c] := by
    match xs, h6 with
    | [a, b, c], _ => exact ⟨a, b, c, rfl⟩
   have g0 : l0.length = 5 := h7 0 (by simp)
   have g1 : l1.length = 5 := h7 1 (by simp)
   have g2 : l2.length = 5 := h7 2 (by simp)
   dsimp only [List.cons_append, List.nil_append]
   refine ql_conv (H' := .pt e0 (aZ l0) 3 :: .pt e1 (aZ l1) 3 :: .pt e2 (aZ l2) 3 :: .ow av 22 1 3 [.slice (some ⟨e0, 0, none⟩) l0.length l0.length, .slice (some ⟨e1, 0, none⟩) l1.length l1.length, .slice (some ⟨e2, 0, none⟩) l2.length l2.length] :: _) (fun w' hs => Sat.un_iff.1 hs) ?_
   rw [g0, g1, g2]
   refine mB (fun w hs => hs.ownSome (v := av) U O) ?_
   rintro ⟨ag, ac, rfl⟩
   refine mB (fun w hs => hs.ownSome (v := vv) U O) ?_
   rintro ⟨vg, vc, rfl⟩
   (refine aA V Z Z (bC V Z Z Z (bC V Z Z Z (aA V Z Z (aA V Z Z (aF (aE (aE (aB (aA V Z Z (dM V Z Z Z O (aA V Z Z ?_))))))))))); refine aC Z (aA V Z Z (aC Z (dM V Z Z Z O (aA V Z Z (aA V Z Z (aC Z (aA V Z Z (aC Z (aA V Z Z (aC Z (dM V Z Z Z O ?_))))))))))); refine aA V Z Z (aA V Z Z (aC Z (aA V Z Z (aC Z (aA V Z Z (aC Z (dM V Z Z Z O (aA V Z Z (aA V Z Z (aC Z (aA V Z Z ?_))))))))))); refine aC Z ?_)
   refine bW V Z Z Z Z Z (by decide) (by decide) ?_
   (refine aC Z ?_)
   refine cI (v := .slice (some ⟨e1, 0, none⟩) 5 5) V Z Z Z (fun w hs => wit_cell (g := ag) hs U) ?_
   (refine aC Z (aA V Z Z (aC Z (dM V Z Z Z O (aA V Z Z (aF (aL Z (aR (aE (aB ?_))))))))))
   refine dP 3 (aZ [1, 0, 1, 1, 0, 1]) Z qR Z (fun bs => ?_)
   refine dP 3 (aZ [0, 1, -1, 0, 1]) Z qR Z (fun bo => ?_)
   refine cE #[.int .i64 10, .int .i64 20] Z qR Z ?_
   refine cE #[.int .i64 (-5), .int .i64 5] Z qR Z ?_
   refine dP 32 [.int .i64 10, .int .i64 20, .int .i64 (-5), .int .i64 5] Z qR Z (fun bf => ?_)
   refine dP 3 (aZ [3, 1]) Z qR Z (fun bq => ?_)
   refine dP 3 (aZ [4, 5, -1]) Z qR Z (fun bi => ?_)
   refine aV nE Z (fun b11 => ?_)
   refine aV nE Z (fun b12 => ?_)
   refine aV nE Z (fun b13 => ?_)
   refine aV nE Z (fun b14 => ?_)
   ((iterate 4 refine eV V Z Z Z Z U ?_); (iterate 5 refine aA V Z Z ?_); refine aF (aE ?_))
   refine bX _ [] (Sp.refl _) qR qR ?_
   ((iterate 5 refine aD V Z Z Z ?_); refine aT V Z Z Z ?_)
   repeat (refine bF V Z Z Z Z Z (by decide) (by decide) ?_; (first | ((iterate 5 refine aD V Z Z Z ?_)) | (refine aD V Z Z Z ?_; refine aT V Z Z Z ?_) | (refine aD V Z Z Z (aD V Z Z Z ?_)) | (refine aT V Z Z Z ?_) | (refine aD V Z Z Z ?_) | skip))
   refine bI (v := .slice (some ⟨e1, 0, none⟩) 5 5) V Z Z Z (fun w hs => wit_cell (g := ag) hs U) ?_
   repeat (refine bF V Z Z Z Z Z (by decide) (by decide) ?_; (first | (refine aD V Z Z Z ?_; refine aT V Z Z Z ?_) | skip))
   refine cA 60 ((adL b1 b2 b3 b4 b5 c4 c5 bw b11 b12 b13 b14 bs bo bf bq bi vg e1).map fun a => .pointer (some a)) Z qR Z (fun b20 => ?_)
   (refine aD V Z Z Z (aK (aE ?_)))
   clear hK hxs h7 h1 h2 h3 h4
   refine q_keep [(38, .slice (some ⟨b38, 0, none⟩) 30 30), (39, .int .i64 30), (40, .int .i64 i), (2, .int .i64 x), (44, .int .i64 k), (3, .int .i64 k), (4, .pointer (some ⟨b4, 0, none⟩)), (5, .pointer (some ⟨b5, 0, none⟩)), (6, .slice (some ⟨bw, 0, none⟩) 5 5), (7, .slice (some ⟨vg, 0, none⟩) 60 vc), (9, .slice (some ⟨ag, 0, none⟩) 3 ac), (11, .pointer (some ⟨b11, 0, none⟩)), (12, .pointer (some ⟨b12, 0, none⟩)), (13, .pointer (some ⟨b13, 0, none⟩)), (14, .pointer (some ⟨b14, 0, none⟩)), (15, .slice (some ⟨bs, 0, none⟩) 6 6), (16, .slice (some ⟨bo, 0, none⟩) 5 5), (17, .slice (some ⟨bf, 0, none⟩) 2 2), (18, .slice (some ⟨bq, 0, none⟩) 2 2), (19, .slice (some ⟨bi, 0, none⟩) 3 3), (20, .slice (some ⟨b20, 0, none⟩) 32 32)] [.pt b1 (aZ [1, 2, 1]) 3, .pt b2 (aZ [0, 3]) 3, .pt b3 (aZ [1, 1]) 3, .pt c4 (aZ [cond t 1 2, cond t 1 0]) 3, .pt c5 (aZ [cond t 1 0, cond t 1 2]) 3, .pt c6 [.slice (some ⟨c4, 0, none⟩) 2 2, .slice (some ⟨c5, 0, none⟩) 2 2] 22, .pt b4 ([.int .i64 (2), .int .i64 (2), .int .i64 (1), .int .i64 (2), .slice (some ⟨b1, 0, none⟩) 3 3, .slice (some ⟨b2, 0, none⟩) 2 2, .slice (some ⟨b3, 0, none⟩) 2 2, .slice (some ⟨c6, 0, none⟩) 2 2]) 25, .pt b5 [.int .i64 (240), .int .i64 (20), .int .i64 (30), .int .i64 (1)] 56, .pt bw [.int .i64 (0), .int .i64 (3), .int .i64 (0), .int .i64 (3), .int .i64 (0), .int .i64 (3), .int .i64 (0), .int .i64 (3), .int .i64 (0), .int .i64 (3)] 32, .pt b11 [.int .i64 (1)] 3, .pt b12 [.int .i64 (0)] 3, .pt b13 [.int .i64 (4)] 3, .pt b14 [.int .i64 (1)] 3, .pt bs (aZ [1, 0, 1, 1, 0, 1]) 3, .pt bo (aZ [0, 1, -1, 0, 1]) 3, .pt bf [.int .i64 (10), .int .i64 (20), .int .i64 (-5), .int .i64 (5)] 32, .pt bq (aZ [3, 1]) 3, .pt bi (aZ [4, 5, -1]) 3, .ow (.slice (some ⟨vg, 0, none⟩) 60 vc) 3 1 60 (aZ vl), .pt e0 (aZ l0) 3, .pt e1 (aZ l1) 3, .pt e2 (aZ l2) 3, .ow (.slice (some ⟨ag, 0, none⟩) 3 ac) 22 1 3 [.slice (some ⟨e0, 0, none⟩) 5 5, .slice (some ⟨e1, 0, none⟩) 5 5, .slice (some ⟨e2, 0, none⟩) 5 5], .pt b38 (aZ smallV) 3, .pt b20 ((adL b1 b2 b3 b4 b5 c4 c5 bw b11 b12 b13 b14 bs bo bf bq bi vg e1).map fun a => .pointer (some a)) 60] (by repeat (first | exact trivial | refine ⟨Z, ?_⟩)) U ?_
   (refine aB (aA V Z Z (aA V Z Z ?_)))
   refine bW V Z Z Z Z Z O O ?_
   refine cI V Z Z Z (fun w hs => ptr_cell (i := k) hs U O (by simp only [adL, List.length_cons, List.length_nil]; omega)) ?_
   (refine aA V Z Z (aA V Z Z ?_))
   refine ql_storeTo V Z Z Z Z (st_all b1 b2 b3 b4 b5 c4 c5 c6 bw b11 b12 b13 b14 bs bo bf bq bi vg vc e0 e1 e2 ag ac b38 b20 t x l0 l1 l2 vl h5 g1 k hk2) ?_
   rintro H' ⟨⟨f, ⟨vl2, h52⟩, ⟨l12, g12⟩⟩, hH⟩
   refine ql_conv (H' := un (P6 b1 b2 b3 c4 c5 c6 f) :: RS b1 b2 b3 b4 b5 c4 c5 c6 bw b11 b12 b13 b14 bs bo bf bq bi vg vc e0 e1 e2 ag ac b38 b20 l0 l2 (f, ⟨vl2, h52⟩, ⟨l12, g12⟩)) (fun w hs => Sat.un_iff.2 (hs.sp hH)) ?_
   clear hH H'
   dsimp only [RS]
   clear h5 g1
   have OW := own6 b1 b2 b3 c4 c5 c6 f
   have hwl : ∀ l ∈ [l0, l12, l2], l.length ≤ maxLen := fun l hl => by rcases List.mem_cons.1 hl with rfl | hl; (simp only [maxLen]; omega); rcases List.mem_cons.1 hl with rfl | hl; (simp only [maxLen]; omega); obtain rfl := List.mem_singleton.1 hl; simp only [maxLen]; omega
   have hvl : vl2.length ≤ maxLen := by simp only [maxLen]; omega
   obtain hq | hq | hq | hq | hq : k < 10 ∨ (10 ≤ k ∧ k ≤ 13) ∨ (14 ≤ k ∧ k ≤ 16) ∨ (17 ≤ k ∧ k ≤ 23) ∨ 24 ≤ k := by omega
   ·(refine aF (aE (aB (aA V Z Z (eX V Z Z Z O (aA V Z Z (bA Z Z Z (bA Z Z Z (aA V Z Z (aA V Z Z (aC Z ?_)))))))))); refine aI V Z Z Z ?_; refine aC Z ?_; refine aH V Z Z Z ?_; refine aC Z ?_; refine aH V Z Z Z ?_; refine aC Z ?_)
    refine aJ (val := .bool true) V Z Z Z Z (fun w hs => ?_) ?_; exact cY w _ _ _ _ (OW.at hs U) (show 2 ≤ maxLen by decide)
    (refine aC Z ?_; (iterate 3 refine aA V Z Z ?_); refine aC Z (aA V Z Z (aC Z (eX V Z Z Z O (aC Z (aA V Z Z (bA Z Z Z (bA Z Z Z (aC Z (aA V Z Z (aC Z (aA V Z Z ?_))))))))))); refine aC Z (aA V Z Z (aC Z (eX V Z Z Z O (aC Z (aA V Z Z (aC Z (aA V Z Z (aC Z ?_)))))))); refine aI V Z Z Z ?_; refine aC Z (aA V Z Z (aC Z ?_)); refine aH V Z Z Z ?_; refine aC Z (aA V Z Z (aC Z ?_)))
    refine aJ (val := .bool true) V Z Z Z Z (fun w hs => ?_) ?_; exact fA w 0 w.heap.size 0 w.heap.size _ _ _ _ (W6 f) _ [l0, l12, l2] (OW.at hs U) (Blk.rdS (l := W6 f) (hs.blk (b := bw) U) Z) (wit_rd hs U U U U g0 g12 g2) (show 2 ≤ maxLen by decide) (show 5 ≤ maxLen by decide) (show 3 ≤ maxLen by decide) hwl
    (refine aC Z (aA V Z Z (aC Z ?_)); (iterate 3 refine aA V Z Z ?_); refine aC Z ?_; refine aI V Z Z Z ?_; refine aC Z ?_; refine aI V Z Z Z ?_; refine aC Z (aA V Z Z (aC Z ?_)); refine aH V Z Z Z ?_; refine aC Z ?_; refine aH V Z Z Z ?_; refine aC Z ?_; refine aH V Z Z Z ?_; refine aC Z ?_; refine aH V Z Z Z ?_; refine aC Z ?_)
    refine aJ (val := .bool true) V Z Z Z Z (fun w hs => ?_) ?_; exact dW w 0 w.heap.size _ _ (U6 f) _ vl2 _ _ _ _ (OW.at hs U) (hs.rdI (l := vl2) U h52.symm) (show 2 ≤ maxLen by decide) hvl
    (refine aC Z ?_; (iterate 3 refine aA V Z Z ?_); refine aC Z (aA V Z Z (aC Z (eX V Z Z Z O (aC Z (aA V Z Z (aC Z ?_)))))); refine aI V Z Z Z ?_; refine aC Z ?_; refine aI V Z Z Z ?_; refine aC Z (aA V Z Z (aC Z (aA V Z Z (aC Z ?_)))))
    refine aJ (val := .bool true) V Z Z Z Z (fun w hs => ?_) ?_; exact cC w 0 w.heap.size 0 w.heap.size _ _ (U6 f) _ _ (S6 f) (O6 f) (OW.at hs U) (Blk.rdI (l := S6 f) (c := 6) (hs.blk (b := bs) U)) (Blk.rdI (l := O6 f) (c := 5) (hs.blk (b := bo) U)) (show 2 ≤ maxLen by decide) (show 6 ≤ maxLen by decide) (show 5 ≤ maxLen by decide)
    (refine aC Z (aA V Z Z (aC Z ?_)); (iterate 3 refine aA V Z Z ?_); refine aC Z (aA V Z Z (aC Z (aA V Z Z (aC Z ?_)))); refine aI V Z Z Z ?_; refine aC Z (aA V Z Z (aC Z ?_)))
    refine aJ (val := .bool true) V Z Z Z Z (fun w hs => ?_) ?_; exact eU w 0 w.heap.size 0 w.heap.size 0 w.heap.size _ _ _ (F6 f) (Q6 f) (I6 f) _ _ (Blk.rdS (l := F6 f) (hs.blk (b := bf) U) Z) (Blk.rdI (l := Q6 f) (c := 2) (hs.blk (b := bq) U)) (OW.at hs U) (Blk.rdI (l := I6 f) (c := 3) (hs.blk (b := bi) U)) (show 2 ≤ maxLen by decide) (show 2 ≤ maxLen by decide) (show 2 ≤ maxLen by decide) (show 3 ≤ maxLen by decide)
    (refine aC Z (aA V Z Z (aA V Z Z (aF (aL Z (aR (bL (aB (bB V Z Z Z Z O O (aA V Z Z (aF ?_)))))))))))
    exact hK2 (k + 1) _ _ O O ⟨Z, Z, Z, Z, Z, trivial⟩ U
   ·(refine aF (aE (aB (aA V Z Z (gC V Z Z Z O (aA V Z Z (aC Z (aA V Z Z (aC Z (pT V Z Z Z O (aA V Z Z (aA V Z Z ?_))))))))))); (iterate 5 refine bA Z Z Z ?_); refine aA V Z Z (aA V Z Z (aC Z (aA V Z Z (aC Z (gC V Z Z Z O (aC Z (aA V Z Z (aC Z (aA V Z Z (aC Z (pT V Z Z Z O ?_))))))))))); refine aC Z (aA V Z Z (aC Z (aA V Z Z (bA Z Z Z (bA Z Z Z (aC Z (aA V Z Z (aC Z (aA V Z Z ?_))))))))); (iterate 6 refine bA Z Z Z ?_); refine aC Z ?_; (iterate 3 refine aA V Z Z ?_); refine aC Z ?_; refine aI V Z Z Z ?_; refine aC Z ?_; refine aI V Z Z Z ?_; refine aC Z (aA V Z Z (aC Z ?_)); refine aH V Z Z Z ?_; refine aC Z ?_; refine aH V Z Z Z ?_; refine aC Z ?_; refine aH V Z Z Z ?_; refine aC Z ?_; refine aH V Z Z Z ?_; refine aC Z ?_)
    refine aJ (val := .bool true) V Z Z Z Z (fun w hs => ?_) ?_; exact dW w 0 w.heap.size _ _ (U6 f) _ vl2 _ _ _ _ (OW.at hs U) (hs.rdI (l := vl2) U h52.symm) (show 2 ≤ maxLen by decide) hvl
    (refine aC Z ?_; (iterate 3 refine aA V Z Z ?_); refine aC Z (aA V Z Z (aC Z (eX V Z Z Z O (aC Z (aA V Z Z (aC Z ?_)))))); refine aI V Z Z Z ?_; refine aC Z ?_; refine aI V Z Z Z ?_; refine aC Z (aA V Z Z (aC Z (aA V Z Z (aC Z ?_)))))
    refine aJ (val := .bool true) V Z Z Z Z (fun w hs => ?_) ?_; exact cC w 0 w.heap.size 0 w.heap.size _ _ (U6 f) _ _ (S6 f) (O6 f) (OW.at hs U) (Blk.rdI (l := S6 f) (c := 6) (hs.blk (b := bs) U)) (Blk.rdI (l := O6 f) (c := 5) (hs.blk (b := bo) U)) (show 2 ≤ maxLen by decide) (show 6 ≤ maxLen by decide) (show 5 ≤ maxLen by decide)
    (refine aC Z (aA V Z Z (aC Z ?_)); (iterate 3 refine aA V Z Z ?_); refine aC Z (aA V Z Z (aC Z (aA V Z Z (aC Z ?_)))); refine aI V Z Z Z ?_; refine aC Z (aA V Z Z (aC Z ?_)))
    refine aJ (val := .bool true) V Z Z Z Z (fun w hs => ?_) ?_; exact eU w 0 w.heap.size 0 w.heap.size 0 w.heap.size _ _ _ (F6 f) (Q6 f) (I6 f) _ _ (Blk.rdS (l := F6 f) (hs.blk (b := bf) U) Z) (Blk.rdI (l := Q6 f) (c := 2) (hs.blk (b := bq) U)) (OW.at hs U) (Blk.rdI (l := I6 f) (c := 3) (hs.blk (b := bi) U)) (show 2 ≤ maxLen by decide) (show 2 ≤ maxLen by decide) (show 2 ≤ maxLen by decide) (show 3 ≤ maxLen by decide)
    (refine aC Z (aA V Z Z (aA V Z Z (aF (aL Z (aR (bL (aB (bB V Z Z Z Z O O (aA V Z Z (aF ?_)))))))))))
    exact hK2 (k + 1) _ _ O O ⟨Z, Z, Z, Z, Z, trivial⟩ U
   ·(refine aF (aE (aB (aA V Z Z (gC V Z Z Z O (aA V Z Z (aC Z (aA V Z Z (aC Z (pT V Z Z Z O (aA V Z Z (aA V Z Z ?_))))))))))); (iterate 5 refine bA Z Z Z ?_); refine aA V Z Z (aA V Z Z (aC Z (aA V Z Z (aC Z (gC V Z Z Z O (aC Z (aA V Z Z (aC Z (aA V Z Z (aC Z (gS V Z Z Z O ?_))))))))))); refine aC Z (aA V Z Z (aC Z (aA V Z Z (aC Z (aA V Z Z (aC Z (eX V Z Z Z O (aC Z (aA V Z Z (aC Z (aA V Z Z ?_))))))))))); refine aC Z ?_; refine aI V Z Z Z ?_; refine aC Z (aA V Z Z (aC Z ?_)); refine aH V Z Z Z ?_; refine aC Z (aA V Z Z (aC Z ?_)))
    refine aJ (val := .bool true) V Z Z Z Z (fun w hs => ?_) ?_; exact fA w 0 w.heap.size 0 w.heap.size _ _ _ _ (W6 f) _ [l0, l12, l2] (OW.at hs U) (Blk.rdS (l := W6 f) (hs.blk (b := bw) U) Z) (wit_rd hs U U U U g0 g12 g2) (show 2 ≤ maxLen by decide) (show 5 ≤ maxLen by decide) (show 3 ≤ maxLen by decide) hwl
    (refine aC Z (aA V Z Z (aC Z ?_)); (iterate 3 refine aA V Z Z ?_); refine aC Z ?_; refine aI V Z Z Z ?_; refine aC Z ?_; refine aI V Z Z Z ?_; refine aC Z (aA V Z Z (aC Z ?_)); refine aH V Z Z Z ?_; refine aC Z ?_; refine aH V Z Z Z ?_; refine aC Z ?_; refine aH V Z Z Z ?_; refine aC Z ?_; refine aH V Z Z Z ?_; refine aC Z ?_)
    refine aJ (val := .bool true) V Z Z Z Z (fun w hs => ?_) ?_; exact dW w 0 w.heap.size _ _ (U6 f) _ vl2 _ _ _ _ (OW.at hs U) (hs.rdI (l := vl2) U h52.symm) (show 2 ≤ maxLen by decide) hvl
    (refine aC Z ?_; (iterate 3 refine aA V Z Z ?_); refine aC Z (aA V Z Z (aC Z (eX V Z Z Z O (aC Z (aA V Z Z (aC Z ?_)))))); refine aI V Z Z Z ?_; refine aC Z ?_; refine aI V Z Z Z ?_; refine aC Z (aA V Z Z (aC Z (aA V Z Z (aC Z ?_)))))
    refine aJ (val := .bool true) V Z Z Z Z (fun w hs => ?_) ?_; exact cC w 0 w.heap.size 0 w.heap.size _ _ (U6 f) _ _ (S6 f) (O6 f) (OW.at hs U) (Blk.rdI (l := S6 f) (c := 6) (hs.blk (b := bs) U)) (Blk.rdI (l := O6 f) (c := 5) (hs.blk (b := bo) U)) (show 2 ≤ maxLen by decide) (show 6 ≤ maxLen by decide) (show 5 ≤ maxLen by decide)
    (refine aC Z (aA V Z Z (aC Z ?_)); (iterate 3 refine aA V Z Z ?_); refine aC Z (aA V Z Z (aC Z (aA V Z Z (aC Z ?_)))); refine aI V Z Z Z ?_; refine aC Z (aA V Z Z (aC Z ?_)))
    refine aJ (val := .bool true) V Z Z Z Z (fun w hs => ?_) ?_; exact eU w 0 w.heap.size 0 w.heap.size 0 w.heap.size _ _ _ (F6 f) (Q6 f) (I6 f) _ _ (Blk.rdS (l := F6 f) (hs.blk (b := bf) U) Z) (Blk.rdI (l := Q6 f) (c := 2) (hs.blk (b := bq) U)) (OW.at hs U) (Blk.rdI (l := I6 f) (c := 3) (hs.blk (b := bi) U)) (show 2 ≤ maxLen by decide) (show 2 ≤ maxLen by decide) (show 2 ≤ maxLen by decide) (show 3 ≤ maxLen by decide)
    (refine aC Z (aA V Z Z (aA V Z Z (aF (aL Z (aR (bL (aB (bB V Z Z Z Z O O (aA V Z Z (aF ?_)))))))))))
    exact hK2 (k + 1) _ _ O O ⟨Z, Z, Z, Z, Z, trivial⟩ U
   ·(refine aF (aE (aB (aA V Z Z (gC V Z Z Z O (aA V Z Z (aC Z (aA V Z Z (aC Z (gS V Z Z Z O (aA V Z Z (aA V Z Z ?_))))))))))); refine aC Z ?_; refine aI V Z Z Z ?_; refine aC Z ?_; refine aH V Z Z Z ?_; refine aC Z ?_; refine aH V Z Z Z ?_; refine aC Z ?_)
    refine aJ (val := .bool true) V Z Z Z Z (fun w hs => ?_) ?_; exact cY w _ _ _ _ (OW.at hs U) (show 2 ≤ maxLen by decide)
    (refine aC Z ?_; (iterate 3 refine aA V Z Z ?_); refine aC Z (aA V Z Z (aC Z (gC V Z Z Z O (aC Z (aA V Z Z (aC Z (aA V Z Z (aC Z (gS V Z Z Z O (aC Z (aA V Z Z ?_))))))))))); refine aC Z (aA V Z Z (aC Z (aA V Z Z (aC Z (eX V Z Z Z O (aC Z (aA V Z Z (aC Z (aA V Z Z (aC Z ?_)))))))))); refine aI V Z Z Z ?_; refine aC Z (aA V Z Z (aC Z ?_)); refine aH V Z Z Z ?_; refine aC Z (aA V Z Z (aC Z ?_)))
    refine aJ (val := .bool true) V Z Z Z Z (fun w hs => ?_) ?_; exact fA w 0 w.heap.size 0 w.heap.size _ _ _ _ (W6 f) _ [l0, l12, l2] (OW.at hs U) (Blk.rdS (l := W6 f) (hs.blk (b := bw) U) Z) (wit_rd hs U U U U g0 g12 g2) (show 2 ≤ maxLen by decide) (show 5 ≤ maxLen by decide) (show 3 ≤ maxLen by decide) hwl
    (refine aC Z (aA V Z Z (aC Z ?_)); (iterate 3 refine aA V Z Z ?_); refine aC Z ?_; refine aI V Z Z Z ?_; refine aC Z ?_; refine aI V Z Z Z ?_; refine aC Z (aA V Z Z (aC Z ?_)); refine aH V Z Z Z ?_; refine aC Z ?_; refine aH V Z Z Z ?_; refine aC Z ?_; refine aH V Z Z Z ?_; refine aC Z ?_; refine aH V Z Z Z ?_; refine aC Z ?_)
    refine aJ (val := .bool true) V Z Z Z Z (fun w hs => ?_) ?_; exact dW w 0 w.heap.size _ _ (U6 f) _ vl2 _ _ _ _ (OW.at hs U) (hs.rdI (l := vl2) U h52.symm) (show 2 ≤ maxLen by decide) hvl
    (refine aC Z ?_; (iterate 3 refine aA V Z Z ?_); refine aC Z (aA V Z Z (aC Z (eX V Z Z Z O (aC Z (aA V Z Z (aC Z ?_)))))); refine aI V Z Z Z ?_; refine aC Z ?_; refine aI V Z Z Z ?_; refine aC Z (aA V Z Z (aC Z (aA V Z Z (aC Z ?_)))))
    refine aJ (val := .bool true) V Z Z Z Z (fun w hs => ?_) ?_; exact cC w 0 w.heap.size 0 w.heap.size _ _ (U6 f) _ _ (S6 f) (O6 f) (OW.at hs U) (Blk.rdI (l := S6 f) (c := 6) (hs.blk (b := bs) U)) (Blk.rdI (l := O6 f) (c := 5) (hs.blk (b := bo) U)) (show 2 ≤ maxLen by decide) (show 6 ≤ maxLen by decide) (show 5 ≤ maxLen by decide)
    (refine aC Z (aA V Z Z (aC Z ?_)); (iterate 3 refine aA V Z Z ?_); refine aC Z (aA V Z Z (aC Z (aA V Z Z (aC Z ?_)))); refine aI V Z Z Z ?_; refine aC Z (aA V Z Z (aC Z ?_)))
    refine aJ (val := .bool true) V Z Z Z Z (fun w hs => ?_) ?_; exact eU w 0 w.heap.size 0 w.heap.size 0 w.heap.size _ _ _ (F6 f) (Q6 f) (I6 f) _ _ (Blk.rdS (l := F6 f) (hs.blk (b := bf) U) Z) (Blk.rdI (l := Q6 f) (c := 2) (hs.blk (b := bq) U)) (OW.at hs U) (Blk.rdI (l := I6 f) (c := 3) (hs.blk (b := bi) U)) (show 2 ≤ maxLen by decide) (show 2 ≤ maxLen by decide) (show 2 ≤ maxLen by decide) (show 3 ≤ maxLen by decide)
    (refine aC Z (aA V Z Z (aA V Z Z (aF (aL Z (aR (bL (aB (bB V Z Z Z Z O O (aA V Z Z (aF ?_)))))))))))
    exact hK2 (k + 1) _ _ O O ⟨Z, Z, Z, Z, Z, trivial⟩ U
   ·(refine aF (aE (aB (aA V Z Z (gC V Z Z Z O (aA V Z Z (aC Z (aA V Z Z (aC Z (gS V Z Z Z O (aA V Z Z (aA V Z Z ?_))))))))))); refine aC Z ?_; refine aI V Z Z Z ?_; refine aC Z ?_; refine aH V Z Z Z ?_; refine aC Z ?_; refine aH V Z Z Z ?_; refine aC Z ?_)
    refine aJ (val := .bool true) V Z Z Z Z (fun w hs => ?_) ?_; exact cY w _ _ _ _ (OW.at hs U) (show 2 ≤ maxLen by decide)
    (refine aC Z ?_; (iterate 3 refine aA V Z Z ?_); refine aC Z (aA V Z Z (aC Z (gC V Z Z Z O (aC Z (aA V Z Z (aC Z (aA V Z Z (aC Z (gS V Z Z Z O (aC Z (aA V Z Z ?_))))))))))); refine aC Z (aA V Z Z (aC Z (aA V Z Z (aC Z (gC V Z Z Z O (aC Z (aA V Z Z (aC Z (aA V Z Z ?_))))))))); (iterate 6 refine bA Z Z Z ?_); refine aC Z ?_; (iterate 3 refine aA V Z Z ?_); refine aC Z ?_; refine aI V Z Z Z ?_; refine aC Z ?_; refine aI V Z Z Z ?_; refine aC Z (aA V Z Z (aC Z ?_)); refine aH V Z Z Z ?_; refine aC Z ?_; refine aH V Z Z Z ?_; refine aC Z ?_; refine aH V Z Z Z ?_; refine aC Z ?_; refine aH V Z Z Z ?_; refine aC Z ?_)
    refine aJ (val := .bool true) V Z Z Z Z (fun w hs => ?_) ?_; exact dW w 0 w.heap.size _ _ (U6 f) _ vl2 _ _ _ _ (OW.at hs U) (hs.rdI (l := vl2) U h52.symm) (show 2 ≤ maxLen by decide) hvl
    (refine aC Z ?_; (iterate 3 refine aA V Z Z ?_); refine aC Z (aA V Z Z (aC Z (gC V Z Z Z O (aC Z (aA V Z Z ?_))))); (iterate 6 refine bA Z Z Z ?_); refine aC Z ?_; (iterate 3 refine aA V Z Z ?_); refine aC Z (aA V Z Z (aC Z (aA V Z Z (aC Z ?_)))); refine aI V Z Z Z ?_; refine aC Z (aA V Z Z (aC Z ?_)))
    refine aJ (val := .bool true) V Z Z Z Z (fun w hs => ?_) ?_; exact eU w 0 w.heap.size 0 w.heap.size 0 w.heap.size _ _ _ (F6 f) (Q6 f) (I6 f) _ _ (Blk.rdS (l := F6 f) (hs.blk (b := bf) U) Z) (Blk.rdI (l := Q6 f) (c := 2) (hs.blk (b := bq) U)) (OW.at hs U) (Blk.rdI (l := I6 f) (c := 3) (hs.blk (b := bi) U)) (show 2 ≤ maxLen by decide) (show 2 ≤ maxLen by decide) (show 2 ≤ maxLen by decide) (show 3 ≤ maxLen by decide)
    (refine aC Z (aA V Z Z (aA V Z Z (aF (aL Z (aR (bL (aB (bB V Z Z Z Z O O (aA V Z Z (aF ?_)))))))))))
    exact hK2 (k + 1) _ _ O O ⟨Z, Z, Z, Z, Z, trivial⟩ U
  ·clear hc hK2 hk
   (refine bJ _ Z (bL (aB (bB V Z Z Z Z O O (aA V Z Z (aF ?_))))))
   exact hK (i + 1) _ _ O O ⟨Z, Z, Z, trivial⟩ U
 ·clear hc hK hi
  (refine bJ _ Z (aE (aE (aB (aA V Z Z (aF (aP ?_)))))))
  refine bN (σ := Nat) (fun n => n ≤ 600) (fun n => 600 - n) (fun n => [(238, .int .i64 n)]) (fun _ => []) 0 O ⟨Z, trivial⟩ U ?_
  rintro n hn K hK
  (refine aE (aB (aA V Z Z (aF (aE ?_)))))
  refine dD Z (fun hc => ?_) (fun hc => ?_)
  ·have hn2 : n < 600 := by first | omega | (simp at hc; omega)
   clear hc
   (refine aR (aE (aP (aE (aB (aA V Z Z (aA V Z Z (aF (aE (aB (aA V Z Z (dE Z Z Z O O ?_))))))))))); refine aA V Z Z (iR Z Z Z O O O (dE Z Z Z O O (bB V Z Z Z Z O O (aA V Z Z (iR Z Z Z O O O (dE Z Z Z O O (aA V Z Z (dE Z Z Z O O (bB V Z Z Z Z O O ?_))))))))))
   obtain ⟨q1, e1⟩ : ∃ y : Int, y = (n : Int) % 4 := ⟨_, rfl⟩
   obtain ⟨q2, e2⟩ : ∃ y : Int, y = 1 + (n : Int) / 3 % 2 := ⟨_, rfl⟩
   obtain ⟨q3, e3⟩ : ∃ y : Int, y = (n : Int) / 5 % 3 := ⟨_, rfl⟩
   obtain ⟨T, e4⟩ : ∃ y : Int, y = 1 + (n : Int) % 3 := ⟨_, rfl⟩
   have hT : 1 ≤ T ∧ T ≤ 3 := by omega
   rw [← e1, ← e2, ← e3, ← e4]
   clear e1 e2 e3 e4
   refine cE #[.int .i64 q1, .int .i64 q2, .int .i64 q3, .int .i64 T, .slice none 0 0, .slice none 0 0, .slice none 0 0, .slice none 0 0] Z qR Z ?_
   refine aV cU Z (fun br => ?_)
   (refine aY V Z Z Z Z Z U Z ?_; refine aF (aE (aE (aB (aA V Z Z (dE Z Z Z O O (bB V Z Z Z Z O O (bB V Z Z Z Z O O (aA V Z Z (aF (aP ?_)))))))))))
   obtain ⟨g, hg⟩ := Int.eq_ofNat_of_zero_le (show 0 ≤ 1 + 2 * ((n : Int) % 3) by omega)
   rw [hg]
   have hg2 : g ≤ 5 := by omega
   refine fD (H' := [.pt br [.int .i64 q1, .int .i64 q2, .int .i64 q3, .int .i64 T, .slice none 0 0, .slice none 0 0, .slice none 0 0, .slice none 0 0] 25, .ow (.slice none 0 0) 3 1 0 (aZ [])]) (fun w' hs => (Sat.ownil hs 3 1).sp U) ?_
   refine bN (σ := Nat × Value × List Int) (fun s => s.1 ≤ g ∧ s.2.2.length = s.1) (fun s => g - s.1) (fun s => [(238, .int .i64 n), (21, .int .i64 n), (22, .pointer (some ⟨br, 0, none⟩)), (257, .int .i64 g), (258, .int .i64 s.1)]) (fun s => [.pt br [.int .i64 q1, .int .i64 q2, .int .i64 q3, .int .i64 T, s.2.1, .slice none 0 0, .slice none 0 0, .slice none 0 0] 25, .ow s.2.1 3 1 s.1 (aZ s.2.2)]) (0, .slice none 0 0, []) ⟨by omega, Z⟩ ⟨Z, Z, Z, Z, Z, trivial⟩ U ?_
   rintro ⟨s, gv, gl⟩ ⟨hs1, hgl⟩ K2 hK2
   dsimp only at hs1 hgl ⊢
   (refine aE (aB (aA V Z Z (aF (aE ?_)))))
   refine dD Z (fun hc => ?_) (fun hc => ?_)
   ·have hs2 : s < g := by omega
    clear hc
    (refine aR (aE (aP (aE (aB (aA V Z Z (aA V Z Z (aF (aB (aA V Z Z ?_))))))))); refine aH V Z Z Z ?_; refine aA V Z Z (aA V Z Z (bB V Z Z Z Z O O (iR Z Z Z O O O (dE Z Z Z O O (aA V Z Z (dE Z Z Z O O (bB V Z Z Z Z O O ?_))))))))
    obtain ⟨x, e1⟩ : ∃ y : Int, y = ((n : Int) + (s : Int)) / 2 % 3 + (n : Int) % 2 := ⟨_, rfl⟩
    rw [← e1]
    clear e1
    refine dP 3 (aZ [x]) Z qR Z (fun bn => ?_)
    refine eH (q := 1) slI Z Z Z (fun v' => by repeat constructor) (fun w' hs => ⟨_, _, Blk.rd (hs.blk (b := bn) U) Z 1⟩) (by simp [dY, aZ]) O O (fun u => ?_)
    refine mB (fun w hs => hs.slice (v := u) U) ?_
    rintro ⟨a1, m1, c1, rfl⟩
    (refine aA V Z Z ?_; refine ql_st4 V Z Z Z Z U ?_; refine aF (bL (aB (bB V Z Z Z Z O O (aA V Z Z (aF ?_))))))
    exact hK2 (s + 1, .slice a1 m1 c1, gl ++ [x]) _ _ ⟨by simp only; omega, by simp [hgl]⟩ (by simp only; omega) ⟨Z, Z, Z, Z, Z, trivial⟩ (by dsimp only; rw [show aZ (gl ++ [x]) = aZ gl ++ aZ [x] from by simp [aZ]]; repeat constructor)
   obtain rfl : s = g := by omega
   clear hc hK2 hs1
   (refine bJ _ Z (aE (aB (aA V Z Z (iR Z Z Z O O O (dE Z Z Z O O (bB V Z Z Z Z O O (aA V Z Z (aF (aE (aE (aB ?_))))))))))); refine aA V Z Z (aA V Z Z (aF (aP ?_))))
   have f0 := em ((n : Int) / 7) 3 (by decide)
   obtain ⟨m, hm⟩ := Int.eq_ofNat_of_zero_le (show 0 ≤ 1 + (n : Int) / 7 % 3 by omega)
   rw [hm]
   have hm2 : 1 ≤ m ∧ m ≤ 3 := by omega
   refine fD (H' := [.pt br [.int .i64 q1, .int .i64 q2, .int .i64 q3, .int .i64 T, gv, .slice none 0 0, .slice none 0 0, .slice none 0 0] 25, .ow gv 3 1 s (aZ gl), .ow (.slice none 0 0) 3 1 0 (aZ []), .ow (.slice none 0 0) 3 1 0 (aZ []), .ow (.slice none 0 0) 22 1 0 (dZ []), un (cW [])]) (fun w' hs => (Sat.ownil (Sat.ownil (Sat.ownil (Sat.un_nil hs) 22 1) 3 1) 3 1).sp U) ?_
   refine bN (σ := Nat × (Value × Value × Value) × List Int × List Int × List (Nat × List Int)) (fun y => y.1 ≤ m ∧ y.2.2.1.length = y.1 ∧ y.2.2.2.1.length = y.1 ∧ y.2.2.2.2.length = y.1 ∧ ∀ z ∈ y.2.2.2.2, z.2.length = m) (fun y => m - y.1) (fun y => [(238, .int .i64 n), (21, .int .i64 n), (22, .pointer (some ⟨br, 0, none⟩)), (24, .int .i64 m), (279, .int .i64 m), (280, .int .i64 y.1)])
    (fun y => [.pt br [.int .i64 q1, .int .i64 q2, .int .i64 q3, .int .i64 T, gv, y.2.1.1, y.2.1.2.1, y.2.1.2.2] 25, .ow gv 3 1 s (aZ gl), .ow y.2.1.1 3 1 y.1 (aZ y.2.2.1), .ow y.2.1.2.1 3 1 y.1 (aZ y.2.2.2.1), .ow y.2.1.2.2 22 1 y.1 (dZ y.2.2.2.2), un (cW y.2.2.2.2)]) (0, (.slice none 0 0, .slice none 0 0, .slice none 0 0), [], [], []) ⟨by omega, rfl, rfl, rfl, fun z hz => by cases hz⟩ ⟨rfl, rfl, rfl, rfl, rfl, rfl, trivial⟩ U ?_
   rintro ⟨i, ⟨dv, fv, nv⟩, dl, fl, xs⟩ ⟨hi, hdl, hfl, hxl, hxr⟩ K2 hK2
   dsimp only at hi hdl hfl hxl hxr ⊢
   (refine aE (aB (aA V Z Z (aF (aE ?_)))))
   refine dD Z (fun hc => ?_) (fun hc => ?_)
   ·have hi2 : i < m := by omega
    clear hc
    have d2 := quo_bd n i 2 (by decide)
    have d3 := em ((n : Int) / ((i : Int) + 2)) 9 (by decide)
    (refine aR (aE (aP (aE (aB (aA V Z Z (aA V Z Z (aF (aE ?_)))))))))
    refine gW 9 [.ow gv 3 1 s (aZ gl), .ow fv 3 1 i (aZ fl), .ow nv 22 1 i (dZ xs), un (cW xs)] [.pt br [.int .i64 q1, .int .i64 q2, .int .i64 q3, .int .i64 T, gv, dv, fv, nv] 25, .ow dv 3 1 i (aZ dl)] U qR qR qR fun K1 hK1 => ?_
    (refine aD V Z Z Z ?_; refine aT V Z Z Z ?_; refine aD V Z Z Z (aD V Z Z Z (bY V Z Z Z Z O O (dS Z Z Z O O O (bQ Z Z Z O O (bY V Z Z Z Z O O ?_))))))
    obtain ⟨x1, e1⟩ : ∃ y : Int, y = (n : Int) / ((i : Int) + 2) % 9 - 4 := ⟨_, rfl⟩
    rw [← e1]
    clear e1
    refine cA 3 (aZ [x1]) Z qR Z (fun bn => ?_)
    (refine aK ?_)
    refine hK1 _ _ [.pt bn (aZ [x1]) 3, .pt br [.int .i64 q1, .int .i64 q2, .int .i64 q3, .int .i64 T, gv, dv, fv, nv] 25, .ow dv 3 1 i (aZ dl)] U ?_
    refine eG (q := 1) slI Z Z Z (fun v' => by repeat constructor) (fun w' hs => ⟨_, _, Blk.rd (hs.blk (b := bn) U) Z 1⟩) (by simp [dY, aZ]) O O (fun u => ?_)
    refine kG (fun w hs => hs.slice (v := u) U) ?_
    rintro ⟨a1, m1, c1, rfl⟩
    (refine aD V Z Z Z ?_; refine qf_st5 V Z Z Z Z U ?_; refine aK (aE (aB (aA V Z Z ?_))); refine aH V Z Z Z ?_)
    refine dP 3 (aZ [0]) Z qR Z (fun bn => ?_)
    refine eH (q := 1) slI Z Z Z (fun v' => by repeat constructor) (fun w' hs => ⟨_, _, Blk.rd (hs.blk (b := bn) U) Z 1⟩) (by simp [dY, aZ]) O O (fun u => ?_)
    refine mB (fun w hs => hs.slice (v := u) U) ?_
    rintro ⟨a2, m2, c2, rfl⟩
    (refine aA V Z Z ?_; refine ql_st6 V Z Z Z Z U ?_; refine aF (aE (aB (aA V Z Z ?_))))
    refine ql_makeI slI Z Z Z O (fun rb => ?_)
    have f1 := em ((n : Int) + (i : Int)) (m : Int) O
    have f2 := em (n : Int) (T + 1) O
    have f3 := em ((n : Int) + 2 * (i : Int) + 1) (m : Int) O
    (refine aA V Z Z (aF (aE ?_)))
    refine bX _ [.pt rb _ _] (Sp.cons U (Sp.refl _)) qR qR ?_
    ((iterate 3 refine aD V Z Z Z ?_); refine bY V Z Z Z Z O O (aD V Z Z Z (bQ Z Z Z O O (aD V Z Z Z ?_))); refine aT V Z Z Z ?_; refine aD V Z Z Z (aD V Z Z Z ?_); refine aT V Z Z Z ?_; refine bY V Z Z Z Z O O (bQ Z Z Z O O (bY V Z Z Z Z O O ?_)))
    obtain ⟨x2, e2⟩ : ∃ y : Int, y = T - (n : Int) % (T + 1) := ⟨_, rfl⟩
    have hx2 : -3 ≤ x2 ∧ x2 ≤ 3 := by omega
    rw [← e2]
    clear e2
    refine bF V Z Z Z Z Z O O ?_
    have hj0 : (((n : Int) + (i : Int)) % (m : Int)).toNat < (List.replicate m (0 : Int)).length := by rw [List.length_replicate]; omega
    refine lX V ((((n : Int) + (i : Int)) % (m : Int)).toNat) Z Z Z U (by first | rfl | omega | simp) hj0 ?_
    (refine aK (aE ?_))
    have h0 : ∀ z ∈ List.replicate m (0 : Int), -3 ≤ z ∧ z ≤ 3 := fun z hz => by rw [List.eq_of_mem_replicate hz]; omega
    obtain ⟨l1, el1⟩ : ∃ l, l = (List.replicate m 0).set (((n : Int) + (i : Int)) % (m : Int)).toNat x2 := ⟨_, rfl⟩
    have hl1 : l1.length = m := by rw [el1]; simp
    have hb1 : ∀ (j : Nat) (hj : j < l1.length), -3 ≤ l1[j] ∧ l1[j] ≤ 3 := by subst el1; exact fun j hj => set_bd h0 hx2 hj
    rw [← el1]
    clear el1 h0
    obtain ⟨j, ej⟩ := Int.eq_ofNat_of_zero_le f3.1
    have hj : j < l1.length := by omega
    refine gW 16 _ [.pt rb _ _] (Sp.cons U (Sp.refl _)) qR qR qR fun K1 hK1 => ?_
    ((iterate 3 refine aD V Z Z Z ?_); (iterate 3 refine bY V Z Z Z Z O O ?_); refine aD V Z Z Z (bQ Z Z Z O O ?_))
    rw [ej]
    refine bF V Z Z Z Z Z O O ?_
    refine fL V (j) Z Z Z U (by first | rfl | omega | simp) hj ?_
    have := hb1 j hj
    (refine aD V Z Z Z (aD V Z Z Z ?_); refine aT V Z Z Z ?_; refine bY V Z Z Z Z O O (bQ Z Z Z O O (bY V Z Z Z Z O O (aK ?_))))
    refine hK1 _ _ [.pt rb _ _] (Sp.cons U (U)) ?_
    refine bF V Z Z Z Z Z O O ?_
    refine lX V (j) Z Z Z U (by first | rfl | omega | simp) hj ?_
    (refine aK (aB (aA V Z Z ?_)); refine aH V Z Z Z ?_; refine aA V Z Z ?_)
    obtain ⟨row, hrow⟩ : ∃ l, l = l1.set j (l1[j] + (n : Int) % (T + 1)) := ⟨_, rfl⟩
    have hrl : row.length = m := by rw [hrow]; simp [hl1]
    rw [← hrow]
    clear hrow hb1 this
    subst hrl
    refine dP 22 [.slice (some ⟨rb, 0, none⟩) row.length row.length] Z qR Z (fun bn => ?_)
    refine eH (q := 1) slII Z Z Z (fun v' => by repeat constructor) (fun w' hs => ⟨_, _, Blk.rd (hs.blk (b := bn) U) Z 1⟩) (by simp [dY]) O O (fun u => ?_)
    refine mB (fun w hs => hs.slice (v := u) U) ?_
    rintro ⟨a3, m3, c3, rfl⟩
    (refine aA V Z Z ?_; refine ql_st7 V Z Z Z Z U ?_; refine aF (bL (aB (bB V Z Z Z Z O O (aA V Z Z (aF ?_))))))
    refine fD (H' := un (cW (xs ++ [(rb, row)])) :: .ow (.slice a3 m3 c3) 22 1 (i + 1) (dZ (xs ++ [(rb, row)])) :: [.pt br [.int .i64 q1, .int .i64 q2, .int .i64 q3, .int .i64 T, gv, .slice a1 m1 c1, .slice a2 m2 c2, .slice a3 m3 c3] 25, .ow gv 3 1 s (aZ gl), .ow (.slice a1 m1 c1) 3 1 (i + 1) (aZ dl ++ aZ [x1]), .ow (.slice a2 m2 c2) 3 1 (i + 1) (aZ fl ++ aZ [0])]) (fun w' hs => rows_in (hs.sp U)) ?_
    exact hK2 (i + 1, (.slice a1 m1 c1, .slice a2 m2 c2, .slice a3 m3 c3), dl ++ [x1], fl ++ [0], xs ++ [(rb, row)]) _ _ ⟨by simp only; omega, by simp [hdl], by simp [hfl], by simp [hxl], fun z hz => by
     rcases List.mem_append.1 hz with hz | hz
     ·exact hxr z hz
     ·rw [List.mem_singleton.1 hz]⟩ (by simp only; omega) ⟨rfl, rfl, rfl, rfl, rfl, rfl, trivial⟩ (by dsimp only; rw [show aZ (dl ++ [x1]) = aZ dl ++ aZ [x1] from by simp [aZ], show aZ (fl ++ [0]) = aZ fl ++ aZ [0] from by simp [aZ]]; repeat constructor)
   obtain rfl : i = m := by omega
   clear hc hK2 hi
   refine lS (fun w hs => hs.ownSome (v := fv) U O) ?_
   rintro ⟨fb, fc, rfl⟩
   obtain ⟨f1, f2⟩ := em (n : Int) (i : Int) O
   obtain ⟨j, ej⟩ := Int.eq_ofNat_of_zero_le f1
   (refine bJ _ Z (aE ?_))
   refine bX [.pt br [.int .i64 q1, .int .i64 q2, .int .i64 q3, .int .i64 T, gv, dv, .slice (some ⟨fb, 0, none⟩) i fc, nv] 25, .ow gv 3 1 s (aZ gl), .ow dv 3 1 i (aZ dl), .ow nv 22 1 i (dZ xs), un (cW xs)] [.ow (.slice (some ⟨fb, 0, none⟩) i fc) 3 1 i (aZ fl)] U qR qR ?_
   (refine aD V Z Z Z ?_; refine aT V Z Z Z ?_; refine aD V Z Z Z (aD V Z Z Z (bQ Z Z Z O O (aD V Z Z Z ?_))); refine aT V Z Z Z ?_)
   rw [ej]
   refine bF V Z Z Z Z Z O O ?_
   refine qf_storeW V j Z Z Z Z U (by first | rfl | omega | simp) (by simp [aZ]; omega) ?_
   (refine aK (aE (aB (aA V Z Z (dE Z Z Z O O (bB V Z Z Z Z O O (aA V Z Z (dE Z Z Z O O (aA V Z Z (iR Z Z Z O O O (dE Z Z Z O O (aA V Z Z ?_))))))))))); refine iR Z Z Z O O O (dE Z Z Z O O ?_))
   obtain ⟨fl2, hfl2⟩ : ∃ l, l = fl.set j T := ⟨_, rfl⟩
   rw [show (aZ fl).set j (.int .i64 T) = aZ fl2 from by rw [hfl2]; simp [aZ, List.map_set]]
   have hfm : fl2.length = i := by rw [hfl2]; simp [hfl]
   clear hfl2 hfl
   refine ql_conv (H' := un (P2 gv dv (.slice (some ⟨fb, 0, none⟩) i fc) nv s i gl dl fl2 xs) :: [.pt br [.int .i64 q1, .int .i64 q2, .int .i64 q3, .int .i64 T, gv, dv, .slice (some ⟨fb, 0, none⟩) i fc, nv] 25]) (fun w' hs => Sat.un_iff.2 (hs.sp U)) ?_
   have O2 := own2 q1 q2 q3 T (gv := gv) (dv := dv) (fv := .slice (some ⟨fb, 0, none⟩) i fc) (nv := nv) hgl hdl hfm hxl
   refine cE #[.int .i64 (100 * ((n : Int) % 3)), .int .i64 ((n : Int) % 40), .int .i64 ((n : Int) / 2 % 30), .int .i64 ((n : Int) / 11 % 3)] Z qR Z ?_
   refine aV zero56 Z (fun bp => ?_)
   (refine aY V Z Z Z Z Z U Z ?_; refine aF (aE (aB ?_)); (iterate 2 refine aI V Z Z Z ?_))
   have hsm : (⟨q1, q2, q3, T, gl, dl, fl2, xs.map (·.2)⟩ : Rg).Small := ⟨by simp only; omega, by simp only; omega, by simp only; omega, by simp only [List.length_map]; omega, fun l hl => by
    obtain ⟨z, hz, rfl⟩ := List.mem_map.1 hl
    rw [hxr z hz]; omega⟩
   refine bO (β := Value × List Int × Int) V [] _ M0 Z Z Z Z (Sp.refl _) qS (fun w' hs => values_any w' _ _ ⟨100 * ((n : Int) % 3), (n : Int) % 40, (n : Int) / 2 % 30, (n : Int) / 11 % 3⟩ (O2.at hs U) hsm) ?_
   rintro ⟨vv, vl, ev⟩ _ ⟨rfl, hvlm⟩
   dsimp only [List.cons_append, List.nil_append]
   have hvlm : vl.length ≤ 1000000 := hvlm
   clear hsm
   refine mB (fun w hs => hs.slice2 (v := vv) U) ?_
   rintro ⟨va, vc, rfl⟩
   (refine aA V Z Z (bC V Z Z Z (bC V Z Z Z (aA V Z Z (aA V Z Z (aF (aE (aE (aB ?_)))))))); (iterate 3 refine aA V Z Z ?_); refine aF ?_)
   refine jG (σ := {l : List Int // l.length = vl.length}) (fun y => [(238, .int .i64 n), (21, .int .i64 n), (22, .pointer (some ⟨br, 0, none⟩)), (24, .int .i64 i), (27, .pointer (some ⟨bp, 0, none⟩)), (28, .slice va vl.length vc)])
    (fun y => [.ow (.slice va vl.length vc) 3 1 vl.length (aZ y.1), .pt bp [.int .i64 (100 * ((n : Int) % 3)), .int .i64 ((n : Int) % 40), .int .i64 ((n : Int) / 2 % 30), .int .i64 ((n : Int) / 11 % 3)] 56, un (P2 gv dv (.slice (some ⟨fb, 0, none⟩) i fc) nv s i gl dl fl2 xs), .pt br [.int .i64 q1, .int .i64 q2, .int .i64 q3, .int .i64 T, gv, dv, .slice (some ⟨fb, 0, none⟩) i fc, nv] 25]) ?_ ?_
   rotate_left
   ·intro K3 hK3
    refine dD Z (fun hc => ?_) (fun hc => ?_)
    ·have hv : 0 < vl.length := by omega
     clear hc
     obtain ⟨f3, f4⟩ := em (n : Int) (vl.length : Int) O
     refine lS (fun w hs => hs.ownSome (v := .slice va vl.length vc) U O) ?_
     rintro ⟨vb, vc', h⟩
     cases h
     (refine aB ?_; (iterate 4 refine aA V Z Z ?_); refine dE Z Z Z O O ?_)
     obtain ⟨h, eh⟩ := Int.eq_ofNat_of_zero_le f3
     rw [eh]
     refine bW V Z Z Z Z Z O O ?_
     have hh : h < vl.length := by omega
     refine cI (v := .int .i64 vl[h]) V Z Z Z (fun w hs => RdI.at (hs.rdI (v := .slice (some ⟨vb, 0, none⟩) vl.length vc) (l := vl) U Z) h hh) ?_
     (refine aA V Z Z (dE Z Z Z O O (bB V Z Z Z Z O O (aA V Z Z ?_))))
     obtain ⟨z, ez⟩ : ∃ z : Int, z = IntKind.i64.wrap (vl[h] + ((n : Int) % 3 - 1)) := ⟨_, rfl⟩
     rw [← ez]
     clear ez
     refine bW V Z Z Z Z Z O O ?_
     refine ql_storeW V h Z Z Z Z U (by first | rfl | omega | simp) (by simp [aZ]; omega) ?_
     rw [show (aZ vl).set h (.int .i64 z) = aZ (vl.set h z) from by simp [aZ, List.map_set]]
     (refine aF ?_)
     exact hK3 ⟨vl.set h z, by simp⟩ _ _ ⟨Z, Z, Z, Z, Z, Z, trivial⟩ U
    ·clear hc
     (refine aR ?_)
     exact hK3 ⟨vl, Z⟩ _ _ ⟨Z, Z, Z, Z, Z, Z, trivial⟩ U
   rintro ⟨vl2, hvl2⟩
   dsimp only
   have hnl : (xs.map (·.2)).length ≤ maxLen := by simp only [maxLen, List.length_map]; omega
   have hvm : vl2.length ≤ maxLen := by rw [hvl2]; exact Nat.le_trans hvlm (by decide)
   obtain ⟨p1, ep1⟩ : ∃ y : Int, y = 100 * ((n : Int) % 3) := ⟨_, rfl⟩
   obtain ⟨p2, ep2⟩ : ∃ y : Int, y = (n : Int) % 40 := ⟨_, rfl⟩
   obtain ⟨p3, ep3⟩ : ∃ y : Int, y = (n : Int) / 2 % 30 := ⟨_, rfl⟩
   obtain ⟨p4, ep4⟩ : ∃ y : Int, y = (n : Int) / 11 % 3 := ⟨_, rfl⟩
   rw [← ep1, ← ep2, ← ep3, ← ep4]
   clear ep1 ep2 ep3 ep4
   have g1 := em (n : Int) (i : Int) O
   have g2 := em ((n : Int) / 2) (i : Int) O
   have g3 := em ((n : Int) / 3) (i : Int) O
   obtain ⟨cut, ecut⟩ := Int.eq_ofNat_of_zero_le (show 0 ≤ 5 + (n : Int) % 3 by omega)
   have hcut : cut ≤ 7 := by omega
   (refine aE ?_)
   refine jG (σ := Unit) (fun _ => [(238, .int .i64 n), (445, .bool false)]) (fun _ => []) ?_ ?_
   rotate_left
   ·intro K3 hK3
    refine gU (tM6_6d11526) _ [] (Sp.refl _) qR qR ?_
    refine aQ J fun K1 hK1 => ?_
    (refine aO V Z Z Z ?_; refine aD V Z Z Z (bQ Z Z Z O O (aD V Z Z Z (bQ Z Z Z O O (bY V Z Z Z Z O O ?_)))))
    refine aS (val := .bool true) V Z Z Z Z (fun w hs => ?_) ?_; exact cY w _ _ _ _ (O2.at hs U) hnl
    (refine aD V Z Z Z (aD V Z Z Z (aK ?_)))
    refine hK1 _ _ ?_
    refine bE ?_ ?_
    ·refine aQ J fun K1 hK1 => ?_
     (refine aG Z (aD V Z Z Z (aG Z (bQ Z Z Z O O (aG Z (qf_neg V Z Z O O (aG Z (aD V Z Z Z (aG Z (bQ Z Z Z O O (aG Z ?_)))))))))))
     refine bD (β := Nat) V [] _ M0 Z Z Z Z (Sp.refl _) qS (fun w' hs => qB _ _ w') ?_
     rintro bw _ rfl
     dsimp only [List.cons_append, List.nil_append]
     (refine aG Z ?_)
     refine cA 3 (aZ [0, 0, 0, 0, 0]) Z qR Z (fun c1 => ?_)
     (refine aG Z ?_)
     refine cA 22 [.slice (some ⟨c1, 0, none⟩) 5 5] Z qR Z (fun c2 => ?_)
     (refine aG Z ?_; refine aO V Z Z Z ?_; refine aG Z (aD V Z Z Z (aG Z (bQ Z Z Z O O (aG Z (bY V Z Z Z Z O O (aG Z ?_)))))))
     refine aS (val := .bool true) V rfl rfl rfl rfl (fun w hs => ?_) ?_; exact fA w 0 w.heap.size 0 w.heap.size _ _ _ _ [(_, _), (_, _), (_, _), (_, _), (_, _)] _ [[0, 0, 0, 0, 0]] (O2.at hs U) (Blk.rdS (l := [(_, _), (_, _), (_, _), (_, _), (_, _)]) (hs.blk (b := bw) U) rfl) (wit0 (hs.blk (b := c1) U) (hs.blk (b := c2) U)) hnl (show 5 ≤ maxLen by decide) (show 1 ≤ maxLen by decide) (fun l hl => by obtain rfl := List.mem_singleton.1 hl; decide)
     (refine aG Z ?_; (iterate 3 refine aD V Z Z Z ?_); refine aG Z ?_; refine aO V Z Z Z ?_; refine aG Z ?_; refine aO V Z Z Z ?_; refine aG Z (aD V Z Z Z (aG Z (aD V Z Z Z (aG Z (bQ Z Z Z O O (aG Z (aD V Z Z Z (aG Z (dS Z Z Z O O O (aG Z (bQ Z Z Z O O ?_))))))))))); refine aG Z (aD V Z Z Z (aG Z (dS Z Z Z O O O (aG Z (bQ Z Z Z O O (aG Z (aD V Z Z Z (aG Z (bQ Z Z Z O O (aG Z (bY V Z Z Z Z O O ?_))))))))))); refine aG Z ?_)
     refine aS (val := .bool true) V Z Z Z Z (fun w hs => ?_) ?_; exact dW w 0 w.heap.size _ _ ⟨p1, p2, p3, p4⟩ _ vl2 _ _ _ _ (O2.at hs U) (hs.rdI (l := vl2) U hvl2.symm) hnl hvm
     (refine aG Z ?_; (iterate 3 refine aD V Z Z Z ?_); refine aK ?_)
     refine hK1 _ _ ?_
     refine bE ?_ ?_
     ·refine aQ J fun K1 hK1 => ?_
      (refine aG Z (aD V Z Z Z (aG Z (aD V Z Z Z (aG Z (bQ Z Z Z O O (aG Z (aD V Z Z Z (aG Z (dS Z Z Z O O O (aG Z (aD V Z Z Z ?_))))))))))); refine aG Z (bQ Z Z Z O O (aG Z (aD V Z Z Z (aG Z (dS Z Z Z O O O (aG Z (aD V Z Z Z (aG Z (bQ Z Z Z O O (aG Z ?_)))))))))))
      refine cA 3 (aZ [(n : Int) % (i : Int), 0, (n : Int) / 2 % (i : Int), 0, (n : Int) / 3 % (i : Int), 0, 0]) Z qR Z (fun c3 => ?_)
      (refine aG Z ?_)
      refine cA 3 (aZ [0, 0, 0, 0, 0]) Z qR Z (fun c4 => ?_)
      (refine aG Z ?_; refine aO V Z Z Z ?_; refine aG Z ?_; refine aO V Z Z Z ?_; refine aG Z (aD V Z Z Z (aG Z (bQ Z Z Z O O (aG Z (bY V Z Z Z Z O O (aG Z ?_)))))))
      refine iF (l := 5 + (n : Int) % 3) (et := 3) (sz := 1) qR qR Z Z Z O O ?_
      rw [ad_to, show (5 + (n : Int) % 3).toNat = cut from by omega]
      (refine aG Z ?_)
      refine aS (val := .bool true) V Z Z Z Z (fun w hs => ?_) ?_; exact cC w 0 w.heap.size 0 w.heap.size _ _ ⟨p1, p2, p3, p4⟩ _ _ ([(n : Int) % (i : Int), 0, (n : Int) / 2 % (i : Int), 0, (n : Int) / 3 % (i : Int), 0, 0].take cut) [0, 0, 0, 0, 0] (O2.at hs U) (mO (hs.blk (b := c3) U) hcut) (Blk.rdI (l := [0, 0, 0, 0, 0]) (c := 5) (hs.blk (b := c4) U)) hnl (Nat.le_trans (List.length_take_le _ _) (Nat.le_trans hcut (by decide))) (show 5 ≤ maxLen by decide)
      (refine aG Z (aD V Z Z Z (aD V Z Z Z (aK ?_))))
      exact hK1 _ _ (bZ (hK3 () _ _ ⟨Z, Z, trivial⟩ U))
     ·refine aQ J fun K1 hK1 => ?_
      (refine aG Z ?_)
      refine cA 3 (aZ [0, 0, 0, 0, 0]) Z qR Z (fun c4 => ?_)
      (refine aG Z (aD V Z Z Z (aG Z (aD V Z Z Z (aG Z (bQ Z Z Z O O (aG Z (aD V Z Z Z (aG Z (dS Z Z Z O O O (aG Z (aD V Z Z Z ?_))))))))))); refine aG Z (bQ Z Z Z O O (aG Z (aD V Z Z Z (aG Z (dS Z Z Z O O O (aG Z (aD V Z Z Z (aG Z (bQ Z Z Z O O (aG Z ?_)))))))))))
      refine cA 3 (aZ [(n : Int) % (i : Int), 0, (n : Int) / 2 % (i : Int), 0, (n : Int) / 3 % (i : Int), 0, 0]) Z qR Z (fun c3 => ?_)
      (refine aG Z ?_; refine aO V Z Z Z ?_; refine aG Z ?_; refine aO V Z Z Z ?_; refine aG Z (aD V Z Z Z (aG Z (bQ Z Z Z O O (aG Z (bY V Z Z Z Z O O (aG Z ?_)))))))
      refine iF (l := 5 + (n : Int) % 3) (et := 3) (sz := 1) qR qR Z Z Z O O ?_
      rw [ad_to, show (5 + (n : Int) % 3).toNat = cut from by omega]
      (refine aG Z ?_)
      refine aS (val := .bool true) V Z Z Z Z (fun w hs => ?_) ?_; exact cC w 0 w.heap.size 0 w.heap.size _ _ ⟨p1, p2, p3, p4⟩ _ _ ([(n : Int) % (i : Int), 0, (n : Int) / 2 % (i : Int), 0, (n : Int) / 3 % (i : Int), 0, 0].take cut) [0, 0, 0, 0, 0] (O2.at hs U) (mO (hs.blk (b := c3) U) hcut) (Blk.rdI (l := [0, 0, 0, 0, 0]) (c := 5) (hs.blk (b := c4) U)) hnl (Nat.le_trans (List.length_take_le _ _) (Nat.le_trans hcut (by decide))) (show 5 ≤ maxLen by decide)
      (refine aG Z (aD V Z Z Z (aD V Z Z Z (aK ?_))))
      exact hK1 _ _ (bZ (hK3 () _ _ ⟨Z, Z, trivial⟩ U))
    ·refine aQ J fun K1 hK1 => ?_
     (refine aG Z ?_)
     refine cA 3 (aZ [0, 0, 0, 0, 0]) Z qR Z (fun c1 => ?_)
     (refine aK ?_)
     refine hK1 _ _ ?_
     refine bE ?_ ?_
     ·refine aQ J fun K1 hK1 => ?_
      (refine aG Z (aD V Z Z Z (aG Z (bQ Z Z Z O O (aG Z (qf_neg V Z Z O O (aG Z (aD V Z Z Z (aG Z (bQ Z Z Z O O (aG Z ?_)))))))))))
      refine bD (β := Nat) V [] _ M0 Z Z Z Z (Sp.refl _) qS (fun w' hs => qB _ _ w') ?_
      rintro bw _ rfl
      dsimp only [List.cons_append, List.nil_append]
      (refine aG Z ?_)
      refine cA 22 [.slice (some ⟨c1, 0, none⟩) 5 5] Z qR Z (fun c2 => ?_)
      (refine aG Z ?_; refine aO V Z Z Z ?_; refine aG Z (aD V Z Z Z (aG Z (bQ Z Z Z O O (aG Z (bY V Z Z Z Z O O (aG Z ?_)))))))
      refine aS (val := .bool true) V rfl rfl rfl rfl (fun w hs => ?_) ?_; exact fA w 0 w.heap.size 0 w.heap.size _ _ _ _ [(_, _), (_, _), (_, _), (_, _), (_, _)] _ [[0, 0, 0, 0, 0]] (O2.at hs U) (Blk.rdS (l := [(_, _), (_, _), (_, _), (_, _), (_, _)]) (hs.blk (b := bw) U) rfl) (wit0 (hs.blk (b := c1) U) (hs.blk (b := c2) U)) hnl (show 5 ≤ maxLen by decide) (show 1 ≤ maxLen by decide) (fun l hl => by obtain rfl := List.mem_singleton.1 hl; decide)
      (refine aG Z ?_; (iterate 3 refine aD V Z Z Z ?_); refine aG Z ?_; refine aO V Z Z Z ?_; refine aG Z ?_; refine aO V Z Z Z ?_; refine aG Z (aD V Z Z Z (aG Z (aD V Z Z Z (aG Z (bQ Z Z Z O O (aG Z (aD V Z Z Z (aG Z (dS Z Z Z O O O (aG Z (bQ Z Z Z O O ?_))))))))))); refine aG Z (aD V Z Z Z (aG Z (dS Z Z Z O O O (aG Z (bQ Z Z Z O O (aG Z (aD V Z Z Z (aG Z (bQ Z Z Z O O (aG Z (bY V Z Z Z Z O O ?_))))))))))); refine aG Z ?_)
      refine aS (val := .bool true) V Z Z Z Z (fun w hs => ?_) ?_; exact dW w 0 w.heap.size _ _ ⟨p1, p2, p3, p4⟩ _ vl2 _ _ _ _ (O2.at hs U) (hs.rdI (l := vl2) U hvl2.symm) hnl hvm
      (refine aG Z ?_; (iterate 3 refine aD V Z Z Z ?_); refine aK ?_)
      refine hK1 _ _ ?_
      refine bE ?_ ?_
      ·refine aQ J fun K1 hK1 => ?_
       (refine aG Z (aD V Z Z Z (aG Z (aD V Z Z Z (aG Z (bQ Z Z Z O O (aG Z (aD V Z Z Z (aG Z (dS Z Z Z O O O (aG Z (aD V Z Z Z ?_))))))))))); refine aG Z (bQ Z Z Z O O (aG Z (aD V Z Z Z (aG Z (dS Z Z Z O O O (aG Z (aD V Z Z Z (aG Z (bQ Z Z Z O O (aG Z ?_)))))))))))
       refine cA 3 (aZ [(n : Int) % (i : Int), 0, (n : Int) / 2 % (i : Int), 0, (n : Int) / 3 % (i : Int), 0, 0]) Z qR Z (fun c3 => ?_)
       (refine aG Z ?_)
       refine cA 3 (aZ [0, 0, 0, 0, 0]) Z qR Z (fun c4 => ?_)
       (refine aG Z ?_; refine aO V Z Z Z ?_; refine aG Z ?_; refine aO V Z Z Z ?_; refine aG Z (aD V Z Z Z (aG Z (bQ Z Z Z O O (aG Z (bY V Z Z Z Z O O (aG Z ?_)))))))
       refine iF (l := 5 + (n : Int) % 3) (et := 3) (sz := 1) qR qR Z Z Z O O ?_
       rw [ad_to, show (5 + (n : Int) % 3).toNat = cut from by omega]
       (refine aG Z ?_)
       refine aS (val := .bool true) V Z Z Z Z (fun w hs => ?_) ?_; exact cC w 0 w.heap.size 0 w.heap.size _ _ ⟨p1, p2, p3, p4⟩ _ _ ([(n : Int) % (i : Int), 0, (n : Int) / 2 % (i : Int), 0, (n : Int) / 3 % (i : Int), 0, 0].take cut) [0, 0, 0, 0, 0] (O2.at hs U) (mO (hs.blk (b := c3) U) hcut) (Blk.rdI (l := [0, 0, 0, 0, 0]) (c := 5) (hs.blk (b := c4) U)) hnl (Nat.le_trans (List.length_take_le _ _) (Nat.le_trans hcut (by decide))) (show 5 ≤ maxLen by decide)
       (refine aG Z (aD V Z Z Z (aD V Z Z Z (aK ?_))))
       exact hK1 _ _ (bZ (hK3 () _ _ ⟨Z, Z, trivial⟩ U))
      ·refine aQ J fun K1 hK1 => ?_
       (refine aG Z ?_)
       refine cA 3 (aZ [0, 0, 0, 0, 0]) Z qR Z (fun c4 => ?_)
       (refine aG Z (aD V Z Z Z (aG Z (aD V Z Z Z (aG Z (bQ Z Z Z O O (aG Z (aD V Z Z Z (aG Z (dS Z Z Z O O O (aG Z (aD V Z Z Z ?_))))))))))); refine aG Z (bQ Z Z Z O O (aG Z (aD V Z Z Z (aG Z (dS Z Z Z O O O (aG Z (aD V Z Z Z (aG Z (bQ Z Z Z O O (aG Z ?_)))))))))))
       refine cA 3 (aZ [(n : Int) % (i : Int), 0, (n : Int) / 2 % (i : Int), 0, (n : Int) / 3 % (i : Int), 0, 0]) Z qR Z (fun c3 => ?_)
       (refine aG Z ?_; refine aO V Z Z Z ?_; refine aG Z ?_; refine aO V Z Z Z ?_; refine aG Z (aD V Z Z Z (aG Z (bQ Z Z Z O O (aG Z (bY V Z Z Z Z O O (aG Z ?_)))))))
       refine iF (l := 5 + (n : Int) % 3) (et := 3) (sz := 1) qR qR Z Z Z O O ?_
       rw [ad_to, show (5 + (n : Int) % 3).toNat = cut from by omega]
       (refine aG Z ?_)
       refine aS (val := .bool true) V Z Z Z Z (fun w hs => ?_) ?_; exact cC w 0 w.heap.size 0 w.heap.size _ _ ⟨p1, p2, p3, p4⟩ _ _ ([(n : Int) % (i : Int), 0, (n : Int) / 2 % (i : Int), 0, (n : Int) / 3 % (i : Int), 0, 0].take cut) [0, 0, 0, 0, 0] (O2.at hs U) (mO (hs.blk (b := c3) U) hcut) (Blk.rdI (l := [0, 0, 0, 0, 0]) (c := 5) (hs.blk (b := c4) U)) hnl (Nat.le_trans (List.length_take_le _ _) (Nat.le_trans hcut (by decide))) (show 5 ≤ maxLen by decide)
       (refine aG Z (aD V Z Z Z (aD V Z Z Z (aK ?_))))
       exact hK1 _ _ (bZ (hK3 () _ _ ⟨Z, Z, trivial⟩ U))
     ·refine aQ J fun K1 hK1 => ?_
      (refine aG Z ?_)
      refine cA 22 [.slice (some ⟨c1, 0, none⟩) 5 5] Z qR Z (fun c2 => ?_)
      (refine aG Z (aD V Z Z Z (aG Z (bQ Z Z Z O O (aG Z (qf_neg V Z Z O O (aG Z (aD V Z Z Z (aG Z (bQ Z Z Z O O (aG Z ?_)))))))))))
      refine bD (β := Nat) V [] _ M0 Z Z Z Z (Sp.refl _) qS (fun w' hs => qB _ _ w') ?_
      rintro bw _ rfl
      dsimp only [List.cons_append, List.nil_append]
      (refine aG Z ?_; refine aO V Z Z Z ?_; refine aG Z (aD V Z Z Z (aG Z (bQ Z Z Z O O (aG Z (bY V Z Z Z Z O O (aG Z ?_)))))))
      refine aS (val := .bool true) V rfl rfl rfl rfl (fun w hs => ?_) ?_; exact fA w 0 w.heap.size 0 w.heap.size _ _ _ _ [(_, _), (_, _), (_, _), (_, _), (_, _)] _ [[0, 0, 0, 0, 0]] (O2.at hs U) (Blk.rdS (l := [(_, _), (_, _), (_, _), (_, _), (_, _)]) (hs.blk (b := bw) U) rfl) (wit0 (hs.blk (b := c1) U) (hs.blk (b := c2) U)) hnl (show 5 ≤ maxLen by decide) (show 1 ≤ maxLen by decide) (fun l hl => by obtain rfl := List.mem_singleton.1 hl; decide)
      (refine aG Z ?_; (iterate 3 refine aD V Z Z Z ?_); refine aG Z ?_; refine aO V Z Z Z ?_; refine aG Z ?_; refine aO V Z Z Z ?_; refine aG Z (aD V Z Z Z (aG Z (aD V Z Z Z (aG Z (bQ Z Z Z O O (aG Z (aD V Z Z Z (aG Z (dS Z Z Z O O O (aG Z (bQ Z Z Z O O ?_))))))))))); refine aG Z (aD V Z Z Z (aG Z (dS Z Z Z O O O (aG Z (bQ Z Z Z O O (aG Z (aD V Z Z Z (aG Z (bQ Z Z Z O O (aG Z (bY V Z Z Z Z O O ?_))))))))))); refine aG Z ?_)
      refine aS (val := .bool true) V Z Z Z Z (fun w hs => ?_) ?_; exact dW w 0 w.heap.size _ _ ⟨p1, p2, p3, p4⟩ _ vl2 _ _ _ _ (O2.at hs U) (hs.rdI (l := vl2) U hvl2.symm) hnl hvm
      (refine aG Z ?_; (iterate 3 refine aD V Z Z Z ?_); refine aK ?_)
      refine hK1 _ _ ?_
      refine bE ?_ ?_
      ·refine aQ J fun K1 hK1 => ?_
       (refine aG Z (aD V Z Z Z (aG Z (aD V Z Z Z (aG Z (bQ Z Z Z O O (aG Z (aD V Z Z Z (aG Z (dS Z Z Z O O O (aG Z (aD V Z Z Z ?_))))))))))); refine aG Z (bQ Z Z Z O O (aG Z (aD V Z Z Z (aG Z (dS Z Z Z O O O (aG Z (aD V Z Z Z (aG Z (bQ Z Z Z O O (aG Z ?_)))))))))))
       refine cA 3 (aZ [(n : Int) % (i : Int), 0, (n : Int) / 2 % (i : Int), 0, (n : Int) / 3 % (i : Int), 0, 0]) Z qR Z (fun c3 => ?_)
       (refine aG Z ?_)
       refine cA 3 (aZ [0, 0, 0, 0, 0]) Z qR Z (fun c4 => ?_)
       (refine aG Z ?_; refine aO V Z Z Z ?_; refine aG Z ?_; refine aO V Z Z Z ?_; refine aG Z (aD V Z Z Z (aG Z (bQ Z Z Z O O (aG Z (bY V Z Z Z Z O O (aG Z ?_)))))))
       refine iF (l := 5 + (n : Int) % 3) (et := 3) (sz := 1) qR qR Z Z Z O O ?_
       rw [ad_to, show (5 + (n : Int) % 3).toNat = cut from by omega]
       (refine aG Z ?_)
       refine aS (val := .bool true) V Z Z Z Z (fun w hs => ?_) ?_; exact cC w 0 w.heap.size 0 w.heap.size _ _ ⟨p1, p2, p3, p4⟩ _ _ ([(n : Int) % (i : Int), 0, (n : Int) / 2 % (i : Int), 0, (n : Int) / 3 % (i : Int), 0, 0].take cut) [0, 0, 0, 0, 0] (O2.at hs U) (mO (hs.blk (b := c3) U) hcut) (Blk.rdI (l := [0, 0, 0, 0, 0]) (c := 5) (hs.blk (b := c4) U)) hnl (Nat.le_trans (List.length_take_le _ _) (Nat.le_trans hcut (by decide))) (show 5 ≤ maxLen by decide)
       (refine aG Z (aD V Z Z Z (aD V Z Z Z (aK ?_))))
       exact hK1 _ _ (bZ (hK3 () _ _ ⟨Z, Z, trivial⟩ U))
      ·refine aQ J fun K1 hK1 => ?_
       (refine aG Z ?_)
       refine cA 3 (aZ [0, 0, 0, 0, 0]) Z qR Z (fun c4 => ?_)
       (refine aG Z (aD V Z Z Z (aG Z (aD V Z Z Z (aG Z (bQ Z Z Z O O (aG Z (aD V Z Z Z (aG Z (dS Z Z Z O O O (aG Z (aD V Z Z Z ?_))))))))))); refine aG Z (bQ Z Z Z O O (aG Z (aD V Z Z Z (aG Z (dS Z Z Z O O O (aG Z (aD V Z Z Z (aG Z (bQ Z Z Z O O (aG Z ?_)))))))))))
       refine cA 3 (aZ [(n : Int) % (i : Int), 0, (n : Int) / 2 % (i : Int), 0, (n : Int) / 3 % (i : Int), 0, 0]) Z qR Z (fun c3 => ?_)
       (refine aG Z ?_; refine aO V Z Z Z ?_; refine aG Z ?_; refine aO V Z Z Z ?_; refine aG Z (aD V Z Z Z (aG Z (bQ Z Z Z O O (aG Z (bY V Z Z Z Z O O (aG Z ?_)))))))
       refine iF (l := 5 + (n : Int) % 3) (et := 3) (sz := 1) qR qR Z Z Z O O ?_
       rw [ad_to, show (5 + (n : Int) % 3).toNat = cut from by omega]
       (refine aG Z ?_)
       refine aS (val := .bool true) V Z Z Z Z (fun w hs => ?_) ?_; exact cC w 0 w.heap.size 0 w.heap.size _ _ ⟨p1, p2, p3, p4⟩ _ _ ([(n : Int) % (i : Int), 0, (n : Int) / 2 % (i : Int), 0, (n : Int) / 3 % (i : Int), 0, 0].take cut) [0, 0, 0, 0, 0] (O2.at hs U) (mO (hs.blk (b := c3) U) hcut) (Blk.rdI (l := [0, 0, 0, 0, 0]) (c := 5) (hs.blk (b := c4) U)) hnl (Nat.le_trans (List.length_take_le _ _) (Nat.le_trans hcut (by decide))) (show 5 ≤ maxLen by decide)
       (refine aG Z (aD V Z Z Z (aD V Z Z Z (aK ?_))))
       exact hK1 _ _ (bZ (hK3 () _ _ ⟨Z, Z, trivial⟩ U))
   rintro _
   (refine aL Z (aR (bL (aB (bB V Z Z Z Z O O (aA V Z Z (aF ?_)))))))
   exact hK (n + 1) _ _ O O ⟨Z, trivial⟩ U
  ·clear hc hK hn
   (refine bJ _ Z (aE (aE (aB (aA V Z Z (aF (aP ?_)))))))
   refine bN (σ := Nat) (fun n => n ≤ 25) (fun n => 25 - n) (fun n => [(447, .int .i64 n)]) (fun _ => []) 0 O ⟨Z, trivial⟩ U ?_
   rintro n hn K hK
   (refine aE (aB (aA V Z Z (aF (aE ?_)))))
   refine dD Z (fun hc => ?_) (fun hc => ?_)
   ·have hn2 : n < 25 := by first | omega | (simp at hc; omega)
    clear hc
    (refine aR (aE (aP (aE (aB (aA V Z Z (aA V Z Z (aF (aE (aB ?_))))))))))
    refine bO (β := Nat × Nat × Nat × Nat × Nat × Nat) V [] _ M0 Z Z Z Z (Sp.refl _) qS (fun w' hs => fC w') ?_
    rintro ⟨b1, b2, b3, c4, c5, c6⟩ _ rfl
    dsimp only [List.cons_append, List.nil_append]
    (refine aA V Z Z (aA V Z Z ?_))
    obtain ⟨m, hm⟩ := Int.eq_ofNat_of_zero_le (show 0 ≤ min (n : Int) 7 by omega)
    rw [hm]
    have hm7 : m = min n 7 := by omega
    refine cE #[.int .i64 9, .int .i64 3, .int .i64 m, .int .i64 12, .slice none 0 0, .slice none 0 0, .slice none 0 0, .slice none 0 0] Z qR Z ?_
    refine aV cU Z (fun bw => ?_)
    refine aV cU Z (fun bm => ?_)
    ((iterate 2 refine aY V Z Z Z Z Z U rfl ?_); refine aF (aE (aB (aA V Z Z ?_))))
    refine ql_makeI slI Z Z Z O (fun gb => ?_)
    rw [← wG_zero n]
    (refine aA V Z Z ?_; refine ql_st4 V Z Z Z Z U ?_; refine aF (aE (aE (aB (aA V Z Z (aA V Z Z (aF (aP ?_))))))))
    refine bN (σ := Nat) (fun i => i ≤ n) (fun i => n - i) (fun i => [(447, .int .i64 n), (30, .int .i64 n), (31, .pointer (some ⟨bw, 0, none⟩)), (32, .pointer (some ⟨bm, 0, none⟩)), (457, .int .i64 n), (458, .int .i64 i)]) (fun i => [.pt gb (aZ (wG n i)) 3, .pt bw (CW gb b2 b3 c6 n) 25, .pt c6 [.slice (some ⟨c4, 0, none⟩) 2 2, .slice (some ⟨c5, 0, none⟩) 2 2] 22, .pt c5 (aZ [0, 2]) 3, .pt c4 (aZ [2, 0]) 3, .pt b3 (aZ [1, 1]) 3, .pt b2 (aZ [0, 3]) 3, .pt bm [.int .i64 9, .int .i64 3, .int .i64 m, .int .i64 12, .slice none 0 0, .slice none 0 0, .slice none 0 0, .slice none 0 0] 25]) 0 O ⟨Z, Z, Z, Z, Z, Z, trivial⟩ U ?_
    rintro i hi K2 hK2
    (refine aE (aB (aA V Z Z (aF (aE ?_)))))
    refine dD Z (fun hc => ?_) (fun hc => ?_)
    ·have hi2 : i < n := by omega
     clear hc
     (refine aR (aE (aP (aE (aB (aA V Z Z (aA V Z Z (aF (aB (aA V Z Z ?_))))))))); refine aH V Z Z Z ?_; refine aA V Z Z (aA V Z Z (dE Z Z Z O O (bB V Z Z Z Z O O (bB V Z Z Z Z O O ?_)))))
     refine bW V Z Z Z Z Z O O ?_
     have hi3 : i < (wG n i).length := by rw [wG_len]; exact hi2
     refine jT V (i) Z Z Z U (by first | rfl | omega | simp) hi3 ?_
     (refine aF (bL (aB (bB V Z Z Z Z O O (aA V Z Z (aF ?_))))))
     exact hK2 (i + 1) _ _ O O ⟨Z, Z, Z, Z, Z, Z, trivial⟩ (by rw [← wG_set n hn2 i hi2]; repeat constructor)
    have hin : n = i := by omega
    subst hin
    clear hc hK2 hi
    (refine bJ _ Z (aE (aE (aB ?_))); (iterate 3 refine aA V Z Z ?_); refine aF (aP ?_))
    rw [hm]
    refine fD (H' := un (PW gb b2 b3 c4 c5 c6 n) :: [.pt bw (CW gb b2 b3 c6 n) 25, .pt bm [.int .i64 9, .int .i64 3, .int .i64 m, .int .i64 12, .slice none 0 0, .slice none 0 0, .slice none 0 0, .slice none 0 0] 25]) (fun w' hs => Sat.un_iff.2 (hs.sp U)) ?_
    have OWd := ownW gb b2 b3 c4 c5 c6 n
    refine fD (H' := [un (PW gb b2 b3 c4 c5 c6 n), .pt bw (CW gb b2 b3 c6 n) 25, .pt bm [.int .i64 9, .int .i64 3, .int .i64 m, .int .i64 12, .slice none 0 0, .slice none 0 0, .slice none 0 0, .slice none 0 0] 25, .ow (.slice none 0 0) 3 1 0 (aZ (mD 0)), .ow (.slice none 0 0) 3 1 0 (aZ (List.replicate 0 0)), .ow (.slice none 0 0) 22 1 0 (dZ []), un (cW [])]) (fun w' hs => (Sat.ownil (Sat.ownil (Sat.ownil (Sat.un_nil hs) 22 1) 3 1) 3 1).sp U) ?_
    refine bN (σ := Nat × (Value × Value × Value) × List (Nat × List Int)) (fun y => y.1 ≤ m ∧ y.2.2.length = y.1 ∧ ∀ z ∈ y.2.2, z.2 = List.replicate m 0) (fun y => m - y.1) (fun y => [(447, .int .i64 n), (30, .int .i64 n), (31, .pointer (some ⟨bw, 0, none⟩)), (32, .pointer (some ⟨bm, 0, none⟩)), (471, .int .i64 m), (472, .int .i64 y.1)])
     (fun y => [un (PW gb b2 b3 c4 c5 c6 n), .pt bw (CW gb b2 b3 c6 n) 25, .pt bm [.int .i64 9, .int .i64 3, .int .i64 m, .int .i64 12, .slice none 0 0, y.2.1.1, y.2.1.2.1, y.2.1.2.2] 25, .ow y.2.1.1 3 1 y.1 (aZ (mD y.1)), .ow y.2.1.2.1 3 1 y.1 (aZ (List.replicate y.1 0)), .ow y.2.1.2.2 22 1 y.1 (dZ y.2.2), un (cW y.2.2)]) (0, (.slice none 0 0, .slice none 0 0, .slice none 0 0), []) ⟨by omega, rfl, fun z hz => by cases hz⟩ ⟨rfl, rfl, rfl, rfl, rfl, rfl, trivial⟩ U ?_
    rintro ⟨k, ⟨dv, fv, nv⟩, xs⟩ ⟨hk, hxl, hxz⟩ K3 hK3
    dsimp only at hk hxl hxz ⊢
    (refine aE (aB (aA V Z Z (aF (aE ?_)))))
    refine dD Z (fun hc => ?_) (fun hc => ?_)
    ·have hk2 : k < m := by omega
     clear hc
     refine lS (fun w hs => hs.slice2 (v := dv) U) ?_
     rintro ⟨da, dc, rfl⟩
     (refine aR (aE (aP ?_)))
     refine q_drawX (tM6_cca5405) [true, true, true, true, true, true, true, true, true, true, true, true, true, true, true, true, true, true, true, true, false, false, false, false, false, false] [MB bm m (.slice da k dc) (fv) (nv), un (PW gb b2 b3 c4 c5 c6 n), .pt bw (CW gb b2 b3 c6 n) 25, un (cW xs)] [PA (.slice da k dc) k, PB fv k, PC nv k xs] [un (PW gb b2 b3 c4 c5 c6 n), .pt bw (CW gb b2 b3 c6 n) 25, un (cW xs)] [MB bm m (.slice da k dc) (fv) (nv)] U U qR qR qR ?_
     refine fX (σ := Nat × Value × Nat × Value × Nat × Nat × Value × Unit) (tM6_a35bbd9) (fun ⟨lt0, ap0, lt1, ap1, rb, lt2, ap2, ()⟩ => LV n bw bm m k ++ [(482, ap0), (486, ap1), (493, ap2)]) (fun ⟨lt0, ap0, lt1, ap1, rb, lt2, ap2, ()⟩ => [OA ap0 k, OB ap1 k, OC ap2 k xs rb m, .pt rb (aZ (List.replicate m 0)) 3, MB bm m (.slice da k dc) (fv) (nv), un (PW gb b2 b3 c4 c5 c6 n), .pt bw (CW gb b2 b3 c6 n) 25, un (cW xs)]) ?_ (fun hS7_8_11_12_17_18_19 => ?_)
     ·rintro ⟨lt0, ap0, lt1, ap1, rb, lt2, ap2, _⟩
      refine qx_F [OA ap0 k, OB ap1 k, OC ap2 k xs rb m, .pt rb (aZ (List.replicate m 0)) 3, MB bm m (.slice da k dc) (fv) (nv)] J Z U fun K1 hK1 => ?_
      refine kG (fun w hs => hs.slice (v := ap0) U) ?_
      rintro ⟨w0, g5, d0, rfl⟩
      refine kG (fun w hs => hs.slice (v := ap1) U) ?_
      rintro ⟨w1, g6, d1, rfl⟩
      refine kG (fun w hs => hs.slice (v := ap2) U) ?_
      rintro ⟨w2, g7, d2, rfl⟩
      (refine aD V Z Z Z ?_; refine qf_st5 V Z Z Z Z U ?_; refine aD V Z Z Z ?_; refine qf_st6 V Z Z Z Z U ?_; refine aD V Z Z Z ?_; refine qf_st7 V Z Z Z Z U ?_; refine aK ?_)
      refine hK1 _ _ (qx_nil ?_)
      (refine bL (aB (bB V Z Z Z Z O O (aA V Z Z (aF ?_)))))
      refine fD (H' := un (cW (xs ++ [(rb, List.replicate m 0)])) :: .ow (.slice w2 g7 d2) 22 1 (k + 1) (dZ (xs ++ [(rb, List.replicate m 0)])) :: [MB bm m (.slice w0 g5 d0) (.slice w1 g6 d1) (.slice w2 g7 d2), .ow (.slice w0 g5 d0) 3 1 (k + 1) (aZ (mD k) ++ [.int .i64 (7 * (k : Int) - 9)]), .ow (.slice w1 g6 d1) 3 1 (k + 1) (aZ (List.replicate k 0) ++ [.int .i64 0]), un (PW gb b2 b3 c4 c5 c6 n), .pt bw (CW gb b2 b3 c6 n) 25]) (fun w' hs => rows_in (by rw [List.length_replicate]; exact hs.sp U)) ?_
      exact hK3 (k + 1, (.slice w0 g5 d0, .slice w1 g6 d1, .slice w2 g7 d2), xs ++ [(rb, List.replicate m 0)]) _ _ ⟨by simp only; omega, by simp [hxl], fun z hz => by rcases List.mem_append.1 hz with hz | hz; exact hxz z hz; rw [List.mem_singleton.1 hz]⟩ (by simp only; omega) ⟨rfl, rfl, rfl, rfl, rfl, rfl, trivial⟩ (by dsimp only; rw [show aZ (mD (k + 1)) = aZ (mD k) ++ [.int .i64 (7 * (k : Int) - 9)] from by rw [mD_succ]; simp [aZ], show aZ (List.replicate (k + 1) 0) = aZ (List.replicate k 0) ++ [.int .i64 0] from by rw [List.replicate_succ']; simp [aZ]]; repeat constructor)
     refine fX (σ := Nat × Value × Nat × Value × Nat × Nat × Unit) (pU) (fun ⟨lt0, ap0, lt1, ap1, rb, lt2, ()⟩ => LV n bw bm m k ++ [(482, ap0), (486, ap1), (492, .slice (some ⟨lt2, 0, none⟩) 1 1)]) (fun ⟨lt0, ap0, lt1, ap1, rb, lt2, ()⟩ => [OA ap0 k, OB ap1 k, PC nv k xs, .pt lt2 [.slice (some ⟨rb, 0, none⟩) m m] 22, .pt rb (aZ (List.replicate m 0)) 3, MB bm m (.slice da k dc) (fv) (nv), un (PW gb b2 b3 c4 c5 c6 n), .pt bw (CW gb b2 b3 c6 n) 25, un (cW xs)]) ?_ (fun hS7_8_11_12_17_18 => ?_)
     ·rintro ⟨lt0, ap0, lt1, ap1, rb, lt2, _⟩
      refine kQ [OA ap0 k, OB ap1 k, PC nv k xs, .pt lt2 [.slice (some ⟨rb, 0, none⟩) m m] 22, .pt rb (aZ (List.replicate m 0)) 3] J Z U fun K1 hK1 => ?_
      (refine aD V Z Z Z ?_; refine aT V Z Z Z ?_)
      refine eG (q := 1) slII Z Z Z (fun v' => by repeat constructor) (fun w' hs => ⟨_, _, Blk.rd (hs.blk (b := lt2) U) Z 1⟩) (by simp [dY]) O O (fun ap2 => ?_)
      (refine aK ?_)
      exact hK1 _ _ (hS7_8_11_12_17_18_19 ⟨lt0, ap0, lt1, ap1, rb, lt2, ap2, ()⟩ _ _ ⟨Z, Z, Z, Z, Z, Z, Z, Z, Z, trivial⟩ U)
     refine fX (σ := Nat × Value × Nat × Value × Nat × Unit) (oQ) (fun ⟨lt0, ap0, lt1, ap1, rb, ()⟩ => LV n bw bm m k ++ [(482, ap0), (486, ap1), (491, .slice (some ⟨rb, 0, none⟩) m m)]) (fun ⟨lt0, ap0, lt1, ap1, rb, ()⟩ => [OA ap0 k, OB ap1 k, PC nv k xs, .pt rb (aZ (List.replicate m 0)) 3, MB bm m (.slice da k dc) (fv) (nv), un (PW gb b2 b3 c4 c5 c6 n), .pt bw (CW gb b2 b3 c6 n) 25, un (cW xs)]) ?_ (fun hS7_8_11_12_17 => ?_)
     ·rintro ⟨lt0, ap0, lt1, ap1, rb, _⟩
      refine kQ [OA ap0 k, OB ap1 k, PC nv k xs, .pt rb (aZ (List.replicate m 0)) 3] J Z U fun K1 hK1 => ?_
      refine cA 22 [.slice (some ⟨rb, 0, none⟩) m m] Z qR Z (fun lt2 => ?_)
      (refine aK ?_)
      exact hK1 _ _ (hS7_8_11_12_17_18 ⟨lt0, ap0, lt1, ap1, rb, lt2, ()⟩ _ _ ⟨Z, Z, Z, Z, Z, Z, Z, Z, Z, trivial⟩ U)
     refine fX (σ := Nat × Value × Nat × Nat × Nat × Unit) (kM) (fun ⟨lt0, ap0, lt1, rb, lt2, ()⟩ => LV n bw bm m k ++ [(482, ap0), (485, .slice (some ⟨lt1, 0, none⟩) 1 1), (492, .slice (some ⟨lt2, 0, none⟩) 1 1)]) (fun ⟨lt0, ap0, lt1, rb, lt2, ()⟩ => [OA ap0 k, PB fv k, .pt lt1 [.int .i64 0] 3, PC nv k xs, .pt lt2 [.slice (some ⟨rb, 0, none⟩) m m] 22, .pt rb (aZ (List.replicate m 0)) 3, MB bm m (.slice da k dc) (fv) (nv), un (PW gb b2 b3 c4 c5 c6 n), .pt bw (CW gb b2 b3 c6 n) 25, un (cW xs)]) ?_ (fun hS7_8_11_17_18 => ?_)
     ·rintro ⟨lt0, ap0, lt1, rb, lt2, _⟩
      refine kQ [OA ap0 k, PB fv k, .pt lt1 [.int .i64 0] 3, PC nv k xs, .pt lt2 [.slice (some ⟨rb, 0, none⟩) m m] 22, .pt rb (aZ (List.replicate m 0)) 3] J Z U fun K1 hK1 => ?_
      (refine aD V Z Z Z ?_; refine aT V Z Z Z ?_)
      refine eG (q := 1) slI Z Z Z (fun v' => by repeat constructor) (fun w' hs => ⟨_, _, Blk.rd (hs.blk (b := lt1) U) Z 1⟩) (by simp [dY]) O O (fun ap1 => ?_)
      (refine aK ?_)
      exact hK1 _ _ (hS7_8_11_12_17_18 ⟨lt0, ap0, lt1, ap1, rb, lt2, ()⟩ _ _ ⟨Z, Z, Z, Z, Z, Z, Z, Z, Z, trivial⟩ U)
     refine fX (σ := Nat × Value × Nat × Value × Unit) (tM6_be434a6) (fun ⟨lt0, ap0, lt1, ap1, ()⟩ => LV n bw bm m k ++ [(482, ap0), (486, ap1)]) (fun ⟨lt0, ap0, lt1, ap1, ()⟩ => [OA ap0 k, OB ap1 k, PC nv k xs, MB bm m (.slice da k dc) (fv) (nv), un (PW gb b2 b3 c4 c5 c6 n), .pt bw (CW gb b2 b3 c6 n) 25, un (cW xs)]) ?_ (fun hS7_8_11_12 => ?_)
     ·rintro ⟨lt0, ap0, lt1, ap1, _⟩
      refine kQ [OA ap0 k, OB ap1 k, PC nv k xs] J Z U fun K1 hK1 => ?_
      (refine aD V Z Z Z (aD V Z Z Z ?_))
      rw [hm]
      refine cM slI Z Z Z O (fun rb => ?_)
      (refine aK ?_)
      exact hK1 _ _ (hS7_8_11_12_17 ⟨lt0, ap0, lt1, ap1, rb, ()⟩ _ _ ⟨Z, Z, Z, Z, Z, Z, Z, Z, Z, trivial⟩ U)
     refine fX (σ := Nat × Value × Nat × Nat × Unit) (kR) (fun ⟨lt0, ap0, lt1, rb, ()⟩ => LV n bw bm m k ++ [(482, ap0), (485, .slice (some ⟨lt1, 0, none⟩) 1 1), (491, .slice (some ⟨rb, 0, none⟩) m m)]) (fun ⟨lt0, ap0, lt1, rb, ()⟩ => [OA ap0 k, PB fv k, .pt lt1 [.int .i64 0] 3, PC nv k xs, .pt rb (aZ (List.replicate m 0)) 3, MB bm m (.slice da k dc) (fv) (nv), un (PW gb b2 b3 c4 c5 c6 n), .pt bw (CW gb b2 b3 c6 n) 25, un (cW xs)]) ?_ (fun hS7_8_11_17 => ?_)
     ·rintro ⟨lt0, ap0, lt1, rb, _⟩
      refine gM ?_ ?_
      ·refine kQ [OA ap0 k, PB fv k, .pt lt1 [.int .i64 0] 3, PC nv k xs, .pt rb (aZ (List.replicate m 0)) 3] J Z U fun K1 hK1 => ?_
       (refine aD V Z Z Z ?_; refine aT V Z Z Z ?_)
       refine eG (q := 1) slI Z Z Z (fun v' => by repeat constructor) (fun w' hs => ⟨_, _, Blk.rd (hs.blk (b := lt1) U) Z 1⟩) (by simp [dY]) O O (fun ap1 => ?_)
       (refine aK ?_)
       exact hK1 _ _ (hS7_8_11_12_17 ⟨lt0, ap0, lt1, ap1, rb, ()⟩ _ _ ⟨Z, Z, Z, Z, Z, Z, Z, Z, Z, trivial⟩ U)
      ·refine kQ [OA ap0 k, PB fv k, .pt lt1 [.int .i64 0] 3, PC nv k xs, .pt rb (aZ (List.replicate m 0)) 3] J Z U fun K1 hK1 => ?_
       refine cA 22 [.slice (some ⟨rb, 0, none⟩) m m] Z qR Z (fun lt2 => ?_)
       (refine aK ?_)
       exact hK1 _ _ (hS7_8_11_17_18 ⟨lt0, ap0, lt1, rb, lt2, ()⟩ _ _ ⟨Z, Z, Z, Z, Z, Z, Z, Z, Z, trivial⟩ U)
     refine fX (σ := Nat × Value × Nat × Nat × Unit) (pH) (fun ⟨lt0, ap0, rb, lt2, ()⟩ => LV n bw bm m k ++ [(482, ap0), (492, .slice (some ⟨lt2, 0, none⟩) 1 1)]) (fun ⟨lt0, ap0, rb, lt2, ()⟩ => [OA ap0 k, PB fv k, PC nv k xs, .pt lt2 [.slice (some ⟨rb, 0, none⟩) m m] 22, .pt rb (aZ (List.replicate m 0)) 3, MB bm m (.slice da k dc) (fv) (nv), un (PW gb b2 b3 c4 c5 c6 n), .pt bw (CW gb b2 b3 c6 n) 25, un (cW xs)]) ?_ (fun hS7_8_17_18 => ?_)
     ·rintro ⟨lt0, ap0, rb, lt2, _⟩
      refine kQ [OA ap0 k, PB fv k, PC nv k xs, .pt lt2 [.slice (some ⟨rb, 0, none⟩) m m] 22, .pt rb (aZ (List.replicate m 0)) 3] J Z U fun K1 hK1 => ?_
      refine cA 3 [.int .i64 0] Z qR Z (fun lt1 => ?_)
      (refine aK ?_)
      exact hK1 _ _ (hS7_8_11_17_18 ⟨lt0, ap0, lt1, rb, lt2, ()⟩ _ _ ⟨Z, Z, Z, Z, Z, Z, Z, Z, Z, trivial⟩ U)
     refine fX (σ := Nat × Nat × Nat × Nat × Unit) (kA) (fun ⟨lt0, lt1, rb, lt2, ()⟩ => LV n bw bm m k ++ [(481, .slice (some ⟨lt0, 0, none⟩) 1 1), (485, .slice (some ⟨lt1, 0, none⟩) 1 1), (492, .slice (some ⟨lt2, 0, none⟩) 1 1)]) (fun ⟨lt0, lt1, rb, lt2, ()⟩ => [PA (.slice da k dc) k, .pt lt0 [.int .i64 (7 * (k : Int) - 9)] 3, PB fv k, .pt lt1 [.int .i64 0] 3, PC nv k xs, .pt lt2 [.slice (some ⟨rb, 0, none⟩) m m] 22, .pt rb (aZ (List.replicate m 0)) 3, MB bm m (.slice da k dc) (fv) (nv), un (PW gb b2 b3 c4 c5 c6 n), .pt bw (CW gb b2 b3 c6 n) 25, un (cW xs)]) ?_ (fun hS7_11_17_18 => ?_)
     ·rintro ⟨lt0, lt1, rb, lt2, _⟩
      refine kQ [PA (.slice da k dc) k, .pt lt0 [.int .i64 (7 * (k : Int) - 9)] 3, PB fv k, .pt lt1 [.int .i64 0] 3, PC nv k xs, .pt lt2 [.slice (some ⟨rb, 0, none⟩) m m] 22, .pt rb (aZ (List.replicate m 0)) 3] J Z U fun K1 hK1 => ?_
      (refine aD V Z Z Z ?_; refine aT V Z Z Z ?_)
      refine eG (q := 1) slI Z Z Z (fun v' => by repeat constructor) (fun w' hs => ⟨_, _, Blk.rd (hs.blk (b := lt0) U) Z 1⟩) (by simp [dY]) O O (fun ap0 => ?_)
      (refine aK ?_)
      exact hK1 _ _ (hS7_8_11_17_18 ⟨lt0, ap0, lt1, rb, lt2, ()⟩ _ _ ⟨Z, Z, Z, Z, Z, Z, Z, Z, Z, trivial⟩ U)
     refine fX (σ := Nat × Value × Nat × Unit) (oY) (fun ⟨lt0, ap0, lt1, ()⟩ => LV n bw bm m k ++ [(482, ap0), (485, .slice (some ⟨lt1, 0, none⟩) 1 1)]) (fun ⟨lt0, ap0, lt1, ()⟩ => [OA ap0 k, PB fv k, .pt lt1 [.int .i64 0] 3, PC nv k xs, MB bm m (.slice da k dc) (fv) (nv), un (PW gb b2 b3 c4 c5 c6 n), .pt bw (CW gb b2 b3 c6 n) 25, un (cW xs)]) ?_ (fun hS7_8_11 => ?_)
     ·rintro ⟨lt0, ap0, lt1, _⟩
      refine gM ?_ ?_
      ·refine kQ [OA ap0 k, PB fv k, .pt lt1 [.int .i64 0] 3, PC nv k xs] J Z U fun K1 hK1 => ?_
       (refine aD V Z Z Z ?_; refine aT V Z Z Z ?_)
       refine eG (q := 1) slI Z Z Z (fun v' => by repeat constructor) (fun w' hs => ⟨_, _, Blk.rd (hs.blk (b := lt1) U) Z 1⟩) (by simp [dY]) O O (fun ap1 => ?_)
       (refine aK ?_)
       exact hK1 _ _ (hS7_8_11_12 ⟨lt0, ap0, lt1, ap1, ()⟩ _ _ ⟨Z, Z, Z, Z, Z, Z, Z, Z, trivial⟩ U)
      ·refine kQ [OA ap0 k, PB fv k, .pt lt1 [.int .i64 0] 3, PC nv k xs] J Z U fun K1 hK1 => ?_
       (refine aD V Z Z Z (aD V Z Z Z ?_))
       rw [hm]
       refine cM slI Z Z Z O (fun rb => ?_)
       (refine aK ?_)
       exact hK1 _ _ (hS7_8_11_17 ⟨lt0, ap0, lt1, rb, ()⟩ _ _ ⟨Z, Z, Z, Z, Z, Z, Z, Z, Z, trivial⟩ U)
     refine fX (σ := Nat × Value × Nat × Unit) (nS) (fun ⟨lt0, ap0, rb, ()⟩ => LV n bw bm m k ++ [(482, ap0), (491, .slice (some ⟨rb, 0, none⟩) m m)]) (fun ⟨lt0, ap0, rb, ()⟩ => [OA ap0 k, PB fv k, PC nv k xs, .pt rb (aZ (List.replicate m 0)) 3, MB bm m (.slice da k dc) (fv) (nv), un (PW gb b2 b3 c4 c5 c6 n), .pt bw (CW gb b2 b3 c6 n) 25, un (cW xs)]) ?_ (fun hS7_8_17 => ?_)
     ·rintro ⟨lt0, ap0, rb, _⟩
      refine gM ?_ ?_
      ·refine kQ [OA ap0 k, PB fv k, PC nv k xs, .pt rb (aZ (List.replicate m 0)) 3] J Z U fun K1 hK1 => ?_
       refine cA 3 [.int .i64 0] Z qR Z (fun lt1 => ?_)
       (refine aK ?_)
       exact hK1 _ _ (hS7_8_11_17 ⟨lt0, ap0, lt1, rb, ()⟩ _ _ ⟨Z, Z, Z, Z, Z, Z, Z, Z, Z, trivial⟩ U)
      ·refine kQ [OA ap0 k, PB fv k, PC nv k xs, .pt rb (aZ (List.replicate m 0)) 3] J Z U fun K1 hK1 => ?_
       refine cA 22 [.slice (some ⟨rb, 0, none⟩) m m] Z qR Z (fun lt2 => ?_)
       (refine aK ?_)
       exact hK1 _ _ (hS7_8_17_18 ⟨lt0, ap0, rb, lt2, ()⟩ _ _ ⟨Z, Z, Z, Z, Z, Z, Z, Z, trivial⟩ U)
     refine fX (σ := Nat × Nat × Nat × Unit) (lF) (fun ⟨lt0, lt1, rb, ()⟩ => LV n bw bm m k ++ [(481, .slice (some ⟨lt0, 0, none⟩) 1 1), (485, .slice (some ⟨lt1, 0, none⟩) 1 1), (491, .slice (some ⟨rb, 0, none⟩) m m)]) (fun ⟨lt0, lt1, rb, ()⟩ => [PA (.slice da k dc) k, .pt lt0 [.int .i64 (7 * (k : Int) - 9)] 3, PB fv k, .pt lt1 [.int .i64 0] 3, PC nv k xs, .pt rb (aZ (List.replicate m 0)) 3, MB bm m (.slice da k dc) (fv) (nv), un (PW gb b2 b3 c4 c5 c6 n), .pt bw (CW gb b2 b3 c6 n) 25, un (cW xs)]) ?_ (fun hS7_11_17 => ?_)
     ·rintro ⟨lt0, lt1, rb, _⟩
      refine gM ?_ ?_
      ·refine kQ [PA (.slice da k dc) k, .pt lt0 [.int .i64 (7 * (k : Int) - 9)] 3, PB fv k, .pt lt1 [.int .i64 0] 3, PC nv k xs, .pt rb (aZ (List.replicate m 0)) 3] J Z U fun K1 hK1 => ?_
       (refine aD V Z Z Z ?_; refine aT V Z Z Z ?_)
       refine eG (q := 1) slI Z Z Z (fun v' => by repeat constructor) (fun w' hs => ⟨_, _, Blk.rd (hs.blk (b := lt0) U) Z 1⟩) (by simp [dY]) O O (fun ap0 => ?_)
       (refine aK ?_)
       exact hK1 _ _ (hS7_8_11_17 ⟨lt0, ap0, lt1, rb, ()⟩ _ _ ⟨Z, Z, Z, Z, Z, Z, Z, Z, Z, trivial⟩ U)
      ·refine kQ [PA (.slice da k dc) k, .pt lt0 [.int .i64 (7 * (k : Int) - 9)] 3, PB fv k, .pt lt1 [.int .i64 0] 3, PC nv k xs, .pt rb (aZ (List.replicate m 0)) 3] J Z U fun K1 hK1 => ?_
       refine cA 22 [.slice (some ⟨rb, 0, none⟩) m m] Z qR Z (fun lt2 => ?_)
       (refine aK ?_)
       exact hK1 _ _ (hS7_11_17_18 ⟨lt0, lt1, rb, lt2, ()⟩ _ _ ⟨Z, Z, Z, Z, Z, Z, Z, Z, Z, trivial⟩ U)
     refine fX (σ := Nat × Nat × Nat × Unit) (nP) (fun ⟨lt0, rb, lt2, ()⟩ => LV n bw bm m k ++ [(481, .slice (some ⟨lt0, 0, none⟩) 1 1), (492, .slice (some ⟨lt2, 0, none⟩) 1 1)]) (fun ⟨lt0, rb, lt2, ()⟩ => [PA (.slice da k dc) k, .pt lt0 [.int .i64 (7 * (k : Int) - 9)] 3, PB fv k, PC nv k xs, .pt lt2 [.slice (some ⟨rb, 0, none⟩) m m] 22, .pt rb (aZ (List.replicate m 0)) 3, MB bm m (.slice da k dc) (fv) (nv), un (PW gb b2 b3 c4 c5 c6 n), .pt bw (CW gb b2 b3 c6 n) 25, un (cW xs)]) ?_ (fun hS7_17_18 => ?_)
     ·rintro ⟨lt0, rb, lt2, _⟩
      refine gM ?_ ?_
      ·refine kQ [PA (.slice da k dc) k, .pt lt0 [.int .i64 (7 * (k : Int) - 9)] 3, PB fv k, PC nv k xs, .pt lt2 [.slice (some ⟨rb, 0, none⟩) m m] 22, .pt rb (aZ (List.replicate m 0)) 3] J Z U fun K1 hK1 => ?_
       (refine aD V Z Z Z ?_; refine aT V Z Z Z ?_)
       refine eG (q := 1) slI Z Z Z (fun v' => by repeat constructor) (fun w' hs => ⟨_, _, Blk.rd (hs.blk (b := lt0) U) Z 1⟩) (by simp [dY]) O O (fun ap0 => ?_)
       (refine aK ?_)
       exact hK1 _ _ (hS7_8_17_18 ⟨lt0, ap0, rb, lt2, ()⟩ _ _ ⟨Z, Z, Z, Z, Z, Z, Z, Z, trivial⟩ U)
      ·refine kQ [PA (.slice da k dc) k, .pt lt0 [.int .i64 (7 * (k : Int) - 9)] 3, PB fv k, PC nv k xs, .pt lt2 [.slice (some ⟨rb, 0, none⟩) m m] 22, .pt rb (aZ (List.replicate m 0)) 3] J Z U fun K1 hK1 => ?_
       refine cA 3 [.int .i64 0] Z qR Z (fun lt1 => ?_)
       (refine aK ?_)
       exact hK1 _ _ (hS7_11_17_18 ⟨lt0, lt1, rb, lt2, ()⟩ _ _ ⟨Z, Z, Z, Z, Z, Z, Z, Z, Z, trivial⟩ U)
     refine fX (σ := Nat × Nat × Nat × Unit) (nR) (fun ⟨lt1, rb, lt2, ()⟩ => LV n bw bm m k ++ [(485, .slice (some ⟨lt1, 0, none⟩) 1 1), (492, .slice (some ⟨lt2, 0, none⟩) 1 1)]) (fun ⟨lt1, rb, lt2, ()⟩ => [PA (.slice da k dc) k, PB fv k, .pt lt1 [.int .i64 0] 3, PC nv k xs, .pt lt2 [.slice (some ⟨rb, 0, none⟩) m m] 22, .pt rb (aZ (List.replicate m 0)) 3, MB bm m (.slice da k dc) (fv) (nv), un (PW gb b2 b3 c4 c5 c6 n), .pt bw (CW gb b2 b3 c6 n) 25, un (cW xs)]) ?_ (fun hS11_17_18 => ?_)
     ·rintro ⟨lt1, rb, lt2, _⟩
      refine kQ [PA (.slice da k dc) k, PB fv k, .pt lt1 [.int .i64 0] 3, PC nv k xs, .pt lt2 [.slice (some ⟨rb, 0, none⟩) m m] 22, .pt rb (aZ (List.replicate m 0)) 3] J Z U fun K1 hK1 => ?_
      (refine aD V Z Z Z ?_; refine aT V Z Z Z ?_; refine aD V Z Z Z (bY V Z Z Z Z O O (bY V Z Z Z Z O O ?_)))
      refine cA 3 [.int .i64 (7 * (k : Int) - 9)] Z qR Z (fun lt0 => ?_)
      (refine aK ?_)
      exact hK1 _ _ (hS7_11_17_18 ⟨lt0, lt1, rb, lt2, ()⟩ _ _ ⟨Z, Z, Z, Z, Z, Z, Z, Z, Z, trivial⟩ U)
     refine fX (σ := Nat × Value × Unit) (tM6_280883c) (fun ⟨lt0, ap0, ()⟩ => LV n bw bm m k ++ [(482, ap0)]) (fun ⟨lt0, ap0, ()⟩ => [OA ap0 k, PB fv k, PC nv k xs, MB bm m (.slice da k dc) (fv) (nv), un (PW gb b2 b3 c4 c5 c6 n), .pt bw (CW gb b2 b3 c6 n) 25, un (cW xs)]) ?_ (fun hS7_8 => ?_)
     ·rintro ⟨lt0, ap0, _⟩
      refine gM ?_ ?_
      ·refine kQ [OA ap0 k, PB fv k, PC nv k xs] J Z U fun K1 hK1 => ?_
       refine cA 3 [.int .i64 0] Z qR Z (fun lt1 => ?_)
       (refine aK ?_)
       exact hK1 _ _ (hS7_8_11 ⟨lt0, ap0, lt1, ()⟩ _ _ ⟨Z, Z, Z, Z, Z, Z, Z, Z, trivial⟩ U)
      ·refine kQ [OA ap0 k, PB fv k, PC nv k xs] J Z U fun K1 hK1 => ?_
       (refine aD V Z Z Z (aD V Z Z Z ?_))
       rw [hm]
       refine cM slI Z Z Z O (fun rb => ?_)
       (refine aK ?_)
       exact hK1 _ _ (hS7_8_17 ⟨lt0, ap0, rb, ()⟩ _ _ ⟨Z, Z, Z, Z, Z, Z, Z, Z, trivial⟩ U)
     refine fX (σ := Nat × Nat × Unit) (pF) (fun ⟨lt0, lt1, ()⟩ => LV n bw bm m k ++ [(481, .slice (some ⟨lt0, 0, none⟩) 1 1), (485, .slice (some ⟨lt1, 0, none⟩) 1 1)]) (fun ⟨lt0, lt1, ()⟩ => [PA (.slice da k dc) k, .pt lt0 [.int .i64 (7 * (k : Int) - 9)] 3, PB fv k, .pt lt1 [.int .i64 0] 3, PC nv k xs, MB bm m (.slice da k dc) (fv) (nv), un (PW gb b2 b3 c4 c5 c6 n), .pt bw (CW gb b2 b3 c6 n) 25, un (cW xs)]) ?_ (fun hS7_11 => ?_)
     ·rintro ⟨lt0, lt1, _⟩
      refine gM ?_ ?_
      ·refine kQ [PA (.slice da k dc) k, .pt lt0 [.int .i64 (7 * (k : Int) - 9)] 3, PB fv k, .pt lt1 [.int .i64 0] 3, PC nv k xs] J Z U fun K1 hK1 => ?_
       (refine aD V Z Z Z ?_; refine aT V Z Z Z ?_)
       refine eG (q := 1) slI Z Z Z (fun v' => by repeat constructor) (fun w' hs => ⟨_, _, Blk.rd (hs.blk (b := lt0) U) Z 1⟩) (by simp [dY]) O O (fun ap0 => ?_)
       (refine aK ?_)
       exact hK1 _ _ (hS7_8_11 ⟨lt0, ap0, lt1, ()⟩ _ _ ⟨Z, Z, Z, Z, Z, Z, Z, Z, trivial⟩ U)
      ·refine kQ [PA (.slice da k dc) k, .pt lt0 [.int .i64 (7 * (k : Int) - 9)] 3, PB fv k, .pt lt1 [.int .i64 0] 3, PC nv k xs] J Z U fun K1 hK1 => ?_
       (refine aD V Z Z Z (aD V Z Z Z ?_))
       rw [hm]
       refine cM slI Z Z Z O (fun rb => ?_)
       (refine aK ?_)
       exact hK1 _ _ (hS7_11_17 ⟨lt0, lt1, rb, ()⟩ _ _ ⟨Z, Z, Z, Z, Z, Z, Z, Z, Z, trivial⟩ U)
     refine fX (σ := Nat × Nat × Unit) (nX) (fun ⟨lt0, rb, ()⟩ => LV n bw bm m k ++ [(481, .slice (some ⟨lt0, 0, none⟩) 1 1), (491, .slice (some ⟨rb, 0, none⟩) m m)]) (fun ⟨lt0, rb, ()⟩ => [PA (.slice da k dc) k, .pt lt0 [.int .i64 (7 * (k : Int) - 9)] 3, PB fv k, PC nv k xs, .pt rb (aZ (List.replicate m 0)) 3, MB bm m (.slice da k dc) (fv) (nv), un (PW gb b2 b3 c4 c5 c6 n), .pt bw (CW gb b2 b3 c6 n) 25, un (cW xs)]) ?_ (fun hS7_17 => ?_)
     ·rintro ⟨lt0, rb, _⟩
      refine gM ?_ (gM ?_ ?_)
      ·refine kQ [PA (.slice da k dc) k, .pt lt0 [.int .i64 (7 * (k : Int) - 9)] 3, PB fv k, PC nv k xs, .pt rb (aZ (List.replicate m 0)) 3] J Z U fun K1 hK1 => ?_
       (refine aD V Z Z Z ?_; refine aT V Z Z Z ?_)
       refine eG (q := 1) slI Z Z Z (fun v' => by repeat constructor) (fun w' hs => ⟨_, _, Blk.rd (hs.blk (b := lt0) U) Z 1⟩) (by simp [dY]) O O (fun ap0 => ?_)
       (refine aK ?_)
       exact hK1 _ _ (hS7_8_17 ⟨lt0, ap0, rb, ()⟩ _ _ ⟨Z, Z, Z, Z, Z, Z, Z, Z, trivial⟩ U)
      ·refine kQ [PA (.slice da k dc) k, .pt lt0 [.int .i64 (7 * (k : Int) - 9)] 3, PB fv k, PC nv k xs, .pt rb (aZ (List.replicate m 0)) 3] J Z U fun K1 hK1 => ?_
       refine cA 3 [.int .i64 0] Z qR Z (fun lt1 => ?_)
       (refine aK ?_)
       exact hK1 _ _ (hS7_11_17 ⟨lt0, lt1, rb, ()⟩ _ _ ⟨Z, Z, Z, Z, Z, Z, Z, Z, Z, trivial⟩ U)
      ·refine kQ [PA (.slice da k dc) k, .pt lt0 [.int .i64 (7 * (k : Int) - 9)] 3, PB fv k, PC nv k xs, .pt rb (aZ (List.replicate m 0)) 3] J Z U fun K1 hK1 => ?_
       refine cA 22 [.slice (some ⟨rb, 0, none⟩) m m] Z qR Z (fun lt2 => ?_)
       (refine aK ?_)
       exact hK1 _ _ (hS7_17_18 ⟨lt0, rb, lt2, ()⟩ _ _ ⟨Z, Z, Z, Z, Z, Z, Z, Z, trivial⟩ U)
     refine fX (σ := Nat × Nat × Unit) (oI) (fun ⟨lt1, rb, ()⟩ => LV n bw bm m k ++ [(485, .slice (some ⟨lt1, 0, none⟩) 1 1), (491, .slice (some ⟨rb, 0, none⟩) m m)]) (fun ⟨lt1, rb, ()⟩ => [PA (.slice da k dc) k, PB fv k, .pt lt1 [.int .i64 0] 3, PC nv k xs, .pt rb (aZ (List.replicate m 0)) 3, MB bm m (.slice da k dc) (fv) (nv), un (PW gb b2 b3 c4 c5 c6 n), .pt bw (CW gb b2 b3 c6 n) 25, un (cW xs)]) ?_ (fun hS11_17 => ?_)
     ·rintro ⟨lt1, rb, _⟩
      refine gM ?_ ?_
      ·refine kQ [PA (.slice da k dc) k, PB fv k, .pt lt1 [.int .i64 0] 3, PC nv k xs, .pt rb (aZ (List.replicate m 0)) 3] J Z U fun K1 hK1 => ?_
       (refine aD V Z Z Z ?_; refine aT V Z Z Z ?_; refine aD V Z Z Z (bY V Z Z Z Z O O (bY V Z Z Z Z O O ?_)))
       refine cA 3 [.int .i64 (7 * (k : Int) - 9)] Z qR Z (fun lt0 => ?_)
       (refine aK ?_)
       exact hK1 _ _ (hS7_11_17 ⟨lt0, lt1, rb, ()⟩ _ _ ⟨Z, Z, Z, Z, Z, Z, Z, Z, Z, trivial⟩ U)
      ·refine kQ [PA (.slice da k dc) k, PB fv k, .pt lt1 [.int .i64 0] 3, PC nv k xs, .pt rb (aZ (List.replicate m 0)) 3] J Z U fun K1 hK1 => ?_
       refine cA 22 [.slice (some ⟨rb, 0, none⟩) m m] Z qR Z (fun lt2 => ?_)
       (refine aK ?_)
       exact hK1 _ _ (hS11_17_18 ⟨lt1, rb, lt2, ()⟩ _ _ ⟨Z, Z, Z, Z, Z, Z, Z, Z, trivial⟩ U)
     refine fX (σ := Nat × Nat × Unit) (tM6_667e622) (fun ⟨rb, lt2, ()⟩ => LV n bw bm m k ++ [(492, .slice (some ⟨lt2, 0, none⟩) 1 1)]) (fun ⟨rb, lt2, ()⟩ => [PA (.slice da k dc) k, PB fv k, PC nv k xs, .pt lt2 [.slice (some ⟨rb, 0, none⟩) m m] 22, .pt rb (aZ (List.replicate m 0)) 3, MB bm m (.slice da k dc) (fv) (nv), un (PW gb b2 b3 c4 c5 c6 n), .pt bw (CW gb b2 b3 c6 n) 25, un (cW xs)]) ?_ (fun hS17_18 => ?_)
     ·rintro ⟨rb, lt2, _⟩
      refine gM ?_ ?_
      ·refine kQ [PA (.slice da k dc) k, PB fv k, PC nv k xs, .pt lt2 [.slice (some ⟨rb, 0, none⟩) m m] 22, .pt rb (aZ (List.replicate m 0)) 3] J Z U fun K1 hK1 => ?_
       (refine aD V Z Z Z ?_; refine aT V Z Z Z ?_; refine aD V Z Z Z (bY V Z Z Z Z O O (bY V Z Z Z Z O O ?_)))
       refine cA 3 [.int .i64 (7 * (k : Int) - 9)] Z qR Z (fun lt0 => ?_)
       (refine aK ?_)
       exact hK1 _ _ (hS7_17_18 ⟨lt0, rb, lt2, ()⟩ _ _ ⟨Z, Z, Z, Z, Z, Z, Z, Z, trivial⟩ U)
      ·refine kQ [PA (.slice da k dc) k, PB fv k, PC nv k xs, .pt lt2 [.slice (some ⟨rb, 0, none⟩) m m] 22, .pt rb (aZ (List.replicate m 0)) 3] J Z U fun K1 hK1 => ?_
       refine cA 3 [.int .i64 0] Z qR Z (fun lt1 => ?_)
       (refine aK ?_)
       exact hK1 _ _ (hS11_17_18 ⟨lt1, rb, lt2, ()⟩ _ _ ⟨Z, Z, Z, Z, Z, Z, Z, Z, trivial⟩ U)
     refine fX (σ := Nat × Unit) (tM6_b04db41) (fun ⟨lt0, ()⟩ => LV n bw bm m k ++ [(481, .slice (some ⟨lt0, 0, none⟩) 1 1)]) (fun ⟨lt0, ()⟩ => [PA (.slice da k dc) k, .pt lt0 [.int .i64 (7 * (k : Int) - 9)] 3, PB fv k, PC nv k xs, MB bm m (.slice da k dc) (fv) (nv), un (PW gb b2 b3 c4 c5 c6 n), .pt bw (CW gb b2 b3 c6 n) 25, un (cW xs)]) ?_ (fun hS7 => ?_)
     ·rintro ⟨lt0, _⟩
      refine gM ?_ (gM ?_ ?_)
      ·refine kQ [PA (.slice da k dc) k, .pt lt0 [.int .i64 (7 * (k : Int) - 9)] 3, PB fv k, PC nv k xs] J Z U fun K1 hK1 => ?_
       (refine aD V Z Z Z ?_; refine aT V Z Z Z ?_)
       refine eG (q := 1) slI Z Z Z (fun v' => by repeat constructor) (fun w' hs => ⟨_, _, Blk.rd (hs.blk (b := lt0) U) Z 1⟩) (by simp [dY]) O O (fun ap0 => ?_)
       (refine aK ?_)
       exact hK1 _ _ (hS7_8 ⟨lt0, ap0, ()⟩ _ _ ⟨Z, Z, Z, Z, Z, Z, Z, trivial⟩ U)
      ·refine kQ [PA (.slice da k dc) k, .pt lt0 [.int .i64 (7 * (k : Int) - 9)] 3, PB fv k, PC nv k xs] J Z U fun K1 hK1 => ?_
       refine cA 3 [.int .i64 0] Z qR Z (fun lt1 => ?_)
       (refine aK ?_)
       exact hK1 _ _ (hS7_11 ⟨lt0, lt1, ()⟩ _ _ ⟨Z, Z, Z, Z, Z, Z, Z, Z, trivial⟩ U)
      ·refine kQ [PA (.slice da k dc) k, .pt lt0 [.int .i64 (7 * (k : Int) - 9)] 3, PB fv k, PC nv k xs] J Z U fun K1 hK1 => ?_
       (refine aD V Z Z Z (aD V Z Z Z ?_))
       rw [hm]
       refine cM slI Z Z Z O (fun rb => ?_)
       (refine aK ?_)
       exact hK1 _ _ (hS7_17 ⟨lt0, rb, ()⟩ _ _ ⟨Z, Z, Z, Z, Z, Z, Z, Z, trivial⟩ U)
     refine fX (σ := Nat × Unit) (tM6_465170f) (fun ⟨lt1, ()⟩ => LV n bw bm m k ++ [(485, .slice (some ⟨lt1, 0, none⟩) 1 1)]) (fun ⟨lt1, ()⟩ => [PA (.slice da k dc) k, PB fv k, .pt lt1 [.int .i64 0] 3, PC nv k xs, MB bm m (.slice da k dc) (fv) (nv), un (PW gb b2 b3 c4 c5 c6 n), .pt bw (CW gb b2 b3 c6 n) 25, un (cW xs)]) ?_ (fun hS11 => ?_)
     ·rintro ⟨lt1, _⟩
      refine gM ?_ ?_
      ·refine kQ [PA (.slice da k dc) k, PB fv k, .pt lt1 [.int .i64 0] 3, PC nv k xs] J Z U fun K1 hK1 => ?_
       (refine aD V Z Z Z ?_; refine aT V Z Z Z ?_; refine aD V Z Z Z (bY V Z Z Z Z O O (bY V Z Z Z Z O O ?_)))
       refine cA 3 [.int .i64 (7 * (k : Int) - 9)] Z qR Z (fun lt0 => ?_)
       (refine aK ?_)
       exact hK1 _ _ (hS7_11 ⟨lt0, lt1, ()⟩ _ _ ⟨Z, Z, Z, Z, Z, Z, Z, Z, trivial⟩ U)
      ·refine kQ [PA (.slice da k dc) k, PB fv k, .pt lt1 [.int .i64 0] 3, PC nv k xs] J Z U fun K1 hK1 => ?_
       (refine aD V Z Z Z (aD V Z Z Z ?_))
       rw [hm]
       refine cM slI Z Z Z O (fun rb => ?_)
       (refine aK ?_)
       exact hK1 _ _ (hS11_17 ⟨lt1, rb, ()⟩ _ _ ⟨Z, Z, Z, Z, Z, Z, Z, Z, trivial⟩ U)
     refine fX (σ := Nat × Unit) (tM6_2e09e90) (fun ⟨rb, ()⟩ => LV n bw bm m k ++ [(491, .slice (some ⟨rb, 0, none⟩) m m)]) (fun ⟨rb, ()⟩ => [PA (.slice da k dc) k, PB fv k, PC nv k xs, .pt rb (aZ (List.replicate m 0)) 3, MB bm m (.slice da k dc) (fv) (nv), un (PW gb b2 b3 c4 c5 c6 n), .pt bw (CW gb b2 b3 c6 n) 25, un (cW xs)]) ?_ (fun hS17 => ?_)
     ·rintro ⟨rb, _⟩
      refine gM ?_ (gM ?_ ?_)
      ·refine kQ [PA (.slice da k dc) k, PB fv k, PC nv k xs, .pt rb (aZ (List.replicate m 0)) 3] J Z U fun K1 hK1 => ?_
       (refine aD V Z Z Z ?_; refine aT V Z Z Z ?_; refine aD V Z Z Z (bY V Z Z Z Z O O (bY V Z Z Z Z O O ?_)))
       refine cA 3 [.int .i64 (7 * (k : Int) - 9)] Z qR Z (fun lt0 => ?_)
       (refine aK ?_)
       exact hK1 _ _ (hS7_17 ⟨lt0, rb, ()⟩ _ _ ⟨Z, Z, Z, Z, Z, Z, Z, Z, trivial⟩ U)
      ·refine kQ [PA (.slice da k dc) k, PB fv k, PC nv k xs, .pt rb (aZ (List.replicate m 0)) 3] J Z U fun K1 hK1 => ?_
       refine cA 3 [.int .i64 0] Z qR Z (fun lt1 => ?_)
       (refine aK ?_)
       exact hK1 _ _ (hS11_17 ⟨lt1, rb, ()⟩ _ _ ⟨Z, Z, Z, Z, Z, Z, Z, Z, trivial⟩ U)
      ·refine kQ [PA (.slice da k dc) k, PB fv k, PC nv k xs, .pt rb (aZ (List.replicate m 0)) 3] J Z U fun K1 hK1 => ?_
       refine cA 22 [.slice (some ⟨rb, 0, none⟩) m m] Z qR Z (fun lt2 => ?_)
       (refine aK ?_)
       exact hK1 _ _ (hS17_18 ⟨rb, lt2, ()⟩ _ _ ⟨Z, Z, Z, Z, Z, Z, Z, trivial⟩ U)
     refine gM ?_ (gM ?_ ?_)
     ·refine kQ [PA (.slice da k dc) k, PB fv k, PC nv k xs] J Z U fun K1 hK1 => ?_
      (refine aD V Z Z Z ?_; refine aT V Z Z Z ?_; refine aD V Z Z Z (bY V Z Z Z Z O O (bY V Z Z Z Z O O ?_)))
      refine cA 3 [.int .i64 (7 * (k : Int) - 9)] Z qR Z (fun lt0 => ?_)
      (refine aK ?_)
      exact hK1 _ _ (hS7 ⟨lt0, ()⟩ _ _ ⟨Z, Z, Z, Z, Z, Z, Z, trivial⟩ U)
     ·refine kQ [PA (.slice da k dc) k, PB fv k, PC nv k xs] J Z U fun K1 hK1 => ?_
      refine cA 3 [.int .i64 0] Z qR Z (fun lt1 => ?_)
      (refine aK ?_)
      exact hK1 _ _ (hS11 ⟨lt1, ()⟩ _ _ ⟨Z, Z, Z, Z, Z, Z, Z, trivial⟩ U)
     ·refine kQ [PA (.slice da k dc) k, PB fv k, PC nv k xs] J Z U fun K1 hK1 => ?_
      (refine aD V Z Z Z (aD V Z Z Z ?_))
      rw [hm]
      refine cM slI Z Z Z O (fun rb => ?_)
      (refine aK ?_)
      exact hK1 _ _ (hS17 ⟨rb, ()⟩ _ _ ⟨Z, Z, Z, Z, Z, Z, Z, trivial⟩ U)
    have hkm : m = k := by omega
    subst hkm
    clear hc hK3 hk
    refine lS (fun w hs => hs.slice2 (v := nv) U) ?_
    rintro ⟨na, nc, rfl⟩
    have hx0 : xs.map (·.2) = mN m 0 := by
     refine List.ext_getElem (by simp [mN_len, hxl]) fun i h1 h2 => ?_
     rw [List.getElem_map, hxz _ (List.getElem_mem _)]
     simp [mN]
    rw [show aZ (List.replicate m 0) = aZ (mF m 0) from by simp [mF]]
    (refine bJ _ Z (aE (aE (aB (aA V Z Z ?_)))); refine aH V Z Z Z ?_; refine aA V Z Z (aA V Z Z (aF (aP ?_))))
    have hm8 : m < 8 := by omega
    clear hxz
    refine bN (σ := Nat × List (Nat × List Int)) (fun y => y.1 ≤ m ∧ y.2.length = m ∧ y.2.map (·.2) = mN m y.1) (fun y => m - y.1) (fun y => [(447, .int .i64 n), (30, .int .i64 n), (31, .pointer (some ⟨bw, 0, none⟩)), (32, .pointer (some ⟨bm, 0, none⟩)), (500, .int .i64 m), (501, .int .i64 y.1)])
     (fun y => [un (PW gb b2 b3 c4 c5 c6 n), .pt bw (CW gb b2 b3 c6 n) 25, .pt bm [.int .i64 9, .int .i64 3, .int .i64 m, .int .i64 12, .slice none 0 0, dv, fv, .slice na m nc] 25, .ow dv 3 1 m (aZ (mD m)), .ow fv 3 1 m (aZ (mF m y.1)), .ow (.slice na m nc) 22 1 m (dZ y.2), un (cW y.2)]) (0, xs) ⟨by omega, hxl, hx0⟩ ⟨rfl, rfl, rfl, rfl, rfl, rfl, trivial⟩ U ?_
    clear hx0 hxl xs
    rintro ⟨s, xs⟩ ⟨hs1, hxl, hxm⟩ K4 hK4
    dsimp only at hs1 hxl hxm ⊢
    (refine aE (aB (aA V Z Z (aF (aE ?_)))))
    refine dD Z (fun hc => ?_) (fun hc => ?_)
    ·have hs2 : s < m := by omega
     clear hc
     refine lS (fun w hs => hs.ownSome (v := fv) U O) ?_
     rintro ⟨fb, fc, rfl⟩
     refine lS (fun w hs => hs.ownSome (v := .slice na m nc) U O) ?_
     rintro ⟨ng, nc', h⟩
     cases h
     obtain ⟨rb, hrb⟩ : ∃ rb, xs[s] = (rb, List.replicate m 0) := ⟨xs[s].1, Prod.ext rfl (by
      have h1 : (xs.map (·.2)).getD s [] = List.replicate m 0 := by rw [hxm, mN_at hs2]
      rw [List.getD_eq_getElem?_getD, List.getElem?_map, List.getElem?_eq_getElem O] at h1
      exact h1)⟩
     (refine aR (aE (aP (aE (aB (aA V Z Z (aA V Z Z (aF (aE (aB (aA V Z Z ?_)))))))))); refine aH V Z Z Z ?_)
     refine bW V Z Z Z Z Z O O ?_
     refine ql_storeW V 0 Z Z Z Z U (by first | rfl | omega | simp) (by simp [aZ, mF_len]; omega) ?_
     rw [show (aZ (mF m s)).set 0 (.int .i64 12) = aZ (mF m (s + 1)) from by rw [← mF_set m hm8 s hs2]; simp [aZ, List.map_set]]
     (refine aF (aE ?_))
     refine fD (H' := .pt rb (aZ (List.replicate m 0)) 3 :: un (cW (xs.eraseIdx s)) :: [un (PW gb b2 b3 c4 c5 c6 n), .pt bw (CW gb b2 b3 c6 n) 25, .pt bm [.int .i64 9, .int .i64 3, .int .i64 m, .int .i64 12, .slice none 0 0, dv, .slice (some ⟨fb, 0, none⟩) m fc, .slice (some ⟨ng, 0, none⟩) m nc] 25, .ow dv 3 1 m (aZ (mD m)), .ow (.slice (some ⟨fb, 0, none⟩) m fc) 3 1 m (aZ (mF m (s + 1))), .ow (.slice (some ⟨ng, 0, none⟩) m nc) 22 1 m (dZ xs)]) (fun w' hs => rows_out2 O hrb (hs.sp U)) ?_
     have ej : ((s : Int) + 1) % (m : Int) = (((s + 1) % m : Nat) : Int) := by simp
     have hj : (s + 1) % m < (List.replicate m (0 : Int)).length := by rw [List.length_replicate]; exact Nat.mod_lt _ O
     have hj2 : (s + 1) % m < m := Nat.mod_lt _ O
     obtain ⟨j, hjm⟩ : ∃ j, (s + 1) % m = j := ⟨_, rfl⟩
     rw [hjm] at ej hj hj2
     refine gW 14 _ [.pt rb _ _] (Sp.cons U (Sp.refl _)) qR qR qR fun K1 hK1 => ?_
     (refine aD V Z Z Z ?_; refine aT V Z Z Z ?_; refine aD V Z Z Z ?_)
     refine bF V Z Z Z Z Z O O ?_
     refine bI (v := .slice (some ⟨rb, 0, none⟩) m m) V Z Z Z (fun w hs => by have := row_cell (s := s) (xs := xs) (g := ng) (m := m) (c := nc) (off := s) hs U Z O hrb; simpa using this) ?_
     (refine aD V Z Z Z (bY V Z Z Z Z O O (aD V Z Z Z ?_)); refine aT V Z Z Z ?_; refine aD V Z Z Z (bQ Z Z Z O O ?_))
     rw [ej]
     refine bF V Z Z Z Z Z O O ?_
     refine fL V (j) Z Z Z U (by first | rfl | omega | simp) hj ?_
     rw [List.getElem_replicate]
     (refine bY V Z Z Z Z O O (aK ?_))
     refine hK1 _ _ [.pt rb _ _] (Sp.cons U (U)) ?_
     refine bF V Z Z Z Z Z O O ?_
     refine lX V (j) Z Z Z U (by first | rfl | omega | simp) hj ?_
     (refine aK (aB (aA V Z Z ?_)); refine aH V Z Z Z ?_; refine aA V Z Z ?_)
     refine bW V Z Z Z Z Z O O ?_
     refine cI (v := .slice (some ⟨rb, 0, none⟩) m m) V Z Z Z (fun w hs => by have := row_cell (s := s) (xs := xs) (g := ng) (m := m) (c := nc) (off := s) hs U Z O hrb; simpa using this) ?_
     (refine aA V Z Z ?_)
     have h0 : ∀ z ∈ List.replicate m (0 : Int), 0 ≤ z ∧ z ≤ 8 := fun z hz => by rw [List.eq_of_mem_replicate hz]; omega
     have hi : s < ((List.replicate m (0 : Int)).set j (0 + 8)).length := by simp; omega
     have hb1 := set_bd (i := s) h0 (show (0 : Int) ≤ 0 + 8 ∧ (0 : Int) + 8 ≤ 8 by decide) hi
     refine bW V Z Z Z Z Z O O ?_
     refine ql_loadI V (s) Z Z Z U (by first | rfl | omega | simp) hi ?_
     (refine bB V Z Z Z Z O O ?_)
     refine bW V Z Z Z Z Z O O ?_
     refine jT V (s) Z Z Z U (by first | rfl | omega | simp) hi ?_
     (refine aF (bL (aB (bB V Z Z Z Z O O (aA V Z Z (aF ?_))))))
     have hrow : ((List.replicate m (0 : Int)).set j (0 + 8)).set s (((List.replicate m (0 : Int)).set j (0 + 8))[s] + 4) = rowM m s := by
      unfold rowM
      have hi8 : s < ((List.replicate m (0 : Int)).set j 8).length := hi
      rw [hjm, List.getD_eq_getElem?_getD, List.getElem?_eq_getElem hi8]
      rfl
     rw [hrow]
     have hrl : (rowM m s).length = (List.replicate m (0 : Int)).length := by simp [rowM]
     refine fD (H' := un (cW (xs.set s (rb, rowM m s))) :: [un (PW gb b2 b3 c4 c5 c6 n), .pt bw (CW gb b2 b3 c6 n) 25, .pt bm [.int .i64 9, .int .i64 3, .int .i64 m, .int .i64 12, .slice none 0 0, dv, .slice (some ⟨fb, 0, none⟩) m fc, .slice (some ⟨ng, 0, none⟩) m nc] 25, .ow dv 3 1 m (aZ (mD m)), .ow (.slice (some ⟨fb, 0, none⟩) m fc) 3 1 m (aZ (mF m (s + 1))), .ow (.slice (some ⟨ng, 0, none⟩) m nc) 22 1 m (dZ xs)]) (fun w' hs => rows_back (hs.sp U) O) ?_
     rw [← rowsV_set xs s rb _ (rowM m s) O hrb hrl]
     exact hK4 (s + 1, xs.set s (rb, rowM m s)) _ _ ⟨by simp only; omega, by simp [hxl], by dsimp only; rw [List.map_set, hxm, mN_set m hm8 s hs2]⟩ (by simp only; omega) ⟨Z, Z, Z, Z, Z, Z, trivial⟩ (by dsimp only; repeat constructor)
    have hsm : m = s := by omega
    subst hsm
    clear hc hK4 hs1
    (refine bJ _ Z (aE (aB ?_)))
    refine dP 3 (aZ [1, 3, 8, 3, 1]) Z qR Z (fun g5 => ?_)
    (refine aA V Z Z ?_; refine ql_st4 V Z Z Z Z U ?_; refine aF (aE ?_))
    obtain ⟨k8, hk8⟩ := Int.eq_ofNat_of_zero_le (show 0 ≤ min (n : Int) 8 by omega)
    obtain ⟨k22, hk22⟩ := Int.eq_ofNat_of_zero_le (show 0 ≤ min (n : Int) 22 by omega)
    refine fD (H' := un (PM g5 dv fv (.slice na m nc) m xs) :: [.pt bm (CM g5 dv fv (.slice na m nc) m) 25, un (PW gb b2 b3 c4 c5 c6 n), .pt bw (CW gb b2 b3 c6 n) 25]) (fun w' hs => Sat.un_iff.2 (hs.sp U)) ?_
    have OM := ownM (g5 := g5) (dv := dv) (fv := fv) (nv := .slice na m nc) hxl hxm
    refine jG (σ := Nat × Nat × Nat) (fun y => [(447, .int .i64 n), (30, .int .i64 n), (31, .pointer (some ⟨bw, 0, none⟩)), (32, .pointer (some ⟨bm, 0, none⟩)), (35, .slice (some ⟨y.1, 0, none⟩) k8 k8), (36, .slice (some ⟨y.2.1, 0, none⟩) k8 k8), (37, .slice (some ⟨y.2.2, 0, none⟩) k22 k22)]) (fun y => [un (PW gb b2 b3 c4 c5 c6 n), .pt bw (CW gb b2 b3 c6 n) 25, un (PM g5 dv fv (.slice na m nc) m xs), .pt bm (CM g5 dv fv (.slice na m nc) m) 25, .pt y.1 (aZ (List.replicate (k8 * 2) 0)) 32, .pt y.2.1 (aZ (List.replicate k8 0)) 3, .pt y.2.2 (aZ (List.replicate k22 0)) 3]) ?_ ?_
    rotate_left
    ·intro K6 hK6
     refine gU (tM6_6a034d0) _ [] (Sp.refl _) qR qR ?_
     refine bE ?_ (bE ?_ ?_)
     ·refine aQ J fun K1 hK1 => ?_
      (refine aD V Z Z Z (aD V Z Z Z ?_))
      rw [hk8]
      refine lU slSp Z Z Z O (fun s5 => ?_)
      (refine aK ?_)
      refine hK1 _ _ ?_
      refine bE ?_ ?_
      ·refine aQ J fun K1 hK1 => ?_
       (refine aD V Z Z Z (aD V Z Z Z ?_))
       rw [hk8]
       refine cM slI Z Z Z O (fun s6 => ?_)
       (refine aD V Z Z Z (aD V Z Z Z ?_))
       rw [hk22]
       refine cM slI Z Z Z O (fun s7 => ?_)
       ((iterate 3 refine aD V Z Z Z ?_); refine aK ?_)
       exact hK1 _ _ (bZ (hK6 (s5, s6, s7) _ _ ⟨Z, Z, Z, Z, Z, Z, Z, trivial⟩ U))
      ·refine aQ J fun K1 hK1 => ?_
       (refine aD V Z Z Z (aD V Z Z Z ?_))
       rw [hk22]
       refine cM slI Z Z Z O (fun s7 => ?_)
       (refine aD V Z Z Z (aD V Z Z Z ?_))
       rw [hk8]
       refine cM slI Z Z Z O (fun s6 => ?_)
       ((iterate 3 refine aD V Z Z Z ?_); refine aK ?_)
       exact hK1 _ _ (bZ (hK6 (s5, s6, s7) _ _ ⟨Z, Z, Z, Z, Z, Z, Z, trivial⟩ U))
     ·refine aQ J fun K1 hK1 => ?_
      (refine aD V Z Z Z (aD V Z Z Z ?_))
      rw [hk8]
      refine cM slI Z Z Z O (fun s6 => ?_)
      (refine aK ?_)
      refine hK1 _ _ ?_
      refine bE ?_ ?_
      ·refine aQ J fun K1 hK1 => ?_
       (refine aD V Z Z Z (aD V Z Z Z ?_))
       rw [hk8]
       refine lU slSp Z Z Z O (fun s5 => ?_)
       (refine aD V Z Z Z (aD V Z Z Z ?_))
       rw [hk22]
       refine cM slI Z Z Z O (fun s7 => ?_)
       ((iterate 3 refine aD V Z Z Z ?_); refine aK ?_)
       exact hK1 _ _ (bZ (hK6 (s5, s6, s7) _ _ ⟨Z, Z, Z, Z, Z, Z, Z, trivial⟩ U))
      ·refine aQ J fun K1 hK1 => ?_
       (refine aD V Z Z Z (aD V Z Z Z ?_))
       rw [hk22]
       refine cM slI Z Z Z O (fun s7 => ?_)
       (refine aD V Z Z Z (aD V Z Z Z ?_))
       rw [hk8]
       refine lU slSp Z Z Z O (fun s5 => ?_)
       ((iterate 3 refine aD V Z Z Z ?_); refine aK ?_)
       exact hK1 _ _ (bZ (hK6 (s5, s6, s7) _ _ ⟨Z, Z, Z, Z, Z, Z, Z, trivial⟩ U))
     ·refine aQ J fun K1 hK1 => ?_
      (refine aD V Z Z Z (aD V Z Z Z ?_))
      rw [hk22]
      refine cM slI Z Z Z O (fun s7 => ?_)
      (refine aK ?_)
      refine hK1 _ _ ?_
      refine bE ?_ ?_
      ·refine aQ J fun K1 hK1 => ?_
       (refine aD V Z Z Z (aD V Z Z Z ?_))
       rw [hk8]
       refine lU slSp Z Z Z O (fun s5 => ?_)
       (refine aD V Z Z Z (aD V Z Z Z ?_))
       rw [hk8]
       refine cM slI Z Z Z O (fun s6 => ?_)
       ((iterate 3 refine aD V Z Z Z ?_); refine aK ?_)
       exact hK1 _ _ (bZ (hK6 (s5, s6, s7) _ _ ⟨Z, Z, Z, Z, Z, Z, Z, trivial⟩ U))
      ·refine aQ J fun K1 hK1 => ?_
       (refine aD V Z Z Z (aD V Z Z Z ?_))
       rw [hk8]
       refine cM slI Z Z Z O (fun s6 => ?_)
       (refine aD V Z Z Z (aD V Z Z Z ?_))
       rw [hk8]
       refine lU slSp Z Z Z O (fun s5 => ?_)
       ((iterate 3 refine aD V Z Z Z ?_); refine aK ?_)
       exact hK1 _ _ (bZ (hK6 (s5, s6, s7) _ _ ⟨Z, Z, Z, Z, Z, Z, Z, trivial⟩ U))
    rintro ⟨s5, s6, s7⟩
    dsimp only
    have hml : (mN m m).length ≤ maxLen := by rw [mN_len]; simp only [maxLen]; omega
    (refine aE (aE ?_))
    refine jG (σ := Unit) (fun _ => [(447, .int .i64 n), (30, .int .i64 n), (31, .pointer (some ⟨bw, 0, none⟩)), (32, .pointer (some ⟨bm, 0, none⟩)), (589, .bool false)]) (fun _ => [un (PW gb b2 b3 c4 c5 c6 n), .pt bw (CW gb b2 b3 c6 n) 25, un (PM g5 dv fv (.slice na m nc) m xs), .pt bm (CM g5 dv fv (.slice na m nc) m) 25]) ?_ ?_
    rotate_left
    ·intro K5 hK5
     obtain hq | hq | hq : n < 8 ∨ (8 ≤ n ∧ n < 10) ∨ 10 ≤ n := by omega
     ·refine gU (oM) _ [] (Sp.refl _) qR qR ?_
      refine aQ J fun K1 hK1 => ?_
      (refine aO V Z Z Z ?_)
      refine aS (val := .bool true) V Z Z Z Z (fun w hs => ?_) ?_; exact cY w _ (eK n) 1 (-1) (OWd.at hs U) (show 2 ≤ maxLen by decide)
      (refine aD V Z Z Z (aD V Z Z Z (aG Z ?_)); refine aO V Z Z Z ?_; refine aG Z (aD V Z Z Z (aG Z (bQ Z Z Z O O (aG Z (aD V Z Z Z (aG Z (bQ Z Z Z O O (aG Z (bY V Z Z Z Z O O (aG Z ?_)))))))))))
      refine aS (val := .bool true) V Z Z Z Z (fun w hs => ?_) ?_; exact cY w _ (dR m) _ _ (OM.at hs U) hml
      (refine aG Z ?_; (iterate 3 refine aD V Z Z Z ?_); refine aG Z (aD V Z Z Z (aG Z (qf_lssT V Z Z Z O (aG Z (aD V Z Z Z (aG Z ?_)))))); refine aO V Z Z Z ?_; refine aG Z (aD V Z Z Z (aG Z (bQ Z Z Z O O (aG Z ?_)))))
      refine lP #[.int .i64 230, .int .i64 15, .int .i64 20, .int .i64 ((n : Int) % 5)] Z qR Z ?_
      (refine aG Z ?_)
      refine aS (val := .bool true) V Z Z Z Z (fun w hs => ?_) ?_; exact dW w 0 0 _ (dR m) ⟨230, 15, 20, (n : Int) % 5⟩ (.slice none 0 0) [] 1 1 1 1 (OM.at hs U) (kZ w) hml (show 0 ≤ maxLen by decide)
      (refine aG Z (aD V Z Z Z (aG Z ?_)); (iterate 3 refine aD V Z Z Z ?_); refine aG Z ?_)
      refine bD (β := Nat × Nat × Nat × Nat × Nat × Nat) V [] _ M0 Z Z Z Z (Sp.refl _) qS (fun w' hs => fC w') ?_
      rintro ⟨d1, d2, d3, d4, d5, d6⟩ _ rfl
      dsimp only [List.cons_append, List.nil_append]
      (refine aG Z (aD V Z Z Z (aG Z (aD V Z Z Z (aG Z (aD V Z Z Z (aG Z ?_)))))))
      refine aS (val := .bool true) V Z Z Z Z (fun w hs => ?_) ?_; exact eU w 0 w.heap.size 0 w.heap.size 0 w.heap.size _ _ _ _ _ _ _ _ (rep_rdS (hs.blk (b := s5) U)) (dC (hs.blk (b := s6) U)) (gE (hs.blk (b := d1) U) (hs.blk (b := d2) U) (hs.blk (b := d3) U) (hs.blk (b := d4) U) (hs.blk (b := d5) U) (hs.blk (b := d6) U)) (dC (hs.blk (b := s7) U)) (by rw [List.length_replicate]; simp only [maxLen]; omega) (by rw [List.length_replicate]; simp only [maxLen]; omega) (show 2 ≤ maxLen by decide) (by rw [List.length_replicate]; simp only [maxLen]; omega)
      (refine aG Z ?_; (iterate 3 refine aD V Z Z Z ?_); refine aG Z (aD V Z Z Z (aG Z (qf_lssT V Z Z Z O (aG Z (aD V Z Z Z (aK ?_)))))))
      refine hK1 _ _ ?_
      refine bE ?_ (bE ?_ ?_)
      ·refine aQ J fun K1 hK1 => ?_
       (refine aG Z ?_)
       refine bD (β := Nat × Nat × Nat × Nat × Nat × Nat) V [] _ M0 Z Z Z Z (Sp.refl _) qS (fun w' hs => fC w') ?_
       rintro ⟨e1, e2, e3, e4, e5, e6⟩ _ rfl
       dsimp only [List.cons_append, List.nil_append]
       (refine aK ?_)
       refine hK1 _ _ ?_
       refine bE ?_ ?_
       ·refine aQ J fun K1 hK1 => ?_
        (refine aG Z (aD V Z Z Z (aG Z ?_)))
        refine cM slI Z Z Z O (fun p1 => ?_)
        (refine aG Z ?_)
        refine cM (m := 5) slI Z Z Z (by decide) (fun p2 => ?_)
        (refine aG Z ?_)
        refine lP #[.int .i64 9, .int .i64 0, .int .i64 0, .int .i64 1] Z qR Z ?_
        (refine aG Z ?_)
        refine aS (val := .bool true) V Z Z Z Z (fun w hs => ?_) ?_; exact cC w 0 w.heap.size 0 w.heap.size _ _ ⟨9, 0, 0, 1⟩ _ _ _ _ (gE (hs.blk (b := e1) U) (hs.blk (b := e2) U) (hs.blk (b := e3) U) (hs.blk (b := e4) U) (hs.blk (b := e5) U) (hs.blk (b := e6) U)) (dC (hs.blk (b := p1) U)) (dC (hs.blk (b := p2) U)) (show 2 ≤ maxLen by decide) (by rw [List.length_replicate]; simp only [maxLen]; omega) (by rw [List.length_replicate]; simp only [maxLen]; omega)
        (refine aG Z (aD V Z Z Z (aG Z (aD V Z Z Z (aD V Z Z Z (aK ?_))))))
        exact hK1 _ _ (bZ (hK5 () _ _ ⟨Z, Z, Z, Z, Z, trivial⟩ U))
       ·refine aQ J fun K1 hK1 => ?_
        (refine aG Z ?_)
        refine cM (m := 5) slI Z Z Z (by decide) (fun p2 => ?_)
        (refine aG Z (aD V Z Z Z (aG Z ?_)))
        refine cM slI Z Z Z O (fun p1 => ?_)
        (refine aG Z ?_)
        refine lP #[.int .i64 9, .int .i64 0, .int .i64 0, .int .i64 1] Z qR Z ?_
        (refine aG Z ?_)
        refine aS (val := .bool true) V Z Z Z Z (fun w hs => ?_) ?_; exact cC w 0 w.heap.size 0 w.heap.size _ _ ⟨9, 0, 0, 1⟩ _ _ _ _ (gE (hs.blk (b := e1) U) (hs.blk (b := e2) U) (hs.blk (b := e3) U) (hs.blk (b := e4) U) (hs.blk (b := e5) U) (hs.blk (b := e6) U)) (dC (hs.blk (b := p1) U)) (dC (hs.blk (b := p2) U)) (show 2 ≤ maxLen by decide) (by rw [List.length_replicate]; simp only [maxLen]; omega) (by rw [List.length_replicate]; simp only [maxLen]; omega)
        (refine aG Z (aD V Z Z Z (aG Z (aD V Z Z Z (aD V Z Z Z (aK ?_))))))
        exact hK1 _ _ (bZ (hK5 () _ _ ⟨Z, Z, Z, Z, Z, trivial⟩ U))
      ·refine aQ J fun K1 hK1 => ?_
       (refine aG Z (aD V Z Z Z (aG Z ?_)))
       refine cM slI Z Z Z O (fun p1 => ?_)
       (refine aK ?_)
       refine hK1 _ _ ?_
       refine bE ?_ ?_
       ·refine aQ J fun K1 hK1 => ?_
        (refine aG Z ?_)
        refine bD (β := Nat × Nat × Nat × Nat × Nat × Nat) V [] _ M0 Z Z Z Z (Sp.refl _) qS (fun w' hs => fC w') ?_
        rintro ⟨e1, e2, e3, e4, e5, e6⟩ _ rfl
        dsimp only [List.cons_append, List.nil_append]
        (refine aG Z ?_)
        refine cM (m := 5) slI Z Z Z (by decide) (fun p2 => ?_)
        (refine aG Z ?_)
        refine lP #[.int .i64 9, .int .i64 0, .int .i64 0, .int .i64 1] Z qR Z ?_
        (refine aG Z ?_)
        refine aS (val := .bool true) V Z Z Z Z (fun w hs => ?_) ?_; exact cC w 0 w.heap.size 0 w.heap.size _ _ ⟨9, 0, 0, 1⟩ _ _ _ _ (gE (hs.blk (b := e1) U) (hs.blk (b := e2) U) (hs.blk (b := e3) U) (hs.blk (b := e4) U) (hs.blk (b := e5) U) (hs.blk (b := e6) U)) (dC (hs.blk (b := p1) U)) (dC (hs.blk (b := p2) U)) (show 2 ≤ maxLen by decide) (by rw [List.length_replicate]; simp only [maxLen]; omega) (by rw [List.length_replicate]; simp only [maxLen]; omega)
        (refine aG Z (aD V Z Z Z (aG Z (aD V Z Z Z (aD V Z Z Z (aK ?_))))))
        exact hK1 _ _ (bZ (hK5 () _ _ ⟨Z, Z, Z, Z, Z, trivial⟩ U))
       ·refine aQ J fun K1 hK1 => ?_
        (refine aG Z ?_)
        refine cM (m := 5) slI Z Z Z (by decide) (fun p2 => ?_)
        (refine aG Z ?_)
        refine bD (β := Nat × Nat × Nat × Nat × Nat × Nat) V [] _ M0 Z Z Z Z (Sp.refl _) qS (fun w' hs => fC w') ?_
        rintro ⟨e1, e2, e3, e4, e5, e6⟩ _ rfl
        dsimp only [List.cons_append, List.nil_append]
        (refine aG Z ?_)
        refine lP #[.int .i64 9, .int .i64 0, .int .i64 0, .int .i64 1] Z qR Z ?_
        (refine aG Z ?_)
        refine aS (val := .bool true) V Z Z Z Z (fun w hs => ?_) ?_; exact cC w 0 w.heap.size 0 w.heap.size _ _ ⟨9, 0, 0, 1⟩ _ _ _ _ (gE (hs.blk (b := e1) U) (hs.blk (b := e2) U) (hs.blk (b := e3) U) (hs.blk (b := e4) U) (hs.blk (b := e5) U) (hs.blk (b := e6) U)) (dC (hs.blk (b := p1) U)) (dC (hs.blk (b := p2) U)) (show 2 ≤ maxLen by decide) (by rw [List.length_replicate]; simp only [maxLen]; omega) (by rw [List.length_replicate]; simp only [maxLen]; omega)
        (refine aG Z (aD V Z Z Z (aG Z (aD V Z Z Z (aD V Z Z Z (aK ?_))))))
        exact hK1 _ _ (bZ (hK5 () _ _ ⟨Z, Z, Z, Z, Z, trivial⟩ U))
      ·refine aQ J fun K1 hK1 => ?_
       (refine aG Z ?_)
       refine cM (m := 5) slI Z Z Z (by decide) (fun p2 => ?_)
       (refine aK ?_)
       refine hK1 _ _ ?_
       refine bE ?_ ?_
       ·refine aQ J fun K1 hK1 => ?_
        (refine aG Z ?_)
        refine bD (β := Nat × Nat × Nat × Nat × Nat × Nat) V [] _ M0 Z Z Z Z (Sp.refl _) qS (fun w' hs => fC w') ?_
        rintro ⟨e1, e2, e3, e4, e5, e6⟩ _ rfl
        dsimp only [List.cons_append, List.nil_append]
        (refine aG Z (aD V Z Z Z (aG Z ?_)))
        refine cM slI Z Z Z O (fun p1 => ?_)
        (refine aG Z ?_)
        refine lP #[.int .i64 9, .int .i64 0, .int .i64 0, .int .i64 1] Z qR Z ?_
        (refine aG Z ?_)
        refine aS (val := .bool true) V Z Z Z Z (fun w hs => ?_) ?_; exact cC w 0 w.heap.size 0 w.heap.size _ _ ⟨9, 0, 0, 1⟩ _ _ _ _ (gE (hs.blk (b := e1) U) (hs.blk (b := e2) U) (hs.blk (b := e3) U) (hs.blk (b := e4) U) (hs.blk (b := e5) U) (hs.blk (b := e6) U)) (dC (hs.blk (b := p1) U)) (dC (hs.blk (b := p2) U)) (show 2 ≤ maxLen by decide) (by rw [List.length_replicate]; simp only [maxLen]; omega) (by rw [List.length_replicate]; simp only [maxLen]; omega)
        (refine aG Z (aD V Z Z Z (aG Z (aD V Z Z Z (aD V Z Z Z (aK ?_))))))
        exact hK1 _ _ (bZ (hK5 () _ _ ⟨Z, Z, Z, Z, Z, trivial⟩ U))
       ·refine aQ J fun K1 hK1 => ?_
        (refine aG Z (aD V Z Z Z (aG Z ?_)))
        refine cM slI Z Z Z O (fun p1 => ?_)
        (refine aG Z ?_)
        refine bD (β := Nat × Nat × Nat × Nat × Nat × Nat) V [] _ M0 Z Z Z Z (Sp.refl _) qS (fun w' hs => fC w') ?_
        rintro ⟨e1, e2, e3, e4, e5, e6⟩ _ rfl
        dsimp only [List.cons_append, List.nil_append]
        (refine aG Z ?_)
        refine lP #[.int .i64 9, .int .i64 0, .int .i64 0, .int .i64 1] Z qR Z ?_
        (refine aG Z ?_)
        refine aS (val := .bool true) V Z Z Z Z (fun w hs => ?_) ?_; exact cC w 0 w.heap.size 0 w.heap.size _ _ ⟨9, 0, 0, 1⟩ _ _ _ _ (gE (hs.blk (b := e1) U) (hs.blk (b := e2) U) (hs.blk (b := e3) U) (hs.blk (b := e4) U) (hs.blk (b := e5) U) (hs.blk (b := e6) U)) (dC (hs.blk (b := p1) U)) (dC (hs.blk (b := p2) U)) (show 2 ≤ maxLen by decide) (by rw [List.length_replicate]; simp only [maxLen]; omega) (by rw [List.length_replicate]; simp only [maxLen]; omega)
        (refine aG Z (aD V Z Z Z (aG Z (aD V Z Z Z (aD V Z Z Z (aK ?_))))))
        exact hK1 _ _ (bZ (hK5 () _ _ ⟨Z, Z, Z, Z, Z, trivial⟩ U))
     ·refine gU (oM) _ [] (Sp.refl _) qR qR ?_
      refine aQ J fun K1 hK1 => ?_
      (refine aO V Z Z Z ?_)
      refine aS (val := .bool true) V Z Z Z Z (fun w hs => ?_) ?_; exact cY w _ (eK n) 1 (-1) (OWd.at hs U) (show 2 ≤ maxLen by decide)
      (refine aD V Z Z Z (aD V Z Z Z (aG Z ?_)); refine aO V Z Z Z ?_; refine aG Z (aD V Z Z Z (aG Z (bQ Z Z Z O O (aG Z (aD V Z Z Z (aG Z (bQ Z Z Z O O (aG Z (bY V Z Z Z Z O O (aG Z ?_)))))))))))
      refine aS (val := .bool true) V Z Z Z Z (fun w hs => ?_) ?_; exact cY w _ (dR m) _ _ (OM.at hs U) hml
      (refine aG Z ?_; (iterate 3 refine aD V Z Z Z ?_); refine aG Z (aD V Z Z Z (aG Z (qf_lssF V Z Z Z O (aG Z (aD V Z Z Z ?_))))); (iterate 6 refine eD Z Z Z ?_); refine aG Z ?_; (iterate 3 refine aD V Z Z Z ?_); refine aG Z ?_)
      refine bD (β := Nat × Nat × Nat × Nat × Nat × Nat) V [] _ M0 Z Z Z Z (Sp.refl _) qS (fun w' hs => fC w') ?_
      rintro ⟨d1, d2, d3, d4, d5, d6⟩ _ rfl
      dsimp only [List.cons_append, List.nil_append]
      (refine aG Z (aD V Z Z Z (aG Z (aD V Z Z Z (aG Z (aD V Z Z Z (aG Z ?_)))))))
      refine aS (val := .bool true) V Z Z Z Z (fun w hs => ?_) ?_; exact eU w 0 w.heap.size 0 w.heap.size 0 w.heap.size _ _ _ _ _ _ _ _ (rep_rdS (hs.blk (b := s5) U)) (dC (hs.blk (b := s6) U)) (gE (hs.blk (b := d1) U) (hs.blk (b := d2) U) (hs.blk (b := d3) U) (hs.blk (b := d4) U) (hs.blk (b := d5) U) (hs.blk (b := d6) U)) (dC (hs.blk (b := s7) U)) (by rw [List.length_replicate]; simp only [maxLen]; omega) (by rw [List.length_replicate]; simp only [maxLen]; omega) (show 2 ≤ maxLen by decide) (by rw [List.length_replicate]; simp only [maxLen]; omega)
      (refine aG Z ?_; (iterate 3 refine aD V Z Z Z ?_); refine aG Z (aD V Z Z Z (aG Z (qf_lssT V Z Z Z O (aG Z (aD V Z Z Z (aK ?_)))))))
      refine hK1 _ _ ?_
      refine bE ?_ (bE ?_ ?_)
      ·refine aQ J fun K1 hK1 => ?_
       (refine aG Z ?_)
       refine bD (β := Nat × Nat × Nat × Nat × Nat × Nat) V [] _ M0 Z Z Z Z (Sp.refl _) qS (fun w' hs => fC w') ?_
       rintro ⟨e1, e2, e3, e4, e5, e6⟩ _ rfl
       dsimp only [List.cons_append, List.nil_append]
       (refine aK ?_)
       refine hK1 _ _ ?_
       refine bE ?_ ?_
       ·refine aQ J fun K1 hK1 => ?_
        (refine aG Z (aD V Z Z Z (aG Z ?_)))
        refine cM slI Z Z Z O (fun p1 => ?_)
        (refine aG Z ?_)
        refine cM (m := 5) slI Z Z Z (by decide) (fun p2 => ?_)
        (refine aG Z ?_)
        refine lP #[.int .i64 9, .int .i64 0, .int .i64 0, .int .i64 1] Z qR Z ?_
        (refine aG Z ?_)
        refine aS (val := .bool true) V Z Z Z Z (fun w hs => ?_) ?_; exact cC w 0 w.heap.size 0 w.heap.size _ _ ⟨9, 0, 0, 1⟩ _ _ _ _ (gE (hs.blk (b := e1) U) (hs.blk (b := e2) U) (hs.blk (b := e3) U) (hs.blk (b := e4) U) (hs.blk (b := e5) U) (hs.blk (b := e6) U)) (dC (hs.blk (b := p1) U)) (dC (hs.blk (b := p2) U)) (show 2 ≤ maxLen by decide) (by rw [List.length_replicate]; simp only [maxLen]; omega) (by rw [List.length_replicate]; simp only [maxLen]; omega)
        (refine aG Z (aD V Z Z Z (aG Z (aD V Z Z Z (aD V Z Z Z (aK ?_))))))
        exact hK1 _ _ (bZ (hK5 () _ _ ⟨Z, Z, Z, Z, Z, trivial⟩ U))
       ·refine aQ J fun K1 hK1 => ?_
        (refine aG Z ?_)
        refine cM (m := 5) slI Z Z Z (by decide) (fun p2 => ?_)
        (refine aG Z (aD V Z Z Z (aG Z ?_)))
        refine cM slI Z Z Z O (fun p1 => ?_)
        (refine aG Z ?_)
        refine lP #[.int .i64 9, .int .i64 0, .int .i64 0, .int .i64 1] Z qR Z ?_
        (refine aG Z ?_)
        refine aS (val := .bool true) V Z Z Z Z (fun w hs => ?_) ?_; exact cC w 0 w.heap.size 0 w.heap.size _ _ ⟨9, 0, 0, 1⟩ _ _ _ _ (gE (hs.blk (b := e1) U) (hs.blk (b := e2) U) (hs.blk (b := e3) U) (hs.blk (b := e4) U) (hs.blk (b := e5) U) (hs.blk (b := e6) U)) (dC (hs.blk (b := p1) U)) (dC (hs.blk (b := p2) U)) (show 2 ≤ maxLen by decide) (by rw [List.length_replicate]; simp only [maxLen]; omega) (by rw [List.length_replicate]; simp only [maxLen]; omega)
        (refine aG Z (aD V Z Z Z (aG Z (aD V Z Z Z (aD V Z Z Z (aK ?_))))))
        exact hK1 _ _ (bZ (hK5 () _ _ ⟨Z, Z, Z, Z, Z, trivial⟩ U))
      ·refine aQ J fun K1 hK1 => ?_
       (refine aG Z (aD V Z Z Z (aG Z ?_)))
       refine cM slI Z Z Z O (fun p1 => ?_)
       (refine aK ?_)
       refine hK1 _ _ ?_
       refine bE ?_ ?_
       ·refine aQ J fun K1 hK1 => ?_
        (refine aG Z ?_)
        refine bD (β := Nat × Nat × Nat × Nat × Nat × Nat) V [] _ M0 Z Z Z Z (Sp.refl _) qS (fun w' hs => fC w') ?_
        rintro ⟨e1, e2, e3, e4, e5, e6⟩ _ rfl
        dsimp only [List.cons_append, List.nil_append]
        (refine aG Z ?_)
        refine cM (m := 5) slI Z Z Z (by decide) (fun p2 => ?_)
        (refine aG Z ?_)
        refine lP #[.int .i64 9, .int .i64 0, .int .i64 0, .int .i64 1] Z qR Z ?_
        (refine aG Z ?_)
        refine aS (val := .bool true) V Z Z Z Z (fun w hs => ?_) ?_; exact cC w 0 w.heap.size 0 w.heap.size _ _ ⟨9, 0, 0, 1⟩ _ _ _ _ (gE (hs.blk (b := e1) U) (hs.blk (b := e2) U) (hs.blk (b := e3) U) (hs.blk (b := e4) U) (hs.blk (b := e5) U) (hs.blk (b := e6) U)) (dC (hs.blk (b := p1) U)) (dC (hs.blk (b := p2) U)) (show 2 ≤ maxLen by decide) (by rw [List.length_replicate]; simp only [maxLen]; omega) (by rw [List.length_replicate]; simp only [maxLen]; omega)
        (refine aG Z (aD V Z Z Z (aG Z (aD V Z Z Z (aD V Z Z Z (aK ?_))))))
        exact hK1 _ _ (bZ (hK5 () _ _ ⟨Z, Z, Z, Z, Z, trivial⟩ U))
       ·refine aQ J fun K1 hK1 => ?_
        (refine aG Z ?_)
        refine cM (m := 5) slI Z Z Z (by decide) (fun p2 => ?_)
        (refine aG Z ?_)
        refine bD (β := Nat × Nat × Nat × Nat × Nat × Nat) V [] _ M0 Z Z Z Z (Sp.refl _) qS (fun w' hs => fC w') ?_
        rintro ⟨e1, e2, e3, e4, e5, e6⟩ _ rfl
        dsimp only [List.cons_append, List.nil_append]
        (refine aG Z ?_)
        refine lP #[.int .i64 9, .int .i64 0, .int .i64 0, .int .i64 1] Z qR Z ?_
        (refine aG Z ?_)
        refine aS (val := .bool true) V Z Z Z Z (fun w hs => ?_) ?_; exact cC w 0 w.heap.size 0 w.heap.size _ _ ⟨9, 0, 0, 1⟩ _ _ _ _ (gE (hs.blk (b := e1) U) (hs.blk (b := e2) U) (hs.blk (b := e3) U) (hs.blk (b := e4) U) (hs.blk (b := e5) U) (hs.blk (b := e6) U)) (dC (hs.blk (b := p1) U)) (dC (hs.blk (b := p2) U)) (show 2 ≤ maxLen by decide) (by rw [List.length_replicate]; simp only [maxLen]; omega) (by rw [List.length_replicate]; simp only [maxLen]; omega)
        (refine aG Z (aD V Z Z Z (aG Z (aD V Z Z Z (aD V Z Z Z (aK ?_))))))
        exact hK1 _ _ (bZ (hK5 () _ _ ⟨Z, Z, Z, Z, Z, trivial⟩ U))
      ·refine aQ J fun K1 hK1 => ?_
       (refine aG Z ?_)
       refine cM (m := 5) slI Z Z Z (by decide) (fun p2 => ?_)
       (refine aK ?_)
       refine hK1 _ _ ?_
       refine bE ?_ ?_
       ·refine aQ J fun K1 hK1 => ?_
        (refine aG Z ?_)
        refine bD (β := Nat × Nat × Nat × Nat × Nat × Nat) V [] _ M0 Z Z Z Z (Sp.refl _) qS (fun w' hs => fC w') ?_
        rintro ⟨e1, e2, e3, e4, e5, e6⟩ _ rfl
        dsimp only [List.cons_append, List.nil_append]
        (refine aG Z (aD V Z Z Z (aG Z ?_)))
        refine cM slI Z Z Z O (fun p1 => ?_)
        (refine aG Z ?_)
        refine lP #[.int .i64 9, .int .i64 0, .int .i64 0, .int .i64 1] Z qR Z ?_
        (refine aG Z ?_)
        refine aS (val := .bool true) V Z Z Z Z (fun w hs => ?_) ?_; exact cC w 0 w.heap.size 0 w.heap.size _ _ ⟨9, 0, 0, 1⟩ _ _ _ _ (gE (hs.blk (b := e1) U) (hs.blk (b := e2) U) (hs.blk (b := e3) U) (hs.blk (b := e4) U) (hs.blk (b := e5) U) (hs.blk (b := e6) U)) (dC (hs.blk (b := p1) U)) (dC (hs.blk (b := p2) U)) (show 2 ≤ maxLen by decide) (by rw [List.length_replicate]; simp only [maxLen]; omega) (by rw [List.length_replicate]; simp only [maxLen]; omega)
        (refine aG Z (aD V Z Z Z (aG Z (aD V Z Z Z (aD V Z Z Z (aK ?_))))))
        exact hK1 _ _ (bZ (hK5 () _ _ ⟨Z, Z, Z, Z, Z, trivial⟩ U))
       ·refine aQ J fun K1 hK1 => ?_
        (refine aG Z (aD V Z Z Z (aG Z ?_)))
        refine cM slI Z Z Z O (fun p1 => ?_)
        (refine aG Z ?_)
        refine bD (β := Nat × Nat × Nat × Nat × Nat × Nat) V [] _ M0 Z Z Z Z (Sp.refl _) qS (fun w' hs => fC w') ?_
        rintro ⟨e1, e2, e3, e4, e5, e6⟩ _ rfl
        dsimp only [List.cons_append, List.nil_append]
        (refine aG Z ?_)
        refine lP #[.int .i64 9, .int .i64 0, .int .i64 0, .int .i64 1] Z qR Z ?_
        (refine aG Z ?_)
        refine aS (val := .bool true) V Z Z Z Z (fun w hs => ?_) ?_; exact cC w 0 w.heap.size 0 w.heap.size _ _ ⟨9, 0, 0, 1⟩ _ _ _ _ (gE (hs.blk (b := e1) U) (hs.blk (b := e2) U) (hs.blk (b := e3) U) (hs.blk (b := e4) U) (hs.blk (b := e5) U) (hs.blk (b := e6) U)) (dC (hs.blk (b := p1) U)) (dC (hs.blk (b := p2) U)) (show 2 ≤ maxLen by decide) (by rw [List.length_replicate]; simp only [maxLen]; omega) (by rw [List.length_replicate]; simp only [maxLen]; omega)
        (refine aG Z (aD V Z Z Z (aG Z (aD V Z Z Z (aD V Z Z Z (aK ?_))))))
        exact hK1 _ _ (bZ (hK5 () _ _ ⟨Z, Z, Z, Z, Z, trivial⟩ U))
     ·refine gU (oM) _ [] (Sp.refl _) qR qR ?_
      refine aQ J fun K1 hK1 => ?_
      (refine aO V Z Z Z ?_)
      refine aS (val := .bool true) V Z Z Z Z (fun w hs => ?_) ?_; exact cY w _ (eK n) 1 (-1) (OWd.at hs U) (show 2 ≤ maxLen by decide)
      (refine aD V Z Z Z (aD V Z Z Z (aG Z ?_)); refine aO V Z Z Z ?_; refine aG Z (aD V Z Z Z (aG Z (bQ Z Z Z O O (aG Z (aD V Z Z Z (aG Z (bQ Z Z Z O O (aG Z (bY V Z Z Z Z O O (aG Z ?_)))))))))))
      refine aS (val := .bool true) V Z Z Z Z (fun w hs => ?_) ?_; exact cY w _ (dR m) _ _ (OM.at hs U) hml
      (refine aG Z ?_; (iterate 3 refine aD V Z Z Z ?_); refine aG Z (aD V Z Z Z (aG Z (qf_lssF V Z Z Z O (aG Z (aD V Z Z Z ?_))))); (iterate 6 refine eD Z Z Z ?_); refine aG Z ?_; (iterate 3 refine aD V Z Z Z ?_); refine aG Z ?_)
      refine bD (β := Nat × Nat × Nat × Nat × Nat × Nat) V [] _ M0 Z Z Z Z (Sp.refl _) qS (fun w' hs => fC w') ?_
      rintro ⟨d1, d2, d3, d4, d5, d6⟩ _ rfl
      dsimp only [List.cons_append, List.nil_append]
      (refine aG Z (aD V Z Z Z (aG Z (aD V Z Z Z (aG Z (aD V Z Z Z (aG Z ?_)))))))
      refine aS (val := .bool true) V Z Z Z Z (fun w hs => ?_) ?_; exact eU w 0 w.heap.size 0 w.heap.size 0 w.heap.size _ _ _ _ _ _ _ _ (rep_rdS (hs.blk (b := s5) U)) (dC (hs.blk (b := s6) U)) (gE (hs.blk (b := d1) U) (hs.blk (b := d2) U) (hs.blk (b := d3) U) (hs.blk (b := d4) U) (hs.blk (b := d5) U) (hs.blk (b := d6) U)) (dC (hs.blk (b := s7) U)) (by rw [List.length_replicate]; simp only [maxLen]; omega) (by rw [List.length_replicate]; simp only [maxLen]; omega) (show 2 ≤ maxLen by decide) (by rw [List.length_replicate]; simp only [maxLen]; omega)
      (refine aG Z ?_; (iterate 3 refine aD V Z Z Z ?_); refine aG Z (aD V Z Z Z (aG Z (qf_lssF V Z Z Z O (aG Z (aD V Z Z Z (aK ?_)))))))
      refine hK1 _ _ ?_
      refine bE ?_ (bE ?_ ?_)
      ·refine aQ J fun K1 hK1 => ?_
       (refine eD Z Z Z (aK ?_))
       refine hK1 _ _ ?_
       refine bE ?_ ?_
       ·refine aQ J fun K1 hK1 => ?_
        ((iterate 6 refine eD Z Z Z ?_); refine aG Z (aD V Z Z Z (aD V Z Z Z (aK ?_))))
        exact hK1 _ _ (bZ (hK5 () _ _ ⟨Z, Z, Z, Z, Z, trivial⟩ U))
       ·refine aQ J fun K1 hK1 => ?_
        ((iterate 6 refine eD Z Z Z ?_); refine aG Z (aD V Z Z Z (aD V Z Z Z (aK ?_))))
        exact hK1 _ _ (bZ (hK5 () _ _ ⟨Z, Z, Z, Z, Z, trivial⟩ U))
      ·refine aQ J fun K1 hK1 => ?_
       (refine eD Z Z Z (eD Z Z Z (aK ?_)))
       refine hK1 _ _ ?_
       refine bE ?_ ?_
       ·refine aQ J fun K1 hK1 => ?_
        ((iterate 5 refine eD Z Z Z ?_); refine aG Z (aD V Z Z Z (aD V Z Z Z (aK ?_))))
        exact hK1 _ _ (bZ (hK5 () _ _ ⟨Z, Z, Z, Z, Z, trivial⟩ U))
       ·refine aQ J fun K1 hK1 => ?_
        ((iterate 5 refine eD Z Z Z ?_); refine aG Z (aD V Z Z Z (aD V Z Z Z (aK ?_))))
        exact hK1 _ _ (bZ (hK5 () _ _ ⟨Z, Z, Z, Z, Z, trivial⟩ U))
      ·refine aQ J fun K1 hK1 => ?_
       (refine eD Z Z Z (aK ?_))
       refine hK1 _ _ ?_
       refine bE ?_ ?_
       ·refine aQ J fun K1 hK1 => ?_
        ((iterate 6 refine eD Z Z Z ?_); refine aG Z (aD V Z Z Z (aD V Z Z Z (aK ?_))))
        exact hK1 _ _ (bZ (hK5 () _ _ ⟨Z, Z, Z, Z, Z, trivial⟩ U))
       ·refine aQ J fun K1 hK1 => ?_
        ((iterate 6 refine eD Z Z Z ?_); refine aG Z (aD V Z Z Z (aD V Z Z Z (aK ?_))))
        exact hK1 _ _ (bZ (hK5 () _ _ ⟨Z, Z, Z, Z, Z, trivial⟩ U))
    rintro _
    obtain hp | hp | hp : (n % 2 = 1 ∧ n < 22) ∨ (n % 2 = 1 ∧ 22 ≤ n) ∨ n % 2 = 0 := by omega
    ·have hw : checkV (eK n) = 0 := by first | (have h := mW n hn2; simp [hp] at h; exact h) | (have h := mW n hn2; simp [show ¬ n < 22 by omega] at h; exact h)
     obtain hq | hq | hq : n = 0 ∨ (1 ≤ n ∧ n < 6) ∨ 6 ≤ n := by omega
     ·have hv : checkV (dR m) ≠ 0 := by first | (have h := cT n hn2; rw [← hm7] at h; simp [hq, show 0 < n by omega] at h; exact h) | (have h := cT n hn2; rw [← hm7] at h; simp [show ¬ n < 6 by omega] at h; exact h) | (have h := cT n hn2; rw [← hm7] at h; simp [show ¬ 0 < n by omega] at h; exact h)
      (refine aL Z (aR (aE (aB ?_))); refine aI V Z Z Z ?_)
      refine aJ (val := .int .i64 (checkV (eK n))) V Z Z Z Z (fun w hs => ?_) ?_; exact dJ w _ (eK n) (OWd.at hs U) (fK hn2)
      generalize checkV (eK n) = cw at *
      (refine dG V Z Z Z O (aA V Z Z (dE Z Z Z O O (dG V Z Z Z O (aA V Z Z (aC Z (aA V Z Z (aC Z (eX V Z Z Z O (aA V Z Z ?_))))))))))
      refine gO gN Z Z Z ?_
      (refine aA V Z Z (aC Z ?_); refine aI V Z Z Z ?_; refine aC Z ?_)
      refine aJ (val := .int .i64 (checkV (dR m))) V Z Z Z Z (fun w hs => ?_) ?_; exact dJ w _ (dR m) (OM.at hs U) (fM hm8)
      generalize checkV (dR m) = cm at *
      (refine aC Z (dG V Z Z Z O (aC Z (aA V Z Z (aC Z (gS V Z Z Z O (aC Z (aA V Z Z (aC Z (aA V Z Z (aC Z (eX V Z Z Z O ?_))))))))))); refine aC Z (aA V Z Z (aC Z ?_)))
      refine gO gN Z Z Z ?_
      (refine aA V Z Z (aF (aL Z (aR (bL (aB (bB V Z Z Z Z O O (aA V Z Z (aF ?_)))))))))
      exact hK (n + 1) _ _ O O ⟨Z, trivial⟩ U
     ·have hv : checkV (dR m) = 0 := by first | (have h := cT n hn2; rw [← hm7] at h; simp [hq, show 0 < n by omega] at h; exact h) | (have h := cT n hn2; rw [← hm7] at h; simp [show ¬ n < 6 by omega] at h; exact h) | (have h := cT n hn2; rw [← hm7] at h; simp [show ¬ 0 < n by omega] at h; exact h)
      (refine aL Z (aR (aE (aB ?_))); refine aI V Z Z Z ?_)
      refine aJ (val := .int .i64 (checkV (eK n))) V Z Z Z Z (fun w hs => ?_) ?_; exact dJ w _ (eK n) (OWd.at hs U) (fK hn2)
      generalize checkV (eK n) = cw at *
      (refine dG V Z Z Z O (aA V Z Z (dE Z Z Z O O (dG V Z Z Z O (aA V Z Z (aC Z (aA V Z Z (aC Z (eX V Z Z Z O (aA V Z Z ?_))))))))))
      refine gO gN Z Z Z ?_
      (refine aA V Z Z (aC Z ?_); refine aI V Z Z Z ?_; refine aC Z ?_)
      refine aJ (val := .int .i64 (checkV (dR m))) V Z Z Z Z (fun w hs => ?_) ?_; exact dJ w _ (dR m) (OM.at hs U) (fM hm8)
      generalize checkV (dR m) = cm at *
      (refine aC Z (dG V Z Z Z O (aC Z (aA V Z Z (aC Z (gS V Z Z Z O (aC Z (aA V Z Z (aC Z (aA V Z Z (aC Z (eX V Z Z Z O ?_))))))))))); refine aC Z (aA V Z Z (aC Z ?_)))
      refine gO gN Z Z Z ?_
      (refine aA V Z Z (aF (aL Z (aR (bL (aB (bB V Z Z Z Z O O (aA V Z Z (aF ?_)))))))))
      exact hK (n + 1) _ _ O O ⟨Z, trivial⟩ U
     ·have hv : checkV (dR m) ≠ 0 := by first | (have h := cT n hn2; rw [← hm7] at h; simp [hq, show 0 < n by omega] at h; exact h) | (have h := cT n hn2; rw [← hm7] at h; simp [show ¬ n < 6 by omega] at h; exact h) | (have h := cT n hn2; rw [← hm7] at h; simp [show ¬ 0 < n by omega] at h; exact h)
      (refine aL Z (aR (aE (aB ?_))); refine aI V Z Z Z ?_)
      refine aJ (val := .int .i64 (checkV (eK n))) V Z Z Z Z (fun w hs => ?_) ?_; exact dJ w _ (eK n) (OWd.at hs U) (fK hn2)
      generalize checkV (eK n) = cw at *
      (refine dG V Z Z Z O (aA V Z Z (dE Z Z Z O O (dG V Z Z Z O (aA V Z Z (aC Z (aA V Z Z (aC Z (eX V Z Z Z O (aA V Z Z ?_))))))))))
      refine gO gN Z Z Z ?_
      (refine aA V Z Z (aC Z ?_); refine aI V Z Z Z ?_; refine aC Z ?_)
      refine aJ (val := .int .i64 (checkV (dR m))) V Z Z Z Z (fun w hs => ?_) ?_; exact dJ w _ (dR m) (OM.at hs U) (fM hm8)
      generalize checkV (dR m) = cm at *
      (refine aC Z (iI V Z Z Z O (aC Z (aA V Z Z (aC Z (gS V Z Z Z O (aC Z (aA V Z Z (aC Z (aA V Z Z (aC Z (gC V Z Z Z O ?_))))))))))); refine aC Z (aA V Z Z (aC Z ?_)))
      refine gO gN Z Z Z ?_
      (refine aA V Z Z (aF (aL Z (aR (bL (aB (bB V Z Z Z Z O O (aA V Z Z (aF ?_)))))))))
      exact hK (n + 1) _ _ O O ⟨Z, trivial⟩ U
    ·have hw : checkV (eK n) ≠ 0 := by first | (have h := mW n hn2; simp [hp] at h; exact h) | (have h := mW n hn2; simp [show ¬ n < 22 by omega] at h; exact h)
     obtain hq | hq | hq : n = 0 ∨ (1 ≤ n ∧ n < 6) ∨ 6 ≤ n := by omega
     ·have hv : checkV (dR m) ≠ 0 := by first | (have h := cT n hn2; rw [← hm7] at h; simp [hq, show 0 < n by omega] at h; exact h) | (have h := cT n hn2; rw [← hm7] at h; simp [show ¬ n < 6 by omega] at h; exact h) | (have h := cT n hn2; rw [← hm7] at h; simp [show ¬ 0 < n by omega] at h; exact h)
      (refine aL Z (aR (aE (aB ?_))); refine aI V Z Z Z ?_)
      refine aJ (val := .int .i64 (checkV (eK n))) V Z Z Z Z (fun w hs => ?_) ?_; exact dJ w _ (eK n) (OWd.at hs U) (fK hn2)
      generalize checkV (eK n) = cw at *
      (refine dG V Z Z Z O (aA V Z Z (dE Z Z Z O O (dG V Z Z Z O (aA V Z Z (aC Z (aA V Z Z (aC Z (eX V Z Z Z O (aA V Z Z ?_))))))))))
      refine gO gN Z Z Z ?_
      (refine aA V Z Z (aC Z ?_); refine aI V Z Z Z ?_; refine aC Z ?_)
      refine aJ (val := .int .i64 (checkV (dR m))) V Z Z Z Z (fun w hs => ?_) ?_; exact dJ w _ (dR m) (OM.at hs U) (fM hm8)
      generalize checkV (dR m) = cm at *
      (refine aC Z (dG V Z Z Z O (aC Z (aA V Z Z (aC Z (gS V Z Z Z O (aC Z (aA V Z Z (aC Z (aA V Z Z (aC Z (eX V Z Z Z O ?_))))))))))); refine aC Z (aA V Z Z (aC Z ?_)))
      refine gO gN Z Z Z ?_
      (refine aA V Z Z (aF (aL Z (aR (bL (aB (bB V Z Z Z Z O O (aA V Z Z (aF ?_)))))))))
      exact hK (n + 1) _ _ O O ⟨Z, trivial⟩ U
     ·have hv : checkV (dR m) = 0 := by first | (have h := cT n hn2; rw [← hm7] at h; simp [hq, show 0 < n by omega] at h; exact h) | (have h := cT n hn2; rw [← hm7] at h; simp [show ¬ n < 6 by omega] at h; exact h) | (have h := cT n hn2; rw [← hm7] at h; simp [show ¬ 0 < n by omega] at h; exact h)
      (refine aL Z (aR (aE (aB ?_))); refine aI V Z Z Z ?_)
      refine aJ (val := .int .i64 (checkV (eK n))) V Z Z Z Z (fun w hs => ?_) ?_; exact dJ w _ (eK n) (OWd.at hs U) (fK hn2)
      generalize checkV (eK n) = cw at *
      (refine dG V Z Z Z O (aA V Z Z (dE Z Z Z O O (dG V Z Z Z O (aA V Z Z (aC Z (aA V Z Z (aC Z (eX V Z Z Z O (aA V Z Z ?_))))))))))
      refine gO gN Z Z Z ?_
      (refine aA V Z Z (aC Z ?_); refine aI V Z Z Z ?_; refine aC Z ?_)
      refine aJ (val := .int .i64 (checkV (dR m))) V Z Z Z Z (fun w hs => ?_) ?_; exact dJ w _ (dR m) (OM.at hs U) (fM hm8)
      generalize checkV (dR m) = cm at *
      (refine aC Z (dG V Z Z Z O (aC Z (aA V Z Z (aC Z (gS V Z Z Z O (aC Z (aA V Z Z (aC Z (aA V Z Z (aC Z (eX V Z Z Z O ?_))))))))))); refine aC Z (aA V Z Z (aC Z ?_)))
      refine gO gN Z Z Z ?_
      (refine aA V Z Z (aF (aL Z (aR (bL (aB (bB V Z Z Z Z O O (aA V Z Z (aF ?_)))))))))
      exact hK (n + 1) _ _ O O ⟨Z, trivial⟩ U
     ·have hv : checkV (dR m) ≠ 0 := by first | (have h := cT n hn2; rw [← hm7] at h; simp [hq, show 0 < n by omega] at h; exact h) | (have h := cT n hn2; rw [← hm7] at h; simp [show ¬ n < 6 by omega] at h; exact h) | (have h := cT n hn2; rw [← hm7] at h; simp [show ¬ 0 < n by omega] at h; exact h)
      (refine aL Z (aR (aE (aB ?_))); refine aI V Z Z Z ?_)
      refine aJ (val := .int .i64 (checkV (eK n))) V Z Z Z Z (fun w hs => ?_) ?_; exact dJ w _ (eK n) (OWd.at hs U) (fK hn2)
      generalize checkV (eK n) = cw at *
      (refine iI V Z Z Z O (aA V Z Z (dE Z Z Z O O (dG V Z Z Z O (aA V Z Z (aC Z (aA V Z Z (aC Z (gC V Z Z Z O (aA V Z Z ?_))))))))))
      refine gO gN Z Z Z ?_
      (refine aA V Z Z (aC Z ?_); refine aI V Z Z Z ?_; refine aC Z ?_)
      refine aJ (val := .int .i64 (checkV (dR m))) V Z Z Z Z (fun w hs => ?_) ?_; exact dJ w _ (dR m) (OM.at hs U) (fM hm8)
      generalize checkV (dR m) = cm at *
      (refine aC Z (iI V Z Z Z O (aC Z (aA V Z Z (aC Z (gS V Z Z Z O (aC Z (aA V Z Z (aC Z (aA V Z Z (aC Z (gC V Z Z Z O ?_))))))))))); refine aC Z (aA V Z Z (aC Z ?_)))
      refine gO gN Z Z Z ?_
      (refine aA V Z Z (aF (aL Z (aR (bL (aB (bB V Z Z Z Z O O (aA V Z Z (aF ?_)))))))))
      exact hK (n + 1) _ _ O O ⟨Z, trivial⟩ U
    ·have hw : checkV (eK n) ≠ 0 := by first | (have h := mW n hn2; simp [hp] at h; exact h) | (have h := mW n hn2; simp [show ¬ n < 22 by omega] at h; exact h)
     obtain hq | hq | hq : n = 0 ∨ (1 ≤ n ∧ n < 6) ∨ 6 ≤ n := by omega
     ·have hv : checkV (dR m) ≠ 0 := by first | (have h := cT n hn2; rw [← hm7] at h; simp [hq, show 0 < n by omega] at h; exact h) | (have h := cT n hn2; rw [← hm7] at h; simp [show ¬ n < 6 by omega] at h; exact h) | (have h := cT n hn2; rw [← hm7] at h; simp [show ¬ 0 < n by omega] at h; exact h)
      (refine aL Z (aR (aE (aB ?_))); refine aI V Z Z Z ?_)
      refine aJ (val := .int .i64 (checkV (eK n))) V Z Z Z Z (fun w hs => ?_) ?_; exact dJ w _ (eK n) (OWd.at hs U) (fK hn2)
      generalize checkV (eK n) = cw at *
      (refine iI V Z Z Z O (aA V Z Z (dE Z Z Z O O (iI V Z Z Z O (aA V Z Z (bA Z Z Z (bA Z Z Z (aA V Z Z ?_))))))))
      refine gO gN Z Z Z ?_
      (refine aA V Z Z (aC Z ?_); refine aI V Z Z Z ?_; refine aC Z ?_)
      refine aJ (val := .int .i64 (checkV (dR m))) V Z Z Z Z (fun w hs => ?_) ?_; exact dJ w _ (dR m) (OM.at hs U) (fM hm8)
      generalize checkV (dR m) = cm at *
      (refine aC Z (iI V Z Z Z O (aC Z (aA V Z Z (aC Z (pT V Z Z Z O (aC Z (aA V Z Z (bA Z Z Z (bA Z Z Z (aC Z (aA V Z Z ?_))))))))))); refine aC Z ?_)
      refine gO gN Z Z Z ?_
      (refine aA V Z Z (aF (aL Z (aR (bL (aB (bB V Z Z Z Z O O (aA V Z Z (aF ?_)))))))))
      exact hK (n + 1) _ _ O O ⟨Z, trivial⟩ U
     ·have hv : checkV (dR m) = 0 := by first | (have h := cT n hn2; rw [← hm7] at h; simp [hq, show 0 < n by omega] at h; exact h) | (have h := cT n hn2; rw [← hm7] at h; simp [show ¬ n < 6 by omega] at h; exact h) | (have h := cT n hn2; rw [← hm7] at h; simp [show ¬ 0 < n by omega] at h; exact h)
      (refine aL Z (aR (aE (aB ?_))); refine aI V Z Z Z ?_)
      refine aJ (val := .int .i64 (checkV (eK n))) V Z Z Z Z (fun w hs => ?_) ?_; exact dJ w _ (eK n) (OWd.at hs U) (fK hn2)
      generalize checkV (eK n) = cw at *
      (refine iI V Z Z Z O (aA V Z Z (dE Z Z Z O O (iI V Z Z Z O (aA V Z Z (bA Z Z Z (bA Z Z Z (aA V Z Z ?_))))))))
      refine gO gN Z Z Z ?_
      (refine aA V Z Z (aC Z ?_); refine aI V Z Z Z ?_; refine aC Z ?_)
      refine aJ (val := .int .i64 (checkV (dR m))) V Z Z Z Z (fun w hs => ?_) ?_; exact dJ w _ (dR m) (OM.at hs U) (fM hm8)
      generalize checkV (dR m) = cm at *
      (refine aC Z (dG V Z Z Z O (aC Z (aA V Z Z (aC Z (gS V Z Z Z O (aC Z (aA V Z Z (aC Z (aA V Z Z (aC Z (eX V Z Z Z O ?_))))))))))); refine aC Z (aA V Z Z (aC Z ?_)))
      refine gO gN Z Z Z ?_
      (refine aA V Z Z (aF (aL Z (aR (bL (aB (bB V Z Z Z Z O O (aA V Z Z (aF ?_)))))))))
      exact hK (n + 1) _ _ O O ⟨Z, trivial⟩ U
     ·have hv : checkV (dR m) ≠ 0 := by first | (have h := cT n hn2; rw [← hm7] at h; simp [hq, show 0 < n by omega] at h; exact h) | (have h := cT n hn2; rw [← hm7] at h; simp [show ¬ n < 6 by omega] at h; exact h) | (have h := cT n hn2; rw [← hm7] at h; simp [show ¬ 0 < n by omega] at h; exact h)
      (refine aL Z (aR (aE (aB ?_))); refine aI V Z Z Z ?_)
      refine aJ (val := .int .i64 (checkV (eK n))) V Z Z Z Z (fun w hs => ?_) ?_; exact dJ w _ (eK n) (OWd.at hs U) (fK hn2)
      generalize checkV (eK n) = cw at *
      (refine iI V Z Z Z O (aA V Z Z (dE Z Z Z O O (iI V Z Z Z O (aA V Z Z (bA Z Z Z (bA Z Z Z (aA V Z Z ?_))))))))
      refine gO gN Z Z Z ?_
      (refine aA V Z Z (aC Z ?_); refine aI V Z Z Z ?_; refine aC Z ?_)
      refine aJ (val := .int .i64 (checkV (dR m))) V Z Z Z Z (fun w hs => ?_) ?_; exact dJ w _ (dR m) (OM.at hs U) (fM hm8)
      generalize checkV (dR m) = cm at *
      (refine aC Z (iI V Z Z Z O (aC Z (aA V Z Z (aC Z (gS V Z Z Z O (aC Z (aA V Z Z (aC Z (aA V Z Z (aC Z (gC V Z Z Z O ?_))))))))))); refine aC Z (aA V Z Z (aC Z ?_)))
      refine gO gN Z Z Z ?_
      (refine aA V Z Z (aF (aL Z (aR (bL (aB (bB V Z Z Z Z O O (aA V Z Z (aF ?_)))))))))
      exact hK (n + 1) _ _ O O ⟨Z, trivial⟩ U
   clear hc hK hn
   (refine bJ _ Z (aE (aB ?_)))
   refine cE #[.int .i64 0, .int .i64 0, .int .i64 0, .int .i64 0, .slice none 0 0, .slice none 0 0, .slice none 0 0, .slice none 0 0] Z qR Z ?_
   refine aJ (val := .bool true) V Z Z Z Z (fun w hs => ?_) ?_; exact cY w [.int .i64 0, .int .i64 0, .int .i64 0, .int .i64 0, .slice none 0 0, .slice none 0 0, .slice none 0 0, .slice none 0 0] zeroR 0 0 (rg_zero w) (show 0 ≤ maxLen by decide)
   (refine aA V Z Z (aC Z ?_))
   refine cE #[.int .i64 0, .int .i64 0, .int .i64 0, .int .i64 0, .slice none 0 0, .slice none 0 0, .slice none 0 0, .slice none 0 0] Z qR Z ?_
   (refine aC Z ?_)
   refine aJ (val := .bool true) V rfl rfl rfl rfl (fun w hs => ?_) ?_; exact fA w 0 0 0 0 [.int .i64 0, .int .i64 0, .int .i64 0, .int .i64 0, .slice none 0 0, .slice none 0 0, .slice none 0 0, .slice none 0 0] zeroR (.slice none 0 0) (.slice none 0 0) [] 0 [] (rg_zero w) (rd_nilS w) (rd_nilII w) (show 0 ≤ maxLen by decide) (show 0 ≤ maxLen by decide) (show 0 ≤ maxLen by decide) (fun l hl => by cases hl)
   (refine aA V Z Z (aA V Z Z (aC Z ?_)))
   refine cE #[.int .i64 0, .int .i64 0, .int .i64 0, .int .i64 0, .slice none 0 0, .slice none 0 0, .slice none 0 0, .slice none 0 0] Z qR Z ?_
   (refine aC Z ?_)
   refine cE #[.int .i64 0, .int .i64 0, .int .i64 0, .int .i64 0] Z qR Z ?_
   (refine aC Z ?_)
   refine aJ (val := .bool true) V Z Z Z Z (fun w hs => ?_) ?_; exact dW w 0 0 [.int .i64 0, .int .i64 0, .int .i64 0, .int .i64 0, .slice none 0 0, .slice none 0 0, .slice none 0 0, .slice none 0 0] zeroR ⟨0, 0, 0, 0⟩ (.slice none 0 0) [] 0 0 0 0 (rg_zero w) (kZ w) (show 0 ≤ maxLen by decide) (show 0 ≤ maxLen by decide)
   (refine aA V Z Z (aA V Z Z (aC Z ?_)))
   refine cE #[.int .i64 0, .int .i64 0, .int .i64 0, .int .i64 0, .slice none 0 0, .slice none 0 0, .slice none 0 0, .slice none 0 0] Z qR Z ?_
   (refine aC Z ?_)
   refine cE #[.int .i64 0, .int .i64 0, .int .i64 0, .int .i64 0] Z qR Z ?_
   (refine aC Z ?_)
   refine aJ (val := .bool true) V Z Z Z Z (fun w hs => ?_) ?_; exact cC w 0 0 0 0 [.int .i64 0, .int .i64 0, .int .i64 0, .int .i64 0, .slice none 0 0, .slice none 0 0, .slice none 0 0, .slice none 0 0] zeroR ⟨0, 0, 0, 0⟩ (.slice none 0 0) (.slice none 0 0) [] [] (rg_zero w) (kZ w) (kZ w) (show 0 ≤ maxLen by decide) (show 0 ≤ maxLen by decide) (show 0 ≤ maxLen by decide)
   (refine aA V Z Z (aA V Z Z (aC Z ?_)))
   refine bO (β := Nat × Nat × Nat × Nat × Nat × Nat) V [] _ M0 Z Z Z Z (Sp.refl _) qS (fun w' hs => fC w') ?_
   rintro ⟨b1, b2, b3, c4, c5, c6⟩ _ rfl
   dsimp only [List.cons_append, List.nil_append]
   (refine aC Z ?_)
   refine cE #[.int .i64 0, .int .i64 0, .int .i64 0, .int .i64 0] Z qR Z ?_
   (refine aC Z ?_)
   refine aJ (val := .bool true) V Z Z Z Z (fun w hs => ?_) ?_; exact cC w 0 0 0 0 (twoC b1 b2 b3 c6) ⟨2, 2, 1, 2, [1, 2, 1], [0, 3], [1, 1], [[2, 0], [0, 2]]⟩ ⟨0, 0, 0, 0⟩ (.slice none 0 0) (.slice none 0 0) [] [] (gE (hs.blk (b := b1) U) (hs.blk (b := b2) U) (hs.blk (b := b3) U) (hs.blk (b := c4) U) (hs.blk (b := c5) U) (hs.blk (b := c6) U)) (kZ w) (kZ w) (show 2 ≤ maxLen by decide) (show 0 ≤ maxLen by decide) (show 0 ≤ maxLen by decide)
   (refine aA V Z Z (aA V Z Z (aC Z ?_)))
   refine aJ V Z Z Z Z (fun w hs => dQ w) ?_
   (refine aA V Z Z (aA V Z Z (aF (aW ?_))))
   refine aX V Z U fun w hs => ?_
   exact ⟨Z, hs.chg0⟩

end Go.Proofs.YtohlillcaadidaaGreat
