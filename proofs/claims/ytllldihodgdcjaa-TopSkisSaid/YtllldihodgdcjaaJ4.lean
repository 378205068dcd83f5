/- My texts Z6, joined: a claim takes at most 60 files. -/
import Derived.Test.YtllldihodgdcjaaJ3

/- The walk of TopSkis. -/
namespace Go.Proofs.Ytllldihodgdcjaa
open Go Go.Eng
/-- The law's runs. -/
def runP (P : List Nat) (i j : Nat) : Rn := ⟨i, j, 6 * (((P.getD j 0 : Nat) : Int) - ((P.getD i 0 : Nat) : Int))⟩
/-- Runs that the law lays. -/
structure RunsT (sk : Nat) (P : List Nat) (r : List Rn) : Prop where
  all : ∀ x ∈ r, ∃ i j, i < sk ∧ j < sk ∧ i ≠ j ∧ x = runP P i j
theorem runP_ok {sk : Nat} {P : List Nat} (hP : P.Perm (List.range sk)) (h6 : sk ≤ 6) {i j : Nat} (hi : i < sk) (hj : j < sk) (hij : i ≠ j) : (runP P i j).Ok sk := by
  have h1 : ∀ s, s < sk → P.getD s 0 < sk := fun s hs => by
    have hl : P.length = sk := by rw [hP.length_eq, List.length_range]
    rw [List.getD_eq_getElem?_getD, List.getElem?_eq_getElem (by omega), Option.getD_some]
    exact List.mem_range.1 (hP.mem_iff.1 (List.getElem_mem _))
  have h2 := h1 i hi
  have h3 := h1 j hj
  unfold runP
  exact ⟨by simp only; omega, by simp only; omega, by simp only; omega, by simp only; omega, by simp only; omega, by simp only; omega, by simp only; omega⟩
theorem runsT_ok {sk : Nat} {P : List Nat} {r : List Rn} (hP : P.Perm (List.range sk)) (h2 : 2 ≤ sk) (h6 : sk ≤ 6) (hl : r.length ≤ 9) (h : RunsT sk P r) : (⟨sk, 4, r⟩ : Lb).Ok := ⟨by simp only; omega, by simp only; omega, by show (0 : Int) ≤ 4; decide, by show (4 : Int) ≤ 1000; decide, by simp only; omega, fun x hx => by
  obtain ⟨i, j, hi, hj, hij, rfl⟩ := h.all x hx
  exact runP_ok hP h6 hi hj hij⟩
def realP (sk : Nat) (P : List Nat) : List Int := (List.range sk).map fun s => 6 * (8 - ((P.getD s 0 : Nat) : Int))
theorem realP_at {sk : Nat} {P : List Nat} {s : Nat} (hs : s < sk) : (realP sk P).getD s 0 = 6 * (8 - ((P.getD s 0 : Nat) : Int)) := by
  unfold realP
  rw [List.getD_eq_getElem?_getD, List.getElem?_map, List.getElem?_range hs]
  rfl
theorem runsT_true {sk : Nat} {P : List Nat} {r : List Rn} (h : RunsT sk P r) : (⟨sk, 4, r⟩ : Lb).True (realP sk P) := fun x hx => by
  obtain ⟨i, j, hi, hj, hij, rfl⟩ := h.all x hx
  have e1 := realP_at (P := P) hi
  have e2 := realP_at (P := P) hj
  refine ⟨?_, ?_⟩
  · show _ ≤ _
    simp only [runP, Int.toNat_natCast]
    rw [e1, e2]
    omega
  · show _ ≤ _
    simp only [runP, Int.toNat_natCast]
    rw [e1, e2]
    omega
/-- The places of the first skis of an order, from 1 on. -/
def plJ (n : Nat) (L : List Nat) (i : Nat) : List Int := (List.range n).map fun x => if L.idxOf x < i then (L.idxOf x : Int) + 1 else 0
theorem plJ_len (n : Nat) (L : List Nat) (i : Nat) : (plJ n L i).length = n := by simp [plJ]
theorem plJ_zero (n : Nat) (L : List Nat) : List.replicate n (0 : Int) = plJ n L 0 := by
  refine List.ext_getElem (by simp [plJ]) fun x h1 h2 => ?_
  simp [plJ]
theorem plJ_next {n : Nat} {L : List Nat} (hn : L.Nodup) {i : Nat} (hi : i < L.length) : (plJ n L i).set L[i] ((i : Int) + 1) = plJ n L (i + 1) := by
  refine List.ext_getElem (by simp [plJ]) fun x h1 h2 => ?_
  rw [List.getElem_set]
  simp only [plJ, List.getElem_map, List.getElem_range]
  have hix := hn.idxOf_getElem i hi
  by_cases e : L[i] = x
  · rw [if_pos e, ← e, hix, if_pos (by omega)]
  · rw [if_neg e]
    have h3 : L.idxOf x ≠ i := fun h => e (by
      have h4 : L.idxOf x < L.length := by omega
      have h5 := List.getElem_idxOf h4
      simp only [h] at h5
      exact h5)
    by_cases h4 : L.idxOf x < i
    · rw [if_pos h4, if_pos (by omega)]
    · rw [if_neg h4, if_neg (by omega)]
theorem sp_at' {w0 w : World} {Mp : Nat → Prop} {H : List Ck} {t m g c : Nat} {L : List (Int × Int)} {x1 x2 : Int} (hs : Sat w0 Mp H w) (hm : .ow (.slice (some ⟨g, 0, none⟩) m c) t 2 m (spC L) ∈ H) (hl : m = L.length) {i : Nat} (hi : i < L.length) (hx : L[i] = (x1, x2)) : ∀ q, q < 2 → w.cell? ⟨g, 0 + i * 2 + q, none⟩ = [Value.int .i64 x1, .int .i64 x2][q]? := fun q hq => by
  have := RdS.at (own_rdS (t := t) (hs.mem hm) hl) i hi q hq
  rw [hx] at this
  exact this
theorem by_bd {by0 : Nat} {x : Int} (h : (by0 : Int) < 50) (h0 : 0 ≤ x) (h1 : x ≤ 6) : 0 ≤ ((by0 : Int) + 1) * x ∧ ((by0 : Int) + 1) * x ≤ 300 := by
  have h2 := Int.mul_le_mul (show (by0 : Int) + 1 ≤ 50 by omega) h1 h0 (by omega)
  exact ⟨Int.mul_nonneg (by omega) h0, by omega⟩
theorem placeF {l : Lb} {sk : Nat} (hok : l.Ok) (hnc : NoC l.ord sk) (hln : l.n = sk) (hls : l.skis = (sk : Int)) (h6 : sk ≤ 6) {s : Nat} (h1 : s < (plC l l.ord sk).length) (h2 : s < (plJ sk (firF l.ord sk sk).1 sk).length) : 1 ≤ (plC l l.ord sk)[s].1 ∧ (plC l l.ord sk)[s].2 ≤ (sk : Int) ∧ (plC l l.ord sk)[s].1 ≤ (plJ sk (firF l.ord sk sk).1 sk)[s] ∧ (plJ sk (firF l.ord sk sk).1 sk)[s] ≤ (plC l l.ord sk)[s].2 ∧ (knownO l.ord sk sk = true → (plC l l.ord sk)[s].1 = (plC l l.ord sk)[s].2) := by
  have hs : s < sk := by rw [plC_len] at h1; exact h1
  have hi : InO l.ord sk := by have := hok.inO; rwa [hln] at this
  have hL := first_lin hnc hok.o (by omega) hi
  have h3 := lin_bd hL (by omega) hs
  have h4 : (firF l.ord sk sk).1.idxOf s < sk := by have := List.idxOf_lt_length_iff.2 (hL.mem.2 hs); rw [hL.len] at this; exact this
  have e1 : (plC l l.ord sk)[s] = (((1 + upN l.ord s l.n : Nat) : Int), l.skis - dnN l.ord s l.n) := by
    have := plC_get l l.ord hs
    rw [List.getElem?_eq_getElem h1] at this
    exact Option.some.inj this
  have e2 : (plJ sk (firF l.ord sk sk).1 sk)[s] = ((firF l.ord sk sk).1.idxOf s : Int) + 1 := by
    simp only [plJ, List.getElem_map, List.getElem_range]
    rw [if_pos h4]
  rw [e1, e2, hln, hls]
  dsimp only
  refine ⟨by omega, by omega, by omega, by omega, fun hk => ?_⟩
  have := known_place hnc hok.o (by omega) hi hs hk
  omega
/-- A skier's times: with the best place, the worst one, and the own one. -/
def RowT (m : Nat) (by0 lo hi pl : Int) (r1 r2 r3 : List Int) : Prop := ∃ N : List Int, N.length = m ∧ (∀ x ∈ N, 2000 ≤ x ∧ x ≤ 2099) ∧ r1 = N.map (· + by0 * lo) ∧ r2 = N.map (· + by0 * hi) ∧ r3 = N.map (· + by0 * pl)
/-- What the law has of three squads. -/
structure SqS where
  k : Nat
  c1 : Value
  t1 : Value
  c2 : Value
  t2 : Value
  c3 : Value
  t3 : Value
  X1 : List (Value × List Int)
  X2 : List (Value × List Int)
  X3 : List (Value × List Int)
structure SqI (m : Nat) (by0 : Int) (L : List (Int × Int)) (pl : List Int) (z : SqS) : Prop where
  l1 : z.X1.length = z.k
  l2 : z.X2.length = z.k
  l3 : z.X3.length = z.k
  row : ∀ j, (h : j < z.k) → RowT m by0 (L.getD j (0, 0)).1 (L.getD j (0, 0)).2 (pl.getD j 0) (z.X1[j]'(by omega)).2 (z.X2[j]'(by omega)).2 (z.X3[j]'(by omega)).2
theorem sqI_add {m : Nat} {by0 : Int} {L : List (Int × Int)} {pl : List Int} {k : Nat} {c1 t1 c2 t2 c3 t3 e1 f1 e2 f2 e3 f3 : Value} {X1 X2 X3 : List (Value × List Int)} (h : SqI m by0 L pl ⟨k, c1, t1, c2, t2, c3, t3, X1, X2, X3⟩) {u1 u2 u3 : Value} {r1 r2 r3 : List Int} (hr : RowT m by0 (L.getD k (0, 0)).1 (L.getD k (0, 0)).2 (pl.getD k 0) r1 r2 r3) : SqI m by0 L pl ⟨k + 1, e1, f1, e2, f2, e3, f3, X1 ++ [(u1, r1)], X2 ++ [(u2, r2)], X3 ++ [(u3, r3)]⟩ := by
  have l1 : X1.length = k := h.l1
  have l2 : X2.length = k := h.l2
  have l3 : X3.length = k := h.l3
  refine ⟨by simp [l1], by simp [l2], by simp [l3], fun j hj => ?_⟩
  dsimp only at hj ⊢
  by_cases e : j < k
  · rw [List.getElem_append_left (by omega), List.getElem_append_left (by omega), List.getElem_append_left (by omega)]
    exact h.row j e
  · obtain rfl : j = k := by omega
    have g : ∀ (X : List (Value × List Int)) (u : Value × List Int) (hX : X.length = j) (h : j < (X ++ [u]).length), (X ++ [u])[j] = u := fun X u hX h => by subst hX; exact List.getElem_concat_length rfl h
    rw [g X1 _ l1, g X2 _ l2, g X3 _ l3]
    exact hr
structure RowB (m : Nat) (by0 : Int) (kn : Bool) (r1 r2 r3 : List Int) : Prop where
  ex : ∃ (N : List Int) (lo hi pl : Int), N.length = m ∧ (∀ x ∈ N, 2000 ≤ x ∧ x ≤ 2099) ∧ r1 = N.map (· + lo) ∧ r2 = N.map (· + hi) ∧ r3 = N.map (· + pl) ∧ 0 ≤ lo ∧ hi ≤ 300 ∧ lo ≤ pl ∧ pl ≤ hi ∧ (kn = true → lo = hi)
theorem mapadd_get (N : List Int) (a b : Int) (h : a ≤ b) (k : Nat) : (N.map (· + a)).getD k 0 ≤ (N.map (· + b)).getD k 0 := by
  rw [List.getD_eq_getElem?_getD, List.getD_eq_getElem?_getD, List.getElem?_map, List.getElem?_map]
  cases N[k]? with
  | none => exact Int.le_refl _
  | some x =>
    simp only [Option.map_some, Option.getD_some]
    omega
theorem sqI_rows {m sk by0 : Nat} {kn : Bool} {PL : List (Int × Int)} {J : List Int} {z : SqS} (h : SqI m ((by0 : Int) + 1) PL J z) (hk : z.k = sk) (hPl : PL.length = sk) (hJl : J.length = sk) (hb : (by0 : Int) < 50) (h6 : sk ≤ 6) (hPF : ∀ s (h1 : s < PL.length) (h2 : s < J.length), 1 ≤ PL[s].1 ∧ PL[s].2 ≤ (sk : Int) ∧ PL[s].1 ≤ J[s] ∧ J[s] ≤ PL[s].2 ∧ (kn = true → PL[s].1 = PL[s].2)) (j : Nat) (hj : j < sk) (g1 : j < z.X1.length) (g2 : j < z.X2.length) (g3 : j < z.X3.length) : RowB m ((by0 : Int) + 1) kn z.X1[j].2 z.X2[j].2 z.X3[j].2 := by
  obtain ⟨N, n1, n2, n3, n4, n5⟩ := h.row j (by omega)
  obtain ⟨p1, p2, p3, p4, p5⟩ := hPF j (by omega) (by omega)
  have e1 : PL.getD j (0, 0) = PL[j]'(by omega) := by rw [List.getD_eq_getElem?_getD, List.getElem?_eq_getElem, Option.getD_some]
  have e2 : J.getD j 0 = J[j]'(by omega) := by rw [List.getD_eq_getElem?_getD, List.getElem?_eq_getElem, Option.getD_some]
  rw [e1] at n3 n4
  rw [e2] at n5
  have b1 := by_bd (by0 := by0) (x := (PL[j]'(by omega)).1) hb (by omega) (by omega)
  have b2 := by_bd (by0 := by0) (x := (PL[j]'(by omega)).2) hb (by omega) (by omega)
  have m1 := Int.mul_le_mul_of_nonneg_left p3 (show (0 : Int) ≤ (by0 : Int) + 1 by omega)
  have m2 := Int.mul_le_mul_of_nonneg_left p4 (show (0 : Int) ≤ (by0 : Int) + 1 by omega)
  exact ⟨N, _, _, _, n1, n2, n3, n4, n5, b1.1, b2.2, m1, m2, fun hkn => by rw [p5 hkn]⟩
theorem rowB_bd {m : Nat} {by0 : Int} {kn : Bool} {r1 r2 r3 : List Int} (h : RowB m by0 kn r1 r2 r3) : (r1.length = m ∧ ∀ x ∈ r1, 0 ≤ x ∧ x ≤ 100000) ∧ (r2.length = m ∧ ∀ x ∈ r2, 0 ≤ x ∧ x ≤ 100000) ∧ (r3.length = m ∧ ∀ x ∈ r3, 0 ≤ x ∧ x ≤ 100000) := by
  obtain ⟨N, lo, hi, pl, n1, n2, rfl, rfl, rfl, b1, b2, b3, b4, _⟩ := h.ex
  have g : ∀ a : Int, 0 ≤ a → a ≤ 300 → (N.map (· + a)).length = m ∧ ∀ x ∈ N.map (· + a), 0 ≤ x ∧ x ≤ 100000 := fun a h1 h2 => ⟨by rw [List.length_map, n1], fun x hx => by
    obtain ⟨y, hy, rfl⟩ := List.mem_map.1 hx
    have := n2 y hy
    omega⟩
  exact ⟨g _ (by omega) (by omega), g _ (by omega) (by omega), g _ (by omega) (by omega)⟩
/-- What the three tables are to each other. -/
structure Tabs (n m : Nat) (kn : Bool) (T1 T2 T3 : List (List Int)) : Prop where
  len : T1.length = n ∧ T2.length = n ∧ T3.length = n
  b1 : ∀ r ∈ T1, r.length = m ∧ ∀ x ∈ r, 0 ≤ x ∧ x ≤ 100000
  b2 : ∀ r ∈ T2, r.length = m ∧ ∀ x ∈ r, 0 ≤ x ∧ x ≤ 100000
  b3 : ∀ r ∈ T3, r.length = m ∧ ∀ x ∈ r, 0 ≤ x ∧ x ≤ 100000
  le : ∀ s k, (T1.getD s []).getD k 0 ≤ (T3.getD s []).getD k 0
  ge : ∀ s k, (T3.getD s []).getD k 0 ≤ (T2.getD s []).getD k 0
  eq : kn = true → T1 = T2
theorem sqI_T {m sk by0 : Nat} {kn : Bool} {PL : List (Int × Int)} {J : List Int} {z : SqS} (h : SqI m ((by0 : Int) + 1) PL J z) (hk : z.k = sk) (hPl : PL.length = sk) (hJl : J.length = sk) (hb : (by0 : Int) < 50) (h6 : sk ≤ 6) (hPF : ∀ s (h1 : s < PL.length) (h2 : s < J.length), 1 ≤ PL[s].1 ∧ PL[s].2 ≤ (sk : Int) ∧ PL[s].1 ≤ J[s] ∧ J[s] ≤ PL[s].2 ∧ (kn = true → PL[s].1 = PL[s].2)) : Tabs sk m kn (z.X1.map (·.2)) (z.X2.map (·.2)) (z.X3.map (·.2)) := by
  have l1 := h.l1
  have l2 := h.l2
  have l3 := h.l3
  have hr := fun j hj => sqI_rows h hk hPl hJl hb h6 hPF j hj (by omega) (by omega) (by omega)
  have mem : ∀ (X : List (Value × List Int)) (r : List Int), r ∈ X.map (·.2) → ∃ j, ∃ hj : j < X.length, r = X[j].2 := fun X r hx => by
    obtain ⟨p, hp, rfl⟩ := List.mem_map.1 hx
    obtain ⟨j, hj, rfl⟩ := List.mem_iff_getElem.1 hp
    exact ⟨j, hj, rfl⟩
  have gd : ∀ (X : List (Value × List Int)) (s : Nat) (hs : s < X.length), (X.map (·.2)).getD s [] = X[s].2 := fun X s hs => by
    rw [List.getD_eq_getElem?_getD, List.getElem?_map, List.getElem?_eq_getElem hs]
    rfl
  have gn : ∀ (X : List (Value × List Int)) (s : Nat), X.length ≤ s → (X.map (·.2)).getD s [] = [] := fun X s hs => by
    rw [List.getD_eq_getElem?_getD, List.getElem?_map, List.getElem?_eq_none hs]
    rfl
  refine ⟨⟨by rw [List.length_map]; omega, by rw [List.length_map]; omega, by rw [List.length_map]; omega⟩, fun r hx => ?_, fun r hx => ?_, fun r hx => ?_, fun s k => ?_, fun s k => ?_, fun hkn => ?_⟩
  · obtain ⟨j, hj, rfl⟩ := mem _ _ hx
    exact (rowB_bd (hr j (by omega))).1
  · obtain ⟨j, hj, rfl⟩ := mem _ _ hx
    exact (rowB_bd (hr j (by omega))).2.1
  · obtain ⟨j, hj, rfl⟩ := mem _ _ hx
    exact (rowB_bd (hr j (by omega))).2.2
  · by_cases hs : s < sk
    · rw [gd _ s (by omega), gd _ s (by omega)]
      obtain ⟨N, lo, hi, pl, n1, n2, e1, e2, e3, b1, b2, b3, b4, _⟩ := (hr s hs).ex
      rw [e1, e3]
      exact mapadd_get _ _ _ b3 k
    · rw [gn _ s (by omega), gn _ s (by omega)]
      exact Int.le_refl _
  · by_cases hs : s < sk
    · rw [gd _ s (by omega), gd _ s (by omega)]
      obtain ⟨N, lo, hi, pl, n1, n2, e1, e2, e3, b1, b2, b3, b4, _⟩ := (hr s hs).ex
      rw [e2, e3]
      exact mapadd_get _ _ _ b4 k
    · rw [gn _ s (by omega), gn _ s (by omega)]
      exact Int.le_refl _
  · refine List.ext_getElem (by rw [List.length_map, List.length_map]; omega) fun s h1 h2 => ?_
    rw [List.length_map] at h1 h2
    rw [List.getElem_map, List.getElem_map]
    obtain ⟨N, lo, hi, pl, n1, n2, e1, e2, e3, b1, b2, b3, b4, b5⟩ := (hr s (by omega)).ex
    rw [e1, e2, b5 hkn]
theorem rows_addS {w0 w : World} {M : Nat → Prop} {H R : List Ck} {t m : Nat} {xs : List (Value × List Int)} {u : Value} {r : List Int} (hr : r.length = m) (hs : Sat w0 M H w) (hp : Sp H (.ow u t 1 m (ints r) :: un (rowsO t xs) :: R)) : Sat w0 M (un (rowsO t (xs ++ [(u, r)])) :: R) w := by
  subst hr
  exact rows_add (hs.sp hp)
def sqP (b : Nat) (c t : Value) : Ck := .pt b [c, t] 46
def sqK (b : Nat) (k : Nat) (c t : Value) (X : List (Value × List Int)) : List Ck := [.pt b [c, t] 46, .ow c 3 1 k (ints (List.replicate k 0)), .ow t 29 1 k (X.map (·.1)), un (rowsO 3 X)]
def tZ6_a4671d7 : OT := chainT [18, 28, 29, 30, 31] (.nil)
def tZ6_ad0595e : OT := chainT [19, 20, 21, 22, 23, 24, 25, 26, 27] (tZ6_a4671d7)
def tZ6_9c869c1 : OT := chainT [9, 17] (tZ6_a4671d7)
def tZ6_9a6a334 : OT := .alt (chainT [9, 17] (tZ6_ad0595e)) (chainT [19, 20, 21, 22, 23, 24, 25, 26, 27] (tZ6_9c869c1))
def tZ6_6039664 : OT := chainT [10, 11, 12, 13, 14, 15, 16] (tZ6_9c869c1)
def tZ6_8bb1d93 : OT := .alt (chainT [10, 11, 12, 13, 14, 15, 16] (tZ6_9a6a334)) (chainT [19, 20, 21, 22, 23, 24, 25, 26, 27] (tZ6_6039664))
def tZ6_575000a : OT := chainT [0, 8] (tZ6_9c869c1)
def tZ6_752bb0e : OT := .alt (chainT [0, 8] (tZ6_9a6a334)) (chainT [19, 20, 21, 22, 23, 24, 25, 26, 27] (tZ6_575000a))
def tZ6_e554651 : OT := .alt (chainT [0, 8] (tZ6_6039664)) (chainT [10, 11, 12, 13, 14, 15, 16] (tZ6_575000a))
def tZ6_a79a5c2 : OT := .alt (chainT [0, 8] (tZ6_8bb1d93)) (.alt (chainT [10, 11, 12, 13, 14, 15, 16] (tZ6_752bb0e)) (chainT [19, 20, 21, 22, 23, 24, 25, 26, 27] (tZ6_e554651)))
def tZ6_692301e : OT := chainT [1, 2, 3, 4, 5, 6, 7] (tZ6_575000a)
def tZ6_561896e : OT := .alt (chainT [1, 2, 3, 4, 5, 6, 7] (tZ6_752bb0e)) (chainT [19, 20, 21, 22, 23, 24, 25, 26, 27] (tZ6_692301e))
def tZ6_852b8d2 : OT := .alt (chainT [1, 2, 3, 4, 5, 6, 7] (tZ6_e554651)) (chainT [10, 11, 12, 13, 14, 15, 16] (tZ6_692301e))
def tZ6_a7833ca : OT := .alt (chainT [1, 2, 3, 4, 5, 6, 7] (tZ6_a79a5c2)) (.alt (chainT [10, 11, 12, 13, 14, 15, 16] (tZ6_561896e)) (chainT [19, 20, 21, 22, 23, 24, 25, 26, 27] (tZ6_852b8d2)))
def tZ6_f63d762 : OT := chainT [9, 10, 11, 12] .nil
def tZ6_79dcb0d : OT := chainT [4, 5, 8] (tZ6_f63d762)
def tZ6_39a6f32 : OT := chainT [6, 7] (tZ6_79dcb0d)
def tZ6_284be98 : OT := chainT [0, 1, 3] (tZ6_79dcb0d)
def tZ6_7e6ca41 : OT := .alt (chainT [0, 1, 3] (tZ6_39a6f32)) (chainT [6, 7] (tZ6_284be98))
def tZ6_ae0aab7 : OT := chainT [2] (tZ6_284be98)
def tZ6_d18d610 : OT := .alt (chainT [2] (tZ6_7e6ca41)) (chainT [6, 7] (tZ6_ae0aab7))
set_option maxRecDepth 20000 in
set_option maxHeartbeats 4000000 in
theorem topSkis_ca (w : World) (a a2 : Option Addr) (nb cb nb2 cb2 : Nat) (x : Int) (hbyd : DkB w 0 w.heap.size (.slice a nb cb)) (hbyq : DkB w 0 w.heap.size (.slice a2 nb2 cb2)) :
    Ca Try.prog 3 [.slice a nb cb, .slice a2 nb2 cb2, .int .i64 x] w fun r w' => r = .bool true ∧ Chg [] w w' := by
  refine q_of (Sat.nil w M0) Try.func3 rfl (by simp [Try.ntmps3]) ?_
  (refine q_seq (q_region (ql_pure tabOk rfl rfl (q_nil (q_seq (q_region (ql_pure tabOk rfl rfl ?_)))))))
  refine ql_call (β := Nat) tabOk [] _ M0 rfl rfl rfl rfl (Sp.refl _) (fun _ h => h.elim) (fun w' hs => of_ca w' a nb cb) ?_
  rintro bd _ rfl
  dsimp only [List.cons_append, List.nil_append]
  (refine ql_pure tabOk rfl rfl ?_)
  refine ql_call (β := Nat) tabOk [] _ M0 rfl rfl rfl rfl (Sp.refl _) (fun _ h => h.elim) (fun w' hs => of_ca w' a2 nb2 cb2) ?_
  rintro bq _ rfl
  dsimp only [List.cons_append, List.nil_append]
  (refine ql_pure tabOk rfl rfl (ql_pure tabOk rfl rfl (q_nil (q_seq (q_region (ql_pure tabOk rfl rfl ?_))))))
  refine ql_call (β := Int) (ψ := fun x v => v = .int .i64 x ∧ 2 ≤ x ∧ x ≤ 6) (L' := fun _ => [dkP (.slice a nb cb) bd (0 + 1)]) tabOk [dkP (.slice a nb cb) bd (0)] _ (fun x => x = bd) rfl rfl rfl rfl (Sp.cons (by repeat constructor) (Sp.refl _)) (fun x hx => ⟨_, .head _, hx⟩) (fun w' hs => btw0 hbyd hs (by omega) (by omega) (by omega) (by omega)) ?_
  rintro skI _ ⟨rfl, hsk2, hsk6⟩
  obtain ⟨sk, rfl⟩ := Int.eq_ofNat_of_zero_le (show 0 ≤ skI by omega)
  dsimp only [List.cons_append, List.nil_append]
  skip
  refine ql_mk #[.int .i64 sk, .int .i64 4, .slice none 0 0] rfl (by kernel_rfl) rfl ?_
  skip
  refine ql_alloc zero28 rfl (fun b9 => ?_)
  (refine ql_setA tabOk rfl rfl rfl rfl rfl (by repeat constructor) rfl ?_; refine q_nil (q_seq (q_region (ql_pure tabOk rfl rfl (ql_pure tabOk rfl rfl ?_)))); refine ql_loadBa tabOk rfl rfl rfl ?_)
  refine ql_call (β := Value × List Nat) (ψ := fun x v => v = x.1 ∧ x.2.Perm (List.range sk)) (L' := fun x => [.ow x.1 3 1 sk (ints (chI x.2)), dkP (.slice a nb cb) bd (1 + sk)]) tabOk [dkP (.slice a nb cb) bd 1] _ (fun x => x = bd) rfl rfl rfl rfl (Sp.cons (by repeat constructor) (Sp.refl _)) (fun x hx => ⟨_, .head _, hx⟩) (fun w' hs => shuf_ca sk (by omega) 1 (by omega) w' bd 0 w.heap.size _ (hbyd.keep hs.chg0) (dk_new hs) (hs.all _ (.head _))) ?_
  rintro ⟨_, P⟩ rv ⟨rfl, hP⟩
  dsimp only [List.cons_append, List.nil_append] at hP ⊢
  have hPl : P.length = sk := by rw [hP.length_eq, List.length_range]
  refine ql_fact (fun w hs => hs.ownSome (v := rv) (by repeat constructor) (by omega)) ?_
  rintro ⟨gr, cr, rfl⟩
  (refine ql_pure tabOk rfl rfl (q_nil (q_seq (q_seq (q_region (ql_pure tabOk rfl rfl ?_))))))
  refine ql_call (β := Int) (ψ := fun x v => v = .int .i64 x ∧ 0 ≤ x ∧ x ≤ 10 - 1) (L' := fun _ => [dkP (.slice a nb cb) bd (1 + sk + 1)]) tabOk [dkP (.slice a nb cb) bd (1 + sk)] _ (fun x => x = bd) rfl rfl rfl rfl (Sp.cons (by repeat constructor) (Sp.refl _)) (fun x hx => ⟨_, .head _, hx⟩) (fun w' hs => drw0 hbyd hs (by omega) (by omega)) ?_
  rintro cI _ ⟨rfl, hc0, hc9⟩
  obtain ⟨c, rfl⟩ := Int.eq_ofNat_of_zero_le hc0
  dsimp only [List.cons_append, List.nil_append]
  (refine ql_pure tabOk rfl rfl (q_nil (q_block ?_)))
  refine q_conv (H' := [.ow (.slice none 0 0) 33 3 0 [], .pt b9 [.int .i64 sk, .int .i64 4, .slice none 0 0] 28, .ow (.slice (some ⟨gr, 0, none⟩) sk cr) 3 1 sk (ints (chI P)), dkP (.slice a nb cb) bd (1 + sk + 1), dkP (.slice a2 nb2 cb2) bq (0)]) (fun w' hs => (Sat.ownil (hs.sp (H' := [.pt b9 [.int .i64 sk, .int .i64 4, .slice none 0 0] 28, .ow (.slice (some ⟨gr, 0, none⟩) sk cr) 3 1 sk (ints (chI P)), dkP (.slice a nb cb) bd (1 + sk + 1), dkP (.slice a2 nb2 cb2) bq (0)]) (by repeat constructor)) 33 3).sp (by repeat constructor)) ?_
  refine q_loop (σ := Nat × Value × List Rn) (fun z => z.1 ≤ c ∧ z.2.2.length ≤ z.1 ∧ RunsT sk P z.2.2) (fun z => c - z.1) (fun z => [(2, .int .i64 x), (7, .pointer (some ⟨bd, 0, none⟩)), (8, .pointer (some ⟨bq, 0, none⟩)), (9, .pointer (some ⟨b9, 0, none⟩)), (10, .slice (some ⟨gr, 0, none⟩) sk cr), (51, .int .i64 c), (52, .int .i64 z.1)]) (fun z => [.pt b9 [.int .i64 sk, .int .i64 4, z.2.1] 28, .ow z.2.1 33 3 z.2.2.length (rnC z.2.2), .ow (.slice (some ⟨gr, 0, none⟩) sk cr) 3 1 sk (ints (chI P)), dkP (.slice a nb cb) bd (1 + sk + 1 + 2 * z.1), dkP (.slice a2 nb2 cb2) bq (0)]) (0, .slice none 0 0, []) ⟨Nat.zero_le _, Nat.zero_le _, ⟨fun _ h => absurd h (by simp)⟩⟩ ⟨rfl, rfl, rfl, rfl, rfl, rfl, rfl, trivial⟩ (by repeat constructor) ?_
  rintro ⟨k, v, r⟩ ⟨hk, hrl, hrt⟩ K hK
  dsimp only at hk hrl hrt hK ⊢
  (refine q_seq (q_region (ql_pure tabOk rfl rfl (q_nil (q_seq ?_)))))
  refine q_if rfl (fun hc => ?_) (fun hc => ?_)
  · have hk2 : k < c := by omega
    clear hc
    (refine q_skip (q_seq (q_block (q_seq ?_))))
    refine q_draw _ [dkP (.slice a nb cb) bd (1 + sk + 1 + 2 * k)] (Sp.cons (by repeat constructor) (Sp.refl _)) (by kernel_rfl) (by kernel_rfl) ?_
    (refine qf_pure tabOk rfl rfl rfl (qf_pure tabOk rfl rfl rfl ?_); refine qf_loadBa tabOk rfl rfl rfl ?_)
    refine qf_call (β := Int) (ψ := fun x v => v = .int .i64 x ∧ 0 ≤ x ∧ x ≤ sk - 1) (L' := fun _ => [dkP (.slice a nb cb) bd (1 + sk + 1 + 2 * k + 1)]) tabOk [dkP (.slice a nb cb) bd (1 + sk + 1 + 2 * k)] _ (fun x => x = bd) rfl rfl rfl rfl (Sp.cons (by repeat constructor) (Sp.refl _)) (fun x hx => ⟨_, .head _, hx⟩) (fun w' hs => drw0 hbyd hs (by omega) (by omega)) ?_
    rintro iI _ ⟨rfl, hi0, hi1⟩
    obtain ⟨i, rfl⟩ := Int.eq_ofNat_of_zero_le hi0
    dsimp only [List.cons_append, List.nil_append]
    (refine qf_pure tabOk rfl rfl rfl (qf_pure tabOk rfl rfl rfl ?_); refine qf_loadBa tabOk rfl rfl rfl ?_)
    refine qf_call (β := Int) (ψ := fun x v => v = .int .i64 x ∧ 0 ≤ x ∧ x ≤ sk - 1) (L' := fun _ => [dkP (.slice a nb cb) bd (1 + sk + 1 + 2 * k + 1 + 1)]) tabOk [dkP (.slice a nb cb) bd (1 + sk + 1 + 2 * k + 1)] _ (fun x => x = bd) rfl rfl rfl rfl (Sp.cons (by repeat constructor) (Sp.refl _)) (fun x hx => ⟨_, .head _, hx⟩) (fun w' hs => drw0 hbyd hs (by omega) (by omega)) ?_
    rintro jI _ ⟨rfl, hj0, hj1⟩
    obtain ⟨j, rfl⟩ := Int.eq_ofNat_of_zero_le hj0
    dsimp only [List.cons_append, List.nil_append]
    have hiP : i < P.length := by omega
    have hjP : j < P.length := by omega
    have hic : i < (chI P).length := by rw [chI_len]; exact hiP
    have hjc : j < (chI P).length := by rw [chI_len]; exact hjP
    by_cases hij : i = j
    · (refine qf_pure tabOk rfl rfl rfl (qf_pure tabOk rfl rfl rfl (qf_nil (q_seq (q_region (ql_pure tabOk rfl rfl (ql_pure tabOk rfl rfl (ql_neqF tabOk rfl rfl rfl (by omega) (q_nil (q_cond_false rfl (q_skip (q_blk ?_))))))))))); refine q_region (ql_ar tabOk rfl rfl rfl rfl (by omega) (by omega) (ql_pure tabOk rfl rfl (q_nil ?_))))
      exact hK (k + 1, v, r) _ _ ⟨by simp only; omega, by simp only; omega, hrt⟩ (by simp only; omega) ⟨rfl, rfl, rfl, rfl, rfl, rfl, rfl, trivial⟩ (by repeat constructor)
    · obtain ⟨pi, hpi⟩ : ∃ p, P[i] = p := ⟨_, rfl⟩
      obtain ⟨pj, hpj⟩ : ∃ p, P[j] = p := ⟨_, rfl⟩
      have hpi6 : pi < sk := by rw [← hpi]; exact List.mem_range.1 (hP.mem_iff.1 (List.getElem_mem hiP))
      have hpj6 : pj < sk := by rw [← hpj]; exact List.mem_range.1 (hP.mem_iff.1 (List.getElem_mem hjP))
      have hrp : runP P i j = ⟨i, j, 6 * ((pj : Int) - (pi : Int))⟩ := by
        unfold runP
        rw [List.getD_eq_getElem?_getD, List.getElem?_eq_getElem hjP, Option.getD_some, List.getD_eq_getElem?_getD, List.getElem?_eq_getElem hiP, Option.getD_some, hpi, hpj]
      (refine qf_pure tabOk rfl rfl rfl (qf_pure tabOk rfl rfl rfl (qf_nil (q_seq (q_region (ql_pure tabOk rfl rfl (ql_pure tabOk rfl rfl (ql_neqT tabOk rfl rfl rfl (by omega) (q_nil (q_cond_true rfl ?_))))))))))
      refine q_drawS 16 [.ow (.slice (some ⟨gr, 0, none⟩) sk cr) 3 1 sk (ints (chI P)), dkP (.slice a nb cb) bd (1 + sk + 1 + 2 * k + 1 + 1), dkP (.slice a2 nb2 cb2) bq (0)] [.pt b9 [.int .i64 sk, .int .i64 4, v] 28, .ow v 33 3 r.length (rnC r)] (by repeat constructor) (by kernel_rfl) (by kernel_rfl) (by kernel_rfl) fun K1 hK1 => ?_
      (refine qf_pure tabOk rfl rfl rfl ?_; refine qf_loadBa tabOk rfl rfl rfl ?_; (iterate 4 refine qf_pure tabOk rfl rfl rfl ?_))
      refine qf_index tabOk rfl rfl rfl rfl rfl (by omega) (by omega) ?_
      skip
      refine qf_load1 (v := .int .i64 (pj : Nat)) tabOk rfl rfl rfl (fun w hs => by
        have := RdI.at (hs.rdI (v := .slice (some ⟨gr, 0, none⟩) sk cr) (l := chI P) (t := 3) (n := sk) (by repeat constructor) (by rw [chI_len, hPl])) j hjc
        rw [chI_at hjP hjc, hpj] at this
        exact this) ?_
      (refine qf_pure tabOk rfl rfl rfl (qf_pure tabOk rfl rfl rfl ?_))
      refine qf_index tabOk rfl rfl rfl rfl rfl (by omega) (by omega) ?_
      skip
      refine qf_load1 (v := .int .i64 (pi : Nat)) tabOk rfl rfl rfl (fun w hs => by
        have := RdI.at (hs.rdI (v := .slice (some ⟨gr, 0, none⟩) sk cr) (l := chI P) (t := 3) (n := sk) (by repeat constructor) (by rw [chI_len, hPl])) i hic
        rw [chI_at hiP hic, hpi] at this
        exact this) ?_
      (refine qf_ar tabOk rfl rfl rfl rfl (by omega) (by omega) (qf_ar tabOk rfl rfl rfl rfl (by omega) (by omega) ?_))
      refine qf_mk #[.int .i64 i, .int .i64 j, .int .i64 (6 * ((pj : Int) - (pi : Int)))] rfl (by kernel_rfl) rfl ?_
      skip
      refine qf_mkS 33 [.int .i64 i, .int .i64 j, .int .i64 (6 * ((pj : Int) - (pi : Int)))] rfl (by kernel_rfl) rfl (fun bn => ?_)
      (refine qf_nil ?_)
      refine hK1 _ _ [.pt bn [.int .i64 i, .int .i64 j, .int .i64 (6 * ((pj : Int) - (pi : Int)))] 33, .pt b9 [.int .i64 sk, .int .i64 4, v] 28, .ow v 33 3 r.length (rnC r)] (by repeat constructor) ?_
      skip
      refine qf_append (q := 1) (news := [.int .i64 i, .int .i64 j, .int .i64 (6 * ((pj : Int) - (pi : Int)))]) slR rfl rfl rfl (fun v' => by repeat constructor) (fun w' hs => ⟨_, _, Blk.rdN (hs.blk (b := bn) (by repeat constructor)) rfl⟩) (by simp [oneV]) (by omega) (by omega) (fun u' => ?_)
      refine qf_fact (fun w' hs => hs.own_one (v := u') (by repeat constructor)) (fun hone => ?_)
      (refine qf_pure tabOk rfl rfl rfl ?_)
      refine qf_st2 tabOk rfl rfl rfl hone (by repeat constructor) ?_
      (refine qf_nil (q_blk (q_region (ql_ar tabOk rfl rfl rfl rfl (by omega) (by omega) (ql_pure tabOk rfl rfl (q_nil ?_))))))
      exact hK (k + 1, u', r ++ [runP P i j]) _ _ ⟨by simp only; omega, by simp only [List.length_append, List.length_singleton]; omega, ⟨fun y hy => by
        rcases List.mem_append.1 hy with hy | hy
        · exact hrt.all y hy
        · rw [List.mem_singleton.1 hy]; exact ⟨i, j, by omega, by omega, hij, rfl⟩⟩⟩ (by simp only; omega) ⟨rfl, rfl, rfl, rfl, rfl, rfl, rfl, trivial⟩ (by dsimp only; rw [List.length_append, List.length_singleton, hrp, rnC_snoc]; repeat constructor)
  · obtain rfl : k = c := by omega
    clear hc hK hk
    have hok := runsT_ok hP (by omega) (by omega) (by omega) hrt
    have hnc := true_noC hok (runsT_true hrt)
    have hln : (⟨(sk : Int), 4, r⟩ : Lb).n = sk := by unfold Lb.n; simp
    have hrlen : r.length ≤ 9 := by omega
    obtain ⟨l, hL⟩ : ∃ l : Lb, l = ⟨sk, 4, r⟩ := ⟨_, rfl⟩
    rw [← hL] at hok hnc hln
    have hls : l.skis = (sk : Int) := by rw [hL]
    have hlr : l.runs = r := by rw [hL]
    refine q_fact (fun w hs => hs.slice2 (v := v) (by repeat constructor)) ?_
    rintro ⟨va, vc, rfl⟩
    refine q_conv (H' := [.pt b9 (lbC l (.slice va l.runs.length vc)) 28, .ow (.slice va l.runs.length vc) 33 3 l.runs.length (rnC l.runs), dkP (.slice a2 nb2 cb2) bq (0)]) (fun w' hs => by subst hL; exact hs.sp (by repeat constructor)) ?_
    clear hL hlr hrt hrl
    (refine q_exit _ rfl (q_seq (q_region ?_)); refine ql_loadABa tabOk rfl rfl rfl ?_)
    refine ql_call (β := Value) tabOk [] _ M0 rfl rfl rfl rfl (Sp.refl _) (fun _ h => h.elim) (fun w' hs => places_ok w' 0 w'.heap.size l (.slice va l.runs.length vc) (own_rdR (t := 33) (hs.mem (c := .ow (.slice va l.runs.length vc) 33 3 l.runs.length (rnC l.runs)) (by repeat constructor)) rfl) hok hnc) ?_
    rintro v13 _ rfl
    dsimp only [List.cons_append, List.nil_append]
    rw [hln]
    refine ql_fact (fun w hs => hs.ownSome (v := v13) (by repeat constructor) (by omega)) ?_
    rintro ⟨g13, c13, rfl⟩
    (refine ql_pure tabOk rfl rfl (ql_ext tabOk rfl rfl rfl (ql_ext tabOk rfl rfl rfl (ql_pure tabOk rfl rfl (ql_pure tabOk rfl rfl (q_nil (q_seq (q_region ?_))))))); refine ql_loadABa tabOk rfl rfl rfl ?_)
    refine ql_call (β := Value) tabOk [] _ M0 rfl rfl rfl rfl (Sp.refl _) (fun _ h => h.elim) (fun w' hs => first_ok w' 0 w'.heap.size l (.slice va l.runs.length vc) (own_rdR (t := 33) (hs.mem (c := .ow (.slice va l.runs.length vc) 33 3 l.runs.length (rnC l.runs)) (by repeat constructor)) rfl) hok hnc) ?_
    rintro v15 _ rfl
    dsimp only [List.cons_append, List.nil_append]
    rw [hln]
    refine ql_fact (fun w hs => hs.ownSome (v := v15) (by repeat constructor) (by omega)) ?_
    rintro ⟨g15, c15, rfl⟩
    (refine ql_pure tabOk rfl rfl (ql_ext tabOk rfl rfl rfl (ql_ext tabOk rfl rfl rfl (ql_pure tabOk rfl rfl (ql_pure tabOk rfl rfl (q_nil (q_seq (q_region ?_))))))); refine ql_loadABa tabOk rfl rfl rfl ?_; refine ql_pure tabOk rfl rfl ?_; refine ql_loadBa tabOk rfl rfl rfl ?_)
    rw [hls]
    refine ql_callv (val := .tuple #[.bool (knownO l.ord sk sk), .int .i64 0]) tabOk rfl rfl rfl rfl (fun w hs => ?_) ?_; exact by have := known_ok w 0 w.heap.size l (.slice va l.runs.length vc) sk (own_rdR (t := 33) (hs.mem (c := .ow (.slice va l.runs.length vc) 33 3 l.runs.length (rnC l.runs)) (by repeat constructor)) rfl) hok hnc (by omega) (by omega); rw [hln] at this; exact this
    generalize hkn : knownO l.ord sk sk = kn
    (refine ql_pure tabOk rfl rfl (ql_ext tabOk rfl rfl rfl (ql_ext tabOk rfl rfl rfl (ql_pure tabOk rfl rfl (ql_pure tabOk rfl rfl (q_nil (q_seq (q_seq (q_region (ql_pure tabOk rfl rfl (ql_neqF tabOk rfl rfl rfl (by omega) (ql_pure tabOk rfl rfl ?_))))))))))); refine ql_gyes rfl (ql_pure tabOk rfl rfl (ql_gyes rfl (ql_neqF tabOk rfl rfl rfl (by omega) (ql_pure tabOk rfl rfl (ql_pure tabOk rfl rfl (ql_gyes rfl (ql_pure tabOk rfl rfl (ql_gyes rfl (ql_neqF tabOk rfl rfl rfl (by omega) (ql_pure tabOk rfl rfl (ql_pure tabOk rfl rfl ?_))))))))))); refine ql_gyes rfl (ql_pure tabOk rfl rfl (ql_gyes rfl (ql_pure tabOk rfl rfl (ql_gyes rfl (ql_pure tabOk rfl rfl (ql_gyes rfl ?_)))))); refine ql_loadBa tabOk rfl rfl rfl ?_; refine ql_gyes rfl (ql_neqF tabOk rfl rfl rfl (by omega) (ql_pure tabOk rfl rfl (ql_pure tabOk rfl rfl (ql_gyes rfl (ql_pure tabOk rfl rfl (ql_gyes rfl (ql_pure tabOk rfl rfl (ql_gyes rfl (ql_pure tabOk rfl rfl (ql_gyes rfl ?_)))))))))); refine ql_loadBa tabOk rfl rfl rfl ?_; refine ql_gyes rfl (ql_neqF tabOk rfl rfl rfl (by omega) (ql_pure tabOk rfl rfl (q_nil (q_cond_false rfl (q_skip (q_seq (q_region ?_))))))))
    refine ql_mk #[.slice none 0 0, .int .i64 2, .int .i64 1, .int .i64 0, .int .i64 0, .int .i64 0] rfl (by kernel_rfl) rfl ?_
    skip
    refine ql_alloc zero43 rfl (fun b19 => ?_)
    (refine ql_setA tabOk rfl rfl rfl rfl rfl (by repeat constructor) rfl ?_; refine q_nil (q_seq (q_seq (q_region (ql_pure tabOk rfl rfl ?_)))))
    refine ql_call (β := Int) (ψ := fun x v => v = .int .i64 x ∧ 1 ≤ x ∧ x ≤ 4) (L' := fun _ => [dkP (.slice a2 nb2 cb2) bq (0 + 1)]) tabOk [dkP (.slice a2 nb2 cb2) bq (0)] _ (fun x => x = bq) rfl rfl rfl rfl (Sp.cons (by repeat constructor) (Sp.refl _)) (fun x hx => ⟨_, .head _, hx⟩) (fun w' hs => btw0 hbyq hs (by omega) (by omega) (by omega) (by omega)) ?_
    rintro mI _ ⟨rfl, hm1, hm4⟩
    obtain ⟨m, rfl⟩ := Int.eq_ofNat_of_zero_le (show 0 ≤ mI by omega)
    dsimp only [List.cons_append, List.nil_append]
    (refine ql_pure tabOk rfl rfl (q_nil (q_block ?_)))
    refine q_conv (H' := [.ow (.slice none 0 0) 3 1 0 [], .pt b19 (rulC (.slice none 0 0)) 43, .ow (.slice (some ⟨g15, 0, none⟩) sk c15) 3 1 sk (ints (chI (firF l.ord sk sk).1)), .ow (.slice (some ⟨g13, 0, none⟩) sk c13) 48 2 sk (spC (plC l l.ord sk)), .pt b9 (lbC l (.slice va l.runs.length vc)) 28, dkP (.slice a2 nb2 cb2) bq (0 + 1)]) (fun w' hs => (Sat.ownil (hs.sp (H' := [.pt b19 (rulC (.slice none 0 0)) 43, .ow (.slice (some ⟨g15, 0, none⟩) sk c15) 3 1 sk (ints (chI (firF l.ord sk sk).1)), .ow (.slice (some ⟨g13, 0, none⟩) sk c13) 48 2 sk (spC (plC l l.ord sk)), .pt b9 (lbC l (.slice va l.runs.length vc)) 28, dkP (.slice a2 nb2 cb2) bq (0 + 1)]) (by repeat constructor)) 3 1).sp (by repeat constructor)) ?_
    refine q_loop (σ := Nat × Value) (fun z => z.1 ≤ m) (fun z => m - z.1) (fun z => [(2, .int .i64 x), (8, .pointer (some ⟨bq, 0, none⟩)), (9, .pointer (some ⟨b9, 0, none⟩)), (13, .slice (some ⟨g13, 0, none⟩) sk c13), (15, .slice (some ⟨g15, 0, none⟩) sk c15), (17, .bool kn), (19, .pointer (some ⟨b19, 0, none⟩)), (127, .int .i64 m), (128, .int .i64 z.1)]) (fun z => [.ow z.2 3 1 z.1 (ints (List.replicate z.1 0)), .pt b19 (rulC (z.2)) 43, .ow (.slice (some ⟨g15, 0, none⟩) sk c15) 3 1 sk (ints (chI (firF l.ord sk sk).1)), .ow (.slice (some ⟨g13, 0, none⟩) sk c13) 48 2 sk (spC (plC l l.ord sk)), .pt b9 (lbC l (.slice va l.runs.length vc)) 28, dkP (.slice a2 nb2 cb2) bq (0 + 1)]) (0, .slice none 0 0) (Nat.zero_le _) ⟨rfl, rfl, rfl, rfl, rfl, rfl, rfl, rfl, rfl, trivial⟩ (by repeat constructor) ?_
    rintro ⟨i, v⟩ hi K2 hK2
    dsimp only at hi hK2 ⊢
    (refine q_seq (q_region (ql_pure tabOk rfl rfl (q_nil (q_seq ?_)))))
    refine q_if rfl (fun hc => ?_) (fun hc => ?_)
    · have hi2 : i < m := by omega
      clear hc
      (refine q_skip (q_seq (q_block (q_region (ql_pure tabOk rfl rfl ?_)))); refine ql_loadBa tabOk rfl rfl rfl ?_)
      refine ql_mkS 3 [.int .i64 0] rfl (by kernel_rfl) rfl (fun bn => ?_)
      skip
      refine ql_append (q := 1) (news := [.int .i64 0]) slI rfl rfl rfl (fun v' => by repeat constructor) (fun w' hs => ⟨_, _, Blk.rdN (hs.blk (b := bn) (by repeat constructor)) rfl⟩) (by simp [oneV]) (by omega) (by omega) (fun u' => ?_)
      refine ql_fact (fun w' hs => hs.own_one (v := u') (by repeat constructor)) (fun hone => ?_)
      (refine ql_pure tabOk rfl rfl ?_)
      refine ql_st0 tabOk rfl rfl rfl hone (by repeat constructor) ?_
      (refine q_nil (q_blk (q_region (ql_ar tabOk rfl rfl rfl rfl (by omega) (by omega) (ql_pure tabOk rfl rfl (q_nil ?_))))))
      exact hK2 (i + 1, u') _ _ (by simp only; omega) (by simp only; omega) ⟨rfl, rfl, rfl, rfl, rfl, rfl, rfl, rfl, rfl, trivial⟩ (by dsimp only; rw [show ints (List.replicate (i + 1) 0) = ints (List.replicate i 0) ++ [.int .i64 0] from by rw [List.replicate_succ']; simp [ints]]; repeat constructor)
    · obtain rfl : m = i := by omega
      clear hc hK2 hi
      (refine q_exit _ rfl (q_seq (q_region (ql_pure tabOk rfl rfl ?_))))
      refine ql_call (β := Int) (ψ := fun y v => v = .int .i64 y ∧ 0 ≤ y ∧ y < 50) (L' := fun _ => []) tabOk [] _ M0 rfl rfl rfl rfl (Sp.refl _) (fun _ h => h.elim) (fun w' hs => foldP_ca x 50 (by omega) (by omega) w') ?_
      rintro byI _ ⟨rfl, hby0, hby1⟩
      obtain ⟨by0, rfl⟩ := Int.eq_ofNat_of_zero_le hby0
      dsimp only [List.cons_append, List.nil_append]
      (refine ql_ar tabOk rfl rfl rfl rfl (by omega) (by omega) (ql_pure tabOk rfl rfl (q_nil (q_seq (q_region ?_)))))
      refine ql_alloc zero46 rfl (fun b21 => ?_)
      skip
      refine ql_alloc zero46 rfl (fun b22 => ?_)
      skip
      refine ql_alloc zero46 rfl (fun b23 => ?_)
      (refine q_nil (q_seq (q_region (ql_pure tabOk rfl rfl ?_))); refine ql_loadBa tabOk rfl rfl rfl ?_)
      rw [hls]
      refine ql_makeI slI rfl rfl rfl (by omega) (fun b24 => ?_)
      rw [plJ_zero sk (firF l.ord sk sk).1]
      have hfi := fir_is (n := sk) (by rw [hln] at hnc; exact hnc) hok.o (by omega) sk (Nat.le_refl _)
      generalize hF : (firF l.ord sk sk).1 = F at hfi ⊢
      have hFl : F.length = sk := hfi.len
      have hFn : F.Nodup := by
        obtain ⟨R, hR⟩ := hfi.rest
        exact (List.nodup_append.1 (hR.nodup_iff.2 List.nodup_range)).1
      have hFm : ∀ s ∈ F, s < sk := fun s hs => by
        obtain ⟨R, hR⟩ := hfi.rest
        exact List.mem_range.1 (hR.mem_iff.1 (List.mem_append_left _ hs))
      (refine ql_pure tabOk rfl rfl (q_nil (q_seq (q_seq (q_region ?_)))); (iterate 3 refine ql_pure tabOk rfl rfl ?_); refine q_nil (q_block ?_))
      refine q_loop (σ := Nat) (fun k => k ≤ sk) (fun k => sk - k) (fun k => [(8, .pointer (some ⟨bq, 0, none⟩)), (9, .pointer (some ⟨b9, 0, none⟩)), (13, .slice (some ⟨g13, 0, none⟩) sk c13), (17, .bool kn), (19, .pointer (some ⟨b19, 0, none⟩)), (20, .int .i64 ((by0 : Int) + 1)), (21, .pointer (some ⟨b21, 0, none⟩)), (22, .pointer (some ⟨b22, 0, none⟩)), (23, .pointer (some ⟨b23, 0, none⟩)), (24, .slice (some ⟨b24, 0, none⟩) sk sk), (142, .slice (some ⟨g15, 0, none⟩) sk c15), (143, .int .i64 sk), (144, .int .i64 k)]) (fun k => [.pt b24 (ints (plJ sk F k)) 3, .pt b23 [.slice none 0 0, .slice none 0 0] 46, .pt b22 [.slice none 0 0, .slice none 0 0] 46, .pt b21 [.slice none 0 0, .slice none 0 0] 46, .ow v 3 1 m (ints (List.replicate m 0)), .pt b19 (rulC v) 43, .ow (.slice (some ⟨g15, 0, none⟩) sk c15) 3 1 sk (ints (chI F)), .ow (.slice (some ⟨g13, 0, none⟩) sk c13) 48 2 sk (spC (plC l l.ord sk)), .pt b9 (lbC l (.slice va l.runs.length vc)) 28, dkP (.slice a2 nb2 cb2) bq (0 + 1)]) 0 (by omega) ⟨rfl, rfl, rfl, rfl, rfl, rfl, rfl, rfl, rfl, rfl, rfl, rfl, rfl, trivial⟩ (by repeat constructor) ?_
      rintro k2 hk2 K3 hK3
      (refine q_seq (q_region (ql_pure tabOk rfl rfl (q_nil (q_seq ?_)))))
      refine q_if rfl (fun hc => ?_) (fun hc => ?_)
      · have hk3 : k2 < sk := by omega
        clear hc
        have hkF : k2 < F.length := by omega
        have hkc : k2 < (chI F).length := by rw [chI_len]; exact hkF
        have hfk := hFm F[k2] (List.getElem_mem hkF)
        have hnx := plJ_next (n := sk) hFn hkF
        obtain ⟨f, hf⟩ : ∃ f, F[k2] = f := ⟨_, rfl⟩
        rw [hf] at hfk hnx
        have hfl : f < (plJ sk F k2).length := by rw [plJ_len]; exact hfk
        (refine q_skip (q_seq (q_block (q_seq (q_region (ql_pure tabOk rfl rfl ?_))))))
        refine ql_index tabOk rfl rfl rfl rfl rfl (by omega) (by omega) ?_
        refine ql_load1 (v := .int .i64 (f : Nat)) tabOk rfl rfl rfl (fun w hs => by
          have := RdI.at (hs.rdI (v := .slice (some ⟨g15, 0, none⟩) sk c15) (l := chI F) (t := 3) (n := sk) (by repeat constructor) (by rw [chI_len, hFl])) k2 hkc
          rw [chI_at hkF hkc, hf] at this
          exact this) ?_
        (refine ql_pure tabOk rfl rfl (ql_pure tabOk rfl rfl (q_nil (q_seq (q_seq (q_region (ql_pure tabOk rfl rfl (ql_lssF tabOk rfl rfl rfl (by omega) (ql_pure tabOk rfl rfl (ql_gyes rfl (ql_pure tabOk rfl rfl (ql_gyes rfl ?_))))))))))); refine ql_pure tabOk rfl rfl (ql_gyes rfl ?_); refine ql_loadBa tabOk rfl rfl rfl ?_; refine ql_gyes rfl (ql_geqF tabOk rfl rfl rfl (by omega) (ql_pure tabOk rfl rfl (q_nil (q_cond_false rfl (q_skip (q_region ?_)))))); (iterate 3 refine ql_pure tabOk rfl rfl ?_); refine ql_ar tabOk rfl rfl rfl rfl (by omega) (by omega) ?_)
        rw [hls]
        skip
        refine ql_index tabOk rfl rfl rfl rfl rfl (by omega) (by omega) ?_
        refine ql_storeI tabOk (f) rfl rfl rfl (by repeat constructor) (by first | rfl | omega | simp) hfl ?_
        rw [hnx]
        (refine q_nil (q_blk (q_region (ql_ar tabOk rfl rfl rfl rfl (by omega) (by omega) (ql_pure tabOk rfl rfl (q_nil ?_))))))
        exact hK3 (k2 + 1) _ _ (by omega) (by omega) ⟨rfl, rfl, rfl, rfl, rfl, rfl, rfl, rfl, rfl, rfl, rfl, rfl, rfl, trivial⟩ (by repeat constructor)
      · obtain rfl : sk = k2 := by omega
        clear hc hK3 hk2
        refine q_fact (fun w hs => hs.slice2 (v := v) (by repeat constructor)) ?_
        rintro ⟨ra, rc, rfl⟩
        have hP0 : (plC l l.ord sk).length = sk := plC_len l l.ord sk
        generalize hPL : plC l l.ord sk = PL at hP0 ⊢
        generalize hJ : plJ sk F sk = J
        have hJl : J.length = sk := by rw [← hJ]; exact plJ_len _ _ _
        have hPF : ∀ s (h1 : s < PL.length) (h2 : s < J.length), 1 ≤ PL[s].1 ∧ PL[s].2 ≤ (sk : Int) ∧ PL[s].1 ≤ J[s] ∧ J[s] ≤ PL[s].2 ∧ (kn = true → PL[s].1 = PL[s].2) := by
          subst hPL hJ hkn hF
          exact fun s h1 h2 => placeF hok (by rw [hln] at hnc; exact hnc) hln hls (by omega) h1 h2
        (refine q_exit _ rfl (q_seq (q_seq (q_region ?_))); (iterate 3 refine ql_pure tabOk rfl rfl ?_); refine q_nil (q_block ?_))
        refine q_conv (H' := [.pt b21 [.slice none 0 0, .slice none 0 0] 46, .ow (.slice none 0 0) 3 1 (0) (ints (List.replicate (0) 0)), .ow (.slice none 0 0) 29 1 (0) ((([] : List (Value × List Int))).map (·.1)), un (rowsO 3 (([] : List (Value × List Int)))), .pt b22 [.slice none 0 0, .slice none 0 0] 46, .ow (.slice none 0 0) 3 1 (0) (ints (List.replicate (0) 0)), .ow (.slice none 0 0) 29 1 (0) ((([] : List (Value × List Int))).map (·.1)), un (rowsO 3 (([] : List (Value × List Int)))), .pt b23 [.slice none 0 0, .slice none 0 0] 46, .ow (.slice none 0 0) 3 1 (0) (ints (List.replicate (0) 0)), .ow (.slice none 0 0) 29 1 (0) ((([] : List (Value × List Int))).map (·.1)), un (rowsO 3 (([] : List (Value × List Int)))), .pt b24 (ints J) 3, .ow (.slice ra m rc) 3 1 m (ints (List.replicate m 0)), .pt b19 (rulC (.slice ra m rc)) 43, .ow (.slice (some ⟨g15, 0, none⟩) sk c15) 3 1 sk (ints (chI F)), .ow (.slice (some ⟨g13, 0, none⟩) sk c13) 48 2 sk (spC PL), .pt b9 (lbC l (.slice va l.runs.length vc)) 28, dkP (.slice a2 nb2 cb2) bq (0 + 1)]) (fun w' hs => by
          have h1 := rows_nil' 3 (Sat.ownil (Sat.ownil hs 3 1) 29 1) 0
          have h2 := rows_nil' 3 (Sat.ownil (Sat.ownil h1 3 1) 29 1) 0
          have h3 := rows_nil' 3 (Sat.ownil (Sat.ownil h2 3 1) 29 1) 0
          exact h3.sp (by repeat constructor)) ?_
        refine q_loop (σ := SqS) (fun z => z.k ≤ sk ∧ SqI m ((by0 : Int) + 1) PL J z) (fun z => sk - z.k) (fun z => [(8, .pointer (some ⟨bq, 0, none⟩)), (9, .pointer (some ⟨b9, 0, none⟩)), (13, .slice (some ⟨g13, 0, none⟩) sk c13), (17, .bool kn), (19, .pointer (some ⟨b19, 0, none⟩)), (20, .int .i64 ((by0 : Int) + 1)), (21, .pointer (some ⟨b21, 0, none⟩)), (22, .pointer (some ⟨b22, 0, none⟩)), (23, .pointer (some ⟨b23, 0, none⟩)), (24, .slice (some ⟨b24, 0, none⟩) sk sk), (163, .slice (some ⟨g13, 0, none⟩) sk c13), (164, .int .i64 sk), (165, .int .i64 z.k)]) (fun z => [.pt b21 [z.c1, z.t1] 46, .ow (z.c1) 3 1 (z.k) (ints (List.replicate (z.k) 0)), .ow (z.t1) 29 1 (z.k) ((z.X1).map (·.1)), un (rowsO 3 (z.X1)), .pt b22 [z.c2, z.t2] 46, .ow (z.c2) 3 1 (z.k) (ints (List.replicate (z.k) 0)), .ow (z.t2) 29 1 (z.k) ((z.X2).map (·.1)), un (rowsO 3 (z.X2)), .pt b23 [z.c3, z.t3] 46, .ow (z.c3) 3 1 (z.k) (ints (List.replicate (z.k) 0)), .ow (z.t3) 29 1 (z.k) ((z.X3).map (·.1)), un (rowsO 3 (z.X3)), .pt b24 (ints J) 3, .ow (.slice ra m rc) 3 1 m (ints (List.replicate m 0)), .pt b19 (rulC (.slice ra m rc)) 43, .ow (.slice (some ⟨g15, 0, none⟩) sk c15) 3 1 sk (ints (chI F)), .ow (.slice (some ⟨g13, 0, none⟩) sk c13) 48 2 sk (spC PL), .pt b9 (lbC l (.slice va l.runs.length vc)) 28, dkP (.slice a2 nb2 cb2) bq (m * z.k + 1)]) ⟨0, .slice none 0 0, .slice none 0 0, .slice none 0 0, .slice none 0 0, .slice none 0 0, .slice none 0 0, [], [], []⟩ ⟨Nat.zero_le _, ⟨rfl, rfl, rfl, fun j h => absurd h (by simp)⟩⟩ ⟨rfl, rfl, rfl, rfl, rfl, rfl, rfl, rfl, rfl, rfl, rfl, rfl, rfl, trivial⟩ (by repeat constructor) ?_
        rintro ⟨k4, d1, t1, d2, t2, d3, t3, X1, X2, X3⟩ ⟨hk4, hI⟩ K4 hK4
        dsimp only at hk4 hI hK4 ⊢
        (refine q_seq (q_region (ql_pure tabOk rfl rfl (q_nil (q_seq ?_)))))
        refine q_if rfl (fun hc => ?_) (fun hc => ?_)
        · have hk5 : k4 < sk := by omega
          clear hc
          have hkP : k4 < PL.length := by omega
          have hmk : m * k4 ≤ 4 * 6 := Nat.mul_le_mul (by omega) (by omega)
          obtain ⟨⟨lo, hi⟩, hlh⟩ : ∃ q, PL[k4] = q := ⟨_, rfl⟩
          have hkJ : k4 < J.length := by omega
          obtain ⟨pj, hpj⟩ : ∃ q, J[k4] = q := ⟨_, rfl⟩
          have hpf := hPF k4 hkP hkJ
          rw [hlh, hpj] at hpf
          obtain ⟨hp1, hp2, hp3, hp4, hp5⟩ := hpf
          dsimp only at hp1 hp2 hp3 hp4 hp5
          have hbl := by_bd (by0 := by0) (x := lo) (by omega) (by omega) (by omega)
          have hbh := by_bd (by0 := by0) (x := hi) (by omega) (by omega) (by omega)
          have hbp := by_bd (by0 := by0) (x := pj) (by omega) (by omega) (by omega)
          (refine q_skip (q_seq (q_block (q_seq (q_region (ql_pure tabOk rfl rfl ?_))))))
          refine ql_index tabOk rfl rfl rfl rfl rfl (by omega) (by omega) ?_
          refine ql_loadA (cs := [.int .i64 lo, .int .i64 hi]) tabOk rfl rfl rfl rfl (fun w hs q hq => sp_at' hs (t := 48) (L := PL) (by repeat constructor) hP0.symm hkP hlh q hq) ?_
          skip
          refine ql_alloc zero48 rfl (fun b28 => ?_)
          (refine ql_pure tabOk rfl rfl ?_; refine ql_setA tabOk rfl rfl rfl rfl rfl (by repeat constructor) rfl ?_; refine q_nil (q_seq (q_region ?_)); (iterate 3 refine ql_pure tabOk rfl rfl ?_); refine q_nil (q_seq (q_seq (q_region (ql_pure tabOk rfl rfl ?_)))); refine ql_loadBa tabOk rfl rfl rfl ?_; refine ql_pure tabOk rfl rfl (ql_pure tabOk rfl rfl (q_nil (q_block ?_))))
          refine q_conv (H' := [.ow (.slice none 0 0) 3 1 0 [], .ow (.slice none 0 0) 3 1 0 [], .ow (.slice none 0 0) 3 1 0 [], .pt b28 [.int .i64 lo, .int .i64 hi] 48, .pt b21 [d1, t1] 46, .ow (d1) 3 1 (k4) (ints (List.replicate (k4) 0)), .ow (t1) 29 1 (k4) ((X1).map (·.1)), un (rowsO 3 (X1)), .pt b22 [d2, t2] 46, .ow (d2) 3 1 (k4) (ints (List.replicate (k4) 0)), .ow (t2) 29 1 (k4) ((X2).map (·.1)), un (rowsO 3 (X2)), .pt b23 [d3, t3] 46, .ow (d3) 3 1 (k4) (ints (List.replicate (k4) 0)), .ow (t3) 29 1 (k4) ((X3).map (·.1)), un (rowsO 3 (X3)), .pt b24 (ints J) 3, .ow (.slice ra m rc) 3 1 m (ints (List.replicate m 0)), .pt b19 (rulC (.slice ra m rc)) 43, .ow (.slice (some ⟨g15, 0, none⟩) sk c15) 3 1 sk (ints (chI F)), .ow (.slice (some ⟨g13, 0, none⟩) sk c13) 48 2 sk (spC PL), .pt b9 (lbC l (.slice va l.runs.length vc)) 28, dkP (.slice a2 nb2 cb2) bq (m * k4 + 1)]) (fun w' hs => (Sat.ownil (Sat.ownil (Sat.ownil hs 3 1) 3 1) 3 1).sp (by repeat constructor)) ?_
          refine q_loop (σ := Nat × Value × Value × Value × List Int) (fun z => z.1 ≤ m ∧ z.2.2.2.2.length = z.1 ∧ ∀ x ∈ z.2.2.2.2, 2000 ≤ x ∧ x ≤ 2099) (fun z => m - z.1) (fun z => [(8, .pointer (some ⟨bq, 0, none⟩)), (9, .pointer (some ⟨b9, 0, none⟩)), (13, .slice (some ⟨g13, 0, none⟩) sk c13), (17, .bool kn), (19, .pointer (some ⟨b19, 0, none⟩)), (20, .int .i64 ((by0 : Int) + 1)), (21, .pointer (some ⟨b21, 0, none⟩)), (22, .pointer (some ⟨b22, 0, none⟩)), (23, .pointer (some ⟨b23, 0, none⟩)), (24, .slice (some ⟨b24, 0, none⟩) sk sk), (27, .int .i64 k4), (28, .pointer (some ⟨b28, 0, none⟩)), (29, z.2.1), (30, z.2.2.1), (31, z.2.2.2.1), (163, .slice (some ⟨g13, 0, none⟩) sk c13), (164, .int .i64 sk), (165, .int .i64 k4), (172, .int .i64 m), (173, .int .i64 z.1)]) (fun z => [.ow z.2.1 3 1 z.1 (ints (z.2.2.2.2.map (· + ((by0 : Int) + 1) * lo))), .ow z.2.2.1 3 1 z.1 (ints (z.2.2.2.2.map (· + ((by0 : Int) + 1) * hi))), .ow z.2.2.2.1 3 1 z.1 (ints (z.2.2.2.2.map (· + ((by0 : Int) + 1) * pj))), .pt b28 [.int .i64 lo, .int .i64 hi] 48, .pt b21 [d1, t1] 46, .ow (d1) 3 1 (k4) (ints (List.replicate (k4) 0)), .ow (t1) 29 1 (k4) ((X1).map (·.1)), un (rowsO 3 (X1)), .pt b22 [d2, t2] 46, .ow (d2) 3 1 (k4) (ints (List.replicate (k4) 0)), .ow (t2) 29 1 (k4) ((X2).map (·.1)), un (rowsO 3 (X2)), .pt b23 [d3, t3] 46, .ow (d3) 3 1 (k4) (ints (List.replicate (k4) 0)), .ow (t3) 29 1 (k4) ((X3).map (·.1)), un (rowsO 3 (X3)), .pt b24 (ints J) 3, .ow (.slice ra m rc) 3 1 m (ints (List.replicate m 0)), .pt b19 (rulC (.slice ra m rc)) 43, .ow (.slice (some ⟨g15, 0, none⟩) sk c15) 3 1 sk (ints (chI F)), .ow (.slice (some ⟨g13, 0, none⟩) sk c13) 48 2 sk (spC PL), .pt b9 (lbC l (.slice va l.runs.length vc)) 28, dkP (.slice a2 nb2 cb2) bq (m * k4 + z.1 + 1)]) (0, .slice none 0 0, .slice none 0 0, .slice none 0 0, []) ⟨Nat.zero_le _, rfl, fun _ h => absurd h (by simp)⟩ ⟨rfl, rfl, rfl, rfl, rfl, rfl, rfl, rfl, rfl, rfl, rfl, rfl, rfl, rfl, rfl, rfl, rfl, rfl, rfl, rfl, trivial⟩ (by repeat constructor) ?_
          rintro ⟨j, u1, u2, u3, N⟩ ⟨hj, hN, hNb⟩ K5 hK5
          dsimp only at hj hN hNb hK5 ⊢
          (refine q_seq (q_region (ql_pure tabOk rfl rfl (q_nil (q_seq ?_)))))
          refine q_if rfl (fun hc => ?_) (fun hc => ?_)
          · have hj2 : j < m := by omega
            clear hc
            (refine q_skip (q_seq (q_block (q_seq (q_region (ql_pure tabOk rfl rfl ?_))))))
            refine ql_call (β := Int) (ψ := fun x v => v = .int .i64 x ∧ 0 ≤ x ∧ x ≤ 100 - 1) (L' := fun _ => [dkP (.slice a2 nb2 cb2) bq (m * k4 + j + 1 + 1)]) tabOk [dkP (.slice a2 nb2 cb2) bq (m * k4 + j + 1)] _ (fun x => x = bq) rfl rfl rfl rfl (Sp.cons (by repeat constructor) (Sp.refl _)) (fun x hx => ⟨_, .head _, hx⟩) (fun w' hs => drw0 hbyq hs (by omega) (by omega)) ?_
            rintro nI _ ⟨rfl, hn0, hn1⟩
            dsimp only [List.cons_append, List.nil_append]
            (refine ql_ar tabOk rfl rfl rfl rfl (by omega) (by omega) (ql_pure tabOk rfl rfl (q_nil ?_)))
            refine q_cut (σ := Value × Value × Value) (fun z => [(8, .pointer (some ⟨bq, 0, none⟩)), (9, .pointer (some ⟨b9, 0, none⟩)), (13, .slice (some ⟨g13, 0, none⟩) sk c13), (17, .bool kn), (19, .pointer (some ⟨b19, 0, none⟩)), (20, .int .i64 ((by0 : Int) + 1)), (21, .pointer (some ⟨b21, 0, none⟩)), (22, .pointer (some ⟨b22, 0, none⟩)), (23, .pointer (some ⟨b23, 0, none⟩)), (24, .slice (some ⟨b24, 0, none⟩) sk sk), (27, .int .i64 k4), (28, .pointer (some ⟨b28, 0, none⟩)), (29, z.1), (30, z.2.1), (31, z.2.2), (163, .slice (some ⟨g13, 0, none⟩) sk c13), (164, .int .i64 sk), (165, .int .i64 k4), (172, .int .i64 m), (173, .int .i64 j)]) (fun z => [.ow z.1 3 1 (j + 1) (ints (N.map (· + ((by0 : Int) + 1) * lo)) ++ [.int .i64 (2000 + nI + ((by0 : Int) + 1) * lo)]), .ow z.2.1 3 1 (j + 1) (ints (N.map (· + ((by0 : Int) + 1) * hi)) ++ [.int .i64 (2000 + nI + ((by0 : Int) + 1) * hi)]), .ow z.2.2 3 1 (j + 1) (ints (N.map (· + ((by0 : Int) + 1) * pj)) ++ [.int .i64 (2000 + nI + ((by0 : Int) + 1) * pj)]), .pt b28 [.int .i64 lo, .int .i64 hi] 48, .pt b21 [d1, t1] 46, .ow (d1) 3 1 (k4) (ints (List.replicate (k4) 0)), .ow (t1) 29 1 (k4) ((X1).map (·.1)), un (rowsO 3 (X1)), .pt b22 [d2, t2] 46, .ow (d2) 3 1 (k4) (ints (List.replicate (k4) 0)), .ow (t2) 29 1 (k4) ((X2).map (·.1)), un (rowsO 3 (X2)), .pt b23 [d3, t3] 46, .ow (d3) 3 1 (k4) (ints (List.replicate (k4) 0)), .ow (t3) 29 1 (k4) ((X3).map (·.1)), un (rowsO 3 (X3)), .pt b24 (ints J) 3, .ow (.slice ra m rc) 3 1 m (ints (List.replicate m 0)), .pt b19 (rulC (.slice ra m rc)) 43, .ow (.slice (some ⟨g15, 0, none⟩) sk c15) 3 1 sk (ints (chI F)), .ow (.slice (some ⟨g13, 0, none⟩) sk c13) 48 2 sk (spC PL), .pt b9 (lbC l (.slice va l.runs.length vc)) 28, dkP (.slice a2 nb2 cb2) bq (m * k4 + j + 1 + 1)]) ?_ ?_
            rotate_left
            · intro K6 hK6
              refine q_drawT (tZ6_a7833ca) _ [.ow u1 3 1 j (ints (N.map (· + ((by0 : Int) + 1) * lo))), .ow u2 3 1 j (ints (N.map (· + ((by0 : Int) + 1) * hi))), .ow u3 3 1 j (ints (N.map (· + ((by0 : Int) + 1) * pj)))] (Sp.cons (by repeat constructor) (Sp.cons (by repeat constructor) (Sp.cons (by repeat constructor) (Sp.refl _)))) (by kernel_rfl) (by kernel_rfl) ?_
              refine qt_let (σ := Nat × Value × Nat × Value × Nat × Value × Unit) (.nil) (fun ⟨lt0, ap0, lt1, ap1, lt2, ap2, ()⟩ => [(8, .pointer (some ⟨bq, 0, none⟩)), (9, .pointer (some ⟨b9, 0, none⟩)), (13, .slice (some ⟨g13, 0, none⟩) sk c13), (17, .bool kn), (19, .pointer (some ⟨b19, 0, none⟩)), (20, .int .i64 ((by0 : Int) + 1)), (21, .pointer (some ⟨b21, 0, none⟩)), (22, .pointer (some ⟨b22, 0, none⟩)), (23, .pointer (some ⟨b23, 0, none⟩)), (24, .slice (some ⟨b24, 0, none⟩) sk sk), (27, .int .i64 k4), (28, .pointer (some ⟨b28, 0, none⟩)), (163, .slice (some ⟨g13, 0, none⟩) sk c13), (164, .int .i64 sk), (165, .int .i64 k4), (172, .int .i64 m), (173, .int .i64 j), (32, .int .i64 (2000 + nI)), (29, ap0), (30, ap1), (31, ap2)]) (fun ⟨lt0, ap0, lt1, ap1, lt2, ap2, ()⟩ => [.ow ap0 3 1 (j + 1) (ints (N.map (· + ((by0 : Int) + 1) * lo)) ++ [.int .i64 (2000 + nI + ((by0 : Int) + 1) * lo)]), .ow ap1 3 1 (j + 1) (ints (N.map (· + ((by0 : Int) + 1) * hi)) ++ [.int .i64 (2000 + nI + ((by0 : Int) + 1) * hi)]), .ow ap2 3 1 (j + 1) (ints (N.map (· + ((by0 : Int) + 1) * pj)) ++ [.int .i64 (2000 + nI + ((by0 : Int) + 1) * pj)])]) ?_ (fun hS7_8_16_17_27_28 => ?_)
              · rintro ⟨lt0, ap0, lt1, ap1, lt2, ap2, _⟩
                exact qt_nil (hK6 (ap0, ap1, ap2) _ _ ⟨rfl, rfl, rfl, rfl, rfl, rfl, rfl, rfl, rfl, rfl, rfl, rfl, rfl, rfl, rfl, rfl, rfl, rfl, rfl, rfl, trivial⟩ (by repeat constructor))
              refine qt_let (σ := Nat × Value × Nat × Value × Nat × Unit) (tZ6_a4671d7) (fun ⟨lt0, ap0, lt1, ap1, lt2, ()⟩ => [(8, .pointer (some ⟨bq, 0, none⟩)), (9, .pointer (some ⟨b9, 0, none⟩)), (13, .slice (some ⟨g13, 0, none⟩) sk c13), (17, .bool kn), (19, .pointer (some ⟨b19, 0, none⟩)), (20, .int .i64 ((by0 : Int) + 1)), (21, .pointer (some ⟨b21, 0, none⟩)), (22, .pointer (some ⟨b22, 0, none⟩)), (23, .pointer (some ⟨b23, 0, none⟩)), (24, .slice (some ⟨b24, 0, none⟩) sk sk), (27, .int .i64 k4), (28, .pointer (some ⟨b28, 0, none⟩)), (163, .slice (some ⟨g13, 0, none⟩) sk c13), (164, .int .i64 sk), (165, .int .i64 k4), (172, .int .i64 m), (173, .int .i64 j), (32, .int .i64 (2000 + nI)), (29, u1), (186, ap0), (30, u2), (195, ap1), (31, u3), (205, .slice (some ⟨lt2, 0, none⟩) 1 1)]) (fun ⟨lt0, ap0, lt1, ap1, lt2, ()⟩ => [.ow ap0 3 1 (j + 1) (ints (N.map (· + ((by0 : Int) + 1) * lo)) ++ [.int .i64 (2000 + nI + ((by0 : Int) + 1) * lo)]), .ow ap1 3 1 (j + 1) (ints (N.map (· + ((by0 : Int) + 1) * hi)) ++ [.int .i64 (2000 + nI + ((by0 : Int) + 1) * hi)]), .ow u3 3 1 j (ints (N.map (· + ((by0 : Int) + 1) * pj))), .pt lt2 [.int .i64 (2000 + nI + ((by0 : Int) + 1) * pj)] 3]) ?_ (fun hS7_8_16_17_27 => ?_)
              · rintro ⟨lt0, ap0, lt1, ap1, lt2, _⟩
                refine qt_seg (by repeat (first | exact PickL.nil | (apply PickL.cons; rfl))) fun K1 hK1 => ?_
                (refine qf_pure tabOk rfl rfl rfl ?_)
                refine qf_append (q := 1) (news := [.int .i64 (2000 + nI + ((by0 : Int) + 1) * pj)]) slI rfl rfl rfl (fun v' => by repeat constructor) (fun w' hs => ⟨_, _, Blk.rdN (hs.blk (b := lt2) (by repeat constructor)) rfl⟩) (by simp [oneV]) (by omega) (by omega) (fun ap2 => ?_)
                ((iterate 3 refine qf_pure tabOk rfl rfl rfl ?_); refine qf_nil ?_)
                exact hK1 _ _ (hS7_8_16_17_27_28 ⟨lt0, ap0, lt1, ap1, lt2, ap2, ()⟩ _ _ ⟨rfl, rfl, rfl, rfl, rfl, rfl, rfl, rfl, rfl, rfl, rfl, rfl, rfl, rfl, rfl, rfl, rfl, rfl, rfl, rfl, rfl, trivial⟩ (by repeat constructor))
              refine qt_let (σ := Nat × Value × Nat × Value × Unit) (tZ6_ad0595e) (fun ⟨lt0, ap0, lt1, ap1, ()⟩ => [(8, .pointer (some ⟨bq, 0, none⟩)), (9, .pointer (some ⟨b9, 0, none⟩)), (13, .slice (some ⟨g13, 0, none⟩) sk c13), (17, .bool kn), (19, .pointer (some ⟨b19, 0, none⟩)), (20, .int .i64 ((by0 : Int) + 1)), (21, .pointer (some ⟨b21, 0, none⟩)), (22, .pointer (some ⟨b22, 0, none⟩)), (23, .pointer (some ⟨b23, 0, none⟩)), (24, .slice (some ⟨b24, 0, none⟩) sk sk), (27, .int .i64 k4), (28, .pointer (some ⟨b28, 0, none⟩)), (163, .slice (some ⟨g13, 0, none⟩) sk c13), (164, .int .i64 sk), (165, .int .i64 k4), (172, .int .i64 m), (173, .int .i64 j), (32, .int .i64 (2000 + nI)), (29, u1), (186, ap0), (30, u2), (195, ap1), (31, u3)]) (fun ⟨lt0, ap0, lt1, ap1, ()⟩ => [.ow ap0 3 1 (j + 1) (ints (N.map (· + ((by0 : Int) + 1) * lo)) ++ [.int .i64 (2000 + nI + ((by0 : Int) + 1) * lo)]), .ow ap1 3 1 (j + 1) (ints (N.map (· + ((by0 : Int) + 1) * hi)) ++ [.int .i64 (2000 + nI + ((by0 : Int) + 1) * hi)]), .ow u3 3 1 j (ints (N.map (· + ((by0 : Int) + 1) * pj)))]) ?_ (fun hS7_8_16_17 => ?_)
              · rintro ⟨lt0, ap0, lt1, ap1, _⟩
                refine qt_seg (by repeat (first | exact PickL.nil | (apply PickL.cons; rfl))) fun K1 hK1 => ?_
                ((iterate 4 refine qf_pure tabOk rfl rfl rfl ?_))
                refine qf_index tabOk rfl rfl rfl rfl rfl (by omega) (by omega) ?_
                refine qf_loadI tabOk (k4) rfl rfl rfl (by repeat constructor) (by first | rfl | omega | simp) hkJ ?_
                rw [hpj]
                (refine qf_ar tabOk rfl rfl rfl rfl (by omega) (by omega) (qf_ar tabOk rfl rfl rfl rfl (by omega) (by omega) ?_))
                refine qf_mkS 3 [.int .i64 (2000 + nI + ((by0 : Int) + 1) * pj)] rfl (by kernel_rfl) rfl (fun lt2 => ?_)
                (refine qf_nil ?_)
                exact hK1 _ _ (hS7_8_16_17_27 ⟨lt0, ap0, lt1, ap1, lt2, ()⟩ _ _ ⟨rfl, rfl, rfl, rfl, rfl, rfl, rfl, rfl, rfl, rfl, rfl, rfl, rfl, rfl, rfl, rfl, rfl, rfl, rfl, rfl, rfl, rfl, rfl, rfl, trivial⟩ (by repeat constructor))
              refine qt_let (σ := Nat × Value × Nat × Nat × Unit) (tZ6_9c869c1) (fun ⟨lt0, ap0, lt1, lt2, ()⟩ => [(8, .pointer (some ⟨bq, 0, none⟩)), (9, .pointer (some ⟨b9, 0, none⟩)), (13, .slice (some ⟨g13, 0, none⟩) sk c13), (17, .bool kn), (19, .pointer (some ⟨b19, 0, none⟩)), (20, .int .i64 ((by0 : Int) + 1)), (21, .pointer (some ⟨b21, 0, none⟩)), (22, .pointer (some ⟨b22, 0, none⟩)), (23, .pointer (some ⟨b23, 0, none⟩)), (24, .slice (some ⟨b24, 0, none⟩) sk sk), (27, .int .i64 k4), (28, .pointer (some ⟨b28, 0, none⟩)), (163, .slice (some ⟨g13, 0, none⟩) sk c13), (164, .int .i64 sk), (165, .int .i64 k4), (172, .int .i64 m), (173, .int .i64 j), (32, .int .i64 (2000 + nI)), (29, u1), (186, ap0), (30, u2), (194, .slice (some ⟨lt1, 0, none⟩) 1 1), (31, u3), (205, .slice (some ⟨lt2, 0, none⟩) 1 1)]) (fun ⟨lt0, ap0, lt1, lt2, ()⟩ => [.ow ap0 3 1 (j + 1) (ints (N.map (· + ((by0 : Int) + 1) * lo)) ++ [.int .i64 (2000 + nI + ((by0 : Int) + 1) * lo)]), .ow u2 3 1 j (ints (N.map (· + ((by0 : Int) + 1) * hi))), .pt lt1 [.int .i64 (2000 + nI + ((by0 : Int) + 1) * hi)] 3, .ow u3 3 1 j (ints (N.map (· + ((by0 : Int) + 1) * pj))), .pt lt2 [.int .i64 (2000 + nI + ((by0 : Int) + 1) * pj)] 3]) ?_ (fun hS7_8_16_27 => ?_)
              · rintro ⟨lt0, ap0, lt1, lt2, _⟩
                refine qt_seg (by repeat (first | exact PickL.nil | (apply PickL.cons; rfl))) fun K1 hK1 => ?_
                (refine qf_pure tabOk rfl rfl rfl ?_)
                refine qf_append (q := 1) (news := [.int .i64 (2000 + nI + ((by0 : Int) + 1) * hi)]) slI rfl rfl rfl (fun v' => by repeat constructor) (fun w' hs => ⟨_, _, Blk.rdN (hs.blk (b := lt1) (by repeat constructor)) rfl⟩) (by simp [oneV]) (by omega) (by omega) (fun ap1 => ?_)
                (refine qf_nil ?_)
                exact hK1 _ _ (hS7_8_16_17_27 ⟨lt0, ap0, lt1, ap1, lt2, ()⟩ _ _ ⟨rfl, rfl, rfl, rfl, rfl, rfl, rfl, rfl, rfl, rfl, rfl, rfl, rfl, rfl, rfl, rfl, rfl, rfl, rfl, rfl, rfl, rfl, rfl, rfl, trivial⟩ (by repeat constructor))
              refine qt_let (σ := Nat × Value × Nat × Unit) (tZ6_9a6a334) (fun ⟨lt0, ap0, lt1, ()⟩ => [(8, .pointer (some ⟨bq, 0, none⟩)), (9, .pointer (some ⟨b9, 0, none⟩)), (13, .slice (some ⟨g13, 0, none⟩) sk c13), (17, .bool kn), (19, .pointer (some ⟨b19, 0, none⟩)), (20, .int .i64 ((by0 : Int) + 1)), (21, .pointer (some ⟨b21, 0, none⟩)), (22, .pointer (some ⟨b22, 0, none⟩)), (23, .pointer (some ⟨b23, 0, none⟩)), (24, .slice (some ⟨b24, 0, none⟩) sk sk), (27, .int .i64 k4), (28, .pointer (some ⟨b28, 0, none⟩)), (163, .slice (some ⟨g13, 0, none⟩) sk c13), (164, .int .i64 sk), (165, .int .i64 k4), (172, .int .i64 m), (173, .int .i64 j), (32, .int .i64 (2000 + nI)), (29, u1), (186, ap0), (30, u2), (194, .slice (some ⟨lt1, 0, none⟩) 1 1), (31, u3)]) (fun ⟨lt0, ap0, lt1, ()⟩ => [.ow ap0 3 1 (j + 1) (ints (N.map (· + ((by0 : Int) + 1) * lo)) ++ [.int .i64 (2000 + nI + ((by0 : Int) + 1) * lo)]), .ow u2 3 1 j (ints (N.map (· + ((by0 : Int) + 1) * hi))), .pt lt1 [.int .i64 (2000 + nI + ((by0 : Int) + 1) * hi)] 3, .ow u3 3 1 j (ints (N.map (· + ((by0 : Int) + 1) * pj)))]) ?_ (fun hS7_8_16 => ?_)
              · rintro ⟨lt0, ap0, lt1, _⟩
                refine qt_alt ?_ ?_
                · skip
                  refine qt_seg (by repeat (first | exact PickL.nil | (apply PickL.cons; rfl))) fun K1 hK1 => ?_
                  (refine qf_pure tabOk rfl rfl rfl ?_)
                  refine qf_append (q := 1) (news := [.int .i64 (2000 + nI + ((by0 : Int) + 1) * hi)]) slI rfl rfl rfl (fun v' => by repeat constructor) (fun w' hs => ⟨_, _, Blk.rdN (hs.blk (b := lt1) (by repeat constructor)) rfl⟩) (by simp [oneV]) (by omega) (by omega) (fun ap1 => ?_)
                  (refine qf_nil ?_)
                  exact hK1 _ _ (hS7_8_16_17 ⟨lt0, ap0, lt1, ap1, ()⟩ _ _ ⟨rfl, rfl, rfl, rfl, rfl, rfl, rfl, rfl, rfl, rfl, rfl, rfl, rfl, rfl, rfl, rfl, rfl, rfl, rfl, rfl, rfl, rfl, rfl, trivial⟩ (by repeat constructor))
                · skip
                  refine qt_seg (by repeat (first | exact PickL.nil | (apply PickL.cons; rfl))) fun K1 hK1 => ?_
                  ((iterate 4 refine qf_pure tabOk rfl rfl rfl ?_))
                  refine qf_index tabOk rfl rfl rfl rfl rfl (by omega) (by omega) ?_
                  refine qf_loadI tabOk (k4) rfl rfl rfl (by repeat constructor) (by first | rfl | omega | simp) hkJ ?_
                  rw [hpj]
                  (refine qf_ar tabOk rfl rfl rfl rfl (by omega) (by omega) (qf_ar tabOk rfl rfl rfl rfl (by omega) (by omega) ?_))
                  refine qf_mkS 3 [.int .i64 (2000 + nI + ((by0 : Int) + 1) * pj)] rfl (by kernel_rfl) rfl (fun lt2 => ?_)
                  (refine qf_nil ?_)
                  exact hK1 _ _ (hS7_8_16_27 ⟨lt0, ap0, lt1, lt2, ()⟩ _ _ ⟨rfl, rfl, rfl, rfl, rfl, rfl, rfl, rfl, rfl, rfl, rfl, rfl, rfl, rfl, rfl, rfl, rfl, rfl, rfl, rfl, rfl, rfl, rfl, rfl, trivial⟩ (by repeat constructor))
              refine qt_let (σ := Nat × Value × Nat × Unit) (tZ6_6039664) (fun ⟨lt0, ap0, lt2, ()⟩ => [(8, .pointer (some ⟨bq, 0, none⟩)), (9, .pointer (some ⟨b9, 0, none⟩)), (13, .slice (some ⟨g13, 0, none⟩) sk c13), (17, .bool kn), (19, .pointer (some ⟨b19, 0, none⟩)), (20, .int .i64 ((by0 : Int) + 1)), (21, .pointer (some ⟨b21, 0, none⟩)), (22, .pointer (some ⟨b22, 0, none⟩)), (23, .pointer (some ⟨b23, 0, none⟩)), (24, .slice (some ⟨b24, 0, none⟩) sk sk), (27, .int .i64 k4), (28, .pointer (some ⟨b28, 0, none⟩)), (163, .slice (some ⟨g13, 0, none⟩) sk c13), (164, .int .i64 sk), (165, .int .i64 k4), (172, .int .i64 m), (173, .int .i64 j), (32, .int .i64 (2000 + nI)), (29, u1), (186, ap0), (30, u2), (31, u3), (205, .slice (some ⟨lt2, 0, none⟩) 1 1)]) (fun ⟨lt0, ap0, lt2, ()⟩ => [.ow ap0 3 1 (j + 1) (ints (N.map (· + ((by0 : Int) + 1) * lo)) ++ [.int .i64 (2000 + nI + ((by0 : Int) + 1) * lo)]), .ow u2 3 1 j (ints (N.map (· + ((by0 : Int) + 1) * hi))), .ow u3 3 1 j (ints (N.map (· + ((by0 : Int) + 1) * pj))), .pt lt2 [.int .i64 (2000 + nI + ((by0 : Int) + 1) * pj)] 3]) ?_ (fun hS7_8_27 => ?_)
              · rintro ⟨lt0, ap0, lt2, _⟩
                refine qt_seg (by repeat (first | exact PickL.nil | (apply PickL.cons; rfl))) fun K1 hK1 => ?_
                ((iterate 3 refine qf_pure tabOk rfl rfl rfl ?_); refine qf_loadBa tabOk rfl rfl rfl ?_; refine qf_ar tabOk rfl rfl rfl rfl (by omega) (by omega) (qf_ar tabOk rfl rfl rfl rfl (by omega) (by omega) ?_))
                refine qf_mkS 3 [.int .i64 (2000 + nI + ((by0 : Int) + 1) * hi)] rfl (by kernel_rfl) rfl (fun lt1 => ?_)
                (refine qf_nil ?_)
                exact hK1 _ _ (hS7_8_16_27 ⟨lt0, ap0, lt1, lt2, ()⟩ _ _ ⟨rfl, rfl, rfl, rfl, rfl, rfl, rfl, rfl, rfl, rfl, rfl, rfl, rfl, rfl, rfl, rfl, rfl, rfl, rfl, rfl, rfl, rfl, rfl, rfl, trivial⟩ (by repeat constructor))
              refine qt_let (σ := Nat × Nat × Nat × Unit) (tZ6_575000a) (fun ⟨lt0, lt1, lt2, ()⟩ => [(8, .pointer (some ⟨bq, 0, none⟩)), (9, .pointer (some ⟨b9, 0, none⟩)), (13, .slice (some ⟨g13, 0, none⟩) sk c13), (17, .bool kn), (19, .pointer (some ⟨b19, 0, none⟩)), (20, .int .i64 ((by0 : Int) + 1)), (21, .pointer (some ⟨b21, 0, none⟩)), (22, .pointer (some ⟨b22, 0, none⟩)), (23, .pointer (some ⟨b23, 0, none⟩)), (24, .slice (some ⟨b24, 0, none⟩) sk sk), (27, .int .i64 k4), (28, .pointer (some ⟨b28, 0, none⟩)), (163, .slice (some ⟨g13, 0, none⟩) sk c13), (164, .int .i64 sk), (165, .int .i64 k4), (172, .int .i64 m), (173, .int .i64 j), (32, .int .i64 (2000 + nI)), (29, u1), (185, .slice (some ⟨lt0, 0, none⟩) 1 1), (30, u2), (194, .slice (some ⟨lt1, 0, none⟩) 1 1), (31, u3), (205, .slice (some ⟨lt2, 0, none⟩) 1 1)]) (fun ⟨lt0, lt1, lt2, ()⟩ => [.ow u1 3 1 j (ints (N.map (· + ((by0 : Int) + 1) * lo))), .pt lt0 [.int .i64 (2000 + nI + ((by0 : Int) + 1) * lo)] 3, .ow u2 3 1 j (ints (N.map (· + ((by0 : Int) + 1) * hi))), .pt lt1 [.int .i64 (2000 + nI + ((by0 : Int) + 1) * hi)] 3, .ow u3 3 1 j (ints (N.map (· + ((by0 : Int) + 1) * pj))), .pt lt2 [.int .i64 (2000 + nI + ((by0 : Int) + 1) * pj)] 3]) ?_ (fun hS7_16_27 => ?_)
              · rintro ⟨lt0, lt1, lt2, _⟩
                refine qt_seg (by repeat (first | exact PickL.nil | (apply PickL.cons; rfl))) fun K1 hK1 => ?_
                (refine qf_pure tabOk rfl rfl rfl ?_)
                refine qf_append (q := 1) (news := [.int .i64 (2000 + nI + ((by0 : Int) + 1) * lo)]) slI rfl rfl rfl (fun v' => by repeat constructor) (fun w' hs => ⟨_, _, Blk.rdN (hs.blk (b := lt0) (by repeat constructor)) rfl⟩) (by simp [oneV]) (by omega) (by omega) (fun ap0 => ?_)
                (refine qf_nil ?_)
                exact hK1 _ _ (hS7_8_16_27 ⟨lt0, ap0, lt1, lt2, ()⟩ _ _ ⟨rfl, rfl, rfl, rfl, rfl, rfl, rfl, rfl, rfl, rfl, rfl, rfl, rfl, rfl, rfl, rfl, rfl, rfl, rfl, rfl, rfl, rfl, rfl, rfl, trivial⟩ (by repeat constructor))
              refine qt_let (σ := Nat × Value × Unit) (tZ6_8bb1d93) (fun ⟨lt0, ap0, ()⟩ => [(8, .pointer (some ⟨bq, 0, none⟩)), (9, .pointer (some ⟨b9, 0, none⟩)), (13, .slice (some ⟨g13, 0, none⟩) sk c13), (17, .bool kn), (19, .pointer (some ⟨b19, 0, none⟩)), (20, .int .i64 ((by0 : Int) + 1)), (21, .pointer (some ⟨b21, 0, none⟩)), (22, .pointer (some ⟨b22, 0, none⟩)), (23, .pointer (some ⟨b23, 0, none⟩)), (24, .slice (some ⟨b24, 0, none⟩) sk sk), (27, .int .i64 k4), (28, .pointer (some ⟨b28, 0, none⟩)), (163, .slice (some ⟨g13, 0, none⟩) sk c13), (164, .int .i64 sk), (165, .int .i64 k4), (172, .int .i64 m), (173, .int .i64 j), (32, .int .i64 (2000 + nI)), (29, u1), (186, ap0), (30, u2), (31, u3)]) (fun ⟨lt0, ap0, ()⟩ => [.ow ap0 3 1 (j + 1) (ints (N.map (· + ((by0 : Int) + 1) * lo)) ++ [.int .i64 (2000 + nI + ((by0 : Int) + 1) * lo)]), .ow u2 3 1 j (ints (N.map (· + ((by0 : Int) + 1) * hi))), .ow u3 3 1 j (ints (N.map (· + ((by0 : Int) + 1) * pj)))]) ?_ (fun hS7_8 => ?_)
              · rintro ⟨lt0, ap0, _⟩
                refine qt_alt ?_ ?_
                · skip
                  refine qt_seg (by repeat (first | exact PickL.nil | (apply PickL.cons; rfl))) fun K1 hK1 => ?_
                  ((iterate 3 refine qf_pure tabOk rfl rfl rfl ?_); refine qf_loadBa tabOk rfl rfl rfl ?_; refine qf_ar tabOk rfl rfl rfl rfl (by omega) (by omega) (qf_ar tabOk rfl rfl rfl rfl (by omega) (by omega) ?_))
                  refine qf_mkS 3 [.int .i64 (2000 + nI + ((by0 : Int) + 1) * hi)] rfl (by kernel_rfl) rfl (fun lt1 => ?_)
                  (refine qf_nil ?_)
                  exact hK1 _ _ (hS7_8_16 ⟨lt0, ap0, lt1, ()⟩ _ _ ⟨rfl, rfl, rfl, rfl, rfl, rfl, rfl, rfl, rfl, rfl, rfl, rfl, rfl, rfl, rfl, rfl, rfl, rfl, rfl, rfl, rfl, rfl, rfl, trivial⟩ (by repeat constructor))
                · skip
                  refine qt_seg (by repeat (first | exact PickL.nil | (apply PickL.cons; rfl))) fun K1 hK1 => ?_
                  ((iterate 4 refine qf_pure tabOk rfl rfl rfl ?_))
                  refine qf_index tabOk rfl rfl rfl rfl rfl (by omega) (by omega) ?_
                  refine qf_loadI tabOk (k4) rfl rfl rfl (by repeat constructor) (by first | rfl | omega | simp) hkJ ?_
                  rw [hpj]
                  (refine qf_ar tabOk rfl rfl rfl rfl (by omega) (by omega) (qf_ar tabOk rfl rfl rfl rfl (by omega) (by omega) ?_))
                  refine qf_mkS 3 [.int .i64 (2000 + nI + ((by0 : Int) + 1) * pj)] rfl (by kernel_rfl) rfl (fun lt2 => ?_)
                  (refine qf_nil ?_)
                  exact hK1 _ _ (hS7_8_27 ⟨lt0, ap0, lt2, ()⟩ _ _ ⟨rfl, rfl, rfl, rfl, rfl, rfl, rfl, rfl, rfl, rfl, rfl, rfl, rfl, rfl, rfl, rfl, rfl, rfl, rfl, rfl, rfl, rfl, rfl, trivial⟩ (by repeat constructor))
              refine qt_let (σ := Nat × Nat × Unit) (tZ6_752bb0e) (fun ⟨lt0, lt1, ()⟩ => [(8, .pointer (some ⟨bq, 0, none⟩)), (9, .pointer (some ⟨b9, 0, none⟩)), (13, .slice (some ⟨g13, 0, none⟩) sk c13), (17, .bool kn), (19, .pointer (some ⟨b19, 0, none⟩)), (20, .int .i64 ((by0 : Int) + 1)), (21, .pointer (some ⟨b21, 0, none⟩)), (22, .pointer (some ⟨b22, 0, none⟩)), (23, .pointer (some ⟨b23, 0, none⟩)), (24, .slice (some ⟨b24, 0, none⟩) sk sk), (27, .int .i64 k4), (28, .pointer (some ⟨b28, 0, none⟩)), (163, .slice (some ⟨g13, 0, none⟩) sk c13), (164, .int .i64 sk), (165, .int .i64 k4), (172, .int .i64 m), (173, .int .i64 j), (32, .int .i64 (2000 + nI)), (29, u1), (185, .slice (some ⟨lt0, 0, none⟩) 1 1), (30, u2), (194, .slice (some ⟨lt1, 0, none⟩) 1 1), (31, u3)]) (fun ⟨lt0, lt1, ()⟩ => [.ow u1 3 1 j (ints (N.map (· + ((by0 : Int) + 1) * lo))), .pt lt0 [.int .i64 (2000 + nI + ((by0 : Int) + 1) * lo)] 3, .ow u2 3 1 j (ints (N.map (· + ((by0 : Int) + 1) * hi))), .pt lt1 [.int .i64 (2000 + nI + ((by0 : Int) + 1) * hi)] 3, .ow u3 3 1 j (ints (N.map (· + ((by0 : Int) + 1) * pj)))]) ?_ (fun hS7_16 => ?_)
              · rintro ⟨lt0, lt1, _⟩
                refine qt_alt ?_ ?_
                · skip
                  refine qt_seg (by repeat (first | exact PickL.nil | (apply PickL.cons; rfl))) fun K1 hK1 => ?_
                  (refine qf_pure tabOk rfl rfl rfl ?_)
                  refine qf_append (q := 1) (news := [.int .i64 (2000 + nI + ((by0 : Int) + 1) * lo)]) slI rfl rfl rfl (fun v' => by repeat constructor) (fun w' hs => ⟨_, _, Blk.rdN (hs.blk (b := lt0) (by repeat constructor)) rfl⟩) (by simp [oneV]) (by omega) (by omega) (fun ap0 => ?_)
                  (refine qf_nil ?_)
                  exact hK1 _ _ (hS7_8_16 ⟨lt0, ap0, lt1, ()⟩ _ _ ⟨rfl, rfl, rfl, rfl, rfl, rfl, rfl, rfl, rfl, rfl, rfl, rfl, rfl, rfl, rfl, rfl, rfl, rfl, rfl, rfl, rfl, rfl, rfl, trivial⟩ (by repeat constructor))
                · skip
                  refine qt_seg (by repeat (first | exact PickL.nil | (apply PickL.cons; rfl))) fun K1 hK1 => ?_
                  ((iterate 4 refine qf_pure tabOk rfl rfl rfl ?_))
                  refine qf_index tabOk rfl rfl rfl rfl rfl (by omega) (by omega) ?_
                  refine qf_loadI tabOk (k4) rfl rfl rfl (by repeat constructor) (by first | rfl | omega | simp) hkJ ?_
                  rw [hpj]
                  (refine qf_ar tabOk rfl rfl rfl rfl (by omega) (by omega) (qf_ar tabOk rfl rfl rfl rfl (by omega) (by omega) ?_))
                  refine qf_mkS 3 [.int .i64 (2000 + nI + ((by0 : Int) + 1) * pj)] rfl (by kernel_rfl) rfl (fun lt2 => ?_)
                  (refine qf_nil ?_)
                  exact hK1 _ _ (hS7_16_27 ⟨lt0, lt1, lt2, ()⟩ _ _ ⟨rfl, rfl, rfl, rfl, rfl, rfl, rfl, rfl, rfl, rfl, rfl, rfl, rfl, rfl, rfl, rfl, rfl, rfl, rfl, rfl, rfl, rfl, rfl, rfl, trivial⟩ (by repeat constructor))
              refine qt_let (σ := Nat × Nat × Unit) (tZ6_e554651) (fun ⟨lt0, lt2, ()⟩ => [(8, .pointer (some ⟨bq, 0, none⟩)), (9, .pointer (some ⟨b9, 0, none⟩)), (13, .slice (some ⟨g13, 0, none⟩) sk c13), (17, .bool kn), (19, .pointer (some ⟨b19, 0, none⟩)), (20, .int .i64 ((by0 : Int) + 1)), (21, .pointer (some ⟨b21, 0, none⟩)), (22, .pointer (some ⟨b22, 0, none⟩)), (23, .pointer (some ⟨b23, 0, none⟩)), (24, .slice (some ⟨b24, 0, none⟩) sk sk), (27, .int .i64 k4), (28, .pointer (some ⟨b28, 0, none⟩)), (163, .slice (some ⟨g13, 0, none⟩) sk c13), (164, .int .i64 sk), (165, .int .i64 k4), (172, .int .i64 m), (173, .int .i64 j), (32, .int .i64 (2000 + nI)), (29, u1), (185, .slice (some ⟨lt0, 0, none⟩) 1 1), (30, u2), (31, u3), (205, .slice (some ⟨lt2, 0, none⟩) 1 1)]) (fun ⟨lt0, lt2, ()⟩ => [.ow u1 3 1 j (ints (N.map (· + ((by0 : Int) + 1) * lo))), .pt lt0 [.int .i64 (2000 + nI + ((by0 : Int) + 1) * lo)] 3, .ow u2 3 1 j (ints (N.map (· + ((by0 : Int) + 1) * hi))), .ow u3 3 1 j (ints (N.map (· + ((by0 : Int) + 1) * pj))), .pt lt2 [.int .i64 (2000 + nI + ((by0 : Int) + 1) * pj)] 3]) ?_ (fun hS7_27 => ?_)
              · rintro ⟨lt0, lt2, _⟩
                refine qt_alt ?_ ?_
                · skip
                  refine qt_seg (by repeat (first | exact PickL.nil | (apply PickL.cons; rfl))) fun K1 hK1 => ?_
                  (refine qf_pure tabOk rfl rfl rfl ?_)
                  refine qf_append (q := 1) (news := [.int .i64 (2000 + nI + ((by0 : Int) + 1) * lo)]) slI rfl rfl rfl (fun v' => by repeat constructor) (fun w' hs => ⟨_, _, Blk.rdN (hs.blk (b := lt0) (by repeat constructor)) rfl⟩) (by simp [oneV]) (by omega) (by omega) (fun ap0 => ?_)
                  (refine qf_nil ?_)
                  exact hK1 _ _ (hS7_8_27 ⟨lt0, ap0, lt2, ()⟩ _ _ ⟨rfl, rfl, rfl, rfl, rfl, rfl, rfl, rfl, rfl, rfl, rfl, rfl, rfl, rfl, rfl, rfl, rfl, rfl, rfl, rfl, rfl, rfl, rfl, trivial⟩ (by repeat constructor))
                · skip
                  refine qt_seg (by repeat (first | exact PickL.nil | (apply PickL.cons; rfl))) fun K1 hK1 => ?_
                  ((iterate 3 refine qf_pure tabOk rfl rfl rfl ?_); refine qf_loadBa tabOk rfl rfl rfl ?_; refine qf_ar tabOk rfl rfl rfl rfl (by omega) (by omega) (qf_ar tabOk rfl rfl rfl rfl (by omega) (by omega) ?_))
                  refine qf_mkS 3 [.int .i64 (2000 + nI + ((by0 : Int) + 1) * hi)] rfl (by kernel_rfl) rfl (fun lt1 => ?_)
                  (refine qf_nil ?_)
                  exact hK1 _ _ (hS7_16_27 ⟨lt0, lt1, lt2, ()⟩ _ _ ⟨rfl, rfl, rfl, rfl, rfl, rfl, rfl, rfl, rfl, rfl, rfl, rfl, rfl, rfl, rfl, rfl, rfl, rfl, rfl, rfl, rfl, rfl, rfl, rfl, trivial⟩ (by repeat constructor))
              refine qt_let (σ := Nat × Nat × Unit) (tZ6_692301e) (fun ⟨lt1, lt2, ()⟩ => [(8, .pointer (some ⟨bq, 0, none⟩)), (9, .pointer (some ⟨b9, 0, none⟩)), (13, .slice (some ⟨g13, 0, none⟩) sk c13), (17, .bool kn), (19, .pointer (some ⟨b19, 0, none⟩)), (20, .int .i64 ((by0 : Int) + 1)), (21, .pointer (some ⟨b21, 0, none⟩)), (22, .pointer (some ⟨b22, 0, none⟩)), (23, .pointer (some ⟨b23, 0, none⟩)), (24, .slice (some ⟨b24, 0, none⟩) sk sk), (27, .int .i64 k4), (28, .pointer (some ⟨b28, 0, none⟩)), (163, .slice (some ⟨g13, 0, none⟩) sk c13), (164, .int .i64 sk), (165, .int .i64 k4), (172, .int .i64 m), (173, .int .i64 j), (32, .int .i64 (2000 + nI)), (29, u1), (30, u2), (194, .slice (some ⟨lt1, 0, none⟩) 1 1), (31, u3), (205, .slice (some ⟨lt2, 0, none⟩) 1 1)]) (fun ⟨lt1, lt2, ()⟩ => [.ow u1 3 1 j (ints (N.map (· + ((by0 : Int) + 1) * lo))), .ow u2 3 1 j (ints (N.map (· + ((by0 : Int) + 1) * hi))), .pt lt1 [.int .i64 (2000 + nI + ((by0 : Int) + 1) * hi)] 3, .ow u3 3 1 j (ints (N.map (· + ((by0 : Int) + 1) * pj))), .pt lt2 [.int .i64 (2000 + nI + ((by0 : Int) + 1) * pj)] 3]) ?_ (fun hS16_27 => ?_)
              · rintro ⟨lt1, lt2, _⟩
                refine qt_seg (by repeat (first | exact PickL.nil | (apply PickL.cons; rfl))) fun K1 hK1 => ?_
                ((iterate 3 refine qf_pure tabOk rfl rfl rfl ?_); refine qf_loadBa tabOk rfl rfl rfl ?_; refine qf_ar tabOk rfl rfl rfl rfl (by omega) (by omega) (qf_ar tabOk rfl rfl rfl rfl (by omega) (by omega) ?_))
                refine qf_mkS 3 [.int .i64 (2000 + nI + ((by0 : Int) + 1) * lo)] rfl (by kernel_rfl) rfl (fun lt0 => ?_)
                (refine qf_nil ?_)
                exact hK1 _ _ (hS7_16_27 ⟨lt0, lt1, lt2, ()⟩ _ _ ⟨rfl, rfl, rfl, rfl, rfl, rfl, rfl, rfl, rfl, rfl, rfl, rfl, rfl, rfl, rfl, rfl, rfl, rfl, rfl, rfl, rfl, rfl, rfl, rfl, trivial⟩ (by repeat constructor))
              refine qt_let (σ := Nat × Unit) (tZ6_a79a5c2) (fun ⟨lt0, ()⟩ => [(8, .pointer (some ⟨bq, 0, none⟩)), (9, .pointer (some ⟨b9, 0, none⟩)), (13, .slice (some ⟨g13, 0, none⟩) sk c13), (17, .bool kn), (19, .pointer (some ⟨b19, 0, none⟩)), (20, .int .i64 ((by0 : Int) + 1)), (21, .pointer (some ⟨b21, 0, none⟩)), (22, .pointer (some ⟨b22, 0, none⟩)), (23, .pointer (some ⟨b23, 0, none⟩)), (24, .slice (some ⟨b24, 0, none⟩) sk sk), (27, .int .i64 k4), (28, .pointer (some ⟨b28, 0, none⟩)), (163, .slice (some ⟨g13, 0, none⟩) sk c13), (164, .int .i64 sk), (165, .int .i64 k4), (172, .int .i64 m), (173, .int .i64 j), (32, .int .i64 (2000 + nI)), (29, u1), (185, .slice (some ⟨lt0, 0, none⟩) 1 1), (30, u2), (31, u3)]) (fun ⟨lt0, ()⟩ => [.ow u1 3 1 j (ints (N.map (· + ((by0 : Int) + 1) * lo))), .pt lt0 [.int .i64 (2000 + nI + ((by0 : Int) + 1) * lo)] 3, .ow u2 3 1 j (ints (N.map (· + ((by0 : Int) + 1) * hi))), .ow u3 3 1 j (ints (N.map (· + ((by0 : Int) + 1) * pj)))]) ?_ (fun hS7 => ?_)
              · rintro ⟨lt0, _⟩
                refine qt_alt ?_ (qt_alt ?_ ?_)
                · skip
                  refine qt_seg (by repeat (first | exact PickL.nil | (apply PickL.cons; rfl))) fun K1 hK1 => ?_
                  (refine qf_pure tabOk rfl rfl rfl ?_)
                  refine qf_append (q := 1) (news := [.int .i64 (2000 + nI + ((by0 : Int) + 1) * lo)]) slI rfl rfl rfl (fun v' => by repeat constructor) (fun w' hs => ⟨_, _, Blk.rdN (hs.blk (b := lt0) (by repeat constructor)) rfl⟩) (by simp [oneV]) (by omega) (by omega) (fun ap0 => ?_)
                  (refine qf_nil ?_)
                  exact hK1 _ _ (hS7_8 ⟨lt0, ap0, ()⟩ _ _ ⟨rfl, rfl, rfl, rfl, rfl, rfl, rfl, rfl, rfl, rfl, rfl, rfl, rfl, rfl, rfl, rfl, rfl, rfl, rfl, rfl, rfl, rfl, trivial⟩ (by repeat constructor))
                · skip
                  refine qt_seg (by repeat (first | exact PickL.nil | (apply PickL.cons; rfl))) fun K1 hK1 => ?_
                  ((iterate 3 refine qf_pure tabOk rfl rfl rfl ?_); refine qf_loadBa tabOk rfl rfl rfl ?_; refine qf_ar tabOk rfl rfl rfl rfl (by omega) (by omega) (qf_ar tabOk rfl rfl rfl rfl (by omega) (by omega) ?_))
                  refine qf_mkS 3 [.int .i64 (2000 + nI + ((by0 : Int) + 1) * hi)] rfl (by kernel_rfl) rfl (fun lt1 => ?_)
                  (refine qf_nil ?_)
                  exact hK1 _ _ (hS7_16 ⟨lt0, lt1, ()⟩ _ _ ⟨rfl, rfl, rfl, rfl, rfl, rfl, rfl, rfl, rfl, rfl, rfl, rfl, rfl, rfl, rfl, rfl, rfl, rfl, rfl, rfl, rfl, rfl, rfl, trivial⟩ (by repeat constructor))
                · skip
                  refine qt_seg (by repeat (first | exact PickL.nil | (apply PickL.cons; rfl))) fun K1 hK1 => ?_
                  ((iterate 4 refine qf_pure tabOk rfl rfl rfl ?_))
                  refine qf_index tabOk rfl rfl rfl rfl rfl (by omega) (by omega) ?_
                  refine qf_loadI tabOk (k4) rfl rfl rfl (by repeat constructor) (by first | rfl | omega | simp) hkJ ?_
                  rw [hpj]
                  (refine qf_ar tabOk rfl rfl rfl rfl (by omega) (by omega) (qf_ar tabOk rfl rfl rfl rfl (by omega) (by omega) ?_))
                  refine qf_mkS 3 [.int .i64 (2000 + nI + ((by0 : Int) + 1) * pj)] rfl (by kernel_rfl) rfl (fun lt2 => ?_)
                  (refine qf_nil ?_)
                  exact hK1 _ _ (hS7_27 ⟨lt0, lt2, ()⟩ _ _ ⟨rfl, rfl, rfl, rfl, rfl, rfl, rfl, rfl, rfl, rfl, rfl, rfl, rfl, rfl, rfl, rfl, rfl, rfl, rfl, rfl, rfl, rfl, rfl, trivial⟩ (by repeat constructor))
              refine qt_let (σ := Nat × Unit) (tZ6_561896e) (fun ⟨lt1, ()⟩ => [(8, .pointer (some ⟨bq, 0, none⟩)), (9, .pointer (some ⟨b9, 0, none⟩)), (13, .slice (some ⟨g13, 0, none⟩) sk c13), (17, .bool kn), (19, .pointer (some ⟨b19, 0, none⟩)), (20, .int .i64 ((by0 : Int) + 1)), (21, .pointer (some ⟨b21, 0, none⟩)), (22, .pointer (some ⟨b22, 0, none⟩)), (23, .pointer (some ⟨b23, 0, none⟩)), (24, .slice (some ⟨b24, 0, none⟩) sk sk), (27, .int .i64 k4), (28, .pointer (some ⟨b28, 0, none⟩)), (163, .slice (some ⟨g13, 0, none⟩) sk c13), (164, .int .i64 sk), (165, .int .i64 k4), (172, .int .i64 m), (173, .int .i64 j), (32, .int .i64 (2000 + nI)), (29, u1), (30, u2), (194, .slice (some ⟨lt1, 0, none⟩) 1 1), (31, u3)]) (fun ⟨lt1, ()⟩ => [.ow u1 3 1 j (ints (N.map (· + ((by0 : Int) + 1) * lo))), .ow u2 3 1 j (ints (N.map (· + ((by0 : Int) + 1) * hi))), .pt lt1 [.int .i64 (2000 + nI + ((by0 : Int) + 1) * hi)] 3, .ow u3 3 1 j (ints (N.map (· + ((by0 : Int) + 1) * pj)))]) ?_ (fun hS16 => ?_)
              · rintro ⟨lt1, _⟩
                refine qt_alt ?_ ?_
                · skip
                  refine qt_seg (by repeat (first | exact PickL.nil | (apply PickL.cons; rfl))) fun K1 hK1 => ?_
                  ((iterate 3 refine qf_pure tabOk rfl rfl rfl ?_); refine qf_loadBa tabOk rfl rfl rfl ?_; refine qf_ar tabOk rfl rfl rfl rfl (by omega) (by omega) (qf_ar tabOk rfl rfl rfl rfl (by omega) (by omega) ?_))
                  refine qf_mkS 3 [.int .i64 (2000 + nI + ((by0 : Int) + 1) * lo)] rfl (by kernel_rfl) rfl (fun lt0 => ?_)
                  (refine qf_nil ?_)
                  exact hK1 _ _ (hS7_16 ⟨lt0, lt1, ()⟩ _ _ ⟨rfl, rfl, rfl, rfl, rfl, rfl, rfl, rfl, rfl, rfl, rfl, rfl, rfl, rfl, rfl, rfl, rfl, rfl, rfl, rfl, rfl, rfl, rfl, trivial⟩ (by repeat constructor))
                · skip
                  refine qt_seg (by repeat (first | exact PickL.nil | (apply PickL.cons; rfl))) fun K1 hK1 => ?_
                  ((iterate 4 refine qf_pure tabOk rfl rfl rfl ?_))
                  refine qf_index tabOk rfl rfl rfl rfl rfl (by omega) (by omega) ?_
                  refine qf_loadI tabOk (k4) rfl rfl rfl (by repeat constructor) (by first | rfl | omega | simp) hkJ ?_
                  rw [hpj]
                  (refine qf_ar tabOk rfl rfl rfl rfl (by omega) (by omega) (qf_ar tabOk rfl rfl rfl rfl (by omega) (by omega) ?_))
                  refine qf_mkS 3 [.int .i64 (2000 + nI + ((by0 : Int) + 1) * pj)] rfl (by kernel_rfl) rfl (fun lt2 => ?_)
                  (refine qf_nil ?_)
                  exact hK1 _ _ (hS16_27 ⟨lt1, lt2, ()⟩ _ _ ⟨rfl, rfl, rfl, rfl, rfl, rfl, rfl, rfl, rfl, rfl, rfl, rfl, rfl, rfl, rfl, rfl, rfl, rfl, rfl, rfl, rfl, rfl, rfl, trivial⟩ (by repeat constructor))
              refine qt_let (σ := Nat × Unit) (tZ6_852b8d2) (fun ⟨lt2, ()⟩ => [(8, .pointer (some ⟨bq, 0, none⟩)), (9, .pointer (some ⟨b9, 0, none⟩)), (13, .slice (some ⟨g13, 0, none⟩) sk c13), (17, .bool kn), (19, .pointer (some ⟨b19, 0, none⟩)), (20, .int .i64 ((by0 : Int) + 1)), (21, .pointer (some ⟨b21, 0, none⟩)), (22, .pointer (some ⟨b22, 0, none⟩)), (23, .pointer (some ⟨b23, 0, none⟩)), (24, .slice (some ⟨b24, 0, none⟩) sk sk), (27, .int .i64 k4), (28, .pointer (some ⟨b28, 0, none⟩)), (163, .slice (some ⟨g13, 0, none⟩) sk c13), (164, .int .i64 sk), (165, .int .i64 k4), (172, .int .i64 m), (173, .int .i64 j), (32, .int .i64 (2000 + nI)), (29, u1), (30, u2), (31, u3), (205, .slice (some ⟨lt2, 0, none⟩) 1 1)]) (fun ⟨lt2, ()⟩ => [.ow u1 3 1 j (ints (N.map (· + ((by0 : Int) + 1) * lo))), .ow u2 3 1 j (ints (N.map (· + ((by0 : Int) + 1) * hi))), .ow u3 3 1 j (ints (N.map (· + ((by0 : Int) + 1) * pj))), .pt lt2 [.int .i64 (2000 + nI + ((by0 : Int) + 1) * pj)] 3]) ?_ (fun hS27 => ?_)
              · rintro ⟨lt2, _⟩
                refine qt_alt ?_ ?_
                · skip
                  refine qt_seg (by repeat (first | exact PickL.nil | (apply PickL.cons; rfl))) fun K1 hK1 => ?_
                  ((iterate 3 refine qf_pure tabOk rfl rfl rfl ?_); refine qf_loadBa tabOk rfl rfl rfl ?_; refine qf_ar tabOk rfl rfl rfl rfl (by omega) (by omega) (qf_ar tabOk rfl rfl rfl rfl (by omega) (by omega) ?_))
                  refine qf_mkS 3 [.int .i64 (2000 + nI + ((by0 : Int) + 1) * lo)] rfl (by kernel_rfl) rfl (fun lt0 => ?_)
                  (refine qf_nil ?_)
                  exact hK1 _ _ (hS7_27 ⟨lt0, lt2, ()⟩ _ _ ⟨rfl, rfl, rfl, rfl, rfl, rfl, rfl, rfl, rfl, rfl, rfl, rfl, rfl, rfl, rfl, rfl, rfl, rfl, rfl, rfl, rfl, rfl, rfl, trivial⟩ (by repeat constructor))
                · skip
                  refine qt_seg (by repeat (first | exact PickL.nil | (apply PickL.cons; rfl))) fun K1 hK1 => ?_
                  ((iterate 3 refine qf_pure tabOk rfl rfl rfl ?_); refine qf_loadBa tabOk rfl rfl rfl ?_; refine qf_ar tabOk rfl rfl rfl rfl (by omega) (by omega) (qf_ar tabOk rfl rfl rfl rfl (by omega) (by omega) ?_))
                  refine qf_mkS 3 [.int .i64 (2000 + nI + ((by0 : Int) + 1) * hi)] rfl (by kernel_rfl) rfl (fun lt1 => ?_)
                  (refine qf_nil ?_)
                  exact hK1 _ _ (hS16_27 ⟨lt1, lt2, ()⟩ _ _ ⟨rfl, rfl, rfl, rfl, rfl, rfl, rfl, rfl, rfl, rfl, rfl, rfl, rfl, rfl, rfl, rfl, rfl, rfl, rfl, rfl, rfl, rfl, rfl, trivial⟩ (by repeat constructor))
              refine qt_alt ?_ (qt_alt ?_ ?_)
              · skip
                refine qt_seg (by repeat (first | exact PickL.nil | (apply PickL.cons; rfl))) fun K1 hK1 => ?_
                ((iterate 3 refine qf_pure tabOk rfl rfl rfl ?_); refine qf_loadBa tabOk rfl rfl rfl ?_; refine qf_ar tabOk rfl rfl rfl rfl (by omega) (by omega) (qf_ar tabOk rfl rfl rfl rfl (by omega) (by omega) ?_))
                refine qf_mkS 3 [.int .i64 (2000 + nI + ((by0 : Int) + 1) * lo)] rfl (by kernel_rfl) rfl (fun lt0 => ?_)
                (refine qf_nil ?_)
                exact hK1 _ _ (hS7 ⟨lt0, ()⟩ _ _ ⟨rfl, rfl, rfl, rfl, rfl, rfl, rfl, rfl, rfl, rfl, rfl, rfl, rfl, rfl, rfl, rfl, rfl, rfl, rfl, rfl, rfl, rfl, trivial⟩ (by repeat constructor))
              · skip
                refine qt_seg (by repeat (first | exact PickL.nil | (apply PickL.cons; rfl))) fun K1 hK1 => ?_
                ((iterate 3 refine qf_pure tabOk rfl rfl rfl ?_); refine qf_loadBa tabOk rfl rfl rfl ?_; refine qf_ar tabOk rfl rfl rfl rfl (by omega) (by omega) (qf_ar tabOk rfl rfl rfl rfl (by omega) (by omega) ?_))
                refine qf_mkS 3 [.int .i64 (2000 + nI + ((by0 : Int) + 1) * hi)] rfl (by kernel_rfl) rfl (fun lt1 => ?_)
                (refine qf_nil ?_)
                exact hK1 _ _ (hS16 ⟨lt1, ()⟩ _ _ ⟨rfl, rfl, rfl, rfl, rfl, rfl, rfl, rfl, rfl, rfl, rfl, rfl, rfl, rfl, rfl, rfl, rfl, rfl, rfl, rfl, rfl, rfl, trivial⟩ (by repeat constructor))
              · skip
                refine qt_seg (by repeat (first | exact PickL.nil | (apply PickL.cons; rfl))) fun K1 hK1 => ?_
                ((iterate 4 refine qf_pure tabOk rfl rfl rfl ?_))
                refine qf_index tabOk rfl rfl rfl rfl rfl (by omega) (by omega) ?_
                refine qf_loadI tabOk (k4) rfl rfl rfl (by repeat constructor) (by first | rfl | omega | simp) hkJ ?_
                rw [hpj]
                (refine qf_ar tabOk rfl rfl rfl rfl (by omega) (by omega) (qf_ar tabOk rfl rfl rfl rfl (by omega) (by omega) ?_))
                refine qf_mkS 3 [.int .i64 (2000 + nI + ((by0 : Int) + 1) * pj)] rfl (by kernel_rfl) rfl (fun lt2 => ?_)
                (refine qf_nil ?_)
                exact hK1 _ _ (hS27 ⟨lt2, ()⟩ _ _ ⟨rfl, rfl, rfl, rfl, rfl, rfl, rfl, rfl, rfl, rfl, rfl, rfl, rfl, rfl, rfl, rfl, rfl, rfl, rfl, rfl, rfl, rfl, trivial⟩ (by repeat constructor))
            rintro ⟨u4, u5, u6⟩
            dsimp only
            (refine q_blk (q_region (ql_ar tabOk rfl rfl rfl rfl (by omega) (by omega) (ql_pure tabOk rfl rfl (q_nil ?_)))))
            have hsn : ∀ y : Int, ints ((N ++ [2000 + nI]).map (· + y)) = ints (N.map (· + y)) ++ [.int .i64 (2000 + nI + y)] := fun y => by simp [ints]
            exact hK5 (j + 1, u4, u5, u6, N ++ [2000 + nI]) _ _ ⟨by simp only; omega, by simp only [List.length_append, List.length_singleton]; omega, fun y hy => by
              rcases List.mem_append.1 hy with hy | hy
              · exact hNb y hy
              · rw [List.mem_singleton.1 hy]; omega⟩ (by simp only; omega) ⟨rfl, rfl, rfl, rfl, rfl, rfl, rfl, rfl, rfl, rfl, rfl, rfl, rfl, rfl, rfl, rfl, rfl, rfl, rfl, rfl, trivial⟩ (by dsimp only; rw [hsn, hsn, hsn]; repeat constructor)
          · obtain rfl : m = j := by omega
            clear hc hK5 hj
            refine q_fact (fun w hs => hs.ownSome (v := u1) (by repeat constructor) (by omega)) ?_
            rintro ⟨gu1, cu1, rfl⟩
            refine q_fact (fun w hs => hs.ownSome (v := u2) (by repeat constructor) (by omega)) ?_
            rintro ⟨gu2, cu2, rfl⟩
            refine q_fact (fun w hs => hs.ownSome (v := u3) (by repeat constructor) (by omega)) ?_
            rintro ⟨gu3, cu3, rfl⟩
            (refine q_exit _ rfl (q_seq (q_seq ?_)))
            refine q_draw _ [] (Sp.refl _) (by kernel_rfl) (by kernel_rfl) ?_
            (refine qf_pure tabOk rfl rfl rfl ?_; refine qf_loadBa tabOk rfl rfl rfl ?_; refine qf_lssF tabOk rfl rfl rfl (by omega) (qf_pure tabOk rfl rfl rfl (qf_gyes rfl (qf_pure tabOk rfl rfl rfl (qf_gyes rfl ?_)))); refine qf_loadBa tabOk rfl rfl rfl ?_; refine qf_gyes rfl (qf_pure tabOk rfl rfl rfl (qf_gyes rfl ?_)); refine qf_loadBa tabOk rfl rfl rfl ?_; refine qf_gyes rfl (qf_gtrF tabOk rfl rfl rfl (by omega) (qf_pure tabOk rfl rfl rfl (qf_pure tabOk rfl rfl rfl (qf_gyes rfl (qf_pure tabOk rfl rfl rfl (qf_gyes rfl (qf_pure tabOk rfl rfl rfl (qf_gyes rfl ?_)))))))))
            refine qf_index tabOk rfl rfl rfl rfl rfl (by omega) (by omega) ?_
            (refine qf_gyes rfl ?_)
            refine qf_loadI tabOk (k4) rfl rfl rfl (by repeat constructor) (by first | rfl | omega | simp) hkJ ?_
            rw [hpj]
            (refine qf_gyes rfl (qf_pure tabOk rfl rfl rfl (qf_gyes rfl ?_)); refine qf_loadBa tabOk rfl rfl rfl ?_; refine qf_gyes rfl (qf_lssF tabOk rfl rfl rfl (by omega) (qf_pure tabOk rfl rfl rfl (qf_pure tabOk rfl rfl rfl (qf_gyes rfl (qf_pure tabOk rfl rfl rfl (qf_gyes rfl (qf_pure tabOk rfl rfl rfl (qf_gyes rfl ?_)))))))))
            refine qf_index tabOk rfl rfl rfl rfl rfl (by omega) (by omega) ?_
            (refine qf_gyes rfl ?_)
            refine qf_loadI tabOk (k4) rfl rfl rfl (by repeat constructor) (by first | rfl | omega | simp) hkJ ?_
            rw [hpj]
            (refine qf_gyes rfl (qf_pure tabOk rfl rfl rfl (qf_gyes rfl ?_)); refine qf_loadBa tabOk rfl rfl rfl ?_; refine qf_gyes rfl (qf_gtrF tabOk rfl rfl rfl (by omega) (qf_pure tabOk rfl rfl rfl (qf_nil (q_cond_false rfl (q_skip (q_seq ?_)))))))
            refine q_cut (σ := Value × Value) (fun z => [(8, .pointer (some ⟨bq, 0, none⟩)), (9, .pointer (some ⟨b9, 0, none⟩)), (13, .slice (some ⟨g13, 0, none⟩) sk c13), (17, .bool kn), (19, .pointer (some ⟨b19, 0, none⟩)), (20, .int .i64 ((by0 : Int) + 1)), (21, .pointer (some ⟨b21, 0, none⟩)), (22, .pointer (some ⟨b22, 0, none⟩)), (23, .pointer (some ⟨b23, 0, none⟩)), (24, .slice (some ⟨b24, 0, none⟩) sk sk), (163, .slice (some ⟨g13, 0, none⟩) sk c13), (164, .int .i64 sk), (165, .int .i64 k4), (30, .slice (some ⟨gu2, 0, none⟩) m cu2), (31, .slice (some ⟨gu3, 0, none⟩) m cu3)]) (fun z => [.pt b21 [z.1, z.2] 46, .ow z.1 3 1 (k4 + 1) (ints (List.replicate k4 0) ++ [.int .i64 0]), .ow z.2 29 1 (k4 + 1) (X1.map (·.1) ++ [.slice (some ⟨gu1, 0, none⟩) m cu1]), un (rowsO 3 X1), .pt b22 [d2, t2] 46, .ow d2 3 1 k4 (ints (List.replicate k4 0)), .ow t2 29 1 k4 (X2.map (·.1)), un (rowsO 3 X2), .pt b23 [d3, t3] 46, .ow d3 3 1 k4 (ints (List.replicate k4 0)), .ow t3 29 1 k4 (X3.map (·.1)), un (rowsO 3 X3), .ow (.slice (some ⟨gu1, 0, none⟩) m cu1) 3 1 m (ints (N.map (· + ((by0 : Int) + 1) * lo))), .ow (.slice (some ⟨gu2, 0, none⟩) m cu2) 3 1 m (ints (N.map (· + ((by0 : Int) + 1) * hi))), .ow (.slice (some ⟨gu3, 0, none⟩) m cu3) 3 1 m (ints (N.map (· + ((by0 : Int) + 1) * pj))), .pt b28 [.int .i64 lo, .int .i64 hi] 48, .pt b24 (ints J) 3, .ow (.slice ra m rc) 3 1 m (ints (List.replicate m 0)), .pt b19 (rulC (.slice ra m rc)) 43, .ow (.slice (some ⟨g15, 0, none⟩) sk c15) 3 1 sk (ints (chI F)), .ow (.slice (some ⟨g13, 0, none⟩) sk c13) 48 2 sk (spC PL), .pt b9 (lbC l (.slice va l.runs.length vc)) 28, dkP (.slice a2 nb2 cb2) bq (m * k4 + m + 1)]) ?_ ?_
            rotate_left
            · intro K7 hK7
              refine q_drawX (tZ6_d18d610) [true, true, true, true, true, true, true, true, true, false, false, false, false] [.pt b21 [d1, t1] 46, un (rowsO 3 X1), .pt b22 [d2, t2] 46, .ow d2 3 1 k4 (ints (List.replicate k4 0)), .ow t2 29 1 k4 (X2.map (·.1)), un (rowsO 3 X2), .pt b23 [d3, t3] 46, .ow d3 3 1 k4 (ints (List.replicate k4 0)), .ow t3 29 1 k4 (X3.map (·.1)), un (rowsO 3 X3), .ow (.slice (some ⟨gu1, 0, none⟩) m cu1) 3 1 m (ints (N.map (· + ((by0 : Int) + 1) * lo))), .ow (.slice (some ⟨gu2, 0, none⟩) m cu2) 3 1 m (ints (N.map (· + ((by0 : Int) + 1) * hi))), .ow (.slice (some ⟨gu3, 0, none⟩) m cu3) 3 1 m (ints (N.map (· + ((by0 : Int) + 1) * pj))), .pt b28 [.int .i64 lo, .int .i64 hi] 48, .pt b24 (ints J) 3, .ow (.slice ra m rc) 3 1 m (ints (List.replicate m 0)), .pt b19 (rulC (.slice ra m rc)) 43, .ow (.slice (some ⟨g15, 0, none⟩) sk c15) 3 1 sk (ints (chI F)), .ow (.slice (some ⟨g13, 0, none⟩) sk c13) 48 2 sk (spC PL), .pt b9 (lbC l (.slice va l.runs.length vc)) 28, dkP (.slice a2 nb2 cb2) bq (m * k4 + m + 1)] [.ow d1 3 1 k4 (ints (List.replicate k4 0)), .ow t1 29 1 k4 (X1.map (·.1))] [un (rowsO 3 X1), .pt b22 [d2, t2] 46, .ow d2 3 1 k4 (ints (List.replicate k4 0)), .ow t2 29 1 k4 (X2.map (·.1)), un (rowsO 3 X2), .pt b23 [d3, t3] 46, .ow d3 3 1 k4 (ints (List.replicate k4 0)), .ow t3 29 1 k4 (X3.map (·.1)), un (rowsO 3 X3), .ow (.slice (some ⟨gu1, 0, none⟩) m cu1) 3 1 m (ints (N.map (· + ((by0 : Int) + 1) * lo))), .ow (.slice (some ⟨gu2, 0, none⟩) m cu2) 3 1 m (ints (N.map (· + ((by0 : Int) + 1) * hi))), .ow (.slice (some ⟨gu3, 0, none⟩) m cu3) 3 1 m (ints (N.map (· + ((by0 : Int) + 1) * pj))), .pt b28 [.int .i64 lo, .int .i64 hi] 48, .pt b24 (ints J) 3, .ow (.slice ra m rc) 3 1 m (ints (List.replicate m 0)), .pt b19 (rulC (.slice ra m rc)) 43, .ow (.slice (some ⟨g15, 0, none⟩) sk c15) 3 1 sk (ints (chI F)), .ow (.slice (some ⟨g13, 0, none⟩) sk c13) 48 2 sk (spC PL), .pt b9 (lbC l (.slice va l.runs.length vc)) 28, dkP (.slice a2 nb2 cb2) bq (m * k4 + m + 1)] [.pt b21 [d1, t1] 46] (by repeat constructor) (by repeat constructor) (by kernel_rfl) (by kernel_rfl) (by kernel_rfl) ?_
              refine qx_let (σ := Nat × Value × Nat × Value × Unit) (tZ6_f63d762) (fun ⟨lt0, ap0, lt1, ap1, ()⟩ => [(8, .pointer (some ⟨bq, 0, none⟩)), (9, .pointer (some ⟨b9, 0, none⟩)), (13, .slice (some ⟨g13, 0, none⟩) sk c13), (17, .bool kn), (19, .pointer (some ⟨b19, 0, none⟩)), (20, .int .i64 ((by0 : Int) + 1)), (21, .pointer (some ⟨b21, 0, none⟩)), (22, .pointer (some ⟨b22, 0, none⟩)), (23, .pointer (some ⟨b23, 0, none⟩)), (24, .slice (some ⟨b24, 0, none⟩) sk sk), (163, .slice (some ⟨g13, 0, none⟩) sk c13), (164, .int .i64 sk), (165, .int .i64 k4), (29, .slice (some ⟨gu1, 0, none⟩) m cu1), (30, .slice (some ⟨gu2, 0, none⟩) m cu2), (31, .slice (some ⟨gu3, 0, none⟩) m cu3), (239, ap0), (244, ap1)]) (fun ⟨lt0, ap0, lt1, ap1, ()⟩ => [.ow ap0 3 1 (k4 + 1) (ints (List.replicate k4 0) ++ [.int .i64 0]), .ow ap1 29 1 (k4 + 1) (X1.map (·.1) ++ [.slice (some ⟨gu1, 0, none⟩) m cu1]), .pt b21 [d1, t1] 46, un (rowsO 3 X1), .pt b22 [d2, t2] 46, .ow d2 3 1 k4 (ints (List.replicate k4 0)), .ow t2 29 1 k4 (X2.map (·.1)), un (rowsO 3 X2), .pt b23 [d3, t3] 46, .ow d3 3 1 k4 (ints (List.replicate k4 0)), .ow t3 29 1 k4 (X3.map (·.1)), un (rowsO 3 X3), .ow (.slice (some ⟨gu1, 0, none⟩) m cu1) 3 1 m (ints (N.map (· + ((by0 : Int) + 1) * lo))), .ow (.slice (some ⟨gu2, 0, none⟩) m cu2) 3 1 m (ints (N.map (· + ((by0 : Int) + 1) * hi))), .ow (.slice (some ⟨gu3, 0, none⟩) m cu3) 3 1 m (ints (N.map (· + ((by0 : Int) + 1) * pj))), .pt b28 [.int .i64 lo, .int .i64 hi] 48, .pt b24 (ints J) 3, .ow (.slice ra m rc) 3 1 m (ints (List.replicate m 0)), .pt b19 (rulC (.slice ra m rc)) 43, .ow (.slice (some ⟨g15, 0, none⟩) sk c15) 3 1 sk (ints (chI F)), .ow (.slice (some ⟨g13, 0, none⟩) sk c13) 48 2 sk (spC PL), .pt b9 (lbC l (.slice va l.runs.length vc)) 28, dkP (.slice a2 nb2 cb2) bq (m * k4 + m + 1)]) ?_ (fun hS2_3_7_8 => ?_)
              · rintro ⟨lt0, ap0, lt1, ap1, _⟩
                refine qx_F [.ow ap0 3 1 (k4 + 1) (ints (List.replicate k4 0) ++ [.int .i64 0]), .ow ap1 29 1 (k4 + 1) (X1.map (·.1) ++ [.slice (some ⟨gu1, 0, none⟩) m cu1]), .pt b21 [d1, t1] 46] (by repeat (first | exact PickL.nil | (apply PickL.cons; rfl))) rfl (by repeat constructor) fun K1 hK1 => ?_
                refine qf_fact (fun w hs => hs.slice (v := ap0) (by repeat constructor)) ?_
                rintro ⟨w0, h0, e0, rfl⟩
                refine qf_fact (fun w hs => hs.slice (v := ap1) (by repeat constructor)) ?_
                rintro ⟨w1, h1, e1, rfl⟩
                (refine qf_pure tabOk rfl rfl rfl ?_; refine qf_st0 tabOk rfl rfl rfl rfl (by repeat constructor) ?_; refine qf_pure tabOk rfl rfl rfl ?_; refine qf_st1 tabOk rfl rfl rfl rfl (by repeat constructor) ?_; refine qf_nil ?_)
                refine hK1 _ _ (qx_nil ?_)
                exact hK7 (.slice w0 h0 e0, .slice w1 h1 e1) _ _ ⟨rfl, rfl, rfl, rfl, rfl, rfl, rfl, rfl, rfl, rfl, rfl, rfl, rfl, rfl, rfl, trivial⟩ (by repeat constructor)
              refine qx_let (σ := Nat × Value × Nat × Unit) (tZ6_79dcb0d) (fun ⟨lt0, ap0, lt1, ()⟩ => [(8, .pointer (some ⟨bq, 0, none⟩)), (9, .pointer (some ⟨b9, 0, none⟩)), (13, .slice (some ⟨g13, 0, none⟩) sk c13), (17, .bool kn), (19, .pointer (some ⟨b19, 0, none⟩)), (20, .int .i64 ((by0 : Int) + 1)), (21, .pointer (some ⟨b21, 0, none⟩)), (22, .pointer (some ⟨b22, 0, none⟩)), (23, .pointer (some ⟨b23, 0, none⟩)), (24, .slice (some ⟨b24, 0, none⟩) sk sk), (163, .slice (some ⟨g13, 0, none⟩) sk c13), (164, .int .i64 sk), (165, .int .i64 k4), (29, .slice (some ⟨gu1, 0, none⟩) m cu1), (30, .slice (some ⟨gu2, 0, none⟩) m cu2), (31, .slice (some ⟨gu3, 0, none⟩) m cu3), (239, ap0), (243, .slice (some ⟨lt1, 0, none⟩) 1 1)]) (fun ⟨lt0, ap0, lt1, ()⟩ => [.ow ap0 3 1 (k4 + 1) (ints (List.replicate k4 0) ++ [.int .i64 0]), .ow t1 29 1 k4 (X1.map (·.1)), .pt lt1 [.slice (some ⟨gu1, 0, none⟩) m cu1] 29, .pt b21 [d1, t1] 46, un (rowsO 3 X1), .pt b22 [d2, t2] 46, .ow d2 3 1 k4 (ints (List.replicate k4 0)), .ow t2 29 1 k4 (X2.map (·.1)), un (rowsO 3 X2), .pt b23 [d3, t3] 46, .ow d3 3 1 k4 (ints (List.replicate k4 0)), .ow t3 29 1 k4 (X3.map (·.1)), un (rowsO 3 X3), .ow (.slice (some ⟨gu1, 0, none⟩) m cu1) 3 1 m (ints (N.map (· + ((by0 : Int) + 1) * lo))), .ow (.slice (some ⟨gu2, 0, none⟩) m cu2) 3 1 m (ints (N.map (· + ((by0 : Int) + 1) * hi))), .ow (.slice (some ⟨gu3, 0, none⟩) m cu3) 3 1 m (ints (N.map (· + ((by0 : Int) + 1) * pj))), .pt b28 [.int .i64 lo, .int .i64 hi] 48, .pt b24 (ints J) 3, .ow (.slice ra m rc) 3 1 m (ints (List.replicate m 0)), .pt b19 (rulC (.slice ra m rc)) 43, .ow (.slice (some ⟨g15, 0, none⟩) sk c15) 3 1 sk (ints (chI F)), .ow (.slice (some ⟨g13, 0, none⟩) sk c13) 48 2 sk (spC PL), .pt b9 (lbC l (.slice va l.runs.length vc)) 28, dkP (.slice a2 nb2 cb2) bq (m * k4 + m + 1)]) ?_ (fun hS2_3_7 => ?_)
              · rintro ⟨lt0, ap0, lt1, _⟩
                refine qx_T [.ow ap0 3 1 (k4 + 1) (ints (List.replicate k4 0) ++ [.int .i64 0]), .ow t1 29 1 k4 (X1.map (·.1)), .pt lt1 [.slice (some ⟨gu1, 0, none⟩) m cu1] 29] (by repeat (first | exact PickL.nil | (apply PickL.cons; rfl))) rfl (by repeat constructor) fun K1 hK1 => ?_
                (refine qf_pure tabOk rfl rfl rfl ?_; refine qf_loadBa tabOk rfl rfl rfl ?_)
                refine qf_append (q := 1) (news := [.slice (some ⟨gu1, 0, none⟩) m cu1]) slII rfl rfl rfl (fun v' => by repeat constructor) (fun w' hs => ⟨_, _, Blk.rdN (hs.blk (b := lt1) (by repeat constructor)) rfl⟩) (by simp [oneV]) (by omega) (by omega) (fun ap1 => ?_)
                (refine qf_nil ?_)
                exact hK1 _ _ (hS2_3_7_8 ⟨lt0, ap0, lt1, ap1, ()⟩ _ _ ⟨rfl, rfl, rfl, rfl, rfl, rfl, rfl, rfl, rfl, rfl, rfl, rfl, rfl, rfl, rfl, rfl, rfl, rfl, trivial⟩ (by repeat constructor))
              refine qx_let (σ := Nat × Value × Unit) (tZ6_39a6f32) (fun ⟨lt0, ap0, ()⟩ => [(8, .pointer (some ⟨bq, 0, none⟩)), (9, .pointer (some ⟨b9, 0, none⟩)), (13, .slice (some ⟨g13, 0, none⟩) sk c13), (17, .bool kn), (19, .pointer (some ⟨b19, 0, none⟩)), (20, .int .i64 ((by0 : Int) + 1)), (21, .pointer (some ⟨b21, 0, none⟩)), (22, .pointer (some ⟨b22, 0, none⟩)), (23, .pointer (some ⟨b23, 0, none⟩)), (24, .slice (some ⟨b24, 0, none⟩) sk sk), (163, .slice (some ⟨g13, 0, none⟩) sk c13), (164, .int .i64 sk), (165, .int .i64 k4), (29, .slice (some ⟨gu1, 0, none⟩) m cu1), (30, .slice (some ⟨gu2, 0, none⟩) m cu2), (31, .slice (some ⟨gu3, 0, none⟩) m cu3), (239, ap0)]) (fun ⟨lt0, ap0, ()⟩ => [.ow ap0 3 1 (k4 + 1) (ints (List.replicate k4 0) ++ [.int .i64 0]), .ow t1 29 1 k4 (X1.map (·.1)), .pt b21 [d1, t1] 46, un (rowsO 3 X1), .pt b22 [d2, t2] 46, .ow d2 3 1 k4 (ints (List.replicate k4 0)), .ow t2 29 1 k4 (X2.map (·.1)), un (rowsO 3 X2), .pt b23 [d3, t3] 46, .ow d3 3 1 k4 (ints (List.replicate k4 0)), .ow t3 29 1 k4 (X3.map (·.1)), un (rowsO 3 X3), .ow (.slice (some ⟨gu1, 0, none⟩) m cu1) 3 1 m (ints (N.map (· + ((by0 : Int) + 1) * lo))), .ow (.slice (some ⟨gu2, 0, none⟩) m cu2) 3 1 m (ints (N.map (· + ((by0 : Int) + 1) * hi))), .ow (.slice (some ⟨gu3, 0, none⟩) m cu3) 3 1 m (ints (N.map (· + ((by0 : Int) + 1) * pj))), .pt b28 [.int .i64 lo, .int .i64 hi] 48, .pt b24 (ints J) 3, .ow (.slice ra m rc) 3 1 m (ints (List.replicate m 0)), .pt b19 (rulC (.slice ra m rc)) 43, .ow (.slice (some ⟨g15, 0, none⟩) sk c15) 3 1 sk (ints (chI F)), .ow (.slice (some ⟨g13, 0, none⟩) sk c13) 48 2 sk (spC PL), .pt b9 (lbC l (.slice va l.runs.length vc)) 28, dkP (.slice a2 nb2 cb2) bq (m * k4 + m + 1)]) ?_ (fun hS2_3 => ?_)
              · rintro ⟨lt0, ap0, _⟩
                refine qx_T [.ow ap0 3 1 (k4 + 1) (ints (List.replicate k4 0) ++ [.int .i64 0]), .ow t1 29 1 k4 (X1.map (·.1))] (by repeat (first | exact PickL.nil | (apply PickL.cons; rfl))) rfl (by repeat constructor) fun K1 hK1 => ?_
                (refine qf_pure tabOk rfl rfl rfl ?_)
                refine qf_mkS 29 [.slice (some ⟨gu1, 0, none⟩) m cu1] rfl (by kernel_rfl) rfl (fun lt1 => ?_)
                (refine qf_nil ?_)
                exact hK1 _ _ (hS2_3_7 ⟨lt0, ap0, lt1, ()⟩ _ _ ⟨rfl, rfl, rfl, rfl, rfl, rfl, rfl, rfl, rfl, rfl, rfl, rfl, rfl, rfl, rfl, rfl, rfl, rfl, trivial⟩ (by repeat constructor))
              refine qx_let (σ := Nat × Nat × Unit) (tZ6_284be98) (fun ⟨lt0, lt1, ()⟩ => [(8, .pointer (some ⟨bq, 0, none⟩)), (9, .pointer (some ⟨b9, 0, none⟩)), (13, .slice (some ⟨g13, 0, none⟩) sk c13), (17, .bool kn), (19, .pointer (some ⟨b19, 0, none⟩)), (20, .int .i64 ((by0 : Int) + 1)), (21, .pointer (some ⟨b21, 0, none⟩)), (22, .pointer (some ⟨b22, 0, none⟩)), (23, .pointer (some ⟨b23, 0, none⟩)), (24, .slice (some ⟨b24, 0, none⟩) sk sk), (163, .slice (some ⟨g13, 0, none⟩) sk c13), (164, .int .i64 sk), (165, .int .i64 k4), (29, .slice (some ⟨gu1, 0, none⟩) m cu1), (30, .slice (some ⟨gu2, 0, none⟩) m cu2), (31, .slice (some ⟨gu3, 0, none⟩) m cu3), (238, .slice (some ⟨lt0, 0, none⟩) 1 1), (243, .slice (some ⟨lt1, 0, none⟩) 1 1)]) (fun ⟨lt0, lt1, ()⟩ => [.ow d1 3 1 k4 (ints (List.replicate k4 0)), .pt lt0 [.int .i64 0] 3, .ow t1 29 1 k4 (X1.map (·.1)), .pt lt1 [.slice (some ⟨gu1, 0, none⟩) m cu1] 29, .pt b21 [d1, t1] 46, un (rowsO 3 X1), .pt b22 [d2, t2] 46, .ow d2 3 1 k4 (ints (List.replicate k4 0)), .ow t2 29 1 k4 (X2.map (·.1)), un (rowsO 3 X2), .pt b23 [d3, t3] 46, .ow d3 3 1 k4 (ints (List.replicate k4 0)), .ow t3 29 1 k4 (X3.map (·.1)), un (rowsO 3 X3), .ow (.slice (some ⟨gu1, 0, none⟩) m cu1) 3 1 m (ints (N.map (· + ((by0 : Int) + 1) * lo))), .ow (.slice (some ⟨gu2, 0, none⟩) m cu2) 3 1 m (ints (N.map (· + ((by0 : Int) + 1) * hi))), .ow (.slice (some ⟨gu3, 0, none⟩) m cu3) 3 1 m (ints (N.map (· + ((by0 : Int) + 1) * pj))), .pt b28 [.int .i64 lo, .int .i64 hi] 48, .pt b24 (ints J) 3, .ow (.slice ra m rc) 3 1 m (ints (List.replicate m 0)), .pt b19 (rulC (.slice ra m rc)) 43, .ow (.slice (some ⟨g15, 0, none⟩) sk c15) 3 1 sk (ints (chI F)), .ow (.slice (some ⟨g13, 0, none⟩) sk c13) 48 2 sk (spC PL), .pt b9 (lbC l (.slice va l.runs.length vc)) 28, dkP (.slice a2 nb2 cb2) bq (m * k4 + m + 1)]) ?_ (fun hS2_7 => ?_)
              · rintro ⟨lt0, lt1, _⟩
                refine qx_T [.ow d1 3 1 k4 (ints (List.replicate k4 0)), .pt lt0 [.int .i64 0] 3, .ow t1 29 1 k4 (X1.map (·.1)), .pt lt1 [.slice (some ⟨gu1, 0, none⟩) m cu1] 29] (by repeat (first | exact PickL.nil | (apply PickL.cons; rfl))) rfl (by repeat constructor) fun K1 hK1 => ?_
                (refine qf_pure tabOk rfl rfl rfl ?_; refine qf_loadBa tabOk rfl rfl rfl ?_)
                refine qf_append (q := 1) (news := [.int .i64 0]) slI rfl rfl rfl (fun v' => by repeat constructor) (fun w' hs => ⟨_, _, Blk.rdN (hs.blk (b := lt0) (by repeat constructor)) rfl⟩) (by simp [oneV]) (by omega) (by omega) (fun ap0 => ?_)
                (refine qf_nil ?_)
                exact hK1 _ _ (hS2_3_7 ⟨lt0, ap0, lt1, ()⟩ _ _ ⟨rfl, rfl, rfl, rfl, rfl, rfl, rfl, rfl, rfl, rfl, rfl, rfl, rfl, rfl, rfl, rfl, rfl, rfl, trivial⟩ (by repeat constructor))
              refine qx_let (σ := Nat × Unit) (tZ6_7e6ca41) (fun ⟨lt0, ()⟩ => [(8, .pointer (some ⟨bq, 0, none⟩)), (9, .pointer (some ⟨b9, 0, none⟩)), (13, .slice (some ⟨g13, 0, none⟩) sk c13), (17, .bool kn), (19, .pointer (some ⟨b19, 0, none⟩)), (20, .int .i64 ((by0 : Int) + 1)), (21, .pointer (some ⟨b21, 0, none⟩)), (22, .pointer (some ⟨b22, 0, none⟩)), (23, .pointer (some ⟨b23, 0, none⟩)), (24, .slice (some ⟨b24, 0, none⟩) sk sk), (163, .slice (some ⟨g13, 0, none⟩) sk c13), (164, .int .i64 sk), (165, .int .i64 k4), (29, .slice (some ⟨gu1, 0, none⟩) m cu1), (30, .slice (some ⟨gu2, 0, none⟩) m cu2), (31, .slice (some ⟨gu3, 0, none⟩) m cu3), (238, .slice (some ⟨lt0, 0, none⟩) 1 1)]) (fun ⟨lt0, ()⟩ => [.ow d1 3 1 k4 (ints (List.replicate k4 0)), .pt lt0 [.int .i64 0] 3, .ow t1 29 1 k4 (X1.map (·.1)), .pt b21 [d1, t1] 46, un (rowsO 3 X1), .pt b22 [d2, t2] 46, .ow d2 3 1 k4 (ints (List.replicate k4 0)), .ow t2 29 1 k4 (X2.map (·.1)), un (rowsO 3 X2), .pt b23 [d3, t3] 46, .ow d3 3 1 k4 (ints (List.replicate k4 0)), .ow t3 29 1 k4 (X3.map (·.1)), un (rowsO 3 X3), .ow (.slice (some ⟨gu1, 0, none⟩) m cu1) 3 1 m (ints (N.map (· + ((by0 : Int) + 1) * lo))), .ow (.slice (some ⟨gu2, 0, none⟩) m cu2) 3 1 m (ints (N.map (· + ((by0 : Int) + 1) * hi))), .ow (.slice (some ⟨gu3, 0, none⟩) m cu3) 3 1 m (ints (N.map (· + ((by0 : Int) + 1) * pj))), .pt b28 [.int .i64 lo, .int .i64 hi] 48, .pt b24 (ints J) 3, .ow (.slice ra m rc) 3 1 m (ints (List.replicate m 0)), .pt b19 (rulC (.slice ra m rc)) 43, .ow (.slice (some ⟨g15, 0, none⟩) sk c15) 3 1 sk (ints (chI F)), .ow (.slice (some ⟨g13, 0, none⟩) sk c13) 48 2 sk (spC PL), .pt b9 (lbC l (.slice va l.runs.length vc)) 28, dkP (.slice a2 nb2 cb2) bq (m * k4 + m + 1)]) ?_ (fun hS2 => ?_)
              · rintro ⟨lt0, _⟩
                refine qx_alt ?_ ?_
                · skip
                  refine qx_T [.ow d1 3 1 k4 (ints (List.replicate k4 0)), .pt lt0 [.int .i64 0] 3, .ow t1 29 1 k4 (X1.map (·.1))] (by repeat (first | exact PickL.nil | (apply PickL.cons; rfl))) rfl (by repeat constructor) fun K1 hK1 => ?_
                  (refine qf_pure tabOk rfl rfl rfl ?_; refine qf_loadBa tabOk rfl rfl rfl ?_)
                  refine qf_append (q := 1) (news := [.int .i64 0]) slI rfl rfl rfl (fun v' => by repeat constructor) (fun w' hs => ⟨_, _, Blk.rdN (hs.blk (b := lt0) (by repeat constructor)) rfl⟩) (by simp [oneV]) (by omega) (by omega) (fun ap0 => ?_)
                  (refine qf_nil ?_)
                  exact hK1 _ _ (hS2_3 ⟨lt0, ap0, ()⟩ _ _ ⟨rfl, rfl, rfl, rfl, rfl, rfl, rfl, rfl, rfl, rfl, rfl, rfl, rfl, rfl, rfl, rfl, rfl, trivial⟩ (by repeat constructor))
                · skip
                  refine qx_T [.ow d1 3 1 k4 (ints (List.replicate k4 0)), .pt lt0 [.int .i64 0] 3, .ow t1 29 1 k4 (X1.map (·.1))] (by repeat (first | exact PickL.nil | (apply PickL.cons; rfl))) rfl (by repeat constructor) fun K1 hK1 => ?_
                  (refine qf_pure tabOk rfl rfl rfl ?_)
                  refine qf_mkS 29 [.slice (some ⟨gu1, 0, none⟩) m cu1] rfl (by kernel_rfl) rfl (fun lt1 => ?_)
                  (refine qf_nil ?_)
                  exact hK1 _ _ (hS2_7 ⟨lt0, lt1, ()⟩ _ _ ⟨rfl, rfl, rfl, rfl, rfl, rfl, rfl, rfl, rfl, rfl, rfl, rfl, rfl, rfl, rfl, rfl, rfl, rfl, trivial⟩ (by repeat constructor))
              refine qx_let (σ := Nat × Unit) (tZ6_ae0aab7) (fun ⟨lt1, ()⟩ => [(8, .pointer (some ⟨bq, 0, none⟩)), (9, .pointer (some ⟨b9, 0, none⟩)), (13, .slice (some ⟨g13, 0, none⟩) sk c13), (17, .bool kn), (19, .pointer (some ⟨b19, 0, none⟩)), (20, .int .i64 ((by0 : Int) + 1)), (21, .pointer (some ⟨b21, 0, none⟩)), (22, .pointer (some ⟨b22, 0, none⟩)), (23, .pointer (some ⟨b23, 0, none⟩)), (24, .slice (some ⟨b24, 0, none⟩) sk sk), (163, .slice (some ⟨g13, 0, none⟩) sk c13), (164, .int .i64 sk), (165, .int .i64 k4), (29, .slice (some ⟨gu1, 0, none⟩) m cu1), (30, .slice (some ⟨gu2, 0, none⟩) m cu2), (31, .slice (some ⟨gu3, 0, none⟩) m cu3), (243, .slice (some ⟨lt1, 0, none⟩) 1 1)]) (fun ⟨lt1, ()⟩ => [.ow d1 3 1 k4 (ints (List.replicate k4 0)), .ow t1 29 1 k4 (X1.map (·.1)), .pt lt1 [.slice (some ⟨gu1, 0, none⟩) m cu1] 29, .pt b21 [d1, t1] 46, un (rowsO 3 X1), .pt b22 [d2, t2] 46, .ow d2 3 1 k4 (ints (List.replicate k4 0)), .ow t2 29 1 k4 (X2.map (·.1)), un (rowsO 3 X2), .pt b23 [d3, t3] 46, .ow d3 3 1 k4 (ints (List.replicate k4 0)), .ow t3 29 1 k4 (X3.map (·.1)), un (rowsO 3 X3), .ow (.slice (some ⟨gu1, 0, none⟩) m cu1) 3 1 m (ints (N.map (· + ((by0 : Int) + 1) * lo))), .ow (.slice (some ⟨gu2, 0, none⟩) m cu2) 3 1 m (ints (N.map (· + ((by0 : Int) + 1) * hi))), .ow (.slice (some ⟨gu3, 0, none⟩) m cu3) 3 1 m (ints (N.map (· + ((by0 : Int) + 1) * pj))), .pt b28 [.int .i64 lo, .int .i64 hi] 48, .pt b24 (ints J) 3, .ow (.slice ra m rc) 3 1 m (ints (List.replicate m 0)), .pt b19 (rulC (.slice ra m rc)) 43, .ow (.slice (some ⟨g15, 0, none⟩) sk c15) 3 1 sk (ints (chI F)), .ow (.slice (some ⟨g13, 0, none⟩) sk c13) 48 2 sk (spC PL), .pt b9 (lbC l (.slice va l.runs.length vc)) 28, dkP (.slice a2 nb2 cb2) bq (m * k4 + m + 1)]) ?_ (fun hS7 => ?_)
              · rintro ⟨lt1, _⟩
                refine qx_T [.ow d1 3 1 k4 (ints (List.replicate k4 0)), .ow t1 29 1 k4 (X1.map (·.1)), .pt lt1 [.slice (some ⟨gu1, 0, none⟩) m cu1] 29] (by repeat (first | exact PickL.nil | (apply PickL.cons; rfl))) rfl (by repeat constructor) fun K1 hK1 => ?_
                skip
                refine qf_mkS 3 [.int .i64 0] rfl (by kernel_rfl) rfl (fun lt0 => ?_)
                (refine qf_nil ?_)
                exact hK1 _ _ (hS2_7 ⟨lt0, lt1, ()⟩ _ _ ⟨rfl, rfl, rfl, rfl, rfl, rfl, rfl, rfl, rfl, rfl, rfl, rfl, rfl, rfl, rfl, rfl, rfl, rfl, trivial⟩ (by repeat constructor))
              refine qx_alt ?_ ?_
              · skip
                refine qx_T [.ow d1 3 1 k4 (ints (List.replicate k4 0)), .ow t1 29 1 k4 (X1.map (·.1))] (by repeat (first | exact PickL.nil | (apply PickL.cons; rfl))) rfl (by repeat constructor) fun K1 hK1 => ?_
                skip
                refine qf_mkS 3 [.int .i64 0] rfl (by kernel_rfl) rfl (fun lt0 => ?_)
                (refine qf_nil ?_)
                exact hK1 _ _ (hS2 ⟨lt0, ()⟩ _ _ ⟨rfl, rfl, rfl, rfl, rfl, rfl, rfl, rfl, rfl, rfl, rfl, rfl, rfl, rfl, rfl, rfl, rfl, trivial⟩ (by repeat constructor))
              · skip
                refine qx_T [.ow d1 3 1 k4 (ints (List.replicate k4 0)), .ow t1 29 1 k4 (X1.map (·.1))] (by repeat (first | exact PickL.nil | (apply PickL.cons; rfl))) rfl (by repeat constructor) fun K1 hK1 => ?_
                (refine qf_pure tabOk rfl rfl rfl ?_)
                refine qf_mkS 29 [.slice (some ⟨gu1, 0, none⟩) m cu1] rfl (by kernel_rfl) rfl (fun lt1 => ?_)
                (refine qf_nil ?_)
                exact hK1 _ _ (hS7 ⟨lt1, ()⟩ _ _ ⟨rfl, rfl, rfl, rfl, rfl, rfl, rfl, rfl, rfl, rfl, rfl, rfl, rfl, rfl, rfl, rfl, rfl, trivial⟩ (by repeat constructor))
            rintro ⟨C1, S1⟩
            dsimp only
            (refine q_seq ?_)
            refine q_cut (σ := Value × Value) (fun z => [(8, .pointer (some ⟨bq, 0, none⟩)), (9, .pointer (some ⟨b9, 0, none⟩)), (13, .slice (some ⟨g13, 0, none⟩) sk c13), (17, .bool kn), (19, .pointer (some ⟨b19, 0, none⟩)), (20, .int .i64 ((by0 : Int) + 1)), (21, .pointer (some ⟨b21, 0, none⟩)), (22, .pointer (some ⟨b22, 0, none⟩)), (23, .pointer (some ⟨b23, 0, none⟩)), (24, .slice (some ⟨b24, 0, none⟩) sk sk), (163, .slice (some ⟨g13, 0, none⟩) sk c13), (164, .int .i64 sk), (165, .int .i64 k4), (31, .slice (some ⟨gu3, 0, none⟩) m cu3)]) (fun z => [.pt b21 [C1, S1] 46, .ow C1 3 1 (k4 + 1) (ints (List.replicate k4 0) ++ [.int .i64 0]), .ow S1 29 1 (k4 + 1) (X1.map (·.1) ++ [.slice (some ⟨gu1, 0, none⟩) m cu1]), un (rowsO 3 X1), .pt b22 [z.1, z.2] 46, .ow z.1 3 1 (k4 + 1) (ints (List.replicate k4 0) ++ [.int .i64 0]), .ow z.2 29 1 (k4 + 1) (X2.map (·.1) ++ [.slice (some ⟨gu2, 0, none⟩) m cu2]), un (rowsO 3 X2), .pt b23 [d3, t3] 46, .ow d3 3 1 k4 (ints (List.replicate k4 0)), .ow t3 29 1 k4 (X3.map (·.1)), un (rowsO 3 X3), .ow (.slice (some ⟨gu1, 0, none⟩) m cu1) 3 1 m (ints (N.map (· + ((by0 : Int) + 1) * lo))), .ow (.slice (some ⟨gu2, 0, none⟩) m cu2) 3 1 m (ints (N.map (· + ((by0 : Int) + 1) * hi))), .ow (.slice (some ⟨gu3, 0, none⟩) m cu3) 3 1 m (ints (N.map (· + ((by0 : Int) + 1) * pj))), .pt b28 [.int .i64 lo, .int .i64 hi] 48, .pt b24 (ints J) 3, .ow (.slice ra m rc) 3 1 m (ints (List.replicate m 0)), .pt b19 (rulC (.slice ra m rc)) 43, .ow (.slice (some ⟨g15, 0, none⟩) sk c15) 3 1 sk (ints (chI F)), .ow (.slice (some ⟨g13, 0, none⟩) sk c13) 48 2 sk (spC PL), .pt b9 (lbC l (.slice va l.runs.length vc)) 28, dkP (.slice a2 nb2 cb2) bq (m * k4 + m + 1)]) ?_ ?_
            rotate_left
            · intro K7 hK7
              refine q_drawX (tZ6_d18d610) [true, true, true, true, true, true, true, true, true, false, false, false, false] [.pt b22 [d2, t2] 46, .pt b21 [C1, S1] 46, .ow C1 3 1 (k4 + 1) (ints (List.replicate k4 0) ++ [.int .i64 0]), .ow S1 29 1 (k4 + 1) (X1.map (·.1) ++ [.slice (some ⟨gu1, 0, none⟩) m cu1]), un (rowsO 3 X1), un (rowsO 3 X2), .pt b23 [d3, t3] 46, .ow d3 3 1 k4 (ints (List.replicate k4 0)), .ow t3 29 1 k4 (X3.map (·.1)), un (rowsO 3 X3), .ow (.slice (some ⟨gu1, 0, none⟩) m cu1) 3 1 m (ints (N.map (· + ((by0 : Int) + 1) * lo))), .ow (.slice (some ⟨gu2, 0, none⟩) m cu2) 3 1 m (ints (N.map (· + ((by0 : Int) + 1) * hi))), .ow (.slice (some ⟨gu3, 0, none⟩) m cu3) 3 1 m (ints (N.map (· + ((by0 : Int) + 1) * pj))), .pt b28 [.int .i64 lo, .int .i64 hi] 48, .pt b24 (ints J) 3, .ow (.slice ra m rc) 3 1 m (ints (List.replicate m 0)), .pt b19 (rulC (.slice ra m rc)) 43, .ow (.slice (some ⟨g15, 0, none⟩) sk c15) 3 1 sk (ints (chI F)), .ow (.slice (some ⟨g13, 0, none⟩) sk c13) 48 2 sk (spC PL), .pt b9 (lbC l (.slice va l.runs.length vc)) 28, dkP (.slice a2 nb2 cb2) bq (m * k4 + m + 1)] [.ow d2 3 1 k4 (ints (List.replicate k4 0)), .ow t2 29 1 k4 (X2.map (·.1))] [.pt b21 [C1, S1] 46, .ow C1 3 1 (k4 + 1) (ints (List.replicate k4 0) ++ [.int .i64 0]), .ow S1 29 1 (k4 + 1) (X1.map (·.1) ++ [.slice (some ⟨gu1, 0, none⟩) m cu1]), un (rowsO 3 X1), un (rowsO 3 X2), .pt b23 [d3, t3] 46, .ow d3 3 1 k4 (ints (List.replicate k4 0)), .ow t3 29 1 k4 (X3.map (·.1)), un (rowsO 3 X3), .ow (.slice (some ⟨gu1, 0, none⟩) m cu1) 3 1 m (ints (N.map (· + ((by0 : Int) + 1) * lo))), .ow (.slice (some ⟨gu2, 0, none⟩) m cu2) 3 1 m (ints (N.map (· + ((by0 : Int) + 1) * hi))), .ow (.slice (some ⟨gu3, 0, none⟩) m cu3) 3 1 m (ints (N.map (· + ((by0 : Int) + 1) * pj))), .pt b28 [.int .i64 lo, .int .i64 hi] 48, .pt b24 (ints J) 3, .ow (.slice ra m rc) 3 1 m (ints (List.replicate m 0)), .pt b19 (rulC (.slice ra m rc)) 43, .ow (.slice (some ⟨g15, 0, none⟩) sk c15) 3 1 sk (ints (chI F)), .ow (.slice (some ⟨g13, 0, none⟩) sk c13) 48 2 sk (spC PL), .pt b9 (lbC l (.slice va l.runs.length vc)) 28, dkP (.slice a2 nb2 cb2) bq (m * k4 + m + 1)] [.pt b22 [d2, t2] 46] (by repeat constructor) (by repeat constructor) (by kernel_rfl) (by kernel_rfl) (by kernel_rfl) ?_
              refine qx_let (σ := Nat × Value × Nat × Value × Unit) (tZ6_f63d762) (fun ⟨lt0, ap0, lt1, ap1, ()⟩ => [(8, .pointer (some ⟨bq, 0, none⟩)), (9, .pointer (some ⟨b9, 0, none⟩)), (13, .slice (some ⟨g13, 0, none⟩) sk c13), (17, .bool kn), (19, .pointer (some ⟨b19, 0, none⟩)), (20, .int .i64 ((by0 : Int) + 1)), (21, .pointer (some ⟨b21, 0, none⟩)), (22, .pointer (some ⟨b22, 0, none⟩)), (23, .pointer (some ⟨b23, 0, none⟩)), (24, .slice (some ⟨b24, 0, none⟩) sk sk), (163, .slice (some ⟨g13, 0, none⟩) sk c13), (164, .int .i64 sk), (165, .int .i64 k4), (30, .slice (some ⟨gu2, 0, none⟩) m cu2), (31, .slice (some ⟨gu3, 0, none⟩) m cu3), (250, ap0), (255, ap1)]) (fun ⟨lt0, ap0, lt1, ap1, ()⟩ => [.ow ap0 3 1 (k4 + 1) (ints (List.replicate k4 0) ++ [.int .i64 0]), .ow ap1 29 1 (k4 + 1) (X2.map (·.1) ++ [.slice (some ⟨gu2, 0, none⟩) m cu2]), .pt b22 [d2, t2] 46, .pt b21 [C1, S1] 46, .ow C1 3 1 (k4 + 1) (ints (List.replicate k4 0) ++ [.int .i64 0]), .ow S1 29 1 (k4 + 1) (X1.map (·.1) ++ [.slice (some ⟨gu1, 0, none⟩) m cu1]), un (rowsO 3 X1), un (rowsO 3 X2), .pt b23 [d3, t3] 46, .ow d3 3 1 k4 (ints (List.replicate k4 0)), .ow t3 29 1 k4 (X3.map (·.1)), un (rowsO 3 X3), .ow (.slice (some ⟨gu1, 0, none⟩) m cu1) 3 1 m (ints (N.map (· + ((by0 : Int) + 1) * lo))), .ow (.slice (some ⟨gu2, 0, none⟩) m cu2) 3 1 m (ints (N.map (· + ((by0 : Int) + 1) * hi))), .ow (.slice (some ⟨gu3, 0, none⟩) m cu3) 3 1 m (ints (N.map (· + ((by0 : Int) + 1) * pj))), .pt b28 [.int .i64 lo, .int .i64 hi] 48, .pt b24 (ints J) 3, .ow (.slice ra m rc) 3 1 m (ints (List.replicate m 0)), .pt b19 (rulC (.slice ra m rc)) 43, .ow (.slice (some ⟨g15, 0, none⟩) sk c15) 3 1 sk (ints (chI F)), .ow (.slice (some ⟨g13, 0, none⟩) sk c13) 48 2 sk (spC PL), .pt b9 (lbC l (.slice va l.runs.length vc)) 28, dkP (.slice a2 nb2 cb2) bq (m * k4 + m + 1)]) ?_ (fun hS2_3_7_8 => ?_)
              · rintro ⟨lt0, ap0, lt1, ap1, _⟩
                refine qx_F [.ow ap0 3 1 (k4 + 1) (ints (List.replicate k4 0) ++ [.int .i64 0]), .ow ap1 29 1 (k4 + 1) (X2.map (·.1) ++ [.slice (some ⟨gu2, 0, none⟩) m cu2]), .pt b22 [d2, t2] 46] (by repeat (first | exact PickL.nil | (apply PickL.cons; rfl))) rfl (by repeat constructor) fun K1 hK1 => ?_
                refine qf_fact (fun w hs => hs.slice (v := ap0) (by repeat constructor)) ?_
                rintro ⟨w0, h0, e0, rfl⟩
                refine qf_fact (fun w hs => hs.slice (v := ap1) (by repeat constructor)) ?_
                rintro ⟨w1, h1, e1, rfl⟩
                (refine qf_pure tabOk rfl rfl rfl ?_; refine qf_st0 tabOk rfl rfl rfl rfl (by repeat constructor) ?_; refine qf_pure tabOk rfl rfl rfl ?_; refine qf_st1 tabOk rfl rfl rfl rfl (by repeat constructor) ?_; refine qf_nil ?_)
                refine hK1 _ _ (qx_nil ?_)
                exact hK7 (.slice w0 h0 e0, .slice w1 h1 e1) _ _ ⟨rfl, rfl, rfl, rfl, rfl, rfl, rfl, rfl, rfl, rfl, rfl, rfl, rfl, rfl, trivial⟩ (by repeat constructor)
              refine qx_let (σ := Nat × Value × Nat × Unit) (tZ6_79dcb0d) (fun ⟨lt0, ap0, lt1, ()⟩ => [(8, .pointer (some ⟨bq, 0, none⟩)), (9, .pointer (some ⟨b9, 0, none⟩)), (13, .slice (some ⟨g13, 0, none⟩) sk c13), (17, .bool kn), (19, .pointer (some ⟨b19, 0, none⟩)), (20, .int .i64 ((by0 : Int) + 1)), (21, .pointer (some ⟨b21, 0, none⟩)), (22, .pointer (some ⟨b22, 0, none⟩)), (23, .pointer (some ⟨b23, 0, none⟩)), (24, .slice (some ⟨b24, 0, none⟩) sk sk), (163, .slice (some ⟨g13, 0, none⟩) sk c13), (164, .int .i64 sk), (165, .int .i64 k4), (30, .slice (some ⟨gu2, 0, none⟩) m cu2), (31, .slice (some ⟨gu3, 0, none⟩) m cu3), (250, ap0), (254, .slice (some ⟨lt1, 0, none⟩) 1 1)]) (fun ⟨lt0, ap0, lt1, ()⟩ => [.ow ap0 3 1 (k4 + 1) (ints (List.replicate k4 0) ++ [.int .i64 0]), .ow t2 29 1 k4 (X2.map (·.1)), .pt lt1 [.slice (some ⟨gu2, 0, none⟩) m cu2] 29, .pt b22 [d2, t2] 46, .pt b21 [C1, S1] 46, .ow C1 3 1 (k4 + 1) (ints (List.replicate k4 0) ++ [.int .i64 0]), .ow S1 29 1 (k4 + 1) (X1.map (·.1) ++ [.slice (some ⟨gu1, 0, none⟩) m cu1]), un (rowsO 3 X1), un (rowsO 3 X2), .pt b23 [d3, t3] 46, .ow d3 3 1 k4 (ints (List.replicate k4 0)), .ow t3 29 1 k4 (X3.map (·.1)), un (rowsO 3 X3), .ow (.slice (some ⟨gu1, 0, none⟩) m cu1) 3 1 m (ints (N.map (· + ((by0 : Int) + 1) * lo))), .ow (.slice (some ⟨gu2, 0, none⟩) m cu2) 3 1 m (ints (N.map (· + ((by0 : Int) + 1) * hi))), .ow (.slice (some ⟨gu3, 0, none⟩) m cu3) 3 1 m (ints (N.map (· + ((by0 : Int) + 1) * pj))), .pt b28 [.int .i64 lo, .int .i64 hi] 48, .pt b24 (ints J) 3, .ow (.slice ra m rc) 3 1 m (ints (List.replicate m 0)), .pt b19 (rulC (.slice ra m rc)) 43, .ow (.slice (some ⟨g15, 0, none⟩) sk c15) 3 1 sk (ints (chI F)), .ow (.slice (some ⟨g13, 0, none⟩) sk c13) 48 2 sk (spC PL), .pt b9 (lbC l (.slice va l.runs.length vc)) 28, dkP (.slice a2 nb2 cb2) bq (m * k4 + m + 1)]) ?_ (fun hS2_3_7 => ?_)
              · rintro ⟨lt0, ap0, lt1, _⟩
                refine qx_T [.ow ap0 3 1 (k4 + 1) (ints (List.replicate k4 0) ++ [.int .i64 0]), .ow t2 29 1 k4 (X2.map (·.1)), .pt lt1 [.slice (some ⟨gu2, 0, none⟩) m cu2] 29] (by repeat (first | exact PickL.nil | (apply PickL.cons; rfl))) rfl (by repeat constructor) fun K1 hK1 => ?_
                (refine qf_pure tabOk rfl rfl rfl ?_; refine qf_loadBa tabOk rfl rfl rfl ?_)
                refine qf_append (q := 1) (news := [.slice (some ⟨gu2, 0, none⟩) m cu2]) slII rfl rfl rfl (fun v' => by repeat constructor) (fun w' hs => ⟨_, _, Blk.rdN (hs.blk (b := lt1) (by repeat constructor)) rfl⟩) (by simp [oneV]) (by omega) (by omega) (fun ap1 => ?_)
                (refine qf_nil ?_)
                exact hK1 _ _ (hS2_3_7_8 ⟨lt0, ap0, lt1, ap1, ()⟩ _ _ ⟨rfl, rfl, rfl, rfl, rfl, rfl, rfl, rfl, rfl, rfl, rfl, rfl, rfl, rfl, rfl, rfl, rfl, trivial⟩ (by repeat constructor))
              refine qx_let (σ := Nat × Value × Unit) (tZ6_39a6f32) (fun ⟨lt0, ap0, ()⟩ => [(8, .pointer (some ⟨bq, 0, none⟩)), (9, .pointer (some ⟨b9, 0, none⟩)), (13, .slice (some ⟨g13, 0, none⟩) sk c13), (17, .bool kn), (19, .pointer (some ⟨b19, 0, none⟩)), (20, .int .i64 ((by0 : Int) + 1)), (21, .pointer (some ⟨b21, 0, none⟩)), (22, .pointer (some ⟨b22, 0, none⟩)), (23, .pointer (some ⟨b23, 0, none⟩)), (24, .slice (some ⟨b24, 0, none⟩) sk sk), (163, .slice (some ⟨g13, 0, none⟩) sk c13), (164, .int .i64 sk), (165, .int .i64 k4), (30, .slice (some ⟨gu2, 0, none⟩) m cu2), (31, .slice (some ⟨gu3, 0, none⟩) m cu3), (250, ap0)]) (fun ⟨lt0, ap0, ()⟩ => [.ow ap0 3 1 (k4 + 1) (ints (List.replicate k4 0) ++ [.int .i64 0]), .ow t2 29 1 k4 (X2.map (·.1)), .pt b22 [d2, t2] 46, .pt b21 [C1, S1] 46, .ow C1 3 1 (k4 + 1) (ints (List.replicate k4 0) ++ [.int .i64 0]), .ow S1 29 1 (k4 + 1) (X1.map (·.1) ++ [.slice (some ⟨gu1, 0, none⟩) m cu1]), un (rowsO 3 X1), un (rowsO 3 X2), .pt b23 [d3, t3] 46, .ow d3 3 1 k4 (ints (List.replicate k4 0)), .ow t3 29 1 k4 (X3.map (·.1)), un (rowsO 3 X3), .ow (.slice (some ⟨gu1, 0, none⟩) m cu1) 3 1 m (ints (N.map (· + ((by0 : Int) + 1) * lo))), .ow (.slice (some ⟨gu2, 0, none⟩) m cu2) 3 1 m (ints (N.map (· + ((by0 : Int) + 1) * hi))), .ow (.slice (some ⟨gu3, 0, none⟩) m cu3) 3 1 m (ints (N.map (· + ((by0 : Int) + 1) * pj))), .pt b28 [.int .i64 lo, .int .i64 hi] 48, .pt b24 (ints J) 3, .ow (.slice ra m rc) 3 1 m (ints (List.replicate m 0)), .pt b19 (rulC (.slice ra m rc)) 43, .ow (.slice (some ⟨g15, 0, none⟩) sk c15) 3 1 sk (ints (chI F)), .ow (.slice (some ⟨g13, 0, none⟩) sk c13) 48 2 sk (spC PL), .pt b9 (lbC l (.slice va l.runs.length vc)) 28, dkP (.slice a2 nb2 cb2) bq (m * k4 + m + 1)]) ?_ (fun hS2_3 => ?_)
              · rintro ⟨lt0, ap0, _⟩
                refine qx_T [.ow ap0 3 1 (k4 + 1) (ints (List.replicate k4 0) ++ [.int .i64 0]), .ow t2 29 1 k4 (X2.map (·.1))] (by repeat (first | exact PickL.nil | (apply PickL.cons; rfl))) rfl (by repeat constructor) fun K1 hK1 => ?_
                (refine qf_pure tabOk rfl rfl rfl ?_)
                refine qf_mkS 29 [.slice (some ⟨gu2, 0, none⟩) m cu2] rfl (by kernel_rfl) rfl (fun lt1 => ?_)
                (refine qf_nil ?_)
                exact hK1 _ _ (hS2_3_7 ⟨lt0, ap0, lt1, ()⟩ _ _ ⟨rfl, rfl, rfl, rfl, rfl, rfl, rfl, rfl, rfl, rfl, rfl, rfl, rfl, rfl, rfl, rfl, rfl, trivial⟩ (by repeat constructor))
              refine qx_let (σ := Nat × Nat × Unit) (tZ6_284be98) (fun ⟨lt0, lt1, ()⟩ => [(8, .pointer (some ⟨bq, 0, none⟩)), (9, .pointer (some ⟨b9, 0, none⟩)), (13, .slice (some ⟨g13, 0, none⟩) sk c13), (17, .bool kn), (19, .pointer (some ⟨b19, 0, none⟩)), (20, .int .i64 ((by0 : Int) + 1)), (21, .pointer (some ⟨b21, 0, none⟩)), (22, .pointer (some ⟨b22, 0, none⟩)), (23, .pointer (some ⟨b23, 0, none⟩)), (24, .slice (some ⟨b24, 0, none⟩) sk sk), (163, .slice (some ⟨g13, 0, none⟩) sk c13), (164, .int .i64 sk), (165, .int .i64 k4), (30, .slice (some ⟨gu2, 0, none⟩) m cu2), (31, .slice (some ⟨gu3, 0, none⟩) m cu3), (249, .slice (some ⟨lt0, 0, none⟩) 1 1), (254, .slice (some ⟨lt1, 0, none⟩) 1 1)]) (fun ⟨lt0, lt1, ()⟩ => [.ow d2 3 1 k4 (ints (List.replicate k4 0)), .pt lt0 [.int .i64 0] 3, .ow t2 29 1 k4 (X2.map (·.1)), .pt lt1 [.slice (some ⟨gu2, 0, none⟩) m cu2] 29, .pt b22 [d2, t2] 46, .pt b21 [C1, S1] 46, .ow C1 3 1 (k4 + 1) (ints (List.replicate k4 0) ++ [.int .i64 0]), .ow S1 29 1 (k4 + 1) (X1.map (·.1) ++ [.slice (some ⟨gu1, 0, none⟩) m cu1]), un (rowsO 3 X1), un (rowsO 3 X2), .pt b23 [d3, t3] 46, .ow d3 3 1 k4 (ints (List.replicate k4 0)), .ow t3 29 1 k4 (X3.map (·.1)), un (rowsO 3 X3), .ow (.slice (some ⟨gu1, 0, none⟩) m cu1) 3 1 m (ints (N.map (· + ((by0 : Int) + 1) * lo))), .ow (.slice (some ⟨gu2, 0, none⟩) m cu2) 3 1 m (ints (N.map (· + ((by0 : Int) + 1) * hi))), .ow (.slice (some ⟨gu3, 0, none⟩) m cu3) 3 1 m (ints (N.map (· + ((by0 : Int) + 1) * pj))), .pt b28 [.int .i64 lo, .int .i64 hi] 48, .pt b24 (ints J) 3, .ow (.slice ra m rc) 3 1 m (ints (List.replicate m 0)), .pt b19 (rulC (.slice ra m rc)) 43, .ow (.slice (some ⟨g15, 0, none⟩) sk c15) 3 1 sk (ints (chI F)), .ow (.slice (some ⟨g13, 0, none⟩) sk c13) 48 2 sk (spC PL), .pt b9 (lbC l (.slice va l.runs.length vc)) 28, dkP (.slice a2 nb2 cb2) bq (m * k4 + m + 1)]) ?_ (fun hS2_7 => ?_)
              · rintro ⟨lt0, lt1, _⟩
                refine qx_T [.ow d2 3 1 k4 (ints (List.replicate k4 0)), .pt lt0 [.int .i64 0] 3, .ow t2 29 1 k4 (X2.map (·.1)), .pt lt1 [.slice (some ⟨gu2, 0, none⟩) m cu2] 29] (by repeat (first | exact PickL.nil | (apply PickL.cons; rfl))) rfl (by repeat constructor) fun K1 hK1 => ?_
                (refine qf_pure tabOk rfl rfl rfl ?_; refine qf_loadBa tabOk rfl rfl rfl ?_)
                refine qf_append (q := 1) (news := [.int .i64 0]) slI rfl rfl rfl (fun v' => by repeat constructor) (fun w' hs => ⟨_, _, Blk.rdN (hs.blk (b := lt0) (by repeat constructor)) rfl⟩) (by simp [oneV]) (by omega) (by omega) (fun ap0 => ?_)
                (refine qf_nil ?_)
                exact hK1 _ _ (hS2_3_7 ⟨lt0, ap0, lt1, ()⟩ _ _ ⟨rfl, rfl, rfl, rfl, rfl, rfl, rfl, rfl, rfl, rfl, rfl, rfl, rfl, rfl, rfl, rfl, rfl, trivial⟩ (by repeat constructor))
              refine qx_let (σ := Nat × Unit) (tZ6_7e6ca41) (fun ⟨lt0, ()⟩ => [(8, .pointer (some ⟨bq, 0, none⟩)), (9, .pointer (some ⟨b9, 0, none⟩)), (13, .slice (some ⟨g13, 0, none⟩) sk c13), (17, .bool kn), (19, .pointer (some ⟨b19, 0, none⟩)), (20, .int .i64 ((by0 : Int) + 1)), (21, .pointer (some ⟨b21, 0, none⟩)), (22, .pointer (some ⟨b22, 0, none⟩)), (23, .pointer (some ⟨b23, 0, none⟩)), (24, .slice (some ⟨b24, 0, none⟩) sk sk), (163, .slice (some ⟨g13, 0, none⟩) sk c13), (164, .int .i64 sk), (165, .int .i64 k4), (30, .slice (some ⟨gu2, 0, none⟩) m cu2), (31, .slice (some ⟨gu3, 0, none⟩) m cu3), (249, .slice (some ⟨lt0, 0, none⟩) 1 1)]) (fun ⟨lt0, ()⟩ => [.ow d2 3 1 k4 (ints (List.replicate k4 0)), .pt lt0 [.int .i64 0] 3, .ow t2 29 1 k4 (X2.map (·.1)), .pt b22 [d2, t2] 46, .pt b21 [C1, S1] 46, .ow C1 3 1 (k4 + 1) (ints (List.replicate k4 0) ++ [.int .i64 0]), .ow S1 29 1 (k4 + 1) (X1.map (·.1) ++ [.slice (some ⟨gu1, 0, none⟩) m cu1]), un (rowsO 3 X1), un (rowsO 3 X2), .pt b23 [d3, t3] 46, .ow d3 3 1 k4 (ints (List.replicate k4 0)), .ow t3 29 1 k4 (X3.map (·.1)), un (rowsO 3 X3), .ow (.slice (some ⟨gu1, 0, none⟩) m cu1) 3 1 m (ints (N.map (· + ((by0 : Int) + 1) * lo))), .ow (.slice (some ⟨gu2, 0, none⟩) m cu2) 3 1 m (ints (N.map (· + ((by0 : Int) + 1) * hi))), .ow (.slice (some ⟨gu3, 0, none⟩) m cu3) 3 1 m (ints (N.map (· + ((by0 : Int) + 1) * pj))), .pt b28 [.int .i64 lo, .int .i64 hi] 48, .pt b24 (ints J) 3, .ow (.slice ra m rc) 3 1 m (ints (List.replicate m 0)), .pt b19 (rulC (.slice ra m rc)) 43, .ow (.slice (some ⟨g15, 0, none⟩) sk c15) 3 1 sk (ints (chI F)), .ow (.slice (some ⟨g13, 0, none⟩) sk c13) 48 2 sk (spC PL), .pt b9 (lbC l (.slice va l.runs.length vc)) 28, dkP (.slice a2 nb2 cb2) bq (m * k4 + m + 1)]) ?_ (fun hS2 => ?_)
              · rintro ⟨lt0, _⟩
                refine qx_alt ?_ ?_
                · skip
                  refine qx_T [.ow d2 3 1 k4 (ints (List.replicate k4 0)), .pt lt0 [.int .i64 0] 3, .ow t2 29 1 k4 (X2.map (·.1))] (by repeat (first | exact PickL.nil | (apply PickL.cons; rfl))) rfl (by repeat constructor) fun K1 hK1 => ?_
                  (refine qf_pure tabOk rfl rfl rfl ?_; refine qf_loadBa tabOk rfl rfl rfl ?_)
                  refine qf_append (q := 1) (news := [.int .i64 0]) slI rfl rfl rfl (fun v' => by repeat constructor) (fun w' hs => ⟨_, _, Blk.rdN (hs.blk (b := lt0) (by repeat constructor)) rfl⟩) (by simp [oneV]) (by omega) (by omega) (fun ap0 => ?_)
                  (refine qf_nil ?_)
                  exact hK1 _ _ (hS2_3 ⟨lt0, ap0, ()⟩ _ _ ⟨rfl, rfl, rfl, rfl, rfl, rfl, rfl, rfl, rfl, rfl, rfl, rfl, rfl, rfl, rfl, rfl, trivial⟩ (by repeat constructor))
                · skip
                  refine qx_T [.ow d2 3 1 k4 (ints (List.replicate k4 0)), .pt lt0 [.int .i64 0] 3, .ow t2 29 1 k4 (X2.map (·.1))] (by repeat (first | exact PickL.nil | (apply PickL.cons; rfl))) rfl (by repeat constructor) fun K1 hK1 => ?_
                  (refine qf_pure tabOk rfl rfl rfl ?_)
                  refine qf_mkS 29 [.slice (some ⟨gu2, 0, none⟩) m cu2] rfl (by kernel_rfl) rfl (fun lt1 => ?_)
                  (refine qf_nil ?_)
                  exact hK1 _ _ (hS2_7 ⟨lt0, lt1, ()⟩ _ _ ⟨rfl, rfl, rfl, rfl, rfl, rfl, rfl, rfl, rfl, rfl, rfl, rfl, rfl, rfl, rfl, rfl, rfl, trivial⟩ (by repeat constructor))
              refine qx_let (σ := Nat × Unit) (tZ6_ae0aab7) (fun ⟨lt1, ()⟩ => [(8, .pointer (some ⟨bq, 0, none⟩)), (9, .pointer (some ⟨b9, 0, none⟩)), (13, .slice (some ⟨g13, 0, none⟩) sk c13), (17, .bool kn), (19, .pointer (some ⟨b19, 0, none⟩)), (20, .int .i64 ((by0 : Int) + 1)), (21, .pointer (some ⟨b21, 0, none⟩)), (22, .pointer (some ⟨b22, 0, none⟩)), (23, .pointer (some ⟨b23, 0, none⟩)), (24, .slice (some ⟨b24, 0, none⟩) sk sk), (163, .slice (some ⟨g13, 0, none⟩) sk c13), (164, .int .i64 sk), (165, .int .i64 k4), (30, .slice (some ⟨gu2, 0, none⟩) m cu2), (31, .slice (some ⟨gu3, 0, none⟩) m cu3), (254, .slice (some ⟨lt1, 0, none⟩) 1 1)]) (fun ⟨lt1, ()⟩ => [.ow d2 3 1 k4 (ints (List.replicate k4 0)), .ow t2 29 1 k4 (X2.map (·.1)), .pt lt1 [.slice (some ⟨gu2, 0, none⟩) m cu2] 29, .pt b22 [d2, t2] 46, .pt b21 [C1, S1] 46, .ow C1 3 1 (k4 + 1) (ints (List.replicate k4 0) ++ [.int .i64 0]), .ow S1 29 1 (k4 + 1) (X1.map (·.1) ++ [.slice (some ⟨gu1, 0, none⟩) m cu1]), un (rowsO 3 X1), un (rowsO 3 X2), .pt b23 [d3, t3] 46, .ow d3 3 1 k4 (ints (List.replicate k4 0)), .ow t3 29 1 k4 (X3.map (·.1)), un (rowsO 3 X3), .ow (.slice (some ⟨gu1, 0, none⟩) m cu1) 3 1 m (ints (N.map (· + ((by0 : Int) + 1) * lo))), .ow (.slice (some ⟨gu2, 0, none⟩) m cu2) 3 1 m (ints (N.map (· + ((by0 : Int) + 1) * hi))), .ow (.slice (some ⟨gu3, 0, none⟩) m cu3) 3 1 m (ints (N.map (· + ((by0 : Int) + 1) * pj))), .pt b28 [.int .i64 lo, .int .i64 hi] 48, .pt b24 (ints J) 3, .ow (.slice ra m rc) 3 1 m (ints (List.replicate m 0)), .pt b19 (rulC (.slice ra m rc)) 43, .ow (.slice (some ⟨g15, 0, none⟩) sk c15) 3 1 sk (ints (chI F)), .ow (.slice (some ⟨g13, 0, none⟩) sk c13) 48 2 sk (spC PL), .pt b9 (lbC l (.slice va l.runs.length vc)) 28, dkP (.slice a2 nb2 cb2) bq (m * k4 + m + 1)]) ?_ (fun hS7 => ?_)
              · rintro ⟨lt1, _⟩
                refine qx_T [.ow d2 3 1 k4 (ints (List.replicate k4 0)), .ow t2 29 1 k4 (X2.map (·.1)), .pt lt1 [.slice (some ⟨gu2, 0, none⟩) m cu2] 29] (by repeat (first | exact PickL.nil | (apply PickL.cons; rfl))) rfl (by repeat constructor) fun K1 hK1 => ?_
                skip
                refine qf_mkS 3 [.int .i64 0] rfl (by kernel_rfl) rfl (fun lt0 => ?_)
                (refine qf_nil ?_)
                exact hK1 _ _ (hS2_7 ⟨lt0, lt1, ()⟩ _ _ ⟨rfl, rfl, rfl, rfl, rfl, rfl, rfl, rfl, rfl, rfl, rfl, rfl, rfl, rfl, rfl, rfl, rfl, trivial⟩ (by repeat constructor))
              refine qx_alt ?_ ?_
              · skip
                refine qx_T [.ow d2 3 1 k4 (ints (List.replicate k4 0)), .ow t2 29 1 k4 (X2.map (·.1))] (by repeat (first | exact PickL.nil | (apply PickL.cons; rfl))) rfl (by repeat constructor) fun K1 hK1 => ?_
                skip
                refine qf_mkS 3 [.int .i64 0] rfl (by kernel_rfl) rfl (fun lt0 => ?_)
                (refine qf_nil ?_)
                exact hK1 _ _ (hS2 ⟨lt0, ()⟩ _ _ ⟨rfl, rfl, rfl, rfl, rfl, rfl, rfl, rfl, rfl, rfl, rfl, rfl, rfl, rfl, rfl, rfl, trivial⟩ (by repeat constructor))
              · skip
                refine qx_T [.ow d2 3 1 k4 (ints (List.replicate k4 0)), .ow t2 29 1 k4 (X2.map (·.1))] (by repeat (first | exact PickL.nil | (apply PickL.cons; rfl))) rfl (by repeat constructor) fun K1 hK1 => ?_
                (refine qf_pure tabOk rfl rfl rfl ?_)
                refine qf_mkS 29 [.slice (some ⟨gu2, 0, none⟩) m cu2] rfl (by kernel_rfl) rfl (fun lt1 => ?_)
                (refine qf_nil ?_)
                exact hK1 _ _ (hS7 ⟨lt1, ()⟩ _ _ ⟨rfl, rfl, rfl, rfl, rfl, rfl, rfl, rfl, rfl, rfl, rfl, rfl, rfl, rfl, rfl, rfl, trivial⟩ (by repeat constructor))
            rintro ⟨C2, S2⟩
            dsimp only
            skip
            refine q_cut (σ := Value × Value) (fun z => [(8, .pointer (some ⟨bq, 0, none⟩)), (9, .pointer (some ⟨b9, 0, none⟩)), (13, .slice (some ⟨g13, 0, none⟩) sk c13), (17, .bool kn), (19, .pointer (some ⟨b19, 0, none⟩)), (20, .int .i64 ((by0 : Int) + 1)), (21, .pointer (some ⟨b21, 0, none⟩)), (22, .pointer (some ⟨b22, 0, none⟩)), (23, .pointer (some ⟨b23, 0, none⟩)), (24, .slice (some ⟨b24, 0, none⟩) sk sk), (163, .slice (some ⟨g13, 0, none⟩) sk c13), (164, .int .i64 sk), (165, .int .i64 k4)]) (fun z => [.pt b21 [C1, S1] 46, .ow C1 3 1 (k4 + 1) (ints (List.replicate k4 0) ++ [.int .i64 0]), .ow S1 29 1 (k4 + 1) (X1.map (·.1) ++ [.slice (some ⟨gu1, 0, none⟩) m cu1]), un (rowsO 3 X1), .pt b22 [C2, S2] 46, .ow C2 3 1 (k4 + 1) (ints (List.replicate k4 0) ++ [.int .i64 0]), .ow S2 29 1 (k4 + 1) (X2.map (·.1) ++ [.slice (some ⟨gu2, 0, none⟩) m cu2]), un (rowsO 3 X2), .pt b23 [z.1, z.2] 46, .ow z.1 3 1 (k4 + 1) (ints (List.replicate k4 0) ++ [.int .i64 0]), .ow z.2 29 1 (k4 + 1) (X3.map (·.1) ++ [.slice (some ⟨gu3, 0, none⟩) m cu3]), un (rowsO 3 X3), .ow (.slice (some ⟨gu1, 0, none⟩) m cu1) 3 1 m (ints (N.map (· + ((by0 : Int) + 1) * lo))), .ow (.slice (some ⟨gu2, 0, none⟩) m cu2) 3 1 m (ints (N.map (· + ((by0 : Int) + 1) * hi))), .ow (.slice (some ⟨gu3, 0, none⟩) m cu3) 3 1 m (ints (N.map (· + ((by0 : Int) + 1) * pj))), .pt b28 [.int .i64 lo, .int .i64 hi] 48, .pt b24 (ints J) 3, .ow (.slice ra m rc) 3 1 m (ints (List.replicate m 0)), .pt b19 (rulC (.slice ra m rc)) 43, .ow (.slice (some ⟨g15, 0, none⟩) sk c15) 3 1 sk (ints (chI F)), .ow (.slice (some ⟨g13, 0, none⟩) sk c13) 48 2 sk (spC PL), .pt b9 (lbC l (.slice va l.runs.length vc)) 28, dkP (.slice a2 nb2 cb2) bq (m * k4 + m + 1)]) ?_ ?_
            rotate_left
            · intro K7 hK7
              refine q_drawX (tZ6_d18d610) [true, true, true, true, true, true, true, true, true, false, false, false, false] [.pt b23 [d3, t3] 46, .pt b21 [C1, S1] 46, .ow C1 3 1 (k4 + 1) (ints (List.replicate k4 0) ++ [.int .i64 0]), .ow S1 29 1 (k4 + 1) (X1.map (·.1) ++ [.slice (some ⟨gu1, 0, none⟩) m cu1]), un (rowsO 3 X1), .pt b22 [C2, S2] 46, .ow C2 3 1 (k4 + 1) (ints (List.replicate k4 0) ++ [.int .i64 0]), .ow S2 29 1 (k4 + 1) (X2.map (·.1) ++ [.slice (some ⟨gu2, 0, none⟩) m cu2]), un (rowsO 3 X2), un (rowsO 3 X3), .ow (.slice (some ⟨gu1, 0, none⟩) m cu1) 3 1 m (ints (N.map (· + ((by0 : Int) + 1) * lo))), .ow (.slice (some ⟨gu2, 0, none⟩) m cu2) 3 1 m (ints (N.map (· + ((by0 : Int) + 1) * hi))), .ow (.slice (some ⟨gu3, 0, none⟩) m cu3) 3 1 m (ints (N.map (· + ((by0 : Int) + 1) * pj))), .pt b28 [.int .i64 lo, .int .i64 hi] 48, .pt b24 (ints J) 3, .ow (.slice ra m rc) 3 1 m (ints (List.replicate m 0)), .pt b19 (rulC (.slice ra m rc)) 43, .ow (.slice (some ⟨g15, 0, none⟩) sk c15) 3 1 sk (ints (chI F)), .ow (.slice (some ⟨g13, 0, none⟩) sk c13) 48 2 sk (spC PL), .pt b9 (lbC l (.slice va l.runs.length vc)) 28, dkP (.slice a2 nb2 cb2) bq (m * k4 + m + 1)] [.ow d3 3 1 k4 (ints (List.replicate k4 0)), .ow t3 29 1 k4 (X3.map (·.1))] [.pt b21 [C1, S1] 46, .ow C1 3 1 (k4 + 1) (ints (List.replicate k4 0) ++ [.int .i64 0]), .ow S1 29 1 (k4 + 1) (X1.map (·.1) ++ [.slice (some ⟨gu1, 0, none⟩) m cu1]), un (rowsO 3 X1), .pt b22 [C2, S2] 46, .ow C2 3 1 (k4 + 1) (ints (List.replicate k4 0) ++ [.int .i64 0]), .ow S2 29 1 (k4 + 1) (X2.map (·.1) ++ [.slice (some ⟨gu2, 0, none⟩) m cu2]), un (rowsO 3 X2), un (rowsO 3 X3), .ow (.slice (some ⟨gu1, 0, none⟩) m cu1) 3 1 m (ints (N.map (· + ((by0 : Int) + 1) * lo))), .ow (.slice (some ⟨gu2, 0, none⟩) m cu2) 3 1 m (ints (N.map (· + ((by0 : Int) + 1) * hi))), .ow (.slice (some ⟨gu3, 0, none⟩) m cu3) 3 1 m (ints (N.map (· + ((by0 : Int) + 1) * pj))), .pt b28 [.int .i64 lo, .int .i64 hi] 48, .pt b24 (ints J) 3, .ow (.slice ra m rc) 3 1 m (ints (List.replicate m 0)), .pt b19 (rulC (.slice ra m rc)) 43, .ow (.slice (some ⟨g15, 0, none⟩) sk c15) 3 1 sk (ints (chI F)), .ow (.slice (some ⟨g13, 0, none⟩) sk c13) 48 2 sk (spC PL), .pt b9 (lbC l (.slice va l.runs.length vc)) 28, dkP (.slice a2 nb2 cb2) bq (m * k4 + m + 1)] [.pt b23 [d3, t3] 46] (by repeat constructor) (by repeat constructor) (by kernel_rfl) (by kernel_rfl) (by kernel_rfl) ?_
              refine qx_let (σ := Nat × Value × Nat × Value × Unit) (tZ6_f63d762) (fun ⟨lt0, ap0, lt1, ap1, ()⟩ => [(8, .pointer (some ⟨bq, 0, none⟩)), (9, .pointer (some ⟨b9, 0, none⟩)), (13, .slice (some ⟨g13, 0, none⟩) sk c13), (17, .bool kn), (19, .pointer (some ⟨b19, 0, none⟩)), (20, .int .i64 ((by0 : Int) + 1)), (21, .pointer (some ⟨b21, 0, none⟩)), (22, .pointer (some ⟨b22, 0, none⟩)), (23, .pointer (some ⟨b23, 0, none⟩)), (24, .slice (some ⟨b24, 0, none⟩) sk sk), (163, .slice (some ⟨g13, 0, none⟩) sk c13), (164, .int .i64 sk), (165, .int .i64 k4), (31, .slice (some ⟨gu3, 0, none⟩) m cu3), (261, ap0), (266, ap1)]) (fun ⟨lt0, ap0, lt1, ap1, ()⟩ => [.ow ap0 3 1 (k4 + 1) (ints (List.replicate k4 0) ++ [.int .i64 0]), .ow ap1 29 1 (k4 + 1) (X3.map (·.1) ++ [.slice (some ⟨gu3, 0, none⟩) m cu3]), .pt b23 [d3, t3] 46, .pt b21 [C1, S1] 46, .ow C1 3 1 (k4 + 1) (ints (List.replicate k4 0) ++ [.int .i64 0]), .ow S1 29 1 (k4 + 1) (X1.map (·.1) ++ [.slice (some ⟨gu1, 0, none⟩) m cu1]), un (rowsO 3 X1), .pt b22 [C2, S2] 46, .ow C2 3 1 (k4 + 1) (ints (List.replicate k4 0) ++ [.int .i64 0]), .ow S2 29 1 (k4 + 1) (X2.map (·.1) ++ [.slice (some ⟨gu2, 0, none⟩) m cu2]), un (rowsO 3 X2), un (rowsO 3 X3), .ow (.slice (some ⟨gu1, 0, none⟩) m cu1) 3 1 m (ints (N.map (· + ((by0 : Int) + 1) * lo))), .ow (.slice (some ⟨gu2, 0, none⟩) m cu2) 3 1 m (ints (N.map (· + ((by0 : Int) + 1) * hi))), .ow (.slice (some ⟨gu3, 0, none⟩) m cu3) 3 1 m (ints (N.map (· + ((by0 : Int) + 1) * pj))), .pt b28 [.int .i64 lo, .int .i64 hi] 48, .pt b24 (ints J) 3, .ow (.slice ra m rc) 3 1 m (ints (List.replicate m 0)), .pt b19 (rulC (.slice ra m rc)) 43, .ow (.slice (some ⟨g15, 0, none⟩) sk c15) 3 1 sk (ints (chI F)), .ow (.slice (some ⟨g13, 0, none⟩) sk c13) 48 2 sk (spC PL), .pt b9 (lbC l (.slice va l.runs.length vc)) 28, dkP (.slice a2 nb2 cb2) bq (m * k4 + m + 1)]) ?_ (fun hS2_3_7_8 => ?_)
              · rintro ⟨lt0, ap0, lt1, ap1, _⟩
                refine qx_F [.ow ap0 3 1 (k4 + 1) (ints (List.replicate k4 0) ++ [.int .i64 0]), .ow ap1 29 1 (k4 + 1) (X3.map (·.1) ++ [.slice (some ⟨gu3, 0, none⟩) m cu3]), .pt b23 [d3, t3] 46] (by repeat (first | exact PickL.nil | (apply PickL.cons; rfl))) rfl (by repeat constructor) fun K1 hK1 => ?_
                refine qf_fact (fun w hs => hs.slice (v := ap0) (by repeat constructor)) ?_
                rintro ⟨w0, h0, e0, rfl⟩
                refine qf_fact (fun w hs => hs.slice (v := ap1) (by repeat constructor)) ?_
                rintro ⟨w1, h1, e1, rfl⟩
                (refine qf_pure tabOk rfl rfl rfl ?_; refine qf_st0 tabOk rfl rfl rfl rfl (by repeat constructor) ?_; refine qf_pure tabOk rfl rfl rfl ?_; refine qf_st1 tabOk rfl rfl rfl rfl (by repeat constructor) ?_; refine qf_nil ?_)
                refine hK1 _ _ (qx_nil ?_)
                exact hK7 (.slice w0 h0 e0, .slice w1 h1 e1) _ _ ⟨rfl, rfl, rfl, rfl, rfl, rfl, rfl, rfl, rfl, rfl, rfl, rfl, rfl, trivial⟩ (by repeat constructor)
              refine qx_let (σ := Nat × Value × Nat × Unit) (tZ6_79dcb0d) (fun ⟨lt0, ap0, lt1, ()⟩ => [(8, .pointer (some ⟨bq, 0, none⟩)), (9, .pointer (some ⟨b9, 0, none⟩)), (13, .slice (some ⟨g13, 0, none⟩) sk c13), (17, .bool kn), (19, .pointer (some ⟨b19, 0, none⟩)), (20, .int .i64 ((by0 : Int) + 1)), (21, .pointer (some ⟨b21, 0, none⟩)), (22, .pointer (some ⟨b22, 0, none⟩)), (23, .pointer (some ⟨b23, 0, none⟩)), (24, .slice (some ⟨b24, 0, none⟩) sk sk), (163, .slice (some ⟨g13, 0, none⟩) sk c13), (164, .int .i64 sk), (165, .int .i64 k4), (31, .slice (some ⟨gu3, 0, none⟩) m cu3), (261, ap0), (265, .slice (some ⟨lt1, 0, none⟩) 1 1)]) (fun ⟨lt0, ap0, lt1, ()⟩ => [.ow ap0 3 1 (k4 + 1) (ints (List.replicate k4 0) ++ [.int .i64 0]), .ow t3 29 1 k4 (X3.map (·.1)), .pt lt1 [.slice (some ⟨gu3, 0, none⟩) m cu3] 29, .pt b23 [d3, t3] 46, .pt b21 [C1, S1] 46, .ow C1 3 1 (k4 + 1) (ints (List.replicate k4 0) ++ [.int .i64 0]), .ow S1 29 1 (k4 + 1) (X1.map (·.1) ++ [.slice (some ⟨gu1, 0, none⟩) m cu1]), un (rowsO 3 X1), .pt b22 [C2, S2] 46, .ow C2 3 1 (k4 + 1) (ints (List.replicate k4 0) ++ [.int .i64 0]), .ow S2 29 1 (k4 + 1) (X2.map (·.1) ++ [.slice (some ⟨gu2, 0, none⟩) m cu2]), un (rowsO 3 X2), un (rowsO 3 X3), .ow (.slice (some ⟨gu1, 0, none⟩) m cu1) 3 1 m (ints (N.map (· + ((by0 : Int) + 1) * lo))), .ow (.slice (some ⟨gu2, 0, none⟩) m cu2) 3 1 m (ints (N.map (· + ((by0 : Int) + 1) * hi))), .ow (.slice (some ⟨gu3, 0, none⟩) m cu3) 3 1 m (ints (N.map (· + ((by0 : Int) + 1) * pj))), .pt b28 [.int .i64 lo, .int .i64 hi] 48, .pt b24 (ints J) 3, .ow (.slice ra m rc) 3 1 m (ints (List.replicate m 0)), .pt b19 (rulC (.slice ra m rc)) 43, .ow (.slice (some ⟨g15, 0, none⟩) sk c15) 3 1 sk (ints (chI F)), .ow (.slice (some ⟨g13, 0, none⟩) sk c13) 48 2 sk (spC PL), .pt b9 (lbC l (.slice va l.runs.length vc)) 28, dkP (.slice a2 nb2 cb2) bq (m * k4 + m + 1)]) ?_ (fun hS2_3_7 => ?_)
              · rintro ⟨lt0, ap0, lt1, _⟩
                refine qx_T [.ow ap0 3 1 (k4 + 1) (ints (List.replicate k4 0) ++ [.int .i64 0]), .ow t3 29 1 k4 (X3.map (·.1)), .pt lt1 [.slice (some ⟨gu3, 0, none⟩) m cu3] 29] (by repeat (first | exact PickL.nil | (apply PickL.cons; rfl))) rfl (by repeat constructor) fun K1 hK1 => ?_
                (refine qf_pure tabOk rfl rfl rfl ?_; refine qf_loadBa tabOk rfl rfl rfl ?_)
                refine qf_append (q := 1) (news := [.slice (some ⟨gu3, 0, none⟩) m cu3]) slII rfl rfl rfl (fun v' => by repeat constructor) (fun w' hs => ⟨_, _, Blk.rdN (hs.blk (b := lt1) (by repeat constructor)) rfl⟩) (by simp [oneV]) (by omega) (by omega) (fun ap1 => ?_)
                (refine qf_nil ?_)
                exact hK1 _ _ (hS2_3_7_8 ⟨lt0, ap0, lt1, ap1, ()⟩ _ _ ⟨rfl, rfl, rfl, rfl, rfl, rfl, rfl, rfl, rfl, rfl, rfl, rfl, rfl, rfl, rfl, rfl, trivial⟩ (by repeat constructor))
              refine qx_let (σ := Nat × Value × Unit) (tZ6_39a6f32) (fun ⟨lt0, ap0, ()⟩ => [(8, .pointer (some ⟨bq, 0, none⟩)), (9, .pointer (some ⟨b9, 0, none⟩)), (13, .slice (some ⟨g13, 0, none⟩) sk c13), (17, .bool kn), (19, .pointer (some ⟨b19, 0, none⟩)), (20, .int .i64 ((by0 : Int) + 1)), (21, .pointer (some ⟨b21, 0, none⟩)), (22, .pointer (some ⟨b22, 0, none⟩)), (23, .pointer (some ⟨b23, 0, none⟩)), (24, .slice (some ⟨b24, 0, none⟩) sk sk), (163, .slice (some ⟨g13, 0, none⟩) sk c13), (164, .int .i64 sk), (165, .int .i64 k4), (31, .slice (some ⟨gu3, 0, none⟩) m cu3), (261, ap0)]) (fun ⟨lt0, ap0, ()⟩ => [.ow ap0 3 1 (k4 + 1) (ints (List.replicate k4 0) ++ [.int .i64 0]), .ow t3 29 1 k4 (X3.map (·.1)), .pt b23 [d3, t3] 46, .pt b21 [C1, S1] 46, .ow C1 3 1 (k4 + 1) (ints (List.replicate k4 0) ++ [.int .i64 0]), .ow S1 29 1 (k4 + 1) (X1.map (·.1) ++ [.slice (some ⟨gu1, 0, none⟩) m cu1]), un (rowsO 3 X1), .pt b22 [C2, S2] 46, .ow C2 3 1 (k4 + 1) (ints (List.replicate k4 0) ++ [.int .i64 0]), .ow S2 29 1 (k4 + 1) (X2.map (·.1) ++ [.slice (some ⟨gu2, 0, none⟩) m cu2]), un (rowsO 3 X2), un (rowsO 3 X3), .ow (.slice (some ⟨gu1, 0, none⟩) m cu1) 3 1 m (ints (N.map (· + ((by0 : Int) + 1) * lo))), .ow (.slice (some ⟨gu2, 0, none⟩) m cu2) 3 1 m (ints (N.map (· + ((by0 : Int) + 1) * hi))), .ow (.slice (some ⟨gu3, 0, none⟩) m cu3) 3 1 m (ints (N.map (· + ((by0 : Int) + 1) * pj))), .pt b28 [.int .i64 lo, .int .i64 hi] 48, .pt b24 (ints J) 3, .ow (.slice ra m rc) 3 1 m (ints (List.replicate m 0)), .pt b19 (rulC (.slice ra m rc)) 43, .ow (.slice (some ⟨g15, 0, none⟩) sk c15) 3 1 sk (ints (chI F)), .ow (.slice (some ⟨g13, 0, none⟩) sk c13) 48 2 sk (spC PL), .pt b9 (lbC l (.slice va l.runs.length vc)) 28, dkP (.slice a2 nb2 cb2) bq (m * k4 + m + 1)]) ?_ (fun hS2_3 => ?_)
              · rintro ⟨lt0, ap0, _⟩
                refine qx_T [.ow ap0 3 1 (k4 + 1) (ints (List.replicate k4 0) ++ [.int .i64 0]), .ow t3 29 1 k4 (X3.map (·.1))] (by repeat (first | exact PickL.nil | (apply PickL.cons; rfl))) rfl (by repeat constructor) fun K1 hK1 => ?_
                (refine qf_pure tabOk rfl rfl rfl ?_)
                refine qf_mkS 29 [.slice (some ⟨gu3, 0, none⟩) m cu3] rfl (by kernel_rfl) rfl (fun lt1 => ?_)
                (refine qf_nil ?_)
                exact hK1 _ _ (hS2_3_7 ⟨lt0, ap0, lt1, ()⟩ _ _ ⟨rfl, rfl, rfl, rfl, rfl, rfl, rfl, rfl, rfl, rfl, rfl, rfl, rfl, rfl, rfl, rfl, trivial⟩ (by repeat constructor))
              refine qx_let (σ := Nat × Nat × Unit) (tZ6_284be98) (fun ⟨lt0, lt1, ()⟩ => [(8, .pointer (some ⟨bq, 0, none⟩)), (9, .pointer (some ⟨b9, 0, none⟩)), (13, .slice (some ⟨g13, 0, none⟩) sk c13), (17, .bool kn), (19, .pointer (some ⟨b19, 0, none⟩)), (20, .int .i64 ((by0 : Int) + 1)), (21, .pointer (some ⟨b21, 0, none⟩)), (22, .pointer (some ⟨b22, 0, none⟩)), (23, .pointer (some ⟨b23, 0, none⟩)), (24, .slice (some ⟨b24, 0, none⟩) sk sk), (163, .slice (some ⟨g13, 0, none⟩) sk c13), (164, .int .i64 sk), (165, .int .i64 k4), (31, .slice (some ⟨gu3, 0, none⟩) m cu3), (260, .slice (some ⟨lt0, 0, none⟩) 1 1), (265, .slice (some ⟨lt1, 0, none⟩) 1 1)]) (fun ⟨lt0, lt1, ()⟩ => [.ow d3 3 1 k4 (ints (List.replicate k4 0)), .pt lt0 [.int .i64 0] 3, .ow t3 29 1 k4 (X3.map (·.1)), .pt lt1 [.slice (some ⟨gu3, 0, none⟩) m cu3] 29, .pt b23 [d3, t3] 46, .pt b21 [C1, S1] 46, .ow C1 3 1 (k4 + 1) (ints (List.replicate k4 0) ++ [.int .i64 0]), .ow S1 29 1 (k4 + 1) (X1.map (·.1) ++ [.slice (some ⟨gu1, 0, none⟩) m cu1]), un (rowsO 3 X1), .pt b22 [C2, S2] 46, .ow C2 3 1 (k4 + 1) (ints (List.replicate k4 0) ++ [.int .i64 0]), .ow S2 29 1 (k4 + 1) (X2.map (·.1) ++ [.slice (some ⟨gu2, 0, none⟩) m cu2]), un (rowsO 3 X2), un (rowsO 3 X3), .ow (.slice (some ⟨gu1, 0, none⟩) m cu1) 3 1 m (ints (N.map (· + ((by0 : Int) + 1) * lo))), .ow (.slice (some ⟨gu2, 0, none⟩) m cu2) 3 1 m (ints (N.map (· + ((by0 : Int) + 1) * hi))), .ow (.slice (some ⟨gu3, 0, none⟩) m cu3) 3 1 m (ints (N.map (· + ((by0 : Int) + 1) * pj))), .pt b28 [.int .i64 lo, .int .i64 hi] 48, .pt b24 (ints J) 3, .ow (.slice ra m rc) 3 1 m (ints (List.replicate m 0)), .pt b19 (rulC (.slice ra m rc)) 43, .ow (.slice (some ⟨g15, 0, none⟩) sk c15) 3 1 sk (ints (chI F)), .ow (.slice (some ⟨g13, 0, none⟩) sk c13) 48 2 sk (spC PL), .pt b9 (lbC l (.slice va l.runs.length vc)) 28, dkP (.slice a2 nb2 cb2) bq (m * k4 + m + 1)]) ?_ (fun hS2_7 => ?_)
              · rintro ⟨lt0, lt1, _⟩
                refine qx_T [.ow d3 3 1 k4 (ints (List.replicate k4 0)), .pt lt0 [.int .i64 0] 3, .ow t3 29 1 k4 (X3.map (·.1)), .pt lt1 [.slice (some ⟨gu3, 0, none⟩) m cu3] 29] (by repeat (first | exact PickL.nil | (apply PickL.cons; rfl))) rfl (by repeat constructor) fun K1 hK1 => ?_
                (refine qf_pure tabOk rfl rfl rfl ?_; refine qf_loadBa tabOk rfl rfl rfl ?_)
                refine qf_append (q := 1) (news := [.int .i64 0]) slI rfl rfl rfl (fun v' => by repeat constructor) (fun w' hs => ⟨_, _, Blk.rdN (hs.blk (b := lt0) (by repeat constructor)) rfl⟩) (by simp [oneV]) (by omega) (by omega) (fun ap0 => ?_)
                (refine qf_nil ?_)
                exact hK1 _ _ (hS2_3_7 ⟨lt0, ap0, lt1, ()⟩ _ _ ⟨rfl, rfl, rfl, rfl, rfl, rfl, rfl, rfl, rfl, rfl, rfl, rfl, rfl, rfl, rfl, rfl, trivial⟩ (by repeat constructor))
              refine qx_let (σ := Nat × Unit) (tZ6_7e6ca41) (fun ⟨lt0, ()⟩ => [(8, .pointer (some ⟨bq, 0, none⟩)), (9, .pointer (some ⟨b9, 0, none⟩)), (13, .slice (some ⟨g13, 0, none⟩) sk c13), (17, .bool kn), (19, .pointer (some ⟨b19, 0, none⟩)), (20, .int .i64 ((by0 : Int) + 1)), (21, .pointer (some ⟨b21, 0, none⟩)), (22, .pointer (some ⟨b22, 0, none⟩)), (23, .pointer (some ⟨b23, 0, none⟩)), (24, .slice (some ⟨b24, 0, none⟩) sk sk), (163, .slice (some ⟨g13, 0, none⟩) sk c13), (164, .int .i64 sk), (165, .int .i64 k4), (31, .slice (some ⟨gu3, 0, none⟩) m cu3), (260, .slice (some ⟨lt0, 0, none⟩) 1 1)]) (fun ⟨lt0, ()⟩ => [.ow d3 3 1 k4 (ints (List.replicate k4 0)), .pt lt0 [.int .i64 0] 3, .ow t3 29 1 k4 (X3.map (·.1)), .pt b23 [d3, t3] 46, .pt b21 [C1, S1] 46, .ow C1 3 1 (k4 + 1) (ints (List.replicate k4 0) ++ [.int .i64 0]), .ow S1 29 1 (k4 + 1) (X1.map (·.1) ++ [.slice (some ⟨gu1, 0, none⟩) m cu1]), un (rowsO 3 X1), .pt b22 [C2, S2] 46, .ow C2 3 1 (k4 + 1) (ints (List.replicate k4 0) ++ [.int .i64 0]), .ow S2 29 1 (k4 + 1) (X2.map (·.1) ++ [.slice (some ⟨gu2, 0, none⟩) m cu2]), un (rowsO 3 X2), un (rowsO 3 X3), .ow (.slice (some ⟨gu1, 0, none⟩) m cu1) 3 1 m (ints (N.map (· + ((by0 : Int) + 1) * lo))), .ow (.slice (some ⟨gu2, 0, none⟩) m cu2) 3 1 m (ints (N.map (· + ((by0 : Int) + 1) * hi))), .ow (.slice (some ⟨gu3, 0, none⟩) m cu3) 3 1 m (ints (N.map (· + ((by0 : Int) + 1) * pj))), .pt b28 [.int .i64 lo, .int .i64 hi] 48, .pt b24 (ints J) 3, .ow (.slice ra m rc) 3 1 m (ints (List.replicate m 0)), .pt b19 (rulC (.slice ra m rc)) 43, .ow (.slice (some ⟨g15, 0, none⟩) sk c15) 3 1 sk (ints (chI F)), .ow (.slice (some ⟨g13, 0, none⟩) sk c13) 48 2 sk (spC PL), .pt b9 (lbC l (.slice va l.runs.length vc)) 28, dkP (.slice a2 nb2 cb2) bq (m * k4 + m + 1)]) ?_ (fun hS2 => ?_)
              · rintro ⟨lt0, _⟩
                refine qx_alt ?_ ?_
                · skip
                  refine qx_T [.ow d3 3 1 k4 (ints (List.replicate k4 0)), .pt lt0 [.int .i64 0] 3, .ow t3 29 1 k4 (X3.map (·.1))] (by repeat (first | exact PickL.nil | (apply PickL.cons; rfl))) rfl (by repeat constructor) fun K1 hK1 => ?_
                  (refine qf_pure tabOk rfl rfl rfl ?_; refine qf_loadBa tabOk rfl rfl rfl ?_)
                  refine qf_append (q := 1) (news := [.int .i64 0]) slI rfl rfl rfl (fun v' => by repeat constructor) (fun w' hs => ⟨_, _, Blk.rdN (hs.blk (b := lt0) (by repeat constructor)) rfl⟩) (by simp [oneV]) (by omega) (by omega) (fun ap0 => ?_)
                  (refine qf_nil ?_)
                  exact hK1 _ _ (hS2_3 ⟨lt0, ap0, ()⟩ _ _ ⟨rfl, rfl, rfl, rfl, rfl, rfl, rfl, rfl, rfl, rfl, rfl, rfl, rfl, rfl, rfl, trivial⟩ (by repeat constructor))
                · skip
                  refine qx_T [.ow d3 3 1 k4 (ints (List.replicate k4 0)), .pt lt0 [.int .i64 0] 3, .ow t3 29 1 k4 (X3.map (·.1))] (by repeat (first | exact PickL.nil | (apply PickL.cons; rfl))) rfl (by repeat constructor) fun K1 hK1 => ?_
                  (refine qf_pure tabOk rfl rfl rfl ?_)
                  refine qf_mkS 29 [.slice (some ⟨gu3, 0, none⟩) m cu3] rfl (by kernel_rfl) rfl (fun lt1 => ?_)
                  (refine qf_nil ?_)
                  exact hK1 _ _ (hS2_7 ⟨lt0, lt1, ()⟩ _ _ ⟨rfl, rfl, rfl, rfl, rfl, rfl, rfl, rfl, rfl, rfl, rfl, rfl, rfl, rfl, rfl, rfl, trivial⟩ (by repeat constructor))
              refine qx_let (σ := Nat × Unit) (tZ6_ae0aab7) (fun ⟨lt1, ()⟩ => [(8, .pointer (some ⟨bq, 0, none⟩)), (9, .pointer (some ⟨b9, 0, none⟩)), (13, .slice (some ⟨g13, 0, none⟩) sk c13), (17, .bool kn), (19, .pointer (some ⟨b19, 0, none⟩)), (20, .int .i64 ((by0 : Int) + 1)), (21, .pointer (some ⟨b21, 0, none⟩)), (22, .pointer (some ⟨b22, 0, none⟩)), (23, .pointer (some ⟨b23, 0, none⟩)), (24, .slice (some ⟨b24, 0, none⟩) sk sk), (163, .slice (some ⟨g13, 0, none⟩) sk c13), (164, .int .i64 sk), (165, .int .i64 k4), (31, .slice (some ⟨gu3, 0, none⟩) m cu3), (265, .slice (some ⟨lt1, 0, none⟩) 1 1)]) (fun ⟨lt1, ()⟩ => [.ow d3 3 1 k4 (ints (List.replicate k4 0)), .ow t3 29 1 k4 (X3.map (·.1)), .pt lt1 [.slice (some ⟨gu3, 0, none⟩) m cu3] 29, .pt b23 [d3, t3] 46, .pt b21 [C1, S1] 46, .ow C1 3 1 (k4 + 1) (ints (List.replicate k4 0) ++ [.int .i64 0]), .ow S1 29 1 (k4 + 1) (X1.map (·.1) ++ [.slice (some ⟨gu1, 0, none⟩) m cu1]), un (rowsO 3 X1), .pt b22 [C2, S2] 46, .ow C2 3 1 (k4 + 1) (ints (List.replicate k4 0) ++ [.int .i64 0]), .ow S2 29 1 (k4 + 1) (X2.map (·.1) ++ [.slice (some ⟨gu2, 0, none⟩) m cu2]), un (rowsO 3 X2), un (rowsO 3 X3), .ow (.slice (some ⟨gu1, 0, none⟩) m cu1) 3 1 m (ints (N.map (· + ((by0 : Int) + 1) * lo))), .ow (.slice (some ⟨gu2, 0, none⟩) m cu2) 3 1 m (ints (N.map (· + ((by0 : Int) + 1) * hi))), .ow (.slice (some ⟨gu3, 0, none⟩) m cu3) 3 1 m (ints (N.map (· + ((by0 : Int) + 1) * pj))), .pt b28 [.int .i64 lo, .int .i64 hi] 48, .pt b24 (ints J) 3, .ow (.slice ra m rc) 3 1 m (ints (List.replicate m 0)), .pt b19 (rulC (.slice ra m rc)) 43, .ow (.slice (some ⟨g15, 0, none⟩) sk c15) 3 1 sk (ints (chI F)), .ow (.slice (some ⟨g13, 0, none⟩) sk c13) 48 2 sk (spC PL), .pt b9 (lbC l (.slice va l.runs.length vc)) 28, dkP (.slice a2 nb2 cb2) bq (m * k4 + m + 1)]) ?_ (fun hS7 => ?_)
              · rintro ⟨lt1, _⟩
                refine qx_T [.ow d3 3 1 k4 (ints (List.replicate k4 0)), .ow t3 29 1 k4 (X3.map (·.1)), .pt lt1 [.slice (some ⟨gu3, 0, none⟩) m cu3] 29] (by repeat (first | exact PickL.nil | (apply PickL.cons; rfl))) rfl (by repeat constructor) fun K1 hK1 => ?_
                skip
                refine qf_mkS 3 [.int .i64 0] rfl (by kernel_rfl) rfl (fun lt0 => ?_)
                (refine qf_nil ?_)
                exact hK1 _ _ (hS2_7 ⟨lt0, lt1, ()⟩ _ _ ⟨rfl, rfl, rfl, rfl, rfl, rfl, rfl, rfl, rfl, rfl, rfl, rfl, rfl, rfl, rfl, rfl, trivial⟩ (by repeat constructor))
              refine qx_alt ?_ ?_
              · skip
                refine qx_T [.ow d3 3 1 k4 (ints (List.replicate k4 0)), .ow t3 29 1 k4 (X3.map (·.1))] (by repeat (first | exact PickL.nil | (apply PickL.cons; rfl))) rfl (by repeat constructor) fun K1 hK1 => ?_
                skip
                refine qf_mkS 3 [.int .i64 0] rfl (by kernel_rfl) rfl (fun lt0 => ?_)
                (refine qf_nil ?_)
                exact hK1 _ _ (hS2 ⟨lt0, ()⟩ _ _ ⟨rfl, rfl, rfl, rfl, rfl, rfl, rfl, rfl, rfl, rfl, rfl, rfl, rfl, rfl, rfl, trivial⟩ (by repeat constructor))
              · skip
                refine qx_T [.ow d3 3 1 k4 (ints (List.replicate k4 0)), .ow t3 29 1 k4 (X3.map (·.1))] (by repeat (first | exact PickL.nil | (apply PickL.cons; rfl))) rfl (by repeat constructor) fun K1 hK1 => ?_
                (refine qf_pure tabOk rfl rfl rfl ?_)
                refine qf_mkS 29 [.slice (some ⟨gu3, 0, none⟩) m cu3] rfl (by kernel_rfl) rfl (fun lt1 => ?_)
                (refine qf_nil ?_)
                exact hK1 _ _ (hS7 ⟨lt1, ()⟩ _ _ ⟨rfl, rfl, rfl, rfl, rfl, rfl, rfl, rfl, rfl, rfl, rfl, rfl, rfl, rfl, rfl, trivial⟩ (by repeat constructor))
            rintro ⟨C3, S3⟩
            dsimp only
            have hm1' : ∀ f : Int → Int, (N.map f).length = m := fun f => by rw [List.length_map, hN]
            refine q_conv (H' := [un (rowsO 3 (X1 ++ [(.slice (some ⟨gu1, 0, none⟩) m cu1, N.map (· + ((by0 : Int) + 1) * lo))])), un (rowsO 3 (X2 ++ [(.slice (some ⟨gu2, 0, none⟩) m cu2, N.map (· + ((by0 : Int) + 1) * hi))])), un (rowsO 3 (X3 ++ [(.slice (some ⟨gu3, 0, none⟩) m cu3, N.map (· + ((by0 : Int) + 1) * pj))])), .pt b21 [C1, S1] 46, .ow C1 3 1 (k4 + 1) (ints (List.replicate k4 0) ++ [.int .i64 0]), .ow S1 29 1 (k4 + 1) (X1.map (·.1) ++ [.slice (some ⟨gu1, 0, none⟩) m cu1]), .pt b22 [C2, S2] 46, .ow C2 3 1 (k4 + 1) (ints (List.replicate k4 0) ++ [.int .i64 0]), .ow S2 29 1 (k4 + 1) (X2.map (·.1) ++ [.slice (some ⟨gu2, 0, none⟩) m cu2]), .pt b23 [C3, S3] 46, .ow C3 3 1 (k4 + 1) (ints (List.replicate k4 0) ++ [.int .i64 0]), .ow S3 29 1 (k4 + 1) (X3.map (·.1) ++ [.slice (some ⟨gu3, 0, none⟩) m cu3]), .pt b24 (ints J) 3, .ow (.slice ra m rc) 3 1 m (ints (List.replicate m 0)), .pt b19 (rulC (.slice ra m rc)) 43, .ow (.slice (some ⟨g15, 0, none⟩) sk c15) 3 1 sk (ints (chI F)), .ow (.slice (some ⟨g13, 0, none⟩) sk c13) 48 2 sk (spC PL), .pt b9 (lbC l (.slice va l.runs.length vc)) 28, dkP (.slice a2 nb2 cb2) bq (m * k4 + m + 1)]) (fun w' hs => by
              have h1 := rows_addS (t := 3) (xs := X1) (u := .slice (some ⟨gu1, 0, none⟩) m cu1) (r := N.map (· + ((by0 : Int) + 1) * lo)) (hm1' _) hs (Sp.cons (by repeat constructor) (Sp.cons (by repeat constructor) (Sp.refl _)))
              have h2 := rows_addS (t := 3) (xs := X2) (u := .slice (some ⟨gu2, 0, none⟩) m cu2) (r := N.map (· + ((by0 : Int) + 1) * hi)) (hm1' _) h1 (Sp.cons (by repeat constructor) (Sp.cons (by repeat constructor) (Sp.refl _)))
              have h3 := rows_addS (t := 3) (xs := X3) (u := .slice (some ⟨gu3, 0, none⟩) m cu3) (r := N.map (· + ((by0 : Int) + 1) * pj)) (hm1' _) h2 (Sp.cons (by repeat constructor) (Sp.cons (by repeat constructor) (Sp.refl _)))
              exact h3.sp (by repeat constructor)) ?_
            (refine q_blk (q_region (ql_ar tabOk rfl rfl rfl rfl (by omega) (by omega) (ql_pure tabOk rfl rfl (q_nil ?_)))))
            have hI2 := sqI_add (e1 := C1) (f1 := S1) (e2 := C2) (f2 := S2) (e3 := C3) (f3 := S3) (u1 := .slice (some ⟨gu1, 0, none⟩) m cu1) (u2 := .slice (some ⟨gu2, 0, none⟩) m cu2) (u3 := .slice (some ⟨gu3, 0, none⟩) m cu3) hI (r1 := N.map (· + ((by0 : Int) + 1) * lo)) (r2 := N.map (· + ((by0 : Int) + 1) * hi)) (r3 := N.map (· + ((by0 : Int) + 1) * pj)) ⟨N, hN, hNb, by rw [List.getD_eq_getElem?_getD, List.getElem?_eq_getElem hkP, hlh]; rfl, by rw [List.getD_eq_getElem?_getD, List.getElem?_eq_getElem hkP, hlh]; rfl, by rw [List.getD_eq_getElem?_getD, List.getElem?_eq_getElem hkJ, hpj]; rfl⟩
            have hz : ints (List.replicate (k4 + 1) 0) = ints (List.replicate k4 0) ++ [.int .i64 0] := by rw [List.replicate_succ']; simp [ints]
            have hmp : ∀ (X : List (Value × List Int)) (u : Value) (r : List Int), (X ++ [(u, r)]).map (·.1) = X.map (·.1) ++ [u] := fun X u r => by simp
            exact hK4 ⟨k4 + 1, C1, S1, C2, S2, C3, S3, _, _, _⟩ _ _ ⟨by simp only; omega, hI2⟩ (by simp only; omega) ⟨rfl, rfl, rfl, rfl, rfl, rfl, rfl, rfl, rfl, rfl, rfl, rfl, rfl, trivial⟩ (by dsimp only; rw [hz, hmp, hmp, hmp, Nat.mul_succ]; repeat constructor)
        · obtain rfl : sk = k4 := by omega
          clear hc hK4 hk4
          have hT := sqI_T (sk := sk) hI rfl hP0 hJl (by omega) (by omega) hPF
          dsimp only at hT
          obtain ⟨T1, hT1⟩ : ∃ T, X1.map (·.2) = T := ⟨_, rfl⟩
          obtain ⟨T2, hT2⟩ : ∃ T, X2.map (·.2) = T := ⟨_, rfl⟩
          obtain ⟨T3, hT3⟩ : ∃ T, X3.map (·.2) = T := ⟨_, rfl⟩
          rw [hT1, hT2, hT3] at hT
          have hle1 := bst_le (e := 2) (n := sk) (m := m) hT.le
          have hle2 := bst_le (e := 2) (n := sk) (m := m) hT.ge
          have heq : kn = true → (bstV T1 2 sk m).2 = (bstV T2 2 sk m).2 := fun h => by rw [hT.eq h]
          have he : ∀ T, bsE T sk m = 0 := fun T => by
            unfold bsE
            rw [if_neg]
            have := bst_some T (n := sk) (m := m) (by omega) (by omega)
            simpa using this
          have hch : ∀ (w' : World) (c t : Value) (X : List (Value × List Int)) (T : List (List Int)) (H : List Ck), X.map (·.2) = T → Sat w M0 H w' → .ow c 3 1 sk (ints (List.replicate sk 0)) ∈ H → .ow t 29 1 sk (X.map (·.1)) ∈ H → un (rowsO 3 X) ∈ H → .ow (.slice ra m rc) 3 1 m (ints (List.replicate m 0)) ∈ H → T.length = sk → (∀ r ∈ T, r.length = m ∧ ∀ x ∈ r, 0 ≤ x ∧ x ≤ 100000) → ChO w' w'.heap.size c t (.slice ra m rc) sk m T := fun w' c t X T H e hs h1 h2 h3 h4 h5 h6 => ⟨hs.rdI h1 (by rw [List.length_replicate]), hs.rdI h4 (by rw [List.length_replicate]), e ▸ rowsO_rd (hs.mem h3) (hs.mem h2), h5, fun r hr => (h6 r hr).1, fun r hr => (h6 r hr).2, by omega, by omega, by omega⟩
          (refine q_exit _ rfl (q_seq (q_region ?_)); (iterate 2 refine ql_loadABa tabOk rfl rfl rfl ?_))
          rw [show (List.take 2 (List.drop 0 [d1, t1])) = sqC d1 t1 from rfl, show (List.take 6 (List.drop 0 (rulC (.slice ra m rc)))) = rulC (.slice ra m rc) from rfl]
          refine ql_call (β := Value) (ψ := fun v x => x = .tuple #[v, .int .i64 (bstV T1 2 sk m).2, .int .i64 (bsE T1 sk m)]) (L' := fun _ => []) tabOk [] _ M0 rfl rfl rfl rfl (Sp.refl _) (fun _ h => h.elim) (fun w' hs => best_ca w' w'.heap.size d1 t1 (.slice ra m rc) sk m T1 (hch w' d1 t1 X1 T1 _ hT1 hs (by repeat constructor) (by repeat constructor) (by repeat constructor) (by repeat constructor) hT.len.1 hT.b1) (by omega) (Nat.le_refl _)) ?_
          rintro v1 _ rfl
          dsimp only [List.cons_append, List.nil_append]
          (refine ql_pure tabOk rfl rfl ?_; (iterate 3 refine ql_ext tabOk rfl rfl rfl ?_); (iterate 3 refine ql_pure tabOk rfl rfl ?_); refine q_nil (q_seq (q_region ?_)); (iterate 2 refine ql_loadABa tabOk rfl rfl rfl ?_))
          rw [show (List.take 2 (List.drop 0 [d2, t2])) = sqC d2 t2 from rfl, show (List.take 6 (List.drop 0 (rulC (.slice ra m rc)))) = rulC (.slice ra m rc) from rfl]
          refine ql_call (β := Value) (ψ := fun v x => x = .tuple #[v, .int .i64 (bstV T2 2 sk m).2, .int .i64 (bsE T2 sk m)]) (L' := fun _ => []) tabOk [] _ M0 rfl rfl rfl rfl (Sp.refl _) (fun _ h => h.elim) (fun w' hs => best_ca w' w'.heap.size d2 t2 (.slice ra m rc) sk m T2 (hch w' d2 t2 X2 T2 _ hT2 hs (by repeat constructor) (by repeat constructor) (by repeat constructor) (by repeat constructor) hT.len.2.1 hT.b2) (by omega) (Nat.le_refl _)) ?_
          rintro v2 _ rfl
          dsimp only [List.cons_append, List.nil_append]
          (refine ql_pure tabOk rfl rfl ?_; (iterate 3 refine ql_ext tabOk rfl rfl rfl ?_); (iterate 3 refine ql_pure tabOk rfl rfl ?_); refine q_nil (q_seq (q_region ?_)); (iterate 2 refine ql_loadABa tabOk rfl rfl rfl ?_))
          rw [show (List.take 2 (List.drop 0 [d3, t3])) = sqC d3 t3 from rfl, show (List.take 6 (List.drop 0 (rulC (.slice ra m rc)))) = rulC (.slice ra m rc) from rfl]
          refine ql_call (β := Value) (ψ := fun v x => x = .tuple #[v, .int .i64 (bstV T3 2 sk m).2, .int .i64 (bsE T3 sk m)]) (L' := fun _ => []) tabOk [] _ M0 rfl rfl rfl rfl (Sp.refl _) (fun _ h => h.elim) (fun w' hs => best_ca w' w'.heap.size d3 t3 (.slice ra m rc) sk m T3 (hch w' d3 t3 X3 T3 _ hT3 hs (by repeat constructor) (by repeat constructor) (by repeat constructor) (by repeat constructor) hT.len.2.2 hT.b3) (by omega) (Nat.le_refl _)) ?_
          rintro v3 _ rfl
          dsimp only [List.cons_append, List.nil_append]
          rw [he, he, he]
          generalize (bstV T1 2 sk m).2 = y1 at *
          generalize (bstV T2 2 sk m).2 = y2 at *
          generalize (bstV T3 2 sk m).2 = y3 at *
          cases kn with
          | true =>
            have heq := heq rfl
            (refine ql_pure tabOk rfl rfl ?_; (iterate 3 refine ql_ext tabOk rfl rfl rfl ?_); (iterate 3 refine ql_pure tabOk rfl rfl ?_); refine q_nil (q_seq (q_seq (q_region (ql_pure tabOk rfl rfl (ql_pure tabOk rfl rfl (ql_neqF tabOk rfl rfl rfl (by omega) (ql_pure tabOk rfl rfl (ql_gyes rfl (ql_pure tabOk rfl rfl (ql_gyes rfl (ql_pure tabOk rfl rfl ?_))))))))))); refine ql_gyes rfl (ql_neqF tabOk rfl rfl rfl (by omega) (ql_pure tabOk rfl rfl (ql_pure tabOk rfl rfl (ql_gyes rfl (ql_pure tabOk rfl rfl (ql_gyes rfl (ql_neqF tabOk rfl rfl rfl (by omega) (ql_gyes rfl (ql_pure tabOk rfl rfl ?_))))))))); (iterate 3 refine ql_gno rfl rfl rfl ?_); (iterate 7 refine ql_gnone rfl rfl ?_); refine ql_gno rfl rfl rfl (ql_gyes rfl (ql_pure tabOk rfl rfl (ql_pure tabOk rfl rfl (q_nil (q_cond_false rfl (q_skip (q_seq (q_region (ql_pure tabOk rfl rfl (ql_pure tabOk rfl rfl (ql_leqT tabOk rfl rfl rfl (by omega) ?_))))))))))); refine ql_pure tabOk rfl rfl (ql_gyes rfl (ql_pure tabOk rfl rfl (ql_gyes rfl (ql_pure tabOk rfl rfl (ql_gyes rfl (ql_leqT tabOk rfl rfl rfl (by omega) (ql_pure tabOk rfl rfl (ql_pure tabOk rfl rfl (ql_gyes rfl (ql_pure tabOk rfl rfl (ql_gyes rfl ?_))))))))))); refine ql_pure tabOk rfl rfl (ql_gyes rfl (ql_pure tabOk rfl rfl (ql_gyes rfl (ql_pure tabOk rfl rfl (ql_gyes rfl (ql_pure tabOk rfl rfl (ql_gyes rfl (ql_eqlT tabOk rfl rfl rfl (by omega) (ql_gyes rfl ?_))))))))); (iterate 3 refine ql_pure tabOk rfl rfl ?_); refine q_nil (q_ret ?_))
            refine q_fin tabOk rfl (by repeat constructor) fun w hs => ?_
            exact ⟨rfl, hs.chg0⟩
          | false =>
            (refine ql_pure tabOk rfl rfl ?_; (iterate 3 refine ql_ext tabOk rfl rfl rfl ?_); (iterate 3 refine ql_pure tabOk rfl rfl ?_); refine q_nil (q_seq (q_seq (q_region (ql_pure tabOk rfl rfl (ql_pure tabOk rfl rfl (ql_neqF tabOk rfl rfl rfl (by omega) (ql_pure tabOk rfl rfl (ql_gyes rfl (ql_pure tabOk rfl rfl (ql_gyes rfl (ql_pure tabOk rfl rfl ?_))))))))))); refine ql_gyes rfl (ql_neqF tabOk rfl rfl rfl (by omega) (ql_pure tabOk rfl rfl (ql_pure tabOk rfl rfl (ql_gyes rfl (ql_pure tabOk rfl rfl (ql_gyes rfl (ql_neqF tabOk rfl rfl rfl (by omega) (ql_gyes rfl (ql_pure tabOk rfl rfl ?_))))))))); (iterate 3 refine ql_gno rfl rfl rfl ?_); (iterate 7 refine ql_gnone rfl rfl ?_); refine ql_gno rfl rfl rfl (ql_gyes rfl (ql_pure tabOk rfl rfl (ql_pure tabOk rfl rfl (q_nil (q_cond_false rfl (q_skip (q_seq (q_region (ql_pure tabOk rfl rfl (ql_pure tabOk rfl rfl (ql_leqT tabOk rfl rfl rfl (by omega) ?_))))))))))); refine ql_pure tabOk rfl rfl (ql_gyes rfl (ql_pure tabOk rfl rfl (ql_gyes rfl (ql_pure tabOk rfl rfl (ql_gyes rfl (ql_leqT tabOk rfl rfl rfl (by omega) (ql_pure tabOk rfl rfl (ql_pure tabOk rfl rfl (ql_gyes rfl (ql_pure tabOk rfl rfl (ql_gyes rfl ?_))))))))))); refine ql_pure tabOk rfl rfl (ql_gyes rfl (ql_pure tabOk rfl rfl ?_)); (iterate 3 refine ql_gno rfl rfl rfl ?_); refine ql_gyes rfl ?_; (iterate 3 refine ql_pure tabOk rfl rfl ?_); refine q_nil (q_ret ?_))
            refine q_fin tabOk rfl (by repeat constructor) fun w hs => ?_
            exact ⟨rfl, hs.chg0⟩
end Go.Proofs.Ytllldihodgdcjaa
