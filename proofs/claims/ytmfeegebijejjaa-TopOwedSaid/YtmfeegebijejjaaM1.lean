/- The plain law: least sums from place to place. -/
import Derived.Test.YtmfeegebijejjaaW5
namespace Go.Proofs.Ytmfeegebijejjaa
open Go Go.Eng

abbrev Mat := Nat → Nat → Int
def upm (D : Mat) (a b : Nat) (x : Int) : Mat := fun i j => if i = a ∧ j = b then x else D i j
def matL (D : Mat) : List Value := (List.range 81).map fun i => .int .i64 (D (i / 9) (i % 9))
theorem matL_length (D : Mat) : (matL D).length = 81 := by simp [matL]
theorem matL_get (D : Mat) (a b : Nat) (ha : a < 9) (hb : b < 9) : (matL D)[0 + a * 9 + b * 1]? = some (.int .i64 (D a b)) := by
  have h : 0 + a * 9 + b * 1 < 81 := by omega
  simp only [matL, List.getElem?_map, List.getElem?_range h, Option.map_some]
  rw [show (0 + a * 9 + b * 1) / 9 = a from by omega, show (0 + a * 9 + b * 1) % 9 = b from by omega]
theorem matL_set (D : Mat) (a b : Nat) (x : Int) (_ha : a < 9) (hb : b < 9) : (matL D).set (0 + a * 9 + b * 1) (.int .i64 x) = matL (upm D a b x) := by
  refine List.ext_getElem? fun i => ?_
  by_cases hi : i < 81
  · simp only [matL, List.getElem?_set, List.getElem?_map, List.getElem?_range hi, Option.map_some, List.length_map, List.length_range, upm]
    by_cases h : 0 + a * 9 + b * 1 = i
    · subst h
      rw [if_pos rfl, if_pos hi, if_pos ⟨by omega, by omega⟩]
    · rw [if_neg h, if_neg (by omega)]
  · rw [List.getElem?_eq_none (by simp [matL]; omega), List.getElem?_eq_none (by simp [matL]; omega)]
theorem matL_one (D : Mat) : ∀ u ∈ matL D, oneV u = true := by
  intro u hu
  obtain ⟨i, _, rfl⟩ := List.mem_map.1 hu
  rfl

def initStep (a : Nat) (D : Mat) (b : Nat) : Mat := if a ≠ b then upm D a b 1048576 else D
def initRow (D : Mat) (a : Nat) : Mat := (List.range 9).foldl (initStep a) D
def initM : Mat := (List.range 9).foldl initRow (fun _ _ => 0)
def relax (D : Mat) (k : Lk) : Mat := upm D k.fr.toNat k.to.toNat (min (D k.fr.toNat k.to.toNat) k.c)
def fwB (k a : Nat) (D : Mat) (b : Nat) : Mat := upm D a b (min (D a b) (IntKind.i64.wrap (D a k + D k b)))
def fwA (n k : Nat) (D : Mat) (a : Nat) : Mat := (List.range (n + 1)).foldl (fwB k a) D
def fwK (n : Nat) (D : Mat) (k : Nat) : Mat := (List.range (n + 1)).foldl (fwA n k) D
def fw (n : Nat) (LL : List Lk) : Mat := (List.range (n + 1)).foldl (fwK n) (LL.foldl relax initM)

theorem foldl_inv {α β : Type} {P : α → Prop} {f : α → β → α} : ∀ (l : List β) (x : α), P x → (∀ x b, b ∈ l → P x → P (f x b)) → P (l.foldl f x)
  | [], _, h, _ => h
  | b :: l, x, h, hs => foldl_inv l (f x b) (hs x b List.mem_cons_self h) (fun x b hb => hs x b (List.mem_cons_of_mem _ hb))
theorem range_inv {α : Type} {f : α → Nat → α} (P : Nat → α → Prop) (x : α) (h0 : P 0 x) : ∀ (n : Nat), (∀ i x, i < n → P i x → P (i + 1) (f x i)) → P n ((List.range n).foldl f x)
  | 0, _ => h0
  | n + 1, hs => by
    rw [List.range_succ, List.foldl_append]
    exact hs n _ (by omega) (range_inv P x h0 n (fun i x hi => hs i x (by omega)))
theorem range_fold_succ {α : Type} {f : α → Nat → α} (x : α) (n : Nat) : (List.range (n + 1)).foldl f x = f ((List.range n).foldl f x) n := by
  rw [List.range_succ, List.foldl_append]
  rfl

theorem initRow_at (a : Nat) (D : Mat) (i j : Nat) (hj : j < 9) : initRow D a i j = if i = a ∧ i ≠ j then 1048576 else D i j := by
  have h := range_inv (f := initStep a) (fun m E => ∀ i j, E i j = if i = a ∧ i ≠ j ∧ j < m then 1048576 else D i j) D (fun i j => by simp) 9 (fun m E hm hE i j => by
    unfold initStep
    split
    · rename_i hne
      simp only [upm, hE]
      by_cases h1 : i = a ∧ j = m
      · obtain ⟨rfl, rfl⟩ := h1
        rw [if_pos ⟨rfl, rfl⟩, if_pos ⟨rfl, hne, by omega⟩]
      · rw [if_neg h1]
        by_cases h2 : i = a ∧ i ≠ j ∧ j < m
        · rw [if_pos h2, if_pos ⟨h2.1, h2.2.1, by omega⟩]
        · rw [if_neg h2, if_neg (by rintro ⟨h3, h4, h5⟩; exact h2 ⟨h3, h4, by have : j ≠ m := fun e => h1 ⟨h3, e⟩; omega⟩)]
    · rename_i hne
      have hne : a = m := by omega
      subst hne
      rw [hE]
      by_cases h2 : i = a ∧ i ≠ j ∧ j < a
      · rw [if_pos h2, if_pos ⟨h2.1, h2.2.1, by omega⟩]
      · rw [if_neg h2, if_neg (by rintro ⟨h3, h4, h5⟩; exact h2 ⟨h3, h4, by omega⟩)])
  show (List.range 9).foldl (initStep a) D i j = _
  rw [h]
  by_cases h1 : i = a ∧ i ≠ j
  · rw [if_pos h1, if_pos ⟨h1.1, h1.2, hj⟩]
  · rw [if_neg h1, if_neg (fun h2 => h1 ⟨h2.1, h2.2.1⟩)]

theorem initM_at (i j : Nat) (hi : i < 9) (hj : j < 9) : initM i j = if i = j then 0 else 1048576 := by
  have h := range_inv (f := initRow) (fun m E => ∀ i j, j < 9 → E i j = if i < m ∧ i ≠ j then 1048576 else 0) (fun _ _ => 0) (fun i j _ => by simp) 9 (fun m E hm hE i j hj => by
    rw [initRow_at m E i j hj, hE i j hj]
    by_cases h1 : i = m ∧ i ≠ j
    · rw [if_pos h1, if_pos ⟨by omega, h1.2⟩]
    · rw [if_neg h1]
      by_cases h2 : i < m ∧ i ≠ j
      · rw [if_pos h2, if_pos ⟨by omega, h2.2⟩]
      · rw [if_neg h2, if_neg (by omega)])
  show (List.range 9).foldl initRow (fun _ _ => 0) i j = _
  rw [h i j hj]
  by_cases h1 : i = j
  · rw [if_pos h1, if_neg (by omega)]
  · rw [if_neg h1, if_pos ⟨hi, h1⟩]

/-- Links between the places from 0 to n, of small numbers. -/
def LkOk (n : Nat) (LL : List Lk) : Prop := ∀ k ∈ LL, 0 ≤ k.fr ∧ k.fr ≤ n ∧ 0 ≤ k.to ∧ k.to ≤ n ∧ -100 ≤ k.c ∧ k.c ≤ 100

/-- A potential. -/
def Pot (n : Nat) (LL : List Lk) (p : Nat → Int) : Prop := (∀ i, i ≤ n → 0 ≤ p i ∧ p i ≤ 1000) ∧ ∀ k ∈ LL, p k.to.toNat - p k.fr.toNat ≤ k.c

theorem fw_pot (n : Nat) (hn : n ≤ 8) (LL : List Lk) (p : Nat → Int) (hL : LkOk n LL) (hp : Pot n LL p) : ∀ a, a ≤ n → 0 ≤ fw n LL a a := by
  let I : Mat → Prop := fun D => ∀ i j, i ≤ n → j ≤ n → p j - p i ≤ D i j ∧ D i j ≤ 1048576
  have h0 : I initM := fun i j hi hj => by
    rw [initM_at i j (by omega) (by omega)]
    have := hp.1 i hi
    have := hp.1 j hj
    split
    · rename_i e; subst e; omega
    · omega
  have h1 : I (LL.foldl relax initM) := foldl_inv LL initM h0 (fun D k hk hD i j hi hj => by
    have hk' := hL k hk
    have hc := hp.2 k hk
    simp only [relax, upm]
    have h2 := hD i j hi hj
    split
    · rename_i e
      obtain ⟨rfl, rfl⟩ := e
      omega
    · exact h2)
  have h2 : I (fw n LL) := foldl_inv _ _ h1 (fun D k hk hD => foldl_inv _ _ hD (fun D a ha hD => foldl_inv _ _ hD (fun D b hb hD i j hi hj => by
    have hk := List.mem_range.1 hk
    have ha := List.mem_range.1 ha
    have hb := List.mem_range.1 hb
    have h3 := hD a k (by omega) (by omega)
    have h4 := hD k b (by omega) (by omega)
    have h5 := hp.1 a (by omega)
    have h6 := hp.1 b (by omega)
    have h7 := hp.1 k (by omega)
    have h8 := hD i j hi hj
    simp only [fwB, upm]
    split
    · rename_i e
      obtain ⟨rfl, rfl⟩ := e
      rw [w64 (by omega) (by omega)]
      omega
    · exact h8)))
  intro a ha
  have := (h2 a a ha ha).1
  omega

/-- Two links that lead there and back and count less than 0. -/
def Neg2 (LL : List Lk) : Prop := ∃ k1 ∈ LL, ∃ k2 ∈ LL, k1.fr = k2.to ∧ k1.to = k2.fr ∧ k1.c + k2.c < 0

set_option maxHeartbeats 1000000 in
theorem fw_neg (n : Nat) (hn : n ≤ 8) (LL : List Lk) (hL : LkOk n LL) (hneg : Neg2 LL) : ∃ a, a ≤ n ∧ fw n LL a a < 0 := by
  obtain ⟨k1, hk1, k2, hk2, e1, e2, hs⟩ := hneg
  have o1 := hL k1 hk1
  generalize hu : k1.fr.toNat = u
  generalize hv : k1.to.toNat = v
  have hun : u ≤ n := by omega
  have hvn : v ≤ n := by omega
  -- links
  have hdown : ∀ (D : Mat) (k : Lk) i j, relax D k i j ≤ D i j := fun D k i j => by
    simp only [relax, upm]
    split
    · rename_i e; obtain ⟨rfl, rfl⟩ := e; omega
    · omega
  have hrel : ∀ (l : List Lk) (D : Mat) (k : Lk), k ∈ l → (l.foldl relax D) k.fr.toNat k.to.toNat ≤ k.c := by
    intro l
    induction l with
    | nil => intro D k hk; cases hk
    | cons x l ih =>
      intro D k hk
      rcases List.mem_cons.1 hk with rfl | hk
      · refine Int.le_trans ?_ (show relax D k k.fr.toNat k.to.toNat ≤ k.c by simp only [relax, upm, and_self, if_true]; omega)
        exact foldl_inv (P := fun E => E k.fr.toNat k.to.toNat ≤ relax D k k.fr.toNat k.to.toNat) l _ (Int.le_refl _) (fun E x _ hE => Int.le_trans (hdown E x _ _) hE)
      · exact ih _ k hk
  have hb0 : ∀ i j, i ≤ n → j ≤ n → -100 ≤ (LL.foldl relax initM) i j ∧ (LL.foldl relax initM) i j ≤ 1048576 :=
    foldl_inv (P := fun D => ∀ i j, i ≤ n → j ≤ n → -100 ≤ D i j ∧ D i j ≤ 1048576) LL initM (fun i j hi hj => by rw [initM_at i j (by omega) (by omega)]; split <;> omega) (fun D k hk hD i j hi hj => by
      have hk' := hL k hk
      have h2 := hD i j hi hj
      simp only [relax, upm]
      split
      · rename_i e; obtain ⟨rfl, rfl⟩ := e; omega
      · exact h2)
  have huv : (LL.foldl relax initM) u v ≤ k1.c := by rw [← hu, ← hv]; exact hrel LL initM k1 hk1
  have hvu : (LL.foldl relax initM) v u ≤ k2.c := by rw [← hu, ← hv, e1, e2]; exact hrel LL initM k2 hk2
  have key := range_inv (f := fwK n) (fun k D => (∀ i j, i ≤ n → j ≤ n → -(100 * 6 ^ k : Int) ≤ D i j ∧ D i j ≤ 1048576) ∧ D u v ≤ k1.c ∧ D v u ≤ k2.c ∧ (v < k → D u u < 0)) (LL.foldl relax initM)
    ⟨by simpa using hb0, huv, hvu, by omega⟩ (n + 1) (fun k D hk hD => by
      obtain ⟨hB, h1, h2, h3⟩ := hD
      have hpow : (100 * 6 ^ (k + 1) : Int) = 6 * (100 * 6 ^ k) := by rw [Int.pow_succ]; omega
      have hsmall : (100 * 6 ^ k : Int) ≤ 167961600 := by
        have : (6 : Int) ^ k ≤ 6 ^ 8 := by exact_mod_cast (Nat.pow_le_pow_right (by omega) (by omega) : (6 : Nat) ^ k ≤ 6 ^ 8)
        have h8 : (6 : Int) ^ 8 = 1679616 := by rfl
        omega
      have hpos : (0 : Int) ≤ 100 * 6 ^ k := by
        have : (0 : Int) ≤ 6 ^ k := Int.pow_nonneg (by omega)
        omega
      rw [hpow]
      generalize (100 * 6 ^ k : Int) = B at hB hsmall hpos
      have hA := range_inv (f := fwA n k) (fun a D => (∀ i j, i ≤ n → j ≤ n → (¬ (i < a) → -B ≤ D i j) ∧ (i = k → j = k → -(2 * B) ≤ D i j) ∧ (i = k ∨ j = k → -(3 * B) ≤ D i j) ∧ -(6 * B) ≤ D i j ∧ D i j ≤ 1048576) ∧ D u v ≤ k1.c ∧ D v u ≤ k2.c ∧ (v < k ∨ (v = k ∧ u < a) → D u u < 0)) D
        ⟨fun i j hi hj => by have := hB i j hi hj; omega, h1, h2, by omega⟩ (n + 1) (fun a D ha hD => by
          obtain ⟨hB, h1, h2, h3⟩ := hD
          have hC := range_inv (f := fwB k a) (fun b D => (∀ i j, i ≤ n → j ≤ n → (¬ (i < a ∨ (i = a ∧ j < b)) → -B ≤ D i j) ∧ (i = k → j = k → -(2 * B) ≤ D i j) ∧ (i = k ∨ j = k → -(3 * B) ≤ D i j) ∧ -(6 * B) ≤ D i j ∧ D i j ≤ 1048576) ∧ D u v ≤ k1.c ∧ D v u ≤ k2.c ∧ (v < k ∨ (v = k ∧ (u < a ∨ (u = a ∧ u < b))) → D u u < 0)) D
            ⟨fun i j hi hj => by have := hB i j hi hj; omega, h1, h2, by omega⟩ (n + 1) (fun b D hb hD => by
              obtain ⟨hB, h1, h2, h3⟩ := hD
              have hak := hB a k (by omega) (by omega)
              have hkb := hB k b (by omega) (by omega)
              have hab := hB a b (by omega) (by omega)
              have hw : IntKind.i64.wrap (D a k + D k b) = D a k + D k b := w64 (by omega) (by omega)
              have hle : ∀ i j, fwB k a D b i j ≤ D i j := fun i j => by
                simp only [fwB, upm]
                split
                · rename_i e; obtain ⟨rfl, rfl⟩ := e; omega
                · omega
              refine ⟨fun i j hi hj => ?_, Int.le_trans (hle _ _) h1, Int.le_trans (hle _ _) h2, fun h => ?_⟩
              · have hij := hB i j hi hj
                simp only [fwB, upm, hw]
                split
                · rename_i e
                  obtain ⟨rfl, rfl⟩ := e
                  have q1 : ¬ (i < i ∨ (i = i ∧ j < j)) := by omega
                  have q2 := hab.1 q1
                  have q3 := hab.2.2.2.2
                  clear h1 h2 h3 hle hij
                  refine ⟨fun h => absurd h (by omega), fun h h' => ?_, fun h => ?_, ?_, by omega⟩
                  · subst h
                    subst h'
                    omega
                  · by_cases hik : i = k
                    · subst hik
                      have q4 := hak.2.1 rfl rfl
                      by_cases hjk : j = i
                      · subst hjk; omega
                      · have q5 := hkb.1 q1
                        omega
                    · have hjk : j = k := by omega
                      subst hjk
                      have q4 := hak.1 q1
                      have q5 := hkb.2.1 rfl rfl
                      omega
                  · have q4 := hak.2.2.1 (.inr rfl)
                    have q5 := hkb.2.2.1 (.inl rfl)
                    omega
                · rename_i hne
                  refine ⟨fun h => hij.1 (fun h' => h ?_), hij.2⟩
                  rcases h' with h' | ⟨h', h''⟩
                  · exact .inl h'
                  · exact .inr ⟨h', by omega⟩
              · by_cases hold : v < k ∨ (v = k ∧ (u < a ∨ (u = a ∧ u < b)))
                · have := hle u u; have := h3 hold; omega
                · obtain ⟨rfl, rfl, rfl⟩ : v = k ∧ u = a ∧ u = b := by omega
                  simp only [fwB, upm, and_self, if_true, hw]
                  omega)
          obtain ⟨hB, h1, h2, h3⟩ := hC
          exact ⟨fun i j hi hj => ⟨fun h => (hB i j hi hj).1 (by omega), (hB i j hi hj).2⟩, h1, h2, fun h => h3 (by omega)⟩)
      obtain ⟨hB, h1, h2, h3⟩ := hA
      exact ⟨fun i j hi hj => ⟨(hB i j hi hj).2.2.2.1, (hB i j hi hj).2.2.2.2⟩, h1, h2, fun h => h3 (by omega)⟩)
  exact ⟨u, hun, key.2.2.2 (by omega)⟩

end Go.Proofs.Ytmfeegebijejjaa
