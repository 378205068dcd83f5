/- My texts W15, W22, W23, K5, B29, K6, K7, B30, K8, B31, K9, K10, K11, K12, B32, K13, K14, K15, K16, K17, K18, K19, K20, K21, K22, K23, joined: a claim takes at most 60 files. -/
import Derived.Test.YtcmpdmobmbbplaaGreatJ2

/- The plain law of SkiPlanned: orders that fit. -/
namespace Go.Proofs.YtcmpdmobmbbplaaGreat
set_option maxRecDepth 4000

/-- An order that fits. -/
structure LinO (o n : Nat) (L : List Nat) : Prop where
  perm : L.Perm (List.range n)
  idx : ∀ a b, a < 8 → b < 8 → fa o a b = true → a < n ∧ b < n ∧ L.idxOf a < L.idxOf b
theorem LinO.len {o n : Nat} {L : List Nat} (h : LinO o n L) : L.length = n := by rw [h.perm.length_eq, List.length_range]
theorem LinO.nodup {o n : Nat} {L : List Nat} (h : LinO o n L) : L.Nodup := h.perm.nodup_iff.2 List.nodup_range
theorem LinO.mem {o n : Nat} {L : List Nat} (h : LinO o n L) {s : Nat} : s ∈ L ↔ s < n := by rw [h.perm.mem_iff, List.mem_range]
theorem LinO.noC {o n : Nat} {L : List Nat} (h : LinO o n L) (hn : n ≤ 8) : NoC o n := fun s hs => Bool.eq_false_iff.2 fun hh => by
  have := (h.idx s s (by omega) (by omega) hh).2.2
  omega
theorem LinO.with {o n x y : Nat} {L : List Nat} (h : LinO o n L) (hn : n ≤ 8) (hx : x < n) (hy : y < n) (hxy : L.idxOf x < L.idxOf y) : LinO (withO o x y) n L :=
  ⟨h.perm, with_sub (R := fun a b => a < n ∧ b < n ∧ L.idxOf a < L.idxOf b) (by omega) (by omega) (fun a b c _ _ _ h1 h2 => ⟨h1.1, h2.2.1, by omega⟩) h.idx ⟨hx, hy, hxy⟩⟩
theorem idx_ne {o n : Nat} {L : List Nat} (h : LinO o n L) {x y : Nat} (hx : x < n) (hne : x ≠ y) : L.idxOf x ≠ L.idxOf y := fun e => hne (by
  have h1 : L.idxOf x < L.length := List.idxOf_lt_length_iff.2 (h.mem.2 hx)
  have h2 : L.idxOf y < L.length := by omega
  have e1 := List.getElem_idxOf h1
  have e2 := List.getElem_idxOf h2
  simp only [e] at e1
  exact e1.symm.trans e2)
theorem lt_le {L : List Nat} (hn : L.Nodup) (i : Nat) : (L.filter fun t => decide (L.idxOf t < i)).length ≤ i := by
  have e : L.filter (fun t => decide (L.idxOf t < i)) = (L.take i).filter (fun t => decide (L.idxOf t < i)) := by
    conv => lhs; arg 2; rw [← List.take_append_drop i L]
    rw [List.filter_append]
    have : (L.drop i).filter (fun t => decide (L.idxOf t < i)) = [] := List.filter_eq_nil_iff.2 fun t ht => by
      obtain ⟨j, hj, rfl⟩ := List.mem_iff_getElem.1 ht
      rw [List.length_drop] at hj
      rw [List.getElem_drop, hn.idxOf_getElem]
      simp
    rw [this, List.append_nil]
  rw [e]
  exact Nat.le_trans (List.length_filter_le _ _) (by rw [List.length_take]; omega)
theorem gt_le {L : List Nat} (hn : L.Nodup) (i : Nat) : (L.filter fun t => decide (i < L.idxOf t)).length ≤ L.length - (i + 1) := by
  have e : L.filter (fun t => decide (i < L.idxOf t)) = (L.drop (i + 1)).filter (fun t => decide (i < L.idxOf t)) := by
    conv => lhs; arg 2; rw [← List.take_append_drop (i + 1) L]
    rw [List.filter_append]
    have : (L.take (i + 1)).filter (fun t => decide (i < L.idxOf t)) = [] := List.filter_eq_nil_iff.2 fun t ht => by
      obtain ⟨j, hj, rfl⟩ := List.mem_iff_getElem.1 ht
      rw [List.length_take] at hj
      rw [List.getElem_take, hn.idxOf_getElem]
      simp
      omega
    rw [this, List.nil_append]
  rw [e]
  exact Nat.le_trans (List.length_filter_le _ _) (by rw [List.length_drop]; omega)
/-- A ski whose place is known has it in each order that fits. -/
theorem lin_at {o n s p : Nat} {L : List Nat} (h : LinO o n L) (hn : n ≤ 8) (hs : s < n) (h1 : upN o s n = p) (h2 : dnN o s n + 1 + p = n) : L.idxOf s = p := by
  have h3 : L.idxOf s < L.length := List.idxOf_lt_length_iff.2 (h.mem.2 hs)
  have hl := h.len
  have h4 : upN o s n ≤ L.idxOf s := by
    refine Nat.le_trans ?_ (lt_le h.nodup (L.idxOf s))
    rw [(h.perm.filter _).length_eq]
    exact filter_le _ _ _ fun t ht hf => by
      have := List.mem_range.1 ht
      simpa using (h.idx t s (by omega) (by omega) hf).2.2
  have h5 : dnN o s n ≤ L.length - (L.idxOf s + 1) := by
    refine Nat.le_trans ?_ (gt_le h.nodup (L.idxOf s))
    rw [(h.perm.filter _).length_eq]
    exact filter_le _ _ _ fun t ht hf => by
      have := List.mem_range.1 ht
      simpa using (h.idx s t (by omega) (by omega) hf).2.2
  omega
/-- Orders that fit have the same first places if these are known. -/
theorem lin_same {o n k : Nat} {L M : List Nat} (h : LinO o n L) (g : LinO o n M) (hn : n ≤ 8) (hk : knownO o n k = true) (hkn : k ≤ n) : L.take k = M.take k := by
  refine List.ext_getElem (by rw [List.length_take, List.length_take, h.len, g.len]) (fun p h1 h2 => ?_)
  rw [List.length_take] at h1
  obtain ⟨s, hs, h3, h4⟩ := known_iff.1 hk p (by omega)
  have h5 := lin_at h hn hs h3 h4
  have h6 := lin_at g hn hs h3 h4
  have hl := h.len
  have gl := g.len
  have e1 := List.getElem_idxOf (x := s) (xs := L) (by omega)
  have e2 := List.getElem_idxOf (x := s) (xs := M) (by omega)
  simp only [h5] at e1
  simp only [h6] at e2
  rw [List.getElem_take, List.getElem_take, e1, e2]
/-- The first order that fits. -/
def nextO (o n S : Nat) : Option Nat := (List.range n).find? fun s => freeO o n s S
def firF (o n : Nat) : Nat → List Nat × Nat
  | 0 => ([], 0)
  | j + 1 => match nextO o n (firF o n j).2 with
    | some s => ((firF o n j).1 ++ [s], (firF o n j).2 ||| 2 ^ s)
    | none => firF o n j
structure FirI (o n j : Nat) (L : List Nat) (S : Nat) : Prop where
  rest : ∃ R, (L ++ R).Perm (List.range n)
  len : L.length = j
  bit : ∀ t, t < n → (S.testBit t = true ↔ t ∈ L)
  bd : S < 2 ^ n
  down : ∀ s, s ∈ L → ∀ t, t < n → fa o t s = true → t ∈ L ∧ L.idxOf t < L.idxOf s
theorem or_bit {S s t : Nat} : (S ||| 2 ^ s).testBit t = (S.testBit t || decide (s = t)) := by rw [Nat.testBit_or, Nat.testBit_two_pow]
theorem min_in {o n S : Nat} (hc : NoC o n) (ho : Ord o) (hn : n ≤ 8) : ∀ k s, s < n → S.testBit s = false → upN o s n ≤ k → ∃ t, t < n ∧ freeO o n t S = true
  | k, s, hs, hb, hk => by
    by_cases h : ∃ u, u < n ∧ S.testBit u = false ∧ fa o u s = true
    · obtain ⟨u, hu, hbu, hf⟩ := h
      have hlt := up_lt ho hc hn hu hs hf
      match k with
      | 0 => omega
      | k + 1 => exact min_in hc ho hn k u hu hbu (by omega)
    · refine ⟨s, hs, free_iff.2 ⟨hb, fun u hu hf => ?_⟩⟩
      cases h2 : S.testBit u with
      | true => rfl
      | false => exact absurd ⟨u, hu, h2, hf⟩ h
theorem fir_step {o n j : Nat} {L : List Nat} {S s : Nat} (h : FirI o n j L S) (hs : s < n) (hf : freeO o n s S = true) : FirI o n (j + 1) (L ++ [s]) (S ||| 2 ^ s) := by
  obtain ⟨R, hR⟩ := h.rest
  obtain ⟨h1, h2⟩ := free_iff.1 hf
  have hsL : s ∉ L := fun hm => by rw [(h.bit s hs).2 hm] at h1; cases h1
  have hsR : s ∈ R := by
    have : s ∈ L ++ R := hR.mem_iff.2 (List.mem_range.2 hs)
    exact (List.mem_append.1 this).resolve_left hsL
  refine ⟨⟨R.erase s, ?_⟩, by rw [List.length_append, h.len]; rfl, fun t ht => ?_, ?_, fun t ht u hu hf2 => ?_⟩
  · rw [List.append_assoc]
    exact (List.Perm.append_left L (List.perm_cons_erase hsR).symm).trans hR
  · rw [or_bit, Bool.or_eq_true, h.bit t ht, List.mem_append, List.mem_singleton, decide_eq_true_iff]
    exact ⟨fun h => h.imp_right Eq.symm, fun h => h.imp_right Eq.symm⟩
  · refine Nat.or_lt_two_pow h.bd (Nat.pow_lt_pow_right (by omega) hs)
  · rcases List.mem_append.1 ht with h3 | h3
    · obtain ⟨h4, h5⟩ := h.down t h3 u hu hf2
      exact ⟨List.mem_append_left _ h4, by rw [List.idxOf_append, List.idxOf_append, if_pos h4, if_pos h3]; exact h5⟩
    · obtain rfl := List.mem_singleton.1 h3
      have h4 := (h.bit u hu).1 (h2 u hu hf2)
      refine ⟨List.mem_append_left _ h4, ?_⟩
      rw [List.idxOf_append, List.idxOf_append, if_pos h4, if_neg hsL]
      have := List.idxOf_lt_length_iff.2 h4
      omega
theorem fir_is {o n : Nat} (hc : NoC o n) (ho : Ord o) (hn : n ≤ 8) : ∀ j, j ≤ n → FirI o n j (firF o n j).1 (firF o n j).2
  | 0, _ => ⟨⟨List.range n, by simp [firF]⟩, rfl, fun t _ => by simp [firF], Nat.pow_pos (by omega), fun s hs => by simp [firF] at hs⟩
  | j + 1, hj => by
    have ih := fir_is hc ho hn j (by omega)
    unfold firF
    split
    · rename_i s hs
      have h1 := List.find?_some hs
      have h2 := List.mem_of_find?_eq_some hs
      exact fir_step ih (List.mem_range.1 h2) h1
    · rename_i hs
      exfalso
      obtain ⟨R, hR⟩ := ih.rest
      have h1 := hR.length_eq
      rw [List.length_append, ih.len, List.length_range] at h1
      obtain ⟨s, hsR⟩ : ∃ s, s ∈ R := by
        cases R with
        | nil => simp at h1; omega
        | cons s R => exact ⟨s, List.mem_cons_self⟩
      have hsn : s < n := List.mem_range.1 (hR.mem_iff.1 (List.mem_append_right _ hsR))
      have hnd := hR.nodup_iff.2 List.nodup_range
      have hb : (firF o n j).2.testBit s = false := Bool.eq_false_iff.2 fun h => by
        have h2 := (ih.bit s hsn).1 h
        exact (List.nodup_append.1 hnd).2.2 s h2 s hsR rfl
      obtain ⟨t, ht, hf⟩ := min_in hc ho hn (upN o s n) s hsn hb (Nat.le_refl _)
      exact List.find?_eq_none.1 hs t (List.mem_range.2 ht) hf
/-- Skis that are faster, and slower, are skis of the lab. -/
def InO (o n : Nat) : Prop := ∀ a b, a < 8 → b < 8 → fa o a b = true → a < n ∧ b < n
theorem Lb.Ok.inO {l : Lb} (h : l.Ok) : InO l.ord l.n := order_sub (R := fun a b => a < l.n ∧ b < l.n) h.in8 (fun _ _ _ _ _ _ h1 h2 => ⟨h1.1, h2.2⟩) fun p hp => ⟨(h.in p hp).1, (h.in p hp).2.1⟩
theorem first_lin {o n : Nat} (hc : NoC o n) (ho : Ord o) (hn : n ≤ 8) (hi : InO o n) : LinO o n (firF o n n).1 := by
  have h := fir_is hc ho hn n (Nat.le_refl _)
  obtain ⟨R, hR⟩ := h.rest
  have h1 := hR.length_eq
  rw [List.length_append, h.len, List.length_range] at h1
  have h2 : R = [] := List.length_eq_zero_iff.1 (by omega)
  rw [h2, List.append_nil] at hR
  refine ⟨hR, fun a b ha hb hf => ?_⟩
  obtain ⟨h3, h4⟩ := hi a b ha hb hf
  exact ⟨h3, h4, (h.down b (hR.mem_iff.2 (List.mem_range.2 h4)) a h3 hf).2⟩
/-- The skis, the fastest one first. -/
def rnkK (real : List Int) (x : Int) : Int := -(real.getD x.toNat 0)
def rankL (real : List Int) : List Int := ordK (rnkK real) real.length
end Go.Proofs.YtcmpdmobmbbplaaGreat

/- The plain law of Drop: the fewest runs without which the others do not contradict each other, found set by set. -/
namespace Go.Proofs.YtcmpdmobmbbplaaGreat
set_option maxRecDepth 4000
open Go Go.Eng
/-- Sets of skis as numbers. -/
def bitL (R : List Nat) : Nat := R.foldr (fun s S => S ||| 2 ^ s) 0
theorem bit_mem (t : Nat) : ∀ R : List Nat, (bitL R).testBit t = decide (t ∈ R)
  | [] => by simp [bitL]
  | s :: R => by
    have ih := bit_mem t R
    show (bitL R ||| 2 ^ s).testBit t = _
    rw [or_bit, ih]
    by_cases h : t = s
    · subst h; simp
    · have h2 : ¬ s = t := fun e => h e.symm
      simp [h, h2]
theorem bitL_all {R : List Nat} {n : Nat} (h : ∀ t, t ∈ R ↔ t < n) : bitL R = 2 ^ n - 1 := Nat.eq_of_testBit_eq fun t => by
  rw [bit_mem, Nat.testBit_two_pow_sub_one]
  exact decide_eq_decide.2 (h t)
/-- The runs that show a ski to be faster than one of a set. -/
def agB (s S : Nat) (x : Nat × Int × Int) : Bool := decide (x.2.1.toNat = s) && S.testBit x.2.2.toNat
def agL (l : Lb) (s S : Nat) : List Nat := ((shL l).filter (agB s S)).map (·.1)
theorem sh_fun {l : Lb} {i f s f' s' : Nat} (h : Sh l i f s) (g : Sh l i f' s') : f = f' ∧ s = s' := by
  have := h.2.symm.trans g.2
  simpa using this
/-- The runs against an order that is told from its end. -/
def dropR (l : Lb) : List Nat → List Nat
  | [] => []
  | s :: R => agL l s (bitL R) ++ dropR l R
/-- The fewest runs against some order of a set, and the last ski of that order. -/
def dpStep (l : Lb) (F : Nat → Nat × Nat) (S : Nat) (p : Nat × Nat) (s : Nat) : Nat × Nat :=
  if S.testBit s = true then if (F (S ^^^ 2 ^ s)).1 + (agL l s (S ^^^ 2 ^ s)).length < p.1 then ((F (S ^^^ 2 ^ s)).1 + (agL l s (S ^^^ 2 ^ s)).length, s) else p else p
def dpF (l : Lb) (n : Nat) : Nat → Nat → Nat × Nat
  | 0, _ => (0, 0)
  | k + 1, S => if S = 0 then (0, 0) else (List.range n).foldl (dpStep l (dpF l n k) S) (41, 0)
def dp (l : Lb) (n S : Nat) : Nat × Nat := dpF l n S S
def dpPart (l : Lb) (n S j : Nat) : Nat × Nat := (List.range j).foldl (dpStep l (dp l n) S) (41, 0)
/-- What the loop over skis has found. -/
structure DpI (l : Lb) (n S j : Nat) (p : Nat × Nat) : Prop where
  le : ∀ s, s < j → S.testBit s = true → p.1 ≤ (dp l n (S ^^^ 2 ^ s)).1 + (agL l s (S ^^^ 2 ^ s)).length
  at_ : p = (41, 0) ∨ (p.2 < j ∧ S.testBit p.2 = true ∧ p.1 = (dp l n (S ^^^ 2 ^ p.2)).1 + (agL l p.2 (S ^^^ 2 ^ p.2)).length)
theorem sub_len {α : Type} [DecidableEq α] {D : List α} : ∀ {L : List α}, L.Nodup → (∀ x ∈ L, x ∈ D) → L.length ≤ D.length
  | [], _, _ => by simp
  | x :: L, h, hs => by
    obtain ⟨h1, h2⟩ := List.nodup_cons.1 h
    have hx := hs x List.mem_cons_self
    have ih := sub_len (D := D.erase x) h2 (fun y hy => (List.mem_erase_of_ne (fun e => h1 (by rw [← e]; exact hy))).2 (hs y (List.mem_cons_of_mem _ hy)))
    rw [List.length_erase_of_mem hx] at ih
    have : 0 < D.length := List.length_pos_of_mem hx
    simp only [List.length_cons]
    omega
/-- The way back. -/
def btF (l : Lb) (n : Nat) : Nat → Nat → List Nat
  | 0, _ => []
  | k + 1, S => if S = 0 then [] else agL l (dp l n S).2 (S ^^^ 2 ^ (dp l n S).2) ++ btF l n k (S ^^^ 2 ^ (dp l n S).2)
/-- A lab without some runs. -/
def woL (l : Lb) (D : List Nat) : Lb := ⟨l.skis, l.err, ((List.range l.runs.length).filter fun i => !decide (i ∈ D)).map fun i => l.runs.getD i ⟨0, 0, 0⟩⟩
theorem idx_cons_ne {a b : Nat} {l : List Nat} (h : a ≠ b) : (a :: l).idxOf b = l.idxOf b + 1 := by
  have h2 : (a == b) = false := by simpa using h
  rw [List.idxOf_cons, h2]
  rfl
/-- What is told of the runs that are to be dropped. -/
structure DropP (l : Lb) (d : List Nat) : Prop where
  asc : d.Pairwise (· < ·)
  lt : ∀ i ∈ d, i < l.runs.length
  noC : NoC (woL l d).ord l.n
  min : ∀ D : List Nat, NoC (woL l D).ord l.n → d.length ≤ D.length
  at_ : ∃ L : List Nat, L.Perm (List.range l.n) ∧ ∀ i, i ∈ d ↔ ∃ s t, Sh l i s t ∧ L.idxOf t < L.idxOf s
end Go.Proofs.YtcmpdmobmbbplaaGreat

/- The plain law of SkiOrders: all orders that fit, one by one. -/
namespace Go.Proofs.YtcmpdmobmbbplaaGreat
set_option maxRecDepth 4000
open Go Go.Eng
/-- All lists of so many skis, each once, in lexicographic order. -/
def permN (n : Nat) : Nat → List (List Nat)
  | 0 => [[]]
  | i + 1 => (permN n i).flatMap fun p => ((List.range n).filter fun s => !decide (s ∈ p)).map fun s => p ++ [s]
theorem perm_mem {n : Nat} : ∀ {i : Nat} {p : List Nat}, p ∈ permN n i ↔ p.Nodup ∧ (∀ x ∈ p, x < n) ∧ p.length = i
  | 0, p => by
    simp only [permN, List.mem_singleton]
    constructor
    · rintro rfl; simp
    · rintro ⟨_, _, h⟩; exact List.length_eq_zero_iff.1 h
  | i + 1, p => by
    simp only [permN, List.mem_flatMap, List.mem_map, List.mem_filter, List.mem_range, Bool.not_eq_true', decide_eq_false_iff_not]
    constructor
    · rintro ⟨q, hq, s, ⟨h1, h2⟩, rfl⟩
      obtain ⟨h3, h4, h5⟩ := perm_mem.1 hq
      refine ⟨List.nodup_append.2 ⟨h3, by simp, fun a ha b hb e => ?_⟩, fun x hx => ?_, by simp [h5]⟩
      · obtain rfl : b = s := by simpa using hb
        subst e
        exact h2 ha
      · rcases List.mem_append.1 hx with hx | hx
        · exact h4 x hx
        · obtain rfl : x = s := by simpa using hx
          exact h1
    · rintro ⟨h1, h2, h3⟩
      rcases List.eq_nil_or_concat p with rfl | ⟨q, s, rfl⟩
      · simp at h3
      · rw [List.concat_eq_append] at *
        obtain ⟨h4, h5, h6⟩ := List.nodup_append.1 h1
        refine ⟨q, perm_mem.2 ⟨h4, fun x hx => h2 x (by simp [hx]), by simpa using h3⟩, s, ⟨h2 s (by simp), fun hs => h6 s hs s (by simp) rfl⟩, rfl⟩
theorem full_perm {n : Nat} {p : List Nat} (h1 : p.Nodup) (h2 : ∀ x ∈ p, x < n) (h3 : p.length = n) : p.Perm (List.range n) := by
  refine List.perm_iff_count.2 fun a => ?_
  rw [h1.count, List.nodup_range.count]
  have key : ∀ t, t < n → t ∈ p := fun t ht => by
    obtain ⟨i, hi, e⟩ := surj (f := fun i => p.getD i 0) (n := n) (fun i hi => by
      rw [List.getD_eq_getElem?_getD, List.getElem?_eq_getElem (by omega), Option.getD_some]
      exact h2 _ (List.getElem_mem _)) (fun i j hi hj e => by
      rw [List.getD_eq_getElem?_getD, List.getElem?_eq_getElem (by omega), Option.getD_some, List.getD_eq_getElem?_getD, List.getElem?_eq_getElem (by omega), Option.getD_some] at e
      exact (List.getElem_inj h1).1 e) t ht
    rw [List.getD_eq_getElem?_getD, List.getElem?_eq_getElem (by omega), Option.getD_some] at e
    rw [← e]
    exact List.getElem_mem _
  by_cases ha : a < n
  · rw [if_pos (key a ha), if_pos (List.mem_range.2 ha)]
  · rw [if_neg (fun h => ha (h2 a h)), if_neg (fun h => ha (List.mem_range.1 h))]
theorem perm_full {n : Nat} {p : List Nat} : p ∈ permN n n ↔ p.Perm (List.range n) := by
  rw [perm_mem]
  constructor
  · rintro ⟨h1, h2, h3⟩
    exact full_perm h1 h2 h3
  · intro h
    exact ⟨h.nodup_iff.2 List.nodup_range, fun x hx => List.mem_range.1 (h.mem_iff.1 hx), by rw [h.length_eq, List.length_range]⟩
/-- All lists of so many skis that fit, in lexicographic order. -/
def FL (o n : Nat) : Nat → List (List Nat)
  | 0 => [[]]
  | i + 1 => (FL o n i).flatMap fun p => ((List.range n).filter fun s => freeO o n s (bitL p)).map fun s => p ++ [s]
/-- Whether a list fits behind another one. -/
def preB (o n : Nat) : List Nat → List Nat → Bool
  | _, [] => true
  | acc, s :: r => freeO o n s (bitL acc) && preB o n (acc ++ [s]) r
theorem pre_snoc (o n s : Nat) : ∀ (p acc : List Nat), preB o n acc (p ++ [s]) = (preB o n acc p && freeO o n s (bitL (acc ++ p)))
  | [], acc => by simp [preB]
  | x :: p, acc => by
    rw [List.cons_append, preB, preB, pre_snoc o n s p (acc ++ [x]), Bool.and_assoc]
    simp
theorem filter_flatMap' {α β : Type} (q : β → Bool) (g : α → List β) : ∀ l : List α, (l.flatMap g).filter q = l.flatMap fun a => (g a).filter q
  | [] => rfl
  | a :: l => by rw [List.flatMap_cons, List.filter_append, filter_flatMap' q g l, List.flatMap_cons]
theorem flatMap_if {α β : Type} (q : α → Bool) (g : α → List β) : ∀ l : List α, (l.flatMap fun a => if q a = true then g a else []) = (l.filter q).flatMap g
  | [] => rfl
  | a :: l => by
    rw [List.flatMap_cons, flatMap_if q g l, List.filter_cons]
    cases q a <;> simp
theorem FL_eq (o n : Nat) : ∀ i, (permN n i).filter (preB o n []) = FL o n i
  | 0 => rfl
  | i + 1 => by
    rw [permN, filter_flatMap', FL, ← FL_eq o n i, ← flatMap_if]
    congr 1
    funext p
    rw [List.filter_map, List.filter_filter]
    cases hp : preB o n [] p with
    | false =>
      rw [if_neg (by simp)]
      have : ((List.range n).filter fun s => (preB o n [] ∘ fun s => p ++ [s]) s && !decide (s ∈ p)) = [] := List.filter_eq_nil_iff.2 fun s _ => by
        simp [Function.comp, pre_snoc, hp]
      rw [this]; rfl
    | true =>
      rw [if_pos rfl]
      congr 1
      refine List.filter_congr fun s _ => ?_
      simp only [Function.comp, pre_snoc, hp, Bool.true_and, List.nil_append]
      cases hf : freeO o n s (bitL p) with
      | false => rfl
      | true =>
        have := (free_iff.1 hf).1
        rw [bit_mem] at this
        simpa using this
theorem pre_iff {o n : Nat} : ∀ (p acc : List Nat), preB o n acc p = true ↔ ∀ a s b, p = a ++ s :: b → freeO o n s (bitL (acc ++ a)) = true
  | [], acc => by simp [preB]
  | x :: p, acc => by
    rw [preB, Bool.and_eq_true, pre_iff p]
    constructor
    · rintro ⟨h1, h2⟩ a s b h
      cases a with
      | nil =>
        simp only [List.nil_append, List.cons.injEq] at h
        obtain ⟨rfl, rfl⟩ := h
        simpa using h1
      | cons y a =>
        simp only [List.cons_append, List.cons.injEq] at h
        obtain ⟨rfl, rfl⟩ := h
        have := h2 a s b rfl
        simpa using this
    · intro h
      refine ⟨by simpa using h [] x p rfl, fun a s b e => ?_⟩
      have := h (x :: a) s b (by rw [e]; rfl)
      simpa using this
theorem pre_lin {o n : Nat} (hn : n ≤ 8) (hi : InO o n) {p : List Nat} (hp : p.Perm (List.range n)) : preB o n [] p = true ↔ LinO o n p := by
  have hnd : p.Nodup := hp.nodup_iff.2 List.nodup_range
  rw [pre_iff]
  constructor
  · intro h
    refine ⟨hp, fun a b ha hb hf => ?_⟩
    obtain ⟨h1, h2⟩ := hi a b ha hb hf
    refine ⟨h1, h2, ?_⟩
    obtain ⟨x, y, e⟩ := List.append_of_mem (hp.mem_iff.2 (List.mem_range.2 h2))
    have h3 := (free_iff.1 (h x b y e)).2 a h1 hf
    rw [List.nil_append, bit_mem] at h3
    have h4 := of_decide_eq_true h3
    have hbx : b ∉ x := fun hm => by
      rw [e] at hnd
      exact (List.nodup_append.1 hnd).2.2 b hm b (by simp) rfl
    rw [e, List.idxOf_append, List.idxOf_append, if_pos h4, if_neg hbx, List.idxOf_cons_self]
    have := List.idxOf_lt_length_iff.2 h4
    omega
  · intro h a s b e
    have hs : s < n := List.mem_range.1 (hp.mem_iff.1 (by rw [e]; simp))
    have hsa : s ∉ a := fun hm => by
      rw [e] at hnd
      exact (List.nodup_append.1 hnd).2.2 s hm s (by simp) rfl
    refine free_iff.2 ⟨?_, fun t ht hf => ?_⟩
    · rw [List.nil_append, bit_mem]; exact decide_eq_false hsa
    · rw [List.nil_append, bit_mem]
      refine decide_eq_true ?_
      have h3 := (h.idx t s (by omega) (by omega) hf).2.2
      rcases Classical.em (t ∈ a) with h4 | h4
      · exact h4
      · exfalso
        rw [e, List.idxOf_append, List.idxOf_append, if_neg h4, if_neg hsa, List.idxOf_cons_self] at h3
        omega
theorem fl_mem {o n : Nat} (hn : n ≤ 8) (hi : InO o n) {L : List Nat} : L ∈ FL o n n ↔ LinO o n L := by
  rw [← FL_eq, List.mem_filter, perm_full]
  constructor
  · rintro ⟨h1, h2⟩
    exact (pre_lin hn hi h1).1 h2
  · intro h
    exact ⟨h.perm, (pre_lin hn hi h.perm).2 h⟩
/-- How many there are. -/
def crd (S : Nat) : Nat → Nat := sumN fun s => cond (S.testBit s) 1 0
theorem crd_xor {S s : Nat} (h : S.testBit s = true) : ∀ n, crd (S ^^^ 2 ^ s) n + (if s < n then 1 else 0) = crd S n
  | 0 => rfl
  | n + 1 => by
    have ih := crd_xor h n
    unfold crd at ih ⊢
    rw [sumN, sumN]
    by_cases e : n = s
    · subst e
      rw [if_neg (by omega)] at ih
      rw [bit_xor_self h, h, if_pos (by omega)]
      simp only [cond_true, cond_false]
      omega
    · rw [bit_xor e]
      by_cases e2 : s < n
      · rw [if_pos e2] at ih
        rw [if_pos (by omega)]
        omega
      · rw [if_neg e2] at ih
        rw [if_neg (by omega)]
        omega
theorem filter_sum (q : Nat → Bool) : ∀ n, ((List.range n).filter q).length = sumN (fun s => cond (q s) 1 0) n
  | 0 => rfl
  | n + 1 => by
    rw [List.range_succ, List.filter_append, List.length_append, filter_sum q n, sumN]
    cases h : q n <;> simp [h]
theorem or_iff {A S s : Nat} (h : A.testBit s = false) : A ||| 2 ^ s = S ↔ S.testBit s = true ∧ A = S ^^^ 2 ^ s := by
  constructor
  · rintro rfl
    refine ⟨by rw [or_bit]; simp, Nat.eq_of_testBit_eq fun t => ?_⟩
    by_cases e : t = s
    · subst e; rw [bit_xor_self (by rw [or_bit]; simp), h]
    · rw [bit_xor e, or_bit]; simp [show ¬ s = t from fun h => e h.symm]
  · rintro ⟨h1, rfl⟩
    refine Nat.eq_of_testBit_eq fun t => ?_
    rw [or_bit]
    by_cases e : t = s
    · subst e; simp [h1]
    · rw [bit_xor e]; simp [show ¬ s = t from fun h => e h.symm]
theorem fl_step (o n S : Nat) : ∀ X : List (List Nat), (((X.flatMap fun p => ((List.range n).filter fun s => freeO o n s (bitL p)).map fun s => p ++ [s]).filter fun p => decide (bitL p = S)).length) = sumN (fun s => cond (S.testBit s && freeO o n s (S ^^^ 2 ^ s)) ((X.filter fun p => decide (bitL p = S ^^^ 2 ^ s)).length) 0) n
  | [] => by
    have : ∀ n, sumN (fun s => cond (S.testBit s && freeO o n s (S ^^^ 2 ^ s)) 0 0) n = 0 := fun n => by
      rw [sumN_congr (g := fun _ => 0) n (fun s _ => cond_zero _)]
      clear S o
      induction n with
      | zero => rfl
      | succ n ih => rw [sumN, ih]
    have h2 : sumN (fun s => cond (S.testBit s && freeO o n s (S ^^^ 2 ^ s)) 0 0) n = 0 := by
      rw [sumN_congr (g := fun _ => 0) n (fun s _ => cond_zero _)]
      generalize n = m
      induction m with
      | zero => rfl
      | succ n ih => rw [sumN, ih]
    exact h2.symm
  | p :: X => by
    rw [List.flatMap_cons, List.filter_append, List.length_append, fl_step o n S X, List.filter_map, List.length_map, List.filter_filter, filter_sum, ← sumN_add]
    refine sumN_congr n fun s hs => ?_
    rw [List.filter_cons]
    have eb : bitL (p ++ [s]) = bitL p ||| 2 ^ s := Nat.eq_of_testBit_eq fun t => by
      rw [bit_mem, or_bit, bit_mem]
      by_cases h : t = s
      · subst h; simp
      · simp [h, show ¬ s = t from fun e => h e.symm]
    simp only [Function.comp, eb]
    by_cases hf : freeO o n s (bitL p) = true
    · have h1 := or_iff (S := S) (free_iff.1 hf).1
      by_cases h2 : bitL p ||| 2 ^ s = S
      · obtain ⟨h3, h4⟩ := h1.1 h2
        rw [← h4, h3, hf, decide_eq_true h2, decide_eq_true rfl]
        simp; omega
      · rw [decide_eq_false h2]
        by_cases h3 : S.testBit s = true
        · have h4 : ¬ bitL p = S ^^^ 2 ^ s := fun e => h2 (h1.2 ⟨h3, e⟩)
          rw [decide_eq_false h4]
          simp
        · simp [h3]
    · rw [Bool.not_eq_true] at hf
      rw [hf]
      by_cases h4 : bitL p = S ^^^ 2 ^ s
      · rw [← h4, hf]; simp
      · rw [decide_eq_false h4]; simp
theorem sumN_zero {f : Nat → Nat} : ∀ n, (∀ i, i < n → f i = 0) → sumN f n = 0
  | 0, _ => rfl
  | n + 1, h => by rw [sumN, sumN_zero n fun i hi => h i (by omega), h n (by omega)]
theorem fl_cnt (o n : Nat) : ∀ i S, crd S n = i → ((FL o n i).filter fun p => decide (bitL p = S)).length = cnt o n S
  | 0, S, h => by
    by_cases h0 : S = 0
    · subst h0; rw [cnt_zero]; rfl
    · have hz : ∀ s, s < n → S.testBit s = false := fun s hs => Bool.eq_false_iff.2 fun hb => by
        have := sumN_ge (f := fun s => cond (S.testBit s) 1 0) n hs
        unfold crd at h
        rw [h] at this
        simp [hb] at this
      rw [cnt_eq h0, sumN_zero n (fun s hs => by rw [hz s hs]; rfl)]
      have : ¬ 0 = S := fun e => h0 e.symm
      simp [FL, bitL, this]
  | i + 1, S, h => by
    have h0 : S ≠ 0 := by
      rintro rfl
      unfold crd at h
      rw [sumN_zero n (fun s _ => by simp)] at h
      omega
    rw [FL, fl_step, cnt_eq h0]
    refine sumN_congr n fun s hs => ?_
    cases hb : S.testBit s with
    | false => rfl
    | true =>
      have := crd_xor hb n
      rw [if_pos hs] at this
      rw [fl_cnt o n i (S ^^^ 2 ^ s) (by omega)]
theorem fl_has {o n : Nat} : ∀ {i : Nat} {p : List Nat}, p ∈ FL o n i → p.Nodup ∧ (∀ x ∈ p, x < n) ∧ p.length = i := fun {i p} h => by
  rw [← FL_eq, List.mem_filter] at h
  exact perm_mem.1 h.1
theorem fl_len (o n : Nat) : (FL o n n).length = cnt o n (2 ^ n - 1) := by
  rw [← fl_cnt o n n (2 ^ n - 1) (by
    unfold crd
    rw [sumN_congr (g := fun _ => 1) n (fun s hs => by rw [full_bit hs]; rfl), sumN_one])]
  congr 1
  refine (List.filter_eq_self.2 fun p hp => ?_).symm
  obtain ⟨h1, h2, h3⟩ := fl_has hp
  have := full_perm h1 h2 h3
  exact decide_eq_true (bitL_all fun t => by rw [this.mem_iff, List.mem_range])
/-- The first one. -/
theorem fl_first {o n : Nat} (hc : NoC o n) (ho : Ord o) (hn : n ≤ 8) : ∀ i, i ≤ n → (FL o n i).head? = some (firF o n i).1
  | 0, _ => rfl
  | i + 1, hi => by
    have ih := fl_first hc ho hn i (by omega)
    have h1 := fir_is hc ho hn i (by omega)
    have h2 := fir_is hc ho hn (i + 1) hi
    have hb : bitL (firF o n i).1 = (firF o n i).2 := Nat.eq_of_testBit_eq fun t => by
      rw [bit_mem]
      by_cases ht : t < n
      · exact Bool.eq_iff_iff.2 (by rw [decide_eq_true_iff]; exact (h1.bit t ht).symm)
      · have h3 : t ∉ (firF o n i).1 := fun hm => by
          obtain ⟨R, hR⟩ := h1.rest
          exact ht (List.mem_range.1 (hR.mem_iff.1 (List.mem_append_left _ hm)))
        have h4 : (firF o n i).2 < 2 ^ t := Nat.lt_of_lt_of_le h1.bd (Nat.pow_le_pow_right (by omega) (by omega))
        rw [Nat.testBit_lt_two_pow h4]
        exact decide_eq_false h3
    rw [FL]
    cases hX : FL o n i with
    | nil => rw [hX] at ih; cases ih
    | cons p X =>
      rw [hX] at ih
      have hp : p = (firF o n i).1 := Option.some.inj ih
      rw [List.flatMap_cons, hp, hb]
      have hlen := h2.len
      have hst : firF o n (i + 1) = match nextO o n (firF o n i).2 with
        | some s => ((firF o n i).1 ++ [s], (firF o n i).2 ||| 2 ^ s)
        | none => firF o n i := rfl
      rw [hst] at hlen ⊢
      cases hN : nextO o n (firF o n i).2 with
      | none =>
        rw [hN] at hlen
        have := h1.len
        simp only at hlen
        omega
      | some s =>
        unfold nextO at hN
        rw [← List.head?_filter] at hN
        cases hF : (List.range n).filter fun s => freeO o n s (firF o n i).2 with
        | nil => rw [hF] at hN; cases hN
        | cons x Y =>
          rw [hF] at hN
          obtain rfl : x = s := Option.some.inj hN
          rfl
/-- Both ends of a place are reached. -/
theorem lin_pair {o n : Nat} (hn : n ≤ 8) {L : List Nat} (h : LinO o n L) : L.Pairwise fun a b => fa o b a = false := List.pairwise_iff_getElem.2 fun i j hi hj hij => Bool.eq_false_iff.2 fun hf => by
  have h1 : L[i] < n := h.mem.1 (List.getElem_mem hi)
  have h2 : L[j] < n := h.mem.1 (List.getElem_mem hj)
  have h3 := (h.idx _ _ (by omega) (by omega) hf).2.2
  rw [h.nodup.idxOf_getElem, h.nodup.idxOf_getElem] at h3
  omega
theorem pair_lin {o n : Nat} (hc : NoC o n) (hi : InO o n) {L : List Nat} (hp : L.Perm (List.range n)) (h : L.Pairwise fun a b => fa o b a = false) : LinO o n L := ⟨hp, fun a b ha hb hf => by
  obtain ⟨h1, h2⟩ := hi a b ha hb hf
  refine ⟨h1, h2, ?_⟩
  have m1 := List.idxOf_lt_length_iff.2 (hp.mem_iff.2 (List.mem_range.2 h1))
  have m2 := List.idxOf_lt_length_iff.2 (hp.mem_iff.2 (List.mem_range.2 h2))
  have e1 := List.getElem_idxOf m1
  have e2 := List.getElem_idxOf m2
  rcases Nat.lt_trichotomy (L.idxOf a) (L.idxOf b) with g | g | g
  · exact g
  · exfalso
    simp only [g] at e1
    have := e1.symm.trans e2
    subst this
    rw [hc a h1] at hf; cases hf
  · exfalso
    have := List.pairwise_iff_getElem.1 h _ _ m2 m1 g
    rw [e1, e2, hf] at this
    cases this⟩
theorem part_perm {L : List Nat} (hn : L.Nodup) {x : Nat} (hx : x ∈ L) (P : Nat → Bool) (hPx : P x = false) : (L.filter P ++ x :: L.filter fun t => !P t && !decide (t = x)).Perm L := by
  refine List.perm_iff_count.2 fun a => ?_
  rw [List.count_append, List.count_cons, (hn.sublist List.filter_sublist).count, (hn.sublist List.filter_sublist).count, hn.count]
  simp only [List.mem_filter]
  by_cases ha : a = x
  · subst ha; simp [hx, hPx]
  · have h2 : ¬ x = a := fun e => ha e.symm
    cases hP : P a <;> by_cases hm : a ∈ L <;> simp [ha, hP, hm, h2]
theorem lin_bd {o n s : Nat} {L : List Nat} (h : LinO o n L) (hn : n ≤ 8) (hs : s < n) : upN o s n ≤ L.idxOf s ∧ L.idxOf s + dnN o s n + 1 ≤ n := by
  have h3 : L.idxOf s < L.length := List.idxOf_lt_length_iff.2 (h.mem.2 hs)
  have hl := h.len
  have h4 : upN o s n ≤ L.idxOf s := by
    refine Nat.le_trans ?_ (lt_le h.nodup (L.idxOf s))
    rw [(h.perm.filter _).length_eq]
    exact filter_le _ _ _ fun t ht hf => by
      have := List.mem_range.1 ht
      simpa using (h.idx t s (by omega) (by omega) hf).2.2
  have h5 : dnN o s n ≤ L.length - (L.idxOf s + 1) := by
    refine Nat.le_trans ?_ (gt_le h.nodup (L.idxOf s))
    rw [(h.perm.filter _).length_eq]
    exact filter_le _ _ _ fun t ht hf => by
      have := List.mem_range.1 ht
      simpa using (h.idx s t (by omega) (by omega) hf).2.2
  omega
theorem idx_mid {A B : List Nat} {x : Nat} (h : x ∉ A) : (A ++ x :: B).idxOf x = A.length := by
  rw [List.idxOf_append, if_neg h, List.idxOf_cons_self]; omega
theorem place_lo {o n x : Nat} (hc : NoC o n) (ho : Ord o) (hn : n ≤ 8) (hi : InO o n) (hx : x < n) : ∃ L, LinO o n L ∧ L.idxOf x = upN o x n := by
  have h0 := first_lin hc ho hn hi
  have hpx : fa o x x = false := hc x hx
  have hp := (part_perm h0.nodup (h0.mem.2 hx) (fun t => fa o t x) hpx).trans h0.perm
  have hpw := lin_pair hn h0
  refine ⟨_, pair_lin hc hi hp ?_, ?_⟩
  · refine List.pairwise_append.2 ⟨hpw.filter _, List.pairwise_cons.2 ⟨fun b hb => ?_, hpw.filter _⟩, fun a ha b hb => ?_⟩
    · have := (List.mem_filter.1 hb).2
      simp only [Bool.and_eq_true, Bool.not_eq_true'] at this
      exact this.1
    · obtain ⟨ha1, ha2⟩ := List.mem_filter.1 ha
      have han := h0.mem.1 ha1
      rcases List.mem_cons.1 hb with rfl | hb
      · exact hc.asym ho hn han hx ha2
      · obtain ⟨hb1, hb2⟩ := List.mem_filter.1 hb
        have hbn := h0.mem.1 hb1
        refine Bool.eq_false_iff.2 fun hf => ?_
        have := ho.tr b a x (by omega) (by omega) (by omega) hf ha2
        simp [this] at hb2
  · rw [idx_mid (fun h => by have := (List.mem_filter.1 h).2; rw [hpx] at this; cases this), (h0.perm.filter _).length_eq]
    rfl
theorem place_hi {o n x : Nat} (hc : NoC o n) (ho : Ord o) (hn : n ≤ 8) (hi : InO o n) (hx : x < n) : ∃ L, LinO o n L ∧ L.idxOf x + dnN o x n + 1 = n := by
  have h0 := first_lin hc ho hn hi
  have hpx : fa o x x = false := hc x hx
  have hP : (!fa o x x && !decide (x = x)) = false := by simp
  have hp := (part_perm h0.nodup (h0.mem.2 hx) (fun t => !fa o x t && !decide (t = x)) hP).trans h0.perm
  have e : (fun t => !(!fa o x t && !decide (t = x)) && !decide (t = x)) = fun t => fa o x t && !decide (t = x) := by
    funext t
    cases fa o x t <;> by_cases h : t = x <;> simp [h]
  rw [e] at hp
  have hpw := lin_pair hn h0
  refine ⟨_, pair_lin hc hi hp ?_, ?_⟩
  · refine List.pairwise_append.2 ⟨hpw.filter _, List.pairwise_cons.2 ⟨fun b hb => ?_, hpw.filter _⟩, fun a ha b hb => ?_⟩
    · obtain ⟨hb1, hb2⟩ := List.mem_filter.1 hb
      simp only [Bool.and_eq_true, Bool.not_eq_true'] at hb2
      exact hc.asym ho hn hx (h0.mem.1 hb1) hb2.1
    · obtain ⟨ha1, ha2⟩ := List.mem_filter.1 ha
      simp only [Bool.and_eq_true, Bool.not_eq_true'] at ha2
      have han := h0.mem.1 ha1
      rcases List.mem_cons.1 hb with rfl | hb
      · exact ha2.1
      · obtain ⟨hb1, hb2⟩ := List.mem_filter.1 hb
        simp only [Bool.and_eq_true, Bool.not_eq_true'] at hb2
        have hbn := h0.mem.1 hb1
        refine Bool.eq_false_iff.2 fun hf => ?_
        have := ho.tr x b a (by omega) (by omega) (by omega) hb2.1 hf
        rw [this] at ha2
        cases ha2.1
  · have hl := hp.length_eq
    rw [List.length_append, List.length_cons, List.length_range] at hl
    rw [idx_mid (fun h => by have := (List.mem_filter.1 h).2; simp at this)]
    have : (((firF o n n).1).filter fun t => fa o x t && !decide (t = x)).length = dnN o x n := by
      rw [(h0.perm.filter _).length_eq]
      refine congrArg List.length (List.filter_congr fun t ht => ?_)
      by_cases h : t = x
      · subst h; simp [hpx]
      · simp [h]
    omega
end Go.Proofs.YtcmpdmobmbbplaaGreat

/- Walks: a lab whose runs do not contradict each other; sets; places; how many orders fit. -/
namespace Go.Proofs.YtcmpdmobmbbplaaGreat
set_option maxRecDepth 4000
open Go Go.Eng

theorem agreed_no (w : World) (lo hi : Nat) (l : Lb) (v : Value) (h : RdR w lo hi v l.runs) (hlen : l.runs.length ≤ maxLen) (hc0 : agreedV l ≠ 0) : Ca Tryz.prog 63 [.agg (lbC l v).toArray] w fun x w' => ∃ p : Option Addr, x = .tuple #[.pointer p, .int .i64 (agreedV l)] ∧ Sat w M0 [] w' := by
  refine q_of (Sat.nil w M0) Tryz.func63 rfl (by simp [Tryz.ntmps63]) ?_
  (refine q_seq (q_region ?_))
  refine ql_box rfl rfl (fun b1 => ?_)
  rw [agg_cells]
  (refine ql_pure tabOk rfl rfl (ql_pure tabOk rfl rfl (q_nil (q_seq (q_region ?_)))); refine ql_loadABa tabOk rfl rfl rfl ?_)
  by_cases hck : checkV l = 0
  · have hl := check_iff.1 hck
    have hcf : conflB l.ord l.n = true := by
      cases hx : conflB l.ord l.n with
      | true => rfl
      | false => exact absurd (agreed_iff.2 ⟨hl, confl_iff.1 hx⟩) hc0
    have e7 : agreedV l = 7 := by unfold agreedV; rw [if_neg (by simpa using hck), if_pos hcf]
    have hcv := conf_iff.2 hcf
    refine ql_call (β := Nat) tabOk [] _ M0 rfl rfl rfl rfl (Sp.refl _) (fun _ h => h.elim) (fun w' hs => asked_ok w' lo hi l v (RdE.keep h hs.chg0) hl) ?_
    rintro b _ rfl
    dsimp only [List.cons_append, List.nil_append]
    (refine ql_pure tabOk rfl rfl (ql_ext tabOk rfl rfl rfl (ql_ext tabOk rfl rfl rfl (ql_pure tabOk rfl rfl (ql_pure tabOk rfl rfl (q_nil (q_seq (q_seq (q_region (ql_pure tabOk rfl rfl (ql_eqlT tabOk rfl rfl rfl (by omega) (ql_pure tabOk rfl rfl ?_))))))))))); refine ql_gyes rfl (ql_pure tabOk rfl rfl (ql_gyes rfl ?_)))
    refine ql_callv (val := .int .i64 (confV l.ord l.n)) tabOk rfl rfl rfl rfl (fun w hs => ?_) ?_; exact conflict_ca w b _ l v l.ord (hs.blk (by repeat constructor)) hl
    (refine ql_gyes rfl (ql_geqT tabOk rfl rfl rfl (by omega) (ql_pure tabOk rfl rfl (q_nil (q_cond_true rfl (q_region (ql_pure tabOk rfl rfl (q_nil (q_seq (q_region ?_))))))))); (iterate 4 refine ql_pure tabOk rfl rfl ?_); refine q_nil (q_ret ?_))
    refine q_fin tabOk rfl (by repeat constructor) fun w hs => ?_
    exact ⟨some ⟨b, 0, none⟩, by rw [e7]; rfl, hs.sp (by repeat constructor)⟩
  · have e : agreedV l = checkV l := by unfold agreedV; rw [if_pos hck]
    refine ql_callv (val := .tuple #[.pointer none, .int .i64 (checkV l)]) tabOk rfl rfl rfl rfl (fun w hs => ?_) ?_; exact asked_no w lo hi l v (RdE.keep h hs.chg0) hlen hck
    (refine ql_pure tabOk rfl rfl (ql_ext tabOk rfl rfl rfl (ql_ext tabOk rfl rfl rfl (ql_pure tabOk rfl rfl (ql_pure tabOk rfl rfl (q_nil (q_seq (q_seq (q_region (ql_pure tabOk rfl rfl (ql_eqlF tabOk rfl rfl rfl (by omega) (ql_pure tabOk rfl rfl ?_))))))))))); (iterate 3 refine ql_gno rfl rfl rfl ?_); refine ql_pure tabOk rfl rfl (q_nil (q_cond_false rfl (q_skip (q_seq (q_region ?_))))); (iterate 4 refine ql_pure tabOk rfl rfl ?_); refine q_nil (q_ret ?_))
    refine q_fin tabOk rfl (by repeat constructor) fun w hs => ?_
    exact ⟨none, by rw [e]; rfl, hs.sp (by repeat constructor)⟩
theorem agreed_ok (w : World) (lo hi : Nat) (l : Lb) (v : Value) (h : RdR w lo hi v l.runs) (hl : l.Ok) (hn : NoC l.ord l.n) : Ca Tryz.prog 63 [.agg (lbC l v).toArray] w fun x w' => ∃ b : Nat, x = .tuple #[.pointer (some ⟨b, 0, none⟩), .int .i64 0] ∧ Sat w M0 [.pt b (dkC l v l.ord) 122] w' := by
  refine q_of (Sat.nil w M0) Tryz.func63 rfl (by simp [Tryz.ntmps63]) ?_
  (refine q_seq (q_region ?_))
  refine ql_box rfl rfl (fun b1 => ?_)
  rw [agg_cells]
  (refine ql_pure tabOk rfl rfl (ql_pure tabOk rfl rfl (q_nil (q_seq (q_region ?_)))); refine ql_loadABa tabOk rfl rfl rfl ?_)
  have hcv : confV l.ord l.n = -1 := conf_none hn
  refine ql_call (β := Nat) tabOk [] _ M0 rfl rfl rfl rfl (Sp.refl _) (fun _ h => h.elim) (fun w' hs => asked_ok w' lo hi l v (RdE.keep h hs.chg0) hl) ?_
  rintro b _ rfl
  dsimp only [List.cons_append, List.nil_append]
  (refine ql_pure tabOk rfl rfl (ql_ext tabOk rfl rfl rfl (ql_ext tabOk rfl rfl rfl (ql_pure tabOk rfl rfl (ql_pure tabOk rfl rfl (q_nil (q_seq (q_seq (q_region (ql_pure tabOk rfl rfl (ql_eqlT tabOk rfl rfl rfl (by omega) (ql_pure tabOk rfl rfl ?_))))))))))); refine ql_gyes rfl (ql_pure tabOk rfl rfl (ql_gyes rfl ?_)))
  refine ql_callv (val := .int .i64 (-1)) tabOk rfl rfl rfl rfl (fun w hs => ?_) ?_; exact by have := conflict_ca w b _ l v l.ord (hs.blk (by repeat constructor)) hl; rw [hcv] at this; exact this
  (refine ql_gyes rfl (ql_geqF tabOk rfl rfl rfl (by omega) (ql_pure tabOk rfl rfl (q_nil (q_cond_false rfl (q_skip (q_seq (q_region ?_))))))); (iterate 4 refine ql_pure tabOk rfl rfl ?_); refine q_nil (q_ret ?_))
  refine q_fin tabOk rfl (by repeat constructor) fun w hs => ?_
  exact ⟨b, rfl, hs.sp (by repeat constructor)⟩
end Go.Proofs.YtcmpdmobmbbplaaGreat

/- The engine, part B29: bits of numbers joined. -/
namespace Go.Eng
set_option maxRecDepth 4000
open Go Go.RowKit

section
variable {P : Program} {ro : Cx} {n : Nat} {F : Fin} {w0 : World} {M : Nat → Prop} {k : List It} {ops : Array Oper} {rest : List Oper} {e : Env} {H Hq : List Ck}
theorem bit_int (S s : Nat) : ((S : Int) / 2 ^ (s : Int).toNat) % 2 = ((S.testBit s).toNat : Int) := by
  rw [Nat.toNat_testBit, Int.toNat_natCast]
  norm_cast
theorem run_orN {a b : Nat} (ha : a < 9223372036854775808) (hb : b < 9223372036854775808) (w : World) : (Op.intBits .or .i64 (a : Int) (b : Int)).run P w = .ok (.int .i64 ((a ||| b : Nat) : Int)) w := by
  have h1 : (BitVec.ofInt IntKind.i64.bits (a : Int) ||| BitVec.ofInt IntKind.i64.bits (b : Int)).toNat = a ||| b := by
    rw [BitVec.toNat_or]
    have h1 : (BitVec.ofInt IntKind.i64.bits (a : Int)).toNat = a := by
      show (BitVec.ofInt 64 (a : Int)).toNat = a
      simp [BitVec.toNat_ofInt]; omega
    have h2 : (BitVec.ofInt IntKind.i64.bits (b : Int)).toNat = b := by
      show (BitVec.ofInt 64 (b : Int)).toNat = b
      simp [BitVec.toNat_ofInt]; omega
    rw [h1, h2]
  have h2 : a ||| b < 2 ^ 63 := Nat.or_lt_two_pow (by simpa using ha) (by simpa using hb)
  simp only [Op.intBits]
  rw [h1, w64 (by omega) (by omega)]
  rfl
theorem ql_orN {d t t' : Nat} {x y : Operand} {a b : Nat} {ty : TypeId} {pos : String} {af : Array Edge} (hx : opv e x = some (.int .i64 a)) (hy : opv e y = some (.int .i64 b)) (hd : Nat.blt d n = true) (ha : a < 9223372036854775808) (hb : b < 9223372036854775808)
    (h : QL P ro n F w0 M k ops rest ((d, .int .i64 ((a ||| b : Nat) : Int)) :: e) H) : QL P ro n F w0 M k ops (⟨some d, .binOp .or t x y t', ty, pos, af, none⟩ :: rest) e H := .mk fun w hw =>
  yl_val (by simp) hd (fun a' hf => by
    have e1 := hf.op hx
    have e2 := hf.op hy
    simp only [execOp, e1, e2]
    have := run_orN (P := P) ha hb w
    simp [eqGuard, binOp, this]) (h.h w hw)
end
end Go.Eng

/- Walks: sets; places; how many orders fit. -/
namespace Go.Proofs.YtcmpdmobmbbplaaGreat
set_option maxRecDepth 4000
open Go Go.Eng

theorem free_false {o n s S : Nat} (h : ¬ (S.testBit s = false ∧ ∀ t, t < n → fa o t s = true → S.testBit t = true)) : freeO o n s S = false := by
  cases hx : freeO o n s S with
  | false => rfl
  | true => exact absurd (free_iff.1 hx) h
theorem Lb.Ok.nat {l : Lb} (hl : l.Ok) : ∃ n : Nat, l.skis = (n : Int) ∧ l.n = n ∧ n ≤ 8 ∧ 1 ≤ n := by
  obtain ⟨n, hn⟩ := Int.eq_ofNat_of_zero_le (show 0 ≤ l.skis by have := hl.s0; omega)
  have := hl.s0
  have := hl.s1
  exact ⟨n, hn, by unfold Lb.n; omega, by omega, by omega⟩
theorem free_ca (w : World) (b : Nat) (t : TypeId) (l : Lb) (v : Value) (o s S : Nat) (hb : Blk w b (dkC l v o) t) (hl : l.Ok) (hs8 : s < l.n) (hS : S < 256) : Ca Tryz.prog 82 [.pointer (some ⟨b, 0, none⟩), .int .i64 s, .int .i64 S] w fun x w' => x = .bool (freeO o l.n s S) ∧ Chg [] w w' := by
  obtain ⟨n, hn, hn', h8, h1⟩ := hl.nat
  rw [hn'] at hs8 ⊢
  have hbd : ∀ k : Nat, 0 ≤ (S : Int) / 2 ^ k ∧ (S : Int) / 2 ^ k < 9223372036854775808 := fun k => ⟨Int.ediv_nonneg (by omega) (Int.le_of_lt (Int.pow_pos (by omega))), Int.lt_of_le_of_lt (Int.ediv_le_self _ (by omega)) (by omega)⟩
  refine q_of (Sat.nil w M0) Tryz.func82 rfl (by simp [Tryz.ntmps82]) ?_
  (refine q_seq (q_region (ql_pure tabOk rfl rfl (q_nil (q_seq (q_seq (q_region (ql_pure tabOk rfl rfl (ql_pure tabOk rfl rfl ?_)))))))))
  refine ql_shr rfl rfl rfl (by omega) (by omega) ?_
  skip
  refine ql_and1 rfl rfl rfl (hbd _) ?_
  rw [bit_int]
  cases hx : S.testBit s with
  | true =>
    rw [show (((true).toNat : Nat) : Int) = 1 from rfl]
    (refine ql_eqlT tabOk rfl rfl rfl (by omega) (q_nil (q_cond_true rfl (q_seq (q_region (ql_pure tabOk rfl rfl (q_nil (q_ret ?_))))))))
    refine q_fin tabOk rfl (by repeat constructor) fun w hs => ?_
    exact ⟨by rw [free_false (by rintro ⟨h, _⟩; rw [hx] at h; cases h)]; rfl, hs.chg0⟩
  | false =>
    rw [show (((false).toNat : Nat) : Int) = 0 from rfl]
    (refine ql_eqlF tabOk rfl rfl rfl (by omega) (q_nil (q_cond_false rfl (q_skip (q_seq (q_seq (q_region ?_)))))); (iterate 4 refine ql_pure tabOk rfl rfl ?_); refine ql_loadP tabOk rfl rfl rfl (by assumption) (by rfl) ?_; refine ql_pure tabOk rfl rfl (q_nil (q_block ?_)))
    rw [hn]
    refine q_loop (σ := Nat) (fun u => u ≤ n ∧ ∀ t, t < u → fa o t s = true → S.testBit t = true) (fun u => n - u) (fun u => [(0, .pointer (some ⟨b, 0, none⟩)), (1, .int .i64 s), (2, .int .i64 S), (17, .int .i64 n), (18, .int .i64 u)]) (fun _ => []) 0 ⟨by omega, fun t ht => by omega⟩ ⟨rfl, rfl, rfl, rfl, rfl, trivial⟩ (by repeat constructor) ?_
    rintro u ⟨hu1, hu2⟩ K hK
    (refine q_seq (q_region (ql_pure tabOk rfl rfl (q_nil (q_seq ?_)))))
    refine q_if rfl (fun hc => ?_) (fun hc => ?_)
    · have hu3 : u < n := by omega
      clear hc
      (refine q_skip (q_seq (q_block (q_seq (q_region (ql_pure tabOk rfl rfl (ql_pure tabOk rfl rfl (q_nil (q_seq (q_region ?_))))))))); (iterate 5 refine ql_pure tabOk rfl rfl ?_))
      refine ql_indexA (len := 8) o_arr rfl rfl rfl (by omega) (by omega) ?_
      skip
      refine ql_indexA (len := 8) r_arr rfl rfl rfl (by omega) (by omega) ?_
      skip
      refine ql_load1 (v := .bool (fa o u s)) tabOk rfl rfl rfl (fun w hs => d_cell (hb.keep hs.chg0) u s (by omega) (by omega) (by omega)) ?_
      cases hf : fa o u s with
      | true =>
        (refine ql_pure tabOk rfl rfl (ql_gyes rfl (ql_pure tabOk rfl rfl (ql_gyes rfl (ql_pure tabOk rfl rfl (ql_gyes rfl ?_))))))
        refine ql_shr rfl rfl rfl (by omega) (by omega) ?_
        (refine ql_gyes rfl ?_)
        refine ql_and1 rfl rfl rfl (hbd _) ?_
        rw [bit_int]
        cases hy : S.testBit u with
        | true =>
          rw [show (((true).toNat : Nat) : Int) = 1 from rfl]
          (refine ql_gyes rfl (ql_eqlF tabOk rfl rfl rfl (by omega) (ql_pure tabOk rfl rfl (q_nil (q_cond_false rfl (q_skip (q_blk (q_region (ql_ar tabOk rfl rfl rfl rfl (by omega) (by omega) (ql_pure tabOk rfl rfl (q_nil ?_)))))))))))
          exact hK (u + 1) _ _ ⟨by omega, fun t ht h => by
            by_cases e : t = u
            · rw [e]; exact hy
            · exact hu2 t (by omega) h⟩ (by omega) ⟨rfl, rfl, rfl, rfl, rfl, trivial⟩ (by repeat constructor)
        | false =>
          rw [show (((false).toNat : Nat) : Int) = 0 from rfl]
          (refine ql_gyes rfl (ql_eqlT tabOk rfl rfl rfl (by omega) (ql_pure tabOk rfl rfl (q_nil (q_cond_true rfl (q_seq (q_region (ql_pure tabOk rfl rfl (q_nil (q_ret ?_))))))))))
          refine q_fin tabOk rfl (by repeat constructor) fun w hs => ?_
          exact ⟨by rw [free_false (by rintro ⟨_, h⟩; rw [h u hu3 hf] at hy; cases hy)]; rfl, hs.chg0⟩
      | false =>
        (refine ql_pure tabOk rfl rfl ?_; (iterate 5 refine ql_gno rfl rfl rfl ?_); refine ql_pure tabOk rfl rfl (q_nil (q_cond_false rfl (q_skip (q_blk (q_region (ql_ar tabOk rfl rfl rfl rfl (by omega) (by omega) (ql_pure tabOk rfl rfl (q_nil ?_)))))))))
        exact hK (u + 1) _ _ ⟨by omega, fun t ht h => by
          by_cases e : t = u
          · rw [e, hf] at h; cases h
          · exact hu2 t (by omega) h⟩ (by omega) ⟨rfl, rfl, rfl, rfl, rfl, trivial⟩ (by repeat constructor)
    · have hun : u = n := by omega
      subst hun
      (refine q_exit _ rfl (q_seq (q_region (ql_pure tabOk rfl rfl (q_nil (q_ret ?_))))))
      refine q_fin tabOk rfl (by repeat constructor) fun w hs => ?_
      exact ⟨by rw [free_iff.2 ⟨hx, hu2⟩]; rfl, hs.chg0⟩

/-- Places, as cells. -/
def plC (l : Lb) (o k : Nat) : List (Int × Int) := (List.range k).map fun s => ((1 + upN o s l.n : Nat), l.skis - dnN o s l.n)
theorem plC_len (l : Lb) (o k : Nat) : (plC l o k).length = k := by simp [plC]
theorem plC_succ (l : Lb) (o k : Nat) : spC (plC l o (k + 1)) = spC (plC l o k) ++ [.int .i64 ((1 + upN o k l.n : Nat) : Int), .int .i64 (l.skis - dnN o k l.n)] := by
  unfold plC
  rw [List.range_succ, List.map_append]
  simp [spC]
theorem Blk.rdN {w : World} {b : Nat} {cs : List Value} {t : TypeId} {c sz q : Nat} (h : Blk w b cs t) (hl : cs.length = q * sz) : Rd w 0 w.heap.size (.slice (some ⟨b, 0, none⟩) q c) sz q cs :=
  ⟨hl, .inr ⟨b, 0, c, rfl, fun _ => ⟨Nat.zero_le _, h.lt, h.lt⟩, fun j _ => by rw [Blk.cell h]; simp⟩⟩
theorem slS : SlT Tryz.prog 59 64 2 16 (.agg #[.int .i64 0, .int .i64 0]) := ⟨by kernel_rfl, by kernel_rfl, by kernel_rfl, by decide⟩
theorem places_ok (w : World) (lo hi : Nat) (l : Lb) (v : Value) (h : RdR w lo hi v l.runs) (hl : l.Ok) (hn : NoC l.ord l.n) : Ca Tryz.prog 28 [.agg (lbC l v).toArray] w fun x w' => ∃ u : Value, x = .tuple #[u, .int .i64 0] ∧ Sat w M0 [.ow u 64 2 l.n (spC (plC l l.ord l.n))] w' := by
  obtain ⟨n, en, hn', h8, h1⟩ := hl.nat
  refine q_of (Sat.nil w M0) Tryz.func28 rfl (by simp [Tryz.ntmps28]) ?_
  (refine q_seq (q_region ?_))
  refine ql_box rfl rfl (fun b1 => ?_)
  rw [agg_cells]
  (refine ql_pure tabOk rfl rfl (ql_pure tabOk rfl rfl (q_nil (q_seq (q_region ?_)))); refine ql_loadABa tabOk rfl rfl rfl ?_)
  refine ql_call (β := Nat) tabOk [] _ M0 rfl rfl rfl rfl (Sp.refl _) (fun _ h => h.elim) (fun w' hs => agreed_ok w' lo hi l v (RdE.keep h hs.chg0) hl hn) ?_
  rintro b _ rfl
  dsimp only [List.cons_append, List.nil_append]
  (refine ql_pure tabOk rfl rfl (ql_ext tabOk rfl rfl rfl (ql_ext tabOk rfl rfl rfl (ql_pure tabOk rfl rfl (ql_pure tabOk rfl rfl (q_nil (q_seq (q_seq (q_region (ql_pure tabOk rfl rfl (ql_neqF tabOk rfl rfl rfl (by omega) (q_nil ?_))))))))))); refine q_cond_false rfl (q_skip (q_seq (q_region (ql_pure tabOk rfl rfl (q_nil (q_seq (q_seq (q_region ?_)))))))); (iterate 4 refine ql_pure tabOk rfl rfl ?_); refine ql_loadBa tabOk rfl rfl rfl ?_; refine ql_pure tabOk rfl rfl (q_nil (q_block ?_)))
  rw [en]
  refine q_conv (H' := [.ow (.slice none 0 0) 64 2 0 (spC (plC l l.ord 0)), .pt b (dkC l v l.ord) 122]) (fun w' hs => (Sat.ownil hs 64 2).sp (by repeat constructor)) ?_
  refine q_loop (σ := Nat × Value) (fun y => y.1 ≤ n) (fun y => n - y.1) (fun y => [(4, .pointer (some ⟨b, 0, none⟩)), (6, y.2), (22, .int .i64 n), (23, .int .i64 y.1)]) (fun y => [.ow y.2 64 2 y.1 (spC (plC l l.ord y.1)), .pt b (dkC l v l.ord) 122]) (0, .slice none 0 0) (by simp only; omega) ⟨rfl, rfl, rfl, rfl, trivial⟩ (by repeat constructor) ?_
  rintro ⟨s, u⟩ hs1 K hK
  dsimp only at hs1 ⊢
  (refine q_seq (q_region (ql_pure tabOk rfl rfl (q_nil (q_seq ?_)))))
  refine q_if rfl (fun hc => ?_) (fun hc => ?_)
  · have hs2 : s < n := by omega
    clear hc
    have b1' := upN_le l.ord s n
    have b2' := dnN_le l.ord s n
    (refine q_skip (q_seq (q_block (q_seq (q_region (ql_pure tabOk rfl rfl (ql_pure tabOk rfl rfl (q_nil (q_seq ?_)))))))))
    refine q_draw _ [] (Sp.refl _) (by kernel_rfl) (by kernel_rfl) ?_
    ((iterate 3 refine qf_pure tabOk rfl rfl rfl ?_); refine qf_loadABa tabOk rfl rfl rfl ?_; (iterate 5 refine qf_pure tabOk rfl rfl rfl ?_); refine qf_loadBa tabOk rfl rfl rfl ?_)
    rw [dk_take, en]
    refine qf_callv (val := .tuple #[.int .i64 (upN l.ord s n), .int .i64 (dnN l.ord s n)]) tabOk rfl rfl rfl rfl (fun w hs => ?_) ?_; exact place_ca w l.ord s n (by omega) h8
    (refine qf_pure tabOk rfl rfl rfl (qf_ext tabOk rfl rfl rfl (qf_ext tabOk rfl rfl rfl (qf_pure tabOk rfl rfl rfl (qf_pure tabOk rfl rfl rfl (qf_nil (q_region (ql_pure tabOk rfl rfl (ql_pure tabOk rfl rfl (ql_ar tabOk rfl rfl rfl rfl (by omega) (by omega) ?_))))))))); (iterate 4 refine ql_pure tabOk rfl rfl ?_); refine ql_loadBa tabOk rfl rfl rfl ?_; refine ql_pure tabOk rfl rfl (ql_ar tabOk rfl rfl rfl rfl (by omega) (by omega) ?_))
    refine ql_mk #[.int .i64 (1 + (upN l.ord s n : Nat)), .int .i64 (l.skis - (dnN l.ord s n : Nat))] rfl (by kernel_rfl) rfl ?_
    skip
    refine ql_mkS 64 [.int .i64 (1 + (upN l.ord s n : Nat)), .int .i64 (l.skis - (dnN l.ord s n : Nat))] rfl (by kernel_rfl) rfl (fun bn => ?_)
    skip
    refine ql_append (q := 1) (news := [.int .i64 (1 + (upN l.ord s n : Nat)), .int .i64 (l.skis - (dnN l.ord s n : Nat))]) slS rfl rfl rfl (fun v' => by repeat constructor) (fun w' hs => ⟨_, _, Blk.rdN (hs.blk (b := bn) (by repeat constructor)) rfl⟩) (by simp [oneV]) (by omega) (by omega) (fun u' => ?_)
    (refine ql_pure tabOk rfl rfl (q_nil (q_blk (q_region (ql_ar tabOk rfl rfl rfl rfl (by omega) (by omega) (ql_pure tabOk rfl rfl (q_nil ?_)))))))
    exact hK (s + 1, u') _ _ (by simp only; omega) (by simp only; omega) ⟨rfl, rfl, rfl, rfl, trivial⟩ (by dsimp only; rw [plC_succ, hn']; repeat constructor)
  · have hsn : n = s := by omega
    subst hsn
    (refine q_exit _ rfl (q_seq (q_region ?_)); (iterate 3 refine ql_pure tabOk rfl rfl ?_); refine q_nil (q_ret ?_))
    refine q_fin tabOk rfl (by repeat constructor) fun w hs => ?_
    rw [hn']
    exact ⟨u, rfl, hs.sp (by repeat constructor)⟩
end Go.Proofs.YtcmpdmobmbbplaaGreat

/- Walks: how many orders fit. -/
namespace Go.Proofs.YtcmpdmobmbbplaaGreat
set_option maxRecDepth 4000
open Go Go.Eng

theorem slI : SlT Tryz.prog 48 3 1 8 (.int .i64 0) := ⟨by kernel_rfl, by kernel_rfl, by kernel_rfl, by decide⟩
set_option maxHeartbeats 2000000 in
theorem orders_ok (w : World) (lo hi : Nat) (l : Lb) (v : Value) (h : RdR w lo hi v l.runs) (hl : l.Ok) (hn : NoC l.ord l.n) : Ca Tryz.prog 29 [.agg (lbC l v).toArray] w fun x w' => x = .tuple #[.int .i64 (cnt l.ord l.n (2 ^ l.n - 1)), .int .i64 0] ∧ Chg [] w w' := by
  obtain ⟨n, en, hn', h8, h1⟩ := hl.nat
  have hp : 2 ^ n ≤ 256 := Nat.pow_le_pow_right (n := 2) (j := 8) (by omega) h8
  have hp1 : 2 ≤ 2 ^ n := Nat.pow_le_pow_right (n := 2) (i := 1) (by omega) h1
  have ep : (2 : Int) ^ n = ((2 ^ n : Nat) : Int) := by norm_cast
  rw [hn']
  refine q_of (Sat.nil w M0) Tryz.func29 rfl (by simp [Tryz.ntmps29]) ?_
  (refine q_seq (q_region ?_))
  refine ql_box rfl rfl (fun b1 => ?_)
  rw [agg_cells]
  (refine ql_pure tabOk rfl rfl (ql_pure tabOk rfl rfl (q_nil (q_seq (q_region ?_)))); refine ql_loadABa tabOk rfl rfl rfl ?_)
  refine ql_call (β := Nat) tabOk [] _ M0 rfl rfl rfl rfl (Sp.refl _) (fun _ h => h.elim) (fun w' hs => agreed_ok w' lo hi l v (RdE.keep h hs.chg0) hl hn) ?_
  rintro b _ rfl
  dsimp only [List.cons_append, List.nil_append]
  (refine ql_pure tabOk rfl rfl (ql_ext tabOk rfl rfl rfl (ql_ext tabOk rfl rfl rfl (ql_pure tabOk rfl rfl (ql_pure tabOk rfl rfl (q_nil (q_seq (q_seq (q_region (ql_pure tabOk rfl rfl (ql_neqF tabOk rfl rfl rfl (by omega) (q_nil ?_))))))))))); refine q_cond_false rfl (q_skip (q_seq (q_region ?_))); (iterate 4 refine ql_pure tabOk rfl rfl ?_); refine ql_loadBa tabOk rfl rfl rfl ?_)
  rw [en]
  refine ql_shl rfl rfl rfl (by omega) (by rw [Int.toNat_natCast, ep]; omega) (by rw [Int.toNat_natCast, ep]; omega) ?_
  rw [Int.toNat_natCast, ep, Int.one_mul]
  generalize hN : 2 ^ n = N at *
  skip
  refine ql_makeI slI rfl rfl rfl (by omega) (fun b24 => ?_)
  (refine ql_pure tabOk rfl rfl (q_nil (q_seq (q_region (ql_pure tabOk rfl rfl ?_)))))
  refine ql_index tabOk rfl rfl rfl rfl rfl (by omega) (by omega) ?_
  have h0 : 0 < (List.replicate N (0 : Int)).length := by simp; omega
  refine ql_storeI tabOk (0) rfl rfl rfl (by repeat constructor) (by first | rfl | omega | simp) h0 ?_
  (refine q_nil (q_seq (q_seq (q_region ?_))); (iterate 3 refine ql_pure tabOk rfl rfl ?_); refine q_nil (q_block ?_))
  have e0 : (List.replicate N (0 : Int)).set 0 1 = mmL l.ord n 0 0 := by rw [← hN]; exact mmL_first l.ord n
  rw [e0]
  have hL : ∀ S k, (mmL l.ord n S k).length = N := fun S k => by rw [mmL_len, hN]
  have sh1 : ∀ k : Nat, (1 : Int) * 2 ^ (k : Int).toNat = ((2 ^ k : Nat) : Int) := fun k => by rw [Int.one_mul, Int.toNat_natCast]; norm_cast
  refine q_loop (σ := Nat) (fun S => S ≤ N) (fun S => N - S) (fun S => [(4, .pointer (some ⟨b, 0, none⟩)), (6, .slice (some ⟨b24, 0, none⟩) N N), (27, .slice (some ⟨b24, 0, none⟩) N N), (28, .int .i64 N), (29, .int .i64 S)]) (fun S => [.pt b24 (ints (mmL l.ord n S 0)) 3, .pt b (dkC l v l.ord) 122]) 0 (by omega) ⟨rfl, rfl, rfl, rfl, rfl, trivial⟩ (by repeat constructor) ?_
  rintro S hS K hK
  (refine q_seq (q_region (ql_pure tabOk rfl rfl (q_nil (q_seq ?_)))))
  refine q_if rfl (fun hc => ?_) (fun hc => ?_)
  · have hS2 : S < N := by omega
    clear hc
    (refine q_skip (q_seq (q_block (q_seq (q_region (ql_pure tabOk rfl rfl ?_))))))
    have hi : S < (mmL l.ord n S 0).length := by rw [hL]; exact hS2
    have hcb := cnt_bd (o := l.ord) h8 S
    refine ql_index tabOk rfl rfl rfl rfl rfl (by omega) (by omega) ?_
    refine ql_loadI tabOk (S) rfl rfl rfl (by repeat constructor) (by first | rfl | omega | simp) hi ?_
    rw [show (mmL l.ord n S 0)[S] = ((cnt l.ord n S : Nat) : Int) from by rw [mmL_get (by rw [hN]; exact hS2), mm_self]]
    (refine ql_pure tabOk rfl rfl (ql_pure tabOk rfl rfl (q_nil (q_seq (q_region ?_)))); (iterate 4 refine ql_pure tabOk rfl rfl ?_); refine ql_loadBa tabOk rfl rfl rfl ?_; refine ql_pure tabOk rfl rfl (q_nil (q_block ?_)))
    rw [en]
    refine q_loop (σ := Nat) (fun k => k ≤ n) (fun k => n - k) (fun k => [(4, .pointer (some ⟨b, 0, none⟩)), (6, .slice (some ⟨b24, 0, none⟩) N N), (7, .int .i64 S), (8, .int .i64 (cnt l.ord n S : Nat)), (27, .slice (some ⟨b24, 0, none⟩) N N), (28, .int .i64 N), (29, .int .i64 S), (38, .int .i64 n), (39, .int .i64 k)]) (fun k => [.pt b24 (ints (mmL l.ord n S k)) 3, .pt b (dkC l v l.ord) 122]) 0 (by omega) ⟨rfl, rfl, rfl, rfl, rfl, rfl, rfl, rfl, rfl, trivial⟩ (by repeat constructor) ?_
    rintro k hk K2 hK2
    (refine q_seq (q_region (ql_pure tabOk rfl rfl (q_nil (q_seq ?_)))))
    refine q_if rfl (fun hc => ?_) (fun hc => ?_)
    · have hk2 : k < n := by omega
      clear hc
      by_cases hz : cnt l.ord n S = 0
      · (refine q_skip (q_seq (q_block (q_seq (q_region (ql_pure tabOk rfl rfl (ql_pure tabOk rfl rfl (q_nil (q_seq (q_region (ql_pure tabOk rfl rfl (ql_gtrF tabOk rfl rfl rfl (by omega) ?_))))))))))); refine ql_pure tabOk rfl rfl ?_; (iterate 4 refine ql_gno rfl rfl rfl ?_); refine ql_pure tabOk rfl rfl (q_nil (q_cond_false rfl (q_skip (q_blk (q_region (ql_ar tabOk rfl rfl rfl rfl (by omega) (by omega) (ql_pure tabOk rfl rfl (q_nil ?_)))))))))
        exact hK2 (k + 1) _ _ (by omega) (by omega) ⟨rfl, rfl, rfl, rfl, rfl, rfl, rfl, rfl, rfl, trivial⟩ (by rw [← mmL_same (.inr hz)]; repeat constructor)
      · (refine q_skip (q_seq (q_block (q_seq (q_region (ql_pure tabOk rfl rfl (ql_pure tabOk rfl rfl (q_nil (q_seq (q_region (ql_pure tabOk rfl rfl (ql_gtrT tabOk rfl rfl rfl (by omega) ?_))))))))))); refine ql_pure tabOk rfl rfl (ql_gyes rfl (ql_pure tabOk rfl rfl (ql_gyes rfl (ql_pure tabOk rfl rfl (ql_gyes rfl (ql_pure tabOk rfl rfl (ql_gyes rfl ?_))))))))
        refine ql_callv (val := .bool (freeO l.ord n k S)) tabOk rfl rfl rfl rfl (fun w hs => ?_) ?_; exact by have := free_ca w b _ l v l.ord k S (hs.blk (by repeat constructor)) hl (by omega) (by omega); rw [hn'] at this; exact this
        cases hf : freeO l.ord n k S with
        | false =>
          (refine ql_pure tabOk rfl rfl (q_nil (q_cond_false rfl (q_skip (q_blk (q_region (ql_ar tabOk rfl rfl rfl rfl (by omega) (by omega) (ql_pure tabOk rfl rfl (q_nil ?_)))))))))
          exact hK2 (k + 1) _ _ (by omega) (by omega) ⟨rfl, rfl, rfl, rfl, rfl, rfl, rfl, rfl, rfl, trivial⟩ (by rw [← mmL_same (.inl hf)]; repeat constructor)
        | true =>
          have hkp : 2 ^ k < N := by rw [← hN]; exact Nat.pow_lt_pow_right (by omega) hk2
          have hor : S ||| 2 ^ k < N := by rw [← hN]; exact Nat.or_lt_two_pow (by rw [hN]; exact hS2) (by rw [hN]; exact hkp)
          have hmb := mm_bd (o := l.ord) (S := S) (k := k) (T := S ||| 2 ^ k) h8
          (refine ql_pure tabOk rfl rfl (q_nil (q_cond_true rfl (q_region ?_))); (iterate 3 refine ql_pure tabOk rfl rfl ?_))
          obtain ⟨pk, hpk⟩ : ∃ p, p = 2 ^ k := ⟨_, rfl⟩
          have sh2 : (1 : Int) * 2 ^ (k : Int).toNat = (pk : Int) := by rw [sh1, hpk]
          rw [← hpk] at hkp hor hmb
          have hadd := mmL_add (o := l.ord) (n := n) (S := S) hk2 hf
          rw [← hpk] at hadd
          refine ql_shl rfl rfl rfl (by omega) (by rw [sh2]; omega) (by rw [sh2]; omega) ?_
          rw [sh2]
          skip
          refine ql_orN rfl rfl rfl (by omega) (by omega) ?_
          skip
          have hi2 : (S ||| pk) < (mmL l.ord n S k).length := by rw [hL]; exact hor
          refine ql_index tabOk rfl rfl rfl rfl rfl (by omega) (by omega) ?_
          refine ql_loadI tabOk (S ||| pk) rfl rfl rfl (by repeat constructor) (by first | rfl | omega | simp) hi2 ?_
          rw [show (mmL l.ord n S k)[S ||| pk] = ((mm l.ord n S k (S ||| pk) : Nat) : Int) from mmL_get (by rw [hN]; exact hor)]
          (refine ql_pure tabOk rfl rfl (ql_ar tabOk rfl rfl rfl rfl (by omega) (by omega) ?_))
          refine ql_index tabOk rfl rfl rfl rfl rfl (by omega) (by omega) ?_
          refine ql_storeI tabOk (S ||| pk) rfl rfl rfl (by repeat constructor) (by first | rfl | omega | simp) hi2 ?_
          (refine q_nil (q_blk (q_region (ql_ar tabOk rfl rfl rfl rfl (by omega) (by omega) (ql_pure tabOk rfl rfl (q_nil ?_))))))
          exact hK2 (k + 1) _ _ (by omega) (by omega) ⟨rfl, rfl, rfl, rfl, rfl, rfl, rfl, rfl, rfl, trivial⟩ (by rw [← hadd]; repeat constructor)
    · have hkn : n = k := by omega
      subst hkn
      clear hc hK2 hk
      (refine q_exit _ rfl (q_blk (q_region (ql_ar tabOk rfl rfl rfl rfl (by omega) (by omega) (ql_pure tabOk rfl rfl (q_nil ?_))))))
      exact hK (S + 1) _ _ (by omega) (by omega) ⟨rfl, rfl, rfl, rfl, rfl, trivial⟩ (by rw [← mmL_next]; repeat constructor)
  · have hSN : N = S := by omega
    clear hc hK
    (refine q_exit _ rfl (q_seq (q_region ?_)); (iterate 3 refine ql_pure tabOk rfl rfl ?_); refine ql_ar tabOk rfl rfl rfl rfl (by omega) (by omega) ?_)
    have hi3 : N - 1 < (mmL l.ord n S 0).length := by rw [hL]; omega
    refine ql_index tabOk rfl rfl rfl rfl rfl (by omega) (by omega) ?_
    refine ql_loadI tabOk (N - 1) rfl rfl rfl (by repeat constructor) (by first | rfl | omega | simp) hi3 ?_
    (refine ql_pure tabOk rfl rfl (ql_pure tabOk rfl rfl (q_nil (q_ret ?_))))
    refine q_fin tabOk rfl (by repeat constructor) fun w hs => ?_
    refine ⟨?_, hs.chg0⟩
    have e9 : (mmL l.ord n S 0)[N - 1] = ((cnt l.ord n (N - 1) : Nat) : Int) := by
      rw [mmL_get (by rw [hN]; omega)]
      have e8 : mm l.ord n S 0 (N - 1) = cnt l.ord n (N - 1) := by
        obtain ⟨M, hM⟩ : ∃ M, N = M + 1 := ⟨N - 1, by omega⟩
        rw [← hSN, hM, Nat.add_sub_cancel, ← mm_next, ← mm_self l.ord n M]
        unfold mm
        split
        · rfl
        · refine sumN_congr n fun s hs => ?_
          unfold mmT
          cases ht : M.testBit s with
          | false => rfl
          | true =>
            have := xor_lt ht
            simp [this]
      rw [e8]
    rw [e9]
    rfl
end Go.Proofs.YtcmpdmobmbbplaaGreat

/- The engine, part B30: arrays of arrays of Bools: compared, and as keys of maps. -/
namespace Go.Eng
set_option maxRecDepth 4000
open Go Go.RowKit

section
variable {P : Program}
def arr2B (P : Program) (t e b n1 n2 : Nat) : Bool :=
  !(P.eqGuardType P.depth t) && (match P.underlying t with | some (.array n' e') => Nat.beq n' n1 && Nat.beq e' e | _ => false) && (Nat.beq (P.cellsOf e) n2 && (P.info? e).isSome) && arrQB P e n2 b && (match P.underlying e with | some (.array _ _) => true | _ => false) && (P.info? b).isSome && Nat.beq (P.cellsOf b) 1
structure Arr2 (P : Program) (t e b n1 n2 : Nat) : Prop where
  g : P.eqGuardType P.depth t = false
  u : P.underlying t = some (.array n1 e)
  c : P.cellsOf e = n2
  i : (P.info? e).isSome = true
  q : arrQB P e n2 b = true
  v : ∃ n' e', P.underlying e = some (.array n' e')
theorem arr2_spec {t e b n1 n2 : Nat} (h : arr2B P t e b n1 n2 = true) : Arr2 P t e b n1 n2 := by
  simp only [arr2B, Bool.and_eq_true, Bool.not_eq_true'] at h
  obtain ⟨⟨⟨⟨⟨⟨h1, h2⟩, h3, h4⟩, h5⟩, h6⟩, _⟩, _⟩ := h
  refine ⟨h1, ?_, Nat.eq_of_beq_eq_true h3, h4, h5, ?_⟩
  · split at h2
    · rename_i n' e' hu
      simp only [Bool.and_eq_true] at h2
      rw [hu, Nat.eq_of_beq_eq_true h2.1, Nat.eq_of_beq_eq_true h2.2]
    · cases h2
  · split at h6
    · rename_i hu; exact ⟨_, _, hu⟩
    · cases h6
theorem run_partArr {t n n' e' : Nat} (hu : P.underlying t = some (.array n' e')) (hc : P.cellsOf t = n) (hi : (P.info? t).isSome = true) (xs : List Value) (o : Nat) (w : World) : (part t xs.toArray o).run P w = .ok (.agg ((xs.drop o).take n).toArray) w := by
  obtain ⟨i, hi⟩ := Option.isSome_iff_exists.1 hi
  have e : xs.toArray.extract o (o + n) = ((xs.drop o).take n).toArray := by
    apply Array.ext'
    simp [List.extract_eq_take_drop]
  simp [part, isAgg, run_underlying hu, run_sizeOf w hi, hc, e]
theorem eqBL_app : ∀ (a c b d : List Bool), a.length = c.length → eqBL (a ++ b) (c ++ d) = (eqBL a c && eqBL b d)
  | [], [], b, d, _ => by simp [eqBL]
  | x :: a, y :: c, b, d, h => by
    simp only [List.cons_append, eqBL, eqBL_app a c b d (by simpa using h), Bool.and_assoc]
theorem take_add' {α : Type} (l : List α) (a b : Nat) : l.take (a + b) = l.take a ++ (l.drop a).take b := List.take_add
theorem eqItems_rows {t e b n1 n2 : Nat} (h : Arr2 P t e b n1 n2) (d : Nat) (w : World) (l m : List Bool) : ∀ (j k : Nat), (k + j) * n2 ≤ l.length → (k + j) * n2 ≤ m.length →
    (Go.Op.eqItems (d + 2) e n2 (l.map Value.bool).toArray (m.map Value.bool).toArray (List.range' k j)).run P w = .ok (eqBL ((l.drop (k * n2)).take (j * n2)) ((m.drop (k * n2)).take (j * n2))) w
  | 0, k, _, _ => by simp [Go.Op.eqItems, eqBL]
  | j + 1, k, hl, hm => by
    have e1 : (k + (j + 1)) * n2 = (k * n2 + n2) + j * n2 := by rw [Nat.add_mul, Nat.succ_mul]; omega
    have ih := eqItems_rows h d w l m j (k + 1) (by rw [show k + 1 + j = k + (j + 1) from by omega]; exact hl) (by rw [show k + 1 + j = k + (j + 1) from by omega]; exact hm)
    obtain ⟨n', e', hu⟩ := h.v
    have p1 := run_partArr (P := P) hu h.c h.i (l.map Value.bool) (k * n2) w
    have p2 := run_partArr (P := P) hu h.c h.i (m.map Value.bool) (k * n2) w
    rw [← List.map_drop, ← List.map_take] at p1 p2
    have q := run_eqArr h.q (l := (l.drop (k * n2)).take n2) (m := (m.drop (k * n2)).take n2) (by simp; omega) (by simp; omega) d w
    rw [List.range'_succ]
    simp only [Go.Op.eqItems, Sem.run_bind, p1, p2, Result.andThen_ok, q]
    rw [show (j + 1) * n2 = n2 + j * n2 from by rw [Nat.succ_mul, Nat.add_comm], take_add', take_add', List.drop_drop, List.drop_drop, eqBL_app _ _ _ _ (by simp; omega)]
    rw [show (k + 1) * n2 = k * n2 + n2 from Nat.succ_mul _ _] at ih
    cases hx : eqBL ((l.drop (k * n2)).take n2) ((m.drop (k * n2)).take n2)
    · simp
    · simpa using ih
theorem run_eqArr2 {t e b n1 n2 : Nat} (h : Arr2 P t e b n1 n2) {l m : List Bool} (hl : l.length = n1 * n2) (hm : m.length = n1 * n2) (d : Nat) (w : World) : (Go.Op.equalIn (d + 3) t (.agg (l.map Value.bool).toArray) (.agg (m.map Value.bool).toArray)).run P w = .ok (eqBL l m) w := by
  obtain ⟨i, hi⟩ := Option.isSome_iff_exists.1 h.i
  rw [run_equalIn_array w (d + 2) _ _ h.u hi, h.c, List.range_eq_range']
  have := eqItems_rows h d w l m n1 0 (by rw [Nat.zero_add, hl]; exact Nat.le_refl _) (by rw [Nat.zero_add, hm]; exact Nat.le_refl _)
  rw [this, Nat.zero_mul, List.drop_zero, List.drop_zero, List.take_of_length_le (by omega), List.take_of_length_le (by omega)]

theorem forIn_ok {w : World} {f : Nat → PUnit → Sem (ForInStep PUnit)} : ∀ l : List Nat, (∀ i ∈ l, (f i PUnit.unit).run P w = .ok (ForInStep.yield PUnit.unit) w) → (forIn (m := Sem) l PUnit.unit f).run P w = .ok PUnit.unit w
  | [], _ => by simp
  | i :: l, h => by
    have ih := forIn_ok l (fun j hj => h j (List.mem_cons_of_mem _ hj))
    simp only [List.forIn_cons, Sem.run_bind, h i List.mem_cons_self, Result.andThen_ok]
    exact ih
theorem chk_row {e b n2 : Nat} (h : arrQB P e n2 b = true) (empty : Bool) (d : Nat) (w : World) (l : List Bool) (hl : l.length = n2) : (Instr.checkKey empty (d + 2) e (.agg (l.map Value.bool).toArray)).run P w = .ok () w := by
  simp only [arrQB, Bool.and_eq_true, Bool.not_eq_true'] at h
  obtain ⟨⟨⟨⟨⟨h1, h2⟩, h3⟩, h4⟩, h5⟩, h6⟩ := h
  split at h5
  · rename_i n' e' hu
    simp only [Bool.and_eq_true] at h5
    have hn := Nat.eq_of_beq_eq_true h5.1
    have he := Nat.eq_of_beq_eq_true h5.2
    subst hn
    subst he
    split at h6
    · rename_i hb
      obtain ⟨i, hi⟩ := Option.isSome_iff_exists.1 h4
      rw [Instr.checkKey]
      simp only [Sem.run_bind, run_underlying hu, Result.andThen_ok, Std.Legacy.Range.forIn_eq_forIn_range', Std.Legacy.Range.size, Nat.sub_zero, Nat.add_one_sub_one, Nat.div_one]
      rw [forIn_ok]
      · rfl
      · intro j hj
        have hj2 : j < l.length := by simp at hj; omega
        have p1 := run_part1 (P := P) (xs := (l.map Value.bool).toArray) (o := j * 1) (v := .bool l[j]) h2 (by simp [hj2]) w
        have c1 : (Instr.checkKey empty (d + 1) e' (.bool l[j])).run P w = .ok () w := by rw [Instr.checkKey]; simp [run_underlying hb]
        have s1 := run_sizeOf w hi
        rw [Nat.eq_of_beq_eq_true h3] at s1
        simp only [Sem.run_bind, s1, Result.andThen_ok, p1, c1]
        rfl
    · cases h6
  · cases h5
theorem chk_arr2 {t e b n1 n2 : Nat} (h : Arr2 P t e b n1 n2) (empty : Bool) (d : Nat) (w : World) (l : List Bool) (hl : l.length = n1 * n2) : (Instr.checkKey empty (d + 3) t (.agg (l.map Value.bool).toArray)).run P w = .ok () w := by
  obtain ⟨i, hi⟩ := Option.isSome_iff_exists.1 h.i
  obtain ⟨n', e', hu⟩ := h.v
  rw [Instr.checkKey]
  simp only [Sem.run_bind, run_underlying h.u, Result.andThen_ok, Std.Legacy.Range.forIn_eq_forIn_range', Std.Legacy.Range.size, Nat.sub_zero, Nat.add_one_sub_one, Nat.div_one]
  rw [forIn_ok]
  · rfl
  · intro j hj
    have hj2 : j < n1 := by simp at hj; omega
    have hj3 : j * n2 + n2 ≤ n1 * n2 := by rw [← Nat.succ_mul]; exact Nat.mul_le_mul_right _ hj2
    have p1 := run_partArr (P := P) hu h.c h.i (l.map Value.bool) (j * n2) w
    rw [← List.map_drop, ← List.map_take] at p1
    have c1 := chk_row h.q empty d w ((l.drop (j * n2)).take n2) (by simp; omega)
    have s1 := run_sizeOf w hi
    rw [h.c] at s1
    simp only [Sem.run_bind, s1, Result.andThen_ok, p1, c1]
    rfl
theorem fit_bools : ∀ (n : Nat) (xs : List Value), fitV (List.replicate n none) xs = true → ∃ l : List Bool, xs = l.map Value.bool ∧ l.length = n
  | 0, [], _ => ⟨[], rfl, rfl⟩
  | 0, _ :: _, h => by simp [fitV] at h
  | n + 1, [], h => by simp [List.replicate_succ, fitV] at h
  | n + 1, v :: xs, h => by
    rw [List.replicate_succ] at h
    obtain ⟨v', m, he, hm, hv⟩ := fitV_cons h
    cases he
    obtain ⟨l, rfl, hl⟩ := fit_bools n xs hm
    rcases hv with ⟨q, a, hq, _⟩ | ⟨b, _, rfl⟩
    · cases hq
    · exact ⟨b :: l, rfl, by simp [hl]⟩
theorem fit_map : ∀ (l : List Bool), fitV (List.replicate l.length none) (l.map Value.bool) = true
  | [] => rfl
  | b :: l => by
    rw [List.length_cons, List.replicate_succ, List.map_cons]
    simpa [fitV] using fit_map l
theorem eqL_bools : ∀ (l m : List Bool), eqL (l.map Value.bool) (m.map Value.bool) = eqBL l m
  | [], [] => rfl
  | [], _ :: _ => rfl
  | _ :: _, [] => rfl
  | a :: l, b :: m => by simp [eqL, eqBL, eqL_bools l m]
theorem keyT_arr2 {kt e b n1 n2 : Nat} (h : Arr2 P kt e b n1 n2) : KeyT P kt (keyF (List.replicate (n1 * n2) none)) eqV where
  chk empty k w := by
    rintro ⟨xs, rfl, hx⟩
    obtain ⟨l, rfl, hl⟩ := fit_bools _ _ hx
    exact chk_arr2 h empty 9997 w l hl
  find k es w hk hes := by
    have he : ∀ a b, keyF (List.replicate (n1 * n2) none) a → keyF (List.replicate (n1 * n2) none) b → (Op.equal kt a b).run P w = .ok (eqV a b) w := by
      rintro _ _ ⟨xs, rfl, hx⟩ ⟨ys, rfl, hy⟩
      obtain ⟨l, rfl, hl⟩ := fit_bools _ _ hx
      obtain ⟨m, rfl, hm⟩ := fit_bools _ _ hy
      have := run_eqArr2 h hl hm 9997 w
      rw [← eqL_bools] at this
      exact this
    have h5 := ask_find w he hk es 0 hes
    simp only [Instr.findKey, Sem.run_bind, run_underlying h.u, Result.andThen_ok]
    cases es with
    | nil => simp [Instr.findNow]
    | cons x es =>
      simp only [Instr.findNow, Instr.sameNow]
      exact h5
  eq := by
    rintro _ _ ⟨xs, rfl, hx⟩ ⟨ys, rfl, hy⟩ h
    rw [eqL_eq _ xs ys hx hy h]
  refl := by
    rintro _ ⟨xs, rfl, _⟩
    exact eqL_refl xs
  bits := by
    rintro _ ⟨xs, rfl, h⟩
    exact (bits_agg 9999 xs.toArray xs.toArray).trans (by simpa using bits_flat 9999 _ xs h)
variable {ro : Cx} {n : Nat} {F : Fin} {w0 : World} {M : Nat → Prop} {k : List It} {ops : Array Oper} {rest : List Oper} {e : Env} {H Hq : List Ck}
theorem exec_neArr2 {a : Act} {d t t' et bt n1 n2 : Nat} {x y : Operand} {l m : List Bool} {ty : TypeId} {pos : String} {af : Array Edge} (hf : Fits n e a) (hx : opv e x = some (.agg (l.map Value.bool).toArray)) (hy : opv e y = some (.agg (m.map Value.bool).toArray)) (hA : Arr2 P t et bt n1 n2) (h1 : l.length = n1 * n2) (h2 : m.length = n1 * n2) (w : World) :
    (execOp a.eval ⟨some d, .binOp .neq t x y t', ty, pos, af, none⟩).run P w = .ok (.value (.bool (!(eqBL l m)))) w := by
  have e1 := hf.op hx
  have e2 := hf.op hy
  have h3 := run_eqArr2 hA h1 h2 9997 w
  simp [execOp, e1, e2, run_eqGuard_agg, hA.g, run_neq_struct, h3]
theorem ql_neA2 {d t t' et bt n1 n2 : Nat} {x y : Operand} {l m : List Bool} {ty : TypeId} {pos : String} {af : Array Edge} (hA : Arr2 P t et bt n1 n2) (hx : opv e x = some (.agg (l.map Value.bool).toArray)) (hy : opv e y = some (.agg (m.map Value.bool).toArray)) (h1 : l.length = n1 * n2) (h2 : m.length = n1 * n2) (hd : Nat.blt d n = true)
    (h : QL P ro n F w0 M k ops rest ((d, .bool (!(eqBL l m))) :: e) H) : QL P ro n F w0 M k ops (⟨some d, .binOp .neq t x y t', ty, pos, af, none⟩ :: rest) e H := .mk fun w hw =>
  yl_val (by simp) hd (fun _ hf => exec_neArr2 hf hx hy hA h1 h2 w) (h.h w hw)
end
end Go.Eng

/- Walks: plans: the two ways of a run, the least of numbers, whether plans may be asked. -/
namespace Go.Proofs.YtcmpdmobmbbplaaGreat
set_option maxRecDepth 4000
open Go Go.Eng

theorem o_arr2 : Arr2 Tryz.prog 120 118 4 8 8 := arr2_spec (by kernel_rfl)
theorem oL_len (o : Nat) : (oL o).length = 64 := by simp [oL]
theorem oL_inj {o p : Nat} (ho : o < 2 ^ 64) (hp : p < 2 ^ 64) (h : oL o = oL p) : o = p := by
  refine Nat.eq_of_testBit_eq fun i => ?_
  by_cases hi : i < 64
  · have := congrArg (fun l => l[i]?) h
    simpa [oL, hi] using this
  · rw [Nat.testBit_lt_two_pow (Nat.lt_of_lt_of_le ho (Nat.pow_le_pow_right (by omega) (by omega))), Nat.testBit_lt_two_pow (Nat.lt_of_lt_of_le hp (Nat.pow_le_pow_right (by omega) (by omega)))]
theorem eqBL_o {o p : Nat} (ho : o < 2 ^ 64) (hp : p < 2 ^ 64) : eqBL (oL o) (oL p) = decide (o = p) := by
  refine Bool.eq_iff_iff.2 ?_
  rw [eqBL_iff _ _ (by rw [oL_len, oL_len]), decide_eq_true_iff]
  exact ⟨oL_inj ho hp, fun h => by rw [h]⟩
/-- An order as a value. -/
abbrev oV (o : Nat) : Value := .agg (oC o).toArray
abbrev withF : Value := .func (.func 133) #[] #[]
abbrev htiwF : Value := .func (.func 164) #[] #[]
theorem htiw_ca (w : World) (o a b : Nat) (ha : a < 8) (hb : b < 8) : Ca Tryz.prog 164 [oV o, .int .i64 a, .int .i64 b] w fun v w' => v = oV (withO o b a) ∧ Chg [] w w' := by
  refine q_of (Sat.nil w M0) Tryz.func164 rfl (by simp [Tryz.ntmps164]) ?_
  (refine q_seq (q_region ?_))
  refine ql_box rfl rfl (fun b3 => ?_)
  rw [agg_cells]
  skip
  refine ql_alloc zero120 rfl (fun b6 => ?_)
  generalize hz6 : (Value.agg _).cells.toList = z6
  have hl6 : z6.length = 64 := by rw [← hz6]; rfl
  clear hz6
  (refine q_nil (q_seq (q_region ?_)); refine ql_loadABa tabOk rfl rfl rfl ?_; refine ql_pure tabOk rfl rfl (ql_pure tabOk rfl rfl ?_))
  rw [oC_take]
  refine ql_callv tabOk rfl rfl rfl rfl (fun w hs => with_ca w o b a hb ha) ?_
  skip
  refine ql_setA tabOk rfl rfl rfl (oC_len _) (List.all_eq_true.2 (oC_one _)) (by repeat constructor) hl6 ?_
  (refine q_nil (q_ret ?_))
  refine q_fin tabOk rfl (by repeat constructor) fun w hs => ?_
  exact ⟨rfl, hs.chg0⟩
theorem ways_ca (w : World) : Ca Tryz.prog 131 [] w fun v w' => v = .agg #[withF, htiwF] ∧ Chg [] w w' := by
  refine q_of (Sat.nil w M0) Tryz.func131 rfl (by simp [Tryz.ntmps131]) ?_
  (refine q_seq (q_region ?_))
  refine ql_alloc zero188 rfl (fun b0 => ?_)
  (refine q_nil (q_seq (q_region ?_)))
  refine ql_mk #[withF] rfl (by kernel_rfl) rfl ?_
  refine ql_mk #[htiwF] rfl (by kernel_rfl) rfl ?_
  refine ql_mk #[withF, htiwF] rfl (by kernel_rfl) rfl ?_
  (refine ql_setA tabOk rfl rfl rfl rfl rfl (by repeat constructor) rfl ?_; refine q_nil (q_ret ?_))
  refine q_fin tabOk rfl (by repeat constructor) fun w hs => ?_
  exact ⟨rfl, hs.chg0⟩
theorem least_ca (w : World) (lo hi : Nat) (a : Int) (v : Value) (l : List Int) (h : RdI w lo hi v l) (hlen : l.length ≤ 1000000) : Ca Tryz.prog 134 [.int .i64 a, v] w fun x w' => x = .int .i64 (minF a l) ∧ Chg [] w w' := by
  obtain ⟨p, cap, rfl, hs⟩ := h.outI
  refine q_of (Sat.nil w M0) Tryz.func134 rfl (by simp [Tryz.ntmps134]) ?_
  (refine q_seq (q_region (ql_pure tabOk rfl rfl (q_nil (q_seq (q_seq (q_region ?_)))))); (iterate 3 refine ql_pure tabOk rfl rfl ?_); refine q_nil (q_block ?_))
  refine q_loop (σ := Nat) (fun k => k ≤ l.length) (fun k => l.length - k) (fun k => [(0, .int .i64 (minF a (l.take k))), (7, .slice p l.length cap), (8, .int .i64 l.length), (9, .int .i64 k)]) (fun _ => []) 0 (by omega) ⟨rfl, rfl, rfl, rfl, trivial⟩ .nil ?_
  intro k hk K hK
  (refine q_seq (q_region (ql_pure tabOk rfl rfl (q_nil (q_seq ?_)))))
  refine q_if rfl (fun hc => ?_) (fun hc => ?_)
  · have hk : k < l.length := by omega
    obtain ⟨b, off, rfl⟩ := hs (by omega)
    have e : minF a (l.take (k + 1)) = min (minF a (l.take k)) l[k] := by rw [List.take_succ_eq_append_getElem hk]; unfold minF; rw [List.foldl_append]; rfl
    (refine q_skip (q_seq (q_block (q_seq (q_region ?_)))))
    (refine ql_index tabOk rfl rfl rfl rfl rfl (by omega) (by omega) ?_; refine ql_load1 tabOk rfl rfl rfl (fun w hs => RdI.at (h.keep hs.chg0) k hk) ?_)
    (refine ql_pure tabOk rfl rfl (q_nil (q_region ?_)); (iterate 4 refine ql_pure tabOk rfl rfl ?_); refine q_nil (q_blk (q_region (ql_ar tabOk rfl rfl rfl rfl (by omega) (by omega) (ql_pure tabOk rfl rfl (q_nil ?_))))))
    exact hK (k + 1) _ _ (by omega) (by omega) ⟨by rw [e]; rfl, rfl, rfl, rfl, trivial⟩ (by repeat constructor)
  · obtain rfl : k = l.length := by omega
    (refine q_exit _ rfl (q_seq (q_region (ql_pure tabOk rfl rfl (ql_pure tabOk rfl rfl (q_nil (q_ret ?_)))))))
    refine q_fin tabOk rfl (by repeat constructor) fun w hs => ?_
    exact ⟨by rw [List.take_length]; rfl, hs.chg0⟩
theorem placed_ca (w : World) (lo hi : Nat) (l : Lb) (v : Value) (k : Int) (h : RdR w lo hi v l.runs) (hlen : l.runs.length ≤ maxLen) : Ca Tryz.prog 62 [.agg (lbC l v).toArray, .int .i64 k] w fun x w' => x = .int .i64 (placedV l k) ∧ Chg [] w w' := by
  refine q_of (Sat.nil w M0) Tryz.func62 rfl (by simp [Tryz.ntmps62]) ?_
  (refine q_seq (q_region ?_))
  refine ql_box rfl rfl (fun b2 => ?_)
  rw [agg_cells]
  (refine ql_pure tabOk rfl rfl (q_nil (q_seq (q_seq (q_region ?_)))); refine ql_loadABa tabOk rfl rfl rfl ?_)
  refine ql_callv (val := .int .i64 (checkV l)) tabOk rfl rfl rfl rfl (fun w hs => ?_) ?_; exact check_ca w lo hi l v (RdE.keep h hs.chg0) hlen
  by_cases hc0 : checkV l = 0
  · rw [hc0]
    (refine ql_pure tabOk rfl rfl (q_nil (q_seq (q_region (ql_pure tabOk rfl rfl (ql_neqF tabOk rfl rfl rfl (by omega) (q_nil (q_cond_false rfl (q_skip (q_seq (q_seq (q_region ?_))))))))))); refine ql_pure tabOk rfl rfl (ql_pure tabOk rfl rfl ?_); refine ql_loadBa tabOk rfl rfl rfl ?_)
    refine ql_callv (val := .bool (inB k 1 l.skis)) tabOk rfl rfl rfl rfl (fun w hs => ?_) ?_; exact within_ca k 1 l.skis w
    (refine ql_pure tabOk rfl rfl (q_nil ?_))
    cases hk : inB k 1 l.skis with
    | false =>
      (refine q_cond_true rfl (q_seq (q_region (ql_pure tabOk rfl rfl (q_nil (q_ret ?_))))))
      refine q_fin tabOk rfl (by repeat constructor) fun w hs => ?_
      exact ⟨by unfold placedV; rw [if_neg (by simpa using hc0), if_pos hk]; rfl, hs.chg0⟩
    | true =>
      (refine q_cond_false rfl (q_skip (q_seq (q_region (ql_pure tabOk rfl rfl (q_nil (q_ret ?_)))))))
      refine q_fin tabOk rfl (by repeat constructor) fun w hs => ?_
      exact ⟨by unfold placedV; rw [if_neg (by simpa using hc0), if_neg (by simp [hk])]; rfl, hs.chg0⟩
  · (refine ql_pure tabOk rfl rfl (q_nil (q_seq (q_region (ql_pure tabOk rfl rfl (ql_neqT tabOk rfl rfl rfl (by omega) (q_nil (q_cond_true rfl (q_seq (q_region (ql_pure tabOk rfl rfl (ql_pure tabOk rfl rfl ?_))))))))))); refine q_nil (q_ret ?_))
    refine q_fin tabOk rfl (by repeat constructor) fun w hs => ?_
    exact ⟨by unfold placedV; rw [if_pos hc0]; rfl, hs.chg0⟩
end Go.Proofs.YtcmpdmobmbbplaaGreat

/- The engine, part B31: an element of an array that is a value, of several cells, or a struct. -/
namespace Go.Eng
set_option maxRecDepth 4000
open Go Go.RowKit

section
variable {P : Program} {T : Tab} {ro : Cx} {n : Nat} {F : Fin} {w0 : World} {M : Nat → Prop} {k : List It} {ops : Array Oper} {rest : List Oper} {e : Env} {H Hq : List Ck}
theorem run_ixG (hT : T.Ok P) {t len et m : Nat} {cs : Array Value} {ik : IntKind} {i : Int} (hA : arrB P t len et m = true) (h1 : find1 T.agg et = some m) (h0 : 0 ≤ i) (hi : i < len) (w : World) :
    (Instr.index t (.agg cs) (.int ik i)).run P w = .ok (.agg (cs.extract (i.toNat * m) (i.toNat * m + m))) w := by
  obtain ⟨r1, r2⟩ := agg_run hT h1 w
  simp only [arrB, Bool.and_eq_true] at hA
  obtain ⟨ha, hb⟩ := hA
  split at ha
  · rename_i q e' hu
    simp only [Bool.and_eq_true] at ha
    have e1 := Nat.eq_of_beq_eq_true ha.1
    have e2 := Nat.eq_of_beq_eq_true ha.2
    subst e1; subst e2
    simp [Instr.index, asIntOf, run_underlying hu, h0, hi, r2, part, r1]
  · cases ha
theorem ql_ixG (hT : T.Ok P) {d t len et m : Nat} {x ix : Operand} {cs : Array Value} {ik : IntKind} {i : Int} {v : Value} {ty : TypeId} {pos : String} {af : Array Edge} (hA : arrB P t len et m = true) (h1 : find1 T.agg et = some m)
    (hx : opv e x = some (.agg cs)) (hi : opv e ix = some (.int ik i)) (hd : Nat.blt d n = true) (h0 : 0 ≤ i) (hl : i < len) (hv : .agg (cs.extract (i.toNat * m) (i.toNat * m + m)) = v)
    (h : QL P ro n F w0 M k ops rest ((d, v) :: e) H) : QL P ro n F w0 M k ops (⟨some d, .index t x ix, ty, pos, af, none⟩ :: rest) e H := .mk fun w hw =>
  yl_val (by simp) hd (fun a hf => by
    simp only [execOp, hf.op hx, hf.op hi]
    simp [run_ixG hT hA h1 h0 hl w, hv]) (h.h w hw)
end
end Go.Eng

/- Walks: plans: the memo of the fewest further runs. -/
namespace Go.Proofs.YtcmpdmobmbbplaaGreat
set_option maxRecDepth 4000
open Go Go.Eng

theorem Blk.rdI {w : World} {b c : Nat} {l : List Int} {t : TypeId} (h : Blk w b (ints l) t) : RdI w 0 w.heap.size (.slice (some ⟨b, 0, none⟩) l.length c) l := RdI.of (by have := Blk.rdN (c := c) (sz := 1) (q := l.length) h (by simp [ints]); exact this)
abbrev oK : Value → Prop := keyF (List.replicate (8 * 8) none)
theorem o_key : KeyT Tryz.prog 120 oK eqV := keyT_arr2 o_arr2
theorem oV_key (o : Nat) : oK (oV o) := ⟨oC o, rfl, by have := fit_map (oL o); rw [oL_len] at this; exact this⟩
theorem o_map : Tryz.prog.underlying 184 = some (.map 120 3) := by kernel_rfl
theorem zero_i : ZeroOf Tryz.prog 3 (.int .i64 0) := ⟨by kernel_rfl⟩
/-- Each order that is noted has the fewest further runs that it needs. -/
def GoodP (n k : Nat) (f : Value → Option Value) : Prop := ∀ o, o < 2 ^ 64 → ∀ v, f (oV o) = some v → v = .int .i64 (planO n k o)
theorem good_nil (n k : Nat) : GoodP n k (fun _ => none) := fun _ _ _ h => by cases h
theorem good_upd {n k : Nat} {f : Value → Option Value} (h : GoodP n k f) {o : Nat} (ho : o < 2 ^ 64) : GoodP n k (fun x => if eqV x (oV o) then some (.int .i64 (planO n k o)) else f x) := fun p hp v hv => by
  dsimp only at hv
  split at hv
  · rename_i he
    have h1 : eqL (oC p) (oC o) = true := he
    unfold oC at h1
    rw [eqL_bools, eqBL_o hp ho, decide_eq_true_iff] at h1
    subst h1
    cases hv
    rfl
  · exact h p hp v hv
abbrev plnF (b2 b3 b6 b8 : Nat) : Value := .func (.func 132) #[] #[.pointer (some ⟨b2, 0, none⟩), .pointer (some ⟨b3, 0, none⟩), .pointer (some ⟨b6, 0, none⟩), .pointer (some ⟨b8, 0, none⟩)]
abbrev worthF (b7 : Nat) : Value := .func (.func 130) #[] #[.pointer (some ⟨b7, 0, none⟩)]
/-- The planner's variables. -/
structure PlE (w : World) (n k bm b2 b3 b6 b7 b8 : Nat) : Prop where
  h2 : ∃ t, Blk w b2 [.int .i64 n] t
  h3 : ∃ t, Blk w b3 [.int .i64 k] t
  h6 : ∃ t, Blk w b6 [.map (some bm)] t
  h7 : ∃ t, Blk w b7 [plnF b2 b3 b6 b8] t
  h8 : ∃ t, Blk w b8 [worthF b7] t
section
variable {w w' : World} {b : Nat} {K : Value → Prop} {q : Value → Value → Bool} {f : Value → Option Value}
theorem Blk.mapC {x : Nat} {cs : List Value} {t : TypeId} (h : Blk w x cs t) (hm : MapAt w b K q f) (c : ChgP (· = b) w w') : Blk w' x cs t := by
  obtain ⟨es, clock, h1, _⟩ := hm
  refine (c.block x h.lt ?_).trans h
  rintro rfl
  unfold Blk at h
  rw [h] at h1
  cases h1
theorem PlE.mapC {n k bm b2 b3 b6 b7 b8 : Nat} (h : PlE w n k bm b2 b3 b6 b7 b8) (hm : MapAt w b K q f) (c : ChgP (· = b) w w') : PlE w' n k bm b2 b3 b6 b7 b8 :=
  ⟨h.h2.imp fun _ h => Blk.mapC h hm c, h.h3.imp fun _ h => Blk.mapC h hm c, h.h6.imp fun _ h => Blk.mapC h hm c, h.h7.imp fun _ h => Blk.mapC h hm c, h.h8.imp fun _ h => Blk.mapC h hm c⟩
end
abbrev mpO (bm : Nat) (f : Value → Option Value) : Ck := mpP oK eqV bm f
/-- What the plan answers. -/
def PlanCa (n k bm b2 b3 b6 b8 o : Nat) (w : World) : Prop := Ca Tryz.prog 132 [oV o, .pointer (some ⟨b2, 0, none⟩), .pointer (some ⟨b3, 0, none⟩), .pointer (some ⟨b6, 0, none⟩), .pointer (some ⟨b8, 0, none⟩)] w fun v w' => ∃ f, (v = .int .i64 (planO n k o) ∧ GoodP n k f) ∧ Sat w (· = bm) [mpO bm f] w'
def mst (n k o a b j : Nat) : Nat := if j = 0 then 0 else if j = 1 then planO n k (withO o a b) else max (planO n k (withO o a b)) (planO n k (withO o b a))
theorem way_arr : arrB Tryz.prog 188 2 187 1 = true := by kernel_rfl
theorem worth_ca (n k bm b2 b3 b6 b7 b8 o a b : Nat) (hn : n ≤ 8) (hU : Und o n a b) (hp : ∀ o', (o' = withO o a b ∨ o' = withO o b a) → ∀ (w : World) (f : Value → Option Value), PlE w n k bm b2 b3 b6 b7 b8 → MapAt w bm oK eqV f → GoodP n k f → PlanCa n k bm b2 b3 b6 b8 o' w)
    (w : World) (f : Value → Option Value) (hE : PlE w n k bm b2 b3 b6 b7 b8) (hm : MapAt w bm oK eqV f) (hg : GoodP n k f) :
    Ca Tryz.prog 130 [oV o, .int .i64 a, .int .i64 b, .pointer (some ⟨b7, 0, none⟩)] w fun v w' => ∃ f, (v = .int .i64 (worthO n k o a b) ∧ GoodP n k f) ∧ Sat w (· = bm) [mpO bm f] w' := by
  have ha := hU.hx
  have hb := hU.hy
  obtain ⟨t7, hb7⟩ := hE.h7
  have hb7 := fun w' (c : ChgP (· = bm) w w') => Blk.mapC hb7 hm c
  refine q_of (H := [mpO bm f]) (map_sat hm) Tryz.func130 rfl (by simp [Tryz.ntmps130]) ?_
  (refine q_seq (q_region ?_))
  refine ql_box rfl rfl (fun b4 => ?_)
  rw [agg_cells]
  (refine ql_pure tabOk rfl rfl (q_nil (q_seq (q_seq (q_region (ql_pure tabOk rfl rfl (ql_pure tabOk rfl rfl ?_)))))))
  refine ql_indexA (len := 8) o_arr rfl rfl rfl (by omega) (by omega) ?_
  skip
  refine ql_indexA (len := 8) r_arr rfl rfl rfl (by omega) (by omega) ?_
  skip
  refine ql_load1 (v := .bool false) tabOk rfl rfl rfl (fun w hs => by have := o_cell hs (b := b4) (off := 0 + (a : Int).toNat * 8 + (b : Int).toNat * 1) (by repeat constructor) a b (by omega) (by omega) (by omega); rw [hU.xy] at this; exact this) ?_
  (refine ql_pure tabOk rfl rfl (ql_gyes rfl (ql_pure tabOk rfl rfl (ql_gyes rfl (ql_pure tabOk rfl rfl (ql_gyes rfl ?_))))))
  refine ql_indexA (len := 8) o_arr rfl rfl rfl (by omega) (by omega) ?_
  (refine ql_gyes rfl ?_)
  refine ql_indexA (len := 8) r_arr rfl rfl rfl (by omega) (by omega) ?_
  (refine ql_gyes rfl ?_)
  refine ql_load1 (v := .bool false) tabOk rfl rfl rfl (fun w hs => by have := o_cell hs (b := b4) (off := 0 + (b : Int).toNat * 8 + (a : Int).toNat * 1) (by repeat constructor) b a (by omega) (by omega) (by omega); rw [hU.yx] at this; exact this) ?_
  (refine ql_pure tabOk rfl rfl (q_nil (q_cond_false rfl (q_skip (q_seq (q_region (ql_pure tabOk rfl rfl (q_nil (q_seq (q_seq (q_region ?_)))))))))))
  refine ql_callv tabOk rfl rfl rfl rfl (fun w hs => ways_ca w) ?_
  (refine ql_pure tabOk rfl rfl (q_nil (q_block ?_)))
  refine q_loop (σ := Nat × (Value → Option Value)) (fun y => y.1 ≤ 2 ∧ GoodP n k y.2) (fun y => 2 - y.1) (fun y => [(1, .int .i64 a), (2, .int .i64 b), (3, .pointer (some ⟨b7, 0, none⟩)), (4, .pointer (some ⟨b4, 0, none⟩)), (8, .int .i64 (mst n k o a b y.1)), (27, .agg #[withF, htiwF]), (28, .int .i64 y.1)]) (fun y => [.pt b4 (oC o) 120, mpO bm y.2]) (0, f) ⟨by simp, hg⟩ ⟨rfl, rfl, rfl, rfl, rfl, rfl, rfl, trivial⟩ (by repeat constructor) ?_
  clear hg
  rintro ⟨j, g⟩ ⟨hj, hg⟩ K hK
  dsimp only at hj hg ⊢
  (refine q_seq (q_region (ql_pure tabOk rfl rfl (q_nil (q_seq ?_)))))
  refine q_if rfl (fun hc => ?_) (fun hc => ?_)
  · have hj2 : j < 2 := by omega
    clear hc
    obtain ⟨fw, ow, hw0, hw1, hw2, hw3, hw4⟩ : ∃ (fw : Value) (ow : Nat), oneV fw = true ∧ (#[withF, htiwF] : Array Value).extract (j * 1) (j * 1 + 1) = #[fw] ∧ (ow = withO o a b ∨ ow = withO o b a) ∧ mst n k o a b (j + 1) = max (mst n k o a b j) (planO n k ow) ∧ (∀ w, CaF Tryz.prog fw [oV o, .int .i64 a, .int .i64 b] w fun v w' => v = oV ow ∧ Chg [] w w') := by
      obtain rfl | rfl : j = 0 ∨ j = 1 := by omega
      · exact ⟨withF, _, rfl, rfl, .inl rfl, by simp [mst], fun w => CaF.of tabOk rfl (with_ca w o a b (by omega) (by omega))⟩
      · exact ⟨htiwF, _, rfl, rfl, .inr rfl, by simp [mst], fun w => CaF.of tabOk rfl (htiw_ca w o a b (by omega) (by omega))⟩
    have hpb := plan_le (k := k) hn (show Ord ow from by rcases hw2 with rfl | rfl <;> exact hU.ord.with (by omega) (by omega))
    have hmb : mst n k o a b j ≤ 64 := by
      have h1 := plan_le (k := k) hn (hU.ord.with (f := a) (s := b) (by omega) (by omega))
      have h2 : n * n ≤ 64 := Nat.mul_le_mul hn hn
      obtain rfl | rfl : j = 0 ∨ j = 1 := by omega
      · simp [mst]
      · simp only [mst]; simp; omega
    have h64 : n * n ≤ 64 := Nat.mul_le_mul hn hn
    (refine q_skip (q_seq (q_block (q_seq (q_region ?_)))))
    refine ql_ixG (v := .agg #[fw]) tabOk way_arr rfl rfl rfl rfl (by omega) (by omega) (by rw [Int.toNat_natCast, hw1]) ?_
    skip
    refine ql_alloc zero187 rfl (fun b10 => ?_)
    skip
    refine ql_setA (us := [fw]) tabOk rfl rfl rfl rfl (by simp [hw0]) (by repeat constructor) rfl ?_
    (refine q_nil ?_)
    refine q_draw [.pt b4 (oC o) 120, .pt b10 [fw] 187] [mpO bm g] (by repeat constructor) (by kernel_rfl) (by kernel_rfl) ?_
    (refine qf_pure tabOk rfl rfl rfl ?_; refine qf_loadG tabOk rfl rfl rfl (by assumption) (by rfl) ?_; refine qf_pure tabOk rfl rfl rfl ?_; refine qf_loadBa tabOk rfl rfl rfl ?_; refine qf_loadABa tabOk rfl rfl rfl ?_; refine qf_pure tabOk rfl rfl rfl (qf_pure tabOk rfl rfl rfl ?_))
    rw [oC_take]
    refine qf_callFv rfl rfl rfl (fun w' hs => hw4 w') ?_
    skip
    refine qf_callF (β := Value → Option Value) (ψ := fun g v => v = .int .i64 (planO n k ow) ∧ GoodP n k g) (L' := fun g => [mpO bm g]) [mpO bm g] [] (· = bm) rfl rfl rfl (by repeat constructor) (fun x hx => ⟨_, .head _, hx⟩) (fun w' hs => CaF.of tabOk rfl (hp ow hw2 w' g (hE.mapC hm hs.chg) (hs.mem (c := mpO bm g) (by repeat constructor)) hg)) ?_
    rintro g' v ⟨rfl, hg'⟩
    (refine qf_pure tabOk rfl rfl rfl (qf_pure tabOk rfl rfl rfl (qf_nil (q_blk (q_region (ql_ar tabOk rfl rfl rfl rfl (by omega) (by omega) (ql_pure tabOk rfl rfl (q_nil ?_))))))))
    exact hK (j + 1, g') _ _ ⟨by simp only; omega, hg'⟩ (by simp only; omega) ⟨rfl, rfl, rfl, rfl, by rw [hw3]; exact lookI rfl (by omega), rfl, rfl, trivial⟩ (by repeat constructor)
  · have hj2 : j = 2 := by omega
    subst hj2
    have h1 := plan_le (k := k) hn (hU.ord.with (f := a) (s := b) (by omega) (by omega))
    have h2 := plan_le (k := k) hn (hU.ord.with (f := b) (s := a) (by omega) (by omega))
    have h64 : n * n ≤ 64 := Nat.mul_le_mul hn hn
    have hmb : mst n k o a b 2 ≤ 64 := by simp [mst]; omega
    (refine q_exit _ rfl (q_seq (q_region (ql_pure tabOk rfl rfl (ql_ar tabOk rfl rfl rfl rfl (by omega) (by omega) (ql_pure tabOk rfl rfl (q_nil (q_ret ?_))))))))
    refine q_fin tabOk rfl (by repeat constructor) fun w hs => ?_
    exact ⟨g, ⟨by simp [retV, worthO, mst], hg⟩, hs.sp (by repeat constructor)⟩
end Go.Proofs.YtcmpdmobmbbplaaGreat

/- Walks: the fewest further runs. -/
namespace Go.Proofs.YtcmpdmobmbbplaaGreat
set_option maxRecDepth 4000
open Go Go.Eng

def stepP (n k o : Nat) (best : Nat) (p : Nat × Nat) : Nat := cond (undO o p) (min best (worthO n k o p.1 p.2)) best
/-- The best of the pairs that are done. -/
def foldP (n k o a b : Nat) : Nat := ((List.range b).map fun c => (a, c)).foldl (stepP n k o) ((pairsN a).foldl (stepP n k o) (n * n))
theorem foldP_succ (n k o a b : Nat) : foldP n k o a (b + 1) = stepP n k o (foldP n k o a b) (a, b) := by
  unfold foldP
  rw [List.range_succ, List.map_append, List.foldl_append]
  rfl
theorem foldP_next (n k o a : Nat) : foldP n k o a a = foldP n k o (a + 1) 0 := by
  unfold foldP pairsN
  rw [List.range_succ, List.flatMap_append, List.foldl_append]
  simp
theorem foldP_zero (n k o : Nat) : foldP n k o 0 0 = n * n := rfl
theorem stepP_le (n k o x : Nat) (p : Nat × Nat) : stepP n k o x p ≤ x := by
  unfold stepP
  cases undO o p
  · exact Nat.le_refl _
  · exact Nat.min_le_left _ _
theorem foldS_le (n k o : Nat) : ∀ (l : List (Nat × Nat)) (x : Nat), l.foldl (stepP n k o) x ≤ x
  | [], _ => Nat.le_refl _
  | p :: l, x => Nat.le_trans (foldS_le n k o l _) (stepP_le n k o x p)
theorem foldP_le (n k o a b : Nat) : foldP n k o a b ≤ n * n := Nat.le_trans (foldS_le _ _ _ _ _) (foldS_le _ _ _ _ _)
theorem plan_fold {n k o : Nat} (hn : n ≤ 8) (ho : Ord o) (hk : knownO o n k = false) : planO n k o = foldP n k o n 0 := by
  rw [plan_eq hn ho, if_neg (by simp [hk])]
  rfl
set_option maxHeartbeats 4000000 in
theorem plan_ca (n k bm b2 b3 b6 b7 b8 : Nat) (hn : n ≤ 8) (hk : k ≤ n) : ∀ (u o : Nat), undN o n = u → Ord o → ∀ (w : World) (f : Value → Option Value), PlE w n k bm b2 b3 b6 b7 b8 → MapAt w bm oK eqV f → GoodP n k f → PlanCa n k bm b2 b3 b6 b8 o w := by
  intro u
  induction u using Nat.strongRecOn with
  | _ u ih =>
  intro o hu ho w f hE hm hg
  obtain ⟨t2, hb2⟩ := hE.h2
  obtain ⟨t3, hb3⟩ := hE.h3
  obtain ⟨t6, hb6⟩ := hE.h6
  obtain ⟨t8, hb8⟩ := hE.h8
  have hb2 := fun w' (c : ChgP (· = bm) w w') => Blk.mapC hb2 hm c
  have hb3 := fun w' (c : ChgP (· = bm) w w') => Blk.mapC hb3 hm c
  have hb6 := fun w' (c : ChgP (· = bm) w w') => Blk.mapC hb6 hm c
  have hb8 := fun w' (c : ChgP (· = bm) w w') => Blk.mapC hb8 hm c
  have h64 : n * n ≤ 64 := Nat.mul_le_mul hn hn
  have hnn : (n : Int) * (n : Int) = ((n * n : Nat) : Int) := by norm_cast
  refine q_of (H := [mpO bm f]) (map_sat hm) Tryz.func132 rfl (by simp [Tryz.ntmps132]) ?_
  (refine q_seq (q_region ?_))
  refine ql_box rfl rfl (fun b5 => ?_)
  rw [agg_cells]
  (refine ql_pure tabOk rfl rfl (q_nil (q_seq (q_seq (q_region ?_)))); refine ql_loadABa tabOk rfl rfl rfl ?_; (iterate 2 refine ql_loadG tabOk rfl rfl rfl (by assumption) (by rfl) ?_))
  rw [oC_take]
  refine ql_callv (val := .bool (knownO o n k)) tabOk rfl rfl rfl rfl (fun w hs => ?_) ?_; exact known_ca w o n k hn hk
  cases hkn : knownO o n k with
  | true =>
    (refine q_nil (q_cond_true rfl (q_seq (q_region (ql_pure tabOk rfl rfl (q_nil (q_ret ?_)))))))
    refine q_fin tabOk rfl (by repeat constructor) fun w hs => ?_
    exact ⟨f, ⟨by rw [plan_eq hn ho, if_pos hkn]; rfl, hg⟩, hs.sp (by repeat constructor)⟩
  | false =>
    (refine q_nil (q_cond_false rfl (q_skip (q_seq (q_seq (q_region ?_))))); refine ql_loadG tabOk rfl rfl rfl (by assumption) (by rfl) ?_; refine ql_loadABa tabOk rfl rfl rfl ?_)
    rw [oC_take]
    refine ql_look2 o_key o_map zero_i rfl rfl rfl (by repeat constructor) (oV_key o) ?_
    cases hf : f (oV o) with
    | some v =>
      obtain rfl := hg o ho.lt v hf
      (refine ql_pure tabOk rfl rfl (ql_ext tabOk rfl rfl rfl (ql_ext tabOk rfl rfl rfl (ql_pure tabOk rfl rfl (ql_pure tabOk rfl rfl (q_nil (q_seq (q_region (ql_pure tabOk rfl rfl (q_nil (q_cond_true rfl (q_seq ?_))))))))))); refine q_region (ql_pure tabOk rfl rfl (ql_pure tabOk rfl rfl (q_nil (q_ret ?_)))))
      refine q_fin tabOk rfl (by repeat constructor) fun w hs => ?_
      exact ⟨f, ⟨rfl, hg⟩, hs.sp (by repeat constructor)⟩
    | none =>
      (refine ql_pure tabOk rfl rfl (ql_ext tabOk rfl rfl rfl (ql_ext tabOk rfl rfl rfl (ql_pure tabOk rfl rfl (ql_pure tabOk rfl rfl (q_nil (q_seq (q_region (ql_pure tabOk rfl rfl (q_nil (q_cond_false rfl (q_skip ?_))))))))))); refine q_seq (q_region ?_); (iterate 2 refine ql_loadG tabOk rfl rfl rfl (by assumption) (by rfl) ?_); refine ql_ar tabOk rfl rfl rfl rfl (by omega) (by omega) (ql_pure tabOk rfl rfl (q_nil (q_seq (q_seq (q_region ?_))))); refine ql_loadG tabOk rfl rfl rfl (by assumption) (by rfl) ?_; refine ql_pure tabOk rfl rfl (q_nil (q_block ?_)))
      rw [hnn, ← foldP_zero n k o]
      refine q_loop (σ := Nat × (Value → Option Value)) (fun y => y.1 ≤ n ∧ GoodP n k y.2) (fun y => n - y.1) (fun y => [(1, .pointer (some ⟨b2, 0, none⟩)), (2, .pointer (some ⟨b3, 0, none⟩)), (3, .pointer (some ⟨b6, 0, none⟩)), (4, .pointer (some ⟨b8, 0, none⟩)), (5, .pointer (some ⟨b5, 0, none⟩)), (9, .int .i64 (foldP n k o y.1 0 : Nat)), (28, .int .i64 n), (29, .int .i64 y.1)]) (fun y => [.pt b5 (oC o) 120, mpO bm y.2]) (0, f) ⟨by simp, hg⟩ ⟨rfl, rfl, rfl, rfl, rfl, rfl, rfl, rfl, trivial⟩ (by repeat constructor) ?_
      clear hg hf
      rintro ⟨a, g⟩ ⟨ha, hg⟩ K hK
      dsimp only at ha hg ⊢
      (refine q_seq (q_region (ql_pure tabOk rfl rfl (q_nil (q_seq ?_)))))
      refine q_if rfl (fun hc => ?_) (fun hc => ?_)
      · have ha2 : a < n := by omega
        clear hc
        (refine q_skip (q_seq (q_block (q_seq (q_region (ql_pure tabOk rfl rfl (ql_pure tabOk rfl rfl (q_nil (q_seq (q_region (ql_pure tabOk rfl rfl (ql_pure tabOk rfl rfl ?_))))))))))); refine q_nil (q_block ?_))
        refine q_loop (σ := Nat × (Value → Option Value)) (fun y => y.1 ≤ a ∧ GoodP n k y.2) (fun y => a - y.1) (fun y => [(1, .pointer (some ⟨b2, 0, none⟩)), (2, .pointer (some ⟨b3, 0, none⟩)), (3, .pointer (some ⟨b6, 0, none⟩)), (4, .pointer (some ⟨b8, 0, none⟩)), (5, .pointer (some ⟨b5, 0, none⟩)), (9, .int .i64 (foldP n k o a y.1 : Nat)), (10, .int .i64 a), (28, .int .i64 n), (29, .int .i64 a), (32, .int .i64 a), (33, .int .i64 y.1)]) (fun y => [.pt b5 (oC o) 120, mpO bm y.2]) (0, g) ⟨by simp, hg⟩ ⟨rfl, rfl, rfl, rfl, rfl, rfl, rfl, rfl, rfl, rfl, rfl, trivial⟩ (by repeat constructor) ?_
        clear hg
        rintro ⟨b, g⟩ ⟨hb, hg⟩ K2 hK2
        dsimp only at hb hg ⊢
        (refine q_seq (q_region (ql_pure tabOk rfl rfl (q_nil (q_seq ?_)))))
        refine q_if rfl (fun hc => ?_) (fun hc => ?_)
        · have hb2' : b < a := by omega
          clear hc
          have e1 := foldP_succ n k o a b
          have hfb := foldP_le n k o a b
          (refine q_skip (q_seq (q_block (q_seq (q_region (ql_pure tabOk rfl rfl (ql_pure tabOk rfl rfl (q_nil (q_seq (q_region ?_))))))))); refine ql_loadABa tabOk rfl rfl rfl ?_; refine ql_pure tabOk rfl rfl (ql_pure tabOk rfl rfl ?_))
          rw [oC_take]
          refine ql_callv tabOk rfl rfl rfl rfl (fun w hs => with_ca w o a b (by omega) (by omega)) ?_
          skip
          refine ql_alloc zero120 rfl (fun b12 => ?_)
          generalize hz12 : (Value.agg _).cells.toList = z12
          have hl12 : z12.length = 64 := by rw [← hz12]; rfl
          clear hz12
          skip
          refine ql_setA tabOk rfl rfl rfl (oC_len _) (List.all_eq_true.2 (oC_one _)) (by repeat constructor) hl12 ?_
          (refine q_nil (q_seq (q_region ?_)); (iterate 2 refine ql_loadABa tabOk rfl rfl rfl ?_))
          rw [oC_take, oC_take]
          refine ql_neA2 o_arr2 rfl rfl (oL_len _) (oL_len _) rfl ?_
          rw [eqBL_o (with_lt _ _ _) ho.lt]
          have hwe := with_eq ho (f := a) (s := b) (by omega) (by omega)
          cases h1 : fa o a b with
          | true =>
            rw [decide_eq_true (hwe.2 h1)]
            have e2 : foldP n k o a (b + 1) = foldP n k o a b := by rw [e1]; simp [stepP, undO, h1]
            (refine ql_pure tabOk rfl rfl ?_; (iterate 6 refine ql_gno rfl rfl rfl ?_); refine ql_pure tabOk rfl rfl (q_nil (q_cond_false rfl (q_skip (q_blk (q_region (ql_ar tabOk rfl rfl rfl rfl (by omega) (by omega) (ql_pure tabOk rfl rfl (q_nil ?_)))))))))
            exact hK2 (b + 1, g) _ _ ⟨by simp only; omega, hg⟩ (by simp only; omega) ⟨rfl, rfl, rfl, rfl, rfl, by rw [e2]; rfl, rfl, rfl, rfl, rfl, rfl, trivial⟩ (by repeat constructor)
          | false =>
            rw [decide_eq_false (fun h => by rw [hwe.1 h] at h1; cases h1)]
            (refine ql_pure tabOk rfl rfl (ql_gyes rfl (ql_pure tabOk rfl rfl (ql_gyes rfl (ql_pure tabOk rfl rfl (ql_gyes rfl ?_))))))
            refine ql_indexA (len := 8) o_arr rfl rfl rfl (by omega) (by omega) ?_
            (refine ql_gyes rfl ?_)
            refine ql_indexA (len := 8) r_arr rfl rfl rfl (by omega) (by omega) ?_
            (refine ql_gyes rfl ?_)
            refine ql_load1 (v := .bool (fa o b a)) tabOk rfl rfl rfl (fun w hs => o_cell hs (b := b5) (by repeat constructor) b a (by omega) (by omega) (by omega)) ?_
            cases h2 : fa o b a with
            | true =>
              have e2 : foldP n k o a (b + 1) = foldP n k o a b := by rw [e1]; simp [stepP, undO, h2]
              (refine ql_gyes rfl (ql_pure tabOk rfl rfl (ql_pure tabOk rfl rfl (q_nil (q_cond_false rfl (q_skip (q_blk (q_region (ql_ar tabOk rfl rfl rfl rfl (by omega) (by omega) (ql_pure tabOk rfl rfl (q_nil ?_)))))))))))
              exact hK2 (b + 1, g) _ _ ⟨by simp only; omega, hg⟩ (by simp only; omega) ⟨rfl, rfl, rfl, rfl, rfl, by rw [e2]; rfl, rfl, rfl, rfl, rfl, rfl, trivial⟩ (by repeat constructor)
            | false =>
              have hU : Und o n a b := ⟨ho, hn, ha2, by omega, by omega, h1, h2⟩
              have e2 : foldP n k o a (b + 1) = min (foldP n k o a b) (worthO n k o a b) := by rw [e1]; simp [stepP, undO, h1, h2]
              have hl1 := und_lt hU
              have hl2 := und_lt hU.swap
              (refine ql_gyes rfl (ql_pure tabOk rfl rfl (ql_pure tabOk rfl rfl (q_nil (q_cond_true rfl (q_region (ql_pure tabOk rfl rfl ?_)))))); refine ql_loadG tabOk rfl rfl rfl (by assumption) (by rfl) ?_; refine ql_loadABa tabOk rfl rfl rfl ?_; refine ql_pure tabOk rfl rfl (ql_pure tabOk rfl rfl ?_))
              rw [oC_take]
              refine ql_callF (β := Value → Option Value) (ψ := fun g v => v = .int .i64 (worthO n k o a b : Nat) ∧ GoodP n k g) (L' := fun g => [mpO bm g]) [mpO bm g] [.pt b12 (oC (withO o a b)) 120, .pt b5 (oC o) 120] (· = bm) rfl rfl rfl (by repeat constructor) (fun x hx => ⟨_, .head _, hx⟩) (fun w' hs => CaF.of tabOk rfl (worth_ca n k bm b2 b3 b6 b7 b8 o a b hn hU (fun o' ho' => by
                rcases ho' with rfl | rfl
                · exact ih _ (by omega) _ rfl (ho.with (by omega) (by omega))
                · exact ih _ (by omega) _ rfl (ho.with (by omega) (by omega))) w' g (hE.mapC hm hs.chg) (hs.mem (c := mpO bm g) (by repeat constructor)) hg)) ?_
              rintro g' v ⟨rfl, hg'⟩
              skip
              refine ql_mkS 3 (ints [((worthO n k o a b : Nat) : Int)]) rfl (by kernel_rfl) rfl (fun bn => ?_)
              skip
              refine ql_callv (val := .int .i64 (minF (foldP n k o a b : Nat) [((worthO n k o a b : Nat) : Int)])) tabOk rfl rfl rfl rfl (fun w hs => ?_) ?_; exact least_ca w 0 w.heap.size _ _ [((worthO n k o a b : Nat) : Int)] (Blk.rdI (l := [((worthO n k o a b : Nat) : Int)]) (c := 1) (hs.blk (b := bn) (by repeat constructor))) (by simp)
              (refine ql_pure tabOk rfl rfl (q_nil (q_blk (q_region (ql_ar tabOk rfl rfl rfl rfl (by omega) (by omega) (ql_pure tabOk rfl rfl (q_nil ?_)))))))
              exact hK2 (b + 1, g') _ _ ⟨by simp only; omega, hg'⟩ (by simp only; omega) ⟨rfl, rfl, rfl, rfl, rfl, by rw [e2]; exact lookI rfl (by simp [minF]; omega), rfl, rfl, rfl, rfl, rfl, trivial⟩ (by repeat constructor)
        · have hba : b = a := by omega
          subst hba
          clear hc hK2 hb
          (refine q_exit _ rfl (q_blk (q_region (ql_ar tabOk rfl rfl rfl rfl (by omega) (by omega) (ql_pure tabOk rfl rfl (q_nil ?_))))))
          exact hK (b + 1, g) _ _ ⟨by simp only; omega, hg⟩ (by simp only; omega) ⟨rfl, rfl, rfl, rfl, rfl, by rw [← foldP_next]; rfl, rfl, rfl, trivial⟩ (by repeat constructor)
      · have han : a = n := by omega
        subst han
        clear hc hK ha
        rw [← plan_fold hn ho hkn]
        (refine q_exit _ rfl (q_seq (q_region ?_)); refine ql_loadG tabOk rfl rfl rfl (by assumption) (by rfl) ?_; refine ql_loadABa tabOk rfl rfl rfl ?_; refine ql_pure tabOk rfl rfl ?_)
        rw [oC_take]
        refine ql_mapUpd o_key o_map rfl rfl rfl (oV_key o) (by repeat constructor) ?_
        (refine q_nil (q_seq (q_region (ql_pure tabOk rfl rfl (ql_pure tabOk rfl rfl (q_nil (q_ret ?_)))))))
        refine q_fin tabOk rfl (by repeat constructor) fun w hs => ?_
        exact ⟨_, ⟨rfl, good_upd hg ho.lt⟩, hs.sp (by repeat constructor)⟩
end Go.Proofs.YtcmpdmobmbbplaaGreat

/- Walks: plans that are asked: the fewest further runs. -/
namespace Go.Proofs.YtcmpdmobmbbplaaGreat
set_option maxRecDepth 4000
open Go Go.Eng

theorem planned_no (w : World) (lo hi : Nat) (l : Lb) (v : Value) (k : Int) (h : RdR w lo hi v l.runs) (hlen : l.runs.length ≤ maxLen) (hc0 : plannedV l k ≠ 0) : Ca Tryz.prog 67 [.agg (lbC l v).toArray, .int .i64 k] w fun x w' => ∃ p : Option Addr, x = .tuple #[.pointer p, .int .i64 (plannedV l k)] ∧ Sat w M0 [] w' := by
  refine q_of (Sat.nil w M0) Tryz.func67 rfl (by simp [Tryz.ntmps67]) ?_
  (refine q_seq (q_region ?_))
  refine ql_box rfl rfl (fun b2 => ?_)
  rw [agg_cells]
  (refine ql_pure tabOk rfl rfl (ql_pure tabOk rfl rfl (q_nil (q_seq (q_seq (q_region ?_))))); refine ql_loadABa tabOk rfl rfl rfl ?_; refine ql_pure tabOk rfl rfl ?_)
  refine ql_callv (val := .int .i64 (placedV l k)) tabOk rfl rfl rfl rfl (fun w hs => ?_) ?_; exact placed_ca w lo hi l v k (RdE.keep h hs.chg0) hlen
  by_cases hp : placedV l k = 0
  · rw [hp]
    by_cases h5 : 5 < l.skis
    · have e : plannedV l k = 10 := by unfold plannedV; rw [if_neg (by simpa using hp), if_pos h5]
      (refine ql_pure tabOk rfl rfl (q_nil (q_seq (q_region (ql_pure tabOk rfl rfl (ql_neqF tabOk rfl rfl rfl (by omega) (q_nil (q_cond_false rfl (q_skip (q_seq (q_seq (q_region ?_))))))))))); refine ql_pure tabOk rfl rfl ?_; refine ql_loadBa tabOk rfl rfl rfl ?_; refine ql_gtrT tabOk rfl rfl rfl (by omega) (q_nil (q_cond_true rfl (q_seq (q_region (ql_pure tabOk rfl rfl (ql_pure tabOk rfl rfl (q_nil (q_ret ?_)))))))))
      refine q_fin tabOk rfl (by repeat constructor) fun w hs => ?_
      exact ⟨none, by rw [e]; rfl, hs.sp (by repeat constructor)⟩
    · have e : plannedV l k = agreedV l := by unfold plannedV; rw [if_neg (by simpa using hp), if_neg h5]
      (refine ql_pure tabOk rfl rfl (q_nil (q_seq (q_region (ql_pure tabOk rfl rfl (ql_neqF tabOk rfl rfl rfl (by omega) (q_nil (q_cond_false rfl (q_skip (q_seq (q_seq (q_region ?_))))))))))); refine ql_pure tabOk rfl rfl ?_; refine ql_loadBa tabOk rfl rfl rfl ?_; refine ql_gtrF tabOk rfl rfl rfl (by omega) (q_nil (q_cond_false rfl (q_skip (q_seq (q_region ?_))))); refine ql_loadABa tabOk rfl rfl rfl ?_)
      refine ql_call (β := Option Addr) tabOk [] _ M0 rfl rfl rfl rfl (Sp.refl _) (fun _ h => h.elim) (fun w' hs => agreed_no w' lo hi l v (RdE.keep h hs.chg0) hlen (by rw [← e]; exact hc0)) ?_
      rintro p _ rfl
      dsimp only [List.cons_append, List.nil_append]
      (refine ql_ext tabOk rfl rfl rfl (ql_ext tabOk rfl rfl rfl (ql_pure tabOk rfl rfl (ql_pure tabOk rfl rfl (q_nil (q_ret ?_))))))
      refine q_fin tabOk rfl (by repeat constructor) fun w hs => ?_
      exact ⟨p, by rw [e]; rfl, hs.sp (by repeat constructor)⟩
  · have e : plannedV l k = placedV l k := by unfold plannedV; rw [if_pos hp]
    (refine ql_pure tabOk rfl rfl (q_nil (q_seq (q_region (ql_pure tabOk rfl rfl (ql_neqT tabOk rfl rfl rfl (by omega) (q_nil (q_cond_true rfl (q_seq (q_region ?_))))))))); (iterate 3 refine ql_pure tabOk rfl rfl ?_); refine q_nil (q_ret ?_))
    refine q_fin tabOk rfl (by repeat constructor) fun w hs => ?_
    exact ⟨none, by rw [e]; rfl, hs.sp (by repeat constructor)⟩
structure PlanOk (l : Lb) (k : Int) : Prop where
  ok : l.Ok
  noC : NoC l.ord l.n
  k1 : 1 ≤ k
  k2 : k ≤ l.skis
  s5 : l.skis ≤ 5
theorem placed_iff {l : Lb} {k : Int} : placedV l k = 0 ↔ l.Ok ∧ 1 ≤ k ∧ k ≤ l.skis := by
  unfold placedV
  constructor
  · intro h
    split at h
    · rename_i h1; exact absurd h h1
    · rename_i h1
      split at h
      · cases h
      · rename_i h2
        have h3 : checkV l = 0 := by simpa using h1
        exact ⟨check_iff.1 h3, inB_iff.1 (by simpa using h2)⟩
  · rintro ⟨h1, h2⟩
    rw [if_neg (by simpa using check_iff.2 h1), if_neg (by simp [inB_iff, h2])]
theorem planned_iff {l : Lb} {k : Int} : plannedV l k = 0 ↔ PlanOk l k := by
  unfold plannedV
  constructor
  · intro h
    split at h
    · rename_i h1; exact absurd h h1
    · rename_i h1
      split at h
      · cases h
      · rename_i h2
        have h3 : placedV l k = 0 := by simpa using h1
        obtain ⟨h4, h5, h6⟩ := placed_iff.1 h3
        exact ⟨h4, (agreed_iff.1 h).2, h5, h6, by omega⟩
  · intro h
    rw [if_neg (by simpa using placed_iff.2 ⟨h.ok, h.k1, h.k2⟩), if_neg (by have := h.s5; omega)]
    exact agreed_iff.2 ⟨h.ok, h.noC⟩
theorem planned_ok (w : World) (lo hi : Nat) (l : Lb) (v : Value) (k : Int) (h : RdR w lo hi v l.runs) (hp : PlanOk l k) : Ca Tryz.prog 67 [.agg (lbC l v).toArray, .int .i64 k] w fun x w' => ∃ b : Nat, x = .tuple #[.pointer (some ⟨b, 0, none⟩), .int .i64 0] ∧ Sat w M0 [.pt b (dkC l v l.ord) 122] w' := by
  have h5 := hp.s5
  have hlen : l.runs.length ≤ maxLen := by have := hp.ok.len; simp only [maxLen]; omega
  have hpl : placedV l k = 0 := placed_iff.2 ⟨hp.ok, hp.k1, hp.k2⟩
  refine q_of (Sat.nil w M0) Tryz.func67 rfl (by simp [Tryz.ntmps67]) ?_
  (refine q_seq (q_region ?_))
  refine ql_box rfl rfl (fun b2 => ?_)
  rw [agg_cells]
  (refine ql_pure tabOk rfl rfl (ql_pure tabOk rfl rfl (q_nil (q_seq (q_seq (q_region ?_))))); refine ql_loadABa tabOk rfl rfl rfl ?_; refine ql_pure tabOk rfl rfl ?_)
  refine ql_callv (val := .int .i64 0) tabOk rfl rfl rfl rfl (fun w hs => ?_) ?_; exact by have := placed_ca w lo hi l v k (RdE.keep h hs.chg0) hlen; rw [hpl] at this; exact this
  (refine ql_pure tabOk rfl rfl (q_nil (q_seq (q_region (ql_pure tabOk rfl rfl (ql_neqF tabOk rfl rfl rfl (by omega) (q_nil (q_cond_false rfl (q_skip (q_seq (q_seq (q_region ?_))))))))))); refine ql_pure tabOk rfl rfl ?_; refine ql_loadBa tabOk rfl rfl rfl ?_; refine ql_gtrF tabOk rfl rfl rfl (by omega) (q_nil (q_cond_false rfl (q_skip (q_seq (q_region ?_))))); refine ql_loadABa tabOk rfl rfl rfl ?_)
  refine ql_call (β := Nat) tabOk [] _ M0 rfl rfl rfl rfl (Sp.refl _) (fun _ h => h.elim) (fun w' hs => agreed_ok w' lo hi l v (RdE.keep h hs.chg0) hp.ok hp.noC) ?_
  rintro b _ rfl
  dsimp only [List.cons_append, List.nil_append]
  (refine ql_ext tabOk rfl rfl rfl (ql_ext tabOk rfl rfl rfl (ql_pure tabOk rfl rfl (ql_pure tabOk rfl rfl (q_nil (q_ret ?_))))))
  refine q_fin tabOk rfl (by repeat constructor) fun w hs => ?_
  exact ⟨b, rfl, hs.sp (by repeat constructor)⟩
theorem planner_ca (w : World) (n k : Nat) : Ca Tryz.prog 68 [.int .i64 n, .int .i64 k] w fun x w' => ∃ y : Nat × Nat × Nat × Nat × Nat × Nat, x = .tuple #[plnF y.2.1 y.2.2.1 y.2.2.2.1 y.2.2.2.2.2, worthF y.2.2.2.2.1] ∧ Sat w M0 [mpO y.1 (fun _ => none), .pt y.2.1 [.int .i64 n] 3, .pt y.2.2.1 [.int .i64 k] 3, .pt y.2.2.2.1 [.map (some y.1)] 184, .pt y.2.2.2.2.1 [plnF y.2.1 y.2.2.1 y.2.2.2.1 y.2.2.2.2.2] 127, .pt y.2.2.2.2.2 [worthF y.2.2.2.2.1] 128] w' := by
  refine q_of (Sat.nil w M0) Tryz.func68 rfl (by simp [Tryz.ntmps68]) ?_
  (refine q_seq (q_region ?_))
  refine ql_box rfl rfl (fun b2 => ?_)
  refine ql_box rfl rfl (fun b3 => ?_)
  (refine ql_pure tabOk rfl rfl (ql_pure tabOk rfl rfl (q_nil (q_seq (q_region ?_)))))
  refine ql_makeMap oK eqV rfl (fun bm => ?_)
  skip
  refine ql_alloc zero184 rfl (fun b6 => ?_)
  (refine ql_set tabOk rfl rfl rfl rfl (by repeat constructor) ?_; refine q_nil (q_seq (q_region ?_)))
  refine ql_alloc zero127 rfl (fun b7 => ?_)
  (refine q_nil (q_seq (q_region (ql_pure tabOk rfl rfl ?_))))
  refine ql_alloc zero128 rfl (fun b8 => ?_)
  (refine ql_set tabOk rfl rfl rfl rfl (by repeat constructor) ?_; refine q_nil (q_seq (q_region (ql_pure tabOk rfl rfl ?_))); refine ql_set tabOk rfl rfl rfl rfl (by repeat constructor) ?_; refine q_nil (q_seq ?_))
  refine q_draw _ [] (Sp.refl _) (by kernel_rfl) (by kernel_rfl) ?_
  ((iterate 2 refine qf_loadBa tabOk rfl rfl rfl ?_); refine qf_pure tabOk rfl rfl rfl (qf_pure tabOk rfl rfl rfl (qf_nil (q_ret ?_))))
  refine q_fin tabOk rfl (by repeat constructor) fun w hs => ?_
  exact ⟨(bm, b2, b3, b6, b7, b8), rfl, hs.sp (by repeat constructor)⟩
theorem fewest_no (w : World) (lo hi : Nat) (l : Lb) (v : Value) (k : Int) (h : RdR w lo hi v l.runs) (hlen : l.runs.length ≤ maxLen) (hc0 : plannedV l k ≠ 0) : Ca Tryz.prog 15 [.agg (lbC l v).toArray, .int .i64 k] w fun x w' => x = .tuple #[.int .i64 0, .int .i64 (plannedV l k)] ∧ Chg [] w w' := by
  refine q_of (Sat.nil w M0) Tryz.func15 rfl (by simp [Tryz.ntmps15]) ?_
  (refine q_seq (q_region ?_))
  refine ql_box rfl rfl (fun b2 => ?_)
  rw [agg_cells]
  (refine ql_pure tabOk rfl rfl (ql_pure tabOk rfl rfl (q_nil (q_seq (q_region ?_)))); refine ql_loadABa tabOk rfl rfl rfl ?_; refine ql_pure tabOk rfl rfl ?_)
  refine ql_call (β := Option Addr) tabOk [] _ M0 rfl rfl rfl rfl (Sp.refl _) (fun _ h => h.elim) (fun w' hs => planned_no w' lo hi l v k (RdE.keep h hs.chg0) hlen hc0) ?_
  rintro p _ rfl
  dsimp only [List.cons_append, List.nil_append]
  (refine ql_pure tabOk rfl rfl (ql_ext tabOk rfl rfl rfl (ql_ext tabOk rfl rfl rfl (ql_pure tabOk rfl rfl (ql_pure tabOk rfl rfl (q_nil (q_seq (q_seq (q_region (ql_pure tabOk rfl rfl (ql_neqT tabOk rfl rfl rfl (by omega) (q_nil ?_))))))))))); refine q_cond_true rfl (q_seq (q_region ?_)); (iterate 3 refine ql_pure tabOk rfl rfl ?_); refine q_nil (q_ret ?_))
  refine q_fin tabOk rfl (by repeat constructor) fun w hs => ?_
  exact ⟨rfl, hs.chg0⟩
theorem fewest_ok (w : World) (lo hi : Nat) (l : Lb) (v : Value) (k : Nat) (h : RdR w lo hi v l.runs) (hp : PlanOk l k) : Ca Tryz.prog 15 [.agg (lbC l v).toArray, .int .i64 k] w fun x w' => x = .tuple #[.int .i64 (planO l.n k l.ord), .int .i64 0] ∧ Chg [] w w' := by
  obtain ⟨n, en, hn', h8, h1⟩ := hp.ok.nat
  have hk := hp.k2
  rw [hn']
  refine q_of (Sat.nil w M0) Tryz.func15 rfl (by simp [Tryz.ntmps15]) ?_
  (refine q_seq (q_region ?_))
  refine ql_box rfl rfl (fun b2 => ?_)
  rw [agg_cells]
  (refine ql_pure tabOk rfl rfl (ql_pure tabOk rfl rfl (q_nil (q_seq (q_region ?_)))); refine ql_loadABa tabOk rfl rfl rfl ?_; refine ql_pure tabOk rfl rfl ?_)
  refine ql_call (β := Nat) tabOk [] _ M0 rfl rfl rfl rfl (Sp.refl _) (fun _ h => h.elim) (fun w' hs => planned_ok w' lo hi l v k (RdE.keep h hs.chg0) hp) ?_
  rintro b _ rfl
  dsimp only [List.cons_append, List.nil_append]
  (refine ql_pure tabOk rfl rfl (ql_ext tabOk rfl rfl rfl (ql_ext tabOk rfl rfl rfl (ql_pure tabOk rfl rfl (ql_pure tabOk rfl rfl (q_nil (q_seq (q_seq (q_region (ql_pure tabOk rfl rfl (ql_neqF tabOk rfl rfl rfl (by omega) (q_nil ?_))))))))))); refine q_cond_false rfl (q_skip (q_seq (q_region ?_))); (iterate 4 refine ql_pure tabOk rfl rfl ?_); refine ql_loadBa tabOk rfl rfl rfl ?_; refine ql_pure tabOk rfl rfl ?_)
  rw [en]
  refine ql_call (β := Nat × Nat × Nat × Nat × Nat × Nat) tabOk [] _ M0 rfl rfl rfl rfl (Sp.refl _) (fun _ h => h.elim) (fun w' hs => planner_ca w' n k) ?_
  rintro ⟨bm, b2, b3, b6, b7, b8⟩ _ rfl
  dsimp only [List.cons_append, List.nil_append]
  (refine ql_pure tabOk rfl rfl (ql_ext tabOk rfl rfl rfl (ql_ext tabOk rfl rfl rfl (ql_pure tabOk rfl rfl (ql_pure tabOk rfl rfl (q_nil (q_seq (q_region ?_))))))); (iterate 4 refine ql_pure tabOk rfl rfl ?_); refine ql_loadABa tabOk rfl rfl rfl ?_)
  rw [dk_take]
  refine ql_callF (β := Value → Option Value) (ψ := fun g v => v = .int .i64 (planO n k l.ord) ∧ GoodP n k g) (L' := fun g => [mpO bm g]) [mpO bm (fun _ => none)] [.pt b2 [.int .i64 n] 3, .pt b3 [.int .i64 k] 3, .pt b6 [.map (some bm)] 184, .pt b7 [plnF b2 b3 b6 b8] 127, .pt b8 [worthF b7] 128] (· = bm) rfl rfl rfl (by repeat constructor) (fun x hx => ⟨_, .head _, hx⟩) (fun w' hs => CaF.of tabOk rfl (plan_ca n k bm b2 b3 b6 b7 b8 h8 (by omega) _ l.ord rfl hp.ok.o w' _ ⟨⟨_, hs.blk (by repeat constructor)⟩, ⟨_, hs.blk (by repeat constructor)⟩, ⟨_, hs.blk (by repeat constructor)⟩, ⟨_, hs.blk (by repeat constructor)⟩, ⟨_, hs.blk (by repeat constructor)⟩⟩ (hs.mem (c := mpO bm (fun _ => none)) (by repeat constructor)) (good_nil n k))) ?_
  rintro g' v ⟨rfl, hg'⟩
  (refine ql_pure tabOk rfl rfl (ql_pure tabOk rfl rfl (q_nil (q_ret ?_))))
  refine q_fin tabOk rfl (by repeat constructor) fun w hs => ?_
  exact ⟨rfl, hs.chg0⟩
end Go.Proofs.YtcmpdmobmbbplaaGreat

/- Walks: whether runs are a chain. -/
namespace Go.Proofs.YtcmpdmobmbbplaaGreat
set_option maxRecDepth 4000
open Go Go.Eng

theorem two_no (w : World) (lo hi : Nat) (l : Lb) (v : Value) (a b : Int) (h : RdR w lo hi v l.runs) (hlen : l.runs.length ≤ maxLen) (hc0 : twoV l a b ≠ 0) : Ca Tryz.prog 79 [.agg (lbC l v).toArray, .int .i64 a, .int .i64 b] w fun x w' => ∃ p : Option Addr, x = .tuple #[.pointer p, .int .i64 (twoV l a b)] ∧ Sat w M0 [] w' := by
  refine q_of (Sat.nil w M0) Tryz.func79 rfl (by simp [Tryz.ntmps79]) ?_
  (refine q_seq (q_region ?_))
  refine ql_box rfl rfl (fun b3 => ?_)
  rw [agg_cells]
  (refine ql_pure tabOk rfl rfl (ql_pure tabOk rfl rfl (q_nil (q_seq (q_region ?_)))); refine ql_loadABa tabOk rfl rfl rfl ?_)
  by_cases hck : checkV l = 0
  · have hl := check_iff.1 hck
    have h0 := hl.s0
    have h1 := hl.s1
    have e : twoV l a b = 1 := by
      unfold twoV at hc0 ⊢
      rw [if_neg (by simpa using hck)] at hc0 ⊢
      split at hc0
      · rename_i hq; rw [if_pos hq]
      · exact absurd rfl hc0
    refine ql_call (β := Nat) tabOk [] _ M0 rfl rfl rfl rfl (Sp.refl _) (fun _ h => h.elim) (fun w' hs => asked_ok w' lo hi l v (RdE.keep h hs.chg0) hl) ?_
    rintro d _ rfl
    dsimp only [List.cons_append, List.nil_append]
    (refine ql_pure tabOk rfl rfl (ql_ext tabOk rfl rfl rfl (ql_ext tabOk rfl rfl rfl (ql_pure tabOk rfl rfl (ql_pure tabOk rfl rfl (q_nil (q_seq (q_seq (q_region (ql_pure tabOk rfl rfl (ql_eqlT tabOk rfl rfl rfl (by omega) (ql_pure tabOk rfl rfl ?_))))))))))); refine ql_gyes rfl (ql_pure tabOk rfl rfl (ql_gyes rfl (ql_pure tabOk rfl rfl (ql_gyes rfl ?_)))); refine ql_loadBa tabOk rfl rfl rfl ?_; refine ql_gyes rfl (ql_ar tabOk rfl rfl rfl rfl (by omega) (by omega) (ql_gyes rfl ?_)))
    refine ql_callv (val := .bool (inB a 0 (l.skis - 1))) tabOk rfl rfl rfl rfl (fun w hs => ?_) ?_; exact within_ca a 0 (l.skis - 1) w
    cases ha : inB a 0 (l.skis - 1) with
    | false =>
      (refine ql_gyes rfl (ql_pure tabOk rfl rfl (ql_gyes rfl (ql_pure tabOk rfl rfl ?_))); (iterate 6 refine ql_gno rfl rfl rfl ?_); refine ql_gyes rfl (ql_pure tabOk rfl rfl (ql_pure tabOk rfl rfl (q_nil (q_cond_true rfl (q_region (ql_pure tabOk rfl rfl (q_nil (q_seq (q_region ?_))))))))); (iterate 4 refine ql_pure tabOk rfl rfl ?_); refine q_nil (q_ret ?_))
      refine q_fin tabOk rfl (by repeat constructor) fun w hs => ?_
      exact ⟨some ⟨d, 0, none⟩, by rw [e]; rfl, hs.sp (by repeat constructor)⟩
    | true =>
      (refine ql_gyes rfl (ql_pure tabOk rfl rfl (ql_gyes rfl (ql_pure tabOk rfl rfl (ql_gyes rfl (ql_pure tabOk rfl rfl (ql_gyes rfl (ql_pure tabOk rfl rfl (ql_gyes rfl ?_)))))))); refine ql_loadBa tabOk rfl rfl rfl ?_; refine ql_gyes rfl (ql_ar tabOk rfl rfl rfl rfl (by omega) (by omega) (ql_gyes rfl ?_)))
      refine ql_callv (val := .bool (inB b 0 (l.skis - 1))) tabOk rfl rfl rfl rfl (fun w hs => ?_) ?_; exact within_ca b 0 (l.skis - 1) w
      cases hb : inB b 0 (l.skis - 1) with
      | false =>
        (refine ql_gyes rfl (ql_pure tabOk rfl rfl (ql_gyes rfl (ql_pure tabOk rfl rfl (ql_pure tabOk rfl rfl (q_nil (q_cond_true rfl (q_region (ql_pure tabOk rfl rfl (q_nil (q_seq (q_region ?_))))))))))); (iterate 4 refine ql_pure tabOk rfl rfl ?_); refine q_nil (q_ret ?_))
        refine q_fin tabOk rfl (by repeat constructor) fun w hs => ?_
        exact ⟨some ⟨d, 0, none⟩, by rw [e]; rfl, hs.sp (by repeat constructor)⟩
      | true =>
        exfalso
        apply hc0
        unfold twoV
        rw [if_neg (by simpa using hck), ha, hb]
        simp
  · have e : twoV l a b = checkV l := by unfold twoV; rw [if_pos hck]
    refine ql_callv (val := .tuple #[.pointer none, .int .i64 (checkV l)]) tabOk rfl rfl rfl rfl (fun w hs => ?_) ?_; exact asked_no w lo hi l v (RdE.keep h hs.chg0) hlen hck
    (refine ql_pure tabOk rfl rfl (ql_ext tabOk rfl rfl rfl (ql_ext tabOk rfl rfl rfl (ql_pure tabOk rfl rfl (ql_pure tabOk rfl rfl (q_nil (q_seq (q_seq (q_region (ql_pure tabOk rfl rfl (ql_eqlF tabOk rfl rfl rfl (by omega) (ql_pure tabOk rfl rfl ?_))))))))))); (iterate 7 refine ql_gno rfl rfl rfl ?_); (iterate 6 refine ql_gnone rfl rfl ?_); refine ql_gno rfl rfl rfl (ql_pure tabOk rfl rfl (q_nil (q_cond_false rfl (q_skip (q_seq (q_region ?_)))))); (iterate 4 refine ql_pure tabOk rfl rfl ?_); refine q_nil (q_ret ?_))
    refine q_fin tabOk rfl (by repeat constructor) fun w hs => ?_
    exact ⟨none, by rw [e]; rfl, hs.sp (by repeat constructor)⟩
theorem two_iff {l : Lb} {a b : Int} : twoV l a b = 0 ↔ l.Ok ∧ inB a 0 (l.skis - 1) = true ∧ inB b 0 (l.skis - 1) = true := by
  unfold twoV
  constructor
  · intro h
    split at h
    · rename_i h1; exact absurd h h1
    · rename_i h1
      split at h
      · cases h
      · rename_i h2
        have h3 : checkV l = 0 := by simpa using h1
        have h4 : (inB a 0 (l.skis - 1) && inB b 0 (l.skis - 1)) = true := by simpa using h2
        rw [Bool.and_eq_true] at h4
        exact ⟨check_iff.1 h3, h4⟩
  · rintro ⟨h1, h2, h3⟩
    rw [if_neg (by simpa using check_iff.2 h1), if_neg (by simp [h2, h3])]
theorem two_ok (w : World) (lo hi : Nat) (l : Lb) (v : Value) (a b : Int) (h : RdR w lo hi v l.runs) (hc0 : twoV l a b = 0) : Ca Tryz.prog 79 [.agg (lbC l v).toArray, .int .i64 a, .int .i64 b] w fun x w' => ∃ d : Nat, x = .tuple #[.pointer (some ⟨d, 0, none⟩), .int .i64 0] ∧ Sat w M0 [.pt d (dkC l v l.ord) 122] w' := by
  obtain ⟨hl, ha, hb⟩ := two_iff.1 hc0
  have h0 := hl.s0
  have h1 := hl.s1
  refine q_of (Sat.nil w M0) Tryz.func79 rfl (by simp [Tryz.ntmps79]) ?_
  (refine q_seq (q_region ?_))
  refine ql_box rfl rfl (fun b3 => ?_)
  rw [agg_cells]
  (refine ql_pure tabOk rfl rfl (ql_pure tabOk rfl rfl (q_nil (q_seq (q_region ?_)))); refine ql_loadABa tabOk rfl rfl rfl ?_)
  refine ql_call (β := Nat) tabOk [] _ M0 rfl rfl rfl rfl (Sp.refl _) (fun _ h => h.elim) (fun w' hs => asked_ok w' lo hi l v (RdE.keep h hs.chg0) hl) ?_
  rintro d _ rfl
  dsimp only [List.cons_append, List.nil_append]
  (refine ql_pure tabOk rfl rfl (ql_ext tabOk rfl rfl rfl (ql_ext tabOk rfl rfl rfl (ql_pure tabOk rfl rfl (ql_pure tabOk rfl rfl (q_nil (q_seq (q_seq (q_region (ql_pure tabOk rfl rfl (ql_eqlT tabOk rfl rfl rfl (by omega) (ql_pure tabOk rfl rfl ?_))))))))))); refine ql_gyes rfl (ql_pure tabOk rfl rfl (ql_gyes rfl (ql_pure tabOk rfl rfl (ql_gyes rfl ?_)))); refine ql_loadBa tabOk rfl rfl rfl ?_; refine ql_gyes rfl (ql_ar tabOk rfl rfl rfl rfl (by omega) (by omega) (ql_gyes rfl ?_)))
  refine ql_callv (val := .bool true) tabOk rfl rfl rfl rfl (fun w hs => ?_) ?_; exact by have := within_ca a 0 (l.skis - 1) w; rw [ha] at this; exact this
  (refine ql_gyes rfl (ql_pure tabOk rfl rfl (ql_gyes rfl (ql_pure tabOk rfl rfl (ql_gyes rfl (ql_pure tabOk rfl rfl (ql_gyes rfl (ql_pure tabOk rfl rfl (ql_gyes rfl ?_)))))))); refine ql_loadBa tabOk rfl rfl rfl ?_; refine ql_gyes rfl (ql_ar tabOk rfl rfl rfl rfl (by omega) (by omega) (ql_gyes rfl ?_)))
  refine ql_callv (val := .bool true) tabOk rfl rfl rfl rfl (fun w hs => ?_) ?_; exact by have := within_ca b 0 (l.skis - 1) w; rw [hb] at this; exact this
  (refine ql_gyes rfl (ql_pure tabOk rfl rfl (ql_gyes rfl (ql_pure tabOk rfl rfl (ql_pure tabOk rfl rfl (q_nil (q_cond_false rfl (q_skip (q_seq (q_region ?_))))))))); (iterate 4 refine ql_pure tabOk rfl rfl ?_); refine q_nil (q_ret ?_))
  refine q_fin tabOk rfl (by repeat constructor) fun w hs => ?_
  exact ⟨d, rfl, hs.sp (by repeat constructor)⟩
def pIx (n : Int) : Value → Bool
  | .int _ i => inB i 0 (n - 1)
  | _ => false
theorem chain1_p (w : World) (c : List Int) (l : Lb) (a : Option Addr) (cp b t : Nat) (hn : l.runs.length ≤ 1000) (hb : Blk w b (lbC l (.slice a l.runs.length cp)) t) : PredAt Tryz.prog tab w (.func (.func 90) #[] #[.pointer (some ⟨b, 0, none⟩)]) (ints c) (pIx l.runs.length) := by
  refine ⟨_, _, _, rfl, rfl, fun w' hw' x hx => ?_⟩
  have hb' := hb.keep hw'
  obtain ⟨i, hi, rfl⟩ := List.mem_map.1 hx
  refine q_of (Sat.nil w' M0) Tryz.func90 rfl (by simp [Tryz.ntmps90]) ?_
  (refine q_seq (q_region (ql_pure tabOk rfl rfl (q_nil (q_seq (q_region (ql_pure tabOk rfl rfl (ql_pure tabOk rfl rfl ?_))))))); refine ql_loadP tabOk rfl rfl rfl (by assumption) (by rfl) ?_; refine ql_pure tabOk rfl rfl (ql_ar tabOk rfl rfl rfl rfl (by omega) (by omega) ?_))
  refine ql_callv (val := .bool (inB i 0 (l.runs.length - 1))) tabOk rfl rfl rfl rfl (fun w hs => ?_) ?_; exact within_ca i 0 (l.runs.length - 1) w
  (refine ql_pure tabOk rfl rfl (q_nil (q_ret ?_)))
  refine q_fin tabOk rfl (by repeat constructor) fun w hs => ?_
  exact ⟨rfl, hs.chg0⟩
theorem lead_step {l : Lb} (hl : l.Ok) (a : Int) (i : Int) (c : List Int) (hi0 : 0 ≤ i) (hi : i.toNat < l.runs.length) : leadV l a (i :: c) = match runI l.err l.runs[i.toNat] with
    | none => none
    | some p => if p.1 = a then leadV l p.2 c else none := by
  have hr := hl.run _ (List.getElem_mem hi)
  have e : l.runs.getD i.toNat ⟨0, 0, 0⟩ = l.runs[i.toNat] := by rw [List.getD_eq_getElem?_getD, List.getElem?_eq_getElem hi]; rfl
  rw [leadV, e, runI_nat]
  cases hx : runI l.err l.runs[i.toNat] with
  | none => rfl
  | some p =>
    have hp : 0 ≤ p.1 ∧ 0 ≤ p.2 := by
      have h1 := hr.a0
      have h2 := hr.b0
      unfold runI at hx
      split at hx
      · cases hx; exact ⟨h1, h2⟩
      · split at hx
        · cases hx; exact ⟨h2, h1⟩
        · cases hx
    show (if ((p.1.toNat : Nat) : Int) = a then leadV l ((p.2.toNat : Nat) : Int) c else none) = _
    rw [Int.toNat_of_nonneg hp.1, Int.toNat_of_nonneg hp.2]
theorem pIx_all (c : List Int) (n : Int) : (ints c).all (pIx n) = c.all fun i => inB i 0 (n - 1) := by
  unfold ints
  rw [List.all_map]
  rfl
theorem chain_no {l : Lb} {a b : Int} {c : List Int} (h2 : twoV l a b ≠ 0) : chainV l a b c = (false, twoV l a b) := by unfold chainV; rw [if_pos h2]
theorem chain_un {l : Lb} {a b : Int} {c : List Int} (h2 : twoV l a b = 0) (ha : (c.all fun i => inB i 0 (l.runs.length - 1)) = false) : chainV l a b c = (false, 1) := by unfold chainV; rw [if_neg (by simpa using h2), if_pos ha]
theorem chain_yes {l : Lb} {a b : Int} {c : List Int} (h2 : twoV l a b = 0) (ha : (c.all fun i => inB i 0 (l.runs.length - 1)) = true) : chainV l a b c = ((match leadV l a c with | none => false | some x => decide (x = b) && (!c.isEmpty && true)), 0) := by unfold chainV; rw [if_neg (by simpa using h2), if_neg (by simp [ha])]; rfl
set_option maxHeartbeats 2000000 in
theorem chainShows_ca (w : World) (lo hi lo2 hi2 : Nat) (l : Lb) (v : Value) (a b : Int) (u : Value) (c : List Int) (h : RdR w lo hi v l.runs) (hlen : l.runs.length ≤ maxLen) (hu : RdI w lo2 hi2 u c) (hc : c.length ≤ 1000000) : Ca Tryz.prog 42 [.agg (lbC l v).toArray, .int .i64 a, .int .i64 b, u] w fun x w' => x = .tuple #[.bool (chainV l a b c).1, .int .i64 (chainV l a b c).2] ∧ Chg [] w w' := by
  obtain ⟨va, vc, rfl, hva⟩ := RdR.outI h
  obtain ⟨ua, uc, rfl, hua⟩ := RdI.outI hu
  refine q_of (Sat.nil w M0) Tryz.func42 rfl (by simp [Tryz.ntmps42]) ?_
  (refine q_seq (q_region ?_))
  refine ql_box rfl rfl (fun b4 => ?_)
  rw [agg_cells]
  (refine ql_pure tabOk rfl rfl (ql_pure tabOk rfl rfl (q_nil (q_seq (q_region ?_)))); refine ql_loadABa tabOk rfl rfl rfl ?_; refine ql_pure tabOk rfl rfl (ql_pure tabOk rfl rfl ?_))
  by_cases h2 : twoV l a b = 0
  · obtain ⟨hl, ha, hb⟩ := two_iff.1 h2
    have hl40 := hl.len
    refine ql_call (β := Nat) tabOk [] _ M0 rfl rfl rfl rfl (Sp.refl _) (fun _ h => h.elim) (fun w' hs => two_ok w' lo hi l _ a b (RdE.keep h hs.chg0) h2) ?_
    rintro d _ rfl
    dsimp only [List.cons_append, List.nil_append]
    (refine ql_pure tabOk rfl rfl (ql_ext tabOk rfl rfl rfl (ql_ext tabOk rfl rfl rfl (ql_pure tabOk rfl rfl (ql_pure tabOk rfl rfl (q_nil (q_seq (q_block (q_seq (q_region (ql_pure tabOk rfl rfl (ql_neqF tabOk rfl rfl rfl (by omega) ?_))))))))))); refine ql_pure tabOk rfl rfl (q_nil (q_cond_false rfl (q_seq (q_region (ql_pure tabOk rfl rfl (ql_pure tabOk rfl rfl ?_)))))))
    refine ql_callv (val := .bool (c.all fun i => inB i 0 (l.runs.length - 1))) tabOk rfl rfl rfl rfl (fun w hs => ?_) ?_; exact by have := all_int w lo2 hi2 _ _ (ints c) (pIx l.runs.length) (RdE.keep hu hs.chg0) (by intro i hi; simp [ints, oneV]) (by simp [ints]; omega) (chain1_p w c l va vc b4 _ (by omega) (hs.blk (by repeat constructor))); rw [pIx_all] at this; exact this
    (refine ql_pure tabOk rfl rfl (ql_pure tabOk rfl rfl (q_nil ?_)))
    cases hal : (c.all fun i => inB i 0 (l.runs.length - 1)) with
    | false =>
      (refine q_cond_true rfl (q_seq (q_region (ql_pure tabOk rfl rfl (ql_pure tabOk rfl rfl (q_nil (q_ret ?_)))))))
      refine q_fin tabOk rfl (by repeat constructor) fun w hs => ?_
      exact ⟨by rw [chain_un h2 hal]; rfl, hs.chg0⟩
    | true =>
      (refine q_cond_false rfl (q_skip (q_blk (q_seq (q_region (ql_pure tabOk rfl rfl (ql_pure tabOk rfl rfl (q_nil (q_seq (q_seq (q_region ?_)))))))))); (iterate 3 refine ql_pure tabOk rfl rfl ?_); refine q_nil (q_block ?_))
      refine q_loop (σ := Nat × Int) (fun s => s.1 ≤ c.length ∧ leadV l s.2 (c.drop s.1) = leadV l a c) (fun s => c.length - s.1)
        (fun s => [(2, .int .i64 b), (3, .slice ua c.length uc), (10, .pointer (some ⟨d, 0, none⟩)), (12, .int .i64 s.2), (34, .slice ua c.length uc), (35, .int .i64 c.length), (36, .int .i64 s.1)])
        (fun _ => [.pt d (dkC l (.slice va l.runs.length vc) l.ord) 122]) (0, a) ⟨by omega, rfl⟩ ⟨rfl, rfl, rfl, rfl, rfl, rfl, rfl, trivial⟩ (by repeat constructor) ?_
      rintro ⟨j, x⟩ ⟨hj, hx⟩ K hK
      dsimp only at hj hx ⊢
      (refine q_seq (q_region (ql_pure tabOk rfl rfl (q_nil (q_seq ?_)))))
      refine q_if rfl (fun hc => ?_) (fun hc => ?_)
      · have hj2 : j < c.length := by omega
        clear hc
        (refine q_skip (q_seq (q_block (q_seq (q_region ?_)))))
        obtain ⟨ub, uo, rfl⟩ := hua (by omega)
        refine ql_index tabOk rfl rfl rfl rfl rfl (by omega) (by omega) ?_
        refine ql_load1 tabOk rfl rfl rfl (fun w hs => RdI.at (RdE.keep hu hs.chg0) j hj2) ?_
        have hall := inB_iff.1 (List.all_eq_true.1 hal _ (List.getElem_mem hj2))
        generalize hik : c[j] = i at hall ⊢
        obtain ⟨k, rfl⟩ := Int.eq_ofNat_of_zero_le hall.1
        have hi2 : k < l.runs.length := by omega
        have hstep := lead_step hl x k (c.drop (j + 1)) hall.1 hi2
        have hd := List.drop_eq_getElem_cons hj2
        rw [hik] at hd
        rw [← hd, hx] at hstep
        simp only [Int.toNat_natCast] at hstep
        (refine ql_pure tabOk rfl rfl (q_nil (q_seq (q_region ?_))); (iterate 3 refine ql_pure tabOk rfl rfl ?_); refine ql_loadABa tabOk rfl rfl rfl ?_; refine ql_pure tabOk rfl rfl ?_)
        refine ql_callv (val := shO (runI l.err l.runs[k])) tabOk rfl rfl rfl rfl (fun w hs => ?_) ?_; exact shows_ca w lo hi l _ (RdE.keep h hs.chg0) ⟨hl.e0, hl.e1⟩ k hi2
        cases hr : runI l.err l.runs[k] with
        | none =>
          dsimp only [shO]
          (refine ql_pure tabOk rfl rfl (ql_ext tabOk rfl rfl rfl (ql_ext tabOk rfl rfl rfl ?_)))
          refine ql_alloc zero86 rfl (fun b15 => ?_)
          (refine ql_setA tabOk rfl rfl rfl rfl rfl (by repeat constructor) rfl ?_; refine ql_pure tabOk rfl rfl (q_nil (q_seq (q_seq (q_region ?_)))); (iterate 3 refine ql_pure tabOk rfl rfl ?_); (iterate 4 refine ql_gno rfl rfl rfl ?_); refine ql_pure tabOk rfl rfl (q_nil (q_cond_true rfl (q_seq (q_region (ql_pure tabOk rfl rfl (ql_pure tabOk rfl rfl (q_nil (q_ret ?_)))))))))
          refine q_fin tabOk rfl (by repeat constructor) fun w hs => ?_
          exact ⟨by rw [chain_yes h2 hal, hstep, hr]; rfl, hs.chg0⟩
        | some p =>
          rw [hr] at hstep
          dsimp only at hstep
          dsimp only [shO]
          (refine ql_pure tabOk rfl rfl (ql_ext tabOk rfl rfl rfl (ql_ext tabOk rfl rfl rfl ?_)))
          refine ql_alloc zero86 rfl (fun b15 => ?_)
          (refine ql_setA tabOk rfl rfl rfl rfl rfl (by repeat constructor) rfl ?_; refine ql_pure tabOk rfl rfl (q_nil (q_seq (q_seq (q_region ?_)))); (iterate 3 refine ql_pure tabOk rfl rfl ?_); refine ql_gyes rfl (ql_pure tabOk rfl rfl (ql_gyes rfl ?_)); refine ql_loadBa tabOk rfl rfl rfl ?_; refine ql_gyes rfl (ql_pure tabOk rfl rfl (ql_gyes rfl (ql_pure tabOk rfl rfl (ql_pure tabOk rfl rfl (q_nil ?_))))))
          refine q_ifn rfl (fun hc => ?_) (fun hc => ?_)
          · have hp : ¬ p.1 = x := by simpa using hc
            rw [if_neg hp] at hstep
            (refine q_seq (q_region (ql_pure tabOk rfl rfl (ql_pure tabOk rfl rfl (q_nil (q_ret ?_))))))
            refine q_fin tabOk rfl (by repeat constructor) fun w hs => ?_
            exact ⟨by rw [chain_yes h2 hal, hstep]; rfl, hs.chg0⟩
          · have hp : p.1 = x := by simpa using hc
            rw [if_pos hp] at hstep
            (refine q_skip (q_region (ql_pure tabOk rfl rfl ?_)); refine ql_loadBa tabOk rfl rfl rfl ?_; refine ql_pure tabOk rfl rfl (q_nil (q_blk (q_region (ql_ar tabOk rfl rfl rfl rfl (by omega) (by omega) (ql_pure tabOk rfl rfl (q_nil ?_)))))))
            exact hK (j + 1, p.2) _ _ ⟨by simp only; omega, hstep.symm⟩ (by simp only; omega) ⟨rfl, rfl, rfl, rfl, rfl, rfl, rfl, trivial⟩ (by repeat constructor)
      · have hjn : j = c.length := by omega
        subst hjn
        rw [List.drop_length] at hx
        have e : leadV l a c = some x := hx.symm
        by_cases hxb : x = b
        · cases c with
          | nil =>
            (refine q_exit _ rfl (q_seq (q_region (ql_pure tabOk rfl rfl (ql_pure tabOk rfl rfl (ql_eqlT tabOk rfl rfl rfl (by omega) (ql_pure tabOk rfl rfl (ql_gyes rfl (ql_pure tabOk rfl rfl (ql_gyes rfl (ql_pure tabOk rfl rfl (ql_gyes rfl ?_))))))))))); refine ql_gtrF tabOk rfl rfl rfl (by omega) ?_; (iterate 3 refine ql_pure tabOk rfl rfl ?_); refine q_nil (q_ret ?_))
            refine q_fin tabOk rfl (by repeat constructor) fun w hs => ?_
            exact ⟨by rw [chain_yes h2 hal, e]; simp [retV], hs.chg0⟩
          | cons c0 c =>
            (refine q_exit _ rfl (q_seq (q_region (ql_pure tabOk rfl rfl (ql_pure tabOk rfl rfl (ql_eqlT tabOk rfl rfl rfl (by omega) (ql_pure tabOk rfl rfl (ql_gyes rfl (ql_pure tabOk rfl rfl (ql_gyes rfl (ql_pure tabOk rfl rfl (ql_gyes rfl ?_))))))))))); (iterate 4 refine ql_pure tabOk rfl rfl ?_); refine q_nil (q_ret ?_))
            refine q_fin tabOk rfl (by repeat constructor) fun w hs => ?_
            exact ⟨by rw [chain_yes h2 hal, e]; simp [retV, hxb], hs.chg0⟩
        · (refine q_exit _ rfl (q_seq (q_region (ql_pure tabOk rfl rfl (ql_pure tabOk rfl rfl (ql_eqlF tabOk rfl rfl rfl (by omega) (ql_pure tabOk rfl rfl ?_)))))); (iterate 3 refine ql_gno rfl rfl rfl ?_); (iterate 3 refine ql_pure tabOk rfl rfl ?_); refine q_nil (q_ret ?_))
          refine q_fin tabOk rfl (by repeat constructor) fun w hs => ?_
          exact ⟨by rw [chain_yes h2 hal, e]; simp [retV, hxb], hs.chg0⟩
  · refine ql_call (β := Option Addr) tabOk [] _ M0 rfl rfl rfl rfl (Sp.refl _) (fun _ h => h.elim) (fun w' hs => two_no w' lo hi l _ a b (RdE.keep h hs.chg0) hlen h2) ?_
    rintro p _ rfl
    dsimp only [List.cons_append, List.nil_append]
    (refine ql_pure tabOk rfl rfl (ql_ext tabOk rfl rfl rfl (ql_ext tabOk rfl rfl rfl (ql_pure tabOk rfl rfl (ql_pure tabOk rfl rfl (q_nil (q_seq (q_block (q_seq (q_region (ql_pure tabOk rfl rfl (ql_neqT tabOk rfl rfl rfl (by omega) ?_))))))))))); refine ql_pure tabOk rfl rfl (q_nil (q_cond_true rfl (q_seq (q_region ?_)))); (iterate 3 refine ql_pure tabOk rfl rfl ?_); refine q_nil (q_ret ?_))
    refine q_fin tabOk rfl (by repeat constructor) fun w hs => ?_
    exact ⟨by rw [chain_no h2]; rfl, hs.chg0⟩
end Go.Proofs.YtcmpdmobmbbplaaGreat

/- The engine, part B32: a cell of an element of a slice of our own changed; elements of several cells. -/
namespace Go.Eng
set_option maxRecDepth 4000
open Go Go.RowKit

section
variable {P : Program} {T : Tab}
variable {ro : Cx} {n : Nat} {F : Fin} {w0 : World} {M : Nat → Prop} {k : List It} {ops : Array Oper} {rest : List Oper} {e : Env} {H Hq : List Ck}
theorem own_set {w' : World} {et sz g m c i : Nat} {xs : List Value} {u : Value} {cur : Array Value} (hl : xs.length = m * sz) (hg : 0 ≤ g) (hnc : m ≤ c) (hcm : c ≤ maxLen) (hcs : cur.size = c * sz) (ht : cur.toList.take (m * sz) = xs)
    (hb' : Blk w' g (cur.toList.set i u) et) : w'.ownsRow 0 et sz (.slice (some ⟨g, 0, none⟩) m c) m (xs.set i u) := by
  refine ⟨by simpa using hl, .inr ⟨g, c, (cur.toList.set i u).toArray, rfl, hg, by simpa [Blk] using hb', hnc, hcm, by simpa using hcs, ?_⟩⟩
  simp only [List.toList_toArray]
  rw [List.take_set, ht]
theorem qf_storeWs (hT : T.Ok P) {t : Nat} {x y : Operand} {g off m c et sz : Nat} {xs : List Value} {u : Value} {H' : List Ck} {ty : TypeId} {pos : String} {af : Array Edge} (i : Nat)
    (hx : opv e x = some (.pointer (some ⟨g, off, none⟩))) (hy : opv e y = some u) (h1 : has T.one t = true) (hv : oneV u = true)
    (hr : Rp H (.ow (.slice (some ⟨g, 0, none⟩) m c) et sz m xs) (.ow (.slice (some ⟨g, 0, none⟩) m c) et sz m (xs.set i u)) H') (ho : off = i) (hi : i < xs.length)
    (h : QF P ro n F w0 M k ops Hq rest e H') : QF P ro n F w0 M k ops Hq (⟨none, .store t x y, ty, pos, af, none⟩ :: rest) e H := .mk fun w hs => by
  subst ho
  obtain ⟨hl, h2⟩ : w.ownsRow 0 et sz (.slice (some ⟨g, 0, none⟩) m c) m xs := hs.mem (hr.app Hq).mem
  rcases h2 with ⟨hv', _⟩ | ⟨g', cap, cur, hv', hg, hh, hnc, hcm, hcs, ht⟩
  · cases hv'
  cases hv'
  have hb : Blk w g cur.toList et := by simpa [Blk] using hh
  have hcl : off < cur.toList.length := by
    have := congrArg List.length ht
    rw [List.length_take] at this
    omega
  refine yf_store1 hT hx hy h1 hv hb hcl (fun w' hc _ hb' => ?_)
  have hs' := hs.rep (hr.app Hq) hc (fun k hk => by
    obtain rfl : k = g := by simpa using hk
    rfl) (own_set hl hg hnc hcm hcs ht hb') (fun b hb2 => by
    have : b = g := by simpa [Ck.D, Value.ownBlock] using hb2.symm
    subst this
    exact ⟨.inl rfl, hb'.lt⟩)
  exact ⟨hs'.right, h.h w' hs'⟩
/-! x[l:h] -/
theorem run_part {t et sz : Nat} (hu : P.underlying t = some (.slice et)) (hsz : (P.info? et).map (·.size) = some sz) {b off len cap : Nat} {kl kh : IntKind} {l h : Int} (h0 : 0 ≤ l) (h1 : l < h) (h2 : h ≤ cap) (w : World) :
    (Instr.sliceAt t (.slice (some ⟨b, off, none⟩) len cap) (some (.int kl l)) (some (.int kh h)) none).run P w = .ok (.slice (some ⟨b, off + l.toNat * sz, none⟩) (h.toNat - l.toNat) (cap - l.toNat)) w := by
  have he := elem_slice hu
  cases hq : P.info? et with
  | none => simp [hq] at hsz
  | some i =>
    have hi : i.size = sz := by simpa [hq] using hsz
    subst hi
    have hne : ¬ cap - l.toNat = 0 := by omega
    have hne2 : ¬ cap = l.toNat := by omega
    rw [run_sliceAt_slice w t _ _ _ _ (by rw [he]; exact hu), run_slice_lh w t _ len cap (by rw [he]; exact hu) kl kh l h h0 (by omega) h2, he]
    simp [sizeOf, typeInfo, hq, sliced, hne, hne2, Addr.add_lit]
theorem ql_part {d t et sz : Nat} {x lo hi : Operand} {b off len cap : Nat} {kl kh : IntKind} {l h : Int} {ty : TypeId} {pos : String} {af : Array Edge} (hu : P.underlying t = some (.slice et)) (hsz : (P.info? et).map (·.size) = some sz)
    (hx : opv e x = some (.slice (some ⟨b, off, none⟩) len cap)) (hl : opv e lo = some (.int kl l)) (hh : opv e hi = some (.int kh h)) (hd : Nat.blt d n = true) (h0 : 0 ≤ l) (h1 : l < h) (h2 : h ≤ cap)
    (hk : QL P ro n F w0 M k ops rest ((d, .slice (some ⟨b, off + l.toNat * sz, none⟩) (h.toNat - l.toNat) (cap - l.toNat)) :: e) H) : QL P ro n F w0 M k ops (⟨some d, .slice t x (some lo) (some hi) none, ty, pos, af, none⟩ :: rest) e H := .mk fun w hw =>
  yl_val (by simp) hd (fun ac hf => by
    simp only [execOp, hf.op hx]
    simp [hf.op hl, hf.op hh, run_part hu hsz h0 h1 h2 w]) (hk.h w hw)
theorem RdI.part {w : World} {lo hi b off n c c2 k h m : Nat} {l : List Int} (hr : RdI w lo hi (.slice (some ⟨b, off, none⟩) n c) l) (hk : k < h) (hh : h ≤ l.length) (hm : m = h - k) : RdI w lo hi (.slice (some ⟨b, off + k * 1, none⟩) m c2) ((l.drop k).take m) := by
  have hl : ((l.drop k).take m).length = m := by rw [List.length_take, List.length_drop]; omega
  have h1 := hr.rd
  rw [cellsOf_one _ (by simp [oneV])] at h1
  refine RdI.of (by
    rw [hl]
    refine ⟨by simp [ints, hl]; omega, ?_⟩
    obtain ⟨e1, e2⟩ := h1
    rcases e2 with ⟨h3, h4⟩ | ⟨b', off', cap, h3, h4, h5⟩
    · simp at h4
      subst h4
      simp at hh
      omega
    · injection h3 with e1 e2 e3
      injection e1 with e1
      injection e1 with e1 e2
      subst e1 e2
      refine .inr ⟨b, off + k * 1, c2, rfl, fun _ => h4 (by simp; omega), fun j hj => ?_⟩
      have hj2 : j < m := by simp [ints] at hj; omega
      rw [show off + k * 1 + j = off + (k + j) from by omega, h5 (k + j) (by simp; omega)]
      simp [ints, List.getElem?_map, List.getElem?_take, List.getElem?_drop, hj2])
end
end Go.Eng

/- Walks: the error of a table; the greatest regret. -/
namespace Go.Proofs.YtcmpdmobmbbplaaGreat
set_option maxRecDepth 4000
open Go Go.Eng

/-- A list of numbers as it is read. -/
def rowAt (w : World) : Value → List Int
  | .slice (some ⟨b, off, _⟩) n _ => (List.range n).map fun i => match w.cell? ⟨b, off + i, none⟩ with
    | some (.int _ z) => z
    | _ => 0
  | _ => []
theorem rowAt_eq {w : World} {lo hi : Nat} {v : Value} {l : List Int} (h : RdI w lo hi v l) : rowAt w v = l := by
  obtain ⟨a, c, rfl, ha⟩ := RdI.outI h
  cases l with
  | nil =>
    cases a <;> rfl
  | cons x l =>
    obtain ⟨b, off, rfl⟩ := ha (by simp)
    refine List.ext_getElem (by simp [rowAt]) (fun i h1 h2 => ?_)
    have := RdI.at h i h2
    simp only [rowAt, List.getElem_map, List.getElem_range]
    rw [Nat.mul_one] at this
    rw [this]
theorem rdII_all {w : World} {lo hi : Nat} {ll : List (List Int)} {vs : List Value} (h2 : vs.length = ll.length) (h3 : ∀ i (h : i < vs.length) (h' : i < ll.length), RdI w lo hi vs[i] ll[i]) (p : List Int → Bool) : vs.all (fun x => p (rowAt w x)) = ll.all p := by
  have e : vs.map (rowAt w) = ll := List.ext_getElem (by simp [h2]) (fun i h4 h5 => by
    rw [List.getElem_map]
    exact rowAt_eq (h3 i (by simpa using h4) h5))
  rw [← e, List.all_map]
  rfl
theorem rdII_mem {w : World} {lo hi : Nat} {ll : List (List Int)} {vs : List Value} (h2 : vs.length = ll.length) (h3 : ∀ i (h : i < vs.length) (h' : i < ll.length), RdI w lo hi vs[i] ll[i]) {x : Value} (hx : x ∈ vs) : RdI w lo hi x (rowAt w x) ∧ rowAt w x ∈ ll := by
  obtain ⟨i, hi, rfl⟩ := List.mem_iff_getElem.1 hx
  have h := h3 i hi (by omega)
  rw [rowAt_eq h]
  exact ⟨h, List.getElem_mem _⟩
def lenP (n : Nat) (row : List Int) : Bool := inB row.length 1 20 && (decide (row.length = n) && true)
def valP (row : List Int) : Bool := row.all fun n => inB n 0 10000
theorem table1_p (w : World) (lo hi b t : Nat) (v : Value) (l : List (List Int)) (vs : List Value) (hb : Blk w b [v] t) (h : RdII w lo hi v l) (hl : 1 ≤ l.length ∧ l.length ≤ 12) (h2 : vs.length = l.length) (h3 : ∀ i (h : i < vs.length) (h' : i < l.length), RdI w lo hi vs[i] l[i]) :
    PredAt Tryz.prog tab w (.func (.func 157) #[] #[.pointer (some ⟨b, 0, none⟩)]) vs (fun x => lenP (l.headD []).length (rowAt w x)) := by
  refine ⟨_, _, _, rfl, rfl, fun w' hw' x hx => ?_⟩
  have hb' := hb.keep hw'
  obtain ⟨hr, hm⟩ := rdII_mem h2 h3 hx
  dsimp only
  generalize hg : rowAt w x = row at hr hm ⊢
  obtain ⟨ra, rc, rfl, hra⟩ := RdI.outI hr
  obtain ⟨a, c, rfl, ha⟩ := RdII.outI h
  obtain ⟨vb, vo, rfl⟩ := ha (by omega)
  obtain ⟨a0, c0, hr0, hc0⟩ := RdII.row h 0 (by omega)
  have e0 : l.headD [] = l[0] := by cases l with
    | nil => simp at hl
    | cons x l => rfl
  refine q_of (Sat.nil w' M0) Tryz.func157 rfl (by simp [Tryz.ntmps157]) ?_
  (refine q_seq (q_region (ql_pure tabOk rfl rfl (q_nil (q_seq (q_region (ql_pure tabOk rfl rfl (ql_pure tabOk rfl rfl ?_))))))))
  refine ql_callv (val := .bool (inB row.length 1 20)) tabOk rfl rfl rfl rfl (fun w hs => ?_) ?_; exact within_ca row.length 1 20 w
  (refine ql_pure tabOk rfl rfl ?_)
  cases h1 : inB row.length 1 20 with
  | false =>
    ((iterate 7 refine ql_gno rfl rfl rfl ?_); refine ql_pure tabOk rfl rfl (ql_pure tabOk rfl rfl (q_nil (q_ret ?_))))
    refine q_fin tabOk rfl (by repeat constructor) fun w hs => ?_
    exact ⟨by simp [lenP, h1, retV], hs.chg0⟩
  | true =>
    (refine ql_gyes rfl (ql_pure tabOk rfl rfl (ql_gyes rfl (ql_pure tabOk rfl rfl (ql_gyes rfl ?_)))); refine ql_loadP tabOk rfl rfl rfl (by assumption) (by rfl) ?_; refine ql_gyes rfl ?_)
    refine ql_index tabOk rfl rfl rfl rfl rfl (by omega) (by omega) ?_
    (refine ql_gyes rfl ?_)
    refine ql_load1 tabOk rfl rfl rfl (fun w hs => hc0 _ (hw'.trans hs.chg0)) ?_
    (refine ql_gyes rfl (ql_pure tabOk rfl rfl (ql_gyes rfl ?_)); (iterate 3 refine ql_pure tabOk rfl rfl ?_); refine q_nil (q_ret ?_))
    refine q_fin tabOk rfl (by repeat constructor) fun w hs => ?_
    exact ⟨by rw [e0]; simp only [lenP, h1, retV, Bool.true_and, Bool.and_true, Value.bool.injEq]; exact decide_eq_decide.2 (by omega), hs.chg0⟩
theorem table3_p (w : World) (c : List Int) : PredAt Tryz.prog tab w (.func (.func 159) #[] #[]) (ints c) (fun x => match x with | .int _ i => inB i 0 10000 | _ => false) := by
  refine ⟨_, _, _, rfl, rfl, fun w' hw' x hx => ?_⟩
  obtain ⟨i, hi, rfl⟩ := List.mem_map.1 hx
  refine q_of (Sat.nil w' M0) Tryz.func159 rfl (by simp [Tryz.ntmps159]) ?_
  (refine q_seq (q_region (ql_pure tabOk rfl rfl (q_nil (q_seq (q_region (ql_pure tabOk rfl rfl ?_)))))))
  refine ql_callv (val := .bool (inB i 0 10000)) tabOk rfl rfl rfl rfl (fun w hs => ?_) ?_; exact within_ca i 0 10000 w
  (refine ql_pure tabOk rfl rfl (q_nil (q_ret ?_)))
  refine q_fin tabOk rfl (by repeat constructor) fun w hs => ?_
  exact ⟨rfl, hs.chg0⟩
theorem table2_p (w : World) (lo hi : Nat) (l : List (List Int)) (vs : List Value) (hl : ∀ row ∈ l, row.length ≤ 20) (h2 : vs.length = l.length) (h3 : ∀ i (h : i < vs.length) (h' : i < l.length), RdI w lo hi vs[i] l[i]) :
    PredAt Tryz.prog tab w (.func (.func 158) #[] #[]) vs (fun x => valP (rowAt w x)) := by
  refine ⟨_, _, _, rfl, rfl, fun w' hw' x hx => ?_⟩
  obtain ⟨hr, hm⟩ := rdII_mem h2 h3 hx
  dsimp only
  generalize hg : rowAt w x = row at hr hm ⊢
  have hr20 := hl row hm
  obtain ⟨ra, rc, rfl, hra⟩ := RdI.outI hr
  refine q_of (Sat.nil w' M0) Tryz.func158 rfl (by simp [Tryz.ntmps158]) ?_
  (refine q_seq (q_region (ql_pure tabOk rfl rfl (q_nil (q_seq (q_region (ql_pure tabOk rfl rfl ?_)))))))
  refine ql_callv (val := .bool (valP row)) tabOk rfl rfl rfl rfl (fun w hs => ?_) ?_; exact by have := all_int w lo hi _ _ (ints row) _ (RdE.keep hr (hw'.trans hs.chg0)) (by intro i hi; simp [ints, oneV]) (by simp [ints]; omega) (table3_p w row); unfold ints at this; rw [List.all_map] at this; exact this
  (refine ql_pure tabOk rfl rfl (q_nil (q_ret ?_)))
  refine q_fin tabOk rfl (by repeat constructor) fun w hs => ?_
  exact ⟨rfl, hs.chg0⟩
theorem table_ca (w : World) (lo hi : Nat) (v : Value) (l : List (List Int)) (h : RdII w lo hi v l) : Ca Tryz.prog 120 [v] w fun x w' => x = .int .i64 (tableV l) ∧ Chg [] w w' := by
  obtain ⟨a, c, rfl, ha⟩ := RdII.outI h
  obtain ⟨vs, hv1, hv2, hv3⟩ := h
  have hone : ∀ i (hi : i < vs.length), oneV vs[i] = true := fun i hi => by
    obtain ⟨a, c, e, _⟩ := RdI.outI (hv3 i hi (by omega))
    rw [e]
    rfl
  refine q_of (Sat.nil w M0) Tryz.func120 rfl (by simp [Tryz.ntmps120]) ?_
  (refine q_seq (q_region ?_))
  refine ql_box rfl rfl (fun b1 => ?_)
  (refine ql_pure tabOk rfl rfl (q_nil (q_seq (q_block (q_seq (q_region ?_))))); refine ql_loadBa tabOk rfl rfl rfl ?_; refine ql_pure tabOk rfl rfl ?_)
  refine ql_callv (val := .bool (inB l.length 1 12)) tabOk rfl rfl rfl rfl (fun w hs => ?_) ?_; exact within_ca l.length 1 12 w
  (refine ql_pure tabOk rfl rfl (ql_pure tabOk rfl rfl ?_))
  cases h1 : inB l.length 1 12 with
  | false =>
    ((iterate 4 refine ql_gno rfl rfl rfl ?_); refine ql_pure tabOk rfl rfl (ql_pure tabOk rfl rfl (q_nil (q_cond_true rfl (q_seq (q_region (ql_pure tabOk rfl rfl (q_nil (q_ret ?_)))))))))
    refine q_fin tabOk rfl (by repeat constructor) fun w hs => ?_
    exact ⟨by simp [retV, tableV, h1], hs.chg0⟩
  | true =>
    have h1' := inB_iff.1 h1
    (refine ql_gyes rfl ?_; refine ql_loadBa tabOk rfl rfl rfl ?_; refine ql_gyes rfl (ql_pure tabOk rfl rfl (ql_gyes rfl ?_)))
    refine ql_callv (val := .bool (l.all (lenP (l.headD []).length))) tabOk rfl rfl rfl rfl (fun w hs => ?_) ?_; exact by have := all_ints w lo hi _ _ vs _ (hv1.keep hs.chg0) hone (by omega) (table1_p w lo hi b1 _ _ l vs (hs.blk (by repeat constructor)) ⟨vs, hv1.keep hs.chg0, hv2, fun i hi hi' => (hv3 i hi hi').keep hs.chg0⟩ (by omega) hv2 (fun i hi hi' => (hv3 i hi hi').keep hs.chg0)); rw [rdII_all hv2 (fun i hi hi' => (hv3 i hi hi').keep hs.chg0)] at this; exact this
    (refine ql_gyes rfl ?_; (iterate 3 refine ql_pure tabOk rfl rfl ?_); refine q_nil ?_)
    cases h4 : l.all (lenP (l.headD []).length) with
    | false =>
      have e : tableV l = 2 := by show (if (inB l.length 1 12 && l.all (lenP (l.headD []).length)) = false then (2 : Int) else if l.all valP = false then 3 else 0) = 2; rw [if_pos (by rw [h1]; exact h4)]
      (refine q_cond_true rfl (q_seq (q_region (ql_pure tabOk rfl rfl (q_nil (q_ret ?_))))))
      refine q_fin tabOk rfl (by repeat constructor) fun w hs => ?_
      exact ⟨by rw [e]; rfl, hs.chg0⟩
    | true =>
      have hl20 : ∀ row ∈ l, row.length ≤ 20 := fun row hm => by
        have := List.all_eq_true.1 h4 row hm
        simp only [lenP, Bool.and_eq_true] at this
        have := inB_iff.1 this.1
        omega
      (refine q_cond_false rfl (q_seq (q_region ?_)); refine ql_loadBa tabOk rfl rfl rfl ?_)
      refine ql_callv (val := .bool (l.all valP)) tabOk rfl rfl rfl rfl (fun w hs => ?_) ?_; exact by have := all_ints w lo hi _ _ vs _ (hv1.keep hs.chg0) hone (by omega) (table2_p w lo hi l vs hl20 hv2 (fun i hi hi' => (hv3 i hi hi').keep hs.chg0)); rw [rdII_all hv2 (fun i hi hi' => (hv3 i hi hi').keep hs.chg0)] at this; exact this
      (refine ql_pure tabOk rfl rfl (ql_pure tabOk rfl rfl (q_nil ?_)))
      have hn : ¬ (inB l.length 1 12 && l.all (lenP (l.headD []).length)) = false := by rw [h1, h4]; simp
      cases h5 : l.all valP with
      | false =>
        have e : tableV l = 3 := by show (if (inB l.length 1 12 && l.all (lenP (l.headD []).length)) = false then (2 : Int) else if l.all valP = false then 3 else 0) = 3; rw [if_neg hn, if_pos h5]
        (refine q_cond_true rfl (q_seq (q_region (ql_pure tabOk rfl rfl (q_nil (q_ret ?_))))))
        refine q_fin tabOk rfl (by repeat constructor) fun w hs => ?_
        exact ⟨by rw [e]; rfl, hs.chg0⟩
      | true =>
        have h6 : ¬ l.all valP = false := by rw [h5]; simp
        have e : tableV l = 0 := by show (if (inB l.length 1 12 && l.all (lenP (l.headD []).length)) = false then (2 : Int) else if l.all valP = false then 3 else 0) = 0; rw [if_neg hn, if_neg h6]
        (refine q_cond_false rfl (q_skip (q_blk (q_seq (q_region (ql_pure tabOk rfl rfl (q_nil (q_ret ?_))))))))
        refine q_fin tabOk rfl (by repeat constructor) fun w hs => ?_
        exact ⟨by rw [e]; rfl, hs.chg0⟩
end Go.Proofs.YtcmpdmobmbbplaaGreat

/- Walks: the greatest of numbers; the greatest regret; the least of numbers. -/
namespace Go.Proofs.YtcmpdmobmbbplaaGreat
set_option maxRecDepth 4000
open Go Go.Eng

theorem maxF_snoc (a : Int) (l : List Int) (x : Int) : maxF a (l ++ [x]) = max (maxF a l) x := by simp [maxF, List.foldl_append]
theorem minF_snoc (a : Int) (l : List Int) (x : Int) : minF a (l ++ [x]) = min (minF a l) x := by simp [minF, List.foldl_append]
theorem maxI_ca (w : World) (lo hi : Nat) (v : Value) (x : Int) (l : List Int) (h : RdI w lo hi v (x :: l)) (hl : l.length ≤ 1000000) : Ca Tryz.prog 160 [v] w fun r w' => r = .int .i64 (maxF x l) ∧ Chg [] w w' := by
  obtain ⟨a, c, rfl, ha⟩ := RdI.outI h
  obtain ⟨b, off, rfl⟩ := ha (by simp)
  generalize hn : (x :: l).length = n
  have hn' : n = l.length + 1 := by rw [← hn]; rfl
  rw [hn] at h
  refine q_of (Sat.nil w M0) Tryz.func160 rfl (by simp [Tryz.ntmps160]) ?_
  (refine q_seq (q_region (ql_pure tabOk rfl rfl (q_nil (q_seq (q_seq (q_region (ql_pure tabOk rfl rfl (ql_pure tabOk rfl rfl (ql_lssF tabOk rfl rfl rfl (by omega) (q_nil (q_cond_false rfl ?_))))))))))); refine q_skip (q_seq (q_region (ql_pure tabOk rfl rfl ?_))))
  refine ql_index tabOk rfl rfl rfl rfl rfl (by omega) (by omega) ?_
  refine ql_load1 (v := .int .i64 x) tabOk rfl rfl rfl (fun w hs => RdI.at (RdE.keep h hs.chg0) 0 (by simp)) ?_
  (refine ql_pure tabOk rfl rfl (q_nil (q_seq (q_seq (q_region (ql_pure tabOk rfl rfl (q_nil (q_block ?_))))))))
  refine q_loop (σ := Nat) (fun s => s ≤ l.length) (fun s => l.length - s) (fun s => [(0, .slice (some ⟨b, off, none⟩) n c), (3, .int .i64 (maxF x (l.take s))), (4, .int .i64 (s + 1))]) (fun _ => []) 0 (by omega) ⟨rfl, rfl, rfl, trivial⟩ (by repeat constructor) ?_
  rintro s hs1 K hK
  (refine q_seq (q_seq (q_region ?_)); (iterate 4 refine ql_pure tabOk rfl rfl ?_); refine q_nil ?_)
  refine q_if rfl (fun hc => ?_) (fun hc => ?_)
  · have hs2 : s < l.length := by omega
    clear hc
    (refine q_skip (q_seq (q_block (q_region ?_))); (iterate 3 refine ql_pure tabOk rfl rfl ?_))
    refine ql_index tabOk rfl rfl rfl rfl rfl (by omega) (by omega) ?_
    refine ql_load1 (v := .int .i64 l[s]) tabOk rfl rfl rfl (fun w hs => by
      have h1 := RdI.at (RdE.keep h hs.chg0) (s + 1) (by simp; omega)
      rw [List.getElem_cons_succ] at h1
      have e : ((s : Int) + 1).toNat = s + 1 := by omega
      rw [e]
      exact h1) ?_
    (refine ql_pure tabOk rfl rfl (ql_pure tabOk rfl rfl (q_nil (q_blk (q_region (ql_pure tabOk rfl rfl (ql_ar tabOk rfl rfl rfl rfl (by omega) (by omega) (ql_pure tabOk rfl rfl (q_nil ?_)))))))))
    exact hK (s + 1) _ _ (by omega) (by omega) ⟨rfl, by
      rw [List.take_succ_eq_append_getElem hs2, maxF_snoc]
      rfl, rfl, trivial⟩ (by repeat constructor)
  · have hsn : s = l.length := by omega
    subst hsn
    rw [List.take_length]
    (refine q_exit _ rfl (q_seq (q_region (ql_pure tabOk rfl rfl (ql_pure tabOk rfl rfl (q_nil (q_ret ?_)))))))
    refine q_fin tabOk rfl (by repeat constructor) fun w hs => ?_
    exact ⟨rfl, hs.chg0⟩
/-- A wax as a value. -/
def wxV (most : Int) (v : Value) : Value := .agg #[v, .int .i64 most]
theorem greatest_ca (w : World) (lo hi : Nat) (v : Value) (most : Int) (row : List Int) (i j : Nat) (h : RdI w lo hi v row) (hcap : ∀ a n c, v = .slice a n c → n ≤ c) (hij : i ≤ j) (hj : j < row.length) (hl : row.length ≤ 1000000) :
    Ca Tryz.prog 122 [wxV most v, .int .i64 i, .int .i64 j] w fun r w' => r = .int .i64 (topR row i j) ∧ Chg [] w w' := by
  obtain ⟨a, c, rfl, ha⟩ := RdI.outI h
  obtain ⟨b, off, rfl⟩ := ha (by omega)
  have hc := hcap _ _ _ rfl
  have hsp : spanL row i j = (row.drop i).take (j + 1 - i) := rfl
  cases hx : spanL row i j with
  | nil =>
    exfalso
    have := congrArg List.length hx
    rw [hsp, List.length_take, List.length_drop] at this
    simp at this
    omega
  | cons x l =>
    have e : topR row i j = maxF x l := by unfold topR; rw [hx]
    have hlen : l.length + 1 = j + 1 - i := by
      have := congrArg List.length hx
      rw [hsp, List.length_take, List.length_drop] at this
      simp at this
      omega
    unfold wxV
    refine q_of (Sat.nil w M0) Tryz.func122 rfl (by simp [Tryz.ntmps122]) ?_
    (refine q_seq (q_region ?_))
    refine ql_box rfl rfl (fun b3 => ?_)
    (refine ql_pure tabOk rfl rfl (q_nil (q_seq (q_region (ql_pure tabOk rfl rfl ?_)))); refine ql_loadBa tabOk rfl rfl rfl ?_; refine ql_pure tabOk rfl rfl (ql_pure tabOk rfl rfl (ql_ar tabOk rfl rfl rfl rfl (by omega) (by omega) ?_)))
    refine ql_part (et := 3) (sz := 1) (by kernel_rfl) (by kernel_rfl) rfl rfl rfl rfl (by omega) (by omega) (by omega) ?_
    refine ql_callv (val := .int .i64 (maxF x l)) tabOk rfl rfl rfl rfl (fun w hs => ?_) ?_; exact maxI_ca w lo hi _ x l (by have := RdI.part (c2 := c - i) (RdE.keep h hs.chg0) (k := i) (h := j + 1) (m := j + 1 - i) (by omega) (by omega) rfl; rw [← hsp, hx] at this; exact this) (by omega)
    (refine ql_pure tabOk rfl rfl (q_nil (q_ret ?_)))
    refine q_fin tabOk rfl (by repeat constructor) fun w hs => ?_
    exact ⟨by rw [e]; rfl, hs.chg0⟩
end Go.Proofs.YtcmpdmobmbbplaaGreat

/- Walks: the regrets of all waxes. -/
namespace Go.Proofs.YtcmpdmobmbbplaaGreat
set_option maxRecDepth 4000
open Go Go.Eng

theorem slW : SlT Tryz.prog 176 179 2 32 (.agg #[.slice none 0 0, .int .i64 0]) := ⟨by kernel_rfl, by kernel_rfl, by kernel_rfl, by decide⟩
/-- Waxes as cells. -/
def wxC (most : Int) (xs : List (Value × List Int)) : List Value := xs.flatMap fun p => [p.1, .int .i64 most]
theorem wxC_len (most : Int) (xs : List (Value × List Int)) : (wxC most xs).length = xs.length * 2 := by
  unfold wxC
  induction xs with
  | nil => rfl
  | cons x xs ih => simp only [List.flatMap_cons, List.length_append, ih, List.length_cons, List.length_nil]; omega
theorem wxC_get (most : Int) : ∀ (xs : List (Value × List Int)) (i : Nat) (hi : i < xs.length), (wxC most xs)[i * 2]? = some xs[i].1 ∧ (wxC most xs)[i * 2 + 1]? = some (.int .i64 most)
  | x :: xs, 0, _ => ⟨rfl, rfl⟩
  | x :: xs, i + 1, hi => by
    have := wxC_get most xs i (by simpa using hi)
    simp only [List.getElem_cons_succ, wxC, List.flatMap_cons] at this ⊢
    rw [show (i + 1) * 2 = i * 2 + 1 + 1 from by omega, show i * 2 + 1 + 1 + 1 = (i * 2 + 1) + 1 + 1 from rfl]
    exact this
theorem wxC_set (most : Int) : ∀ (xs : List (Value × List Int)) (i : Nat) (u : Value) (r : List Int), (wxC most xs).set (i * 2) u = wxC most (xs.modify i fun _ => (u, r))
  | [], i, u, r => by simp [wxC]
  | x :: xs, 0, u, r => rfl
  | x :: xs, i + 1, u, r => by
    have := wxC_set most xs i u r
    simp only [wxC, List.flatMap_cons] at this ⊢
    rw [show (i + 1) * 2 = i * 2 + 1 + 1 from by omega]
    simp only [List.cons_append, List.nil_append, List.set_cons_succ, this, List.modify_succ_cons, List.flatMap_cons]
theorem own_cellS {w : World} {et sz g m c : Nat} {xs : List Value} (h : w.ownsRow 0 et sz (.slice (some ⟨g, 0, none⟩) m c) m xs) (i : Nat) {x : Value} (hi : xs[i]? = some x) : w.cell? ⟨g, i, none⟩ = some x := by
  obtain ⟨hl, h2⟩ := h
  rcases h2 with ⟨hv', _⟩ | ⟨g', cap, cur, hv', hg, hh, hnc, hcm, hcs, ht⟩
  · cases hv'
  cases hv'
  have hb : Blk w g cur.toList et := by simpa [Blk] using hh
  have hl2 := (List.getElem?_eq_some_iff.1 hi).1
  rw [Blk.cell hb i, ← hi, ← ht, List.getElem?_take, if_pos (by omega)]
theorem wx_len {w : World} {et : Nat} {v : Value} {m : Nat} {most : Int} {xs : List (Value × List Int)} (h : w.ownsRow 0 et 2 v m (wxC most xs)) : m = xs.length := by
  have := h.1
  rw [wxC_len] at this
  omega
theorem erase_perm {α : Type} : ∀ (l : List α) (j : Nat) (h : j < l.length), l.Perm (l[j] :: l.eraseIdx j)
  | a :: l, 0, _ => .refl _
  | a :: l, j + 1, h => by
    have := erase_perm l j (by simpa using h)
    simp only [List.getElem_cons_succ, List.eraseIdx_cons_succ]
    exact (this.cons a).trans (.swap _ _ _)
section
variable {t : Nat}
theorem rowsO_out (Y : List (Value × List Int)) (j : Nat) (hj : j < Y.length) : (rowsO t Y).Perm (.ow Y[j].1 t 1 Y[j].2.length (ints Y[j].2) :: rowsO t (Y.eraseIdx j)) := (erase_perm Y j hj).map _
theorem rows_out {w0 w : World} {M : Nat → Prop} {R : List Ck} {Y : List (Value × List Int)} (j : Nat) (hj : j < Y.length) (h : Sat w0 M (un (rowsO t Y) :: R) w) : Sat w0 M (.ow Y[j].1 t 1 Y[j].2.length (ints Y[j].2) :: un (rowsO t (Y.eraseIdx j)) :: R) w := by
  have h1 := Sat.un_iff.1 (Sat.un_perm (rowsO_out Y j hj) h)
  rw [List.cons_append] at h1
  have h2 : Sat w0 M (rowsO t (Y.eraseIdx j) ++ (.ow Y[j].1 t 1 Y[j].2.length (ints Y[j].2) :: R)) w := h1.perm List.perm_middle.symm
  exact (Sat.un_iff.2 h2).perm (.swap _ _ _)
theorem rows_put {w0 w : World} {M : Nat → Prop} {R : List Ck} {Y : List (Value × List Int)} (j : Nat) (hj : j < Y.length) (u : Value) (l : List Int) (h : Sat w0 M (.ow u t 1 l.length (ints l) :: un (rowsO t (Y.eraseIdx j)) :: R) w) : Sat w0 M (un (rowsO t (Y.modify j fun _ => (u, l))) :: R) w := by
  have e : Y.modify j (fun _ => (u, l)) = Y.set j (u, l) := List.ext_getElem (by simp) (fun i h1 h2 => by rw [List.getElem_modify, List.getElem_set])
  rw [e]
  have h0 := rowsO_out (t := t) (Y.set j (u, l)) j (by simpa using hj)
  simp only [List.getElem_set_self, List.eraseIdx_set_eq] at h0
  exact Sat.un_perm h0.symm (Sat.un_in h)
theorem rows_nil {w0 w : World} {M : Nat → Prop} {R : List Ck} (h : Sat w0 M R w) : ∀ n, Sat w0 M (un (rowsO t (List.replicate n (.slice none 0 0, []))) :: R) w
  | 0 => Sat.un_nil h
  | n + 1 => Sat.un_in (Sat.ownil (rows_nil h n) t 1)
end
theorem rows_nil' {w0 w : World} {M : Nat → Prop} {R : List Ck} (t : Nat) (h : Sat w0 M R w) (n : Nat) : Sat w0 M (un (rowsO t (List.replicate n (.slice none 0 0, []))) :: R) w := rows_nil h n
/-- The regrets on the first snows. -/
def regP (l : List (List Int)) (k : Nat) (row : List Int) : List Int := (List.range k).map fun s => row.getD s 0 - lowV l s
theorem regP_succ (l : List (List Int)) (k : Nat) (row : List Int) : regP l (k + 1) row = regP l k row ++ [row.getD k 0 - lowV l k] := by
  unfold regP
  rw [List.range_succ, List.map_append]
  rfl
theorem regP_len (l : List (List Int)) (k : Nat) (row : List Int) : (regP l k row).length = k := by simp [regP]
/-- The rows, some of which are longer by one. -/
structure RegI (l : List (List Int)) (s m : Nat) (xs : List (Value × List Int)) : Prop where
  len : xs.length = l.length
  lt : ∀ i (hi : i < xs.length), i < m → xs[i].2 = regP l (s + 1) (l.getD i [])
  ge : ∀ i (hi : i < xs.length), m ≤ i → xs[i].2 = regP l s (l.getD i [])
theorem RegI.next {l : List (List Int)} {s : Nat} {xs : List (Value × List Int)} (h : RegI l s l.length xs) : RegI l (s + 1) 0 xs :=
  ⟨h.len, fun _ _ h2 => by omega, fun i hi _ => h.lt i hi (by rw [← h.len]; exact hi)⟩
theorem RegI.step {l : List (List Int)} {s m : Nat} {xs : List (Value × List Int)} (h : RegI l s m xs) (u : Value) {r : List Int} (hr : r = regP l (s + 1) (l.getD m [])) : RegI l s (m + 1) (xs.modify m fun _ => (u, r)) := by
  refine ⟨by rw [List.length_modify]; exact h.len, fun i hi h2 => ?_, fun i hi h2 => ?_⟩
  · rw [List.getElem_modify]
    split
    · rename_i e; subst e; exact hr
    · exact h.lt i (by simpa using hi) (by omega)
  · rw [List.getElem_modify, if_neg (by omega)]
    exact h.ge i (by simpa using hi) (by omega)
theorem RegI.all {l : List (List Int)} {s : Nat} {xs : List (Value × List Int)} (h : RegI l s 0 xs) : xs.map (·.2) = l.map (regP l s) := by
  refine List.ext_getElem (by simp [h.len]) (fun i h1 h2 => ?_)
  have hi : i < xs.length := by simpa using h1
  have hi2 : i < l.length := by simpa using h2
  rw [List.getElem_map, List.getElem_map, h.ge i hi (by omega), List.getD_eq_getElem?_getD, List.getElem?_eq_getElem hi2]
  rfl
end Go.Proofs.YtcmpdmobmbbplaaGreat

/- Walks: the waxes of a table. -/
namespace Go.Proofs.YtcmpdmobmbbplaaGreat
set_option maxRecDepth 4000
open Go Go.Eng

theorem gt_get {l : List (List Int)} {i s : Nat} (hi : i < l.length) (hs : s < l[i].length) : gt l i s = l[i][s] := by
  unfold gt
  simp only [List.getD_eq_getElem?_getD, List.getElem?_eq_getElem hi, Option.getD_some, List.getElem?_eq_getElem hs]
theorem getD_get {r : List Int} {s : Nat} (hs : s < r.length) : r.getD s 0 = r[s] := by
  simp only [List.getD_eq_getElem?_getD, Option.getD_some, List.getElem?_eq_getElem hs]
theorem RdII.rowS {w : World} {lo hi : Nat} {b off len cap m : Nat} {ll : List (List Int)} (h : RdII w lo hi (.slice (some ⟨b, off, none⟩) len cap) ll) (i : Nat) (hi' : i < ll.length) (hm : ll[i].length = m) (hp : 0 < m) :
    ∃ b2 o2 c2, RdI w lo hi (.slice (some ⟨b2, o2, none⟩) m c2) ll[i] ∧ ∀ w', Chg [] w w' → w'.cell? ⟨b, off + i * 1, none⟩ = some (.slice (some ⟨b2, o2, none⟩) m c2) := by
  obtain ⟨a, c, h1, h2⟩ := RdII.row h i hi'
  obtain ⟨a', c', e, h3⟩ := RdI.outI h1
  obtain ⟨b2, o2, e2⟩ := h3 (by omega)
  injection e with e3 e4 e5
  subst e3 e2 hm
  exact ⟨b2, o2, c, h1, h2⟩
theorem low_step (l : List (List Int)) (a : Int) (s k : Nat) (hk : k < l.length) : minF a ((l.take (k + 1)).map fun row => row.getD s 0) = min (minF a ((l.take k).map fun row => row.getD s 0)) (l[k].getD s 0) := by
  rw [List.take_succ_eq_append_getElem hk, List.map_append]
  exact minF_snoc _ _ _
set_option maxHeartbeats 4000000 in
theorem waxes_ca (w : World) (lo hi : Nat) (v : Value) (l : List (List Int)) (n : Nat) (most : Int) (h : RdII w lo hi v l) (hl : TabOk l n) : Ca Tryz.prog 121 [v, .int .i64 most] w fun x w' => ∃ y : Value × List (Value × List Int), (x = y.1 ∧ y.2.map (·.2) = regV l n) ∧ Sat w M0 [un (rowsO 3 y.2), .ow y.1 179 2 l.length (wxC most y.2)] w' := by
  obtain ⟨a, c, rfl, ha⟩ := RdII.outI h
  have hl1 := hl.l1
  have hl2 := hl.l2
  have hn1 := hl.n1
  have hn2 := hl.n2
  obtain ⟨vb, vo, rfl⟩ := ha (by omega)
  refine q_of (Sat.nil w M0) Tryz.func121 rfl (by simp [Tryz.ntmps121]) ?_
  (refine q_seq (q_region (ql_pure tabOk rfl rfl (q_nil (q_seq (q_region (ql_pure tabOk rfl rfl (q_nil (q_seq (q_seq (q_region ?_)))))))))); (iterate 3 refine ql_pure tabOk rfl rfl ?_); refine q_nil (q_block ?_))
  refine q_conv (H' := [.ow (.slice none 0 0) 179 2 0 (wxC most (List.replicate 0 (.slice none 0 0, [])))]) (fun w' hs => Sat.ownil hs 179 2) ?_
  refine q_loop (σ := Nat × Value) (fun y => y.1 ≤ l.length) (fun y => l.length - y.1) (fun y => [(0, .slice (some ⟨vb, vo, none⟩) l.length c), (1, .int .i64 most), (5, y.2), (13, .int .i64 l.length), (14, .int .i64 y.1)])
    (fun y => [.ow y.2 179 2 y.1 (wxC most (List.replicate y.1 (.slice none 0 0, [])))]) (0, .slice none 0 0) (by simp only; omega) ⟨rfl, rfl, rfl, rfl, rfl, trivial⟩ (by repeat constructor) ?_
  rintro ⟨k, u⟩ hk K hK
  dsimp only at hk ⊢
  (refine q_seq (q_region (ql_pure tabOk rfl rfl (q_nil (q_seq ?_)))))
  refine q_if rfl (fun hc => ?_) (fun hc => ?_)
  · have hk2 : k < l.length := by omega
    clear hc
    (refine q_skip (q_seq (q_block (q_region (ql_pure tabOk rfl rfl (ql_pure tabOk rfl rfl ?_))))))
    refine ql_mk #[.slice none 0 0, .int .i64 most] rfl (by kernel_rfl) rfl ?_
    skip
    refine ql_mkS 179 [.slice none 0 0, .int .i64 most] rfl (by kernel_rfl) rfl (fun bn => ?_)
    skip
    refine ql_append (q := 1) (news := [.slice none 0 0, .int .i64 most]) slW rfl rfl rfl (fun v' => by repeat constructor) (fun w' hs => ⟨_, _, Blk.rdN (hs.blk (b := bn) (by repeat constructor)) rfl⟩) (by simp [oneV]) (by omega) (by omega) (fun u' => ?_)
    (refine ql_pure tabOk rfl rfl (q_nil (q_blk (q_region (ql_ar tabOk rfl rfl rfl rfl (by omega) (by omega) (ql_pure tabOk rfl rfl (q_nil ?_)))))))
    have e : wxC most (List.replicate (k + 1) (.slice none 0 0, [])) = wxC most (List.replicate k (.slice none 0 0, [])) ++ [.slice none 0 0, .int .i64 most] := by
      rw [List.replicate_succ', wxC, List.flatMap_append]
      rfl
    exact hK (k + 1, u') _ _ (by simp only; omega) (by simp only; omega) ⟨rfl, rfl, rfl, rfl, rfl, trivial⟩ (by dsimp only; rw [e]; repeat constructor)
  · obtain rfl : k = l.length := by omega
    clear hc hK hk
    refine q_fact (fun w hs => hs.ownSome (v := u) (by repeat constructor) (by omega)) ?_
    rintro ⟨g, cw, rfl⟩
    have hrow : ∀ i (hi : i < l.length), l[i].length = n := fun i hi => hl.len _ (List.getElem_mem _)
    obtain ⟨a0, o0, c0, hr0, hc0⟩ := RdII.rowS h 0 (by omega) (hrow 0 (by omega)) (by omega)
    (refine q_exit _ rfl (q_seq (q_seq (q_region (ql_pure tabOk rfl rfl ?_)))))
    refine ql_index tabOk rfl rfl rfl rfl rfl (by omega) (by omega) ?_
    refine ql_load1 tabOk rfl rfl rfl (fun w hs => hc0 _ hs.chg0) ?_
    (refine ql_pure tabOk rfl rfl (ql_pure tabOk rfl rfl (q_nil (q_block ?_))))
    refine q_conv (H' := [un (rowsO 3 (List.replicate l.length (.slice none 0 0, []))), .ow (.slice (some ⟨g, 0, none⟩) l.length cw) 179 2 l.length (wxC most (List.replicate l.length (.slice none 0 0, [])))]) (fun w' hs => rows_nil' _ (hs.sp (by repeat constructor)) _) ?_
    refine q_loop (σ := Nat × List (Value × List Int)) (fun y => y.1 ≤ n ∧ RegI l y.1 0 y.2) (fun y => n - y.1) (fun y => [(0, .slice (some ⟨vb, vo, none⟩) l.length c), (5, .slice (some ⟨g, 0, none⟩) l.length cw), (25, .int .i64 n), (26, .int .i64 y.1)])
      (fun y => [un (rowsO 3 y.2), .ow (.slice (some ⟨g, 0, none⟩) l.length cw) 179 2 l.length (wxC most y.2)]) (0, List.replicate l.length (.slice none 0 0, [])) ⟨by simp only; omega, ⟨by simp, fun _ _ h => by omega, fun i hi _ => by simp [regP]⟩⟩ ⟨rfl, rfl, rfl, rfl, trivial⟩ (by repeat constructor) ?_
    rintro ⟨s, xs⟩ ⟨hs1, hI⟩ K hK
    dsimp only at hs1 hI ⊢
    (refine q_seq (q_region (ql_pure tabOk rfl rfl (q_nil (q_seq ?_)))))
    refine q_if rfl (fun hc => ?_) (fun hc => ?_)
    · have hs2 : s < n := by omega
      clear hc
      (refine q_skip (q_seq (q_block (q_seq (q_region (ql_pure tabOk rfl rfl (ql_pure tabOk rfl rfl (q_nil (q_seq (q_region (ql_pure tabOk rfl rfl ?_)))))))))))
      refine ql_index tabOk rfl rfl rfl rfl rfl (by omega) (by omega) ?_
      refine ql_load1 tabOk rfl rfl rfl (fun w hs => hc0 _ hs.chg0) ?_
      (refine ql_pure tabOk rfl rfl ?_)
      refine ql_index tabOk rfl rfl rfl rfl rfl (by omega) (by omega) ?_
      refine ql_load1 (v := .int .i64 (gt l 0 s)) tabOk rfl rfl rfl (fun w hs => by
        rw [gt_get (by omega) (by rw [hrow]; omega)]
        exact RdI.at (RdE.keep hr0 hs.chg0) s (by rw [hrow]; omega)) ?_
      (refine ql_pure tabOk rfl rfl (q_nil (q_seq (q_seq (q_region ?_)))); (iterate 3 refine ql_pure tabOk rfl rfl ?_); refine q_nil (q_block ?_))
      refine q_loop (σ := Nat) (fun y => y ≤ l.length) (fun y => l.length - y) (fun y => [(0, .slice (some ⟨vb, vo, none⟩) l.length c), (5, .slice (some ⟨g, 0, none⟩) l.length cw), (6, .int .i64 s), (7, .int .i64 (minF (gt l 0 s) ((l.take y).map fun row => row.getD s 0))), (25, .int .i64 n), (26, .int .i64 s), (35, .slice (some ⟨vb, vo, none⟩) l.length c), (36, .int .i64 l.length), (37, .int .i64 y)])
        (fun y => [un (rowsO 3 xs), .ow (.slice (some ⟨g, 0, none⟩) l.length cw) 179 2 l.length (wxC most xs)]) 0 (by omega) ⟨rfl, rfl, rfl, rfl, rfl, rfl, rfl, rfl, rfl, trivial⟩ (by repeat constructor) ?_
      rintro y hy K2 hK2
      (refine q_seq (q_region (ql_pure tabOk rfl rfl (q_nil (q_seq ?_)))))
      refine q_if rfl (fun hc => ?_) (fun hc => ?_)
      · have hy2 : y < l.length := by omega
        clear hc
        obtain ⟨b1, o1, c1, hr1, hc1⟩ := RdII.rowS h y hy2 (hrow y hy2) (by omega)
        have hys : s < l[y].length := by rw [hrow y hy2]; exact hs2
        (refine q_skip (q_seq (q_block (q_seq (q_region ?_)))))
        refine ql_index tabOk rfl rfl rfl rfl rfl (by omega) (by omega) ?_
        refine ql_load1 tabOk rfl rfl rfl (fun w hs => hc1 _ hs.chg0) ?_
        (refine ql_pure tabOk rfl rfl (q_nil (q_region ?_)); (iterate 3 refine ql_pure tabOk rfl rfl ?_))
        refine ql_index tabOk rfl rfl rfl rfl rfl (by omega) (by omega) ?_
        refine ql_load1 (v := .int .i64 l[y][s]) tabOk rfl rfl rfl (fun w hs => RdI.at (RdE.keep hr1 hs.chg0) s (by rw [hrow]; omega)) ?_
        skip
        refine ql_mkS 3 (ints [l[y][s]]) rfl (by kernel_rfl) rfl (fun bn => ?_)
        skip
        refine ql_callv (val := .int .i64 (minF (minF (gt l 0 s) ((l.take y).map fun row => row.getD s 0)) [l[y][s]])) tabOk rfl rfl rfl rfl (fun w hs => ?_) ?_; exact least_ca w 0 w.heap.size _ _ [l[y][s]] (Blk.rdI (hs.blk (by repeat constructor))) (by simp)
        (refine ql_pure tabOk rfl rfl (q_nil (q_blk (q_region (ql_ar tabOk rfl rfl rfl rfl (by omega) (by omega) (ql_pure tabOk rfl rfl (q_nil ?_)))))))
        exact hK2 (y + 1) _ _ (by omega) (by omega) ⟨rfl, rfl, rfl, by rw [low_step l _ s y hy2, getD_get (by rw [hrow]; omega)]; rfl, rfl, rfl, rfl, rfl, rfl, trivial⟩ (by repeat constructor)
      · obtain rfl : y = l.length := by omega
        clear hc hK2 hy
        rw [List.take_length]
        (refine q_exit _ rfl (q_seq (q_region ?_)); (iterate 3 refine ql_pure tabOk rfl rfl ?_); refine q_nil (q_block ?_))
        refine q_loop (σ := Nat × List (Value × List Int)) (fun y => y.1 ≤ l.length ∧ RegI l s y.1 y.2) (fun y => l.length - y.1) (fun y => [(0, .slice (some ⟨vb, vo, none⟩) l.length c), (5, .slice (some ⟨g, 0, none⟩) l.length cw), (6, .int .i64 s), (7, .int .i64 (lowV l s)), (25, .int .i64 n), (26, .int .i64 s), (49, .slice (some ⟨vb, vo, none⟩) l.length c), (50, .int .i64 l.length), (51, .int .i64 y.1)])
          (fun y => [un (rowsO 3 y.2), .ow (.slice (some ⟨g, 0, none⟩) l.length cw) 179 2 l.length (wxC most y.2)]) (0, xs) ⟨by simp only; omega, hI⟩ ⟨rfl, rfl, rfl, rfl, rfl, rfl, rfl, rfl, rfl, trivial⟩ (by repeat constructor) ?_
        clear hI
        rintro ⟨m, xs⟩ ⟨hm, hI⟩ K2 hK2
        dsimp only at hm hI ⊢
        (refine q_seq (q_region (ql_pure tabOk rfl rfl (q_nil (q_seq ?_)))))
        refine q_if rfl (fun hc => ?_) (fun hc => ?_)
        · have hm2 : m < l.length := by omega
          have hm3 : m < xs.length := by rw [hI.len]; exact hm2
          clear hc
          obtain ⟨b1, o1, c1, hr1, hc1⟩ := RdII.rowS h m hm2 (hrow m hm2) (by omega)
          refine q_conv (H' := [.ow xs[m].1 3 1 xs[m].2.length (ints xs[m].2), un (rowsO 3 (xs.eraseIdx m)), .ow (.slice (some ⟨g, 0, none⟩) l.length cw) 179 2 l.length (wxC most xs)]) (fun w' hs => rows_out m hm3 hs) ?_
          (refine q_skip (q_seq (q_block (q_seq (q_region (ql_pure tabOk rfl rfl ?_))))))
          refine ql_index tabOk rfl rfl rfl rfl rfl (by omega) (by omega) ?_
          refine ql_load1 tabOk rfl rfl rfl (fun w hs => hc1 _ hs.chg0) ?_
          have hms : s < l[m].length := by rw [hrow m hm2]; exact hs2
          have hl3 : xs[m].2.length = s := by rw [hI.ge m hm3 (by omega), regP_len]
          have hb1 := hl.num _ (List.getElem_mem hm2) _ (List.getElem_mem hms)
          obtain ⟨rw0, hrw0, elow⟩ := low_mem (l := l) (by intro e; rw [e] at hm2; simp at hm2) s
          have hb2 : 0 ≤ lowV l s ∧ lowV l s ≤ 10000 := by
            have h4 : s < rw0.length := by rw [hl.len _ hrw0]; exact hs2
            rw [elow, getD_get h4]
            exact hl.num _ hrw0 _ (List.getElem_mem h4)
          (refine ql_pure tabOk rfl rfl (ql_pure tabOk rfl rfl (q_nil ?_)))
          refine q_drawB2 [false, false, true, true, true, true, true, true, true, true, true, true, true, true, false, false, false, false] [.ow xs[m].1 3 1 xs[m].2.length (ints xs[m].2), un (rowsO 3 (xs.eraseIdx m)), .ow (.slice (some ⟨g, 0, none⟩) l.length cw) 179 2 l.length (wxC most xs)] [] [un (rowsO 3 (xs.eraseIdx m))] [.ow xs[m].1 3 1 xs[m].2.length (ints xs[m].2), .ow (.slice (some ⟨g, 0, none⟩) l.length cw) 179 2 l.length (wxC most xs)] (by repeat constructor) (by repeat constructor) (by kernel_rfl) (by kernel_rfl) (by kernel_rfl) ?_
          refine qb_F 2 [.ow xs[m].1 3 1 xs[m].2.length (ints xs[m].2), .ow (.slice (some ⟨g, 0, none⟩) l.length cw) 179 2 l.length (wxC most xs)] rfl rfl (by repeat constructor) fun K1 hK1 => ?_
          (refine qf_pure tabOk rfl rfl rfl (qf_pure tabOk rfl rfl rfl (qf_nil ?_)))
          refine hK1 _ _ (qb_T2 12 [] rfl rfl (by repeat constructor) fun K1 hK1 => ?_)
          (refine qf_pure tabOk rfl rfl rfl (qf_pure tabOk rfl rfl rfl ?_))
          refine qf_index tabOk rfl rfl rfl rfl rfl (by omega) (by omega) ?_
          (refine qf_pure tabOk rfl rfl rfl ?_)
          refine qf_load1 (v := xs[m].1) tabOk rfl rfl rfl (fun w hs => by
            rw [show (0 + (m : Int).toNat * 2 + 0) = m * 2 from by omega]
            exact own_cellS (hs.mem (c := .ow (.slice (some ⟨g, 0, none⟩) l.length cw) 179 2 l.length (wxC most xs)) (by repeat constructor)) (m * 2) (wxC_get most xs m hm3).1) ?_
          (refine qf_pure tabOk rfl rfl rfl (qf_pure tabOk rfl rfl rfl ?_))
          refine qf_index tabOk rfl rfl rfl rfl rfl (by omega) (by omega) ?_
          skip
          refine qf_load1 (v := .int .i64 l[m][s]) tabOk rfl rfl rfl (fun w hs => RdI.at (RdE.keep hr1 hs.chg0) s hms) ?_
          (refine qf_pure tabOk rfl rfl rfl (qf_ar tabOk rfl rfl rfl rfl (by omega) (by omega) ?_))
          refine qf_mkS 3 [.int .i64 (l[m][s] - lowV l s)] rfl (by kernel_rfl) rfl (fun bn => ?_)
          (refine qf_nil ?_)
          refine hK1 _ _ (qb_F 4 [.pt bn [.int .i64 (l[m][s] - lowV l s)] 3, .ow xs[m].1 3 1 xs[m].2.length (ints xs[m].2), .ow (.slice (some ⟨g, 0, none⟩) l.length cw) 179 2 l.length (wxC most xs)] rfl rfl (by repeat constructor) fun K1 hK1 => ?_)
          skip
          refine qf_append (q := 1) (news := [.int .i64 (l[m][s] - lowV l s)]) slI rfl rfl rfl (fun v' => by repeat constructor) (fun w' hs => ⟨_, _, Blk.rdN (hs.blk (b := bn) (by repeat constructor)) rfl⟩) (by simp [oneV]) (by omega) (by omega) (fun u' => ?_)
          skip
          refine qf_index tabOk rfl rfl rfl rfl rfl (by omega) (by omega) ?_
          (refine qf_pure tabOk rfl rfl rfl ?_)
          refine qf_fact (fun w hs => hs.slice2 (v := u') (by repeat constructor)) ?_
          rintro ⟨a1, c2, rfl⟩
          refine qf_storeWs tabOk (m * 2) rfl rfl rfl rfl (by repeat constructor) (by omega) (by rw [wxC_len]; omega) ?_
          (refine qf_nil ?_)
          refine hK1 _ _ (qb_nil ?_)
          (refine q_blk (q_region (ql_ar tabOk rfl rfl rfl rfl (by omega) (by omega) (ql_pure tabOk rfl rfl (q_nil ?_)))))
          have er : xs[m].2 ++ [l[m][s] - lowV l s] = regP l (s + 1) (l.getD m []) := by
            have eg : l.getD m [] = l[m] := by rw [List.getD_eq_getElem?_getD, List.getElem?_eq_getElem hm2]; rfl
            rw [hI.ge m hm3 (by omega), regP_succ, eg, getD_get hms]
          refine q_conv (H' := [un (rowsO 3 (xs.modify m fun _ => (.slice a1 (xs[m].2.length + 1) c2, xs[m].2 ++ [l[m][s] - lowV l s]))), .ow (.slice (some ⟨g, 0, none⟩) l.length cw) 179 2 l.length (wxC most (xs.modify m fun _ => (.slice a1 (xs[m].2.length + 1) c2, xs[m].2 ++ [l[m][s] - lowV l s])))]) (fun w' hs => rows_put m hm3 (.slice a1 (xs[m].2.length + 1) c2) (xs[m].2 ++ [l[m][s] - lowV l s]) (by
            rw [← wxC_set]
            have e : ints (xs[m].2 ++ [l[m][s] - lowV l s]) = ints xs[m].2 ++ [.int .i64 (l[m][s] - lowV l s)] := by simp [ints]
            rw [e, show (xs[m].2 ++ [l[m][s] - lowV l s]).length = xs[m].2.length + 1 from by simp]
            exact hs.sp (by repeat constructor))) ?_
          exact hK2 (m + 1, _) _ _ ⟨by simp only; omega, hI.step _ er⟩ (by simp only; omega) ⟨rfl, rfl, rfl, rfl, rfl, rfl, rfl, rfl, rfl, trivial⟩ (by repeat constructor)
        · obtain rfl : m = l.length := by omega
          clear hc
          (refine q_exit _ rfl (q_blk (q_region (ql_ar tabOk rfl rfl rfl rfl (by omega) (by omega) (ql_pure tabOk rfl rfl (q_nil ?_))))))
          exact hK (s + 1, xs) _ _ ⟨by simp only; omega, hI.next⟩ (by simp only; omega) ⟨rfl, rfl, rfl, rfl, trivial⟩ (by repeat constructor)
    · obtain rfl : s = n := by omega
      (refine q_exit _ rfl (q_seq (q_region (ql_pure tabOk rfl rfl (ql_pure tabOk rfl rfl (q_nil (q_ret ?_)))))))
      refine q_fin tabOk rfl (by repeat constructor) fun w hs => ?_
      exact ⟨(.slice (some ⟨g, 0, none⟩) l.length cw, xs), ⟨rfl, hI.all⟩, hs.sp (by repeat constructor)⟩
end Go.Proofs.YtcmpdmobmbbplaaGreat

/- Walks: waxes that can be read; whether a wax is good on snows. -/
namespace Go.Proofs.YtcmpdmobmbbplaaGreat
set_option maxRecDepth 4000
open Go Go.Eng

/-- Waxes that can be read. -/
def RdW (w : World) (lo hi : Nat) (v : Value) (most : Int) (rows : List (List Int)) : Prop :=
  ∃ vs : List Value, RdE w lo hi v 2 (vs.map (wxV most)) ∧ vs.length = rows.length ∧ ∀ i (h : i < vs.length) (h' : i < rows.length), RdI w lo hi vs[i] rows[i] ∧ ∀ a n c, vs[i] = .slice a n c → n ≤ c
theorem RdW.keep {w w' : World} {lo hi : Nat} {v : Value} {most : Int} {rows : List (List Int)} (h : RdW w lo hi v most rows) (c : Chg [] w w') : RdW w' lo hi v most rows := by
  obtain ⟨vs, h1, h2, h3⟩ := h
  exact ⟨vs, h1.keep c, h2, fun i hi hi' => ⟨(h3 i hi hi').1.keep c, (h3 i hi hi').2⟩⟩
theorem RdW.outI {w : World} {lo hi : Nat} {v : Value} {most : Int} {rows : List (List Int)} (h : RdW w lo hi v most rows) : ∃ a cap, v = .slice a rows.length cap ∧ (0 < rows.length → ∃ b off, a = some ⟨b, off, none⟩) := by
  obtain ⟨vs, h1, h2, h3⟩ := h
  have := RdE.out h1
  rwa [List.length_map, h2] at this
/-- One wax. -/
theorem RdW.row {w : World} {lo hi : Nat} {b off len cap : Nat} {most : Int} {rows : List (List Int)} (h : RdW w lo hi (.slice (some ⟨b, off, none⟩) len cap) most rows) (i : Nat) (hi' : i < rows.length) :
    ∃ a c, RdI w lo hi (.slice a rows[i].length c) rows[i] ∧ rows[i].length ≤ c ∧ ∀ w', Chg [] w w' → ∀ j, j < 2 → w'.cell? ⟨b, off + i * 2 + j, none⟩ = [Value.slice a rows[i].length c, .int .i64 most][j]? := by
  obtain ⟨vs, h1, h2, h3⟩ := h
  obtain ⟨h4, h5⟩ := h3 i (by omega) hi'
  obtain ⟨a, c, hv, _⟩ := RdI.outI h4
  refine ⟨a, c, hv ▸ h4, h5 _ _ _ hv, fun w' hw' j hj => ?_⟩
  rw [RdE.cell (h1.keep hw') i j (by simp; omega) hj, List.getElem_map, hv]
  rfl
theorem wx_cells (most : Int) (xs : List (Value × List Int)) : cellsOf ((xs.map (·.1)).map (wxV most)) = wxC most xs := by
  simp [cellsOf, wxC, wxV, List.flatMap_map, Value.cells]
theorem allG_iff {row : List Int} {most : Int} {a b : Nat} (hb : b < row.length) : allG row most a b = true ↔ ∀ t, a ≤ t → t ≤ b → row.getD t 0 ≤ most := by
  unfold allG
  rw [List.all_eq_true]
  constructor
  · intro h t h1 h2
    have ht : t < row.length := by omega
    rw [getD_get ht]
    have h3 : row[t] ∈ spanL row a b := by
      unfold spanL
      have h4 : t - a < ((row.drop a).take (b + 1 - a)).length := by rw [List.length_take, List.length_drop]; omega
      have h5 : ((row.drop a).take (b + 1 - a))[t - a] = row[t] := by
        rw [List.getElem_take, List.getElem_drop]
        congr 1
        omega
      rw [← h5]
      exact List.getElem_mem h4
    simpa using h _ h3
  · intro h x hx
    obtain ⟨i, hi, rfl⟩ := List.mem_iff_getElem.1 hx
    unfold spanL at hi ⊢
    rw [List.length_take, List.length_drop] at hi
    rw [List.getElem_take, List.getElem_drop]
    have := h (a + i) (by omega) (by omega)
    rw [getD_get (by omega)] at this
    simpa using this
theorem good_ca (w : World) (lo hi : Nat) (v : Value) (most : Int) (row : List Int) (s : Nat) (h : RdI w lo hi v row) (hs : s < row.length) :
    Ca Tryz.prog 151 [wxV most v, .int .i64 s] w fun r w' => r = .bool (decide (row[s] ≤ most)) ∧ Chg [] w w' := by
  obtain ⟨a, c, rfl, ha⟩ := RdI.outI h
  obtain ⟨b, off, rfl⟩ := ha (by omega)
  unfold wxV
  refine q_of (Sat.nil w M0) Tryz.func151 rfl (by simp [Tryz.ntmps151]) ?_
  (refine q_seq (q_region ?_))
  refine ql_box rfl rfl (fun b3 => ?_)
  (refine ql_pure tabOk rfl rfl (q_nil (q_seq ?_)))
  refine q_draw _ [] (Sp.refl _) (by kernel_rfl) (by kernel_rfl) ?_
  (refine qf_pure tabOk rfl rfl rfl ?_; refine qf_loadBa tabOk rfl rfl rfl ?_; refine qf_pure tabOk rfl rfl rfl ?_)
  refine qf_index tabOk rfl rfl rfl rfl rfl (by omega) (by omega) ?_
  refine qf_load1 (v := .int .i64 row[s]) tabOk rfl rfl rfl (fun w hs => RdI.at (RdE.keep h hs.chg0) s (by assumption)) ?_
  (refine qf_pure tabOk rfl rfl rfl ?_; refine qf_loadBa tabOk rfl rfl rfl ?_; refine qf_pure tabOk rfl rfl rfl (qf_pure tabOk rfl rfl rfl (qf_nil (q_ret ?_))))
  refine q_fin tabOk rfl (by repeat constructor) fun w hs => ?_
  exact ⟨rfl, hs.chg0⟩
theorem all_ca (w : World) (lo hi : Nat) (v : Value) (most : Int) (row : List Int) (a b : Nat) (h : RdI w lo hi v row) (hb : b < row.length) (hl : row.length ≤ 1000000) :
    Ca Tryz.prog 124 [wxV most v, .int .i64 a, .int .i64 b] w fun r w' => r = .bool (allG row most a b) ∧ Chg [] w w' := by
  unfold wxV
  refine q_of (Sat.nil w M0) Tryz.func124 rfl (by simp [Tryz.ntmps124]) ?_
  (refine q_seq (q_region ?_))
  refine ql_box rfl rfl (fun b3 => ?_)
  (refine ql_pure tabOk rfl rfl (q_nil (q_seq (q_region ?_))); refine ql_loadABa tabOk rfl rfl rfl ?_; refine ql_pure tabOk rfl rfl (ql_pure tabOk rfl rfl (q_nil (q_seq (q_seq (q_region (ql_pure tabOk rfl rfl (ql_pure tabOk rfl rfl (q_nil (q_block ?_))))))))))
  refine q_loop (σ := Nat) (fun s => a ≤ s ∧ ∀ t, a ≤ t → t < s → row.getD t 0 ≤ most) (fun s => b + 1 - s) (fun s => [(2, .int .i64 b), (7, .func (.func 151) #[wxV most v] #[]), (8, .int .i64 s)]) (fun _ => []) a ⟨by omega, fun t h1 h2 => by omega⟩ ⟨rfl, rfl, rfl, trivial⟩ (by repeat constructor) ?_
  rintro s ⟨hs1, hs2⟩ K hK
  (refine q_seq (q_seq (q_region ?_)); (iterate 3 refine ql_pure tabOk rfl rfl ?_); refine q_nil ?_)
  refine q_if rfl (fun hc => ?_) (fun hc => ?_)
  · have hs3 : s ≤ b := by omega
    have hs4 : s < row.length := by omega
    clear hc
    (refine q_skip (q_seq (q_block (q_seq (q_region (ql_pure tabOk rfl rfl (ql_pure tabOk rfl rfl ?_)))))))
    refine ql_callFv rfl rfl rfl (fun w hs => CaF.of tabOk rfl (good_ca w lo hi v most row s (RdE.keep h hs.chg0) hs4)) ?_
    (refine ql_pure tabOk rfl rfl (q_nil ?_))
    refine q_ifn rfl (fun hc => ?_) (fun hc => ?_)
    · have h5 : ¬ row[s] ≤ most := by simpa using hc
      (refine q_seq (q_region (ql_pure tabOk rfl rfl (q_nil (q_ret ?_)))))
      refine q_fin tabOk rfl (by repeat constructor) fun w hs => ?_
      exact ⟨by
        have e : allG row most a b = false := by
          rw [← Bool.not_eq_true, allG_iff hb]
          intro hA
          have := hA s hs1 hs3
          rw [getD_get hs4] at this
          exact h5 this
        rw [e]
        rfl, hs.chg0⟩
    · have h5 : row[s] ≤ most := by simpa using hc
      (refine q_skip (q_blk (q_region (ql_pure tabOk rfl rfl (ql_ar tabOk rfl rfl rfl rfl (by omega) (by omega) (ql_pure tabOk rfl rfl (q_nil ?_)))))))
      exact hK (s + 1) _ _ ⟨by omega, fun t h1 h2 => by
        by_cases e : t = s
        · rw [e, getD_get hs4]; exact h5
        · exact hs2 t h1 (by omega)⟩ (by omega) ⟨rfl, rfl, rfl, trivial⟩ (by repeat constructor)
  · (refine q_exit _ rfl (q_seq (q_region (ql_pure tabOk rfl rfl (q_nil (q_ret ?_))))))
    refine q_fin tabOk rfl (by repeat constructor) fun w hs => ?_
    exact ⟨by rw [(allG_iff hb).2 (fun t h1 h2 => hs2 t h1 (by omega))]; rfl, hs.chg0⟩
end Go.Proofs.YtcmpdmobmbbplaaGreat

/- Walks: the best wax. -/
namespace Go.Proofs.YtcmpdmobmbbplaaGreat
set_option maxRecDepth 4000
open Go Go.Eng

/-- The best wax of a span, with its regret, or the error. -/
def bestV (l : List (List Int)) (a b : Int) : Int × Int × Int := if tableV l ≠ 0 then (0, 0, tableV l) else if (inB a 0 b && (decide (b < (nV l : Int)) && true)) = false then (0, 0, 1) else let p := waxF (regV l (nV l)) a.toNat b.toNat l.length; (p.1, p.2, 0)
theorem best_no {l : List (List Int)} {a b : Int} (h : tableV l ≠ 0) : bestV l a b = (0, 0, tableV l) := if_pos h
theorem best_un {l : List (List Int)} {a b : Int} (h : tableV l = 0) (h2 : (inB a 0 b && (decide (b < (nV l : Int)) && true)) = false) : bestV l a b = (0, 0, 1) := by unfold bestV; rw [if_neg (by simpa using h), if_pos h2]
theorem best_yes {l : List (List Int)} {a b : Int} (h : tableV l = 0) (h2 : (inB a 0 b && (decide (b < (nV l : Int)) && true)) = true) : bestV l a b = ((waxF (regV l (nV l)) a.toNat b.toNat l.length).1, (waxF (regV l (nV l)) a.toNat b.toNat l.length).2, 0) := by unfold bestV; rw [if_neg (by simpa using h), if_neg (by rw [h2]; simp)]
theorem wx_at {w0 w : World} {M : Nat → Prop} {H : List Ck} {g n c t : Nat} {most : Int} {xs : List (Value × List Int)} (hs : Sat w0 M H w) (hm : Ck.ow (.slice (some ⟨g, 0, none⟩) n c) t 2 n (wxC most xs) ∈ H) (i : Nat) (hi : i < xs.length) : ∀ j, j < 2 → w.cell? ⟨g, 0 + i * 2 + j, none⟩ = [xs[i].1, .int .i64 most][j]? := fun j hj => by
  have h1 := wxC_get most xs i hi
  have h2 := hs.mem hm
  obtain rfl | rfl : j = 0 ∨ j = 1 := by omega
  · rw [Nat.zero_add]
    exact own_cellS h2 (i * 2) h1.1
  · rw [Nat.zero_add]
    exact own_cellS h2 (i * 2 + 1) h1.2
theorem wx_row {w0 w : World} {M : Nat → Prop} {H : List Ck} {t : Nat} {xs : List (Value × List Int)} (hs : Sat w0 M H w) (hm : un (rowsO t xs) ∈ H) (i : Nat) (hi : i < xs.length) : RdI w 0 w.heap.size xs[i].1 xs[i].2 ∧ ∀ a n c, xs[i].1 = .slice a n c → n ≤ c := by
  have h2 : w.ownsRow 0 t 1 xs[i].1 xs[i].2.length (ints xs[i].2) := (hs.mem hm).1 (.ow xs[i].1 t 1 xs[i].2.length (ints xs[i].2)) (List.mem_map.2 ⟨_, List.getElem_mem hi, rfl⟩)
  refine ⟨own_rdI h2 rfl, fun a m c e => ?_⟩
  rcases h2.2 with ⟨h3, h4⟩ | ⟨g, cap, cur, h3, _, _, h5, _⟩
  · rw [h3] at e
    injection e with e1 e2 e3
    omega
  · rw [h3] at e
    injection e with e1 e2 e3
    omega
theorem nV_eq {l : List (List Int)} (hl : 1 ≤ l.length) : nV l = (l[0]'(by omega)).length := by
  cases l with
  | nil => simp at hl
  | cons x l => rfl
theorem wax_ca (w : World) (lo hi : Nat) (v : Value) (l : List (List Int)) (a b : Int) (h : RdII w lo hi v l) : Ca Tryz.prog 55 [v, .int .i64 a, .int .i64 b] w fun x w' => x = .tuple #[.int .i64 (bestV l a b).1, .int .i64 (bestV l a b).2.1, .int .i64 (bestV l a b).2.2] ∧ Chg [] w w' := by
  obtain ⟨va, c, rfl, ha⟩ := RdII.outI h
  refine q_of (Sat.nil w M0) Tryz.func55 rfl (by simp [Tryz.ntmps55]) ?_
  (refine q_seq (q_region ?_); (iterate 3 refine ql_pure tabOk rfl rfl ?_); refine q_nil (q_seq (q_region (ql_pure tabOk rfl rfl ?_))))
  refine ql_callv (val := .int .i64 (tableV l)) tabOk rfl rfl rfl rfl (fun w hs => ?_) ?_; exact table_ca w lo hi _ l (RdII.keep h hs.chg0)
  by_cases ht : tableV l = 0
  · have hl : TabOk l (nV l) := table_iff.1 ht
    have hl1 := hl.l1
    have hl2 := hl.l2
    have hn2 := hl.n2
    obtain ⟨vb, vo, rfl⟩ := ha (by omega)
    obtain ⟨b0, o0, c0, hr0, hc0⟩ := RdII.rowS h 0 (by omega) (nV_eq (by omega)).symm hl.n1
    (refine ql_pure tabOk rfl rfl (q_nil (q_seq (q_block (q_seq (q_region (ql_pure tabOk rfl rfl (ql_neqF tabOk rfl rfl rfl (by omega) (ql_pure tabOk rfl rfl (q_nil (q_cond_false rfl (q_seq ?_))))))))))); refine q_region (ql_pure tabOk rfl rfl (ql_pure tabOk rfl rfl ?_)))
    refine ql_callv (val := .bool (inB a 0 b)) tabOk rfl rfl rfl rfl (fun w hs => ?_) ?_; exact within_ca a 0 b w
    (refine ql_pure tabOk rfl rfl (ql_pure tabOk rfl rfl ?_))
    cases h1 : inB a 0 b with
    | false =>
      ((iterate 6 refine ql_gno rfl rfl rfl ?_); refine ql_pure tabOk rfl rfl (ql_pure tabOk rfl rfl (q_nil (q_cond_true rfl (q_seq (q_region ?_))))); (iterate 3 refine ql_pure tabOk rfl rfl ?_); refine q_nil (q_ret ?_))
      refine q_fin tabOk rfl (by repeat constructor) fun w hs => ?_
      exact ⟨by rw [best_un ht (by rw [h1]; rfl)]; rfl, hs.chg0⟩
    | true =>
      have hab := inB_iff.1 h1
      (refine ql_gyes rfl (ql_pure tabOk rfl rfl (ql_gyes rfl (ql_pure tabOk rfl rfl (ql_gyes rfl ?_)))))
      refine ql_index tabOk rfl rfl rfl rfl rfl (by omega) (by omega) ?_
      (refine ql_gyes rfl ?_)
      refine ql_load1 tabOk rfl rfl rfl (fun w hs => hc0 _ hs.chg0) ?_
      (refine ql_gyes rfl (ql_pure tabOk rfl rfl (ql_gyes rfl ?_)); (iterate 3 refine ql_pure tabOk rfl rfl ?_); refine q_nil ?_)
      refine q_if rfl (fun hc => ?_) (fun hc => ?_)
      · have h2 : ¬ b < (nV l : Int) := by first | omega | (simp at hc; omega)
        (refine q_seq (q_region ?_); (iterate 3 refine ql_pure tabOk rfl rfl ?_); refine q_nil (q_ret ?_))
        refine q_fin tabOk rfl (by repeat constructor) fun w hs => ?_
        exact ⟨by rw [best_un ht (by rw [h1]; simp [h2])]; rfl, hs.chg0⟩
      · have h2 : b < (nV l : Int) := by first | omega | (simp at hc; omega)
        clear hc
        have hbe := best_yes ht (a := a) (b := b) (by rw [h1]; simp [h2])
        obtain ⟨i, rfl⟩ := Int.eq_ofNat_of_zero_le hab.1
        obtain ⟨j, rfl⟩ := Int.eq_ofNat_of_zero_le (show 0 ≤ b by omega)
        rw [Int.toNat_natCast, Int.toNat_natCast] at hbe
        rw [hbe]
        clear hbe
        (refine q_skip (q_blk (q_seq (q_region (ql_pure tabOk rfl rfl (ql_pure tabOk rfl rfl (q_nil (q_seq (q_seq (q_region (ql_pure tabOk rfl rfl ?_)))))))))))
        refine ql_call (β := Value × List (Value × List Int)) tabOk [] _ M0 rfl rfl rfl rfl (Sp.refl _) (fun _ h => h.elim) (fun w' hs => waxes_ca w' lo hi _ l (nV l) 0 (RdII.keep h hs.chg0) hl) ?_
        rintro ⟨_, xs⟩ u ⟨rfl, hxs⟩
        dsimp only [List.cons_append, List.nil_append]
        refine ql_fact (fun w hs => hs.ownSome (v := u) (by repeat constructor) (by omega)) ?_
        rintro ⟨g, cw, rfl⟩
        have hxl : xs.length = l.length := by have := congrArg List.length hxs; rw [regV_len, List.length_map] at this; exact this
        (refine ql_pure tabOk rfl rfl (ql_pure tabOk rfl rfl (q_nil (q_block ?_))))
        have hrs : ∀ k (hk : k < xs.length), (regV l (nV l)).getD k [] = xs[k].2 := fun k hk => by
          rw [← hxs, List.getD_eq_getElem?_getD, List.getElem?_map, List.getElem?_eq_getElem hk]
          rfl
        refine q_loop (σ := Nat) (fun k => k ≤ l.length) (fun k => l.length - k) (fun k => [(1, .int .i64 i), (2, .int .i64 j), (10, .int .i64 (waxF (regV l (nV l)) i j k).1), (11, .int .i64 (waxF (regV l (nV l)) i j k).2), (35, .slice (some ⟨g, 0, none⟩) l.length cw), (36, .int .i64 l.length), (37, .int .i64 k)])
          (fun k => [un (rowsO 3 xs), .ow (.slice (some ⟨g, 0, none⟩) l.length cw) 179 2 l.length (wxC 0 xs)]) 0 (by omega) ⟨rfl, rfl, rfl, rfl, rfl, rfl, rfl, trivial⟩ (by repeat constructor) ?_
        rintro k hk K hK
        (refine q_seq (q_region (ql_pure tabOk rfl rfl (q_nil (q_seq ?_)))))
        refine q_if rfl (fun hc => ?_) (fun hc => ?_)
        · have hk2 : k < l.length := by omega
          have hk3 : k < xs.length := by omega
          have hlen : xs[k].2.length = nV l := by
            rw [← hrs k hk3]
            unfold regV
            rw [List.getD_eq_getElem?_getD, List.getElem?_map, List.getElem?_eq_getElem hk2]
            exact regRow_len _ _ _
          clear hc
          refine q_fact (fun w hs => RdI.outI (wx_row hs (by repeat constructor) k hk3).1) ?_
          rintro ⟨a1, c1, e1, _⟩
          (refine q_skip (q_seq (q_block (q_seq (q_region (ql_pure tabOk rfl rfl ?_))))))
          refine ql_index tabOk rfl rfl rfl rfl rfl (by omega) (by omega) ?_
          refine ql_loadA tabOk rfl rfl rfl rfl (fun w hs => by
            rw [Int.toNat_natCast]
            have := wx_at hs (by repeat constructor) k hk3
            rw [e1] at this
            exact this) ?_
          skip
          refine ql_alloc zero179 rfl (fun b13 => ?_)
          (refine ql_pure tabOk rfl rfl ?_; refine ql_setA tabOk rfl rfl rfl rfl rfl (by repeat constructor) rfl ?_; refine q_nil (q_seq (q_region ?_)); refine ql_loadABa tabOk rfl rfl rfl ?_; refine ql_pure tabOk rfl rfl (ql_pure tabOk rfl rfl ?_))
          refine ql_callv (val := .int .i64 (topR xs[k].2 i j)) tabOk rfl rfl rfl rfl (fun w hs => ?_) ?_; exact greatest_ca w 0 w.heap.size _ 0 xs[k].2 i j (e1 ▸ (wx_row hs (by repeat constructor) k hk3).1) (e1 ▸ (wx_row hs (by repeat constructor) k hk3).2) (by omega) (by omega) (by omega)
          (refine ql_pure tabOk rfl rfl (q_nil (q_seq (q_region ?_))); (iterate 3 refine ql_pure tabOk rfl rfl ?_); refine q_nil ?_)
          have hw : waxF (regV l (nV l)) i j (k + 1) = if topR xs[k].2 i j < (waxF (regV l (nV l)) i j k).2 then ((k : Int), topR xs[k].2 i j) else waxF (regV l (nV l)) i j k := by
            show (if topR ((regV l (nV l)).getD k []) i j < _ then _ else _) = _
            rw [hrs k hk3]
          refine q_if rfl (fun hc => ?_) (fun hc => ?_)
          · have h5 : topR xs[k].2 i j < (waxF (regV l (nV l)) i j k).2 := by simpa using hc
            rw [if_pos h5] at hw
            (refine q_region ?_; (iterate 4 refine ql_pure tabOk rfl rfl ?_); refine q_nil (q_blk (q_region (ql_ar tabOk rfl rfl rfl rfl (by omega) (by omega) (ql_pure tabOk rfl rfl (q_nil ?_))))))
            exact hK (k + 1) _ _ (by omega) (by omega) ⟨rfl, rfl, by rw [hw]; rfl, by rw [hw]; rfl, rfl, rfl, rfl, trivial⟩ (by repeat constructor)
          · have h5 : ¬ topR xs[k].2 i j < (waxF (regV l (nV l)) i j k).2 := by simpa using hc
            rw [if_neg h5] at hw
            (refine q_skip (q_blk (q_region (ql_ar tabOk rfl rfl rfl rfl (by omega) (by omega) (ql_pure tabOk rfl rfl (q_nil ?_))))))
            exact hK (k + 1) _ _ (by omega) (by omega) ⟨rfl, rfl, by rw [hw]; rfl, by rw [hw]; rfl, rfl, rfl, rfl, trivial⟩ (by repeat constructor)
        · obtain rfl : k = l.length := by omega
          (refine q_exit _ rfl (q_seq (q_region ?_)); (iterate 5 refine ql_pure tabOk rfl rfl ?_); refine q_nil (q_ret ?_))
          refine q_fin tabOk rfl (by repeat constructor) fun w hs => ?_
          exact ⟨rfl, hs.chg0⟩
  · (refine ql_pure tabOk rfl rfl (q_nil (q_seq (q_block (q_seq (q_region (ql_pure tabOk rfl rfl (ql_neqT tabOk rfl rfl rfl (by omega) (ql_pure tabOk rfl rfl (q_nil (q_cond_true rfl (q_seq ?_))))))))))); refine q_region ?_; (iterate 4 refine ql_pure tabOk rfl rfl ?_); refine q_nil (q_ret ?_))
    refine q_fin tabOk rfl (by repeat constructor) fun w hs => ?_
    exact ⟨by rw [best_no ht]; rfl, hs.chg0⟩
end Go.Proofs.YtcmpdmobmbbplaaGreat

/- Walks: zones. -/
namespace Go.Proofs.YtcmpdmobmbbplaaGreat
set_option maxRecDepth 4000
open Go Go.Eng

theorem limited_no (w : World) (lo hi : Nat) (v : Value) (l : List (List Int)) (most : Int) (h : RdII w lo hi v l) (hne : limitV l most ≠ 0) : Ca Tryz.prog 123 [v, .int .i64 most] w fun x w' => x = .tuple #[.slice none 0 0, .int .i64 (limitV l most)] ∧ Chg [] w w' := by
  obtain ⟨va, c, rfl, ha⟩ := RdII.outI h
  refine q_of (Sat.nil w M0) Tryz.func123 rfl (by simp [Tryz.ntmps123]) ?_
  (refine q_seq (q_region (ql_pure tabOk rfl rfl (ql_pure tabOk rfl rfl (q_nil (q_seq (q_seq (q_region (ql_pure tabOk rfl rfl ?_)))))))))
  refine ql_callv (val := .int .i64 (tableV l)) tabOk rfl rfl rfl rfl (fun w hs => ?_) ?_; exact table_ca w lo hi _ l (RdII.keep h hs.chg0)
  by_cases ht : tableV l = 0
  · have e : inB most 0 10000 = false ∧ limitV l most = 3 := by
      unfold limitV at hne ⊢
      rw [if_neg (by simpa using ht)] at hne ⊢
      split at hne
      · rename_i h1; exact ⟨h1, by rw [if_pos h1]⟩
      · exact absurd rfl hne
    (refine ql_pure tabOk rfl rfl (q_nil (q_seq (q_region (ql_pure tabOk rfl rfl (ql_neqF tabOk rfl rfl rfl (by omega) (q_nil (q_cond_false rfl (q_skip (q_seq (q_seq (q_region ?_))))))))))); refine ql_pure tabOk rfl rfl ?_)
    refine ql_callv (val := .bool false) tabOk rfl rfl rfl rfl (fun w hs => ?_) ?_; exact by have := within_ca most 0 10000 w; rw [e.1] at this; exact this
    (refine ql_pure tabOk rfl rfl (q_nil (q_cond_true rfl (q_seq (q_region (ql_pure tabOk rfl rfl (ql_pure tabOk rfl rfl (q_nil (q_ret ?_)))))))))
    refine q_fin tabOk rfl (by repeat constructor) fun w hs => ?_
    exact ⟨by rw [e.2]; rfl, hs.chg0⟩
  · have e : limitV l most = tableV l := by unfold limitV; rw [if_pos ht]
    (refine ql_pure tabOk rfl rfl (q_nil (q_seq (q_region (ql_pure tabOk rfl rfl (ql_neqT tabOk rfl rfl rfl (by omega) (q_nil (q_cond_true rfl (q_seq (q_region ?_))))))))); (iterate 3 refine ql_pure tabOk rfl rfl ?_); refine q_nil (q_ret ?_))
    refine q_fin tabOk rfl (by repeat constructor) fun w hs => ?_
    exact ⟨by rw [e]; rfl, hs.chg0⟩
theorem limit_iff {l : List (List Int)} {most : Int} : limitV l most = 0 ↔ TabOk l (nV l) ∧ 0 ≤ most ∧ most ≤ 10000 := by
  unfold limitV
  constructor
  · intro h
    split at h
    · rename_i h1; exact absurd h h1
    · rename_i h1
      split at h
      · cases h
      · rename_i h2
        exact ⟨table_iff.1 (by simpa using h1), inB_iff.1 (by simpa using h2)⟩
  · rintro ⟨h1, h2⟩
    rw [if_neg (by simpa using table_iff.2 h1), if_neg (by rw [inB_iff.2 h2]; simp)]
theorem limited_ok (w : World) (lo hi : Nat) (v : Value) (l : List (List Int)) (most : Int) (h : RdII w lo hi v l) (he : limitV l most = 0) : Ca Tryz.prog 123 [v, .int .i64 most] w fun x w' => ∃ y : Value × List (Value × List Int), (x = .tuple #[y.1, .int .i64 0] ∧ y.2.map (·.2) = regV l (nV l)) ∧ Sat w M0 [un (rowsO 3 y.2), .ow y.1 179 2 l.length (wxC most y.2)] w' := by
  obtain ⟨hl, hm⟩ := limit_iff.1 he
  obtain ⟨va, c, rfl, ha⟩ := RdII.outI h
  refine q_of (Sat.nil w M0) Tryz.func123 rfl (by simp [Tryz.ntmps123]) ?_
  (refine q_seq (q_region (ql_pure tabOk rfl rfl (ql_pure tabOk rfl rfl (q_nil (q_seq (q_seq (q_region (ql_pure tabOk rfl rfl ?_)))))))))
  refine ql_callv (val := .int .i64 0) tabOk rfl rfl rfl rfl (fun w hs => ?_) ?_; exact by have := table_ca w lo hi _ l (RdII.keep h hs.chg0); rw [show tableV l = 0 from table_iff.2 hl] at this; exact this
  (refine ql_pure tabOk rfl rfl (q_nil (q_seq (q_region (ql_pure tabOk rfl rfl (ql_neqF tabOk rfl rfl rfl (by omega) (q_nil (q_cond_false rfl (q_skip (q_seq (q_seq (q_region ?_))))))))))); refine ql_pure tabOk rfl rfl ?_)
  refine ql_callv (val := .bool true) tabOk rfl rfl rfl rfl (fun w hs => ?_) ?_; exact by have := within_ca most 0 10000 w; rw [inB_iff.2 hm] at this; exact this
  (refine ql_pure tabOk rfl rfl (q_nil (q_cond_false rfl (q_skip (q_seq (q_region (ql_pure tabOk rfl rfl (ql_pure tabOk rfl rfl ?_))))))))
  refine ql_call (β := Value × List (Value × List Int)) tabOk [] _ M0 rfl rfl rfl rfl (Sp.refl _) (fun _ h => h.elim) (fun w' hs => waxes_ca w' lo hi _ l (nV l) most (RdII.keep h hs.chg0) hl) ?_
  rintro ⟨_, xs⟩ u ⟨rfl, hxs⟩
  dsimp only [List.cons_append, List.nil_append]
  (refine ql_pure tabOk rfl rfl (ql_pure tabOk rfl rfl (q_nil (q_ret ?_))))
  refine q_fin tabOk rfl (by repeat constructor) fun w hs => ?_
  exact ⟨(u, xs), ⟨rfl, hxs⟩, hs.sp (by repeat constructor)⟩
/-- Zones as cells. -/
def znC (zs : List (Int × Int × Int)) : List Value := zs.flatMap fun z => [.int .i64 z.1, .int .i64 z.2.1, .int .i64 z.2.2]
theorem znC_snoc (zs : List (Int × Int × Int)) (z : Int × Int × Int) : znC (zs ++ [z]) = znC zs ++ [.int .i64 z.1, .int .i64 z.2.1, .int .i64 z.2.2] := by simp [znC]
theorem slZ : SlT Tryz.prog 102 111 3 24 (.agg #[.int .i64 0, .int .i64 0, .int .i64 0]) := ⟨by kernel_rfl, by kernel_rfl, by kernel_rfl, by decide⟩
set_option maxHeartbeats 4000000 in
theorem zones_ok (w : World) (lo hi : Nat) (v : Value) (l : List (List Int)) (most : Int) (h : RdII w lo hi v l) (he : limitV l most = 0) : Ca Tryz.prog 56 [v, .int .i64 most] w fun x w' => ∃ u : Value, x = .tuple #[u, .int .i64 0] ∧ Sat w M0 [.ow u 111 3 (zonesV l most).1.length (znC (zonesV l most).1)] w' := by
  obtain ⟨hl, hm⟩ := limit_iff.1 he
  have hl1 := hl.l1
  have hl2 := hl.l2
  have hn1 := hl.n1
  have hn2 := hl.n2
  have hzV : (zonesV l most).1 = zonesF (regV l (nV l)) most (nV l) (nV l + 1) 0 := by unfold zonesV; rw [if_neg (by simpa using he)]
  rw [hzV]
  obtain ⟨va, c, rfl, ha⟩ := RdII.outI h
  obtain ⟨vb, vo, rfl⟩ := ha (by omega)
  obtain ⟨b0, o0, c0, hr0, hc0⟩ := RdII.rowS h 0 (by omega) (nV_eq (by omega)).symm hl.n1
  generalize hnn : nV l = n at *
  refine q_of (Sat.nil w M0) Tryz.func56 rfl (by simp [Tryz.ntmps56]) ?_
  (refine q_seq (q_region (ql_pure tabOk rfl rfl (ql_pure tabOk rfl rfl (q_nil (q_seq (q_region (ql_pure tabOk rfl rfl (ql_pure tabOk rfl rfl ?_)))))))))
  refine ql_call (β := Value × List (Value × List Int)) tabOk [] _ M0 rfl rfl rfl rfl (Sp.refl _) (fun _ h => h.elim) (fun w' hs => limited_ok w' lo hi _ l most (RdII.keep h hs.chg0) he) ?_
  rintro ⟨u, xs⟩ _ ⟨rfl, hxs⟩
  rw [hnn] at hxs
  dsimp only [List.cons_append, List.nil_append]
  refine ql_fact (fun w hs => hs.ownSome (v := u) (by repeat constructor) (by omega)) ?_
  rintro ⟨g, cw, rfl⟩
  have hxl : xs.length = l.length := by have := congrArg List.length hxs; rw [regV_len, List.length_map] at this; exact this
  have hrs : ∀ k (hk : k < xs.length), (regV l n).getD k [] = xs[k].2 := fun k hk => by
    rw [← hxs, List.getD_eq_getElem?_getD, List.getElem?_map, List.getElem?_eq_getElem hk]
    rfl
  have hrl : ∀ row ∈ regV l n, row.length = n := fun row hr => by
    obtain ⟨r, _, rfl⟩ := List.mem_map.1 hr
    exact regRow_len _ _ _
  have hxn : ∀ k (hk : k < xs.length), xs[k].2.length = n := fun k hk => hrl _ (by rw [← hxs]; exact List.mem_map.2 ⟨_, List.getElem_mem hk, rfl⟩)
  (refine ql_pure tabOk rfl rfl (ql_ext tabOk rfl rfl rfl (ql_ext tabOk rfl rfl rfl (ql_pure tabOk rfl rfl (ql_pure tabOk rfl rfl (q_nil (q_seq (q_seq (q_region (ql_pure tabOk rfl rfl (ql_neqF tabOk rfl rfl rfl (by omega) (q_nil ?_))))))))))); refine q_cond_false rfl (q_skip (q_seq (q_region (ql_pure tabOk rfl rfl (q_nil (q_seq (q_seq (q_region (ql_pure tabOk rfl rfl (q_nil (q_block ?_))))))))))))
  refine q_conv (H' := [.ow (.slice none 0 0) 111 3 ([] : List (Int × Int × Int)).length (znC []), un (rowsO 3 xs), .ow (.slice (some ⟨g, 0, none⟩) l.length cw) 179 2 l.length (wxC most xs)]) (fun w' hs => Sat.ownil hs 111 3) ?_
  refine q_loop (σ := Nat × Value × List (Int × Int × Int)) (fun y => y.1 ≤ n ∧ y.2.2.length ≤ y.1 ∧ ∃ f, n ≤ y.1 + f ∧ y.2.2 ++ zonesF (regV l n) most n (f + 1) y.1 = zonesF (regV l n) most n (n + 1) 0) (fun y => n - y.1)
    (fun y => [(0, .slice (some ⟨vb, vo, none⟩) l.length c), (6, .slice (some ⟨g, 0, none⟩) l.length cw), (8, y.2.1), (9, .int .i64 y.1)])
    (fun y => [.ow y.2.1 111 3 y.2.2.length (znC y.2.2), un (rowsO 3 xs), .ow (.slice (some ⟨g, 0, none⟩) l.length cw) 179 2 l.length (wxC most xs)]) (0, .slice none 0 0, []) ⟨by simp only; omega, by simp, n, by simp only; omega, rfl⟩ ⟨rfl, rfl, rfl, rfl, trivial⟩ (by repeat constructor) ?_
  rintro ⟨a, z, zs⟩ ⟨ha1, ha2, f, hf1, hf2⟩ K hK
  dsimp only at ha1 ha2 hf1 hf2 ⊢
  (refine q_seq (q_seq (q_region (ql_pure tabOk rfl rfl (ql_pure tabOk rfl rfl ?_)))))
  refine ql_index tabOk rfl rfl rfl rfl rfl (by omega) (by omega) ?_
  refine ql_load1 tabOk rfl rfl rfl (fun w hs => hc0 _ hs.chg0) ?_
  (refine ql_pure tabOk rfl rfl (ql_pure tabOk rfl rfl (q_nil ?_)))
  refine q_if rfl (fun hc => ?_) (fun hc => ?_)
  · have ha3 : a < n := by omega
    clear hc
    (refine q_skip (q_block (q_seq (q_region (ql_pure tabOk rfl rfl ?_)))))
    refine ql_mk #[.int .i64 a, .int .i64 (-1), .int .i64 0] rfl (by kernel_rfl) rfl ?_
    skip
    refine ql_alloc zero111 rfl (fun b10 => ?_)
    (refine ql_setA tabOk rfl rfl rfl rfl rfl (by repeat constructor) rfl ?_; refine q_nil (q_seq (q_seq (q_region ?_))); (iterate 3 refine ql_pure tabOk rfl rfl ?_); refine q_nil (q_block ?_))
    refine q_loop (σ := Nat) (fun k => k ≤ l.length) (fun k => l.length - k)
      (fun k => [(0, .slice (some ⟨vb, vo, none⟩) l.length c), (6, .slice (some ⟨g, 0, none⟩) l.length cw), (8, z), (9, .int .i64 a), (10, .pointer (some ⟨b10, 0, none⟩)), (31, .slice (some ⟨g, 0, none⟩) l.length cw), (32, .int .i64 l.length), (33, .int .i64 k)])
      (fun k => [.pt b10 [.int .i64 a, .int .i64 (zoneF (regV l n) most a k).1, .int .i64 (zoneF (regV l n) most a k).2] 111, .ow z 111 3 zs.length (znC zs), un (rowsO 3 xs), .ow (.slice (some ⟨g, 0, none⟩) l.length cw) 179 2 l.length (wxC most xs)]) 0 (by omega) ⟨rfl, rfl, rfl, rfl, rfl, rfl, rfl, rfl, trivial⟩ (by repeat constructor) ?_
    rintro k hk K2 hK2
    (refine q_seq (q_region (ql_pure tabOk rfl rfl (q_nil (q_seq ?_)))))
    refine q_if rfl (fun hc => ?_) (fun hc => ?_)
    · have hk2 : k < l.length := by omega
      have hk3 : k < xs.length := by omega
      have hkn := hxn k hk3
      clear hc
      refine q_fact (fun w hs => RdI.outI (wx_row hs (by repeat constructor) k hk3).1) ?_
      rintro ⟨a1, c1, e1, _⟩
      (refine q_skip (q_seq (q_block (q_seq (q_region (ql_pure tabOk rfl rfl ?_))))))
      refine ql_index tabOk rfl rfl rfl rfl rfl (by omega) (by omega) ?_
      refine ql_loadA tabOk rfl rfl rfl rfl (fun w hs => by
        rw [Int.toNat_natCast]
        have := wx_at hs (by repeat constructor) k hk3
        rw [e1] at this
        exact this) ?_
      skip
      refine ql_alloc zero179 rfl (fun b12 => ?_)
      (refine ql_pure tabOk rfl rfl ?_; refine ql_setA tabOk rfl rfl rfl rfl rfl (by repeat constructor) rfl ?_; refine q_nil (q_seq (q_region (ql_pure tabOk rfl rfl (ql_ar tabOk rfl rfl rfl rfl (by omega) (by omega) (ql_pure tabOk rfl rfl (q_nil (q_seq (q_block ?_)))))))))
      have hnx := goodN_le xs[k].2 most a
      refine q_loop (σ := Nat) (fun t => a ≤ t ∧ t ≤ n ∧ ∀ s, a ≤ s → s < t → xs[k].2.getD s 0 ≤ most) (fun t => n - t)
        (fun t => [(0, .slice (some ⟨vb, vo, none⟩) l.length c), (6, .slice (some ⟨g, 0, none⟩) l.length cw), (8, z), (9, .int .i64 a), (10, .pointer (some ⟨b10, 0, none⟩)), (11, .int .i64 k), (12, .pointer (some ⟨b12, 0, none⟩)), (13, .int .i64 (t - 1)), (31, .slice (some ⟨g, 0, none⟩) l.length cw), (32, .int .i64 l.length), (33, .int .i64 k)])
        (fun t => [.pt b12 [.slice a1 xs[k].2.length c1, .int .i64 most] 179, .pt b10 [.int .i64 a, .int .i64 (zoneF (regV l n) most a k).1, .int .i64 (zoneF (regV l n) most a k).2] 111, .ow z 111 3 zs.length (znC zs), un (rowsO 3 xs), .ow (.slice (some ⟨g, 0, none⟩) l.length cw) 179 2 l.length (wxC most xs)]) a ⟨by omega, by omega, fun s h1 h2 => by omega⟩ ⟨rfl, rfl, rfl, rfl, rfl, rfl, rfl, rfl, rfl, rfl, rfl, trivial⟩ (by repeat constructor) ?_
      rintro t ⟨ht1, ht2, ht3⟩ K3 hK3
      have et : (t : Int) - 1 + 1 = t := by omega
      (refine q_seq (q_seq (q_region (ql_pure tabOk rfl rfl (ql_ar tabOk rfl rfl rfl rfl (by omega) (by omega) (ql_pure tabOk rfl rfl ?_))))))
      refine ql_index tabOk rfl rfl rfl rfl rfl (by omega) (by omega) ?_
      refine ql_load1 tabOk rfl rfl rfl (fun w hs => hc0 _ hs.chg0) ?_
      by_cases htn : t < n
      · (refine ql_pure tabOk rfl rfl (ql_lssT tabOk rfl rfl rfl (by omega) (ql_pure tabOk rfl rfl (ql_gyes rfl ?_))); refine ql_loadABa tabOk rfl rfl rfl ?_; refine ql_gyes rfl (ql_pure tabOk rfl rfl (ql_gyes rfl (ql_pure tabOk rfl rfl (ql_gyes rfl (ql_ar tabOk rfl rfl rfl rfl (by omega) (by omega) (ql_gyes rfl ?_)))))))
        rw [et]
        refine ql_callv (val := .bool (allG xs[k].2 most a t)) tabOk rfl rfl rfl rfl (fun w hs => ?_) ?_; exact all_ca w 0 w.heap.size _ most xs[k].2 a t (e1 ▸ (wx_row hs (by repeat constructor) k hk3).1) (by omega) (by omega)
        cases hal : allG xs[k].2 most a t with
        | false =>
          have hstop : t < xs[k].2.length → ¬ xs[k].2.getD t 0 ≤ most := fun _ hle => by
            rw [← Bool.not_eq_true, allG_iff (by omega)] at hal
            exact hal fun s h1 h2 => by
              by_cases e : s = t
              · rw [e]; exact hle
              · exact ht3 s h1 (by omega)
          (refine ql_pure tabOk rfl rfl (q_nil (q_cond_false rfl (q_exit _ rfl (q_seq (q_region (ql_pure tabOk rfl rfl (ql_pure tabOk rfl rfl ?_))))))); refine ql_loadBa tabOk rfl rfl rfl ?_; refine ql_pure tabOk rfl rfl (q_nil ?_))
          have hgn : goodN xs[k].2 most a = t - a := goodN_eq ht1 (by omega) ht3 hstop
          have hw : zoneF (regV l n) most a (k + 1) = if (zoneF (regV l n) most a k).1 < (t : Int) - 1 then ((t : Int) - 1, (k : Int)) else zoneF (regV l n) most a k := by
            show (if (zoneF (regV l n) most a k).1 < (a : Int) - 1 + goodN ((regV l n).getD k []) most a then _ else _) = _
            rw [hrs k hk3, hgn, show (a : Int) - 1 + ((t - a : Nat) : Int) = (t : Int) - 1 from by omega]
          refine q_if rfl (fun hc => ?_) (fun hc => ?_)
          · have h5 : (zoneF (regV l n) most a k).1 < (t : Int) - 1 := by simpa using hc
            rw [if_pos h5] at hw
            (refine q_region ?_; (iterate 3 refine ql_pure tabOk rfl rfl ?_); refine ql_st1 tabOk rfl rfl rfl rfl (by repeat constructor) ?_; refine ql_pure tabOk rfl rfl ?_; refine ql_st2 tabOk rfl rfl rfl rfl (by repeat constructor) ?_; refine q_nil (q_blk (q_region (ql_ar tabOk rfl rfl rfl rfl (by omega) (by omega) (ql_pure tabOk rfl rfl (q_nil ?_))))))
            exact hK2 (k + 1) _ _ (by omega) (by omega) ⟨rfl, rfl, rfl, rfl, rfl, rfl, rfl, rfl, trivial⟩ (by rw [hw]; repeat constructor)
          · have h5 : ¬ (zoneF (regV l n) most a k).1 < (t : Int) - 1 := by simpa using hc
            rw [if_neg h5] at hw
            (refine q_skip (q_blk (q_region (ql_ar tabOk rfl rfl rfl rfl (by omega) (by omega) (ql_pure tabOk rfl rfl (q_nil ?_))))))
            exact hK2 (k + 1) _ _ (by omega) (by omega) ⟨rfl, rfl, rfl, rfl, rfl, rfl, rfl, rfl, trivial⟩ (by rw [hw]; repeat constructor)
        | true =>
          rw [allG_iff (by omega)] at hal
          (refine ql_pure tabOk rfl rfl (q_nil (q_cond_true rfl (q_skip (q_block (q_region (ql_pure tabOk rfl rfl (ql_ar tabOk rfl rfl rfl rfl (by omega) (by omega) (ql_pure tabOk rfl rfl (q_nil (q_blk ?_)))))))))))
          exact hK3 (t + 1) _ _ ⟨by omega, by omega, fun s h1 h2 => hal s h1 (by omega)⟩ (by omega) ⟨rfl, rfl, rfl, rfl, rfl, rfl, rfl, by rw [show ((t + 1 : Nat) : Int) - 1 = (t : Int) - 1 + 1 from by omega]; rfl, rfl, rfl, rfl, trivial⟩ (by repeat constructor)
      · have hstop : t < xs[k].2.length → ¬ xs[k].2.getD t 0 ≤ most := fun h => by omega
        (refine ql_pure tabOk rfl rfl (ql_lssF tabOk rfl rfl rfl (by omega) (ql_pure tabOk rfl rfl ?_)); (iterate 5 refine ql_gno rfl rfl rfl ?_); refine ql_pure tabOk rfl rfl (q_nil (q_cond_false rfl (q_exit _ rfl (q_seq (q_region (ql_pure tabOk rfl rfl (ql_pure tabOk rfl rfl ?_))))))); refine ql_loadBa tabOk rfl rfl rfl ?_; refine ql_pure tabOk rfl rfl (q_nil ?_))
        skip
        have hgn : goodN xs[k].2 most a = t - a := goodN_eq ht1 (by omega) ht3 hstop
        have hw : zoneF (regV l n) most a (k + 1) = if (zoneF (regV l n) most a k).1 < (t : Int) - 1 then ((t : Int) - 1, (k : Int)) else zoneF (regV l n) most a k := by
          show (if (zoneF (regV l n) most a k).1 < (a : Int) - 1 + goodN ((regV l n).getD k []) most a then _ else _) = _
          rw [hrs k hk3, hgn, show (a : Int) - 1 + ((t - a : Nat) : Int) = (t : Int) - 1 from by omega]
        refine q_if rfl (fun hc => ?_) (fun hc => ?_)
        · have h5 : (zoneF (regV l n) most a k).1 < (t : Int) - 1 := by simpa using hc
          rw [if_pos h5] at hw
          (refine q_region ?_; (iterate 3 refine ql_pure tabOk rfl rfl ?_); refine ql_st1 tabOk rfl rfl rfl rfl (by repeat constructor) ?_; refine ql_pure tabOk rfl rfl ?_; refine ql_st2 tabOk rfl rfl rfl rfl (by repeat constructor) ?_; refine q_nil (q_blk (q_region (ql_ar tabOk rfl rfl rfl rfl (by omega) (by omega) (ql_pure tabOk rfl rfl (q_nil ?_))))))
          exact hK2 (k + 1) _ _ (by omega) (by omega) ⟨rfl, rfl, rfl, rfl, rfl, rfl, rfl, rfl, trivial⟩ (by rw [hw]; repeat constructor)
        · have h5 : ¬ (zoneF (regV l n) most a k).1 < (t : Int) - 1 := by simpa using hc
          rw [if_neg h5] at hw
          (refine q_skip (q_blk (q_region (ql_ar tabOk rfl rfl rfl rfl (by omega) (by omega) (ql_pure tabOk rfl rfl (q_nil ?_))))))
          exact hK2 (k + 1) _ _ (by omega) (by omega) ⟨rfl, rfl, rfl, rfl, rfl, rfl, rfl, rfl, trivial⟩ (by rw [hw]; repeat constructor)
    · obtain rfl : k = l.length := by omega
      clear hK2 hk hc
      have hz1 := zone_has hl hm.1 ha3
      have hz2 := zone_lt hrl ha3 (most := most) l.length
      generalize hp1 : (zoneF (regV l n) most a l.length).1 = p1 at *
      generalize hp2 : (zoneF (regV l n) most a l.length).2 = p2 at *
      (refine q_exit _ rfl (q_seq (q_region (ql_pure tabOk rfl rfl ?_))); refine ql_loadABa tabOk rfl rfl rfl ?_)
      refine ql_mkS 111 [.int .i64 a, .int .i64 p1, .int .i64 p2] rfl (by kernel_rfl) rfl (fun bn => ?_)
      skip
      refine ql_append (q := 1) (news := [.int .i64 a, .int .i64 p1, .int .i64 p2]) slZ rfl rfl rfl (fun v' => by repeat constructor) (fun w' hs => ⟨_, _, Blk.rdN (hs.blk (b := bn) (by repeat constructor)) rfl⟩) (by simp [oneV]) (by omega) (by omega) (fun z' => ?_)
      (refine ql_pure tabOk rfl rfl (q_nil (q_region (ql_pure tabOk rfl rfl ?_))); refine ql_loadBa tabOk rfl rfl rfl ?_; refine ql_ar tabOk rfl rfl rfl rfl (by omega) (by omega) (ql_pure tabOk rfl rfl (q_nil (q_blk ?_))))
      have hstep := zonesF_step (rs := regV l n) (most := most) (f := f) ha3
      rw [regV_len, hp1, hp2] at hstep
      rw [hstep] at hf2
      obtain ⟨nx, hnx⟩ : ∃ nx : Nat, p1 + 1 = (nx : Int) := ⟨(p1 + 1).toNat, by omega⟩
      rw [hnx, Int.toNat_natCast] at hf2
      exact hK (nx, z', zs ++ [((a : Int), p1, p2)]) _ _ ⟨by simp only; omega, by simp only [List.length_append, List.length_cons, List.length_nil]; omega, f - 1, by simp only; omega, by
        have hf : f - 1 + 1 = f := by omega
        dsimp only
        rw [hf, List.append_assoc]
        exact hf2⟩ (by simp only; omega) ⟨rfl, rfl, rfl, by rw [← hnx]; rfl, trivial⟩ (by dsimp only; rw [znC_snoc, show (zs ++ [((a : Int), p1, p2)]).length = zs.length + 1 from by simp]; repeat constructor)
  · obtain rfl : a = n := by omega
    rw [zonesF_end (Nat.le_refl _), List.append_nil] at hf2
    subst hf2
    (refine q_exit _ rfl (q_seq (q_region ?_)); (iterate 3 refine ql_pure tabOk rfl rfl ?_); refine q_nil (q_ret ?_))
    refine q_fin tabOk rfl (by repeat constructor) fun w hs => ?_
    exact ⟨z, rfl, hs.sp (by repeat constructor)⟩
end Go.Proofs.YtcmpdmobmbbplaaGreat

/- Walks: whether snows are breaks. -/
namespace Go.Proofs.YtcmpdmobmbbplaaGreat
set_option maxRecDepth 4000
open Go Go.Eng

theorem breaks1_p (w : World) (lo hi b t : Nat) (v : Value) (l : List (List Int)) (br : List Int) (hb : Blk w b [v] t) (h : RdII w lo hi v l) (hl : TabOk l (nV l)) :
    PredAt Tryz.prog tab w (.func (.func 125) #[] #[.pointer (some ⟨b, 0, none⟩)]) (ints br) (pIx (nV l)) := by
  have hl1 := hl.l1
  have hn2 := hl.n2
  refine ⟨_, _, _, rfl, rfl, fun w' hw' x hx => ?_⟩
  have hb' := hb.keep hw'
  obtain ⟨a, c, rfl, ha⟩ := RdII.outI h
  obtain ⟨vb, vo, rfl⟩ := ha (by omega)
  obtain ⟨b0, o0, c0, hr0, hc0⟩ := RdII.rowS h 0 (by omega) (nV_eq (by omega)).symm hl.n1
  obtain ⟨i, hi, rfl⟩ := List.mem_map.1 hx
  refine q_of (Sat.nil w' M0) Tryz.func125 rfl (by simp [Tryz.ntmps125]) ?_
  (refine q_seq (q_region (ql_pure tabOk rfl rfl (q_nil (q_seq (q_region (ql_pure tabOk rfl rfl ?_)))))); refine ql_loadP tabOk rfl rfl rfl (by assumption) (by rfl) ?_)
  refine ql_index tabOk rfl rfl rfl rfl rfl (by omega) (by omega) ?_
  refine ql_load1 tabOk rfl rfl rfl (fun w hs => hc0 _ (hw'.trans hs.chg0)) ?_
  (refine ql_pure tabOk rfl rfl (ql_ar tabOk rfl rfl rfl rfl (by omega) (by omega) ?_))
  refine ql_callv (val := .bool (inB i 0 (nV l - 1))) tabOk rfl rfl rfl rfl (fun w hs => ?_) ?_; exact within_ca i 0 (nV l - 1) w
  (refine ql_pure tabOk rfl rfl (q_nil (q_ret ?_)))
  refine q_fin tabOk rfl (by repeat constructor) fun w hs => ?_
  exact ⟨rfl, hs.chg0⟩
def pAll (w : World) (a b : Nat) : Value → Bool
  | .agg cs => match cs.toList with
    | [v, .int _ most] => allG (rowAt w v) most a b
    | _ => false
  | _ => false
theorem breaks2_p (w : World) (lo hi p q t1 t2 : Nat) (most : Int) (vs : List Value) (rows : List (List Int)) (n a b : Nat) (h2 : vs.length = rows.length) (h3 : ∀ i (h : i < vs.length) (h' : i < rows.length), RdI w lo hi vs[i] rows[i]) (hn : ∀ row ∈ rows, row.length = n) (hn2 : n ≤ 1000) (hb : b < n) (hp : Blk w p [.int .i64 a] t1) (hq : Blk w q [.int .i64 b] t2) :
    PredAt Tryz.prog tab w (.func (.func 127) #[] #[.pointer (some ⟨p, 0, none⟩), .pointer (some ⟨q, 0, none⟩)]) (vs.map (wxV most)) (pAll w a b) := by
  refine ⟨_, _, _, rfl, rfl, fun w' hw' x hx => ?_⟩
  have hp' := hp.keep hw'
  have hq' := hq.keep hw'
  obtain ⟨v, hv, rfl⟩ := List.mem_map.1 hx
  obtain ⟨hr, hm⟩ := rdII_mem h2 h3 hv
  show Ca _ _ _ _ fun r w2 => r = .bool (allG (rowAt w v) most a b) ∧ _
  generalize hg : rowAt w v = row at hr hm ⊢
  have hrn := hn row hm
  obtain ⟨ra, rc, rfl, hra⟩ := RdI.outI hr
  unfold wxV
  refine q_of (Sat.nil w' M0) Tryz.func127 rfl (by simp [Tryz.ntmps127]) ?_
  (refine q_seq (q_region ?_))
  refine ql_box rfl rfl (fun b3 => ?_)
  (refine ql_pure tabOk rfl rfl (q_nil (q_seq (q_region ?_))); refine ql_loadABa tabOk rfl rfl rfl ?_; (iterate 2 refine ql_loadP tabOk rfl rfl rfl (by assumption) (by rfl) ?_))
  refine ql_callv (val := .bool (allG row most a b)) tabOk rfl rfl rfl rfl (fun w hs => ?_) ?_; exact all_ca w lo hi _ most row a b (RdE.keep hr (hw'.trans hs.chg0)) (by omega) (by omega)
  (refine ql_pure tabOk rfl rfl (q_nil (q_ret ?_)))
  refine q_fin tabOk rfl (by repeat constructor) fun w hs => ?_
  exact ⟨rfl, hs.chg0⟩
theorem pAll_any (w : World) (lo hi a b : Nat) (most : Int) (vs : List Value) (rows : List (List Int)) (h2 : vs.length = rows.length) (h3 : ∀ i (h : i < vs.length) (h' : i < rows.length), RdI w lo hi vs[i] rows[i]) : (vs.map (wxV most)).any (pAll w a b) = rows.any fun row => allG row most a b := by
  have e : vs.map (rowAt w) = rows := List.ext_getElem (by simp [h2]) (fun i h4 h5 => by
    rw [List.getElem_map]
    exact rowAt_eq (h3 i (by simpa using h4) h5))
  rw [← e, List.any_map, List.any_map]
  rfl
theorem any_ca {w0 w : World} {M : Nat → Prop} {H : List Ck} {g n c t t2 t3 t4 p q a b n2 : Nat} {most : Int} {xs : List (Value × List Int)} (hs : Sat w0 M H w) (hu : un (rowsO t2 xs) ∈ H) (ho : Ck.ow (.slice (some ⟨g, 0, none⟩) n c) t 2 n (wxC most xs) ∈ H) (hn : ∀ row ∈ xs.map (·.2), row.length = n2) (hn2 : n2 ≤ 1000) (hb : b < n2) (hl : xs.length < 1000000) (hp : Blk w p [.int .i64 a] t3) (hq : Blk w q [.int .i64 b] t4) :
    Ca Tryz.prog 126 [.slice (some ⟨g, 0, none⟩) n c, .func (.func 127) #[] #[.pointer (some ⟨p, 0, none⟩), .pointer (some ⟨q, 0, none⟩)]] w fun r w' => r = .bool ((xs.map (·.2)).any fun row => allG row most a b) ∧ Chg [] w w' := by
  have hnx : n = xs.length := wx_len (hs.mem ho)
  have h3 : ∀ i (h : i < (xs.map (·.1)).length) (h' : i < (xs.map (·.2)).length), RdI w 0 w.heap.size (xs.map (·.1))[i] (xs.map (·.2))[i] := fun i h h' => by
    simp only [List.getElem_map]
    exact (wx_row hs hu i (by simpa using h)).1
  have hrd : RdE w 0 w.heap.size (.slice (some ⟨g, 0, none⟩) n c) 2 ((xs.map (·.1)).map (wxV most)) := RdE.ofOwn (t := t) (by rw [wx_cells, List.length_map, List.length_map, ← hnx]; exact hs.mem ho) (fun e he => by
    obtain ⟨y, _, rfl⟩ := List.mem_map.1 he
    rfl)
  have := conF_wax w 0 w.heap.size _ _ _ (pAll w a b) hrd (fun i hi => by rw [List.getElem_map]; exact ⟨_, rfl⟩) (by simp only [List.length_map]; omega) (breaks2_p w 0 w.heap.size p q t3 t4 most (xs.map (·.1)) (xs.map (·.2)) n2 a b (by simp) h3 hn hn2 hb hp hq)
  rw [pAll_any w 0 w.heap.size a b most (xs.map (·.1)) (xs.map (·.2)) (by simp) h3] at this
  exact this
theorem brk_no {l : List (List Int)} {most : Int} {br : List Int} (h : limitV l most ≠ 0) : breaksV l most br = (false, limitV l most) := if_pos h
theorem brk_un {l : List (List Int)} {most : Int} {br : List Int} (h : limitV l most = 0) (h2 : br.all (fun s => inB s 0 ((nV l : Int) - 1)) = false) : breaksV l most br = (false, 1) := by unfold breaksV; rw [if_neg (by simpa using h), if_pos h2]
theorem brk_yes {l : List (List Int)} {most : Int} {br : List Int} (h : limitV l most = 0) (h2 : br.all (fun s => inB s 0 ((nV l : Int) - 1)) = true) : breaksV l most br = (if brkF (regV l (nV l)) most br = true then !br.isEmpty && true else false, 0) := by unfold breaksV; rw [if_neg (by simpa using h), if_neg (by rw [h2]; simp)]
def tK20_bab9619 : OT := .alt (chainT [9, 10, 0, 1, 2, 3, 4, 11, 5, 6, 7, 8, 12] (.nil)) (chainT [10, 9, 0, 1, 2, 3, 4, 11, 5, 6, 7, 8, 12] (.nil))
set_option maxHeartbeats 4000000 in
theorem breaksShow_ca (w : World) (lo hi lo2 hi2 : Nat) (v u : Value) (l : List (List Int)) (most : Int) (br : List Int) (h : RdII w lo hi v l) (hu : RdI w lo2 hi2 u br) (hbl : br.length ≤ 1000000) : Ca Tryz.prog 57 [v, .int .i64 most, u] w fun x w' => x = .tuple #[.bool (breaksV l most br).1, .int .i64 (breaksV l most br).2] ∧ Chg [] w w' := by
  obtain ⟨va, c, rfl, ha⟩ := RdII.outI h
  obtain ⟨ua, uc, rfl, hua⟩ := RdI.outI hu
  refine q_of (Sat.nil w M0) Tryz.func57 rfl (by simp [Tryz.ntmps57]) ?_
  (refine q_seq (q_region ?_))
  refine ql_box rfl rfl (fun b3 => ?_)
  (refine ql_pure tabOk rfl rfl (ql_pure tabOk rfl rfl (q_nil (q_seq (q_region ?_)))); refine ql_loadBa tabOk rfl rfl rfl ?_; refine ql_pure tabOk rfl rfl ?_)
  by_cases he : limitV l most = 0
  · obtain ⟨hl, hm⟩ := limit_iff.1 he
    have hl1 := hl.l1
    have hl2 := hl.l2
    have hn1 := hl.n1
    have hn2 := hl.n2
    refine ql_call (β := Value × List (Value × List Int)) tabOk [] _ M0 rfl rfl rfl rfl (Sp.refl _) (fun _ h => h.elim) (fun w' hs => limited_ok w' lo hi _ l most (RdII.keep h hs.chg0) he) ?_
    rintro ⟨u, xs⟩ _ ⟨rfl, hxs⟩
    dsimp only [List.cons_append, List.nil_append]
    have hrl : ∀ row ∈ regV l (nV l), row.length = nV l := fun row hr => by
      obtain ⟨r, _, rfl⟩ := List.mem_map.1 hr
      exact regRow_len _ _ _
    refine ql_fact (fun w hs => hs.ownSome (v := u) (by repeat constructor) (by omega)) ?_
    rintro ⟨g, cw, rfl⟩
    have hxl : xs.length = l.length := by have := congrArg List.length hxs; rw [regV_len, List.length_map] at this; exact this
    (refine ql_pure tabOk rfl rfl (ql_ext tabOk rfl rfl rfl (ql_ext tabOk rfl rfl rfl (ql_pure tabOk rfl rfl (ql_pure tabOk rfl rfl (q_nil (q_seq (q_block (q_seq (q_region (ql_pure tabOk rfl rfl (ql_neqF tabOk rfl rfl rfl (by omega) ?_))))))))))); refine ql_pure tabOk rfl rfl (q_nil (q_cond_false rfl (q_seq (q_region (ql_pure tabOk rfl rfl (ql_pure tabOk rfl rfl ?_)))))))
    refine ql_callv (val := .bool (br.all fun s => inB s 0 ((nV l : Int) - 1))) tabOk rfl rfl rfl rfl (fun w hs => ?_) ?_; exact by have := all_int w lo2 hi2 _ _ (ints br) _ (RdE.keep hu hs.chg0) (by intro i hi; simp [ints, oneV]) (by simp [ints]; omega) (breaks1_p w lo hi b3 _ _ l br (hs.blk (by repeat constructor)) (RdII.keep h hs.chg0) hl); rw [pIx_all] at this; exact this
    cases hal : (br.all fun s => inB s 0 ((nV l : Int) - 1)) with
    | false =>
      (refine ql_pure tabOk rfl rfl (ql_pure tabOk rfl rfl (q_nil (q_cond_true rfl (q_seq (q_region (ql_pure tabOk rfl rfl (ql_pure tabOk rfl rfl (q_nil (q_ret ?_))))))))))
      refine q_fin tabOk rfl (by repeat constructor) fun w hs => ?_
      exact ⟨by rw [brk_un he hal]; rfl, hs.chg0⟩
    | true =>
      rw [brk_yes he hal]
      (refine ql_pure tabOk rfl rfl (ql_pure tabOk rfl rfl (q_nil (q_cond_false rfl (q_skip (q_blk (q_seq (q_seq (q_region (ql_pure tabOk rfl rfl (q_nil (q_block ?_))))))))))))
      generalize hrs : regV l (nV l) = rs at *
      refine q_loop (σ := Nat) (fun s => 1 ≤ s ∧ (s ≤ br.length ∨ s = 1) ∧ brkF rs most (br.drop (s - 1)) = brkF rs most br) (fun s => br.length - s)
        (fun s => [(2, .slice ua br.length uc), (8, .slice (some ⟨g, 0, none⟩) l.length cw), (10, .int .i64 s)])
        (fun s => [un (rowsO 3 xs), .ow (.slice (some ⟨g, 0, none⟩) l.length cw) 179 2 l.length (wxC most xs)]) 1 ⟨by omega, .inr rfl, rfl⟩ ⟨rfl, rfl, rfl, trivial⟩ (by repeat constructor) ?_
      rintro s ⟨hs1, hs2, hs3⟩ K hK
      (refine q_seq (q_seq (q_region ?_)); (iterate 4 refine ql_pure tabOk rfl rfl ?_); refine q_nil ?_)
      refine q_if rfl (fun hc => ?_) (fun hc => ?_)
      · have hs4 : s < br.length := by omega
        clear hc
        obtain ⟨ub, uo, rfl⟩ := hua (by omega)
        have hB : ∀ k (hk : k < br.length), 0 ≤ br[k] ∧ br[k] ≤ (nV l : Int) - 1 := fun k hk => inB_iff.1 (List.all_eq_true.1 hal _ (List.getElem_mem hk))
        have hd1 : br.drop (s - 1) = br[s - 1]'(by omega) :: br[s] :: br.drop (s + 1) := by
          have e : s - 1 + 1 = s := by omega
          rw [List.drop_eq_getElem_cons (i := s - 1) (by omega), e, List.drop_eq_getElem_cons hs4]
        have hd2 : br.drop (s + 1 - 1) = br[s] :: br.drop (s + 1) := by
          rw [Nat.add_sub_cancel, List.drop_eq_getElem_cons hs4]
        have hb1 := hB (s - 1) (by omega)
        have hb2 := hB s hs4
        have ei : ((s : Int) - 1).toNat = s - 1 := by omega
        generalize hx : br[s - 1]'(by omega) = x at hb1 hd1
        generalize hy : br[s] = y at hb2 hd1 hd2
        rw [hd1] at hs3
        obtain ⟨i, rfl⟩ := Int.eq_ofNat_of_zero_le hb1.1
        obtain ⟨j, rfl⟩ := Int.eq_ofNat_of_zero_le hb2.1
        (refine q_skip (q_seq (q_block (q_seq ?_))))
        refine q_cut (σ := Nat × Nat) (fun y => [(2, .slice (some ⟨ub, uo, none⟩) br.length uc), (8, .slice (some ⟨g, 0, none⟩) l.length cw), (10, .int .i64 s), (11, .pointer (some ⟨y.1, 0, none⟩)), (12, .pointer (some ⟨y.2, 0, none⟩))])
          (fun y => [.pt y.1 [.int .i64 i] 3, .pt y.2 [.int .i64 j] 3, un (rowsO 3 xs), .ow (.slice (some ⟨g, 0, none⟩) l.length cw) 179 2 l.length (wxC most xs)]) ?_ ?_
        rotate_left
        · intro K2 hK2
          refine q_drawT (tK20_bab9619) _ [] (Sp.refl _) (by kernel_rfl) (by kernel_rfl) ?_
          refine qt_alt ?_ ?_
          · skip
            refine qt_seg (by repeat (first | exact PickL.nil | (apply PickL.cons; rfl))) fun K1 hK1 => ?_
            skip
            refine qf_alloc zero3 rfl (fun b11 => ?_)
            skip
            refine qf_alloc zero3 rfl (fun b12 => ?_)
            (refine qf_pure tabOk rfl rfl rfl (qf_pure tabOk rfl rfl rfl (qf_ar tabOk rfl rfl rfl rfl (by omega) (by omega) ?_)))
            refine qf_index tabOk rfl rfl rfl rfl rfl (by omega) (by omega) ?_
            refine qf_load1 (v := .int .i64 i) tabOk rfl rfl rfl (fun w hs => by rw [ei, ← hx]; exact RdI.at (RdE.keep hu hs.chg0) (s - 1) (by omega)) ?_
            (refine qf_set tabOk rfl rfl rfl rfl (by repeat constructor) ?_; refine qf_pure tabOk rfl rfl rfl (qf_pure tabOk rfl rfl rfl ?_))
            refine qf_index tabOk rfl rfl rfl rfl rfl (by omega) (by omega) ?_
            refine qf_load1 (v := .int .i64 j) tabOk rfl rfl rfl (fun w hs => by rw [Int.toNat_natCast, ← hy]; exact RdI.at (RdE.keep hu hs.chg0) s hs4) ?_
            (refine qf_set tabOk rfl rfl rfl rfl (by repeat constructor) ?_; refine qf_nil ?_)
            exact hK1 _ _ (qt_nil (hK2 (b11, b12) _ _ ⟨rfl, rfl, rfl, rfl, rfl, trivial⟩ (by repeat constructor)))
          · skip
            refine qt_seg (by repeat (first | exact PickL.nil | (apply PickL.cons; rfl))) fun K1 hK1 => ?_
            skip
            refine qf_alloc zero3 rfl (fun b12 => ?_)
            skip
            refine qf_alloc zero3 rfl (fun b11 => ?_)
            (refine qf_pure tabOk rfl rfl rfl (qf_pure tabOk rfl rfl rfl (qf_ar tabOk rfl rfl rfl rfl (by omega) (by omega) ?_)))
            refine qf_index tabOk rfl rfl rfl rfl rfl (by omega) (by omega) ?_
            refine qf_load1 (v := .int .i64 i) tabOk rfl rfl rfl (fun w hs => by rw [ei, ← hx]; exact RdI.at (RdE.keep hu hs.chg0) (s - 1) (by omega)) ?_
            (refine qf_set tabOk rfl rfl rfl rfl (by repeat constructor) ?_; refine qf_pure tabOk rfl rfl rfl (qf_pure tabOk rfl rfl rfl ?_))
            refine qf_index tabOk rfl rfl rfl rfl rfl (by omega) (by omega) ?_
            refine qf_load1 (v := .int .i64 j) tabOk rfl rfl rfl (fun w hs => by rw [Int.toNat_natCast, ← hy]; exact RdI.at (RdE.keep hu hs.chg0) s hs4) ?_
            (refine qf_set tabOk rfl rfl rfl rfl (by repeat constructor) ?_; refine qf_nil ?_)
            exact hK1 _ _ (qt_nil (hK2 (b11, b12) _ _ ⟨rfl, rfl, rfl, rfl, rfl, trivial⟩ (by repeat constructor)))
        rintro ⟨b11, b12⟩
        dsimp only
        by_cases hij : (j : Int) ≤ i
        · (refine q_seq (q_region ?_); (iterate 2 refine ql_loadBa tabOk rfl rfl rfl ?_); refine ql_geqT tabOk rfl rfl rfl (by omega) (ql_pure tabOk rfl rfl ?_); (iterate 3 refine ql_gno rfl rfl rfl ?_); refine ql_pure tabOk rfl rfl (q_nil (q_cond_true rfl (q_seq (q_region (ql_pure tabOk rfl rfl (ql_pure tabOk rfl rfl (q_nil (q_ret ?_)))))))))
          refine q_fin tabOk rfl (by repeat constructor) fun w hs => ?_
          have e : brkF rs most br = false := by rw [← hs3]; unfold brkF; rw [if_pos hij]
          exact ⟨by rw [e]; rfl, hs.chg0⟩
        · (refine q_seq (q_region ?_); (iterate 2 refine ql_loadBa tabOk rfl rfl rfl ?_); refine ql_geqF tabOk rfl rfl rfl (by omega) (ql_pure tabOk rfl rfl (ql_gyes rfl (ql_pure tabOk rfl rfl (ql_gyes rfl (ql_pure tabOk rfl rfl (ql_gyes rfl ?_)))))))
          refine ql_callv (val := .bool (rs.any fun row => allG row most i j)) tabOk rfl rfl rfl rfl (fun w hs => ?_) ?_; exact by have := any_ca hs (t2 := 3) (by repeat constructor) (by repeat constructor) (n2 := nV l) (fun row hr => by rw [hxs] at hr; exact hrl row hr) (by omega) (show j < nV l by omega) (by omega) (hs.blk (b := b11) (by repeat constructor)) (hs.blk (b := b12) (by repeat constructor)); rw [hxs] at this; exact this
          cases han : (rs.any fun row => allG row most i j) with
          | true =>
            (refine ql_pure tabOk rfl rfl (q_nil (q_cond_true rfl (q_seq (q_region (ql_pure tabOk rfl rfl (ql_pure tabOk rfl rfl (q_nil (q_ret ?_)))))))))
            refine q_fin tabOk rfl (by repeat constructor) fun w hs => ?_
            have e : brkF rs most br = false := by rw [← hs3]; unfold brkF; rw [if_neg hij, Int.toNat_natCast, Int.toNat_natCast, if_pos han]
            exact ⟨by rw [e]; rfl, hs.chg0⟩
          | false =>
            (refine ql_pure tabOk rfl rfl (q_nil (q_cond_false rfl (q_skip (q_blk (q_region (ql_pure tabOk rfl rfl (ql_ar tabOk rfl rfl rfl rfl (by omega) (by omega) (ql_pure tabOk rfl rfl (q_nil ?_))))))))))
            exact hK (s + 1) _ _ ⟨by omega, .inl (by omega), by
              rw [hd2, ← hs3]
              conv => rhs; unfold brkF
              rw [if_neg hij, Int.toNat_natCast, Int.toNat_natCast, if_neg (by rw [han]; simp)]⟩ (by omega) ⟨rfl, rfl, rfl, trivial⟩ (by repeat constructor)
      · have e : brkF rs most br = true := by
          rw [← hs3]
          match hd : br.drop (s - 1) with
          | [] => rfl
          | [x] => rfl
          | x :: y :: r =>
            exfalso
            have := congrArg List.length hd
            rw [List.length_drop] at this
            simp at this
            omega
        (refine q_exit _ rfl (q_seq (q_region ?_)); (iterate 5 refine ql_pure tabOk rfl rfl ?_); refine q_nil (q_ret ?_))
        cases br with
        | nil =>
          skip
          refine q_fin tabOk rfl (by repeat constructor) fun w hs => ?_
          exact ⟨by rw [e]; rfl, hs.chg0⟩
        | cons x br =>
          skip
          refine q_fin tabOk rfl (by repeat constructor) fun w hs => ?_
          exact ⟨by rw [e]; simp [retV], hs.chg0⟩
  · refine ql_callv (val := .tuple #[.slice none 0 0, .int .i64 (limitV l most)]) tabOk rfl rfl rfl rfl (fun w hs => ?_) ?_; exact limited_no w lo hi _ l most (RdII.keep h hs.chg0) he
    (refine ql_pure tabOk rfl rfl (ql_ext tabOk rfl rfl rfl (ql_ext tabOk rfl rfl rfl (ql_pure tabOk rfl rfl (ql_pure tabOk rfl rfl (q_nil (q_seq (q_block (q_seq (q_region (ql_pure tabOk rfl rfl (ql_neqT tabOk rfl rfl rfl (by omega) ?_))))))))))); refine ql_pure tabOk rfl rfl (q_nil (q_cond_true rfl (q_seq (q_region ?_)))); (iterate 3 refine ql_pure tabOk rfl rfl ?_); refine q_nil (q_ret ?_))
    refine q_fin tabOk rfl (by repeat constructor) fun w hs => ?_
    exact ⟨by rw [brk_no he]; rfl, hs.chg0⟩
end Go.Proofs.YtcmpdmobmbbplaaGreat

/- Walks: sorted by insertion, with a function that compares. -/
namespace Go.Proofs.YtcmpdmobmbbplaaGreat
set_option maxRecDepth 4000
open Go Go.Eng

theorem set_ints (l : List Int) (k : Nat) (v : Int) : (ints l).set k (.int .i64 v) = ints (l.set k v) := by simp [ints, List.map_set]
/-- A function value that compares by a key, in all worlds where only one block may have changed. -/
def CmpAt (w : World) (g : Nat) (cmp : Value) (key : Int → Int) (l : List Int) : Prop := ∀ w', ChgP (fun x => x = g) w w' → ∀ a ∈ l, ∀ b ∈ l, CaF Tryz.prog cmp [.int .i64 a, .int .i64 b] w' fun v w2 => v = .int .i64 (key a - key b) ∧ Chg [] w' w2
set_option maxHeartbeats 4000000 in
theorem insF_ca (w : World) (g c : Nat) (l : List Int) (key : Int → Int) (cmp : Value) (h1 : 1 ≤ l.length) (hl : l.length ≤ 1000) (hI0 : SrI key l l 1) (hcmp : CmpAt w g cmp key l) (hb : w.ownsRow 0 3 1 (.slice (some ⟨g, 0, none⟩) l.length c) l.length (ints l)) :
    Ca Tryz.prog 178 [.slice (some ⟨g, 0, none⟩) l.length c, .int .i64 0, .int .i64 l.length, cmp] w fun v w' => ∃ L : List Int, (v = .tuple #[] ∧ L.Perm l ∧ SrtK key L) ∧ Sat w (fun x => x = g) [.ow (.slice (some ⟨g, 0, none⟩) l.length c) 3 1 l.length (ints L)] w' := by
  refine q_of (Sat.own0 hb) Tryz.func178 rfl (by simp [Tryz.ntmps178]) ?_
  (refine q_seq (q_region (ql_pure tabOk rfl rfl (ql_ar tabOk rfl rfl rfl rfl (by omega) (by omega) (ql_pure tabOk rfl rfl (q_nil (q_block ?_)))))))
  refine q_loop (σ := Nat × List Int) (fun s => 1 ≤ s.1 ∧ s.1 ≤ l.length ∧ SrI key l s.2 s.1) (fun s => l.length - s.1) (fun s => [(0, .slice (some ⟨g, 0, none⟩) l.length c), (1, .int .i64 0), (2, .int .i64 l.length), (3, cmp), (8, .int .i64 s.1)])
    (fun s => [.ow (.slice (some ⟨g, 0, none⟩) l.length c) 3 1 l.length (ints s.2)]) (1, l) ⟨by simp, h1, hI0⟩ ⟨rfl, rfl, rfl, rfl, rfl, trivial⟩ (by repeat constructor) ?_
  rintro ⟨i, L⟩ ⟨hi1, hi2, hI⟩ K hK
  simp only at hi1 hi2 hI
  dsimp only
  (refine q_seq (q_seq (q_region ?_)); (iterate 3 refine ql_pure tabOk rfl rfl ?_); refine q_nil ?_)
  refine q_if rfl (fun hc => ?_) (fun hc => ?_)
  · have hi3 : i < l.length := by omega
    clear hc
    (refine q_skip (q_seq (q_block (q_seq (q_region (ql_pure tabOk rfl rfl (ql_pure tabOk rfl rfl (q_nil (q_block ?_)))))))))
    refine q_loop (σ := Nat × List Int) (fun s => SrJ key l s.2 i s.1) (fun s => s.1) (fun s => [(0, .slice (some ⟨g, 0, none⟩) l.length c), (1, .int .i64 0), (2, .int .i64 l.length), (3, cmp), (8, .int .i64 i), (9, .int .i64 s.1)])
      (fun s => [.ow (.slice (some ⟨g, 0, none⟩) l.length c) 3 1 l.length (ints s.2)]) (i, L) (hI.open hi3) ⟨rfl, rfl, rfl, rfl, rfl, rfl, trivial⟩ (by repeat constructor) ?_
    rintro ⟨j, L2⟩ hJ K2 hK2
    simp only at hJ
    dsimp only
    have hji := hJ.ji
    have hlen : L2.length = l.length := hJ.perm.length_eq
    by_cases hj0 : 0 < j
    · have y1 : j < L2.length := by omega
      have y2 : j - 1 < L2.length := by omega
      have g1 := getD_get y1
      have g2 := getD_get y2
      obtain ⟨q, hq⟩ : ∃ q : Nat, (q : Int) = (j : Int) - 1 := ⟨j - 1, by omega⟩
      have hq2 : j - 1 = q := by omega
      simp only [hq2] at y2 g2
      have hclose := hJ.close
      have hswap := hJ.swap hj0 (by omega)
      simp only [hq2] at hclose hswap
      (refine q_seq (q_seq ?_))
      refine q_draw _ [] (Sp.refl _) (by kernel_rfl) (by kernel_rfl) ?_
      (refine qf_pure tabOk rfl rfl rfl (qf_pure tabOk rfl rfl rfl (qf_gtrT tabOk rfl rfl rfl (by omega) (qf_pure tabOk rfl rfl rfl (qf_gyes rfl (qf_pure tabOk rfl rfl rfl (qf_gyes rfl (qf_pure tabOk rfl rfl rfl (qf_gyes rfl (qf_pure tabOk rfl rfl rfl (qf_gyes rfl ?_)))))))))))
      refine qf_index tabOk rfl rfl rfl rfl rfl (by omega) (by omega) ?_
      (refine qf_gyes rfl ?_)
      refine qf_load1 (v := .int .i64 L2[j]) tabOk rfl rfl rfl (fun w hs => RdI.at (hs.rdI (v := .slice (some ⟨g, 0, none⟩) l.length c) (l := L2) (t := 3) (n := l.length) (by repeat constructor) hlen.symm) j y1) ?_
      (refine qf_gyes rfl (qf_pure tabOk rfl rfl rfl (qf_gyes rfl (qf_pure tabOk rfl rfl rfl (qf_gyes rfl (qf_ar tabOk rfl rfl rfl rfl (by omega) (by omega) (qf_gyes rfl ?_)))))))
      rw [← hq]
      refine qf_index tabOk rfl rfl rfl rfl rfl (by omega) (by omega) ?_
      (refine qf_gyes rfl ?_)
      refine qf_load1 (v := .int .i64 L2[q]) tabOk rfl rfl rfl (fun w hs => RdI.at (hs.rdI (v := .slice (some ⟨g, 0, none⟩) l.length c) (l := L2) (t := 3) (n := l.length) (by repeat constructor) hlen.symm) q y2) ?_
      (refine qf_gyes rfl ?_)
      refine qf_callFv rfl rfl rfl (fun w' hs => hcmp w' hs.chg _ (hJ.perm.subset (List.getElem_mem y1)) _ (hJ.perm.subset (List.getElem_mem y2))) ?_
      by_cases hlt : key L2[j] - key L2[q] < 0
      · have hs2 := hswap (by rw [g1, g2]; omega) g2 g1
        (refine qf_gyes rfl (qf_lssT tabOk rfl rfl rfl (by omega) (qf_pure tabOk rfl rfl rfl (qf_nil (q_cond_true rfl (q_skip (q_seq (q_block ?_))))))))
        refine q_drawB [true, true, false, false, false, true, true, true, true, true, true, true, true, true, false, false, false, false] [] [.ow (.slice (some ⟨g, 0, none⟩) l.length c) 3 1 l.length (ints L2)] (by repeat constructor) (by kernel_rfl) (by kernel_rfl) (by kernel_rfl) ?_
        refine qb_T 2 rfl rfl (Sp.refl _) fun K1 hK1 => ?_
        (refine qf_pure tabOk rfl rfl rfl (qf_pure tabOk rfl rfl rfl (qf_nil ?_)))
        refine hK1 _ _ (qb_F 3 [.ow (.slice (some ⟨g, 0, none⟩) l.length c) 3 1 l.length (ints L2)] rfl rfl (by repeat constructor) fun K1 hK1 => ?_)
        (refine qf_pure tabOk rfl rfl rfl (qf_pure tabOk rfl rfl rfl (qf_ar tabOk rfl rfl rfl rfl (by omega) (by omega) (qf_nil ?_))))
        refine hK1 _ _ (qb_T 9 rfl rfl (by repeat constructor) fun K1 hK1 => ?_)
        (refine qf_pure tabOk rfl rfl rfl (qf_pure tabOk rfl rfl rfl (qf_ar tabOk rfl rfl rfl rfl (by omega) (by omega) ?_)))
        rw [← hq]
        (refine qf_index tabOk rfl rfl rfl rfl rfl (by omega) (by omega) ?_; refine qf_load1 tabOk rfl rfl rfl (fun w hs => RdI.at (hs.rdI (l := L2) (t := 3) (n := l.length) (by repeat constructor) hlen.symm) q y2) ?_)
        (refine qf_pure tabOk rfl rfl rfl (qf_pure tabOk rfl rfl rfl ?_))
        (refine qf_index tabOk rfl rfl rfl rfl rfl (by omega) (by omega) ?_; refine qf_load1 tabOk rfl rfl rfl (fun w hs => RdI.at (hs.rdI (l := L2) (t := 3) (n := l.length) (by repeat constructor) hlen.symm) j y1) ?_)
        (refine qf_nil ?_)
        refine hK1 _ _ (qb_F 4 [.ow (.slice (some ⟨g, 0, none⟩) l.length c) 3 1 l.length (ints L2)] rfl rfl (by repeat constructor) fun K1 hK1 => ?_)
        skip
        refine qf_index tabOk rfl rfl rfl rfl rfl (by omega) (by omega) ?_
        refine qf_storeW tabOk j rfl rfl rfl rfl (by repeat constructor) (by omega) (by simpa using y1) ?_
        skip
        refine qf_index tabOk rfl rfl rfl rfl rfl (by omega) (by omega) ?_
        refine qf_storeW tabOk q rfl rfl rfl rfl (by repeat constructor) (by omega) (by simpa using y2) ?_
        rw [set_ints, set_ints]
        (refine qf_nil ?_)
        refine hK1 _ _ (qb_nil ?_)
        (refine q_blk (q_region (ql_pure tabOk rfl rfl (ql_ar tabOk rfl rfl rfl rfl (by omega) (by omega) (ql_pure tabOk rfl rfl (q_nil ?_))))))
        exact hK2 (q, _) _ _ hs2 (by simp only; omega) ⟨rfl, rfl, rfl, rfl, rfl, lookI rfl (by omega), trivial⟩ (by repeat constructor)
      · have hI2 := hclose (.inr (by rw [g1, g2]; omega))
        (refine qf_gyes rfl (qf_lssF tabOk rfl rfl rfl (by omega) (qf_pure tabOk rfl rfl rfl (qf_nil (q_cond_false rfl (q_exit _ rfl (q_blk (q_region (ql_pure tabOk rfl rfl (ql_ar tabOk rfl rfl rfl rfl (by omega) (by omega) (ql_pure tabOk rfl rfl (q_nil ?_))))))))))))
        exact hK (i + 1, L2) _ _ ⟨by simp only; omega, by simp only; omega, hI2⟩ (by simp only; omega) ⟨rfl, rfl, rfl, rfl, rfl, trivial⟩ (by repeat constructor)
    · have hI2 := hJ.close (.inl (by omega))
      obtain rfl : j = 0 := by omega
      (refine q_seq (q_seq ?_))
      refine q_draw _ [] (Sp.refl _) (by kernel_rfl) (by kernel_rfl) ?_
      (refine qf_pure tabOk rfl rfl rfl (qf_pure tabOk rfl rfl rfl (qf_gtrF tabOk rfl rfl rfl (by omega) (qf_pure tabOk rfl rfl rfl ?_))); (iterate 12 refine qf_gno rfl rfl rfl ?_); refine qf_pure tabOk rfl rfl rfl (qf_nil (q_cond_false rfl (q_exit _ rfl (q_blk (q_region (ql_pure tabOk rfl rfl (ql_ar tabOk rfl rfl rfl rfl (by omega) (by omega) (ql_pure tabOk rfl rfl (q_nil ?_))))))))))
      exact hK (i + 1, L2) _ _ ⟨by simp only; omega, by simp only; omega, hI2⟩ (by simp only; omega) ⟨rfl, rfl, rfl, rfl, rfl, trivial⟩ (by repeat constructor)
  · obtain rfl : i = l.length := by omega
    (refine q_exit _ rfl ?_)
    refine q_end tabOk rfl (by repeat constructor) fun w hs => ?_
    exact ⟨L, ⟨rfl, hI.perm, hI.all⟩, hs⟩
theorem CmpAt.sub {w w' : World} {g : Nat} {cmp : Value} {key : Int → Int} {l : List Int} (h : CmpAt w g cmp key l) (hc : ChgP (fun x => x = g) w w') : CmpAt w' g cmp key l := fun w2 hc2 => h w2 (hc.upP hc2 fun _ h => .inl h)
theorem stable_ca (w : World) (g c : Nat) (l : List Int) (key : Int → Int) (cmp : Value) (h1 : 1 ≤ l.length) (hl : l.length ≤ 16) (hI0 : SrI key l l 1) (hcmp : CmpAt w g cmp key l) (hb : w.ownsRow 0 3 1 (.slice (some ⟨g, 0, none⟩) l.length c) l.length (ints l)) :
    Ca Tryz.prog 142 [.slice (some ⟨g, 0, none⟩) l.length c, .int .i64 l.length, cmp] w fun v w' => ∃ L : List Int, (v = .tuple #[] ∧ L.Perm l ∧ SrtK key L) ∧ Sat w (fun x => x = g) [.ow (.slice (some ⟨g, 0, none⟩) l.length c) 3 1 l.length (ints L)] w' := by
  refine q_of (Sat.own0 hb) Tryz.func142 rfl (by simp [Tryz.ntmps142]) ?_
  (refine q_seq (q_region (ql_pure tabOk rfl rfl (q_nil (q_seq (q_region ?_))))); (iterate 3 refine ql_pure tabOk rfl rfl ?_); refine q_nil (q_seq (q_block ?_)))
  refine q_loop (σ := Unit) (fun _ => True) (fun _ => 0) (fun _ => [(0, .slice (some ⟨g, 0, none⟩) l.length c), (1, .int .i64 l.length), (2, cmp), (6, .int .i64 20), (7, .int .i64 0), (8, .int .i64 20)])
    (fun _ => [.ow (.slice (some ⟨g, 0, none⟩) l.length c) 3 1 l.length (ints l)]) () trivial ⟨rfl, rfl, rfl, rfl, rfl, rfl, trivial⟩ (by repeat constructor) ?_
  rintro _ _ K hK
  clear hK
  (refine q_seq (q_seq (q_region (ql_pure tabOk rfl rfl (ql_pure tabOk rfl rfl (ql_leqF tabOk rfl rfl rfl (by omega) (q_nil (q_cond_false rfl (q_exit _ rfl (q_seq (q_region ?_)))))))))); (iterate 4 refine ql_pure tabOk rfl rfl ?_))
  refine ql_call (β := List Int) (ψ := fun L v => v = .tuple #[] ∧ L.Perm l ∧ SrtK key L) (L' := fun L => [.ow (.slice (some ⟨g, 0, none⟩) l.length c) 3 1 l.length (ints L)]) tabOk [.ow (.slice (some ⟨g, 0, none⟩) l.length c) 3 1 l.length (ints l)] _ (fun x => x = g) rfl rfl rfl rfl (Sp.cons (by repeat constructor) (Sp.refl _)) (fun x hx => ⟨_, .head _, by subst hx; rfl⟩) (fun w' hs => insF_ca w' g c l key cmp h1 (by omega) hI0 (hcmp.sub hs.chg) (hs.all _ (.head _))) ?_
  rintro L _ ⟨rfl, hp, hso⟩
  dsimp only [List.cons_append, List.nil_append]
  (refine q_nil (q_block ?_))
  refine q_loop (σ := Unit) (fun _ => True) (fun _ => 0) (fun _ => [(0, .slice (some ⟨g, 0, none⟩) l.length c), (1, .int .i64 l.length), (2, cmp), (6, .int .i64 20)])
    (fun _ => [.ow (.slice (some ⟨g, 0, none⟩) l.length c) 3 1 l.length (ints L)]) () trivial ⟨rfl, rfl, rfl, rfl, trivial⟩ (by repeat constructor) ?_
  rintro _ _ K hK
  clear hK
  (refine q_seq (q_seq (q_region (ql_pure tabOk rfl rfl (ql_pure tabOk rfl rfl (ql_lssF tabOk rfl rfl rfl (by omega) (q_nil (q_cond_false rfl (q_exit _ rfl ?_)))))))))
  refine q_end tabOk rfl (by repeat constructor) fun w hs => ?_
  exact ⟨L, ⟨rfl, hp, hso⟩, hs⟩
theorem sortF_ca (w : World) (g c : Nat) (l : List Int) (key : Int → Int) (cmp : Value) (h1 : 1 ≤ l.length) (hl : l.length ≤ 16) (hI0 : SrI key l l 1) (hcmp : CmpAt w g cmp key l) (hb : w.ownsRow 0 3 1 (.slice (some ⟨g, 0, none⟩) l.length c) l.length (ints l)) :
    Ca Tryz.prog 92 [.slice (some ⟨g, 0, none⟩) l.length c, cmp] w fun v w' => ∃ L : List Int, (v = .tuple #[] ∧ L.Perm l ∧ SrtK key L) ∧ Sat w (fun x => x = g) [.ow (.slice (some ⟨g, 0, none⟩) l.length c) 3 1 l.length (ints L)] w' := by
  refine q_of (Sat.own0 hb) Tryz.func92 rfl (by simp [Tryz.ntmps92]) ?_
  (refine q_region ?_; (iterate 4 refine ql_pure tabOk rfl rfl ?_))
  refine ql_call (β := List Int) (ψ := fun L v => v = .tuple #[] ∧ L.Perm l ∧ SrtK key L) (L' := fun L => [.ow (.slice (some ⟨g, 0, none⟩) l.length c) 3 1 l.length (ints L)]) tabOk [.ow (.slice (some ⟨g, 0, none⟩) l.length c) 3 1 l.length (ints l)] _ (fun x => x = g) rfl rfl rfl rfl (Sp.cons (by repeat constructor) (Sp.refl _)) (fun x hx => ⟨_, .head _, by subst hx; rfl⟩) (fun w' hs => stable_ca w' g c l key cmp h1 hl hI0 (hcmp.sub hs.chg) (hs.all _ (.head _))) ?_
  rintro L _ ⟨rfl, hp, hso⟩
  dsimp only [List.cons_append, List.nil_append]
  (refine q_nil ?_)
  refine q_end tabOk rfl (by repeat constructor) fun w hs => ?_
  exact ⟨L, ⟨rfl, hp, hso⟩, hs⟩
end Go.Proofs.YtcmpdmobmbbplaaGreat

/- Walks: single skis, sorted by how stiff they are. -/
namespace Go.Proofs.YtcmpdmobmbbplaaGreat
set_option maxRecDepth 4000
open Go Go.Eng

theorem RdI.row' {w : World} {lo hi : Nat} {a : Option Addr} {n c : Nat} {l : List Int} (h : RdI w lo hi (.slice a n c) l) : Rd w lo hi (.slice a n c) 1 n (ints l) := by
  have h1 := RdI.row h
  obtain ⟨a', c', e, _⟩ := RdI.outI h
  injection e with e1 e2 e3
  rw [← e2] at h1
  exact h1
theorem singles1_p (w : World) (c : List Int) : PredAt Tryz.prog tab w (.func (.func 162) #[] #[]) (ints c) (fun x => match x with | .int _ i => inB i 0 100000 | _ => false) := by
  refine ⟨_, _, _, rfl, rfl, fun w' hw' x hx => ?_⟩
  obtain ⟨i, hi, rfl⟩ := List.mem_map.1 hx
  refine q_of (Sat.nil w' M0) Tryz.func162 rfl (by simp [Tryz.ntmps162]) ?_
  (refine q_seq (q_region (ql_pure tabOk rfl rfl (q_nil (q_seq (q_region (ql_pure tabOk rfl rfl ?_)))))))
  refine ql_callv (val := .bool (inB i 0 100000)) tabOk rfl rfl rfl rfl (fun w hs => ?_) ?_; exact within_ca i 0 100000 w
  (refine ql_pure tabOk rfl rfl (q_nil (q_ret ?_)))
  refine q_fin tabOk rfl (by repeat constructor) fun w hs => ?_
  exact ⟨rfl, hs.chg0⟩
theorem singles_ca (w : World) (lo hi : Nat) (v : Value) (st : List Int) (h : RdI w lo hi v st) : Ca Tryz.prog 128 [v] w fun x w' => x = .int .i64 (singlesV st) ∧ Chg [] w w' := by
  obtain ⟨a, c, rfl, ha⟩ := RdI.outI h
  refine q_of (Sat.nil w M0) Tryz.func128 rfl (by simp [Tryz.ntmps128]) ?_
  (refine q_seq (q_region (ql_pure tabOk rfl rfl (q_nil (q_seq (q_block (q_seq (q_region (ql_pure tabOk rfl rfl (ql_pure tabOk rfl rfl ?_))))))))))
  refine ql_callv (val := .bool (inB st.length 2 16)) tabOk rfl rfl rfl rfl (fun w hs => ?_) ?_; exact within_ca st.length 2 16 w
  cases h1 : inB st.length 2 16 with
  | false =>
    (refine ql_pure tabOk rfl rfl (ql_pure tabOk rfl rfl ?_); (iterate 4 refine ql_gno rfl rfl rfl ?_); refine ql_pure tabOk rfl rfl (ql_pure tabOk rfl rfl (q_nil (q_cond_true rfl (q_seq (q_region (ql_pure tabOk rfl rfl (q_nil (q_ret ?_)))))))))
    refine q_fin tabOk rfl (by repeat constructor) fun w hs => ?_
    exact ⟨by simp [retV, singlesV, h1], hs.chg0⟩
  | true =>
    have h1' := inB_iff.1 h1
    by_cases h2 : st.length % 2 = 1
    · (refine ql_pure tabOk rfl rfl (ql_pure tabOk rfl rfl (ql_gyes rfl (ql_pure tabOk rfl rfl (ql_gyes rfl (ql_pure tabOk rfl rfl (ql_gyes rfl (ql_remN rfl rfl rfl (by omega) (by omega) (ql_gyes rfl (ql_eqlT tabOk rfl rfl rfl (by omega) (ql_pure tabOk rfl rfl (ql_pure tabOk rfl rfl ?_))))))))))); refine q_nil (q_cond_true rfl (q_seq (q_region (ql_pure tabOk rfl rfl (q_nil (q_ret ?_)))))))
      refine q_fin tabOk rfl (by repeat constructor) fun w hs => ?_
      exact ⟨by simp [retV, singlesV, h1, h2], hs.chg0⟩
    · (refine ql_pure tabOk rfl rfl (ql_pure tabOk rfl rfl (ql_gyes rfl (ql_pure tabOk rfl rfl (ql_gyes rfl (ql_pure tabOk rfl rfl (ql_gyes rfl (ql_remN rfl rfl rfl (by omega) (by omega) (ql_gyes rfl (ql_eqlF tabOk rfl rfl rfl (by omega) (ql_pure tabOk rfl rfl (ql_pure tabOk rfl rfl ?_))))))))))); refine q_nil (q_cond_false rfl (q_seq (q_region (ql_pure tabOk rfl rfl ?_)))))
      refine ql_callv (val := .bool (st.all fun n => inB n 0 100000)) tabOk rfl rfl rfl rfl (fun w hs => ?_) ?_; exact by have := all_int w lo hi _ _ (ints st) _ (RdE.keep h hs.chg0) (by intro i hi; simp [ints, oneV]) (by simp [ints]; omega) (singles1_p w st); unfold ints at this; rw [List.all_map] at this; exact this
      have hn : ¬ (inB st.length 2 16 && (!decide (st.length % 2 = 1) && true)) = false := by rw [h1]; simp [h2]
      cases h3 : (st.all fun n => inB n 0 100000) with
      | false =>
        (refine ql_pure tabOk rfl rfl (ql_pure tabOk rfl rfl (q_nil (q_cond_true rfl (q_seq (q_region (ql_pure tabOk rfl rfl (q_nil (q_ret ?_)))))))))
        refine q_fin tabOk rfl (by repeat constructor) fun w hs => ?_
        exact ⟨by unfold singlesV; rw [if_neg hn, if_pos h3]; rfl, hs.chg0⟩
      | true =>
        (refine ql_pure tabOk rfl rfl (ql_pure tabOk rfl rfl (q_nil (q_cond_false rfl (q_skip (q_blk (q_seq (q_region (ql_pure tabOk rfl rfl (q_nil (q_ret ?_)))))))))))
        refine q_fin tabOk rfl (by repeat constructor) fun w hs => ?_
        exact ⟨by unfold singlesV; rw [if_neg hn, if_neg (by rw [h3]; simp)]; rfl, hs.chg0⟩
theorem iota_succ (k : Nat) : ints (iotaL (k + 1)) = ints (iotaL k) ++ [.int .i64 (k : Int)] := by
  unfold iotaL ints
  rw [List.range_succ, List.map_append, List.map_append]
  rfl
theorem sorted1_ca (w : World) (lo hi b t : Nat) (v : Value) (st : List Int) (h : RdI w lo hi v st) (hb : Blk w b [v] t) (hst : ∀ x ∈ st, 0 ≤ x ∧ x ≤ 100000) (i j : Nat) (hi' : i < st.length) (hj : j < st.length) : Ca Tryz.prog 163 [.int .i64 i, .int .i64 j, .pointer (some ⟨b, 0, none⟩)] w fun x w' => x = .int .i64 (stK st i - stK st j) ∧ Chg [] w w' := by
  obtain ⟨a, c, rfl, ha⟩ := RdI.outI h
  obtain ⟨ab, ao, rfl⟩ := ha (by omega)
  have e1 : stK st i = st[i] := by unfold stK; rw [Int.toNat_natCast, getD_get hi']
  have e2 : stK st j = st[j] := by unfold stK; rw [Int.toNat_natCast, getD_get hj]
  have b1 := hst _ (List.getElem_mem hi')
  have b2 := hst _ (List.getElem_mem hj)
  rw [e1, e2]
  refine q_of (Sat.nil w M0) Tryz.func163 rfl (by simp [Tryz.ntmps163]) ?_
  (refine q_seq (q_region (ql_pure tabOk rfl rfl (q_nil (q_seq ?_)))))
  refine q_draw _ [] (Sp.refl _) (by kernel_rfl) (by kernel_rfl) ?_
  (refine qf_loadP tabOk rfl rfl rfl (by assumption) (by rfl) ?_; refine qf_pure tabOk rfl rfl rfl ?_)
  refine qf_index tabOk rfl rfl rfl rfl rfl (by omega) (by omega) ?_
  refine qf_load1 (v := .int .i64 st[i]) tabOk rfl rfl rfl (fun w hs => RdI.at (RdE.keep h hs.chg0) i hi') ?_
  (refine qf_loadP tabOk rfl rfl rfl (by assumption) (by rfl) ?_; refine qf_pure tabOk rfl rfl rfl ?_)
  refine qf_index tabOk rfl rfl rfl rfl rfl (by omega) (by omega) ?_
  refine qf_load1 (v := .int .i64 st[j]) tabOk rfl rfl rfl (fun w hs => RdI.at (RdE.keep h hs.chg0) j hj) ?_
  (refine qf_ar tabOk rfl rfl rfl rfl (by omega) (by omega) (qf_pure tabOk rfl rfl rfl (qf_nil (q_ret ?_))))
  refine q_fin tabOk rfl (by repeat constructor) fun w hs => ?_
  exact ⟨rfl, hs.chg0⟩
theorem sorted_ca (w : World) (lo hi : Nat) (v : Value) (st : List Int) (h : RdI w lo hi v st) (hs0 : SingOk st) : Ca Tryz.prog 129 [v] w fun x w' => ∃ y : Nat × Nat, x = .slice (some ⟨y.1, 0, none⟩) st.length y.2 ∧ Sat w M0 [.ow (.slice (some ⟨y.1, 0, none⟩) st.length y.2) 3 1 st.length (ints (softL st))] w' := by
  have hl1 := hs0.l1
  have hl2 := hs0.l2
  obtain ⟨a, c, rfl, ha⟩ := RdI.outI h
  refine q_of (Sat.nil w M0) Tryz.func129 rfl (by simp [Tryz.ntmps129]) ?_
  (refine q_seq (q_region ?_))
  refine ql_box rfl rfl (fun b1 => ?_)
  (refine ql_pure tabOk rfl rfl (q_nil (q_seq (q_region (ql_pure tabOk rfl rfl (q_nil (q_seq (q_seq (q_region ?_)))))))); refine ql_loadBa tabOk rfl rfl rfl ?_; refine ql_pure tabOk rfl rfl (ql_pure tabOk rfl rfl (q_nil (q_block ?_))))
  refine q_conv (H' := [.ow (.slice none 0 0) 3 1 0 (ints (iotaL 0)), .pt b1 [.slice a st.length c] 48]) (fun w' hs => (Sat.ownil hs 3 1).sp (by repeat constructor)) ?_
  refine q_loop (σ := Nat × Value) (fun y => y.1 ≤ st.length) (fun y => st.length - y.1) (fun y => [(1, .pointer (some ⟨b1, 0, none⟩)), (3, y.2), (7, .int .i64 st.length), (8, .int .i64 y.1)])
    (fun y => [.ow y.2 3 1 y.1 (ints (iotaL y.1)), .pt b1 [.slice a st.length c] 48]) (0, .slice none 0 0) (by simp only; omega) ⟨rfl, rfl, rfl, rfl, trivial⟩ (by repeat constructor) ?_
  rintro ⟨k, u⟩ hk K hK
  dsimp only at hk ⊢
  (refine q_seq (q_region (ql_pure tabOk rfl rfl (q_nil (q_seq ?_)))))
  refine q_if rfl (fun hc => ?_) (fun hc => ?_)
  · have hk2 : k < st.length := by omega
    clear hc
    (refine q_skip (q_seq (q_block (q_seq (q_region (ql_pure tabOk rfl rfl (ql_pure tabOk rfl rfl (q_nil (q_region (ql_pure tabOk rfl rfl (ql_pure tabOk rfl rfl ?_)))))))))))
    refine ql_mkS 3 [.int .i64 k] rfl (by kernel_rfl) rfl (fun bn => ?_)
    skip
    refine ql_append (q := 1) (news := [.int .i64 k]) slI rfl rfl rfl (fun v' => by repeat constructor) (fun w' hs => ⟨_, _, Blk.rdN (hs.blk (b := bn) (by repeat constructor)) rfl⟩) (by simp [oneV]) (by omega) (by omega) (fun u' => ?_)
    (refine ql_pure tabOk rfl rfl (q_nil (q_blk (q_region (ql_ar tabOk rfl rfl rfl rfl (by omega) (by omega) (ql_pure tabOk rfl rfl (q_nil ?_)))))))
    exact hK (k + 1, u') _ _ (by simp only; omega) (by simp only; omega) ⟨rfl, rfl, rfl, rfl, trivial⟩ (by dsimp only; rw [iota_succ]; repeat constructor)
  · obtain rfl : k = st.length := by omega
    clear hc hK hk
    refine q_fact (fun w hs => hs.slice2 (v := u) (by repeat constructor)) ?_
    rintro ⟨ua, uc, rfl⟩
    (refine q_exit _ rfl (q_seq (q_region (ql_pure tabOk rfl rfl (ql_pure tabOk rfl rfl ?_)))))
    refine ql_makeI slI rfl rfl rfl (by omega) (fun b5 => ?_)
    (refine ql_pure tabOk rfl rfl (q_nil (q_seq (q_region (ql_pure tabOk rfl rfl (ql_pure tabOk rfl rfl ?_))))))
    refine ql_copyR (et := 3) (news := ints (iotaL st.length)) (sz := 1) (o := 0) (by kernel_rfl) (by kernel_rfl) rfl rfl rfl (by repeat constructor) (by simp [ints, iota_len]) (by simp [ints, oneV]) (fun w hs => ⟨_, _, RdI.row' (hs.rdI (v := .slice ua st.length uc) (l := iotaL st.length) (by repeat constructor) (iota_len _).symm)⟩) ?_
    have ec : List.take 0 (ints (List.replicate st.length 0)) ++ ints (iotaL st.length) ++ List.drop (0 + (ints (iotaL st.length)).length) (ints (List.replicate st.length 0)) = ints (iotaL st.length) := by
      rw [List.take_zero, List.nil_append, List.drop_of_length_le (by simp [ints, iota_len]), List.append_nil]
    rw [ec]
    refine ql_conv (H' := [.ow (.slice (some ⟨b5, 0, none⟩) st.length st.length) 3 1 st.length (ints (iotaL st.length)), .ow (.slice ua st.length uc) 3 1 st.length (ints (iotaL st.length)), .pt b1 [.slice a st.length c] 48]) (fun w' hs => Sat.pt_ow (m := st.length) (by simp [ints, iota_len]) (by omega) hs) ?_
    (refine q_nil (q_seq (q_region (ql_pure tabOk rfl rfl (ql_pure tabOk rfl rfl ?_)))))
    refine ql_call (β := List Int) (ψ := fun L v => v = .tuple #[] ∧ L.Perm (iotaL st.length) ∧ SrtK (stK st) L) (L' := fun L => [.ow (.slice (some ⟨b5, 0, none⟩) st.length st.length) 3 1 st.length (ints L)]) tabOk [.ow (.slice (some ⟨b5, 0, none⟩) st.length st.length) 3 1 st.length (ints (iotaL st.length))] _ (fun x => x = b5) rfl rfl rfl rfl (Sp.cons (by repeat constructor) (Sp.refl _)) (fun x hx => ⟨_, .head _, by subst hx; rfl⟩) (fun w' hs => by
      have hcmp : CmpAt w' b5 (.func (.func 163) #[] #[.pointer (some ⟨b1, 0, none⟩)]) (stK st) (iotaL st.length) := fun w2 hc2 x hx y hy => by
        have hx2 := iota_mem.1 hx
        have hy2 := iota_mem.1 hy
        have hc3 : ChgP (DL [Ck.ow (.slice (some ⟨b5, 0, none⟩) st.length st.length) 3 1 st.length (ints (iotaL st.length))]) w' w2 := (ChgP.refl _ w').upP hc2 fun k hk => .inl ⟨_, .head _, by subst hk; rfl⟩
        have hb1 : Blk w2 b1 [.slice a st.length c] 48 := hs.aside hc3 (x := .pt b1 [.slice a st.length c] 48) (by repeat constructor)
        have hc4 := hs.asideOld hc3
        obtain ⟨i, rfl⟩ := Int.eq_ofNat_of_zero_le hx2.1
        obtain ⟨j, rfl⟩ := Int.eq_ofNat_of_zero_le hy2.1
        exact CaF.of tabOk rfl (sorted1_ca w2 lo hi b1 _ _ st (RdE.keep h hc4) hb1 hs0.num i j (by omega) (by omega))
      have := sortF_ca w' b5 st.length (iotaL st.length) (stK st) (.func (.func 163) #[] #[.pointer (some ⟨b1, 0, none⟩)]) (by rw [iota_len]; omega) (by rw [iota_len]; omega) (SrI.start _) hcmp (by rw [iota_len]; exact hs.all _ (.head _))
      rw [iota_len] at this
      exact this) ?_
    rintro L _ ⟨rfl, hp, hso⟩
    have hL : L = softL st := ordK_eq hp hso
    subst hL
    dsimp only [List.cons_append, List.nil_append]
    (refine q_nil (q_seq (q_region (ql_pure tabOk rfl rfl (ql_pure tabOk rfl rfl (q_nil (q_ret ?_)))))))
    refine q_fin tabOk rfl (by repeat constructor) fun w hs => ?_
    exact ⟨(b5, st.length), rfl, hs.sp (by repeat constructor)⟩
end Go.Proofs.YtcmpdmobmbbplaaGreat

/- Walks: pairs of single skis. -/
namespace Go.Proofs.YtcmpdmobmbbplaaGreat
set_option maxRecDepth 4000
open Go Go.Eng

theorem sl2 : SlT Tryz.prog 96 95 2 16 (.agg #[.int .i64 0, .int .i64 0]) := ⟨by kernel_rfl, by kernel_rfl, by kernel_rfl, by decide⟩
theorem softL_len (st : List Int) : (softL st).length = st.length := ordK_len _ _
theorem soft_in {st : List Int} {i : Nat} (hi : i < (softL st).length) : 0 ≤ (softL st)[i] ∧ (softL st)[i] < st.length := ordK_mem.1 (List.getElem_mem hi)
theorem cost_step {st L : List Int} {k : Nat} (h : k + 1 < L.length) : costF st (L.drop k) = costF st (L.drop (k + 2)) + (st.getD (L[k + 1]).toNat 0 - st.getD (L[k]'(by omega)).toNat 0) := by
  rw [List.drop_eq_getElem_cons (i := k) (by omega), List.drop_eq_getElem_cons (i := k + 1) h]
  rfl
def tK23_8fecd85 : OT := chainT [1, 2, 3, 4, 5, 6, 7, 8, 9, 10, 11, 0, 12, 13] (.nil)
set_option maxHeartbeats 4000000 in
theorem match_ok (w : World) (lo hi : Nat) (v : Value) (st : List Int) (h : RdI w lo hi v st) (hs0 : SingOk st) : Ca Tryz.prog 58 [v] w fun x w' => ∃ u : Value, x = .tuple #[u, .int .i64 (costF st (softL st)), .int .i64 0] ∧ Sat w M0 [.ow u 95 2 (st.length / 2) (ints (softL st))] w' := by
  have hl1 := hs0.l1
  have hl2 := hs0.l2
  have hev := hs0.ev
  obtain ⟨a, c, rfl, ha⟩ := RdI.outI h
  obtain ⟨ab, ao, rfl⟩ := ha (by omega)
  refine q_of (Sat.nil w M0) Tryz.func58 rfl (by simp [Tryz.ntmps58]) ?_
  (refine q_seq (q_region ?_); (iterate 3 refine ql_pure tabOk rfl rfl ?_); refine q_nil (q_seq (q_seq (q_region (ql_pure tabOk rfl rfl ?_)))))
  refine ql_callv (val := .int .i64 0) tabOk rfl rfl rfl rfl (fun w hs => ?_) ?_; exact by have := singles_ca w lo hi _ st (RdE.keep h hs.chg0); rw [sing_iff.2 hs0] at this; exact this
  (refine ql_pure tabOk rfl rfl (q_nil (q_seq (q_region (ql_pure tabOk rfl rfl (ql_neqF tabOk rfl rfl rfl (by omega) (q_nil (q_cond_false rfl (q_skip (q_seq (q_region (ql_pure tabOk rfl rfl ?_))))))))))); refine q_nil (q_seq (q_region (ql_pure tabOk rfl rfl (q_nil (q_seq (q_region (ql_pure tabOk rfl rfl ?_))))))))
  refine ql_call (β := Nat × Nat) tabOk [] _ M0 rfl rfl rfl rfl (Sp.refl _) (fun _ h => h.elim) (fun w' hs => sorted_ca w' lo hi _ st (RdE.keep h hs.chg0) hs0) ?_
  rintro ⟨g, gc⟩ _ rfl
  dsimp only [List.cons_append, List.nil_append]
  have hLl := softL_len st
  have hin : ∀ i (hi : i < (softL st).length), 0 ≤ (softL st)[i] ∧ (softL st)[i] < st.length := fun i hi => soft_in hi
  generalize hL : softL st = L at *
  (refine ql_pure tabOk rfl rfl (q_nil (q_seq (q_seq (q_region (ql_pure tabOk rfl rfl (q_nil (q_block ?_))))))))
  refine q_conv (H' := [.ow (.slice none 0 0) 95 2 0 (ints (L.take (2 * 0))), .ow (.slice (some ⟨g, 0, none⟩) st.length gc) 3 1 st.length (ints L)]) (fun w' hs => by rw [Nat.mul_zero, List.take_zero]; exact Sat.ownil hs 95 2) ?_
  refine q_loop (σ := Nat × Value × Int) (fun y => 2 * y.1 ≤ st.length ∧ y.2.2 + costF st (L.drop (2 * y.1)) = costF st L ∧ -1000000 * (y.1 : Int) ≤ y.2.2 ∧ y.2.2 ≤ 1000000 * y.1) (fun y => st.length - 2 * y.1)
    (fun y => [(0, .slice (some ⟨ab, ao, none⟩) st.length c), (6, y.2.1), (7, .int .i64 y.2.2), (8, .slice (some ⟨g, 0, none⟩) st.length gc), (9, .int .i64 (2 * y.1 : Nat))])
    (fun y => [.ow y.2.1 95 2 y.1 (ints (L.take (2 * y.1))), .ow (.slice (some ⟨g, 0, none⟩) st.length gc) 3 1 st.length (ints L)]) (0, .slice none 0 0, 0) ⟨by simp only; omega, by simp, by simp, by simp⟩ ⟨rfl, rfl, rfl, rfl, rfl, trivial⟩ (by repeat constructor) ?_
  rintro ⟨k, u, cost⟩ ⟨hk, hcost, hc1, hc2⟩ K hK
  dsimp only at hk hcost hc1 hc2 ⊢
  (refine q_seq (q_seq (q_region ?_)); (iterate 4 refine ql_pure tabOk rfl rfl ?_); refine q_nil ?_)
  refine q_if rfl (fun hc => ?_) (fun hc => ?_)
  · have hk2 : 2 * k + 1 < L.length := by omega
    have hk3 : 2 * k < L.length := by omega
    clear hc
    have i1 := hin (2 * k) hk3
    have i2 := hin (2 * k + 1) hk2
    have hstep := cost_step (st := st) hk2
    have ht : L.take (2 * (k + 1)) = L.take (2 * k) ++ [L[2 * k], L[2 * k + 1]] := by
      rw [show 2 * (k + 1) = 2 * k + 1 + 1 from by omega, List.take_succ_eq_append_getElem hk2, List.take_succ_eq_append_getElem hk3, List.append_assoc]
      rfl
    obtain ⟨x, hx⟩ := Int.eq_ofNat_of_zero_le i1.1
    obtain ⟨y, hy⟩ := Int.eq_ofNat_of_zero_le i2.1
    rw [hx] at i1 ht hstep
    rw [hy] at i2 ht hstep
    rw [Int.toNat_natCast, Int.toNat_natCast, getD_get (by omega), getD_get (by omega)] at hstep
    have hx4 : x < st.length := by omega
    have hy4 : y < st.length := by omega
    have n1 := hs0.num _ (List.getElem_mem hx4)
    have n2 := hs0.num _ (List.getElem_mem hy4)
    have ex : ∀ w', Sat w M0 [.ow u 95 2 k (ints (L.take (2 * k))), .ow (.slice (some ⟨g, 0, none⟩) st.length gc) 3 1 st.length (ints L)] w' → True := fun _ _ => trivial
    (refine q_skip (q_seq (q_block (q_seq ?_))))
    refine q_cut (σ := Value) (fun u' => [(0, .slice (some ⟨ab, ao, none⟩) st.length c), (6, u'), (7, .int .i64 cost), (8, .slice (some ⟨g, 0, none⟩) st.length gc), (9, .int .i64 (2 * k : Nat))])
      (fun u' => [.ow u' 95 2 (k + 1) (ints (L.take (2 * (k + 1)))), .ow (.slice (some ⟨g, 0, none⟩) st.length gc) 3 1 st.length (ints L)]) ?_ ?_
    rotate_left
    · intro K2 hK2
      refine q_drawT (tK23_8fecd85) _ [.ow u 95 2 k (ints (L.take (2 * k)))] (Sp.cons (by repeat constructor) (Sp.refl _)) (by kernel_rfl) (by kernel_rfl) ?_
      refine qt_seg (by repeat (first | exact PickL.nil | (apply PickL.cons; rfl))) fun K1 hK1 => ?_
      (refine qf_pure tabOk rfl rfl rfl (qf_pure tabOk rfl rfl rfl ?_))
      refine qf_index tabOk rfl rfl rfl rfl rfl (by omega) (by omega) ?_
      refine qf_load1 (v := .int .i64 x) tabOk rfl rfl rfl (fun w hs => by rw [← hx]; exact RdI.at (hs.rdI (v := .slice (some ⟨g, 0, none⟩) st.length gc) (l := L) (t := 3) (n := st.length) (by repeat constructor) hLl.symm) (2 * k) hk3) ?_
      (refine qf_pure tabOk rfl rfl rfl (qf_pure tabOk rfl rfl rfl (qf_ar tabOk rfl rfl rfl rfl (by omega) (by omega) ?_)))
      refine qf_index tabOk rfl rfl rfl rfl rfl (by omega) (by omega) ?_
      refine qf_load1 (v := .int .i64 y) tabOk rfl rfl rfl (fun w hs => by rw [← hy, show ((2 * k : Nat) + 1 : Int).toNat = 2 * k + 1 from by omega]; exact RdI.at (hs.rdI (v := .slice (some ⟨g, 0, none⟩) st.length gc) (l := L) (t := 3) (n := st.length) (by repeat constructor) hLl.symm) (2 * k + 1) hk2) ?_
      refine qf_mk #[.int .i64 x, .int .i64 y] rfl (by kernel_rfl) rfl ?_
      skip
      refine qf_mkS 95 [.int .i64 x, .int .i64 y] rfl (by kernel_rfl) rfl (fun bn => ?_)
      (refine qf_pure tabOk rfl rfl rfl ?_)
      refine qf_append (q := 1) (news := [.int .i64 x, .int .i64 y]) sl2 rfl rfl rfl (fun v' => by repeat constructor) (fun w' hs => ⟨_, _, Blk.rdN (hs.blk (b := bn) (by repeat constructor)) rfl⟩) (by simp [oneV]) (by omega) (by omega) (fun u' => ?_)
      (refine qf_pure tabOk rfl rfl rfl (qf_nil ?_))
      exact hK1 _ _ (qt_nil (hK2 u' _ _ ⟨rfl, rfl, rfl, rfl, rfl, trivial⟩ (by rw [ht]; simp only [ints, List.map_append]; repeat constructor)))
    intro u'
    skip
    refine q_draw _ [] (Sp.refl _) (by kernel_rfl) (by kernel_rfl) ?_
    ((iterate 4 refine qf_pure tabOk rfl rfl rfl ?_); refine qf_ar tabOk rfl rfl rfl rfl (by omega) (by omega) ?_)
    refine qf_index tabOk rfl rfl rfl rfl rfl (by omega) (by omega) ?_
    refine qf_load1 (v := .int .i64 y) tabOk rfl rfl rfl (fun w hs => by rw [← hy, show ((2 * k : Nat) + 1 : Int).toNat = 2 * k + 1 from by omega]; exact RdI.at (hs.rdI (v := .slice (some ⟨g, 0, none⟩) st.length gc) (l := L) (t := 3) (n := st.length) (by repeat constructor) hLl.symm) (2 * k + 1) hk2) ?_
    skip
    refine qf_index tabOk rfl rfl rfl rfl rfl (by omega) (by omega) ?_
    refine qf_load1 (v := .int .i64 st[y]) tabOk rfl rfl rfl (fun w hs => RdI.at (RdE.keep h hs.chg0) y hy4) ?_
    ((iterate 3 refine qf_pure tabOk rfl rfl rfl ?_))
    refine qf_index tabOk rfl rfl rfl rfl rfl (by omega) (by omega) ?_
    refine qf_load1 (v := .int .i64 x) tabOk rfl rfl rfl (fun w hs => by rw [← hx]; exact RdI.at (hs.rdI (v := .slice (some ⟨g, 0, none⟩) st.length gc) (l := L) (t := 3) (n := st.length) (by repeat constructor) hLl.symm) (2 * k) hk3) ?_
    skip
    refine qf_index tabOk rfl rfl rfl rfl rfl (by omega) (by omega) ?_
    refine qf_load1 (v := .int .i64 st[x]) tabOk rfl rfl rfl (fun w hs => RdI.at (RdE.keep h hs.chg0) x hx4) ?_
    (refine qf_ar tabOk rfl rfl rfl rfl (by omega) (by omega) (qf_ar tabOk rfl rfl rfl rfl (by omega) (by omega) (qf_pure tabOk rfl rfl rfl (qf_nil (q_blk (q_region (ql_pure tabOk rfl rfl (ql_ar tabOk rfl rfl rfl rfl (by omega) (by omega) (ql_pure tabOk rfl rfl (q_nil ?_))))))))))
    exact hK (k + 1, u', cost + (st[y] - st[x])) _ _ ⟨by simp only; omega, by simp only; rw [show 2 * (k + 1) = 2 * k + 2 from by omega]; omega, by simp only; omega, by simp only; omega⟩ (by simp only; omega) ⟨rfl, rfl, rfl, rfl, lookI rfl (by simp only; omega), trivial⟩ (by repeat constructor)
  · have hk4 : 2 * k = L.length := by omega
    have hk5 : k = st.length / 2 := by omega
    rw [hk4, List.drop_length, show costF st [] = 0 from rfl, Int.add_zero] at hcost
    rw [hk4, List.take_length, hk5]
    clear hc
    (refine q_exit _ rfl (q_seq (q_region ?_)); (iterate 5 refine ql_pure tabOk rfl rfl ?_); refine q_nil (q_ret ?_))
    refine q_fin tabOk rfl (by repeat constructor) fun w hs => ?_
    exact ⟨u, by rw [← hcost]; rfl, hs.sp (by repeat constructor)⟩
end Go.Proofs.YtcmpdmobmbbplaaGreat
