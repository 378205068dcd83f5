/- My texts W13, K30, K31, W16, K32, L2, L4, joined: a claim takes at most 60 files. -/
import Derived.Test.YtcmpdmobmbbplaaJ3

/- The plain law of SkiBagged. -/
namespace Go.Proofs.Ytcmpdmobmbbplaa

theorem takeWhile_ge {α : Type} {p : α → Bool} : ∀ (l : List α) (k : Nat), k ≤ l.length → (∀ i (h : i < l.length), i < k → p l[i] = true) → k ≤ (l.takeWhile p).length
  | _, 0, _, _ => by omega
  | [], k + 1, h, _ => by simp at h
  | a :: l, k + 1, h, hp => by
    rw [List.takeWhile_cons, if_pos (show p a = true from hp 0 (by simp) (by omega))]
    have := takeWhile_ge l k (by simpa using h) (fun i hi hk => hp (i + 1) (by simpa using hi) (by omega))
    simp only [List.length_cons]
    omega
theorem goodN_ge {row : List Int} {most : Int} {a s : Nat} (has : a ≤ s) (hs : s < row.length) (h : ∀ t, a ≤ t → t ≤ s → row.getD t 0 ≤ most) : s + 1 - a ≤ goodN row most a := by
  unfold goodN
  refine takeWhile_ge _ _ (by rw [List.length_drop]; omega) (fun i hi hk => ?_)
  rw [List.length_drop] at hi
  rw [List.getElem_drop, decide_eq_true_iff, ← getD_row]
  exact h _ (by omega) (by omega)
/-- Where the best zone from a snow on ends, and one. -/
def reachF (rs : List (List Int)) (most : Int) (a : Nat) : Nat := ((zoneF rs most a rs.length).1 + 1).toNat
structure ReachZ (rs : List (List Int)) (most : Int) (n a e : Nat) : Prop where
  lt : a < e
  le : e ≤ n
  wax : ∃ w : Nat, w < rs.length ∧ (zoneF rs most a rs.length).2 = (w : Int) ∧ ∀ s, a ≤ s → s < e → (rs.getD w []).getD s 0 ≤ most
  max : ∀ w s, w < rs.length → a ≤ s → s < n → (∀ t, a ≤ t → t ≤ s → (rs.getD w []).getD t 0 ≤ most) → s < e
  eq : (zoneF rs most a rs.length).1 = (e : Int) - 1
theorem reach_is {l : List (List Int)} {n : Nat} {most : Int} (hl : TabOk l n) (hm : 0 ≤ most) {a : Nat} (ha : a < n) : ReachZ (regV l n) most n a (reachF (regV l n) most a) := by
  have hn : ∀ row ∈ regV l n, row.length = n := fun row hr => by
    obtain ⟨r, _, rfl⟩ := List.mem_map.1 hr
    exact regRow_len _ _ _
  have h1 := zone_has hl hm ha
  rw [← regV_len l n] at h1
  have h2 := zone_lt (most := most) hn ha (regV l n).length
  have e1 : ((reachF (regV l n) most a : Nat) : Int) = (zoneF (regV l n) most a (regV l n).length).1 + 1 := by unfold reachF; omega
  have hg : ∀ w, w < (regV l n).length → ((regV l n).getD w []).length = n := fun w hw => by
    rw [List.getD_eq_getElem?_getD, List.getElem?_eq_getElem hw, Option.getD_some]
    exact hn _ (List.getElem_mem hw)
  refine ⟨by omega, by omega, ?_, fun w s hw has hs hgood => ?_, by omega⟩
  · rcases zone_wax (rs := regV l n) (most := most) (a := a) (regV l n).length with h | ⟨w, hw, h3, h4⟩
    · omega
    · exact ⟨w, hw, h3, fun s has hs => goodN_good has (by omega)⟩
  · have h3 := goodN_ge has (by rw [hg w hw]; exact hs) hgood
    have h4 := zone_ge (rs := regV l n) (most := most) (a := a) (regV l n).length w hw
    omega
theorem zonesF_go {rs : List (List Int)} {most : Int} {n f a : Nat} (h : ReachZ rs most n a (reachF rs most a)) : ∃ w : Nat, w < rs.length ∧ (∀ s, a ≤ s → s < reachF rs most a → (rs.getD w []).getD s 0 ≤ most) ∧ zonesF rs most n (f + 1) a = ((a : Int), (reachF rs most a : Int) - 1, (w : Int)) :: zonesF rs most n f (reachF rs most a) := by
  obtain ⟨w, hw, e, hg⟩ := h.wax
  have h1 := h.lt
  have h2 := h.le
  refine ⟨w, hw, hg, ?_⟩
  rw [zonesF_step (by omega), h.eq, e]
  congr 2
  omega
theorem zonesF_len {rs : List (List Int)} {most : Int} {n : Nat} : ∀ f a, (zonesF rs most n f a).length ≤ f
  | 0, _ => by simp [zonesF]
  | f + 1, a => by
    unfold zonesF
    split
    · rw [List.length_cons]
      exact Nat.succ_le_succ (zonesF_len f _)
    · simp
/-- Where the next zone begins. -/
def nxtZ (Z : List (Int × Int × Int)) (a : Int) : Nat → Int
  | 0 => a
  | i + 1 => (Z.getD i (0, 0, 0)).2.1 + 1
theorem nxt_cons (z : Int × Int × Int) (Z : List (Int × Int × Int)) (a : Int) (i : Nat) : nxtZ (z :: Z) a (i + 1) = nxtZ Z (z.2.1 + 1) i := by
  cases i <;> simp [nxtZ]
structure ZoneIs (rs : List (List Int)) (most : Int) (n : Nat) (a : Int) (z : Int × Int × Int) : Prop where
  frm : z.1 = a
  a0 : 0 ≤ a
  le : a ≤ z.2.1
  lt : z.2.1 < n
  w0 : 0 ≤ z.2.2
  w1 : z.2.2 < rs.length
  good : ∀ s : Nat, a ≤ s → (s : Int) ≤ z.2.1 → (rs.getD z.2.2.toNat []).getD s 0 ≤ most
theorem zones_are {l : List (List Int)} {n : Nat} {most : Int} (hl : TabOk l n) (hm : 0 ≤ most) : ∀ f a, a ≤ n → n < a + f →
    (∀ i (h : i < (zonesF (regV l n) most n f a).length), ZoneIs (regV l n) most n (nxtZ (zonesF (regV l n) most n f a) a i) (zonesF (regV l n) most n f a)[i]) ∧ nxtZ (zonesF (regV l n) most n f a) a (zonesF (regV l n) most n f a).length = n
  | 0, a, h1, h2 => by omega
  | f + 1, a, h1, h2 => by
    by_cases ha : a < n
    · have hr := reach_is hl hm ha
      have h3 := hr.lt
      have h4 := hr.le
      obtain ⟨w, hw, hg, e⟩ := zonesF_go (f := f) hr
      obtain ⟨ih1, ih2⟩ := zones_are hl hm f _ h4 (by omega)
      rw [e]
      have e2 : ((reachF (regV l n) most a : Nat) : Int) - 1 + 1 = (reachF (regV l n) most a : Nat) := by omega
      refine ⟨fun i hi => ?_, ?_⟩
      · cases i with
        | zero => exact ⟨rfl, by show (0 : Int) ≤ a; omega, by show (a : Int) ≤ _ - 1; omega, by show (_ : Int) - 1 < n; omega, by show (0 : Int) ≤ w; omega, by show (w : Int) < _; omega, fun s h5 h6 => by
            simp only [List.getElem_cons_zero, Int.toNat_natCast] at h6 ⊢
            have h5' : (a : Int) ≤ s := h5
            exact hg s (by omega) (by omega)⟩
        | succ i =>
          rw [nxt_cons]
          simp only [List.getElem_cons_succ, e2]
          exact ih1 i (by simpa using hi)
      · rw [List.length_cons, nxt_cons]
        simp only [e2]
        exact ih2
    · obtain rfl : a = n := by omega
      rw [zonesF_end (Nat.le_refl _)]
      exact ⟨fun i h => by simp at h, rfl⟩
theorem zones_cover {l : List (List Int)} {n : Nat} {most : Int} (hl : TabOk l n) (hm : 0 ≤ most) : ∀ f a, a ≤ n → n < a + f → ∀ s, a ≤ s → s < n → ∃ z ∈ zonesF (regV l n) most n f a, 0 ≤ z.2.2 ∧ z.2.2 < l.length ∧ ((regV l n).getD z.2.2.toNat []).getD s 0 ≤ most
  | 0, a, h1, h2, _, _, _ => by omega
  | f + 1, a, h1, h2, s, h5, h6 => by
    have hr := reach_is hl hm (show a < n by omega)
    have h3 := hr.lt
    have h4 := hr.le
    obtain ⟨w, hw, hg, e⟩ := zonesF_go (f := f) hr
    rw [e]
    by_cases hs : s < reachF (regV l n) most a
    · exact ⟨_, List.mem_cons_self, by show (0 : Int) ≤ w; omega, by show (w : Int) < _; rw [regV_len] at hw; omega, by simp only [Int.toNat_natCast]; exact hg s h5 hs⟩
    · obtain ⟨z, hz, h7⟩ := zones_cover hl hm f _ h4 (by omega) s (by omega) h6
      exact ⟨z, List.mem_cons_of_mem _ hz, h7⟩
theorem allG_of {row : List Int} {most : Int} {a b : Nat} (h : ∀ t, a ≤ t → t ≤ b → row.getD t 0 ≤ most) : allG row most a b = true := by
  unfold allG spanL
  refine List.all_eq_true.2 fun x hx => ?_
  obtain ⟨i, hi, rfl⟩ := List.mem_iff_getElem.1 hx
  rw [List.length_take, List.length_drop] at hi
  rw [List.getElem_take, List.getElem_drop, decide_eq_true_iff, ← getD_row]
  exact h _ (by omega) (by omega)
theorem allG_get {row : List Int} {most : Int} {a b : Nat} (hb : b < row.length) (h : allG row most a b = true) : ∀ t, a ≤ t → t ≤ b → row.getD t 0 ≤ most := fun t h1 h2 => by
  unfold allG spanL at h
  have h3 := List.all_eq_true.1 h (((row.drop a).take (b + 1 - a))[t - a]'(by rw [List.length_take, List.length_drop]; omega)) (List.getElem_mem _)
  rw [decide_eq_true_iff, List.getElem_take, List.getElem_drop] at h3
  rw [getD_row (by omega)]
  have e : a + (t - a) = t := by omega
  simpa only [e] using h3
theorem any_of {rs : List (List Int)} {most : Int} {a b w : Nat} (hw : w < rs.length) (h : ∀ t, a ≤ t → t ≤ b → (rs.getD w []).getD t 0 ≤ most) : (rs.any fun row => allG row most a b) = true := by
  refine List.any_eq_true.2 ⟨rs[w], List.getElem_mem hw, allG_of ?_⟩
  rw [List.getD_eq_getElem?_getD, List.getElem?_eq_getElem hw] at h
  exact h
/-- There are no more breaks than zones. -/
theorem breaks_le {l : List (List Int)} {n : Nat} {most : Int} (hl : TabOk l n) (hm : 0 ≤ most) : ∀ (br : List Int) (f a : Nat), (∀ s ∈ br, 0 ≤ s ∧ s < n) → (∀ b l', br = b :: l' → (a : Int) ≤ b) → n < a + f → brkF (regV l n) most br = true → br.length ≤ (zonesF (regV l n) most n f a).length
  | [], f, a, _, _, _, _ => by simp
  | b :: br, 0, a, hbr, hab, hf, h => by
    have h1 := hbr b List.mem_cons_self
    have h2 := hab b br rfl
    omega
  | b :: br, f + 1, a, hbr, hab, hf, h => by
    have h1 := hbr b List.mem_cons_self
    have h2 := hab b br rfl
    have hr := reach_is hl hm (show a < n by omega)
    have h3 := hr.lt
    have h4 := hr.le
    obtain ⟨w, hw, hg, e⟩ := zonesF_go (f := f) hr
    rw [e, List.length_cons, List.length_cons]
    refine Nat.succ_le_succ (breaks_le hl hm br f _ (fun s hs => hbr s (List.mem_cons_of_mem _ hs)) (fun c l' e2 => ?_) (by omega) ?_)
    · subst e2
      unfold brkF at h
      split at h
      · cases h
      · split at h
        · cases h
        · rename_i h5 h6
          have h7 := hbr c (by simp)
          rcases Int.lt_or_le c (reachF (regV l n) most a : Nat) with h8 | h8
          · exact absurd (any_of hw (fun t h9 h10 => hg t (by omega) (by omega))) h6
          · exact h8
    · cases br with
      | nil => rfl
      | cons c br =>
        unfold brkF at h
        split at h
        · cases h
        · split at h
          · cases h
          · exact h
/-- Where the zones begin. -/
theorem starts_are {l : List (List Int)} {n : Nat} {most : Int} (hl : TabOk l n) (hm : 0 ≤ most) : ∀ f a, a ≤ n → n < a + f → brkF (regV l n) most ((zonesF (regV l n) most n f a).map (·.1)) = true
  | 0, a, h1, h2 => by omega
  | f + 1, a, h1, h2 => by
    by_cases ha : a < n
    · have hr := reach_is hl hm ha
      have h3 := hr.lt
      have h4 := hr.le
      obtain ⟨w, hw, hg, e⟩ := zonesF_go (f := f) hr
      have ih := starts_are hl hm f _ h4 (by omega)
      rw [e]
      by_cases hb : reachF (regV l n) most a < n
      · have hr2 := reach_is hl hm hb
        match f, ih with
        | 0, _ => omega
        | f + 1, ih =>
          obtain ⟨w2, hw2, hg2, e2⟩ := zonesF_go (f := f) hr2
          rw [e2] at ih ⊢
          simp only [List.map_cons] at ih ⊢
          unfold brkF
          rw [if_neg (by omega), if_neg, ih]
          intro hany
          obtain ⟨row, hrow, hall⟩ := List.any_eq_true.1 hany
          obtain ⟨v, hv, rfl⟩ := List.mem_iff_getElem.1 hrow
          rw [Int.toNat_natCast, Int.toNat_natCast] at hall
          have h5 := allG_get (by rw [reg_row]; exact hb) hall
          have h6 := hr.max v (reachF (regV l n) most a) hv (by omega) hb (fun t h7 h8 => by
            have eg : (regV l n).getD v [] = (regV l n)[v] := by rw [List.getD_eq_getElem?_getD, List.getElem?_eq_getElem hv]; rfl
            rw [eg]
            exact h5 t h7 h8)
          omega
      · rw [zonesF_end (show n ≤ reachF (regV l n) most a by omega)]
        rfl
    · rw [zonesF_end (show n ≤ a by omega)]
      rfl
/-- With a greater regret no more zones are needed. -/
theorem zones_mono {l : List (List Int)} {n : Nat} {most most' : Int} (hl : TabOk l n) (hm : 0 ≤ most) (hmm : most ≤ most') : ∀ f f' a a', a ≤ a' → n < a + f → n < a' + f' → (zonesF (regV l n) most' n f' a').length ≤ (zonesF (regV l n) most n f a).length
  | 0, f', a, a', h1, h2, h3 => by
    rw [zonesF_end (by omega)]
    simp
  | f + 1, f', a, a', h1, h2, h3 => by
    by_cases ha : a' < n
    · match f', h3 with
      | 0, h3 => omega
      | f' + 1, h3 =>
        have hr := reach_is hl hm (show a < n by omega)
        have hr' := reach_is hl (Int.le_trans hm hmm) ha
        obtain ⟨w, hw, hg, e⟩ := zonesF_go (f := f) hr
        obtain ⟨w', hw', hg', e'⟩ := zonesF_go (f := f') hr'
        have h4 := hr.lt
        have h5 := hr.le
        have h6 := hr'.lt
        rw [e, e', List.length_cons, List.length_cons]
        refine Nat.succ_le_succ (zones_mono hl hm hmm f f' _ _ ?_ (by omega) (by omega))
        rcases Nat.lt_or_ge a' (reachF (regV l n) most a) with h7 | h7
        · have := hr'.max w (reachF (regV l n) most a - 1) hw (by omega) (by omega) (fun t h8 h9 => Int.le_trans (hg t (by omega) (by omega)) hmm)
          omega
        · omega
    · rw [zonesF_end (show n ≤ a' by omega)]
      simp
/-- The first number for which something is found. -/
def tryF {α : Type} (g : Nat → Option α) : Nat → Nat → Option α
  | 0, _ => none
  | f + 1, w => match g w with
    | some x => some x
    | none => tryF g f (w + 1)
theorem try_some {α : Type} {g : Nat → Option α} {x : α} : ∀ f w, tryF g f w = some x → ∃ i, w ≤ i ∧ i < w + f ∧ g i = some x ∧ ∀ j, w ≤ j → j < i → g j = none
  | f + 1, w, h => by
    unfold tryF at h
    split at h
    · rename_i y hy
      exact ⟨w, by omega, by omega, hy.trans h, fun j _ _ => by omega⟩
    · rename_i hy
      obtain ⟨i, h1, h2, h3, h4⟩ := try_some f (w + 1) h
      refine ⟨i, by omega, by omega, h3, fun j h5 h6 => ?_⟩
      by_cases e : j = w
      · rw [e]; exact hy
      · exact h4 j (by omega) h6
theorem try_ne {α : Type} {g : Nat → Option α} : ∀ f w i, w ≤ i → i < w + f → g i ≠ none → tryF g f w ≠ none
  | 0, w, i, h1, h2, _ => by omega
  | f + 1, w, i, h1, h2, h3 => by
    unfold tryF
    split
    · simp
    · rename_i hy
      refine try_ne f (w + 1) i ?_ (by omega) h3
      by_cases e : i = w
      · rw [e] at h3; exact absurd hy h3
      · omega
def fstB (ch : List Nat) : Nat := match ch.getLast? with | none => 0 | some x => x + 1
/-- The first list of so many waxes more that is good enough. -/
def chooseF (cov : List Nat → Bool) (m : Nat) : Nat → List Nat → Option (List Nat)
  | 0, ch => if cov ch then some ch else none
  | k + 1, ch => tryF (fun w => chooseF cov m k (ch ++ [w])) (m - fstB ch) (fstB ch)
def bagF (cov : List Nat → Bool) (m : Nat) : Option (List Nat) := tryF (fun n => chooseF cov m (n + 1) []) m 0
theorem fst_snoc (ch : List Nat) (w : Nat) : fstB (ch ++ [w]) = w + 1 := by simp [fstB]
def Inc (m : Nat) (ch : List Nat) : Prop := ch.Pairwise (· < ·) ∧ ∀ x ∈ ch, x < m
theorem Inc.snoc {m : Nat} {ch : List Nat} {w : Nat} (h : Inc m ch) (hw : fstB ch ≤ w) (hm : w < m) : Inc m (ch ++ [w]) := by
  refine ⟨List.pairwise_append.2 ⟨h.1, List.pairwise_singleton _ _, fun x hx y hy => ?_⟩, fun x hx => ?_⟩
  · rw [List.mem_singleton.1 hy]
    rcases List.eq_nil_or_concat ch with rfl | ⟨c, z, rfl⟩
    · cases hx
    · rw [List.concat_eq_append] at hx hw h
      rw [fst_snoc] at hw
      rcases List.mem_append.1 hx with h1 | h1
      · have := (List.pairwise_append.1 h.1).2.2 x h1 z (by simp)
        omega
      · rw [List.mem_singleton.1 h1]; omega
  · rcases List.mem_append.1 hx with h1 | h1
    · exact h.2 x h1
    · rw [List.mem_singleton.1 h1]; exact hm
theorem choose_sound {cov : List Nat → Bool} {m : Nat} : ∀ k ch out, Inc m ch → chooseF cov m k ch = some out → cov out = true ∧ out.length = ch.length + k ∧ Inc m out
  | 0, ch, out, hi, h => by
    unfold chooseF at h
    split at h
    · rename_i hc
      cases h
      exact ⟨hc, rfl, hi⟩
    · cases h
  | k + 1, ch, out, hi, h => by
    unfold chooseF at h
    obtain ⟨w, h1, h2, h3, _⟩ := try_some _ _ h
    obtain ⟨h4, h5, h6⟩ := choose_sound k _ out (hi.snoc h1 (by omega)) h3
    rw [List.length_append, List.length_singleton] at h5
    exact ⟨h4, by omega, h6⟩
theorem choose_all {cov : List Nat → Bool} {m : Nat} : ∀ k ch rest, rest.length = k → Inc m (ch ++ rest) → cov (ch ++ rest) = true → chooseF cov m k ch ≠ none
  | 0, ch, rest, hk, hi, hc => by
    rw [List.length_eq_zero_iff.1 hk, List.append_nil] at hc
    unfold chooseF
    rw [if_pos hc]
    simp
  | k + 1, ch, [], hk, hi, hc => by simp at hk
  | k + 1, ch, w :: rest, hk, hi, hc => by
    unfold chooseF
    have hw : fstB ch ≤ w := by
      rcases List.eq_nil_or_concat ch with rfl | ⟨c, z, rfl⟩
      · exact Nat.zero_le _
      · rw [List.concat_eq_append] at hi ⊢
        rw [fst_snoc]
        have := (List.pairwise_append.1 hi.1).2.2 z (by simp) w (by simp)
        omega
    have hm := hi.2 w (by simp)
    refine try_ne _ _ w hw (by omega) (choose_all k (ch ++ [w]) rest (by simpa using hk) (by simpa using hi) (by simpa using hc))
theorem bag_sound {cov : List Nat → Bool} {m : Nat} {out : List Nat} (h : bagF cov m = some out) : cov out = true ∧ 1 ≤ out.length ∧ Inc m out ∧ ∀ o, Inc m o → cov o = true → o ≠ [] → out.length ≤ o.length := by
  obtain ⟨n, h1, h2, h3, h4⟩ := try_some _ _ h
  obtain ⟨h5, h6, h7⟩ := choose_sound _ _ _ ⟨List.Pairwise.nil, fun x hx => by cases hx⟩ h3
  rw [List.length_nil] at h6
  refine ⟨h5, by omega, h7, fun o ho hc hne => ?_⟩
  rcases Nat.lt_or_ge o.length out.length with h8 | h8
  · have h9 : 0 < o.length := List.length_pos_iff.2 hne
    exact absurd (h4 (o.length - 1) (by omega) (by omega)) (choose_all _ [] o (by omega) (by simpa using ho) (by simpa using hc))
  · exact h8
theorem inc_len {m : Nat} : ∀ {o : List Nat}, Inc m o → o.length ≤ m := by
  induction m with
  | zero =>
    intro o h
    cases o with
    | nil => simp
    | cons x o => have := h.2 x (by simp); omega
  | succ m ih =>
    intro o h
    rcases List.eq_nil_or_concat o with rfl | ⟨c, z, rfl⟩
    · simp
    · rw [List.concat_eq_append] at h ⊢
      have hz := h.2 z (by simp)
      have := ih (o := c) ⟨(List.pairwise_append.1 h.1).1, fun x hx => by
        have := (List.pairwise_append.1 h.1).2.2 x hx z (by simp)
        omega⟩
      simp
      omega
theorem bag_some {cov : List Nat → Bool} {m : Nat} {o : List Nat} (ho : Inc m o) (hc : cov o = true) (hne : o ≠ []) : ∃ out, bagF cov m = some out := by
  have h9 : 0 < o.length := List.length_pos_iff.2 hne
  have h := try_ne (g := fun n => chooseF cov m (n + 1) []) m 0 (o.length - 1) (by omega) (by have := inc_len ho; omega) (choose_all _ [] o (by omega) (by simpa using ho) (by simpa using hc))
  cases e : bagF cov m with
  | some out => exact ⟨out, rfl⟩
  | none => exact absurd e h
/-- Some waxes have a good one for each snow. -/
def covB (rs : List (List Int)) (most : Int) (n : Nat) (ch : List Nat) : Bool := (List.range n).all fun s => ch.any fun w => decide ((rs.getD w []).getD s 0 ≤ most)
theorem cov_iff {rs : List (List Int)} {most : Int} {n : Nat} {ch : List Nat} : covB rs most n ch = true ↔ ∀ s, s < n → ∃ w ∈ ch, (rs.getD w []).getD s 0 ≤ most := by
  unfold covB
  rw [List.all_eq_true]
  constructor
  · intro h s hs
    obtain ⟨w, hw, h1⟩ := List.any_eq_true.1 (h s (List.mem_range.2 hs))
    exact ⟨w, hw, by simpa using h1⟩
  · intro h s hs
    obtain ⟨w, hw, h1⟩ := h s (List.mem_range.1 hs)
    exact List.any_eq_true.2 ⟨w, hw, by simpa using h1⟩
theorem cov_mono {rs : List (List Int)} {a b : Int} {n : Nat} {ch : List Nat} (hab : a ≤ b) (h : covB rs a n ch = true) : covB rs b n ch = true :=
  cov_iff.2 fun s hs => let ⟨w, hw, h1⟩ := cov_iff.1 h s hs; ⟨w, hw, Int.le_trans h1 hab⟩
theorem filter_or {α : Type} (p q : α → Bool) : ∀ l : List α, (l.filter fun x => p x || q x).length ≤ (l.filter p).length + (l.filter q).length
  | [] => by simp
  | x :: l => by
    have ih := filter_or p q l
    simp only [List.filter_cons]
    cases p x <;> cases q x <;> simp <;> omega
theorem filter_one (c m : Nat) : ((List.range m).filter fun w => decide (w = c)).length ≤ 1 := by
  induction m with
  | zero => simp
  | succ m ih =>
    rw [List.range_succ, List.filter_append, List.length_append]
    by_cases e : m = c
    · subst e
      have : ((List.range m).filter fun w => decide (w = m)) = [] := List.filter_eq_nil_iff.2 fun w hw => by have := List.mem_range.1 hw; simp; omega
      rw [this]
      simp
    · have : ([m].filter fun w => decide (w = c)) = [] := by simp [e]
      rw [this, List.length_nil]
      omega
theorem filter_in (m : Nat) : ∀ L : List Nat, ((List.range m).filter fun w => L.contains w).length ≤ L.length
  | [] => by simp
  | c :: L => by
    have h1 := filter_or (fun w => decide (w = c)) (fun w => L.contains w) (List.range m)
    have h2 := filter_one c m
    have h3 := filter_in m L
    have e : (fun w => (c :: L).contains w) = fun w => decide (w = c) || L.contains w := by
      funext w
      simp only [List.contains_cons]
      congr 1
    rw [e, List.length_cons]
    omega
theorem filter_inc (m : Nat) (p : Nat → Bool) : Inc m ((List.range m).filter p) := ⟨List.Pairwise.filter _ List.pairwise_lt_range, fun _ hx => List.mem_range.1 (List.mem_filter.1 hx).1⟩
/-- The bag: it has a good wax for each snow, no smaller one has, and no more waxes than there are zones. -/
theorem bag_says {l : List (List Int)} {n : Nat} {most : Int} (hl : TabOk l n) (hm : 0 ≤ most) : ∃ out, bagF (covB (regV l n) most n) l.length = some out ∧ covB (regV l n) most n out = true ∧ 1 ≤ out.length ∧ Inc l.length out ∧ out.length ≤ (zonesF (regV l n) most n (n + 1) 0).length ∧ ∀ o, Inc l.length o → covB (regV l n) most n o = true → out.length ≤ o.length := by
  have hn := hl.n1
  have hz := zones_cover hl hm (n + 1) 0 (by omega) (by omega)
  obtain ⟨Z, hZ⟩ : ∃ Z, zonesF (regV l n) most n (n + 1) 0 = Z := ⟨_, rfl⟩
  rw [hZ] at hz ⊢
  have hcov : covB (regV l n) most n ((List.range l.length).filter fun w => (Z.map fun z => z.2.2.toNat).contains w) = true := cov_iff.2 fun s hs => by
    obtain ⟨z, h1, h2, h3, h4⟩ := hz s (by omega) hs
    refine ⟨z.2.2.toNat, List.mem_filter.2 ⟨List.mem_range.2 (by omega), ?_⟩, h4⟩
    rw [List.contains_iff_mem]
    exact List.mem_map.2 ⟨z, h1, rfl⟩
  have hne : ∀ o, covB (regV l n) most n o = true → o ≠ [] := fun o h e => by
    obtain ⟨w, hw, _⟩ := cov_iff.1 h 0 (by omega)
    rw [e] at hw
    cases hw
  obtain ⟨out, ho⟩ := bag_some (filter_inc _ _) hcov (hne _ hcov)
  obtain ⟨h1, h2, h3, h4⟩ := bag_sound ho
  refine ⟨out, ho, h1, h2, h3, ?_, fun o h5 h6 => h4 o h5 h6 (hne o h6)⟩
  have h5 := h4 _ (filter_inc _ _) hcov (hne _ hcov)
  have h6 := filter_in l.length (Z.map fun z => z.2.2.toNat)
  rw [List.length_map] at h6
  omega
end Go.Proofs.Ytcmpdmobmbbplaa

/- Walks: breaks; slices.Clone; waxes that are good on a snow. -/
namespace Go.Proofs.Ytcmpdmobmbbplaa
open Go Go.Eng

theorem sclone_ca (w : World) (lo hi : Nat) (v : Value) (l : List Int) (hl : RdI w lo hi v l) (hlen : l.length < 1000000) : Ca Try.prog 105 [v] w fun v w' => ∃ x : Value, v = x ∧ Sat w M0 [.ow x 3 1 l.length (ints l)] w' := by
  obtain ⟨a, c, rfl, hs⟩ := RdI.outI hl
  refine q_of (Sat.nil w M0) Try.func105 rfl (by simp [Try.ntmps105]) ?_
  (refine q_seq (q_region (ql_pure tabOk rfl rfl (q_nil (q_seq (q_seq (q_region (ql_pure tabOk rfl rfl ?_))))))))
  refine ql_eqnil tabOk rfl rfl rfl rfl ?_
  cases a with
  | none =>
    have h0 : l = [] := by
      cases l with
      | nil => rfl
      | cons x l =>
        obtain ⟨b, off, hb⟩ := hs (by simp)
        cases hb
    subst h0
    (refine q_nil (q_cond_true rfl (q_seq (q_region (ql_pure tabOk rfl rfl (q_nil (q_ret ?_)))))))
    refine q_fin tabOk rfl (by repeat constructor) fun w hs => ?_
    exact ⟨_, rfl, by simpa [ints, retV] using Sat.ownil hs 3 1⟩
  | some ad =>
    (refine q_nil (q_cond_false rfl (q_skip (q_seq (q_region ?_)))))
    refine ql_mkS0 3 (by kernel_rfl) (by kernel_rfl) rfl (fun x => ?_)
    (refine ql_pure tabOk rfl rfl ?_)
    refine ql_append (q := l.length) slI rfl rfl rfl (fun v' => by repeat constructor) (fun w' hs => ⟨lo, hi, RdI.row (RdE.keep hl hs.chg0)⟩) (by simp [oneV]) (by omega) (by omega) (fun v' => ?_)
    (refine ql_pure tabOk rfl rfl (q_nil (q_ret ?_)))
    refine q_fin tabOk rfl (by repeat constructor) fun w hs => ?_
    exact ⟨v', rfl, by simpa using hs⟩

theorem znC_get : ∀ (Z : List (Int × Int × Int)) (i q : Nat) (hi : i < Z.length), q < 3 → (znC Z)[i * 3 + q]? = [Value.int .i64 Z[i].1, .int .i64 Z[i].2.1, .int .i64 Z[i].2.2][q]?
  | z :: Z, 0, q, _, hq => by
    obtain rfl | rfl | rfl : q = 0 ∨ q = 1 ∨ q = 2 := by omega
    all_goals rfl
  | z :: Z, i + 1, q, hi, hq => by
    have := znC_get Z i q (by simpa using hi) hq
    simp only [List.getElem_cons_succ, znC, List.flatMap_cons] at this ⊢
    rw [show (i + 1) * 3 + q = i * 3 + q + 1 + 1 + 1 from by omega]
    exact this
theorem zn_at {w0 w : World} {Mp : Nat → Prop} {H : List Ck} {t m g c : Nat} {Z : List (Int × Int × Int)} (hs : Sat w0 Mp H w) (hm : .ow (.slice (some ⟨g, 0, none⟩) m c) t 3 m (znC Z) ∈ H) {i : Nat} (hi : i < Z.length) : ∀ q, q < 3 → w.cell? ⟨g, 0 + i * 3 + q, none⟩ = [Value.int .i64 Z[i].1, .int .i64 Z[i].2.1, .int .i64 Z[i].2.2][q]? := fun q hq => by
  have h1 := znC_get Z i q hi hq
  obtain ⟨x, hx⟩ : ∃ x, (znC Z)[i * 3 + q]? = some x := by
    obtain rfl | rfl | rfl : q = 0 ∨ q = 1 ∨ q = 2 := by omega
    all_goals exact ⟨_, h1⟩
  rw [← h1, hx, Nat.zero_add]
  exact own_cellS (hs.mem hm) (i * 3 + q) hx
theorem breaks_ok (w : World) (lo hi : Nat) (v : Value) (l : List (List Int)) (most : Int) (h : RdII w lo hi v l) (he : limitV l most = 0) : Ca Try.prog 52 [v, .int .i64 most] w fun x w' => ∃ u : Value, x = .tuple #[u, .int .i64 0] ∧ Sat w M0 [.ow u 3 1 (zonesV l most).1.length (ints ((zonesV l most).1.map (·.1)))] w' := by
  refine q_of (Sat.nil w M0) Try.func52 rfl (by simp [Try.ntmps52]) ?_
  (refine q_seq (q_region (ql_pure tabOk rfl rfl (ql_pure tabOk rfl rfl (q_nil (q_seq (q_region (ql_pure tabOk rfl rfl (ql_pure tabOk rfl rfl ?_)))))))))
  refine ql_call (β := Value) tabOk [] _ M0 rfl rfl rfl rfl (Sp.refl _) (fun _ h => h.elim) (fun w' hs => zones_ok w' lo hi _ l most (RdII.keep h hs.chg0) he) ?_
  rintro v6 _ rfl
  dsimp only [List.cons_append, List.nil_append]
  have hZl : (zonesV l most).1.length ≤ 1000000 := by
    unfold zonesV
    rw [if_neg (by simpa using he)]
    have hl := (limit_iff.1 he).1
    have h1 := hl.n2
    have h2 := zonesF_len (rs := regV l (nV l)) (most := most) (n := nV l) (nV l + 1) 0
    simp only
    omega
  generalize (zonesV l most).1 = Z at hZl ⊢
  refine ql_fact (fun w hs => hs.slice2 (v := v6) (by repeat constructor)) ?_
  rintro ⟨a6, c6, rfl⟩
  (refine ql_pure tabOk rfl rfl (ql_ext tabOk rfl rfl rfl (ql_ext tabOk rfl rfl rfl (ql_pure tabOk rfl rfl (ql_pure tabOk rfl rfl (q_nil (q_seq (q_seq (q_region (ql_pure tabOk rfl rfl (ql_neqF tabOk rfl rfl rfl (by omega) (q_nil ?_))))))))))); refine q_cond_false rfl (q_skip (q_seq (q_region (ql_pure tabOk rfl rfl (q_nil (q_seq (q_seq (q_region ?_)))))))); (iterate 3 refine ql_pure tabOk rfl rfl ?_); refine q_nil (q_block ?_))
  refine q_conv (H' := [.ow (.slice none 0 0) 3 1 0 (ints ((Z.take 0).map (·.1))), .ow (.slice a6 Z.length c6) 96 3 Z.length (znC Z)]) (fun w' hs => (Sat.ownil hs 3 1).sp (by repeat constructor)) ?_
  refine q_loop (σ := Nat × Value) (fun y => y.1 ≤ Z.length) (fun y => Z.length - y.1) (fun y => [(8, y.2), (20, .slice a6 Z.length c6), (21, .int .i64 Z.length), (22, .int .i64 y.1)])
    (fun y => [.ow y.2 3 1 y.1 (ints ((Z.take y.1).map (·.1))), .ow (.slice a6 Z.length c6) 96 3 Z.length (znC Z)]) (0, .slice none 0 0) (by simp only; omega) ⟨rfl, rfl, rfl, rfl, trivial⟩ (by repeat constructor) ?_
  rintro ⟨k, u⟩ hk K hK
  dsimp only at hk ⊢
  (refine q_seq (q_region (ql_pure tabOk rfl rfl (q_nil (q_seq ?_)))))
  refine q_if rfl (fun hc => ?_) (fun hc => ?_)
  · have hk2 : k < Z.length := by omega
    clear hc
    refine q_fact (fun w hs => hs.ownSome (v := .slice a6 Z.length c6) (by repeat constructor) (by omega)) ?_
    rintro ⟨g6, c6', e6⟩
    cases e6
    (refine q_skip (q_seq (q_block (q_seq (q_region ?_)))))
    refine ql_index tabOk rfl rfl rfl rfl rfl (by omega) (by omega) ?_
    refine ql_loadA (cs := [.int .i64 Z[k].1, .int .i64 Z[k].2.1, .int .i64 Z[k].2.2]) tabOk rfl rfl rfl rfl (fun w hs q hq => zn_at hs (by repeat constructor) hk2 q hq) ?_
    skip
    refine ql_alloc zero96 rfl (fun b10 => ?_)
    (refine ql_setA tabOk rfl rfl rfl rfl rfl (by repeat constructor) rfl ?_; refine q_nil (q_region (ql_pure tabOk rfl rfl (ql_pure tabOk rfl rfl ?_))); refine ql_loadBa tabOk rfl rfl rfl ?_)
    refine ql_mkS 3 [.int .i64 Z[k].1] rfl (by kernel_rfl) rfl (fun bn => ?_)
    skip
    refine ql_append (q := 1) (news := [.int .i64 Z[k].1]) slI rfl rfl rfl (fun v' => by repeat constructor) (fun w' hs => ⟨_, _, Blk.rdN (hs.blk (b := bn) (by repeat constructor)) rfl⟩) (by simp [oneV]) (by omega) (by omega) (fun u' => ?_)
    (refine ql_pure tabOk rfl rfl (q_nil (q_blk (q_region (ql_ar tabOk rfl rfl rfl rfl (by omega) (by omega) (ql_pure tabOk rfl rfl (q_nil ?_)))))))
    have e : ints ((Z.take (k + 1)).map (·.1)) = ints ((Z.take k).map (·.1)) ++ [.int .i64 Z[k].1] := by
      rw [List.take_succ_eq_append_getElem hk2, List.map_append]
      simp [ints]
    exact hK (k + 1, u') _ _ (by simp only; omega) (by simp only; omega) ⟨rfl, rfl, rfl, rfl, trivial⟩ (by dsimp only; rw [e]; repeat constructor)
  · obtain rfl : k = Z.length := by omega
    (refine q_exit _ rfl (q_seq (q_region ?_)); (iterate 3 refine ql_pure tabOk rfl rfl ?_); refine q_nil (q_ret ?_))
    refine q_fin tabOk rfl (by repeat constructor) fun w hs => ?_
    refine ⟨u, rfl, ?_⟩
    have h1 := hs.sp (H' := [.ow u 3 1 Z.length (ints ((Z.take Z.length).map (·.1)))]) (by repeat constructor)
    rw [List.take_length] at h1
    exact h1
/-- Chosen waxes as numbers. -/
def chI (ch : List Nat) : List Int := ch.map fun (x : Nat) => (x : Int)
theorem chI_len (ch : List Nat) : (chI ch).length = ch.length := by simp [chI]
def pGd (R : List (List Int)) (most : Int) (s : Nat) : Value → Bool
  | .int _ i => decide ((R.getD i.toNat []).getD s 0 ≤ most)
  | _ => false
theorem pGd_any (R : List (List Int)) (most : Int) (s : Nat) (ch : List Nat) : (ints (chI ch)).any (pGd R most s) = ch.any fun x => decide ((R.getD x []).getD s 0 ≤ most) := by
  induction ch with
  | nil => rfl
  | cons x ch ih =>
    show (pGd R most s (.int .i64 x) || (ints (chI ch)).any (pGd R most s)) = _
    rw [ih]
    rfl
theorem bag2_p (w : World) (lo hi b6 b8 t6 t8 s n : Nat) (a : Option Addr) (c : Nat) (most : Int) (R : List (List Int)) (ch : List Nat) (h6 : Blk w b6 [.slice a R.length c] t6) (h8 : Blk w b8 [.int .i64 s] t8) (hR : RdW w lo hi (.slice a R.length c) most R) (hch : ∀ x ∈ ch, x < R.length) (hn : ∀ row ∈ R, row.length = n) (hs : s < n) (hRl : R.length ≤ 1000000) :
    PredAt Try.prog tab w (.func (.func 103) #[] #[.pointer (some ⟨b6, 0, none⟩), .pointer (some ⟨b8, 0, none⟩)]) (ints (chI ch)) (pGd R most s) := by
  refine ⟨_, _, _, rfl, rfl, fun w' hw' x hx => ?_⟩
  have h6' := h6.keep hw'
  have h8' := h8.keep hw'
  have hR' := hR.keep hw'
  obtain ⟨i, hii, rfl⟩ := List.mem_map.1 hx
  obtain ⟨y, hy, rfl⟩ := List.mem_map.1 hii
  have hy2 := hch y hy
  obtain ⟨_, _, e0, ha⟩ := RdW.outI hR
  cases e0
  obtain ⟨ab, ao, rfl⟩ := ha (by omega)
  obtain ⟨ra, rc, hr1, hr2, hr3⟩ := RdW.row hR' y hy2
  have hrn := hn _ (List.getElem_mem hy2)
  refine q_of (Sat.nil w' M0) Try.func103 rfl (by simp [Try.ntmps103]) ?_
  (refine q_seq (q_region (ql_pure tabOk rfl rfl (q_nil (q_seq ?_)))))
  refine q_draw _ [] (Sp.refl _) (by kernel_rfl) (by kernel_rfl) ?_
  (refine qf_loadP tabOk rfl rfl rfl (by assumption) (by rfl) ?_; refine qf_pure tabOk rfl rfl rfl ?_)
  refine qf_index tabOk rfl rfl rfl rfl rfl (by omega) (by omega) ?_
  refine qf_loadA tabOk rfl rfl rfl rfl (fun w hs q hq => hr3 _ hs.chg0 q hq) ?_
  (refine qf_loadP tabOk rfl rfl rfl (by assumption) (by rfl) ?_)
  refine qf_callv (val := .bool (decide (R[y][s]'(by omega) ≤ most))) tabOk rfl rfl rfl rfl (fun w hs => ?_) ?_; exact good_ca w lo hi _ most R[y] s (RdE.keep hr1 hs.chg0) (by omega)
  (refine qf_pure tabOk rfl rfl rfl (qf_nil (q_ret ?_)))
  refine q_fin tabOk rfl (by repeat constructor) fun w hs => ?_
  refine ⟨?_, hs.chg0⟩
  show Value.bool _ = Value.bool (decide ((R.getD y []).getD s 0 ≤ most))
  congr 1
  rw [List.getD_eq_getElem?_getD (l := R), List.getElem?_eq_getElem hy2, Option.getD_some, getD_get (by omega)]
end Go.Proofs.Ytcmpdmobmbbplaa

/- Walks: the bag. -/
namespace Go.Proofs.Ytcmpdmobmbbplaa
open Go Go.Eng

abbrev bagV (b2 b6 b8 : Nat) : Value := .func (.func 102) #[] #[.pointer (some ⟨b2, 0, none⟩), .pointer (some ⟨b6, 0, none⟩), .pointer (some ⟨b8, 0, none⟩)]
/-- The variables of the search for a bag. -/
structure BagE (w : World) (b2 b6 b8 : Nat) (l R : List (List Int)) (most : Int) : Prop where
  h2 : ∃ t a c lo hi, Blk w b2 [.slice a l.length c] t ∧ RdII w lo hi (.slice a l.length c) l
  h6 : ∃ t a c lo hi, Blk w b6 [.slice a R.length c] t ∧ RdW w lo hi (.slice a R.length c) most R
  h8 : ∃ t, Blk w b8 [bagV b2 b6 b8] t
theorem BagE.keep {w w' : World} {b2 b6 b8 : Nat} {l R : List (List Int)} {most : Int} (h : BagE w b2 b6 b8 l R most) (c : Chg [] w w') : BagE w' b2 b6 b8 l R most := by
  obtain ⟨t, a, c2, lo, hi, h1, h2⟩ := h.h2
  obtain ⟨t', a', c2', lo', hi', h1', h2'⟩ := h.h6
  obtain ⟨t8, h8⟩ := h.h8
  exact ⟨⟨t, a, c2, lo, hi, h1.keep c, RdII.keep h2 c⟩, ⟨t', a', c2', lo', hi', h1'.keep c, h2'.keep c⟩, ⟨t8, h8.keep c⟩⟩
theorem chI_snoc (ch : List Nat) (x : Nat) : ints (chI ch ++ [(x : Int)]) = ints (chI ch) ++ [.int .i64 (x : Int)] := by simp [ints]
theorem chI_app (ch : List Nat) (x : Nat) : chI (ch ++ [x]) = chI ch ++ [(x : Int)] := by simp [chI]
def tK31_cfbf5ab : OT := .alt (chainT [1, 2, 3, 4, 5, 0, 6, 7, 8, 9] (.nil)) (chainT [3, 4, 1, 2, 5, 0, 6, 7, 8, 9] (.nil))
set_option maxHeartbeats 2000000 in
theorem bagc_ca (b2 b6 b8 : Nat) (l : List (List Int)) (n : Nat) (most : Int) (hl : TabOk l n) : ∀ (k : Nat) (ch : List Nat), Inc l.length ch → 1 ≤ ch.length + k → k ≤ 12 → ∀ (w : World) (lo hi : Nat) (v : Value), BagE w b2 b6 b8 l (regV l n) most → RdI w lo hi v (chI ch) →
    Ca Try.prog 102 [v, .int .i64 k, .pointer (some ⟨b2, 0, none⟩), .pointer (some ⟨b6, 0, none⟩), .pointer (some ⟨b8, 0, none⟩)] w fun r w' => ∃ u : Value, (r = u ∧ (chooseF (covB (regV l n) most n) l.length k ch = none → u = .slice none 0 0)) ∧ Sat w M0 [.ow u 3 1 ((chooseF (covB (regV l n) most n) l.length k ch).getD []).length (ints (chI ((chooseF (covB (regV l n) most n) l.length k ch).getD [])))] w' := by
  intro k
  have hl1 := hl.l1
  have hl2 := hl.l2
  have hn1 := hl.n1
  have hn2 := hl.n2
  have hRl := regV_len l n
  have hRn : ∀ row ∈ regV l n, row.length = n := fun row hr => by obtain ⟨i, hi, rfl⟩ := List.mem_iff_getElem.1 hr; exact reg_row _
  have hrow : ∀ i (hi : i < l.length), l[i].length = n := fun i hi => hl.len _ (List.getElem_mem _)
  induction k with
  | zero =>
    intro ch hI h1 hk w lo hi v hE hv
    obtain ⟨t2, a2, c2, lo2, hi2, hb2, hr2⟩ := hE.h2
    obtain ⟨t6, a6, c6, lo6, hi6, hb6, hr6⟩ := hE.h6
    obtain ⟨_, _, e0, ha2⟩ := RdII.outI hr2
    cases e0
    obtain ⟨ab, ao, rfl⟩ := ha2 (by omega)
    obtain ⟨a0, o0, c0, hr0, hc0⟩ := RdII.rowS hr2 0 (by omega) (hrow 0 (by omega)) (by omega)
    have hcl := inc_len hI
    refine q_of (Sat.nil w M0) Try.func102 rfl (by simp [Try.ntmps102]) ?_
    (refine q_seq (q_region (ql_pure tabOk rfl rfl (q_nil (q_seq (q_seq (q_region (ql_pure tabOk rfl rfl (ql_eqlT tabOk rfl rfl rfl (by omega) (q_nil (q_cond_true rfl (q_seq ?_))))))))))); refine q_seq (q_region ?_); refine ql_loadP tabOk rfl rfl rfl (by assumption) (by rfl) ?_)
    refine ql_index tabOk rfl rfl rfl rfl rfl (by omega) (by omega) ?_
    refine ql_load1 tabOk rfl rfl rfl (fun w hs => hc0 _ hs.chg0) ?_
    (refine ql_pure tabOk rfl rfl (ql_pure tabOk rfl rfl (q_nil (q_block ?_))))
    refine q_loop (σ := Nat) (fun s => s ≤ n ∧ ∀ t, t < s → ∃ x ∈ ch, ((regV l n).getD x []).getD t 0 ≤ most) (fun s => n - s) (fun s => [(0, v), (3, .pointer (some ⟨b6, 0, none⟩)), (17, .int .i64 n), (18, .int .i64 s)]) (fun _ => []) 0 ⟨by omega, fun t ht => by omega⟩ ⟨rfl, rfl, rfl, rfl, trivial⟩ (by repeat constructor) ?_
    rintro s ⟨hs1, hcv⟩ K hK
    (refine q_seq (q_region (ql_pure tabOk rfl rfl (q_nil (q_seq ?_)))))
    refine q_if rfl (fun hc => ?_) (fun hc => ?_)
    · have hs2 : s < n := by omega
      clear hc
      (refine q_skip (q_seq (q_block (q_seq (q_region (ql_pure tabOk rfl rfl ?_))))))
      refine ql_alloc zero3 rfl (fun b9 => ?_)
      (refine ql_set tabOk rfl rfl rfl rfl (by repeat constructor) ?_; refine q_nil (q_seq (q_region (ql_pure tabOk rfl rfl (ql_pure tabOk rfl rfl ?_)))))
      refine ql_callv (val := .bool (ch.any fun x => decide (((regV l n).getD x []).getD s 0 ≤ most))) tabOk rfl rfl rfl rfl (fun w hs => ?_) ?_; exact by have := conF_int w lo hi v _ (ints (chI ch)) _ (RdE.keep hv hs.chg0) (by intro i hi; simp [ints, oneV]) (by simp [ints, chI]; omega) (bag2_p w lo6 hi6 b6 b9 t6 _ s n a6 c6 most (regV l n) ch (hb6.keep hs.chg0) (hs.blk (b := b9) (by repeat constructor)) (hr6.keep hs.chg0) (fun x hx => by rw [hRl]; exact hI.2 x hx) hRn hs2 (by omega)); rw [pGd_any] at this; exact this
      cases hany : ch.any fun x => decide (((regV l n).getD x []).getD s 0 ≤ most) with
      | true =>
        obtain ⟨x, hx, hx2⟩ := List.any_eq_true.1 hany
        (refine ql_pure tabOk rfl rfl (q_nil (q_cond_false rfl (q_skip (q_blk (q_region (ql_ar tabOk rfl rfl rfl rfl (by omega) (by omega) (ql_pure tabOk rfl rfl (q_nil ?_)))))))))
        exact hK (s + 1) _ _ ⟨by omega, fun t ht => by
          by_cases e : t = s
          · subst e; exact ⟨x, hx, of_decide_eq_true hx2⟩
          · exact hcv t (by omega)⟩ (by omega) ⟨rfl, rfl, rfl, rfl, trivial⟩ (by repeat constructor)
      | false =>
        have hcf : covB (regV l n) most n ch = false := Bool.eq_false_iff.2 fun h => by
          obtain ⟨x, hx, hx2⟩ := cov_iff.1 h s hs2
          have := List.any_eq_false.1 hany x hx
          exact this (decide_eq_true hx2)
        have hch : chooseF (covB (regV l n) most n) l.length 0 ch = none := by rw [chooseF, if_neg (by rw [hcf]; simp)]
        rw [hch]
        (refine ql_pure tabOk rfl rfl (q_nil (q_cond_true rfl (q_seq (q_region (ql_pure tabOk rfl rfl (q_nil (q_ret ?_))))))))
        refine q_fin tabOk rfl (by repeat constructor) fun w hs => ?_
        exact ⟨_, ⟨rfl, fun _ => rfl⟩, by have := Sat.ownil (hs.sp (H' := []) (by repeat constructor)) 3 1; simpa [ints, chI, retV] using this⟩
    · obtain rfl : s = n := by omega
      have hct : covB (regV l s) most s ch = true := cov_iff.2 hcv
      have hch : chooseF (covB (regV l s) most s) l.length 0 ch = some ch := by rw [chooseF, if_pos hct]
      rw [hch]
      (refine q_exit _ rfl (q_seq (q_region (ql_pure tabOk rfl rfl ?_))))
      refine ql_call (β := Value) tabOk [] _ M0 rfl rfl rfl rfl (Sp.refl _) (fun _ h => h.elim) (fun w' hs => sclone_ca w' lo hi v (chI ch) (RdE.keep hv hs.chg0) (by rw [chI_len]; omega)) ?_
      rintro u _ rfl
      dsimp only [List.cons_append, List.nil_append]
      rw [chI_len]
      (refine ql_pure tabOk rfl rfl (q_nil (q_ret ?_)))
      refine q_fin tabOk rfl (by repeat constructor) fun w hs => ?_
      exact ⟨_, ⟨rfl, fun h => by cases h⟩, hs.sp (by repeat constructor)⟩
  | succ k ih =>
    intro ch hI h1 hk w lo hi v hE hv
    obtain ⟨t2, a2, c2, lo2, hi2, hb2, hr2⟩ := hE.h2
    obtain ⟨t6, a6, c6, lo6, hi6, hb6, hr6⟩ := hE.h6
    obtain ⟨t8, hb8⟩ := hE.h8
    have hcl := inc_len hI
    obtain ⟨va, vc, rfl, hva⟩ := RdI.outI hv
    rw [chI_len] at hva hv ⊢
    have hfst : fstB ch ≤ l.length := by
      rcases List.eq_nil_or_concat ch with rfl | ⟨c, z, rfl⟩
      · exact Nat.zero_le _
      · rw [List.concat_eq_append] at hI ⊢
        rw [fst_snoc]
        have := hI.2 z (by simp)
        omega
    refine q_of (Sat.nil w M0) Try.func102 rfl (by simp [Try.ntmps102]) ?_
    (refine q_seq (q_region (ql_pure tabOk rfl rfl (q_nil (q_seq (q_seq (q_region (ql_pure tabOk rfl rfl (ql_eqlF tabOk rfl rfl rfl (by omega) (q_nil (q_cond_false rfl (q_skip ?_))))))))))); refine q_seq (q_region (ql_pure tabOk rfl rfl (q_nil (q_seq (q_seq (q_region ?_)))))); (iterate 3 refine ql_pure tabOk rfl rfl ?_); refine q_nil ?_)
    refine q_cut (σ := Unit) (fun _ => [(0, .slice va ch.length vc), (1, .int .i64 (k + 1 : Nat)), (3, .pointer (some ⟨b6, 0, none⟩)), (4, .pointer (some ⟨b8, 0, none⟩)), (9, .int .i64 (fstB ch))]) (fun _ => []) ?_ ?_
    rotate_left
    · intro K2 hK2
      refine q_if rfl (fun hc => ?_) (fun hc => ?_)
      · have hc0 : 0 < ch.length := by omega
        clear hc
        obtain ⟨ab, ao, rfl⟩ := hva hc0
        have hgt : chI ch = (chI ch) := rfl
        have hlast : (chI ch)[ch.length - 1]'(by rw [chI_len]; omega) = ((ch[ch.length - 1] : Nat) : Int) := by simp [chI]
        have hfl : fstB ch = ch[ch.length - 1] + 1 := by
          rcases List.eq_nil_or_concat ch with rfl | ⟨c, z, rfl⟩
          · simp at hc0
          · simp [fstB]
        have hzb := hI.2 _ (List.getElem_mem (show ch.length - 1 < ch.length by omega))
        (refine q_region ?_; (iterate 3 refine ql_pure tabOk rfl rfl ?_); refine ql_ar tabOk rfl rfl rfl rfl (by omega) (by omega) ?_)
        refine ql_index tabOk rfl rfl rfl rfl rfl (by omega) (by omega) ?_
        refine ql_load1 (v := .int .i64 (ch[ch.length - 1] : Nat)) tabOk rfl rfl rfl (fun w hs => by
          have := RdI.at (RdE.keep hv hs.chg0) (ch.length - 1) (by rw [chI_len]; omega)
          rw [hlast] at this
          rw [show ((ch.length : Int) - 1).toNat = ch.length - 1 from by omega]
          exact this) ?_
        (refine ql_ar tabOk rfl rfl rfl rfl (by omega) (by omega) (ql_pure tabOk rfl rfl (q_nil ?_)))
        exact hK2 () _ _ ⟨rfl, rfl, rfl, rfl, lookI rfl (by omega), trivial⟩ (by repeat constructor)
      · have hce : ch = [] := List.length_eq_zero_iff.1 (by omega)
        clear hc
        have hfl : fstB ch = 0 := by rw [hce]; rfl
        (refine q_skip ?_)
        exact hK2 () _ _ ⟨rfl, rfl, rfl, rfl, lookI rfl (by omega), trivial⟩ (by repeat constructor)
    intro _
    (refine q_seq (q_seq (q_region (ql_pure tabOk rfl rfl (ql_pure tabOk rfl rfl (q_nil (q_block ?_)))))))
    have hstep : ∀ x, x < l.length → tryF (fun y => chooseF (covB (regV l n) most n) l.length k (ch ++ [y])) (l.length - x) x = match chooseF (covB (regV l n) most n) l.length k (ch ++ [x]) with
        | some o => some o
        | none => tryF (fun y => chooseF (covB (regV l n) most n) l.length k (ch ++ [y])) (l.length - (x + 1)) (x + 1) := fun x hx => by
      rw [show l.length - x = (l.length - (x + 1)) + 1 from by omega, tryF]
      cases chooseF (covB (regV l n) most n) l.length k (ch ++ [x]) <;> rfl
    refine q_loop (σ := Nat) (fun x => fstB ch ≤ x ∧ x ≤ l.length ∧ chooseF (covB (regV l n) most n) l.length (k + 1) ch = tryF (fun y => chooseF (covB (regV l n) most n) l.length k (ch ++ [y])) (l.length - x) x) (fun x => l.length - x) (fun x => [(0, .slice va ch.length vc), (1, .int .i64 (k + 1 : Nat)), (3, .pointer (some ⟨b6, 0, none⟩)), (4, .pointer (some ⟨b8, 0, none⟩)), (10, .int .i64 x)]) (fun _ => []) (fstB ch) ⟨Nat.le_refl _, hfst, rfl⟩ ⟨rfl, rfl, rfl, rfl, rfl, trivial⟩ (by repeat constructor) ?_
    rintro x ⟨hx1, hx2, hx3⟩ K hK
    (refine q_seq (q_seq (q_region (ql_pure tabOk rfl rfl ?_))); refine ql_loadP tabOk rfl rfl rfl (by assumption) (by rfl) ?_; refine ql_pure tabOk rfl rfl (ql_pure tabOk rfl rfl (q_nil ?_)))
    refine q_if rfl (fun hc => ?_) (fun hc => ?_)
    · have hx4 : x < l.length := by omega
      clear hc
      rw [hstep x hx4] at hx3
      (refine q_skip (q_seq ?_))
      refine q_block (q_seq ?_)
      have hI2 : Inc l.length (ch ++ [x]) := hI.snoc hx1 hx4
      refine q_cut (σ := {u : Value // chooseF (covB (regV l n) most n) l.length k (ch ++ [x]) = none → u = .slice none 0 0}) (fun u => [(0, .slice va ch.length vc), (1, .int .i64 (k + 1 : Nat)), (3, .pointer (some ⟨b6, 0, none⟩)), (4, .pointer (some ⟨b8, 0, none⟩)), (10, .int .i64 x), (11, u.1)]) (fun u => [.ow u.1 3 1 ((chooseF (covB (regV l n) most n) l.length k (ch ++ [x])).getD []).length (ints (chI ((chooseF (covB (regV l n) most n) l.length k (ch ++ [x])).getD [])))]) ?_ ?_
      rotate_left
      · intro K2 hK2
        have ek : ((k + 1 : Nat) : Int) - 1 = (k : Int) := by omega
        refine q_drawT (tK31_cfbf5ab) _ [] (Sp.refl _) (by kernel_rfl) (by kernel_rfl) ?_
        refine qt_alt ?_ ?_
        · skip
          refine qt_seg (by repeat (first | exact PickL.nil | (apply PickL.cons; rfl))) fun K1 hK1 => ?_
          (refine qf_pure tabOk rfl rfl rfl ?_)
          refine qf_call (β := Value) tabOk [] _ M0 rfl rfl rfl rfl (Sp.refl _) (fun _ h => h.elim) (fun w' hs => sclone_ca w' lo hi _ (chI ch) (RdE.keep hv hs.chg0) (by rw [chI_len]; omega)) ?_
          rintro u2 _ rfl
          dsimp only [List.cons_append, List.nil_append]
          rw [chI_len]
          (refine qf_pure tabOk rfl rfl rfl ?_)
          refine qf_mkS 3 [.int .i64 x] rfl (by kernel_rfl) rfl (fun bn => ?_)
          skip
          refine qf_append (q := 1) (news := [.int .i64 x]) slI rfl rfl rfl (fun v' => by repeat constructor) (fun w' hs => ⟨_, _, Blk.rdN (hs.blk (b := bn) (by repeat constructor)) rfl⟩) (by simp [oneV]) (by omega) (by omega) (fun u5 => ?_)
          (refine qf_loadP tabOk rfl rfl rfl (by assumption) (by rfl) ?_; refine qf_pure tabOk rfl rfl rfl (qf_ar tabOk rfl rfl rfl rfl (by omega) (by omega) ?_))
          rw [ek]
          refine qf_callF (β := Value) (ψ := fun u v => v = u ∧ (chooseF (covB (regV l n) most n) l.length k (ch ++ [x]) = none → u = .slice none 0 0)) (L' := fun u => [.ow u 3 1 ((chooseF (covB (regV l n) most n) l.length k (ch ++ [x])).getD []).length (ints (chI ((chooseF (covB (regV l n) most n) l.length k (ch ++ [x])).getD [])))]) [] [.ow u5 3 1 (ch.length + 1) (ints (chI ch) ++ [.int .i64 x])] M0 rfl rfl rfl (by repeat constructor) (fun _ h => h.elim) (fun w' hs => CaF.of tabOk (by kernel_rfl) (ih (ch ++ [x]) hI2 (by rw [List.length_append, List.length_singleton]; omega) (by omega) w' 0 w'.heap.size u5 (hE.keep hs.chg0) (own_rdI (t := 3) (by rw [chI_app, chI_snoc]; exact hs.mem (c := .ow u5 3 1 (ch.length + 1) (ints (chI ch) ++ [.int .i64 x])) (by repeat constructor)) (by rw [chI_len]; simp)))) ?_
          rintro u8 _ ⟨rfl, hu8⟩
          (refine qf_pure tabOk rfl rfl rfl (qf_nil ?_))
          exact hK1 _ _ (qt_nil (hK2 ⟨_, hu8⟩ _ _ ⟨rfl, rfl, rfl, rfl, rfl, rfl, trivial⟩ (by repeat constructor)))
        · skip
          refine qt_seg (by repeat (first | exact PickL.nil | (apply PickL.cons; rfl))) fun K1 hK1 => ?_
          (refine qf_pure tabOk rfl rfl rfl ?_)
          refine qf_mkS 3 [.int .i64 x] rfl (by kernel_rfl) rfl (fun bn => ?_)
          (refine qf_pure tabOk rfl rfl rfl ?_)
          refine qf_call (β := Value) tabOk [] _ M0 rfl rfl rfl rfl (Sp.refl _) (fun _ h => h.elim) (fun w' hs => sclone_ca w' lo hi _ (chI ch) (RdE.keep hv hs.chg0) (by rw [chI_len]; omega)) ?_
          rintro u2 _ rfl
          dsimp only [List.cons_append, List.nil_append]
          rw [chI_len]
          skip
          refine qf_append (q := 1) (news := [.int .i64 x]) slI rfl rfl rfl (fun v' => by repeat constructor) (fun w' hs => ⟨_, _, Blk.rdN (hs.blk (b := bn) (by repeat constructor)) rfl⟩) (by simp [oneV]) (by omega) (by omega) (fun u5 => ?_)
          (refine qf_loadP tabOk rfl rfl rfl (by assumption) (by rfl) ?_; refine qf_pure tabOk rfl rfl rfl (qf_ar tabOk rfl rfl rfl rfl (by omega) (by omega) ?_))
          rw [ek]
          refine qf_callF (β := Value) (ψ := fun u v => v = u ∧ (chooseF (covB (regV l n) most n) l.length k (ch ++ [x]) = none → u = .slice none 0 0)) (L' := fun u => [.ow u 3 1 ((chooseF (covB (regV l n) most n) l.length k (ch ++ [x])).getD []).length (ints (chI ((chooseF (covB (regV l n) most n) l.length k (ch ++ [x])).getD [])))]) [] [.ow u5 3 1 (ch.length + 1) (ints (chI ch) ++ [.int .i64 x])] M0 rfl rfl rfl (by repeat constructor) (fun _ h => h.elim) (fun w' hs => CaF.of tabOk (by kernel_rfl) (ih (ch ++ [x]) hI2 (by rw [List.length_append, List.length_singleton]; omega) (by omega) w' 0 w'.heap.size u5 (hE.keep hs.chg0) (own_rdI (t := 3) (by rw [chI_app, chI_snoc]; exact hs.mem (c := .ow u5 3 1 (ch.length + 1) (ints (chI ch) ++ [.int .i64 x])) (by repeat constructor)) (by rw [chI_len]; simp)))) ?_
          rintro u8 _ ⟨rfl, hu8⟩
          (refine qf_pure tabOk rfl rfl rfl (qf_nil ?_))
          exact hK1 _ _ (qt_nil (hK2 ⟨_, hu8⟩ _ _ ⟨rfl, rfl, rfl, rfl, rfl, rfl, trivial⟩ (by repeat constructor)))
      rintro ⟨u, hu⟩
      dsimp only
      cases hcf : chooseF (covB (regV l n) most n) l.length k (ch ++ [x]) with
      | none =>
        rw [hcf] at hx3
        obtain rfl := hu hcf
        (refine q_seq (q_region (ql_pure tabOk rfl rfl ?_)))
        refine ql_neqnil tabOk rfl rfl rfl rfl ?_
        (refine q_nil (q_cond_false rfl (q_skip (q_blk (q_region (ql_pure tabOk rfl rfl (ql_ar tabOk rfl rfl rfl rfl (by omega) (by omega) (ql_pure tabOk rfl rfl (q_nil ?_)))))))))
        exact hK (x + 1) _ _ ⟨by omega, by omega, hx3⟩ (by omega) ⟨rfl, rfl, rfl, rfl, rfl, trivial⟩ (by repeat constructor)
      | some o =>
        rw [hcf] at hx3
        have hol := (choose_sound k _ o hI2 hcf).2.1
        rw [List.length_append, List.length_singleton] at hol
        refine q_fact (fun w hs => hs.ownSome (v := u) (by repeat constructor) (by simp only [Option.getD_some]; omega)) ?_
        rintro ⟨g, gc, rfl⟩
        (refine q_seq (q_region (ql_pure tabOk rfl rfl ?_)))
        refine ql_neqnil tabOk rfl rfl rfl rfl ?_
        rw [hx3]
        (refine q_nil (q_cond_true rfl (q_seq (q_region (ql_pure tabOk rfl rfl (ql_pure tabOk rfl rfl (q_nil (q_ret ?_))))))))
        refine q_fin tabOk rfl (by repeat constructor) fun w hs => ?_
        exact ⟨_, ⟨rfl, fun h => by cases h⟩, hs.sp (by repeat constructor)⟩
    · obtain rfl : x = l.length := by omega
      rw [Nat.sub_self] at hx3
      have hx5 : chooseF (covB (regV l n) most n) l.length (k + 1) ch = none := hx3
      rw [hx5]
      (refine q_exit _ rfl (q_seq (q_region (ql_pure tabOk rfl rfl (q_nil (q_ret ?_))))))
      refine q_fin tabOk rfl (by repeat constructor) fun w hs => ?_
      exact ⟨_, ⟨rfl, fun _ => rfl⟩, by have := Sat.ownil (hs.sp (H' := []) (by repeat constructor)) 3 1; simpa [ints, chI, retV] using this⟩
set_option maxHeartbeats 1000000 in
theorem bag_ok (w : World) (lo hi : Nat) (v : Value) (l : List (List Int)) (most : Int) (n : Nat) (h : RdII w lo hi v l) (hl : TabOk l n) (hm : 0 ≤ most) (hm2 : most ≤ 10000) (out : List Nat) (ho : bagF (covB (regV l n) most n) l.length = some out) : Ca Try.prog 46 [v, .int .i64 most] w fun x w' => ∃ u : Value, x = .tuple #[u, .int .i64 0] ∧ Sat w M0 [.ow u 3 1 out.length (ints (chI out))] w' := by
  have hnV : nV l = n := hl.v.2
  have he : limitV l most = 0 := limit_iff.2 ⟨by rw [hnV]; exact hl, hm, hm2⟩
  have hl1 := hl.l1
  have hl2 := hl.l2
  obtain ⟨va, c, rfl, ha⟩ := RdII.outI h
  refine q_of (Sat.nil w M0) Try.func46 rfl (by simp [Try.ntmps46]) ?_
  (refine q_seq (q_region ?_))
  refine ql_box rfl rfl (fun b2 => ?_)
  (refine ql_pure tabOk rfl rfl (ql_pure tabOk rfl rfl (q_nil (q_seq (q_region ?_)))); refine ql_loadBa tabOk rfl rfl rfl ?_; refine ql_pure tabOk rfl rfl ?_)
  refine ql_call (β := Value × List (Value × List Int)) tabOk [] _ M0 rfl rfl rfl rfl (Sp.refl _) (fun _ h => h.elim) (fun w' hs => limited_ok w' lo hi _ l most (RdII.keep h hs.chg0) he) ?_
  rintro ⟨v6, xs⟩ _ ⟨rfl, hxs⟩
  dsimp only [List.cons_append, List.nil_append] at hxs ⊢
  rw [hnV] at hxs
  refine ql_fact (fun w hs => hs.slice2 (v := v6) (by repeat constructor)) ?_
  rintro ⟨a6, c6, rfl⟩
  (refine ql_pure tabOk rfl rfl (ql_ext tabOk rfl rfl rfl (ql_ext tabOk rfl rfl rfl ?_)))
  refine ql_alloc zero154 rfl (fun b6 => ?_)
  (refine ql_set tabOk rfl rfl rfl rfl (by repeat constructor) ?_; refine ql_pure tabOk rfl rfl (q_nil (q_seq (q_seq (q_region (ql_pure tabOk rfl rfl (ql_neqF tabOk rfl rfl rfl (by omega) (q_nil (q_cond_false rfl (q_skip (q_seq (q_region ?_))))))))))))
  refine ql_alloc zero174 rfl (fun b8 => ?_)
  (refine q_nil (q_seq (q_region (ql_pure tabOk rfl rfl ?_))); refine ql_set tabOk rfl rfl rfl rfl (by repeat constructor) ?_; refine q_nil (q_seq (q_seq (q_region ?_))); refine ql_loadBa tabOk rfl rfl rfl ?_; refine ql_pure tabOk rfl rfl (ql_pure tabOk rfl rfl (q_nil (q_block ?_))))
  refine q_loop (σ := Nat) (fun i => i ≤ l.length ∧ bagF (covB (regV l n) most n) l.length = tryF (fun j => chooseF (covB (regV l n) most n) l.length (j + 1) []) (l.length - i) i) (fun i => l.length - i) (fun i => [(8, .pointer (some ⟨b8, 0, none⟩)), (22, .int .i64 l.length), (23, .int .i64 i)])
    (fun _ => [.pt b2 [.slice va l.length c] 49, .pt b6 [.slice a6 l.length c6] 154, .pt b8 [bagV b2 b6 b8] 174, un (rowsO 3 xs), .ow (.slice a6 l.length c6) 157 2 l.length (wxC most xs)]) 0 ⟨by omega, rfl⟩ ⟨rfl, rfl, rfl, trivial⟩ (by repeat constructor) ?_
  rintro i ⟨hi1, hi2⟩ K hK
  (refine q_seq (q_region (ql_pure tabOk rfl rfl (q_nil (q_seq ?_)))))
  refine q_if rfl (fun hc => ?_) (fun hc => ?_)
  · have hi3 : i < l.length := by omega
    clear hc
    have hstep : tryF (fun j => chooseF (covB (regV l n) most n) l.length (j + 1) []) (l.length - i) i = match chooseF (covB (regV l n) most n) l.length (i + 1) [] with
        | some o => some o
        | none => tryF (fun j => chooseF (covB (regV l n) most n) l.length (j + 1) []) (l.length - (i + 1)) (i + 1) := by
      rw [show l.length - i = (l.length - (i + 1)) + 1 from by omega, tryF]
      cases chooseF (covB (regV l n) most n) l.length (i + 1) [] <;> rfl
    rw [hstep] at hi2
    (refine q_skip (q_seq (q_block (q_seq (q_region (ql_pure tabOk rfl rfl (ql_pure tabOk rfl rfl (q_nil (q_seq (q_region ?_))))))))); refine ql_loadBa tabOk rfl rfl rfl ?_; refine ql_pure tabOk rfl rfl (ql_ar tabOk rfl rfl rfl rfl (by omega) (by omega) ?_))
    rw [show (i : Int) + 1 = ((i + 1 : Nat) : Int) from by omega]
    refine ql_callF (β := Value) (ψ := fun u v => v = u ∧ (chooseF (covB (regV l n) most n) l.length (i + 1) [] = none → u = .slice none 0 0)) (L' := fun u => [.ow u 3 1 ((chooseF (covB (regV l n) most n) l.length (i + 1) []).getD []).length (ints (chI ((chooseF (covB (regV l n) most n) l.length (i + 1) []).getD [])))]) [] _ M0 rfl rfl rfl (Sp.refl _) (fun _ h => h.elim) (fun w' hs => CaF.of tabOk (by kernel_rfl) (bagc_ca b2 b6 b8 l n most hl (i + 1) [] ⟨List.Pairwise.nil, fun x hx => by cases hx⟩ (by omega) (by omega) w' 0 w'.heap.size (.slice none 0 0) ⟨⟨_, va, c, lo, hi, hs.blk (by repeat constructor), RdII.keep h hs.chg0⟩, ⟨_, a6, c6, 0, w'.heap.size, by rw [regV_len]; exact hs.blk (b := b6) (by repeat constructor), by rw [regV_len, ← hxs]; exact wax_rd (t := 3) (t2 := 157) (n := l.length) (hs.mem (c := un (rowsO 3 xs)) (by repeat constructor)) (hs.mem (c := .ow (.slice a6 l.length c6) 157 2 l.length (wxC most xs)) (by repeat constructor))⟩, ⟨_, hs.blk (b := b8) (by repeat constructor)⟩⟩ (own_rdI (t := 3) (own_nil w' 0 3 1) rfl))) ?_
    rintro _ u ⟨rfl, hu⟩
    dsimp only [List.cons_append, List.nil_append]
    cases hcf : chooseF (covB (regV l n) most n) l.length (i + 1) [] with
    | none =>
      rw [hcf] at hi2
      obtain rfl := hu hcf
      (refine ql_pure tabOk rfl rfl (q_nil (q_seq (q_region (ql_pure tabOk rfl rfl ?_)))))
      refine ql_neqnil tabOk rfl rfl rfl rfl ?_
      (refine q_nil (q_cond_false rfl (q_skip (q_blk (q_region (ql_ar tabOk rfl rfl rfl rfl (by omega) (by omega) (ql_pure tabOk rfl rfl (q_nil ?_))))))))
      exact hK (i + 1) _ _ ⟨by omega, hi2⟩ (by omega) ⟨rfl, rfl, rfl, trivial⟩ (by repeat constructor)
    | some o =>
      rw [hcf] at hi2
      have eo : o = out := by rw [hi2] at ho; exact Option.some.inj ho
      subst eo
      have hol := (choose_sound (i + 1) [] o ⟨List.Pairwise.nil, fun x hx => by cases hx⟩ hcf).2.1
      refine ql_fact (fun w hs => hs.ownSome (v := u) (by repeat constructor) (by simp only [Option.getD_some]; omega)) ?_
      rintro ⟨g, gc, rfl⟩
      (refine ql_pure tabOk rfl rfl (q_nil (q_seq (q_region (ql_pure tabOk rfl rfl ?_)))))
      refine ql_neqnil tabOk rfl rfl rfl rfl ?_
      (refine q_nil (q_cond_true rfl (q_seq (q_region ?_))); (iterate 3 refine ql_pure tabOk rfl rfl ?_); refine q_nil (q_ret ?_))
      refine q_fin tabOk rfl (by repeat constructor) fun w hs => ?_
      exact ⟨_, rfl, hs.sp (by repeat constructor)⟩
  · obtain rfl : i = l.length := by omega
    rw [Nat.sub_self] at hi2
    rw [hi2] at ho
    cases ho
end Go.Proofs.Ytcmpdmobmbbplaa

/- The plain law of SkiBagged: breaks that are tried. -/
namespace Go.Proofs.Ytcmpdmobmbbplaa

theorem brk_val {l : List (List Int)} {n : Nat} {most : Int} (hl : TabOk l n) (hm : 0 ≤ most) (hm2 : most ≤ 10000) {br : List Int} (hb : ∀ s ∈ br, 0 ≤ s ∧ s < n) : breaksV l most br = (if brkF (regV l n) most br = true then !br.isEmpty && true else false, 0) := by
  have hnV : nV l = n := hl.v.2
  have he : limitV l most = 0 := limit_iff.2 ⟨by rw [hnV]; exact hl, hm, hm2⟩
  unfold breaksV
  rw [if_neg (by simpa using he), if_neg, hnV]
  rw [Bool.not_eq_false, List.all_eq_true]
  intro s hs
  have := hb s hs
  rw [inB_iff, hnV]
  omega
theorem zone_val {l : List (List Int)} {n : Nat} {most : Int} (hl : TabOk l n) (hm : 0 ≤ most) (hm2 : most ≤ 10000) : zonesV l most = (zonesF (regV l n) most n (n + 1) 0, 0) := by
  have hnV : nV l = n := hl.v.2
  have he : limitV l most = 0 := limit_iff.2 ⟨by rw [hnV]; exact hl, hm, hm2⟩
  unfold zonesV
  rw [if_neg (by simpa using he), hnV]
/-- Snows that are tried. -/
theorem brk_says {l : List (List Int)} {n : Nat} {most : Int} (hl : TabOk l n) (hm : 0 ≤ most) (hm2 : most ≤ 10000) {br : List Nat} (hb : ∀ s ∈ br, s < n) : (breaksV l most (chI br)).2 = 0 ∧ ((breaksV l most (chI br)).1 = true → 1 ≤ br.length ∧ br.length ≤ (zonesF (regV l n) most n (n + 1) 0).length) := by
  have hb2 : ∀ s ∈ chI br, 0 ≤ s ∧ s < n := fun s hs => by
    obtain ⟨x, hx, rfl⟩ := List.mem_map.1 hs
    have := hb x hx
    omega
  rw [brk_val hl hm hm2 hb2]
  refine ⟨rfl, fun h => ?_⟩
  dsimp only at h
  split at h
  · rename_i h1
    have h2 := breaks_le hl hm (chI br) (n + 1) 0 hb2 (fun b l' e => by have := hb2 b (by rw [e]; exact List.mem_cons_self); omega) (by omega) h1
    have h3 : (chI br).length = br.length := by simp [chI]
    rw [h3] at h2
    refine ⟨?_, h2⟩
    rcases Nat.eq_zero_or_pos br.length with h4 | h4
    · rw [List.length_eq_zero_iff.1 h4] at h
      simp [chI] at h
    · exact h4
  · cases h
/-- Where the zones begin is a list of breaks. -/
theorem starts_say {l : List (List Int)} {n : Nat} {most : Int} (hl : TabOk l n) (hm : 0 ≤ most) (hm2 : most ≤ 10000) : 1 ≤ (zonesF (regV l n) most n (n + 1) 0).length ∧ breaksV l most ((zonesF (regV l n) most n (n + 1) 0).map (·.1)) = (true, 0) := by
  have hn := hl.n1
  obtain ⟨h1, h2⟩ := zones_are hl hm (n + 1) 0 (by omega) (by omega)
  have h3 := starts_are hl hm (n + 1) 0 (by omega) (by omega)
  generalize zonesF (regV l n) most n (n + 1) 0 = Z at h1 h2 h3 ⊢
  have h4 : 1 ≤ Z.length := by
    cases Z with
    | nil => simp [nxtZ] at h2; omega
    | cons z Z => simp
  refine ⟨h4, ?_⟩
  rw [brk_val hl hm hm2 (fun s hs => ?_), if_pos h3]
  · cases Z with
    | nil => simp at h4
    | cons z Z => rfl
  · obtain ⟨z, hz, rfl⟩ := List.mem_map.1 hs
    obtain ⟨i, hi, rfl⟩ := List.mem_iff_getElem.1 hz
    have h5 := h1 i hi
    have h6 := h5.a0
    have h7 := h5.frm
    have h8 := h5.le
    have h9 := h5.lt
    omega
theorem Inc.up {m : Nat} {ch : List Nat} (h : Inc m ch) : Inc (m + 1) ch := ⟨h.1, fun x hx => by have := h.2 x hx; omega⟩
theorem Inc.push {m : Nat} {ch : List Nat} (h : Inc m ch) : Inc (m + 1) (ch ++ [m]) := by
  refine ⟨List.pairwise_append.2 ⟨h.1, List.pairwise_singleton _ _, fun x hx y hy => ?_⟩, fun x hx => ?_⟩
  · rw [List.mem_singleton.1 hy]
    exact h.2 x hx
  · rcases List.mem_append.1 hx with h1 | h1
    · have := h.2 x h1; omega
    · rw [List.mem_singleton.1 h1]; omega
/-- With a greater regret no more waxes are in the bag. -/
theorem bag_mono {l : List (List Int)} {n : Nat} {a b : Int} (hl : TabOk l n) (ha : 0 ≤ a) (hab : a ≤ b) {x y : List Nat} (hx : bagF (covB (regV l n) a n) l.length = some x) (hy : bagF (covB (regV l n) b n) l.length = some y) : y.length ≤ x.length := by
  obtain ⟨h1, _, h3, _⟩ := bag_sound hx
  obtain ⟨_, _, _, h4⟩ := bag_sound hy
  refine h4 x h3 (cov_mono hab h1) fun e => ?_
  have hn := hl.n1
  obtain ⟨w, hw, _⟩ := cov_iff.1 h1 0 (by omega)
  rw [e] at hw
  cases hw
end Go.Proofs.Ytcmpdmobmbbplaa

/- Walks: a coin; whether waxes have a good one for each snow. -/
namespace Go.Proofs.Ytcmpdmobmbbplaa
open Go Go.Eng

theorem coin_ca (n : Int) (hn : 1 ≤ n) (K : Nat) (hK : K < 1000000) (w : World) (b lo hi : Nat) (bs : Value) (hby : DkB w lo hi bs) (hlh : hi ≤ b) (hd : DkS w b bs K) :
    Ca Try.prog 57 [.pointer (some ⟨b, 0, none⟩), .int .i64 n] w fun v w' => ∃ x : Bool, v = .bool x ∧ Sat w (fun x => x = b) [dkP bs b (K + 1)] w' := by
  refine q_of (dk_sat hd) Try.func57 rfl (by simp [Try.ntmps57]) ?_
  (refine q_seq (q_region (ql_pure tabOk rfl rfl (q_nil (q_seq (q_region (ql_pure tabOk rfl rfl (ql_pure tabOk rfl rfl ?_))))))))
  refine ql_call (β := Int) (ψ := fun zq v => v = .int .i64 zq ∧ 0 ≤ zq ∧ (zq < n ∨ zq = 0)) (L' := fun _ => [dkP bs b (K + 1)]) tabOk [dkP bs b (K)] _ (fun x => x = b) rfl rfl rfl rfl (Sp.cons (by repeat constructor) (Sp.refl _)) (fun x hx => ⟨_, .head _, hx⟩) (fun w' hs => drawP_ca (n) (K) (by omega) w' b lo hi bs (hby.keepP hlh hs.chg) hlh (hs.all _ (.head _))) ?_; rintro x _ ⟨rfl, hx⟩
  (refine ql_pure tabOk rfl rfl (ql_pure tabOk rfl rfl (q_nil (q_ret ?_))))
  refine q_fin tabOk rfl (by repeat constructor) fun w hs => ?_
  exact ⟨_, rfl, hs⟩
theorem coin0 {w0 w : World} {R : List Ck} {b K : Nat} {bs : Value} {n : Int} (hby : DkB w0 0 w0.heap.size bs) (hs : Sat w0 M0 (dkP bs b K :: R) w) (hn : 1 ≤ n) (hK : K < 1000000) :
    Ca Try.prog 57 [.pointer (some ⟨b, 0, none⟩), .int .i64 n] w fun v w' => ∃ x : Bool, v = .bool x ∧ Sat w (fun x => x = b) [dkP bs b (K + 1)] w' :=
  coin_ca n hn K hK w b 0 w0.heap.size bs (hby.keep hs.chg0) (dk_new hs) (hs.all _ (.head _))
/-- The variables of the law's own search. -/
structure CovE (w : World) (b11 b12 b13 : Nat) (R : List (List Int)) (most : Int) (n : Nat) : Prop where
  h1 : ∃ t, Blk w b11 [.int .i64 n] t
  h2 : ∃ t, Blk w b12 [.int .i64 most] t
  h3 : ∃ t a c lo hi, Blk w b13 [.slice a R.length c] t ∧ RdII w lo hi (.slice a R.length c) R
theorem CovE.keep {w w' : World} {b11 b12 b13 n : Nat} {R : List (List Int)} {most : Int} (h : CovE w b11 b12 b13 R most n) (c : Chg [] w w') : CovE w' b11 b12 b13 R most n := by
  obtain ⟨t1, h1⟩ := h.h1
  obtain ⟨t2, h2⟩ := h.h2
  obtain ⟨t3, a, c2, lo, hi, h3, h4⟩ := h.h3
  exact ⟨⟨t1, h1.keep c⟩, ⟨t2, h2.keep c⟩, ⟨t3, a, c2, lo, hi, h3.keep c, RdII.keep h4 c⟩⟩
theorem cov1_p (w : World) (b11 b12 b13 b6 t6 s n : Nat) (most : Int) (R : List (List Int)) (ch : List Nat) (hE : CovE w b11 b12 b13 R most n) (h6 : Blk w b6 [.int .i64 s] t6) (hch : ∀ x ∈ ch, x < R.length) (hn : ∀ row ∈ R, row.length = n) (hs : s < n) (hRl : R.length ≤ 1000000) :
    PredAt Try.prog tab w (.func (.func 56) #[] #[.pointer (some ⟨b13, 0, none⟩), .pointer (some ⟨b6, 0, none⟩), .pointer (some ⟨b12, 0, none⟩)]) (ints (chI ch)) (pGd R most s) := by
  refine ⟨_, _, _, rfl, rfl, fun w' hw' x hx => ?_⟩
  have hE' := hE.keep hw'
  have h6' := h6.keep hw'
  obtain ⟨t2, h2⟩ := hE'.h2
  obtain ⟨t3, a, c, lo, hi, h3, hR⟩ := hE'.h3
  obtain ⟨i, hii, rfl⟩ := List.mem_map.1 hx
  obtain ⟨y, hy, rfl⟩ := List.mem_map.1 hii
  have hy2 := hch y hy
  obtain ⟨_, _, e0, ha⟩ := RdII.outI hR
  cases e0
  obtain ⟨ab, ao, rfl⟩ := ha (by omega)
  have hrn := hn _ (List.getElem_mem hy2)
  obtain ⟨rb, ro, rc, hr1, hr2⟩ := RdII.rowS hR y hy2 hrn (by omega)
  refine q_of (Sat.nil w' M0) Try.func56 rfl (by simp [Try.ntmps56]) ?_
  (refine q_seq (q_region (ql_pure tabOk rfl rfl (q_nil (q_seq ?_)))))
  refine q_draw _ [] (Sp.refl _) (by kernel_rfl) (by kernel_rfl) ?_
  (refine qf_pure tabOk rfl rfl rfl (qf_geqT tabOk rfl rfl rfl (by omega) (qf_pure tabOk rfl rfl rfl (qf_gyes rfl (qf_pure tabOk rfl rfl rfl (qf_gyes rfl ?_))))); refine qf_loadP tabOk rfl rfl rfl (by assumption) (by rfl) ?_; refine qf_gyes rfl (qf_pure tabOk rfl rfl rfl (qf_gyes rfl (qf_lssT tabOk rfl rfl rfl (by omega) (qf_pure tabOk rfl rfl rfl (qf_pure tabOk rfl rfl rfl (qf_gyes rfl ?_)))))); refine qf_loadP tabOk rfl rfl rfl (by assumption) (by rfl) ?_; refine qf_gyes rfl (qf_pure tabOk rfl rfl rfl (qf_gyes rfl ?_)))
  refine qf_index tabOk rfl rfl rfl rfl rfl (by omega) (by omega) ?_
  (refine qf_gyes rfl ?_)
  refine qf_load1 (v := .slice (some ⟨rb, ro, none⟩) n rc) tabOk rfl rfl rfl (fun w hs => hr2 _ hs.chg0) ?_
  (refine qf_gyes rfl ?_; refine qf_loadP tabOk rfl rfl rfl (by assumption) (by rfl) ?_; refine qf_gyes rfl ?_)
  refine qf_index tabOk rfl rfl rfl rfl rfl (by omega) (by omega) ?_
  (refine qf_gyes rfl ?_)
  refine qf_load1 (v := .int .i64 (R[y][s]'(by omega))) tabOk rfl rfl rfl (fun w hs => RdI.at (RdE.keep hr1 hs.chg0) s (by omega)) ?_
  have e : (R.getD y []).getD s 0 = R[y][s]'(by omega) := by rw [List.getD_eq_getElem?_getD (l := R), List.getElem?_eq_getElem hy2, Option.getD_some, getD_get (by omega)]
  show QF _ _ _ (fin _ _ fun r w2 => r = Value.bool (decide ((R.getD y []).getD s 0 ≤ most)) ∧ _) _ _ _ _ _ _ _ _
  rw [e]
  generalize R[y][s]'(by omega) = z
  cases hz : decide (z ≤ most) with
  | true =>
    have := of_decide_eq_true hz
    (refine qf_gyes rfl ?_; refine qf_loadP tabOk rfl rfl rfl (by assumption) (by rfl) ?_; refine qf_gyes rfl (qf_leqT tabOk rfl rfl rfl (by omega) (qf_pure tabOk rfl rfl rfl (qf_pure tabOk rfl rfl rfl (qf_nil (q_ret ?_))))))
    refine q_fin tabOk rfl (by repeat constructor) fun w hs => ?_
    exact ⟨rfl, hs.chg0⟩
  | false =>
    have := of_decide_eq_false hz
    (refine qf_gyes rfl ?_; refine qf_loadP tabOk rfl rfl rfl (by assumption) (by rfl) ?_; refine qf_gyes rfl (qf_leqF tabOk rfl rfl rfl (by omega) (qf_pure tabOk rfl rfl rfl (qf_pure tabOk rfl rfl rfl (qf_nil (q_ret ?_))))))
    refine q_fin tabOk rfl (by repeat constructor) fun w hs => ?_
    exact ⟨rfl, hs.chg0⟩
set_option maxHeartbeats 1000000 in
theorem covers_ca (w : World) (b11 b12 b13 n lo hi : Nat) (most : Int) (R : List (List Int)) (ch : List Nat) (v : Value) (hv : RdI w lo hi v (chI ch)) (hE : CovE w b11 b12 b13 R most n) (hch : ∀ x ∈ ch, x < R.length) (hcl : ch.length ≤ 1000000) (hn : ∀ row ∈ R, row.length = n) (hRl : R.length ≤ 1000000) (hn2 : n ≤ 1000000) :
    Ca Try.prog 54 [v, .pointer (some ⟨b11, 0, none⟩), .pointer (some ⟨b13, 0, none⟩), .pointer (some ⟨b12, 0, none⟩)] w fun r w' => r = .bool (covB R most n ch) ∧ Chg [] w w' := by
  obtain ⟨t1, h1⟩ := hE.h1
  refine q_of (Sat.nil w M0) Try.func54 rfl (by simp [Try.ntmps54]) ?_
  (refine q_seq (q_region (ql_pure tabOk rfl rfl (q_nil (q_seq (q_seq (q_region ?_)))))); refine ql_loadP tabOk rfl rfl rfl (by assumption) (by rfl) ?_; refine ql_pure tabOk rfl rfl (q_nil (q_block ?_)))
  refine q_loop (σ := Nat) (fun s => s ≤ n ∧ ∀ t, t < s → ∃ x ∈ ch, (R.getD x []).getD t 0 ≤ most) (fun s => n - s) (fun s => [(0, v), (2, .pointer (some ⟨b13, 0, none⟩)), (3, .pointer (some ⟨b12, 0, none⟩)), (7, .int .i64 n), (8, .int .i64 s)]) (fun _ => []) 0 ⟨by omega, fun t ht => by omega⟩ ⟨rfl, rfl, rfl, rfl, rfl, trivial⟩ (by repeat constructor) ?_
  rintro s ⟨hs1, hcv⟩ K hK
  (refine q_seq (q_region (ql_pure tabOk rfl rfl (q_nil (q_seq ?_)))))
  refine q_if rfl (fun hc => ?_) (fun hc => ?_)
  · have hs2 : s < n := by omega
    clear hc
    (refine q_skip (q_seq (q_block (q_seq (q_region (ql_pure tabOk rfl rfl ?_))))))
    refine ql_alloc zero3 rfl (fun b6 => ?_)
    (refine ql_set tabOk rfl rfl rfl rfl (by repeat constructor) ?_; refine q_nil (q_seq (q_region (ql_pure tabOk rfl rfl (ql_pure tabOk rfl rfl ?_)))))
    refine ql_callv (val := .bool (ch.any fun x => decide ((R.getD x []).getD s 0 ≤ most))) tabOk rfl rfl rfl rfl (fun w hs => ?_) ?_; exact by have := conF_int w lo hi v _ (ints (chI ch)) _ (RdE.keep hv hs.chg0) (by intro i hi; simp [ints, oneV]) (by simp [ints, chI]; omega) (cov1_p w b11 b12 b13 b6 _ s n most R ch (hE.keep hs.chg0) (hs.blk (b := b6) (by repeat constructor)) hch hn hs2 hRl); rw [pGd_any] at this; exact this
    cases hany : ch.any fun x => decide ((R.getD x []).getD s 0 ≤ most) with
    | true =>
      obtain ⟨x, hx, hx2⟩ := List.any_eq_true.1 hany
      (refine ql_pure tabOk rfl rfl (q_nil (q_cond_false rfl (q_skip (q_blk (q_region (ql_ar tabOk rfl rfl rfl rfl (by omega) (by omega) (ql_pure tabOk rfl rfl (q_nil ?_)))))))))
      exact hK (s + 1) _ _ ⟨by omega, fun t ht => by
        by_cases e : t = s
        · subst e; exact ⟨x, hx, of_decide_eq_true hx2⟩
        · exact hcv t (by omega)⟩ (by omega) ⟨rfl, rfl, rfl, rfl, rfl, trivial⟩ (by repeat constructor)
    | false =>
      have hcf : covB R most n ch = false := Bool.eq_false_iff.2 fun h => by
        obtain ⟨x, hx, hx2⟩ := cov_iff.1 h s hs2
        have := List.any_eq_false.1 hany x hx
        exact this (decide_eq_true hx2)
      rw [hcf]
      (refine ql_pure tabOk rfl rfl (q_nil (q_cond_true rfl (q_seq (q_region (ql_pure tabOk rfl rfl (q_nil (q_ret ?_))))))))
      refine q_fin tabOk rfl (by repeat constructor) fun w hs => ?_
      exact ⟨rfl, hs.chg0⟩
  · obtain rfl : s = n := by omega
    have hct : covB R most s ch = true := cov_iff.2 hcv
    rw [hct]
    (refine q_exit _ rfl (q_seq (q_region (ql_pure tabOk rfl rfl (q_nil (q_ret ?_))))))
    refine q_fin tabOk rfl (by repeat constructor) fun w hs => ?_
    exact ⟨rfl, hs.chg0⟩
end Go.Proofs.Ytcmpdmobmbbplaa

/- SkiWaxed. -/
namespace Go.Proofs.Ytcmpdmobmbbplaa
open Go Go.Eng

theorem losses0 {w0 w : World} {R : List Ck} {b K W S : Nat} {bs : Value} (hby : DkB w0 0 w0.heap.size bs) (hs : Sat w0 M0 (dkP bs b K :: R) w) (hW1 : 1 ≤ W) (hS1 : 1 ≤ S) (hW : W ≤ 12) (hS : S ≤ 20) (hK : K < 100000) :
    Ca Try.prog 19 [.pointer (some ⟨b, 0, none⟩), .int .i64 W, .int .i64 S] w fun v w' => ∃ y : Value × List (Value × List Int), (v = y.1 ∧ ∃ n, LosL W S (y.2.map (·.2)) n) ∧ Sat w (fun x => x = b) [un (rowsO 3 y.2), .ow y.1 26 1 y.2.length (y.2.map (·.1)), dkP bs b (K + 300)] w' :=
  losses_ca W S hW1 hS1 hW hS K hK w b 0 w0.heap.size bs (hby.keep hs.chg0) (dk_new hs) (hs.all _ (.head _))
theorem row_shape {w0 w : World} {M : Nat → Prop} {H : List Ck} {t n : Nat} {X : List (Value × List Int)} (hs : Sat w0 M H w) (hm : un (rowsO t X) ∈ H) (hn : ∀ p ∈ X, p.2.length = n) (hp : 0 < n) : ∀ i (hi : i < X.length), ∃ g c, X[i].1 = .slice (some ⟨g, 0, none⟩) n c := fun i hi => by
  have h2 : w.ownsRow 0 t 1 X[i].1 X[i].2.length (ints X[i].2) := (hs.mem hm).1 (.ow X[i].1 t 1 X[i].2.length (ints X[i].2)) (List.mem_map.2 ⟨_, List.getElem_mem hi, rfl⟩)
  have h3 := hn _ (List.getElem_mem hi)
  have h4 := own_some h2 (by omega)
  rw [h3] at h4
  exact h4
theorem row_cell {w0 w : World} {M : Nat → Prop} {H : List Ck} {t g c n m : Nat} {X : List (Value × List Int)} {u : Value} (hs : Sat w0 M H w) (hm : Ck.ow (.slice (some ⟨g, 0, none⟩) m c) t 1 m (X.map (·.1)) ∈ H) {i : Nat} (hi : i < X.length) (hu : X[i].1 = u) (hin : n = 0 + i * 1) : w.cell? ⟨g, n, none⟩ = some u := by
  subst hin
  rw [Nat.mul_one, Nat.zero_add]
  exact own_cellS (hs.mem hm) i (by rw [List.getElem?_map, List.getElem?_eq_getElem hi, Option.map_some, hu])
theorem row_at {w0 w : World} {M : Nat → Prop} {H : List Ck} {t g c n m : Nat} {X : List (Value × List Int)} {x : Int} (hs : Sat w0 M H w) (hm : un (rowsO t X) ∈ H) {i : Nat} (hi : i < X.length) (hu : X[i].1 = .slice (some ⟨g, 0, none⟩) m c) {s : Nat} (hss : s < X[i].2.length) (hx : X[i].2.getD s 0 = x) (hin : n = 0 + s * 1) : w.cell? ⟨g, n, none⟩ = some (.int .i64 x) := by
  subst hin
  have h := (wx_row hs hm i hi).1
  rw [hu] at h
  have := RdI.at h s hss
  rw [this, ← hx, getD_get hss]
theorem own_rdII {w0 w : World} {M : Nat → Prop} {H : List Ck} {t t2 n : Nat} {v : Value} {X : List (Value × List Int)} (hs : Sat w0 M H w) (h1 : un (rowsO t X) ∈ H) (h2 : Ck.ow v t2 1 n (X.map (·.1)) ∈ H) : RdII w 0 w.heap.size v (X.map (·.2)) := rowsO_rd (hs.mem h1) (hs.mem h2)
def addR (s : Nat) (d : Int) (p : Value × List Int) : Value × List Int := (p.1, p.2.set s (p.2.getD s 0 + d))
/-- The first rows are changed. -/
def addK (s : Nat) (d : Int) (X : List (Value × List Int)) (k : Nat) : List (Value × List Int) := (X.take k).map (addR s d) ++ X.drop k
end Go.Proofs.Ytcmpdmobmbbplaa

/- SkiBagged. -/
namespace Go.Proofs.Ytcmpdmobmbbplaa
open Go Go.Eng

abbrev covV (b11 b12 b13 : Nat) : Value := .func (.func 54) #[] #[.pointer (some ⟨b11, 0, none⟩), .pointer (some ⟨b13, 0, none⟩), .pointer (some ⟨b12, 0, none⟩)]
theorem cov_env {w0 w : World} {M : Nat → Prop} {H : List Ck} {t t1 t2 t3 t4 g c m b11 b12 b13 n : Nat} {most : Int} {R : List (List Int)} {Y : List (Value × List Int)} (hs : Sat w0 M H w) (m1 : Ck.pt b11 [.int .i64 n] t1 ∈ H) (m2 : Ck.pt b12 [.int .i64 most] t4 ∈ H) (m3 : Ck.pt b13 [.slice (some ⟨g, 0, none⟩) m c] t3 ∈ H) (m4 : un (rowsO t Y) ∈ H) (m5 : Ck.ow (.slice (some ⟨g, 0, none⟩) m c) t2 1 m (Y.map (·.1)) ∈ H) (hY : Y.map (·.2) = R) (hm : m = R.length) : CovE w b11 b12 b13 R most n := by
  subst hm
  exact ⟨⟨_, hs.blk m1⟩, ⟨_, hs.blk m2⟩, ⟨_, _, _, 0, w.heap.size, hs.blk m3, by have := own_rdII hs m4 m5; rw [hY] at this; exact this⟩⟩
set_option maxHeartbeats 8000000 in
set_option maxRecDepth 20000 in
theorem skiBagged_ca (w : World) (a : Option Addr) (nb cb : Nat) (at0 : Option Addr) (nt ct : Nat) (rg mo : Int) (hrg : 0 ≤ rg ∧ rg < 256) (hmo : 0 ≤ mo ∧ mo < 256) (hbyb1 : DkB w 0 w.heap.size (.slice a nb cb)) (hbyb10 : DkB w 0 w.heap.size (.slice at0 nt ct)) :
    Ca Try.prog 8 [.slice a nb cb, .slice at0 nt ct, .int .u8 rg, .int .u8 mo] w fun r w' => r = .bool true ∧ Chg [] w w' := by
  refine q_of (Sat.nil w M0) Try.func8 rfl (by simp [Try.ntmps8]) ?_
  (refine q_seq (q_region (ql_pure tabOk rfl rfl (q_nil (q_seq (q_region (ql_pure tabOk rfl rfl ?_)))))))
  refine ql_call (β := Nat) tabOk [] _ M0 rfl rfl rfl rfl (Sp.refl _) (fun _ h => h.elim) (fun w' hs => of_ca w' a nb cb) ?_
  rintro b1 _ rfl
  dsimp only [List.cons_append, List.nil_append]
  refine ql_call (β := Value × List (Value × List Int)) (ψ := fun y v => v = y.1 ∧ ∃ n, LosL 8 14 (y.2.map (·.2)) n) (L' := fun y => [un (rowsO 3 y.2), .ow y.1 26 1 y.2.length (y.2.map (·.1)), dkP (.slice a nb cb) b1 (0 + 300)]) tabOk [dkP (.slice a nb cb) b1 0] _ (fun x => x = b1) rfl rfl rfl rfl (Sp.cons (by repeat constructor) (Sp.refl _)) (fun x hx => ⟨_, .head _, hx⟩) (fun w' hs => losses0 (W := 8) (S := 14) hbyb1 hs (by omega) (by omega) (by omega) (by omega) (by omega)) ?_
  rintro ⟨_, X⟩ v9 ⟨rfl, n, hL⟩
  dsimp only [List.cons_append, List.nil_append] at hL ⊢
  obtain ⟨l, hl⟩ : ∃ l, l = X.map (·.2) := ⟨_, rfl⟩
  rw [← hl] at hL
  have hXl : X.length = l.length := by rw [hl, List.length_map]
  rw [hXl]
  have hl1 := hL.l1
  have hl2 := hL.l2
  have hn1 := hL.n1
  have hn2 := hL.n2
  have hT := hL.tab (by omega) (by omega)
  have hXn : ∀ p ∈ X, p.2.length = n := fun p hp => hL.len _ (by rw [hl]; exact List.mem_map.2 ⟨p, hp, rfl⟩)
  have hRl := regV_len l n
  have hRn : ∀ row ∈ regV l n, row.length = n := fun row hr => by obtain ⟨i, hi, rfl⟩ := List.mem_iff_getElem.1 hr; exact reg_row _
  refine ql_fact (fun w hs => hs.ownSome (v := v9) (by repeat constructor) (by omega)) ?_
  rintro ⟨g9, c9, rfl⟩
  refine ql_fact (fun w hs => row_shape hs (X := X) (t := 3) (by repeat constructor) hXn (by omega)) ?_
  intro hX
  obtain ⟨g0, c0, e0⟩ := hX 0 (by omega)
  (refine ql_pure tabOk rfl rfl (q_nil (q_seq (q_region (ql_pure tabOk rfl rfl ?_)))))
  refine ql_call (β := Nat) tabOk [] _ M0 rfl rfl rfl rfl (Sp.refl _) (fun _ h => h.elim) (fun w' hs => of_ca w' at0 nt ct) ?_
  rintro b10 _ rfl
  dsimp only [List.cons_append, List.nil_append]
  have ew : IntKind.i64.wrap rg = rg := w64 (by omega) (by omega)
  have em : IntKind.i64.wrap mo = mo := w64 (by omega) (by omega)
  obtain ⟨mst, hmst⟩ : ∃ mst, mst = IntKind.i64.wrap rg % 12 := ⟨_, rfl⟩
  have hm0 : 0 ≤ mst ∧ mst ≤ 11 := by rw [hmst, ew]; omega
  obtain ⟨d, hd⟩ : ∃ d, d = IntKind.i64.wrap mo % 10 := ⟨_, rfl⟩
  have hd0 : 0 ≤ d ∧ d ≤ 9 := by rw [hd, em]; omega
  (refine ql_pure tabOk rfl rfl (q_nil (q_seq (q_region (ql_pure tabOk rfl rfl ?_)))))
  refine ql_index tabOk rfl rfl rfl rfl rfl (by omega) (by omega) ?_
  refine ql_load1 (v := .slice (some ⟨g0, 0, none⟩) n c0) tabOk rfl rfl rfl (fun w hs => row_cell hs (t := 26) (X := X) (by repeat constructor) (i := 0) (by omega) e0 rfl) ?_
  ((iterate 3 refine ql_pure tabOk rfl rfl ?_); refine ql_remN rfl rfl rfl (by omega) (by omega) ?_)
  rw [← hmst]
  refine ql_alloc zero3 rfl (fun b11 => ?_)
  skip
  refine ql_alloc zero3 rfl (fun b12 => ?_)
  ((iterate 2 refine ql_set tabOk rfl rfl rfl rfl (by repeat constructor) ?_); refine q_nil (q_seq (q_region (ql_pure tabOk rfl rfl ?_))))
  refine ql_conv (H' := [un (rowsO 3 X), .ow (.slice (some ⟨g9, 0, none⟩) l.length c9) 26 1 l.length (X.map (·.1)), .pt b11 [.int .i64 n] 3, .pt b12 [.int .i64 mst] 3, dkP (.slice at0 nt ct) b10 (0)]) (fun w' hs => hs.sp (by repeat constructor)) ?_
  refine ql_call (β := Value × List (Value × List Int)) tabOk [] _ M0 rfl rfl rfl rfl (Sp.refl _) (fun _ h => h.elim) (fun w' hs => regrets_ca w' 0 w'.heap.size _ l n (by have := own_rdII hs (X := X) (t := 3) (t2 := 26) (v := .slice (some ⟨g9, 0, none⟩) l.length c9) (n := l.length) (by repeat constructor) (by repeat constructor); rw [← hl] at this; exact this) hT) ?_
  rintro ⟨v13, Y⟩ _ ⟨rfl, hY⟩
  dsimp only [List.cons_append, List.nil_append] at hY ⊢
  have hYl : Y.length = l.length := by have := congrArg List.length hY; rw [regV_len, List.length_map] at this; exact this
  refine ql_fact (fun w hs => hs.ownSome (v := v13) (by repeat constructor) (by omega)) ?_
  rintro ⟨g13, c13, rfl⟩
  have hYg : ∀ i (hi : i < Y.length), Y[i].2 = (regV l n)[i]'(by rw [regV_len]; omega) := fun i hi => by simp only [← hY, List.getElem_map]
  have hYn : ∀ p ∈ Y, p.2.length = n := fun p hp => by
    obtain ⟨i, hi, rfl⟩ := List.mem_iff_getElem.1 hp
    rw [hYg i hi]
    exact reg_row _
  refine ql_fact (fun w hs => row_shape hs (X := Y) (t := 3) (by repeat constructor) hYn (by omega)) ?_
  intro hYs
  (refine ql_pure tabOk rfl rfl (ql_ext tabOk rfl rfl rfl (ql_ext tabOk rfl rfl rfl ?_)))
  refine ql_alloc zero49 rfl (fun b13 => ?_)
  have hz := zone_val hT hm0.1 (by omega)
  have he : limitV l mst = 0 := limit_iff.2 ⟨by rw [show nV l = n from hT.v.2]; exact hT, hm0.1, by omega⟩
  obtain ⟨out, ho, hcov, ho1, hInc, hole, hmin⟩ := bag_says hT hm0.1
  obtain ⟨hZ1, hst⟩ := starts_say hT hm0.1 (show mst ≤ 10000 by omega)
  obtain ⟨hzi, hzn⟩ := zones_are hT hm0.1 (n + 1) 0 (by omega) (by omega)
  have hbrk := fun (br : List Nat) (hb : ∀ s ∈ br, s < n) => brk_says hT hm0.1 (show mst ≤ 10000 by omega) hb
  have hZlen := zonesF_len (rs := regV l n) (most := mst) (n := n) (n + 1) 0
  have hzm := zones_mono hT hm0.1 (show mst ≤ mst + d by omega) (n + 1) (n + 1) 0 0 (Nat.le_refl _) (by omega) (by omega)
  generalize hZ : zonesF (regV l n) mst n (n + 1) 0 = Z at hz hole hst hZ1 hzi hzn hbrk hZlen hzm
  have hol := inc_len hInc
  have hzi : ∀ i (h : i < Z.length), ZoneIs (regV l n) mst n (nxtZ Z 0 i) Z[i] := hzi
  have hzn : nxtZ Z 0 Z.length = (n : Int) := hzn
  obtain ⟨zst, hzst⟩ : ∃ zst : List Int, zst = Z.map (fun z => z.1) := ⟨_, rfl⟩
  have hzsl : zst.length = Z.length := by rw [hzst, List.length_map]
  rw [← hzst] at hst
  have hz1 : (zonesV l mst).1 = Z := by rw [hz]
  (refine ql_set tabOk rfl rfl rfl rfl (by repeat constructor) ?_; refine ql_pure tabOk rfl rfl (q_nil (q_seq (q_region (ql_pure tabOk rfl rfl ?_)))); refine ql_loadBa tabOk rfl rfl rfl ?_)
  refine ql_call (β := Value) tabOk [] _ M0 rfl rfl rfl rfl (Sp.refl _) (fun _ h => h.elim) (fun w' hs => bag_ok w' 0 w'.heap.size _ l mst n (by have := own_rdII hs (X := X) (t := 3) (t2 := 26) (v := .slice (some ⟨g9, 0, none⟩) l.length c9) (n := l.length) (by repeat constructor) (by repeat constructor); rw [← hl] at this; exact this) hT hm0.1 (by omega) out ho) ?_
  rintro v15 _ rfl
  dsimp only [List.cons_append, List.nil_append]
  refine ql_fact (fun w hs => hs.ownSome (v := v15) (by repeat constructor) (by omega)) ?_
  rintro ⟨g15, c15, rfl⟩
  (refine ql_pure tabOk rfl rfl (ql_ext tabOk rfl rfl rfl (ql_ext tabOk rfl rfl rfl (ql_pure tabOk rfl rfl (ql_pure tabOk rfl rfl (q_nil (q_seq (q_region (ql_pure tabOk rfl rfl ?_)))))))); refine ql_loadBa tabOk rfl rfl rfl ?_)
  refine ql_call (β := Value) tabOk [] _ M0 rfl rfl rfl rfl (Sp.refl _) (fun _ h => h.elim) (fun w' hs => zones_ok w' 0 w'.heap.size _ l mst (by have := own_rdII hs (X := X) (t := 3) (t2 := 26) (v := .slice (some ⟨g9, 0, none⟩) l.length c9) (n := l.length) (by repeat constructor) (by repeat constructor); rw [← hl] at this; exact this) he) ?_
  rintro v17 _ rfl
  dsimp only [List.cons_append, List.nil_append]
  rw [hz1]
  refine ql_fact (fun w hs => hs.ownSome (v := v17) (by repeat constructor) (by omega)) ?_
  rintro ⟨g17, c17, rfl⟩
  (refine ql_pure tabOk rfl rfl (ql_ext tabOk rfl rfl rfl (ql_ext tabOk rfl rfl rfl (ql_pure tabOk rfl rfl (ql_pure tabOk rfl rfl (q_nil (q_seq (q_region (ql_pure tabOk rfl rfl ?_)))))))); refine ql_loadBa tabOk rfl rfl rfl ?_)
  refine ql_call (β := Value) tabOk [] _ M0 rfl rfl rfl rfl (Sp.refl _) (fun _ h => h.elim) (fun w' hs => breaks_ok w' 0 w'.heap.size _ l mst (by have := own_rdII hs (X := X) (t := 3) (t2 := 26) (v := .slice (some ⟨g9, 0, none⟩) l.length c9) (n := l.length) (by repeat constructor) (by repeat constructor); rw [← hl] at this; exact this) he) ?_
  rintro v19 _ rfl
  dsimp only [List.cons_append, List.nil_append]
  rw [hz1, ← hzst]
  refine ql_fact (fun w hs => hs.ownSome (v := v19) (by repeat constructor) (by omega)) ?_
  rintro ⟨g19, c19, rfl⟩
  (refine ql_pure tabOk rfl rfl (ql_ext tabOk rfl rfl rfl (ql_ext tabOk rfl rfl rfl (ql_pure tabOk rfl rfl (ql_pure tabOk rfl rfl (q_nil (q_seq (q_region (ql_pure tabOk rfl rfl ?_)))))))); refine ql_loadBa tabOk rfl rfl rfl ?_; refine ql_pure tabOk rfl rfl ?_)
  refine ql_callv (val := .tuple #[.bool true, .int .i64 0]) tabOk rfl rfl rfl rfl (fun w hs => ?_) ?_; exact by have := breaksShow_ca w 0 w.heap.size 0 w.heap.size _ (.slice (some ⟨g19, 0, none⟩) Z.length c19) l mst zst (by have := own_rdII hs (X := X) (t := 3) (t2 := 26) (v := .slice (some ⟨g9, 0, none⟩) l.length c9) (n := l.length) (by repeat constructor) (by repeat constructor); rw [← hl] at this; exact this) (own_rdI (t := 3) (hs.mem (c := .ow (.slice (some ⟨g19, 0, none⟩) Z.length c19) 3 1 Z.length (ints zst)) (by repeat constructor)) hzsl.symm) (by omega); rw [hst] at this; exact this
  refine ql_conv (H' := [un (rowsO 3 X), .ow (.slice (some ⟨g9, 0, none⟩) l.length c9) 26 1 l.length (X.map (·.1)), .pt b11 [.int .i64 n] 3, .pt b12 [.int .i64 mst] 3, .pt b13 [.slice (some ⟨g13, 0, none⟩) l.length c13] 49, un (rowsO 3 Y), .ow (.slice (some ⟨g13, 0, none⟩) l.length c13) 26 1 l.length (Y.map (·.1)), .ow (.slice (some ⟨g15, 0, none⟩) out.length c15) 3 1 out.length (ints (chI out)), .ow (.slice (some ⟨g17, 0, none⟩) Z.length c17) 96 3 Z.length (znC Z), dkP (.slice at0 nt ct) b10 (0)]) (fun w' hs => hs.sp (by repeat constructor)) ?_
  (refine ql_pure tabOk rfl rfl (ql_ext tabOk rfl rfl rfl (ql_ext tabOk rfl rfl rfl (ql_pure tabOk rfl rfl (ql_pure tabOk rfl rfl (q_nil (q_seq (q_seq (q_region (ql_pure tabOk rfl rfl (ql_neqF tabOk rfl rfl rfl (by omega) (ql_pure tabOk rfl rfl ?_))))))))))); refine ql_gyes rfl (ql_pure tabOk rfl rfl (ql_gyes rfl (ql_neqF tabOk rfl rfl rfl (by omega) (ql_pure tabOk rfl rfl (ql_pure tabOk rfl rfl (ql_gyes rfl (ql_pure tabOk rfl rfl (ql_gyes rfl (ql_neqF tabOk rfl rfl rfl (by omega) (ql_pure tabOk rfl rfl (ql_pure tabOk rfl rfl ?_))))))))))); refine ql_gyes rfl (ql_pure tabOk rfl rfl (ql_gyes rfl (ql_neqF tabOk rfl rfl rfl (by omega) (ql_pure tabOk rfl rfl (ql_pure tabOk rfl rfl (ql_gyes rfl (ql_pure tabOk rfl rfl (ql_gyes rfl (ql_neqF tabOk rfl rfl rfl (by omega) (ql_pure tabOk rfl rfl (ql_pure tabOk rfl rfl ?_))))))))))); refine ql_gyes rfl (ql_pure tabOk rfl rfl (ql_gyes rfl ?_)); (iterate 3 refine ql_pure tabOk rfl rfl ?_); refine ql_gyes rfl (ql_pure tabOk rfl rfl (ql_gyes rfl (ql_pure tabOk rfl rfl (ql_gyes rfl (ql_pure tabOk rfl rfl (ql_gyes rfl (ql_pure tabOk rfl rfl (ql_gyes rfl (ql_neqF tabOk rfl rfl rfl (by omega) (ql_pure tabOk rfl rfl (ql_pure tabOk rfl rfl ?_))))))))))); refine ql_gyes rfl (ql_pure tabOk rfl rfl (ql_gyes rfl (ql_pure tabOk rfl rfl (ql_gyes rfl (ql_lssF tabOk rfl rfl rfl (by omega) (ql_pure tabOk rfl rfl (ql_pure tabOk rfl rfl (ql_gyes rfl (ql_pure tabOk rfl rfl (ql_gyes rfl (ql_pure tabOk rfl rfl ?_))))))))))); refine ql_gyes rfl (ql_pure tabOk rfl rfl (ql_gyes rfl (ql_pure tabOk rfl rfl (ql_gyes rfl (ql_gtrF tabOk rfl rfl rfl (by omega) (ql_pure tabOk rfl rfl (ql_pure tabOk rfl rfl (ql_gyes rfl ?_)))))))); refine ql_loadBa tabOk rfl rfl rfl ?_; refine ql_gyes rfl (ql_pure tabOk rfl rfl (ql_gyes rfl (ql_pure tabOk rfl rfl (ql_gyes rfl (ql_pure tabOk rfl rfl (ql_gyes rfl (ql_neqF tabOk rfl rfl rfl (by omega) (ql_pure tabOk rfl rfl (q_nil (q_cond_false rfl (q_skip ?_))))))))))); refine q_seq (q_seq (q_region ?_)); refine ql_loadBa tabOk rfl rfl rfl ?_; refine ql_pure tabOk rfl rfl (ql_pure tabOk rfl rfl (q_nil (q_block ?_))))
  refine q_loop (σ := Nat) (fun k => k ≤ l.length) (fun k => l.length - k) (fun k => [(3, .int .u8 mo), (9, .slice (some ⟨g9, 0, none⟩) l.length c9), (10, .pointer (some ⟨b10, 0, none⟩)), (11, .pointer (some ⟨b11, 0, none⟩)), (12, .pointer (some ⟨b12, 0, none⟩)), (13, .pointer (some ⟨b13, 0, none⟩)), (15, .slice (some ⟨g15, 0, none⟩) out.length c15), (17, .slice (some ⟨g17, 0, none⟩) Z.length c17), (128, .slice (some ⟨g13, 0, none⟩) l.length c13), (129, .int .i64 l.length), (130, .int .i64 k)]) (fun _ => [un (rowsO 3 X), .ow (.slice (some ⟨g9, 0, none⟩) l.length c9) 26 1 l.length (X.map (·.1)), .pt b11 [.int .i64 n] 3, .pt b12 [.int .i64 mst] 3, .pt b13 [.slice (some ⟨g13, 0, none⟩) l.length c13] 49, un (rowsO 3 Y), .ow (.slice (some ⟨g13, 0, none⟩) l.length c13) 26 1 l.length (Y.map (·.1)), .ow (.slice (some ⟨g15, 0, none⟩) out.length c15) 3 1 out.length (ints (chI out)), .ow (.slice (some ⟨g17, 0, none⟩) Z.length c17) 96 3 Z.length (znC Z), dkP (.slice at0 nt ct) b10 (0)]) 0 (by omega) ⟨rfl, rfl, rfl, rfl, rfl, rfl, rfl, rfl, rfl, rfl, rfl, trivial⟩ (by repeat constructor) ?_
  rintro k hk K1 hK1
  (refine q_seq (q_region (ql_pure tabOk rfl rfl (q_nil (q_seq ?_)))))
  refine q_if rfl (fun hc => ?_) (fun hc => ?_)
  · have hk2 : k < l.length := by omega
    have hk3 : k < Y.length := by omega
    clear hc
    obtain ⟨gk, ck, ek⟩ := hYs k hk3
    (refine q_skip (q_seq (q_block (q_seq (q_region ?_)))))
    refine ql_index tabOk rfl rfl rfl rfl rfl (by omega) (by omega) ?_
    refine ql_load1 (v := .slice (some ⟨gk, 0, none⟩) n ck) tabOk rfl rfl rfl (fun w hs => row_cell hs (t := 26) (X := Y) (by repeat constructor) hk3 ek rfl) ?_
    (refine ql_pure tabOk rfl rfl (q_nil (q_seq (q_region (ql_pure tabOk rfl rfl (ql_pure tabOk rfl rfl ?_))))); refine ql_loadBa tabOk rfl rfl rfl ?_; refine ql_neqF tabOk rfl rfl rfl (by omega) (q_nil (q_cond_false rfl (q_skip (q_blk (q_region (ql_ar tabOk rfl rfl rfl rfl (by omega) (by omega) (ql_pure tabOk rfl rfl (q_nil ?_)))))))))
    exact hK1 (k + 1) _ _ (by omega) (by omega) ⟨rfl, rfl, rfl, rfl, rfl, rfl, rfl, rfl, rfl, rfl, rfl, trivial⟩ (by repeat constructor)
  · clear hc hK1 hk
    (refine q_exit _ rfl (q_seq (q_region (ql_pure tabOk rfl rfl (ql_pure tabOk rfl rfl (q_nil (q_seq (q_seq (q_region (ql_pure tabOk rfl rfl (ql_pure tabOk rfl rfl ?_)))))))))))
    refine ql_callFv rfl rfl rfl (fun w hs => CaF.of tabOk (by kernel_rfl) (covers_ca w b11 b12 b13 n 0 w.heap.size mst (regV l n) out (.slice (some ⟨g15, 0, none⟩) out.length c15) (own_rdI (t := 3) (hs.mem (c := .ow (.slice (some ⟨g15, 0, none⟩) out.length c15) 3 1 out.length (ints (chI out))) (by repeat constructor)) (chI_len _).symm) (cov_env hs (t := 3) (t1 := 3) (t2 := 26) (t3 := 49) (t4 := 3) (by repeat constructor) (by repeat constructor) (by repeat constructor) (by repeat constructor) (by repeat constructor) hY hRl.symm)  (fun x hx => by rw [hRl]; exact hInc.2 x hx) (by omega) hRn (by omega) (by omega))) ?_
    rw [hcov]
    (refine ql_pure tabOk rfl rfl (q_nil (q_cond_false rfl (q_skip (q_seq (q_region (ql_pure tabOk rfl rfl (q_nil (q_seq (q_seq (q_region ?_)))))))))); (iterate 3 refine ql_pure tabOk rfl rfl ?_); refine q_nil ?_)
    refine q_cut (σ := Unit) (fun _ => [(3, .int .u8 mo), (9, .slice (some ⟨g9, 0, none⟩) l.length c9), (10, .pointer (some ⟨b10, 0, none⟩)), (11, .pointer (some ⟨b11, 0, none⟩)), (12, .pointer (some ⟨b12, 0, none⟩)), (13, .pointer (some ⟨b13, 0, none⟩)), (15, .slice (some ⟨g15, 0, none⟩) out.length c15), (17, .slice (some ⟨g17, 0, none⟩) Z.length c17), (25, covV b11 b12 b13), (26, .int .i64 n)]) (fun _ => [un (rowsO 3 X), .ow (.slice (some ⟨g9, 0, none⟩) l.length c9) 26 1 l.length (X.map (·.1)), .pt b11 [.int .i64 n] 3, .pt b12 [.int .i64 mst] 3, .pt b13 [.slice (some ⟨g13, 0, none⟩) l.length c13] 49, un (rowsO 3 Y), .ow (.slice (some ⟨g13, 0, none⟩) l.length c13) 26 1 l.length (Y.map (·.1)), .ow (.slice (some ⟨g15, 0, none⟩) out.length c15) 3 1 out.length (ints (chI out)), .ow (.slice (some ⟨g17, 0, none⟩) Z.length c17) 96 3 Z.length (znC Z), dkP (.slice at0 nt ct) b10 (0)]) ?_ ?_
    rotate_left
    · intro KZ hKZ
      (refine q_block ?_)
      refine q_loop (σ := Nat) (fun i => i ≤ Z.length) (fun i => Z.length - i) (fun i => [(3, .int .u8 mo), (9, .slice (some ⟨g9, 0, none⟩) l.length c9), (10, .pointer (some ⟨b10, 0, none⟩)), (11, .pointer (some ⟨b11, 0, none⟩)), (12, .pointer (some ⟨b12, 0, none⟩)), (13, .pointer (some ⟨b13, 0, none⟩)), (15, .slice (some ⟨g15, 0, none⟩) out.length c15), (17, .slice (some ⟨g17, 0, none⟩) Z.length c17), (25, covV b11 b12 b13), (26, .int .i64 (nxtZ Z 0 i)), (144, .slice (some ⟨g17, 0, none⟩) Z.length c17), (145, .int .i64 Z.length), (146, .int .i64 i)]) (fun _ => [un (rowsO 3 X), .ow (.slice (some ⟨g9, 0, none⟩) l.length c9) 26 1 l.length (X.map (·.1)), .pt b11 [.int .i64 n] 3, .pt b12 [.int .i64 mst] 3, .pt b13 [.slice (some ⟨g13, 0, none⟩) l.length c13] 49, un (rowsO 3 Y), .ow (.slice (some ⟨g13, 0, none⟩) l.length c13) 26 1 l.length (Y.map (·.1)), .ow (.slice (some ⟨g15, 0, none⟩) out.length c15) 3 1 out.length (ints (chI out)), .ow (.slice (some ⟨g17, 0, none⟩) Z.length c17) 96 3 Z.length (znC Z), dkP (.slice at0 nt ct) b10 (0)]) 0 (by omega) ⟨rfl, rfl, rfl, rfl, rfl, rfl, rfl, rfl, rfl, rfl, rfl, rfl, rfl, trivial⟩ (by repeat constructor) ?_
      rintro i hi K1 hK1
      (refine q_seq (q_region (ql_pure tabOk rfl rfl (q_nil (q_seq ?_)))))
      refine q_if rfl (fun hc => ?_) (fun hc => ?_)
      · have hi2 : i < Z.length := by omega
        clear hc
        have hzz := hzi i hi2
        have hnx : nxtZ Z 0 (i + 1) = Z[i].2.1 + 1 := by
          show (Z.getD i (0, 0, 0)).2.1 + 1 = _
          rw [List.getD_eq_getElem?_getD, List.getElem?_eq_getElem hi2]
          rfl
        have hz0 := hzz.frm
        have hz2 := hzz.a0
        have hz3 := hzz.le
        have hz4 := hzz.lt
        have hz5 := hzz.w0
        have hz6 := hzz.w1
        have hz7 := hzz.good
        rw [hRl] at hz6
        (refine q_skip (q_seq (q_block (q_seq (q_region ?_)))))
        refine ql_index tabOk rfl rfl rfl rfl rfl (by omega) (by omega) ?_
        refine ql_loadA (cs := [.int .i64 Z[i].1, .int .i64 Z[i].2.1, .int .i64 Z[i].2.2]) tabOk rfl rfl rfl rfl (fun w hs q hq => zn_at hs (by repeat constructor) hi2 q hq) ?_
        generalize Z[i] = z at hz0 hz3 hz4 hz5 hz6 hz7 hnx ⊢
        clear hzz
        obtain ⟨zf, zt, zw⟩ := z
        dsimp only at hz0 hz3 hz4 hz5 hz6 hz7 hnx ⊢
        rw [← hz0] at hz2 hz3 hz7 ⊢
        obtain ⟨zf, rfl⟩ := Int.eq_ofNat_of_zero_le hz2
        obtain ⟨zw, rfl⟩ := Int.eq_ofNat_of_zero_le hz5
        obtain ⟨zt, rfl⟩ := Int.eq_ofNat_of_zero_le (show 0 ≤ zt by omega)
        have hw3 : zw < Y.length := by omega
        obtain ⟨gk, ck, ek⟩ := hYs zw hw3
        have hwn := hYn _ (List.getElem_mem hw3)
        have hgood : ∀ s : Nat, zf ≤ s → s ≤ zt → Y[zw].2.getD s 0 ≤ mst := fun s h1 h2 => by
          have := hz7 s (by omega) (by omega)
          rw [Int.toNat_natCast, List.getD_eq_getElem?_getD (l := regV l n), List.getElem?_eq_getElem (by rw [hRl]; omega), Option.getD_some, ← hYg zw hw3] at this
          exact this
        skip
        refine ql_alloc zero96 rfl (fun b28 => ?_)
        (refine ql_setA tabOk rfl rfl rfl rfl rfl (by repeat constructor) rfl ?_; refine q_nil (q_seq (q_seq (q_region (ql_pure tabOk rfl rfl ?_)))); refine ql_loadBa tabOk rfl rfl rfl ?_; refine ql_pure tabOk rfl rfl (ql_neqF tabOk rfl rfl rfl (by omega) (ql_pure tabOk rfl rfl (ql_gyes rfl (ql_pure tabOk rfl rfl (ql_gyes rfl ?_))))); refine ql_loadBa tabOk rfl rfl rfl ?_; refine ql_gyes rfl (ql_pure tabOk rfl rfl (ql_gyes rfl ?_)); refine ql_loadBa tabOk rfl rfl rfl ?_; refine ql_gyes rfl (ql_lssF tabOk rfl rfl rfl (by omega) (ql_pure tabOk rfl rfl (ql_pure tabOk rfl rfl (ql_gyes rfl (ql_pure tabOk rfl rfl (ql_gyes rfl ?_)))))); refine ql_loadBa tabOk rfl rfl rfl ?_; refine ql_gyes rfl ?_; refine ql_loadBa tabOk rfl rfl rfl ?_; refine ql_gyes rfl (ql_geqF tabOk rfl rfl rfl (by omega) (ql_pure tabOk rfl rfl (ql_pure tabOk rfl rfl (ql_gyes rfl (ql_pure tabOk rfl rfl (ql_gyes rfl ?_)))))); refine ql_loadBa tabOk rfl rfl rfl ?_; refine ql_gyes rfl (ql_lssF tabOk rfl rfl rfl (by omega) (ql_pure tabOk rfl rfl (ql_pure tabOk rfl rfl (ql_gyes rfl (ql_pure tabOk rfl rfl (ql_gyes rfl ?_)))))); refine ql_loadBa tabOk rfl rfl rfl ?_; refine ql_gyes rfl ?_; refine ql_loadBa tabOk rfl rfl rfl ?_; refine ql_gyes rfl (ql_pure tabOk rfl rfl (ql_gyes rfl (ql_geqF tabOk rfl rfl rfl (by omega) (ql_pure tabOk rfl rfl (q_nil (q_cond_false rfl (q_skip (q_seq (q_seq (q_region (ql_pure tabOk rfl rfl ?_))))))))))); refine ql_loadBa tabOk rfl rfl rfl ?_; refine ql_pure tabOk rfl rfl (q_nil (q_block ?_)))
        refine q_loop (σ := Nat) (fun s => zf ≤ s ∧ s ≤ zt + 1) (fun s => zt + 1 - s) (fun s => [(3, .int .u8 mo), (9, .slice (some ⟨g9, 0, none⟩) l.length c9), (10, .pointer (some ⟨b10, 0, none⟩)), (11, .pointer (some ⟨b11, 0, none⟩)), (12, .pointer (some ⟨b12, 0, none⟩)), (13, .pointer (some ⟨b13, 0, none⟩)), (15, .slice (some ⟨g15, 0, none⟩) out.length c15), (17, .slice (some ⟨g17, 0, none⟩) Z.length c17), (25, covV b11 b12 b13), (28, .pointer (some ⟨b28, 0, none⟩)), (29, .int .i64 s), (144, .slice (some ⟨g17, 0, none⟩) Z.length c17), (145, .int .i64 Z.length), (146, .int .i64 i)]) (fun _ => [.pt b28 [.int .i64 zf, .int .i64 zt, .int .i64 zw] 96, un (rowsO 3 X), .ow (.slice (some ⟨g9, 0, none⟩) l.length c9) 26 1 l.length (X.map (·.1)), .pt b11 [.int .i64 n] 3, .pt b12 [.int .i64 mst] 3, .pt b13 [.slice (some ⟨g13, 0, none⟩) l.length c13] 49, un (rowsO 3 Y), .ow (.slice (some ⟨g13, 0, none⟩) l.length c13) 26 1 l.length (Y.map (·.1)), .ow (.slice (some ⟨g15, 0, none⟩) out.length c15) 3 1 out.length (ints (chI out)), .ow (.slice (some ⟨g17, 0, none⟩) Z.length c17) 96 3 Z.length (znC Z), dkP (.slice at0 nt ct) b10 (0)]) zf ⟨Nat.le_refl _, by omega⟩ ⟨rfl, rfl, rfl, rfl, rfl, rfl, rfl, rfl, rfl, rfl, rfl, rfl, rfl, rfl, trivial⟩ (by repeat constructor) ?_
        rintro s ⟨hs1, hs2⟩ K2 hK2
        (refine q_seq (q_seq (q_region (ql_pure tabOk rfl rfl (ql_pure tabOk rfl rfl ?_)))); refine ql_loadBa tabOk rfl rfl rfl ?_; refine ql_pure tabOk rfl rfl (q_nil ?_))
        refine q_if rfl (fun hc => ?_) (fun hc => ?_)
        · have hs3 : s ≤ zt := by omega
          clear hc
          have hsn : s < n := by omega
          have hgs := hgood s hs1 hs3
          (refine q_skip (q_seq (q_block (q_seq ?_))))
          refine q_draw _ [] (Sp.refl _) (by kernel_rfl) (by kernel_rfl) ?_
          (refine qf_loadBa tabOk rfl rfl rfl ?_; refine qf_pure tabOk rfl rfl rfl ?_; refine qf_loadBa tabOk rfl rfl rfl ?_)
          refine qf_index tabOk rfl rfl rfl rfl rfl (by omega) (by omega) ?_
          refine qf_load1 (v := .slice (some ⟨gk, 0, none⟩) n ck) tabOk rfl rfl rfl (fun w hs => row_cell hs (t := 26) (X := Y) (by repeat constructor) hw3 ek rfl) ?_
          (refine qf_pure tabOk rfl rfl rfl ?_)
          refine qf_index tabOk rfl rfl rfl rfl rfl (by omega) (by omega) ?_
          refine qf_load1 (v := .int .i64 (Y[zw].2.getD s 0)) tabOk rfl rfl rfl (fun w hs => row_at hs (t := 3) (X := Y) (by repeat constructor) hw3 ek (by omega) rfl (by omega)) ?_
          generalize Y[zw].2.getD s 0 = gs at hgs ⊢
          (refine qf_loadBa tabOk rfl rfl rfl ?_; refine qf_gtrF tabOk rfl rfl rfl (by omega) (qf_nil (q_cond_false rfl (q_skip (q_blk (q_region (ql_pure tabOk rfl rfl (ql_ar tabOk rfl rfl rfl rfl (by omega) (by omega) (ql_pure tabOk rfl rfl (q_nil ?_))))))))))
          exact hK2 (s + 1) _ _ ⟨by omega, by omega⟩ (by omega) ⟨rfl, rfl, rfl, rfl, rfl, rfl, rfl, rfl, rfl, rfl, rfl, rfl, rfl, rfl, trivial⟩ (by repeat constructor)
        · obtain rfl : s = zt + 1 := by omega
          (refine q_exit _ rfl (q_region (ql_pure tabOk rfl rfl ?_)); refine ql_loadBa tabOk rfl rfl rfl ?_; refine ql_ar tabOk rfl rfl rfl rfl (by omega) (by omega) (ql_pure tabOk rfl rfl (q_nil (q_blk (q_region (ql_ar tabOk rfl rfl rfl rfl (by omega) (by omega) (ql_pure tabOk rfl rfl (q_nil ?_))))))))
          exact hK1 (i + 1) _ _ (by omega) (by omega) ⟨rfl, rfl, rfl, rfl, rfl, rfl, rfl, rfl, rfl, by rw [hnx]; rfl, rfl, rfl, rfl, trivial⟩ (by repeat constructor)
      · obtain rfl : i = Z.length := by omega
        rw [hzn]
        (refine q_exit _ rfl ?_)
        exact hKZ () _ _ ⟨rfl, rfl, rfl, rfl, rfl, rfl, rfl, rfl, rfl, rfl, trivial⟩ (by repeat constructor)
    intro _
    (refine q_seq (q_seq (q_region (ql_pure tabOk rfl rfl ?_))); refine ql_loadBa tabOk rfl rfl rfl ?_; refine ql_neqF tabOk rfl rfl rfl (by omega) (q_nil (q_cond_false rfl (q_skip (q_seq (q_seq (q_region (ql_pure tabOk rfl rfl (q_nil (q_block ?_))))))))))
    refine q_loop (σ := Nat) (fun r => r ≤ 6) (fun r => 6 - r) (fun r => [(3, .int .u8 mo), (9, .slice (some ⟨g9, 0, none⟩) l.length c9), (10, .pointer (some ⟨b10, 0, none⟩)), (11, .pointer (some ⟨b11, 0, none⟩)), (12, .pointer (some ⟨b12, 0, none⟩)), (15, .slice (some ⟨g15, 0, none⟩) out.length c15), (17, .slice (some ⟨g17, 0, none⟩) Z.length c17), (25, covV b11 b12 b13), (204, .int .i64 r)]) (fun r => [un (rowsO 3 X), .ow (.slice (some ⟨g9, 0, none⟩) l.length c9) 26 1 l.length (X.map (·.1)), .pt b11 [.int .i64 n] 3, .pt b12 [.int .i64 mst] 3, .pt b13 [.slice (some ⟨g13, 0, none⟩) l.length c13] 49, un (rowsO 3 Y), .ow (.slice (some ⟨g13, 0, none⟩) l.length c13) 26 1 l.length (Y.map (·.1)), .ow (.slice (some ⟨g15, 0, none⟩) out.length c15) 3 1 out.length (ints (chI out)), .ow (.slice (some ⟨g17, 0, none⟩) Z.length c17) 96 3 Z.length (znC Z), dkP (.slice at0 nt ct) b10 (r * 30)]) 0 (by omega) ⟨rfl, rfl, rfl, rfl, rfl, rfl, rfl, rfl, rfl, trivial⟩ (by repeat constructor) ?_
    rintro r hr K1 hK1
    (refine q_seq (q_region (ql_pure tabOk rfl rfl (q_nil (q_seq ?_)))))
    refine q_if rfl (fun hc => ?_) (fun hc => ?_)
    · have hr2 : r < 6 := by omega
      clear hc
      (refine q_skip (q_seq (q_block (q_seq (q_region (ql_pure tabOk rfl rfl (ql_pure tabOk rfl rfl (q_nil (q_seq (q_seq (q_region ?_)))))))))); (iterate 3 refine ql_pure tabOk rfl rfl ?_); refine q_nil (q_block ?_))
      refine q_conv (H' := [.ow (.slice none 0 0) 3 1 0 (ints (chI [])), un (rowsO 3 X), .ow (.slice (some ⟨g9, 0, none⟩) l.length c9) 26 1 l.length (X.map (·.1)), .pt b11 [.int .i64 n] 3, .pt b12 [.int .i64 mst] 3, .pt b13 [.slice (some ⟨g13, 0, none⟩) l.length c13] 49, un (rowsO 3 Y), .ow (.slice (some ⟨g13, 0, none⟩) l.length c13) 26 1 l.length (Y.map (·.1)), .ow (.slice (some ⟨g15, 0, none⟩) out.length c15) 3 1 out.length (ints (chI out)), .ow (.slice (some ⟨g17, 0, none⟩) Z.length c17) 96 3 Z.length (znC Z), dkP (.slice at0 nt ct) b10 (r * 30 + 0)]) (fun w' hs => (Sat.ownil (hs.sp (H' := [un (rowsO 3 X), .ow (.slice (some ⟨g9, 0, none⟩) l.length c9) 26 1 l.length (X.map (·.1)), .pt b11 [.int .i64 n] 3, .pt b12 [.int .i64 mst] 3, .pt b13 [.slice (some ⟨g13, 0, none⟩) l.length c13] 49, un (rowsO 3 Y), .ow (.slice (some ⟨g13, 0, none⟩) l.length c13) 26 1 l.length (Y.map (·.1)), .ow (.slice (some ⟨g15, 0, none⟩) out.length c15) 3 1 out.length (ints (chI out)), .ow (.slice (some ⟨g17, 0, none⟩) Z.length c17) 96 3 Z.length (znC Z), dkP (.slice at0 nt ct) b10 (r * 30)]) (by repeat constructor)) 3 1).sp (by repeat constructor)) ?_
      refine q_loop (σ := Nat × Value × List Nat) (fun s => s.1 ≤ l.length ∧ Inc s.1 s.2.2) (fun s => l.length - s.1) (fun s => [(3, .int .u8 mo), (9, .slice (some ⟨g9, 0, none⟩) l.length c9), (10, .pointer (some ⟨b10, 0, none⟩)), (11, .pointer (some ⟨b11, 0, none⟩)), (12, .pointer (some ⟨b12, 0, none⟩)), (15, .slice (some ⟨g15, 0, none⟩) out.length c15), (17, .slice (some ⟨g17, 0, none⟩) Z.length c17), (25, covV b11 b12 b13), (30, s.2.1), (31, .slice none 0 0), (204, .int .i64 r), (207, .int .i64 l.length), (208, .int .i64 s.1)]) (fun s => [.ow s.2.1 3 1 s.2.2.length (ints (chI s.2.2)), un (rowsO 3 X), .ow (.slice (some ⟨g9, 0, none⟩) l.length c9) 26 1 l.length (X.map (·.1)), .pt b11 [.int .i64 n] 3, .pt b12 [.int .i64 mst] 3, .pt b13 [.slice (some ⟨g13, 0, none⟩) l.length c13] 49, un (rowsO 3 Y), .ow (.slice (some ⟨g13, 0, none⟩) l.length c13) 26 1 l.length (Y.map (·.1)), .ow (.slice (some ⟨g15, 0, none⟩) out.length c15) 3 1 out.length (ints (chI out)), .ow (.slice (some ⟨g17, 0, none⟩) Z.length c17) 96 3 Z.length (znC Z), dkP (.slice at0 nt ct) b10 (r * 30 + s.1)]) (0, .slice none 0 0, []) ⟨by simp, List.Pairwise.nil, fun x hx => by cases hx⟩ ⟨rfl, rfl, rfl, rfl, rfl, rfl, rfl, rfl, rfl, rfl, rfl, rfl, rfl, trivial⟩ (by repeat constructor) ?_
      rintro ⟨i, u, ch⟩ ⟨hi, hIn⟩ K2 hK2
      dsimp only at hi hIn ⊢
      have hchl := inc_len hIn
      (refine q_seq (q_region (ql_pure tabOk rfl rfl (q_nil (q_seq ?_)))))
      refine q_if rfl (fun hc => ?_) (fun hc => ?_)
      · have hi2 : i < l.length := by omega
        clear hc
        (refine q_skip (q_seq (q_block (q_seq (q_region (ql_pure tabOk rfl rfl (ql_pure tabOk rfl rfl (q_nil (q_seq (q_region (ql_pure tabOk rfl rfl ?_)))))))))))
        refine ql_call (β := Bool) (ψ := fun x v => v = .bool x) (L' := fun _ => [dkP (.slice at0 nt ct) b10 (r * 30 + i + 1)]) tabOk [dkP (.slice at0 nt ct) b10 (r * 30 + i)] _ (fun x => x = b10) rfl rfl rfl rfl (Sp.cons (by repeat constructor) (Sp.refl _)) (fun x hx => ⟨_, .head _, hx⟩) (fun w' hs => coin0 hbyb10 hs (by omega) (by omega)) ?_
        rintro cbx _ rfl
        dsimp only [List.cons_append, List.nil_append]
        cases cbx with
        | true =>
          (refine q_nil (q_cond_true rfl (q_region (ql_pure tabOk rfl rfl (ql_pure tabOk rfl rfl ?_)))))
          refine ql_mkS 3 [.int .i64 i] rfl (by kernel_rfl) rfl (fun bn => ?_)
          skip
          refine ql_append (q := 1) (news := [.int .i64 i]) slI rfl rfl rfl (fun v' => by repeat constructor) (fun w' hs => ⟨_, _, Blk.rdN (hs.blk (b := bn) (by repeat constructor)) rfl⟩) (by simp [oneV]) (by omega) (by omega) (fun u' => ?_)
          (refine ql_pure tabOk rfl rfl (q_nil (q_blk (q_region (ql_ar tabOk rfl rfl rfl rfl (by omega) (by omega) (ql_pure tabOk rfl rfl (q_nil ?_)))))))
          exact hK2 (i + 1, u', ch ++ [i]) _ _ ⟨by simp only; omega, hIn.push⟩ (by simp only; omega) ⟨rfl, rfl, rfl, rfl, rfl, rfl, rfl, rfl, rfl, rfl, rfl, rfl, rfl, trivial⟩ (by dsimp only; rw [chI_app, chI_snoc, List.length_append, List.length_singleton]; repeat constructor)
        | false =>
          (refine q_nil (q_cond_false rfl (q_skip (q_blk (q_region (ql_ar tabOk rfl rfl rfl rfl (by omega) (by omega) (ql_pure tabOk rfl rfl (q_nil ?_))))))))
          exact hK2 (i + 1, u, ch) _ _ ⟨by simp only; omega, hIn.up⟩ (by simp only; omega) ⟨rfl, rfl, rfl, rfl, rfl, rfl, rfl, rfl, rfl, rfl, rfl, rfl, rfl, trivial⟩ (by repeat constructor)
      · obtain rfl : i = l.length := by omega
        clear hc hK2 hi
        (refine q_exit _ rfl (q_seq (q_seq (q_region ?_))); refine ql_loadBa tabOk rfl rfl rfl ?_; refine ql_pure tabOk rfl rfl (q_nil (q_block ?_)))
        refine q_fact (fun w hs => hs.slice2 (v := u) (by repeat constructor)) ?_
        rintro ⟨a30, c30, rfl⟩
        obtain ⟨ch1, hch1⟩ : ∃ ch1, ch1 = ch := ⟨_, rfl⟩
        rw [← hch1]
        rw [← hch1] at hIn hchl
        clear hch1
        have hIn1 := hIn
        have hchl1 := hchl
        clear hIn hchl
        refine q_conv (H' := [.ow (.slice none 0 0) 3 1 0 (ints (chI [])), .ow (.slice a30 ch1.length c30) 3 1 ch1.length (ints (chI ch1)), un (rowsO 3 X), .ow (.slice (some ⟨g9, 0, none⟩) l.length c9) 26 1 l.length (X.map (·.1)), .pt b11 [.int .i64 n] 3, .pt b12 [.int .i64 mst] 3, .pt b13 [.slice (some ⟨g13, 0, none⟩) l.length c13] 49, un (rowsO 3 Y), .ow (.slice (some ⟨g13, 0, none⟩) l.length c13) 26 1 l.length (Y.map (·.1)), .ow (.slice (some ⟨g15, 0, none⟩) out.length c15) 3 1 out.length (ints (chI out)), .ow (.slice (some ⟨g17, 0, none⟩) Z.length c17) 96 3 Z.length (znC Z), dkP (.slice at0 nt ct) b10 (r * 30 + l.length + 0)]) (fun w' hs => (Sat.ownil (hs.sp (H' := [.ow (.slice a30 ch1.length c30) 3 1 ch1.length (ints (chI ch1)), un (rowsO 3 X), .ow (.slice (some ⟨g9, 0, none⟩) l.length c9) 26 1 l.length (X.map (·.1)), .pt b11 [.int .i64 n] 3, .pt b12 [.int .i64 mst] 3, .pt b13 [.slice (some ⟨g13, 0, none⟩) l.length c13] 49, un (rowsO 3 Y), .ow (.slice (some ⟨g13, 0, none⟩) l.length c13) 26 1 l.length (Y.map (·.1)), .ow (.slice (some ⟨g15, 0, none⟩) out.length c15) 3 1 out.length (ints (chI out)), .ow (.slice (some ⟨g17, 0, none⟩) Z.length c17) 96 3 Z.length (znC Z), dkP (.slice at0 nt ct) b10 (r * 30 + l.length)]) (by repeat constructor)) 3 1).sp (by repeat constructor)) ?_
        refine q_loop (σ := Nat × Value × List Nat) (fun s => s.1 ≤ n ∧ Inc s.1 s.2.2) (fun s => n - s.1) (fun s => [(3, .int .u8 mo), (9, .slice (some ⟨g9, 0, none⟩) l.length c9), (10, .pointer (some ⟨b10, 0, none⟩)), (11, .pointer (some ⟨b11, 0, none⟩)), (12, .pointer (some ⟨b12, 0, none⟩)), (15, .slice (some ⟨g15, 0, none⟩) out.length c15), (17, .slice (some ⟨g17, 0, none⟩) Z.length c17), (25, covV b11 b12 b13), (30, .slice a30 ch1.length c30), (31, s.2.1), (204, .int .i64 r), (218, .int .i64 n), (219, .int .i64 s.1)]) (fun s => [.ow s.2.1 3 1 s.2.2.length (ints (chI s.2.2)), .ow (.slice a30 ch1.length c30) 3 1 ch1.length (ints (chI ch1)), un (rowsO 3 X), .ow (.slice (some ⟨g9, 0, none⟩) l.length c9) 26 1 l.length (X.map (·.1)), .pt b11 [.int .i64 n] 3, .pt b12 [.int .i64 mst] 3, .pt b13 [.slice (some ⟨g13, 0, none⟩) l.length c13] 49, un (rowsO 3 Y), .ow (.slice (some ⟨g13, 0, none⟩) l.length c13) 26 1 l.length (Y.map (·.1)), .ow (.slice (some ⟨g15, 0, none⟩) out.length c15) 3 1 out.length (ints (chI out)), .ow (.slice (some ⟨g17, 0, none⟩) Z.length c17) 96 3 Z.length (znC Z), dkP (.slice at0 nt ct) b10 (r * 30 + l.length + s.1)]) (0, .slice none 0 0, []) ⟨by simp, List.Pairwise.nil, fun x hx => by cases hx⟩ ⟨rfl, rfl, rfl, rfl, rfl, rfl, rfl, rfl, rfl, rfl, rfl, rfl, rfl, trivial⟩ (by repeat constructor) ?_
        rintro ⟨i, u, ch⟩ ⟨hi, hIn⟩ K2 hK2
        dsimp only at hi hIn ⊢
        have hchl := inc_len hIn
        (refine q_seq (q_region (ql_pure tabOk rfl rfl (q_nil (q_seq ?_)))))
        refine q_if rfl (fun hc => ?_) (fun hc => ?_)
        · have hi2 : i < n := by omega
          clear hc
          (refine q_skip (q_seq (q_block (q_seq (q_region (ql_pure tabOk rfl rfl (ql_pure tabOk rfl rfl (q_nil (q_seq (q_region (ql_pure tabOk rfl rfl ?_)))))))))))
          refine ql_call (β := Bool) (ψ := fun x v => v = .bool x) (L' := fun _ => [dkP (.slice at0 nt ct) b10 (r * 30 + l.length + i + 1)]) tabOk [dkP (.slice at0 nt ct) b10 (r * 30 + l.length + i)] _ (fun x => x = b10) rfl rfl rfl rfl (Sp.cons (by repeat constructor) (Sp.refl _)) (fun x hx => ⟨_, .head _, hx⟩) (fun w' hs => coin0 hbyb10 hs (by omega) (by omega)) ?_
          rintro cbx _ rfl
          dsimp only [List.cons_append, List.nil_append]
          cases cbx with
          | true =>
            (refine q_nil (q_cond_true rfl (q_region (ql_pure tabOk rfl rfl (ql_pure tabOk rfl rfl ?_)))))
            refine ql_mkS 3 [.int .i64 i] rfl (by kernel_rfl) rfl (fun bn => ?_)
            skip
            refine ql_append (q := 1) (news := [.int .i64 i]) slI rfl rfl rfl (fun v' => by repeat constructor) (fun w' hs => ⟨_, _, Blk.rdN (hs.blk (b := bn) (by repeat constructor)) rfl⟩) (by simp [oneV]) (by omega) (by omega) (fun u' => ?_)
            (refine ql_pure tabOk rfl rfl (q_nil (q_blk (q_region (ql_ar tabOk rfl rfl rfl rfl (by omega) (by omega) (ql_pure tabOk rfl rfl (q_nil ?_)))))))
            exact hK2 (i + 1, u', ch ++ [i]) _ _ ⟨by simp only; omega, hIn.push⟩ (by simp only; omega) ⟨rfl, rfl, rfl, rfl, rfl, rfl, rfl, rfl, rfl, rfl, rfl, rfl, rfl, trivial⟩ (by dsimp only; rw [chI_app, chI_snoc, List.length_append, List.length_singleton]; repeat constructor)
          | false =>
            (refine q_nil (q_cond_false rfl (q_skip (q_blk (q_region (ql_ar tabOk rfl rfl rfl rfl (by omega) (by omega) (ql_pure tabOk rfl rfl (q_nil ?_))))))))
            exact hK2 (i + 1, u, ch) _ _ ⟨by simp only; omega, hIn.up⟩ (by simp only; omega) ⟨rfl, rfl, rfl, rfl, rfl, rfl, rfl, rfl, rfl, rfl, rfl, rfl, rfl, trivial⟩ (by repeat constructor)
        · have hin : n = i := by omega
          subst hin
          clear hc hK2 hi
          refine q_fact (fun w hs => hs.slice2 (v := u) (by repeat constructor)) ?_
          rintro ⟨a31, c31, rfl⟩
          obtain ⟨hb2, hb1⟩ := hbrk ch (fun x hx => hIn.2 x hx)
          have hcv := hmin ch1 hIn1
          refine q_conv (H' := [.ow (.slice a30 ch1.length c30) 3 1 ch1.length (ints (chI ch1)), .ow (.slice a31 ch.length c31) 3 1 ch.length (ints (chI ch)), un (rowsO 3 X), .ow (.slice (some ⟨g9, 0, none⟩) l.length c9) 26 1 l.length (X.map (·.1)), .pt b11 [.int .i64 n] 3, .pt b12 [.int .i64 mst] 3, .pt b13 [.slice (some ⟨g13, 0, none⟩) l.length c13] 49, un (rowsO 3 Y), .ow (.slice (some ⟨g13, 0, none⟩) l.length c13) 26 1 l.length (Y.map (·.1)), .ow (.slice (some ⟨g15, 0, none⟩) out.length c15) 3 1 out.length (ints (chI out)), .ow (.slice (some ⟨g17, 0, none⟩) Z.length c17) 96 3 Z.length (znC Z), dkP (.slice at0 nt ct) b10 ((r + 1) * 30)]) (fun w' hs => by
            have h1 := hs.sp (H' := dkP (.slice at0 nt ct) b10 (r * 30 + l.length + n) :: [.ow (.slice a30 ch1.length c30) 3 1 ch1.length (ints (chI ch1)), .ow (.slice a31 ch.length c31) 3 1 ch.length (ints (chI ch)), un (rowsO 3 X), .ow (.slice (some ⟨g9, 0, none⟩) l.length c9) 26 1 l.length (X.map (·.1)), .pt b11 [.int .i64 n] 3, .pt b12 [.int .i64 mst] 3, .pt b13 [.slice (some ⟨g13, 0, none⟩) l.length c13] 49, un (rowsO 3 Y), .ow (.slice (some ⟨g13, 0, none⟩) l.length c13) 26 1 l.length (Y.map (·.1)), .ow (.slice (some ⟨g15, 0, none⟩) out.length c15) 3 1 out.length (ints (chI out)), .ow (.slice (some ⟨g17, 0, none⟩) Z.length c17) 96 3 Z.length (znC Z)]) (by repeat constructor)
            exact (Sat.dk h1 (K' := (r + 1) * 30) (by omega)).sp (by repeat constructor)) ?_
          (refine q_exit _ rfl (q_seq (q_region (ql_pure tabOk rfl rfl ?_))); refine ql_loadBa tabOk rfl rfl rfl ?_; refine ql_pure tabOk rfl rfl ?_)
          refine ql_callv (val := .tuple #[.bool (breaksV l mst (chI ch)).1, .int .i64 0]) tabOk rfl rfl rfl rfl (fun w hs => ?_) ?_; exact by have := breaksShow_ca w 0 w.heap.size 0 w.heap.size _ (.slice a31 ch.length c31) l mst (chI ch) (by have := own_rdII hs (X := X) (t := 3) (t2 := 26) (v := .slice (some ⟨g9, 0, none⟩) l.length c9) (n := l.length) (by repeat constructor) (by repeat constructor); rw [← hl] at this; exact this) (own_rdI (t := 3) (hs.mem (c := .ow (.slice a31 ch.length c31) 3 1 ch.length (ints (chI ch))) (by repeat constructor)) (chI_len _).symm) (by rw [chI_len]; omega); rw [hb2] at this; exact this
          (refine ql_pure tabOk rfl rfl (ql_ext tabOk rfl rfl rfl (ql_ext tabOk rfl rfl rfl (ql_pure tabOk rfl rfl (ql_pure tabOk rfl rfl (q_nil (q_seq (q_region (ql_pure tabOk rfl rfl (ql_neqF tabOk rfl rfl rfl (by omega) (ql_pure tabOk rfl rfl (ql_gyes rfl ?_))))))))))); refine ql_pure tabOk rfl rfl (ql_gyes rfl (ql_pure tabOk rfl rfl (ql_gyes rfl ?_))))
          refine ql_callFv rfl rfl rfl (fun w hs => CaF.of tabOk (by kernel_rfl) (covers_ca w b11 b12 b13 n 0 w.heap.size mst (regV l n) ch1 (.slice a30 ch1.length c30) (own_rdI (t := 3) (hs.mem (c := .ow (.slice a30 ch1.length c30) 3 1 ch1.length (ints (chI ch1))) (by repeat constructor)) (chI_len _).symm) (cov_env hs (t := 3) (t1 := 3) (t2 := 26) (t3 := 49) (t4 := 3) (by repeat constructor) (by repeat constructor) (by repeat constructor) (by repeat constructor) (by repeat constructor) hY hRl.symm)  (fun x hx => by rw [hRl]; exact hIn1.2 x hx) (by omega) hRn (by omega) (by omega))) ?_
          generalize (breaksV l mst (chI ch)).1 = isb at hb1 ⊢
          cases hcb : covB (regV l n) mst n ch1 with
          | true =>
            have hcv2 := hcv hcb
            cases isb with
            | true =>
              obtain ⟨hb3, hb4⟩ := hb1 rfl
              (refine ql_gyes rfl (ql_pure tabOk rfl rfl (ql_gyes rfl (ql_pure tabOk rfl rfl (ql_gyes rfl (ql_pure tabOk rfl rfl (ql_gyes rfl (ql_pure tabOk rfl rfl (ql_gyes rfl (ql_pure tabOk rfl rfl (ql_gyes rfl (ql_lssF tabOk rfl rfl rfl (by omega) ?_))))))))))); refine ql_gyes rfl ?_; (iterate 3 refine ql_pure tabOk rfl rfl ?_); refine ql_gyes rfl (ql_pure tabOk rfl rfl (ql_gyes rfl (ql_pure tabOk rfl rfl (ql_gyes rfl (ql_pure tabOk rfl rfl (ql_gyes rfl (ql_pure tabOk rfl rfl (ql_gyes rfl (ql_pure tabOk rfl rfl (ql_gyes rfl (ql_pure tabOk rfl rfl ?_))))))))))); refine ql_gyes rfl (ql_gtrF tabOk rfl rfl rfl (by omega) (ql_gyes rfl (ql_pure tabOk rfl rfl (ql_gyes rfl (ql_pure tabOk rfl rfl (ql_gyes rfl (ql_pure tabOk rfl rfl (ql_gyes rfl (ql_eqlF tabOk rfl rfl rfl (by omega) (ql_gyes rfl (ql_pure tabOk rfl rfl ?_))))))))))); refine ql_gyes rfl (ql_pure tabOk rfl rfl (ql_pure tabOk rfl rfl (q_nil (q_cond_false rfl (q_skip (q_blk (q_region (ql_ar tabOk rfl rfl rfl rfl (by omega) (by omega) (ql_pure tabOk rfl rfl (q_nil ?_)))))))))))
              exact hK1 (r + 1) _ _ (by omega) (by omega) ⟨rfl, rfl, rfl, rfl, rfl, rfl, rfl, rfl, rfl, trivial⟩ (by repeat constructor)
            | false =>
              (refine ql_gyes rfl (ql_pure tabOk rfl rfl (ql_gyes rfl (ql_pure tabOk rfl rfl (ql_gyes rfl (ql_pure tabOk rfl rfl (ql_gyes rfl (ql_pure tabOk rfl rfl (ql_gyes rfl (ql_pure tabOk rfl rfl (ql_gyes rfl (ql_lssF tabOk rfl rfl rfl (by omega) ?_))))))))))); refine ql_gyes rfl ?_; (iterate 3 refine ql_pure tabOk rfl rfl ?_); refine ql_gyes rfl (ql_pure tabOk rfl rfl (ql_gyes rfl (ql_pure tabOk rfl rfl ?_))); (iterate 6 refine ql_gno rfl rfl rfl ?_); (iterate 3 refine ql_gnone rfl rfl ?_); refine ql_gno rfl rfl rfl (ql_gyes rfl (ql_pure tabOk rfl rfl (ql_pure tabOk rfl rfl (q_nil (q_cond_false rfl (q_skip (q_blk (q_region (ql_ar tabOk rfl rfl rfl rfl (by omega) (by omega) (ql_pure tabOk rfl rfl (q_nil ?_))))))))))))
              exact hK1 (r + 1) _ _ (by omega) (by omega) ⟨rfl, rfl, rfl, rfl, rfl, rfl, rfl, rfl, rfl, trivial⟩ (by repeat constructor)
          | false =>
            cases isb with
            | true =>
              obtain ⟨hb3, hb4⟩ := hb1 rfl
              (refine ql_gyes rfl (ql_pure tabOk rfl rfl ?_); (iterate 5 refine ql_gno rfl rfl rfl ?_); refine ql_gyes rfl ?_; (iterate 3 refine ql_pure tabOk rfl rfl ?_); refine ql_gyes rfl (ql_pure tabOk rfl rfl (ql_gyes rfl (ql_pure tabOk rfl rfl (ql_gyes rfl (ql_pure tabOk rfl rfl (ql_gyes rfl (ql_pure tabOk rfl rfl (ql_gyes rfl (ql_pure tabOk rfl rfl (ql_gyes rfl (ql_pure tabOk rfl rfl ?_))))))))))); refine ql_gyes rfl (ql_gtrF tabOk rfl rfl rfl (by omega) (ql_gyes rfl (ql_pure tabOk rfl rfl (ql_gyes rfl (ql_pure tabOk rfl rfl (ql_gyes rfl (ql_pure tabOk rfl rfl (ql_gyes rfl (ql_eqlF tabOk rfl rfl rfl (by omega) (ql_gyes rfl (ql_pure tabOk rfl rfl ?_))))))))))); refine ql_gyes rfl (ql_pure tabOk rfl rfl (ql_pure tabOk rfl rfl (q_nil (q_cond_false rfl (q_skip (q_blk (q_region (ql_ar tabOk rfl rfl rfl rfl (by omega) (by omega) (ql_pure tabOk rfl rfl (q_nil ?_)))))))))))
              exact hK1 (r + 1) _ _ (by omega) (by omega) ⟨rfl, rfl, rfl, rfl, rfl, rfl, rfl, rfl, rfl, trivial⟩ (by repeat constructor)
            | false =>
              (refine ql_gyes rfl (ql_pure tabOk rfl rfl ?_); (iterate 5 refine ql_gno rfl rfl rfl ?_); refine ql_gyes rfl ?_; (iterate 3 refine ql_pure tabOk rfl rfl ?_); refine ql_gyes rfl (ql_pure tabOk rfl rfl (ql_gyes rfl (ql_pure tabOk rfl rfl ?_))); (iterate 6 refine ql_gno rfl rfl rfl ?_); (iterate 3 refine ql_gnone rfl rfl ?_); refine ql_gno rfl rfl rfl (ql_gyes rfl (ql_pure tabOk rfl rfl (ql_pure tabOk rfl rfl (q_nil (q_cond_false rfl (q_skip (q_blk (q_region (ql_ar tabOk rfl rfl rfl rfl (by omega) (by omega) (ql_pure tabOk rfl rfl (q_nil ?_))))))))))))
              exact hK1 (r + 1) _ _ (by omega) (by omega) ⟨rfl, rfl, rfl, rfl, rfl, rfl, rfl, rfl, rfl, trivial⟩ (by repeat constructor)
    · obtain rfl : r = 6 := by omega
      clear hc hK1 hr
      obtain ⟨out2, ho2, _⟩ := bag_says hT (show 0 ≤ mst + d by omega)
      have hbm := bag_mono hT hm0.1 (show mst ≤ mst + d by omega) ho ho2
      have hz2 := zone_val hT (show 0 ≤ mst + d by omega) (by omega)
      have he2 : limitV l (mst + d) = 0 := limit_iff.2 ⟨by rw [show nV l = n from hT.v.2]; exact hT, by omega, by omega⟩
      generalize zonesF (regV l n) (mst + d) n (n + 1) 0 = Z2 at hz2 hzm
      have hz3 : (zonesV l (mst + d)).1 = Z2 := by rw [hz2]
      (refine q_exit _ rfl (q_seq (q_region (ql_pure tabOk rfl rfl ?_))); refine ql_loadBa tabOk rfl rfl rfl ?_; refine ql_pure tabOk rfl rfl (ql_pure tabOk rfl rfl (ql_remN rfl rfl rfl (by omega) (by omega) (ql_ar tabOk rfl rfl rfl rfl (by omega) (by omega) ?_))))
      rw [← hd]
      refine ql_call (β := Value) tabOk [] _ M0 rfl rfl rfl rfl (Sp.refl _) (fun _ h => h.elim) (fun w' hs => bag_ok w' 0 w'.heap.size _ l (mst + d) n (by have := own_rdII hs (X := X) (t := 3) (t2 := 26) (v := .slice (some ⟨g9, 0, none⟩) l.length c9) (n := l.length) (by repeat constructor) (by repeat constructor); rw [← hl] at this; exact this) hT (by omega) (by omega) out2 ho2) ?_
      rintro v36 _ rfl
      dsimp only [List.cons_append, List.nil_append]
      refine ql_fact (fun w hs => hs.slice2 (v := v36) (by repeat constructor)) ?_
      rintro ⟨a36, c36, rfl⟩
      (refine ql_pure tabOk rfl rfl (ql_ext tabOk rfl rfl rfl (ql_ext tabOk rfl rfl rfl (ql_pure tabOk rfl rfl (ql_pure tabOk rfl rfl (q_nil (q_seq (q_region (ql_pure tabOk rfl rfl ?_)))))))); refine ql_loadBa tabOk rfl rfl rfl ?_; refine ql_pure tabOk rfl rfl (ql_pure tabOk rfl rfl (ql_remN rfl rfl rfl (by omega) (by omega) (ql_ar tabOk rfl rfl rfl rfl (by omega) (by omega) ?_))))
      rw [← hd]
      refine ql_call (β := Value) tabOk [] _ M0 rfl rfl rfl rfl (Sp.refl _) (fun _ h => h.elim) (fun w' hs => zones_ok w' 0 w'.heap.size _ l (mst + d) (by have := own_rdII hs (X := X) (t := 3) (t2 := 26) (v := .slice (some ⟨g9, 0, none⟩) l.length c9) (n := l.length) (by repeat constructor) (by repeat constructor); rw [← hl] at this; exact this) he2) ?_
      rintro v37 _ rfl
      dsimp only [List.cons_append, List.nil_append]
      rw [hz3]
      refine ql_fact (fun w hs => hs.slice2 (v := v37) (by repeat constructor)) ?_
      rintro ⟨a37, c37, rfl⟩
      (refine ql_pure tabOk rfl rfl (ql_ext tabOk rfl rfl rfl (ql_ext tabOk rfl rfl rfl (ql_pure tabOk rfl rfl (ql_pure tabOk rfl rfl (q_nil (q_seq (q_region (ql_pure tabOk rfl rfl (ql_eqlT tabOk rfl rfl rfl (by omega) (ql_pure tabOk rfl rfl (ql_gyes rfl ?_))))))))))); refine ql_pure tabOk rfl rfl (ql_gyes rfl (ql_eqlT tabOk rfl rfl rfl (by omega) (ql_pure tabOk rfl rfl (ql_pure tabOk rfl rfl (ql_gyes rfl (ql_pure tabOk rfl rfl (ql_gyes rfl (ql_pure tabOk rfl rfl (ql_gyes rfl (ql_pure tabOk rfl rfl (ql_gyes rfl ?_))))))))))); refine ql_pure tabOk rfl rfl (ql_gyes rfl (ql_leqT tabOk rfl rfl rfl (by omega) (ql_pure tabOk rfl rfl (ql_pure tabOk rfl rfl (ql_gyes rfl (ql_pure tabOk rfl rfl (ql_gyes rfl (ql_pure tabOk rfl rfl (ql_gyes rfl (ql_pure tabOk rfl rfl (ql_gyes rfl ?_))))))))))); refine ql_pure tabOk rfl rfl (ql_gyes rfl (ql_leqT tabOk rfl rfl rfl (by omega) (ql_pure tabOk rfl rfl (ql_pure tabOk rfl rfl (ql_gyes rfl ?_))))))
      refine ql_callv (val := .bool true) tabOk rfl rfl rfl rfl (fun w hs => ?_) ?_; exact awake_ca w
      (refine ql_pure tabOk rfl rfl (ql_pure tabOk rfl rfl (q_nil (q_ret ?_))))
      refine q_fin tabOk rfl (by repeat constructor) fun w hs => ?_
      exact ⟨rfl, hs.chg0⟩
end Go.Proofs.Ytcmpdmobmbbplaa
