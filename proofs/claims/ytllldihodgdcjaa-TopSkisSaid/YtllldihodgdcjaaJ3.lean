/- My texts W18, W22, W23, W24, W27, Z0, Z1, Z2, Z3, Z4, Z5, ZF, joined: a claim takes at most 60 files. -/
import Derived.Test.YtllldihodgdcjaaJ2

/- The plain law of a chain: the search of a shortest chain of runs, and the way back. -/
namespace Go.Proofs.Ytllldihodgdcjaa
open Go Go.Eng
/-- The i-th run shows that one ski is faster than another one. -/
def Sh (l : Lb) (i f s : Nat) : Prop := i < l.runs.length ∧ runV l.err (l.runs.getD i ⟨0, 0, 0⟩) = some (f, s)
theorem mem_sh {l : Lb} {i f s : Nat} (h : Sh l i f s) : ∃ x ∈ shL l, x.1 = i ∧ x.2.1.toNat = f ∧ x.2.2.toNat = s := by
  obtain ⟨h1, h2⟩ := h
  rw [runI_nat] at h2
  obtain ⟨p, hp, h3⟩ := Option.map_eq_some_iff.1 h2
  refine ⟨(i, p), List.mem_filterMap.2 ⟨i, List.mem_range.2 h1, by rw [hp]; rfl⟩, rfl, ?_, ?_⟩
  · exact congrArg Prod.fst h3
  · exact congrArg Prod.snd h3
/-- A ski is reached by a chain of so many runs. -/
def Wk (l : Lb) (a : Nat) : Nat → Nat → Prop
  | 0, b => b = a
  | k + 1, b => ∃ s i, Wk l a k s ∧ Sh l i s b
theorem lead_snoc (l : Lb) : ∀ (c : List Int) (a i : Int), leadV l a (c ++ [i]) = (leadV l a c).bind fun x => leadV l x [i]
  | [], a, i => rfl
  | j :: c, a, i => by
    simp only [List.cons_append]
    unfold leadV
    split
    · rfl
    · rename_i p hp
      split
      · rw [lead_snoc l c p.2 i]
        rfl
      · rfl
theorem lead_one {l : Lb} (he : 0 ≤ l.err) {x i y : Int} (h : leadV l x [i] = some y) : ∃ f s : Nat, Sh l i.toNat f s ∧ (f : Int) = x ∧ (s : Int) = y := by
  unfold leadV at h
  split at h
  · cases h
  · rename_i p hp
    split at h
    · rename_i h1
      unfold leadV at h
      refine ⟨p.1, p.2, ⟨?_, hp⟩, h1, Option.some.inj h⟩
      rcases Nat.lt_or_ge i.toNat l.runs.length with h2 | h2
      · exact h2
      · exfalso
        rw [List.getD_eq_getElem?_getD, List.getElem?_eq_none h2, Option.getD_none] at hp
        unfold runV at hp
        rw [if_neg (by simp only; omega), if_neg (by simp only; omega)] at hp
        cases hp
    · cases h
theorem lead_wk {l : Lb} (he : 0 ≤ l.err) (a : Nat) : ∀ (n : Nat) (c : List Int) (y : Int), c.length = n → leadV l a c = some y → ∃ b : Nat, y = b ∧ Wk l a n b
  | 0, c, y, hn, h => by
    rw [List.length_eq_zero_iff.1 hn] at h
    exact ⟨a, (Option.some.inj h).symm, rfl⟩
  | n + 1, c, y, hn, h => by
    rcases List.eq_nil_or_concat c with rfl | ⟨c, i, rfl⟩
    · simp at hn
    · rw [List.concat_eq_append] at h hn
      rw [lead_snoc] at h
      obtain ⟨x, hx, h2⟩ := Option.bind_eq_some_iff.1 h
      obtain ⟨f, s, h3, h4, h5⟩ := lead_one he h2
      obtain ⟨b, hb, hw⟩ := lead_wk he a n c x (by simpa using hn) hx
      refine ⟨s, h5.symm, f, i.toNat, ?_, h3⟩
      have : b = f := by omega
      rw [← this]
      exact hw
theorem lead_cons {l : Lb} {i f s : Nat} {c : List Int} (h : Sh l i f s) : leadV l f ((i : Int) :: c) = leadV l s c := by
  conv => lhs; unfold leadV
  rw [Int.toNat_natCast, h.2]
  simp
/-- What the search has found so far. -/
structure BI (l : Lb) (fast slow n : Nat) (pre : List (Nat × Int × Int)) (by' : List Int) (met lev : List Nat) : Prop where
  bl : by'.length = 8
  ll : lev.length = met.length
  m0 : met.getD 0 0 = fast
  l0 : lev.getD 0 0 = 0
  nl : n < met.length
  mono : ∀ i j, i ≤ j → j < met.length → lev.getD i 0 ≤ lev.getD j 0
  top : ∀ j, j < met.length → lev.getD j 0 ≤ lev.getD n 0 + 1
  nod : ∀ j, j < met.length → met.getD j 0 < 8
  par : ∀ s, s < 8 → 0 ≤ by'.getD s 0 → ∃ j p, 1 ≤ j ∧ j < met.length ∧ met.getD j 0 = s ∧ p < j ∧ Sh l (by'.getD s 0).toNat (met.getD p 0) s ∧ lev.getD j 0 = lev.getD p 0 + 1
  mem : ∀ j, 1 ≤ j → j < met.length → 0 ≤ by'.getD (met.getD j 0) 0
  uniq : ∀ i j, 1 ≤ i → i < met.length → 1 ≤ j → j < met.length → met.getD i 0 = met.getD j 0 → i = j
  slow : by'.getD slow 0 < 0
  lv : ∀ j, j < met.length → lev.getD j 0 ≤ j
  sz : met.length ≤ 1 + ((List.range 8).filter fun s => decide (0 ≤ by'.getD s 0)).length
  done : ∀ m, m < n → ∀ x ∈ shL l, x.2.1.toNat = met.getD m 0 → ∃ j, 1 ≤ j ∧ j < met.length ∧ met.getD j 0 = x.2.2.toNat ∧ lev.getD j 0 ≤ lev.getD m 0 + 1
  cur : ∀ x ∈ pre, x.2.1.toNat = met.getD n 0 → ∃ j, 1 ≤ j ∧ j < met.length ∧ met.getD j 0 = x.2.2.toNat
theorem getD_app1 {α : Type} (l : List α) (x d : α) {i : Nat} (h : i < l.length) : (l ++ [x]).getD i d = l.getD i d := by
  rw [List.getD_eq_getElem?_getD, List.getD_eq_getElem?_getD, List.getElem?_append_left h]
theorem getD_app2 {α : Type} (l : List α) (x d : α) : (l ++ [x]).getD l.length d = x := by
  rw [List.getD_eq_getElem?_getD, List.getElem?_append_right (Nat.le_refl _)]
  simp
theorem BI.skip {l : Lb} {fast slow n : Nat} {pre : List (Nat × Int × Int)} {by' : List Int} {met lev : List Nat} (h : BI l fast slow n pre by' met lev) {x : Nat × Int × Int} (hs8 : x.2.2.toNat < 8) (hx : x.2.1.toNat ≠ met.getD n 0 ∨ 0 ≤ by'.getD x.2.2.toNat 0) : BI l fast slow n (pre ++ [x]) by' met lev :=
  { h with
    cur := fun y hy hf => by
      rcases List.mem_append.1 hy with hy | hy
      · exact h.cur y hy hf
      · rw [List.mem_singleton.1 hy] at hf ⊢
        rcases hx with hx | hx
        · exact absurd hf hx
        · obtain ⟨j, p, h1, h2, h3, _⟩ := h.par _ hs8 hx
          exact ⟨j, h1, h2, h3⟩ }
theorem BI.add {l : Lb} {fast slow n : Nat} {pre : List (Nat × Int × Int)} {by' : List Int} {met lev : List Nat} (h : BI l fast slow n pre by' met lev) {x : Nat × Int × Int} (hsh : Sh l x.1 x.2.1.toNat x.2.2.toNat) (hs8 : x.2.2.toNat < 8) (hf : x.2.1.toNat = met.getD n 0) (hb : by'.getD x.2.2.toNat 0 < 0) (hne : x.2.2.toNat ≠ slow) : BI l fast slow n (pre ++ [x]) (by'.set x.2.2.toNat x.1) (met ++ [x.2.2.toNat]) (lev ++ [lev.getD n 0 + 1]) := by
  obtain ⟨i, f, s0⟩ := x
  dsimp only at hsh hs8 hf hb hne ⊢
  generalize hst : s0.toNat = s at *
  have hbl := h.bl
  have hll := h.ll
  have hnl := h.nl
  have hm : ∀ j, j < met.length → (met ++ [s]).getD j 0 = met.getD j 0 := fun j hj => getD_app1 _ _ _ hj
  have hl : ∀ j, j < met.length → (lev ++ [lev.getD n 0 + 1]).getD j 0 = lev.getD j 0 := fun j hj => getD_app1 _ _ _ (by omega)
  have hm2 : (met ++ [s]).getD met.length 0 = s := getD_app2 _ _ _
  have hl2 : (lev ++ [lev.getD n 0 + 1]).getD met.length 0 = lev.getD n 0 + 1 := by rw [← hll]; exact getD_app2 _ _ _
  have hbs : (by'.set s (i : Int)).getD s 0 = i := by rw [set_getD _ _ _ _ (by omega), if_pos rfl]
  have hbo : ∀ t, t ≠ s → (by'.set s (i : Int)).getD t 0 = by'.getD t 0 := fun t ht => by rw [set_getD _ _ _ _ (by omega), if_neg ht]
  have hnew : ∀ j, 1 ≤ j → j < met.length → met.getD j 0 ≠ s := fun j h1 h2 e => by
    have := h.mem j h1 h2
    rw [e] at this
    omega
  have hlen : (met ++ [s]).length = met.length + 1 := by simp
  refine ⟨by simp [hbl], by simp [hll], by rw [hm 0 (by omega)]; exact h.m0, by rw [hl 0 (by omega)]; exact h.l0, by omega, fun a b hab hbl2 => ?_, fun j hj => ?_, fun j hj => ?_, fun t ht hb0 => ?_, fun j h1 h2 => ?_, fun a b h1 h2 h3 h4 e => ?_, ?_, fun j hj => ?_, ?_, fun m hmn y hy e => ?_, fun y hy e => ?_⟩
  · rw [hlen] at hbl2
    by_cases e1 : b = met.length
    · rw [e1, hl2]
      by_cases e2 : a = met.length
      · rw [e2, hl2]; omega
      · rw [hl a (by omega)]
        exact h.top a (by omega)
    · rw [hl a (by omega), hl b (by omega)]
      exact h.mono a b hab (by omega)
  · rw [hlen] at hj
    rw [hl n hnl]
    by_cases e1 : j = met.length
    · rw [e1, hl2]; omega
    · rw [hl j (by omega)]
      exact h.top j (by omega)
  · rw [hlen] at hj
    by_cases e1 : j = met.length
    · rw [e1, hm2]; exact hs8
    · rw [hm j (by omega)]
      exact h.nod j (by omega)
  · by_cases e1 : t = s
    · subst e1
      refine ⟨met.length, n, by omega, by omega, hm2, hnl, ?_, ?_⟩
      · rw [hbs, Int.toNat_natCast, hm n hnl, ← hf]
        exact hsh
      · rw [hl2, hl n hnl]
    · rw [hbo t e1] at hb0 ⊢
      obtain ⟨j, p, h1, h2, h3, h4, h5, h6⟩ := h.par t ht hb0
      exact ⟨j, p, h1, by omega, by rw [hm j h2]; exact h3, h4, by rw [hm p (by omega)]; exact h5, by rw [hl j h2, hl p (by omega)]; exact h6⟩
  · rw [hlen] at h2
    by_cases e1 : j = met.length
    · rw [e1, hm2, hbs]; omega
    · rw [hm j (by omega), hbo _ (hnew j h1 (by omega))]
      exact h.mem j h1 (by omega)
  · rw [hlen] at h2 h4
    by_cases e1 : a = met.length
    · by_cases e2 : b = met.length
      · omega
      · rw [e1, hm2, hm b (by omega)] at e
        exact absurd e.symm (hnew b h3 (by omega))
    · by_cases e2 : b = met.length
      · rw [e2, hm2, hm a (by omega)] at e
        exact absurd e (hnew a h1 (by omega))
      · rw [hm a (by omega), hm b (by omega)] at e
        exact h.uniq a b h1 (by omega) h3 (by omega) e
  · rw [hbo _ (Ne.symm hne)]
    exact h.slow
  · rw [hlen] at hj
    by_cases e1 : j = met.length
    · rw [e1, hl2]
      have := h.lv n hnl
      omega
    · rw [hl j (by omega)]
      exact h.lv j (by omega)
  · have h1 := h.sz
    have h2 := filter_lt (fun t => decide (0 ≤ by'.getD t 0)) (fun t => decide (0 ≤ (by'.set s (i : Int)).getD t 0)) (List.range 8) (fun t ht h3 => by
      by_cases e1 : t = s
      · rw [e1, hbs]; simp
      · rw [hbo t e1]; exact h3) ⟨s, List.mem_range.2 hs8, by rw [hbs]; simp, by simpa using hb⟩
    omega
  · rw [hm m (by omega)] at e
    obtain ⟨j, h1, h2, h3, h4⟩ := h.done m hmn y hy e
    exact ⟨j, h1, by omega, by rw [hm j h2]; exact h3, by rw [hl j h2, hl m (by omega)]; exact h4⟩
  · rw [hm n hnl] at e
    rcases List.mem_append.1 hy with hy | hy
    · obtain ⟨j, h1, h2, h3⟩ := h.cur y hy e
      exact ⟨j, h1, by omega, by rw [hm j h2]; exact h3⟩
    · rw [List.mem_singleton.1 hy]
      refine ⟨met.length, by omega, by omega, ?_⟩
      rw [hm2]
      exact hst.symm
theorem BI.next {l : Lb} {fast slow n : Nat} {by' : List Int} {met lev : List Nat} (h : BI l fast slow n (shL l) by' met lev) (hn : n + 1 < met.length) : BI l fast slow (n + 1) [] by' met lev :=
  { h with
    nl := hn
    top := fun j hj => by have := h.top j hj; have := h.mono n (n + 1) (by omega) hn; omega
    done := fun m hm x hx e => by
      by_cases e1 : m = n
      · subst e1
        obtain ⟨j, h1, h2, h3⟩ := h.cur x hx e
        exact ⟨j, h1, h2, h3, h.top j h2⟩
      · exact h.done m (by omega) x hx e
    cur := fun x hx => by cases hx }
theorem BI.last {l : Lb} {fast slow n : Nat} {by' : List Int} {met lev : List Nat} (h : BI l fast slow n (shL l) by' met lev) (hn : n + 1 = met.length) : ∀ k b, 1 ≤ k → Wk l fast k b → ∃ j, 1 ≤ j ∧ j < met.length ∧ met.getD j 0 = b
  | 0, b, h1, _ => by omega
  | k + 1, b, h1, hw => by
    obtain ⟨s, i, hs, hsh⟩ := hw
    obtain ⟨x, hx, _, hx2, hx3⟩ := mem_sh hsh
    have key : ∀ m, m < met.length → met.getD m 0 = s → ∃ j, 1 ≤ j ∧ j < met.length ∧ met.getD j 0 = b := fun m hm hms => by
      by_cases e1 : m = n
      · subst e1
        obtain ⟨j, h2, h3, h4⟩ := h.cur x hx (by rw [hx2, hms])
        exact ⟨j, h2, h3, by rw [h4, hx3]⟩
      · obtain ⟨j, h2, h3, h4, _⟩ := h.done m (by omega) x hx (by rw [hx2, hms])
        exact ⟨j, h2, h3, by rw [h4, hx3]⟩
    by_cases hk0 : k = 0
    · subst hk0
      have hs2 : s = fast := hs
      exact key 0 (by omega) (by rw [h.m0, hs2])
    · obtain ⟨m, _, h3, h4⟩ := h.last hn k s (by omega) hs
      exact key m h3 h4
/-- A chain of the fewest runs. -/
structure Short (l : Lb) (fast slow : Nat) (c : List Int) : Prop where
  ne : c ≠ []
  ok : leadV l fast c = some (slow : Int)
  inr : ∀ i ∈ c, 0 ≤ i ∧ i < l.runs.length
  min : ∀ c', c' ≠ [] → leadV l fast c' = some (slow : Int) → c.length ≤ c'.length
def NoCh (l : Lb) (fast slow : Nat) : Prop := ∀ c', c' ≠ [] → leadV l fast c' ≠ some (slow : Int)
theorem BI.none {l : Lb} {fast slow n : Nat} {by' : List Int} {met lev : List Nat} (he : 0 ≤ l.err) (h : BI l fast slow n (shL l) by' met lev) (hn : n + 1 = met.length) : NoCh l fast slow := fun c hne hc => by
  obtain ⟨b, hb, hw⟩ := lead_wk he fast _ c _ rfl hc
  obtain ⟨j, h1, h2, h3⟩ := h.last hn _ _ (List.length_pos_iff.2 hne) hw
  have h4 := h.mem j h1 h2
  have h5 := h.slow
  rw [h3, show b = slow from by omega] at h4
  omega
/-- The search has found the slower ski, and goes back. -/
structure BK (l : Lb) (fast slow : Nat) (by' : List Int) (at' : Nat) (out : List Int) (K : Nat) : Prop where
  bl : by'.length = 8
  kb : K ≤ 9
  at8 : at' < 8
  ge : 0 ≤ by'.getD at' 0 ∨ (at' = fast ∧ out ≠ [])
  ok : leadV l at' out.reverse = some (slow : Int)
  inr : ∀ i ∈ out, 0 ≤ i ∧ i < l.runs.length
  len : ∃ (met lev : List Nat), lev.length = met.length ∧ (∀ j, j < met.length → met.getD j 0 < 8) ∧ met.getD 0 0 = fast ∧ lev.getD 0 0 = 0 ∧ 0 < met.length ∧ (∀ s, s < 8 → s ≠ slow → 0 ≤ by'.getD s 0 → ∃ j p, 1 ≤ j ∧ j < met.length ∧ met.getD j 0 = s ∧ p < j ∧ Sh l (by'.getD s 0).toNat (met.getD p 0) s ∧ lev.getD j 0 = lev.getD p 0 + 1) ∧
    (∀ j, 1 ≤ j → j < met.length → 0 ≤ by'.getD (met.getD j 0) 0 ∧ met.getD j 0 ≠ slow) ∧ (∀ i j, 1 ≤ i → i < met.length → 1 ≤ j → j < met.length → met.getD i 0 = met.getD j 0 → i = j) ∧ (∀ c', c' ≠ [] → leadV l fast c' = some (slow : Int) → K ≤ c'.length) ∧
    ((out = [] ∧ at' = slow ∧ ∃ p, p < met.length ∧ Sh l (by'.getD slow 0).toNat (met.getD p 0) slow ∧ K = lev.getD p 0 + 1) ∨ (out ≠ [] ∧ ∃ p, p < met.length ∧ met.getD p 0 = at' ∧ lev.getD p 0 + out.length = K))
/-- One step back. -/
theorem BK.step {l : Lb} {fast slow at' K : Nat} {by' out : List Int} (h : BK l fast slow by' at' out K) (hgo : out = [] ∨ at' ≠ fast) : ∃ f : Nat, 0 ≤ by'.getD at' 0 ∧ Sh l (by'.getD at' 0).toNat f at' ∧ BK l fast slow by' f (out ++ [by'.getD at' 0]) K := by
  have hge : 0 ≤ by'.getD at' 0 := by
    rcases h.ge with h1 | ⟨h1, h2⟩
    · exact h1
    · rcases hgo with h3 | h3
      · exact absurd h3 h2
      · exact absurd h1 h3
  obtain ⟨met, lev, k1, k2, k3, k4, k5, k6, k7, k8, k9, k10⟩ := h.len
  have fin : ∀ p, p < met.length → Sh l (by'.getD at' 0).toNat (met.getD p 0) at' → lev.getD p 0 + (out.length + 1) = K → ∃ f : Nat, 0 ≤ by'.getD at' 0 ∧ Sh l (by'.getD at' 0).toNat f at' ∧ BK l fast slow by' f (out ++ [by'.getD at' 0]) K := fun p hp hsh hK => by
    refine ⟨met.getD p 0, hge, hsh, ⟨h.bl, h.kb, k2 p hp, ?_, ?_, fun i hi => ?_, met, lev, k1, k2, k3, k4, k5, k6, k7, k8, k9, .inr ⟨by simp, p, hp, rfl, by rw [List.length_append, List.length_singleton]; exact hK⟩⟩⟩
    · by_cases hp0 : p = 0
      · subst hp0
        exact .inr ⟨k3, by simp⟩
      · exact .inl (k7 p (by omega) hp).1
    · rw [List.reverse_append]
      have e : ((by'.getD at' 0).toNat : Int) = by'.getD at' 0 := by omega
      show leadV l (met.getD p 0 : Nat) (by'.getD at' 0 :: out.reverse) = _
      rw [← e, lead_cons hsh]
      exact h.ok
    · rcases List.mem_append.1 hi with hi | hi
      · exact h.inr i hi
      · rw [List.mem_singleton.1 hi]
        have := hsh.1
        omega
  rcases k10 with ⟨h1, h2, p, h3, h4, h5⟩ | ⟨h1, p, h3, h4, h5⟩
  · subst h2
    exact fin p h3 h4 (by rw [h1, List.length_nil]; omega)
  · have hp1 : 1 ≤ p := by
      rcases Nat.eq_zero_or_pos p with h6 | h6
      · subst h6
        rcases hgo with h7 | h7
        · exact absurd h7 h1
        · rw [k3] at h4
          exact absurd h4.symm h7
      · exact h6
    have hns := (k7 p hp1 h3).2
    rw [h4] at hns
    obtain ⟨j, q, g1, g2, g3, g4, g5, g6⟩ := k6 at' h.at8 hns hge
    have hjp := k8 j p g1 g2 hp1 h3 (by rw [g3, h4])
    subst hjp
    exact fin q (by omega) g5 (by omega)
theorem BK.end {l : Lb} {fast slow K : Nat} {by' out : List Int} (h : BK l fast slow by' fast out K) (hne : out ≠ []) : Short l fast slow out.reverse := by
  obtain ⟨met, lev, k1, k2, k3, k4, k5, k6, k7, k8, k9, k10⟩ := h.len
  refine ⟨by simpa using hne, h.ok, fun i hi => h.inr i (List.mem_reverse.1 hi), fun c h1 h2 => ?_⟩
  have h3 := k9 c h1 h2
  rcases k10 with ⟨h4, _⟩ | ⟨_, p, _, _, h5⟩
  · exact absurd h4 hne
  · rw [List.length_reverse]
    omega
end Go.Proofs.Ytllldihodgdcjaa

/- The plain law of Drop: the fewest runs without which the others do not contradict each other, found set by set. -/
namespace Go.Proofs.Ytllldihodgdcjaa
open Go Go.Eng
/-- Sets of skis as numbers. -/
def bitL (R : List Nat) : Nat := R.foldr (fun s S => S ||| 2 ^ s) 0
/-- The runs that show a ski to be faster than one of a set. -/
def agB (s S : Nat) (x : Nat × Int × Int) : Bool := decide (x.2.1.toNat = s) && S.testBit x.2.2.toNat
def agL (l : Lb) (s S : Nat) : List Nat := ((shL l).filter (agB s S)).map (·.1)
/-- The runs against an order that is told from its end. -/
def dropR (l : Lb) : List Nat → List Nat
  | [] => []
  | s :: R => agL l s (bitL R) ++ dropR l R
/-- The fewest runs against some order of a set, and the last ski of that order. -/
def dpStep (l : Lb) (F : Nat → Nat × Nat) (S : Nat) (p : Nat × Nat) (s : Nat) : Nat × Nat :=
  if S.testBit s = true then if (F (S ^^^ 2 ^ s)).1 + (agL l s (S ^^^ 2 ^ s)).length < p.1 then ((F (S ^^^ 2 ^ s)).1 + (agL l s (S ^^^ 2 ^ s)).length, s) else p else p
def dpF (l : Lb) (n : Nat) : Nat → Nat → Nat × Nat
  | 0, _ => (0, 0)
  | k + 1, S => if S = 0 then (0, 0) else (List.range n).foldl (dpStep l (dpF l n k) S) (41, 0)
def dp (l : Lb) (n S : Nat) : Nat × Nat := dpF l n S S
def dpPart (l : Lb) (n S j : Nat) : Nat × Nat := (List.range j).foldl (dpStep l (dp l n) S) (41, 0)
/-- What the loop over skis has found. -/
structure DpI (l : Lb) (n S j : Nat) (p : Nat × Nat) : Prop where
  le : ∀ s, s < j → S.testBit s = true → p.1 ≤ (dp l n (S ^^^ 2 ^ s)).1 + (agL l s (S ^^^ 2 ^ s)).length
  at_ : p = (41, 0) ∨ (p.2 < j ∧ S.testBit p.2 = true ∧ p.1 = (dp l n (S ^^^ 2 ^ p.2)).1 + (agL l p.2 (S ^^^ 2 ^ p.2)).length)
/-- The way back. -/
def btF (l : Lb) (n : Nat) : Nat → Nat → List Nat
  | 0, _ => []
  | k + 1, S => if S = 0 then [] else agL l (dp l n S).2 (S ^^^ 2 ^ (dp l n S).2) ++ btF l n k (S ^^^ 2 ^ (dp l n S).2)
/-- A lab without some runs. -/
def woL (l : Lb) (D : List Nat) : Lb := ⟨l.skis, l.err, ((List.range l.runs.length).filter fun i => !decide (i ∈ D)).map fun i => l.runs.getD i ⟨0, 0, 0⟩⟩
/-- What is told of the runs that are to be dropped. -/
structure DropP (l : Lb) (d : List Nat) : Prop where
  asc : d.Pairwise (· < ·)
  lt : ∀ i ∈ d, i < l.runs.length
  noC : NoC (woL l d).ord l.n
  min : ∀ D : List Nat, NoC (woL l D).ord l.n → d.length ≤ D.length
  at_ : ∃ L : List Nat, L.Perm (List.range l.n) ∧ ∀ i, i ∈ d ↔ ∃ s t, Sh l i s t ∧ L.idxOf t < L.idxOf s
end Go.Proofs.Ytllldihodgdcjaa

/- The plain law of SkiOrders: all orders that fit, one by one. -/
namespace Go.Proofs.Ytllldihodgdcjaa
open Go Go.Eng
/-- All lists of so many skis, each once, in lexicographic order. -/
def permN (n : Nat) : Nat → List (List Nat)
  | 0 => [[]]
  | i + 1 => (permN n i).flatMap fun p => ((List.range n).filter fun s => !decide (s ∈ p)).map fun s => p ++ [s]
/-- All lists of so many skis that fit, in lexicographic order. -/
def FL (o n : Nat) : Nat → List (List Nat)
  | 0 => [[]]
  | i + 1 => (FL o n i).flatMap fun p => ((List.range n).filter fun s => freeO o n s (bitL p)).map fun s => p ++ [s]
/-- Whether a list fits behind another one. -/
def preB (o n : Nat) : List Nat → List Nat → Bool
  | _, [] => true
  | acc, s :: r => freeO o n s (bitL acc) && preB o n (acc ++ [s]) r
/-- How many there are. -/
def crd (S : Nat) : Nat → Nat := sumN fun s => cond (S.testBit s) 1 0
/-- Both ends of a place are reached. -/
theorem lin_pair {o n : Nat} (hn : n ≤ 8) {L : List Nat} (h : LinO o n L) : L.Pairwise fun a b => fa o b a = false := List.pairwise_iff_getElem.2 fun i j hi hj hij => Bool.eq_false_iff.2 fun hf => by
  have h1 : L[i] < n := h.mem.1 (List.getElem_mem hi)
  have h2 : L[j] < n := h.mem.1 (List.getElem_mem hj)
  have h3 := (h.idx _ _ (by omega) (by omega) hf).2.2
  rw [h.nodup.idxOf_getElem, h.nodup.idxOf_getElem] at h3
  omega
theorem pair_lin {o n : Nat} (hc : NoC o n) (hi : InO o n) {L : List Nat} (hp : L.Perm (List.range n)) (h : L.Pairwise fun a b => fa o b a = false) : LinO o n L := ⟨hp, fun a b ha hb hf => by
  obtain ⟨h1, h2⟩ := hi a b ha hb hf
  refine ⟨h1, h2, ?_⟩
  have m1 := List.idxOf_lt_length_iff.2 (hp.mem_iff.2 (List.mem_range.2 h1))
  have m2 := List.idxOf_lt_length_iff.2 (hp.mem_iff.2 (List.mem_range.2 h2))
  have e1 := List.getElem_idxOf m1
  have e2 := List.getElem_idxOf m2
  rcases Nat.lt_trichotomy (L.idxOf a) (L.idxOf b) with g | g | g
  · exact g
  · exfalso
    simp only [g] at e1
    have := e1.symm.trans e2
    subst this
    rw [hc a h1] at hf; cases hf
  · exfalso
    have := List.pairwise_iff_getElem.1 h _ _ m2 m1 g
    rw [e1, e2, hf] at this
    cases this⟩
theorem part_perm {L : List Nat} (hn : L.Nodup) {x : Nat} (hx : x ∈ L) (P : Nat → Bool) (hPx : P x = false) : (L.filter P ++ x :: L.filter fun t => !P t && !decide (t = x)).Perm L := by
  refine List.perm_iff_count.2 fun a => ?_
  rw [List.count_append, List.count_cons, (hn.sublist List.filter_sublist).count, (hn.sublist List.filter_sublist).count, hn.count]
  simp only [List.mem_filter]
  by_cases ha : a = x
  · subst ha; simp [hx, hPx]
  · have h2 : ¬ x = a := fun e => ha e.symm
    cases hP : P a <;> by_cases hm : a ∈ L <;> simp [ha, hP, hm, h2]
theorem lin_bd {o n s : Nat} {L : List Nat} (h : LinO o n L) (hn : n ≤ 8) (hs : s < n) : upN o s n ≤ L.idxOf s ∧ L.idxOf s + dnN o s n + 1 ≤ n := by
  have h3 : L.idxOf s < L.length := List.idxOf_lt_length_iff.2 (h.mem.2 hs)
  have hl := h.len
  have h4 : upN o s n ≤ L.idxOf s := by
    refine Nat.le_trans ?_ (lt_le h.nodup (L.idxOf s))
    rw [(h.perm.filter _).length_eq]
    exact filter_le _ _ _ fun t ht hf => by
      have := List.mem_range.1 ht
      simpa using (h.idx t s (by omega) (by omega) hf).2.2
  have h5 : dnN o s n ≤ L.length - (L.idxOf s + 1) := by
    refine Nat.le_trans ?_ (gt_le h.nodup (L.idxOf s))
    rw [(h.perm.filter _).length_eq]
    exact filter_le _ _ _ fun t ht hf => by
      have := List.mem_range.1 ht
      simpa using (h.idx s t (by omega) (by omega) hf).2.2
  omega
theorem idx_mid {A B : List Nat} {x : Nat} (h : x ∉ A) : (A ++ x :: B).idxOf x = A.length := by
  rw [List.idxOf_append, if_neg h, List.idxOf_cons_self]; omega
theorem place_lo {o n x : Nat} (hc : NoC o n) (ho : Ord o) (hn : n ≤ 8) (hi : InO o n) (hx : x < n) : ∃ L, LinO o n L ∧ L.idxOf x = upN o x n := by
  have h0 := first_lin hc ho hn hi
  have hpx : fa o x x = false := hc x hx
  have hp := (part_perm h0.nodup (h0.mem.2 hx) (fun t => fa o t x) hpx).trans h0.perm
  have hpw := lin_pair hn h0
  refine ⟨_, pair_lin hc hi hp ?_, ?_⟩
  · refine List.pairwise_append.2 ⟨hpw.filter _, List.pairwise_cons.2 ⟨fun b hb => ?_, hpw.filter _⟩, fun a ha b hb => ?_⟩
    · have := (List.mem_filter.1 hb).2
      simp only [Bool.and_eq_true, Bool.not_eq_true'] at this
      exact this.1
    · obtain ⟨ha1, ha2⟩ := List.mem_filter.1 ha
      have han := h0.mem.1 ha1
      rcases List.mem_cons.1 hb with rfl | hb
      · exact hc.asym ho hn han hx ha2
      · obtain ⟨hb1, hb2⟩ := List.mem_filter.1 hb
        have hbn := h0.mem.1 hb1
        refine Bool.eq_false_iff.2 fun hf => ?_
        have := ho.tr b a x (by omega) (by omega) (by omega) hf ha2
        simp [this] at hb2
  · rw [idx_mid (fun h => by have := (List.mem_filter.1 h).2; rw [hpx] at this; cases this), (h0.perm.filter _).length_eq]
    rfl
theorem place_hi {o n x : Nat} (hc : NoC o n) (ho : Ord o) (hn : n ≤ 8) (hi : InO o n) (hx : x < n) : ∃ L, LinO o n L ∧ L.idxOf x + dnN o x n + 1 = n := by
  have h0 := first_lin hc ho hn hi
  have hpx : fa o x x = false := hc x hx
  have hP : (!fa o x x && !decide (x = x)) = false := by simp
  have hp := (part_perm h0.nodup (h0.mem.2 hx) (fun t => !fa o x t && !decide (t = x)) hP).trans h0.perm
  have e : (fun t => !(!fa o x t && !decide (t = x)) && !decide (t = x)) = fun t => fa o x t && !decide (t = x) := by
    funext t
    cases fa o x t <;> by_cases h : t = x <;> simp [h]
  rw [e] at hp
  have hpw := lin_pair hn h0
  refine ⟨_, pair_lin hc hi hp ?_, ?_⟩
  · refine List.pairwise_append.2 ⟨hpw.filter _, List.pairwise_cons.2 ⟨fun b hb => ?_, hpw.filter _⟩, fun a ha b hb => ?_⟩
    · obtain ⟨hb1, hb2⟩ := List.mem_filter.1 hb
      simp only [Bool.and_eq_true, Bool.not_eq_true'] at hb2
      exact hc.asym ho hn hx (h0.mem.1 hb1) hb2.1
    · obtain ⟨ha1, ha2⟩ := List.mem_filter.1 ha
      simp only [Bool.and_eq_true, Bool.not_eq_true'] at ha2
      have han := h0.mem.1 ha1
      rcases List.mem_cons.1 hb with rfl | hb
      · exact ha2.1
      · obtain ⟨hb1, hb2⟩ := List.mem_filter.1 hb
        simp only [Bool.and_eq_true, Bool.not_eq_true'] at hb2
        have hbn := h0.mem.1 hb1
        refine Bool.eq_false_iff.2 fun hf => ?_
        have := ho.tr x b a (by omega) (by omega) (by omega) hb2.1 hf
        rw [this] at ha2
        cases ha2.1
  · have hl := hp.length_eq
    rw [List.length_append, List.length_cons, List.length_range] at hl
    rw [idx_mid (fun h => by have := (List.mem_filter.1 h).2; simp at this)]
    have : (((firF o n n).1).filter fun t => fa o x t && !decide (t = x)).length = dnN o x n := by
      rw [(h0.perm.filter _).length_eq]
      refine congrArg List.length (List.filter_congr fun t ht => ?_)
      by_cases h : t = x
      · subst h; simp [hpx]
      · simp [h]
    omega
end Go.Proofs.Ytllldihodgdcjaa

/- The plain law of SkiPlans: orders that are left, and their first places. -/
namespace Go.Proofs.Ytllldihodgdcjaa
open Go Go.Eng
/-- Lists without those that came before. -/
def dl {α : Type} [DecidableEq α] (X : List α) : List α := X.foldl (fun acc x => if x ∈ acc then acc else acc ++ [x]) []
section
variable {α : Type} [DecidableEq α]
end
/-- How many beginnings of so many skis there are. -/
def preN (X : List (List Nat)) (k : Nat) : Nat := (dl (X.map (·.take k))).length
/-- Orders with one ski before another one. -/
def bfB (a b : Nat) (L : List Nat) : Bool := decide (L.idxOf a < L.idxOf b)
theorem InO.with {o n a b : Nat} (h : InO o n) (hn : n ≤ 8) (ha : a < n) (hb : b < n) : InO (withO o a b) n := with_sub (R := fun a b => a < n ∧ b < n) (by omega) (by omega) (fun _ _ _ _ _ _ h1 h2 => ⟨h1.1, h2.2⟩) h ⟨ha, hb⟩
theorem LinO.mono {o p n : Nat} {L : List Nat} (h : LinO p n L) (hl : LeO o p) : LinO o n L := ⟨h.perm, fun a b ha hb hf => h.idx a b ha hb (hl a b ha hb hf)⟩
/-- Whether so many further runs are enough if a run of two skis is the next one. -/
def enoB (n k r o a b : Nat) : Bool := (!fa o a b && (!fa o b a && decide (worthO n k o a b ≤ r))) && true
end Go.Proofs.Ytllldihodgdcjaa

/- The plain law of TopSkis: the best order of legs. -/
namespace Go.Proofs.Ytllldihodgdcjaa
open Go Go.Eng
/-- How long an order takes up to a leg. -/
def cstB (T : List (List Int)) (L : List Nat) (k : Nat) : List Int := (List.range k).map fun i => (T.getD (L.getD i 0) []).getD i 0
def cstO (T : List (List Int)) (L : List Nat) : Int := (cstB T L L.length).foldl (· + ·) 0
/-- Whether no skier has too many of the first legs. -/
def okO (e : Nat) (L : List Nat) (k : Nat) : Bool := (List.range k).all fun i => decide ((L.take (i + 1)).count (L.getD i 0) ≤ e)
theorem okO_succ (e : Nat) (L : List Nat) (k : Nat) : okO e L (k + 1) = (okO e L k && decide ((L.take (k + 1)).count (L.getD k 0) ≤ e)) := by
  unfold okO
  rw [List.range_succ, List.all_append]
  simp
theorem okO_mono (e : Nat) (L : List Nat) {k j : Nat} (h : okO e L k = false) (hj : k ≤ j) : okO e L j = false := by
  unfold okO at *
  rw [List.all_eq_false] at *
  obtain ⟨x, h1, h2⟩ := h
  exact ⟨x, List.mem_range.2 (by have := List.mem_range.1 h1; omega), h2⟩
theorem cstB_succ (T : List (List Int)) (L : List Nat) (k : Nat) : cstB T L (k + 1) = cstB T L k ++ [(T.getD (L.getD k 0) []).getD k 0] := by
  unfold cstB
  rw [List.range_succ, List.map_append]
  rfl
theorem cstB_len (T : List (List Int)) (L : List Nat) (k : Nat) : (cstB T L k).length = k := by simp [cstB]
/-- One order more is looked at. -/
def bstS (T : List (List Int)) (e : Nat) (z : Option (List Nat) × Int) (L : List Nat) : Option (List Nat) × Int := if (okO e L L.length && (z.1.isNone || decide (cstO T L < z.2))) = true then (some L, cstO T L) else z
/-- All orders of so many legs more. -/
def extO (n : Nat) : Nat → List Nat → List (List Nat)
  | 0, pre => [pre]
  | m + 1, pre => (List.range n).flatMap fun s => extO n m (pre ++ [s])
def bstV (T : List (List Int)) (e n m : Nat) : Option (List Nat) × Int := (extO n m []).foldl (bstS T e) (none, 0)
/-- What is true of the best of some orders. -/
structure BstI (T : List (List Int)) (e : Nat) (X : List (List Nat)) (z : Option (List Nat) × Int) : Prop where
  none : z.1 = none ↔ ∀ L ∈ X, okO e L L.length = false
  le : ∀ L ∈ X, okO e L L.length = true → z.2 ≤ cstO T L
  at_ : ∀ L, z.1 = some L → L ∈ X ∧ okO e L L.length = true ∧ z.2 = cstO T L
  zero : z.1 = .none → z.2 = 0
theorem bst_step {T : List (List Int)} {e : Nat} {X : List (List Nat)} {z : Option (List Nat) × Int} (h : BstI T e X z) (L : List Nat) : BstI T e (X ++ [L]) (bstS T e z L) := by
  unfold bstS
  cases hk : okO e L L.length with
  | false =>
    rw [Bool.false_and, if_neg (by simp)]
    refine ⟨?_, ?_, ?_, h.zero⟩
    · rw [h.none]
      constructor
      · intro h1 L2 h2
        rcases List.mem_append.1 h2 with h3 | h3
        · exact h1 L2 h3
        · rw [List.mem_singleton.1 h3]; exact hk
      · intro h1 L2 h2
        exact h1 L2 (List.mem_append_left _ h2)
    · intro L2 h2 h3
      rcases List.mem_append.1 h2 with h4 | h4
      · exact h.le L2 h4 h3
      · rw [List.mem_singleton.1 h4, hk] at h3; exact absurd h3 (by simp)
    · intro L2 h2
      obtain ⟨a, b, c⟩ := h.at_ L2 h2
      exact ⟨List.mem_append_left _ a, b, c⟩
  | true =>
    rw [Bool.true_and]
    split
    · rename_i hc
      refine ⟨?_, ?_, ?_, fun h1 => by cases h1⟩
      · constructor
        · intro h1; cases h1
        · intro h1
          have := h1 L (List.mem_append_right _ (by simp))
          rw [hk] at this; exact absurd this (by simp)
      · intro L2 h2 h3
        show cstO T L ≤ _
        rcases List.mem_append.1 h2 with h4 | h4
        · have h5 := h.le L2 h4 h3
          rw [Bool.or_eq_true] at hc
          rcases hc with hc | hc
          · have h6 : z.1 = .none := by simpa using hc
            rw [h.none.1 h6 L2 h4] at h3
            exact absurd h3 (by simp)
          · have := of_decide_eq_true hc
            omega
        · rw [List.mem_singleton.1 h4]; exact Int.le_refl _
      · intro L2 h2
        simp only [Option.some.injEq] at h2
        subst h2
        exact ⟨List.mem_append_right _ (by simp), hk, rfl⟩
    · rename_i hc
      rw [Bool.or_eq_true, not_or] at hc
      have hz : z.1 ≠ .none := fun h => hc.1 (by rw [h]; rfl)
      have hl : z.2 ≤ cstO T L := by
        have := hc.2
        rw [decide_eq_true_iff] at this
        omega
      refine ⟨?_, ?_, ?_, h.zero⟩
      · constructor
        · intro h1; exact absurd h1 hz
        · intro h1
          have := h1 L (List.mem_append_right _ (by simp))
          rw [hk] at this; exact absurd this (by simp)
      · intro L2 h2 h3
        rcases List.mem_append.1 h2 with h4 | h4
        · exact h.le L2 h4 h3
        · rw [List.mem_singleton.1 h4]; exact hl
      · intro L2 h2
        obtain ⟨a, b, c⟩ := h.at_ L2 h2
        exact ⟨List.mem_append_left _ a, b, c⟩
theorem bst_all (T : List (List Int)) (e : Nat) : ∀ X : List (List Nat), BstI T e X (X.foldl (bstS T e) (none, 0)) := fun X => snocI (p := fun X => BstI T e X (X.foldl (bstS T e) (none, 0))) ⟨by simp, by simp, by simp, fun _ => rfl⟩ (fun X x ih => by
  rw [List.foldl_append]
  exact bst_step ih x) X
theorem bst_none (T T2 : List (List Int)) (e n m : Nat) : (bstV T e n m).1.isNone = (bstV T2 e n m).1.isNone := by
  have h1 := (bst_all T e (extO n m [])).none
  have h2 := (bst_all T2 e (extO n m [])).none
  rw [Bool.eq_iff_iff, Option.isNone_iff_eq_none, Option.isNone_iff_eq_none]
  exact h1.trans h2.symm
theorem foldl_add_le : ∀ (X Y : List Int) (a b : Int), X.length = Y.length → (∀ i (h : i < X.length) (h2 : i < Y.length), X[i] ≤ Y[i]) → a ≤ b → X.foldl (· + ·) a ≤ Y.foldl (· + ·) b
  | [], [], a, b, _, _, h => h
  | x :: X, y :: Y, a, b, hl, h, hab => by
    rw [List.foldl_cons, List.foldl_cons]
    have h0 := h 0 (by simp) (by simp)
    simp only [List.getElem_cons_zero] at h0
    exact foldl_add_le X Y _ _ (by simpa using hl) (fun i h1 h2 => by have := h (i + 1) (by simpa using h1) (by simpa using h2); simpa using this) (by omega)
  | [], y :: Y, _, _, hl, _, _ => by simp at hl
  | x :: X, [], _, _, hl, _, _ => by simp at hl
theorem cst_le {T T2 : List (List Int)} (h : ∀ s k, (T.getD s []).getD k 0 ≤ (T2.getD s []).getD k 0) (L : List Nat) : cstO T L ≤ cstO T2 L := by
  unfold cstO
  refine foldl_add_le _ _ _ _ (by rw [cstB_len, cstB_len]) (fun i h1 h2 => ?_) (Int.le_refl _)
  simp only [cstB, List.getElem_map, List.getElem_range]
  exact h _ _
/-- Who takes less at each leg has a best order that takes no more. -/
theorem bst_le {T T2 : List (List Int)} {e n m : Nat} (h : ∀ s k, (T.getD s []).getD k 0 ≤ (T2.getD s []).getD k 0) : (bstV T e n m).2 ≤ (bstV T2 e n m).2 := by
  have h1 : BstI T e _ (bstV T e n m) := bst_all T e (extO n m [])
  have h2 : BstI T2 e _ (bstV T2 e n m) := bst_all T2 e (extO n m [])
  have h3 := bst_none T T2 e n m
  cases hz : (bstV T2 e n m).1 with
  | none =>
    rw [hz] at h3
    have h4 : (bstV T e n m).1 = none := by simpa using h3
    have e1 := h1.zero h4
    have e2 := h2.zero hz
    rw [e1, e2]
    exact Int.le_refl _
  | some L =>
    obtain ⟨a, b, c⟩ := h2.at_ L hz
    have h4 := h1.le L a b
    have h5 := cst_le h L
    rw [c]
    omega
theorem ext_mem {n : Nat} : ∀ (m : Nat) (pre R : List Nat), R.length = m → (∀ s ∈ R, s < n) → pre ++ R ∈ extO n m pre
  | 0, pre, R, h, _ => by
    rw [List.length_eq_zero_iff.1 h, List.append_nil]
    exact .head _
  | m + 1, pre, [], h, _ => by simp at h
  | m + 1, pre, s :: R, h, hs => by
    refine List.mem_flatMap.2 ⟨s, List.mem_range.2 (hs s (.head _)), ?_⟩
    rw [show pre ++ s :: R = (pre ++ [s]) ++ R from by simp]
    exact ext_mem m _ R (by simpa using h) fun x hx => hs x (.tail _ hx)
theorem bst_some (T : List (List Int)) {n m : Nat} (hn : 2 ≤ n) (hm : m ≤ 4) : (bstV T 2 n m).1 ≠ none := fun h => by
  have h1 : BstI T 2 _ (bstV T 2 n m) := bst_all T 2 (extO n m [])
  have h2 := h1.none.1 h (([0, 0, 1, 1] : List Nat).take m) (ext_mem m [] _ (by simp; omega) fun s hs => by
    have := List.mem_of_mem_take hs
    simp at this
    omega)
  have : m = 0 ∨ m = 1 ∨ m = 2 ∨ m = 3 ∨ m = 4 := by omega
  rcases this with rfl | rfl | rfl | rfl | rfl <;> exact absurd h2 (by decide)
theorem known_place {o n s : Nat} (hc : NoC o n) (ho : Ord o) (hn : n ≤ 8) (hi : InO o n) (hs : s < n) (h : knownO o n n = true) : upN o s n + dnN o s n + 1 = n := by
  obtain ⟨L1, g1, g2⟩ := place_lo hc ho hn hi hs
  obtain ⟨L2, g3, g4⟩ := place_hi hc ho hn hi hs
  have h2 := lin_same g1 g3 hn h (Nat.le_refl _)
  rw [List.take_of_length_le (by rw [g1.len]; exact Nat.le_refl _), List.take_of_length_le (by rw [g3.len]; exact Nat.le_refl _)] at h2
  subst h2
  omega
end Go.Proofs.Ytllldihodgdcjaa

/- Walk: numbers are shuffled. -/
namespace Go.Proofs.Ytllldihodgdcjaa
open Go Go.Eng
theorem chI_add (l : List Nat) (x : Nat) : ints (chI (l ++ [x])) = ints (chI l) ++ [.int .i64 x] := by simp [chI]
theorem swap_perm {l : List Nat} {i j : Nat} (hi : i < l.length) (hj : j < l.length) : ((l.set i l[j]).set j l[i]).Perm l := List.set_set_perm hi hj
theorem chI_at {l : List Nat} {i : Nat} (h : i < l.length) (h2 : i < (chI l).length) : (chI l)[i] = ((l[i] : Nat) : Int) := by simp [chI]
set_option maxHeartbeats 4000000 in
theorem shuf_ca (m : Nat) (hm2 : m ≤ 1000) (K : Nat) (hK : K < 1000000) (w : World) (b lo hi : Nat) (bs : Value) (hby : DkB w lo hi bs) (hlh : hi ≤ b) (hd : DkS w b bs K) :
    Ca Try.prog 6 [.pointer (some ⟨b, 0, none⟩), .int .i64 m] w fun v w' => ∃ x : Value × List Nat, (v = x.1 ∧ x.2.Perm (List.range m)) ∧ Sat w (fun x => x = b) [.ow x.1 3 1 m (ints (chI x.2)), dkP bs b (K + m)] w' := by
  refine q_of (dk_sat hd) Try.func6 rfl (by simp [Try.ntmps6]) ?_
  (refine q_seq (q_region (ql_pure tabOk rfl rfl (q_nil (q_seq (q_region (ql_pure tabOk rfl rfl (q_nil (q_seq (q_seq (q_region ?_)))))))))); (iterate 3 refine ql_pure tabOk rfl rfl ?_); refine q_nil (q_block ?_))
  refine q_conv (H' := [.ow (.slice none 0 0) 3 1 0 (ints (chI (List.range 0))), dkP bs b K]) (fun w' hs => Sat.ownil (hs.sp (by repeat constructor)) _ _) ?_
  refine q_loop (σ := Nat × Value) (fun s => s.1 ≤ m) (fun s => m - s.1) (fun s => [(0, .pointer (some ⟨b, 0, none⟩)), (5, s.2), (10, .int .i64 m), (11, .int .i64 s.1)])
    (fun s => [.ow s.2 3 1 s.1 (ints (chI (List.range s.1))), dkP bs b K]) (0, .slice none 0 0) (by simp) ⟨rfl, rfl, lookI rfl (by omega), rfl, trivial⟩ (Sp.refl _) ?_
  rintro ⟨k, v⟩ hk K1 hK1
  simp only at hk
  dsimp only
  (refine q_seq (q_region (ql_pure tabOk rfl rfl (q_nil (q_seq ?_)))))
  refine q_if rfl (fun hc => ?_) (fun hc => ?_)
  · have hk2 : k < m := by omega
    clear hc
    (refine q_skip (q_seq (q_block (q_seq (q_region (ql_pure tabOk rfl rfl (ql_pure tabOk rfl rfl (q_nil (q_region (ql_pure tabOk rfl rfl (ql_pure tabOk rfl rfl ?_)))))))))))
    refine ql_mkS 3 [.int .i64 (k : Int)] rfl (by kernel_rfl) rfl (fun bn => ?_)
    refine ql_append (q := 1) slI rfl rfl rfl (fun v' => by repeat constructor) (fun w' hs => ⟨_, _, Blk.rdN (hs.blk (b := bn) (by repeat constructor)) rfl⟩) (by simp [oneV]) (by omega) (by omega) (fun v' => ?_)
    (refine ql_pure tabOk rfl rfl (q_nil (q_blk (q_region (ql_ar tabOk rfl rfl rfl rfl (by omega) (by omega) (ql_pure tabOk rfl rfl (q_nil ?_)))))))
    exact hK1 (k + 1, v') _ _ (by simp only; omega) (by simp only; omega) ⟨rfl, rfl, rfl, rfl, trivial⟩ (by dsimp only; rw [List.range_succ, chI_add]; repeat constructor)
  obtain rfl : k = m := by omega
  clear hc hK1
  refine q_fact (fun w hs => hs.slice2 (v := v) (by repeat constructor)) ?_
  rintro ⟨va, vc, rfl⟩
  by_cases hk0 : k = 0
  · subst hk0
    (refine q_exit _ rfl (q_seq (q_seq (q_region (ql_pure tabOk rfl rfl (ql_pure tabOk rfl rfl (ql_ar tabOk rfl rfl rfl rfl (by omega) (by omega) (ql_pure tabOk rfl rfl (q_nil (q_block ?_))))))))))
    refine q_loop (σ := Unit) (fun _ => True) (fun _ => 0) (fun _ => [(5, .slice va 0 vc), (7, .int .i64 (-1))]) (fun _ => [.ow (.slice va 0 vc) 3 1 0 (ints (chI (List.range 0))), dkP bs b K]) () trivial ⟨rfl, rfl, trivial⟩ (by repeat constructor) ?_
    intro _ _ K2 hK2
    (refine q_seq (q_seq (q_region (ql_pure tabOk rfl rfl (ql_gtrF tabOk rfl rfl rfl (by omega) (q_nil (q_cond_false rfl (q_exit _ rfl (q_seq (q_region (ql_pure tabOk rfl rfl (ql_pure tabOk rfl rfl ?_))))))))))); refine q_nil (q_ret ?_))
    refine q_fin tabOk rfl (by repeat constructor) fun w hs => ?_
    exact ⟨(.slice va 0 vc, []), ⟨rfl, .refl _⟩, hs.sp (by repeat constructor)⟩
  refine q_fact (fun w hs => hs.ownSome (v := .slice va k vc) (by repeat constructor) (by omega)) ?_
  rintro ⟨g, gc, ev⟩
  cases ev
  (refine q_exit _ rfl (q_seq (q_seq (q_region (ql_pure tabOk rfl rfl (ql_pure tabOk rfl rfl (ql_ar tabOk rfl rfl rfl rfl (by omega) (by omega) (ql_pure tabOk rfl rfl (q_nil (q_block ?_))))))))))
  refine q_loop (σ := Nat × List Nat) (fun s => s.1 ≤ k - 1 ∧ s.2.Perm (List.range k)) (fun s => s.1) (fun s => [(0, .pointer (some ⟨b, 0, none⟩)), (5, .slice (some ⟨g, 0, none⟩) k vc), (7, .int .i64 s.1)])
    (fun s => [.ow (.slice (some ⟨g, 0, none⟩) k vc) 3 1 k (ints (chI s.2)), dkP bs b (K + (k - 1 - s.1))]) (k - 1, List.range k) ⟨Nat.le_refl _, .refl _⟩ ⟨rfl, rfl, lookI rfl (by omega), trivial⟩ (by rw [show K + (k - 1 - (k - 1)) = K by omega]; repeat constructor) ?_
  rintro ⟨i, l⟩ ⟨hi1, hp⟩ K2 hK2
  simp only at hi1 hp
  dsimp only
  have hl : l.length = k := by rw [hp.length_eq, List.length_range]
  (refine q_seq (q_seq (q_region (ql_pure tabOk rfl rfl (ql_pure tabOk rfl rfl (q_nil ?_))))))
  refine q_if rfl (fun hc => ?_) (fun hc => ?_)
  · have hi2 : 0 < i := by omega
    clear hc
    (refine q_skip (q_seq (q_block (q_seq (q_region (ql_pure tabOk rfl rfl (ql_pure tabOk rfl rfl (ql_ar tabOk rfl rfl rfl rfl (by omega) (by omega) ?_))))))))
    refine ql_call (β := Int) (ψ := fun y v => v = .int .i64 y ∧ 0 ≤ y ∧ (y < (i : Int) + 1 ∨ y = 0)) (L' := fun _ => [dkP bs b (K + (k - 1 - i) + 1)]) tabOk [dkP bs b (K + (k - 1 - i))] [.ow (.slice (some ⟨g, 0, none⟩) k vc) 3 1 k (ints (chI l))] (fun x => x = b) rfl rfl rfl rfl (by repeat constructor) (fun x hx => ⟨_, .head _, hx⟩) (fun w' hs => drawP_ca ((i : Int) + 1) (K + (k - 1 - i)) (by omega) w' b lo hi bs (hby.keepP hlh hs.chg) hlh (hs.all _ (.head _))) ?_
    rintro y _ ⟨rfl, hy0, hy1⟩
    obtain ⟨j, rfl⟩ := Int.eq_ofNat_of_zero_le hy0
    have h1 : i < l.length := by omega
    have h2 : j < l.length := by omega
    have g1 : i < (chI l).length := by rw [chI_len]; exact h1
    have g2 : j < (chI l).length := by rw [chI_len]; exact h2
    have e : ((chI l).set i (chI l)[j]).set j (chI l)[i] = chI ((l.set i l[j]).set j l[i]) := by simp [chI, List.map_set]
    have hcl : k = (chI l).length := by rw [chI_len]; omega
    rw [show K + (k - 1 - i) + 1 = K + (k - 1 - (i - 1)) by omega]
    (refine ql_pure tabOk rfl rfl (q_nil ?_))
    refine q_drawB [true, true, false, false, true, true, true, true, true, true, true, true, false, false, false, false] [dkP bs b (K + (k - 1 - (i - 1)))] [.ow (.slice (some ⟨g, 0, none⟩) k vc) 3 1 k (ints (chI l))] (by repeat constructor) (by kernel_rfl) (by kernel_rfl) (by kernel_rfl) ?_
    refine qb_T 2 rfl rfl (Sp.refl _) fun K1 hK1 => ?_
    (refine qf_pure tabOk rfl rfl rfl (qf_pure tabOk rfl rfl rfl (qf_nil ?_)))
    refine hK1 _ _ (qb_F 2 [.ow (.slice (some ⟨g, 0, none⟩) k vc) 3 1 k (ints (chI l))] rfl rfl (by repeat constructor) fun K1 hK1 => ?_)
    (refine qf_pure tabOk rfl rfl rfl (qf_pure tabOk rfl rfl rfl (qf_nil ?_)))
    refine hK1 _ _ (qb_T 8 rfl rfl (by repeat constructor) fun K1 hK1 => ?_)
    (refine qf_pure tabOk rfl rfl rfl (qf_pure tabOk rfl rfl rfl ?_))
    (refine qf_index tabOk rfl rfl rfl rfl rfl (by omega) (by omega) ?_; refine qf_load1 tabOk rfl rfl rfl (fun w hs => RdI.at (hs.rdI (l := chI l) (t := 3) (n := k) (by repeat constructor) hcl) j g2) ?_)
    (refine qf_pure tabOk rfl rfl rfl (qf_pure tabOk rfl rfl rfl ?_))
    (refine qf_index tabOk rfl rfl rfl rfl rfl (by omega) (by omega) ?_; refine qf_load1 tabOk rfl rfl rfl (fun w hs => RdI.at (hs.rdI (l := chI l) (t := 3) (n := k) (by repeat constructor) hcl) i g1) ?_)
    (refine qf_nil ?_)
    refine hK1 _ _ (qb_F 4 [.ow (.slice (some ⟨g, 0, none⟩) k vc) 3 1 k (ints (chI l))] rfl rfl (by repeat constructor) fun K1 hK1 => ?_)
    skip
    refine qf_index tabOk rfl rfl rfl rfl rfl (by omega) (by omega) ?_
    refine qf_storeW tabOk i rfl rfl rfl rfl (by repeat constructor) (by omega) (by simpa using g1) ?_
    skip
    refine qf_index tabOk rfl rfl rfl rfl rfl (by omega) (by omega) ?_
    refine qf_storeW tabOk j rfl rfl rfl rfl (by repeat constructor) (by omega) (by simpa using g2) ?_
    rw [← List.map_set, ← List.map_set, e]
    (refine qf_nil ?_)
    refine hK1 _ _ (qb_nil ?_)
    (refine q_blk (q_region (ql_pure tabOk rfl rfl (ql_ar tabOk rfl rfl rfl rfl (by omega) (by omega) (ql_pure tabOk rfl rfl (q_nil ?_))))))
    exact hK2 (i - 1, _) _ _ ⟨by simp only; omega, (swap_perm h1 h2).trans hp⟩ (by simp only; omega) ⟨rfl, rfl, lookI rfl (by omega), trivial⟩ (by repeat constructor)
  · obtain rfl : i = 0 := by omega
    (refine q_exit _ rfl (q_seq (q_region (ql_pure tabOk rfl rfl (ql_pure tabOk rfl rfl (q_nil (q_ret ?_)))))))
    refine q_fin tabOk rfl (by repeat constructor) fun w hs => ?_
    exact ⟨(.slice (some ⟨g, 0, none⟩) k vc, l), ⟨rfl, hp⟩, (Sat.dk (K := K + (k - 1 - 0)) (K' := K + k) (hs.sp (H' := [dkP bs b (K + (k - 1 - 0)), .ow (.slice (some ⟨g, 0, none⟩) k vc) 3 1 k (ints (chI l))]) (by repeat constructor)) (by omega)).sp (by repeat constructor)⟩
end Go.Proofs.Ytllldihodgdcjaa

/- Walks of relay: rules and squads are checked. -/
namespace Go.Proofs.Ytllldihodgdcjaa
open Go Go.Eng
theorem rin_ca (n lo hi : Int) (w : World) : Ca Try.prog 26 [.int .i64 n, .int .i64 lo, .int .i64 hi] w fun v w' => v = .bool (inB n lo hi) ∧ Chg [] w w' := by
  refine q_of (Sat.nil w M0) Try.func26 rfl (by simp [Try.ntmps26]) ?_
  (refine q_seq (q_region (ql_pure tabOk rfl rfl (q_nil (q_seq (q_region ?_))))); (iterate 4 refine ql_pure tabOk rfl rfl ?_))
  refine ql_split rfl rfl (fun hc => ?_) (fun hc => ?_)
  · (refine ql_gyes rfl (ql_pure tabOk rfl rfl (ql_gyes rfl (ql_pure tabOk rfl rfl (ql_gyes rfl ?_)))); (iterate 3 refine ql_pure tabOk rfl rfl ?_); refine q_nil (q_ret ?_))
    refine q_fin tabOk rfl (by repeat constructor) fun w hs => ?_
    exact ⟨by simp at hc; simp [inB, hc, retV], hs.chg0⟩
  · ((iterate 3 refine ql_gno rfl rfl rfl ?_); refine ql_pure tabOk rfl rfl (ql_pure tabOk rfl rfl (q_nil (q_ret ?_))))
    refine q_fin tabOk rfl (by repeat constructor) fun w hs => ?_
    exact ⟨by simp at hc; simp [inB, retV]; omega, hs.chg0⟩
/-- A number of cells that lies in a span. -/
def pIn (lo hi : Int) : Value → Bool
  | .int _ x => inB x lo hi
  | _ => false
theorem pIn_all (lo hi : Int) (l : List Int) : (ints l).all (pIn lo hi) = l.all fun x => inB x lo hi := by
  rw [List.all_map]
  rfl
theorem classed1_p (w : World) (l : List Int) : PredAt Try.prog tab w (.func (.func 47) #[] #[]) (ints l) (pIn 0 3) := by
  refine ⟨_, _, _, rfl, rfl, fun w' hw' x hx => ?_⟩
  obtain ⟨y, hy, rfl⟩ := List.mem_map.1 hx
  refine q_of (Sat.nil w' M0) Try.func47 rfl (by simp [Try.ntmps47]) ?_
  (refine q_seq (q_region (ql_pure tabOk rfl rfl (q_nil (q_seq (q_region (ql_pure tabOk rfl rfl ?_)))))))
  refine ql_callv (val := .bool (inB y 0 3)) tabOk rfl rfl rfl rfl (fun w hs => ?_) ?_; exact rin_ca y 0 3 w
  (refine ql_pure tabOk rfl rfl (q_nil (q_ret ?_)))
  refine q_fin tabOk rfl (by repeat constructor) fun w hs => ?_
  exact ⟨rfl, hs.chg0⟩
theorem classed_ca (w : World) (lo hi : Nat) (v : Value) (l : List Int) (h : RdI w lo hi v l) (hl : l.length ≤ 1000) : Ca Try.prog 29 [v] w fun x w' => x = .bool ((l.all fun x => inB x 0 3) && true) ∧ Chg [] w w' := by
  refine q_of (Sat.nil w M0) Try.func29 rfl (by simp [Try.ntmps29]) ?_
  (refine q_seq (q_region (ql_pure tabOk rfl rfl (q_nil (q_seq (q_region (ql_pure tabOk rfl rfl ?_)))))))
  refine ql_callv (val := .bool ((l.all fun x => inB x 0 3) && true)) tabOk rfl rfl rfl rfl (fun w hs => ?_) ?_; exact by have := all_rint w lo hi _ _ (ints l) (pIn 0 3) (RdE.keep h hs.chg0) (by intro i hi; simp [ints, oneV]) (by simp [ints]; omega) (classed1_p w l); rw [pIn_all] at this; rw [Bool.and_true]; exact this
  (refine ql_pure tabOk rfl rfl (q_nil (q_ret ?_)))
  refine q_fin tabOk rfl (by repeat constructor) fun w hs => ?_
  exact ⟨rfl, hs.chg0⟩
/-- The law's rules. -/
abbrev rulC (cv : Value) : List Value := [cv, .int .i64 2, .int .i64 1, .int .i64 0, .int .i64 0, .int .i64 0]
theorem lim1_ca (w : World) (cv : Value) : Ca Try.prog 57 [.agg (rulC cv).toArray] w fun v w' => v = .int .i64 2 ∧ Chg [] w w' := by
  refine q_of (Sat.nil w M0) Try.func57 rfl (by simp [Try.ntmps57]) ?_
  (refine q_seq (q_region ?_))
  refine ql_box rfl rfl (fun b1 => ?_)
  rw [agg_cells]
  (refine ql_pure tabOk rfl rfl (q_nil (q_seq (q_region (ql_pure tabOk rfl rfl ?_)))); refine ql_loadBa tabOk rfl rfl rfl ?_; refine ql_pure tabOk rfl rfl (q_nil (q_ret ?_)))
  refine q_fin tabOk rfl (by repeat constructor) fun w hs => ?_
  exact ⟨rfl, hs.chg0⟩
theorem lim2_ca (w : World) (cv : Value) : Ca Try.prog 58 [.agg (rulC cv).toArray] w fun v w' => v = .int .i64 1 ∧ Chg [] w w' := by
  refine q_of (Sat.nil w M0) Try.func58 rfl (by simp [Try.ntmps58]) ?_
  (refine q_seq (q_region ?_))
  refine ql_box rfl rfl (fun b1 => ?_)
  rw [agg_cells]
  (refine ql_pure tabOk rfl rfl (q_nil (q_seq (q_region (ql_pure tabOk rfl rfl ?_)))); refine ql_loadBa tabOk rfl rfl rfl ?_; refine ql_pure tabOk rfl rfl (q_nil (q_ret ?_)))
  refine q_fin tabOk rfl (by repeat constructor) fun w hs => ?_
  exact ⟨rfl, hs.chg0⟩
theorem lim3_ca (w : World) (cv : Value) : Ca Try.prog 59 [.agg (rulC cv).toArray] w fun v w' => v = .int .i64 0 ∧ Chg [] w w' := by
  refine q_of (Sat.nil w M0) Try.func59 rfl (by simp [Try.ntmps59]) ?_
  (refine q_seq (q_region ?_))
  refine ql_box rfl rfl (fun b1 => ?_)
  rw [agg_cells]
  (refine ql_pure tabOk rfl rfl (q_nil (q_seq (q_region (ql_pure tabOk rfl rfl ?_)))); refine ql_loadBa tabOk rfl rfl rfl ?_; refine ql_pure tabOk rfl rfl (q_nil (q_ret ?_)))
  refine q_fin tabOk rfl (by repeat constructor) fun w hs => ?_
  exact ⟨rfl, hs.chg0⟩
theorem lim4_ca (w : World) (cv : Value) : Ca Try.prog 60 [.agg (rulC cv).toArray] w fun v w' => v = .int .i64 0 ∧ Chg [] w w' := by
  refine q_of (Sat.nil w M0) Try.func60 rfl (by simp [Try.ntmps60]) ?_
  (refine q_seq (q_region ?_))
  refine ql_box rfl rfl (fun b1 => ?_)
  rw [agg_cells]
  (refine ql_pure tabOk rfl rfl (q_nil (q_seq (q_region (ql_pure tabOk rfl rfl ?_)))); refine ql_loadBa tabOk rfl rfl rfl ?_; refine ql_pure tabOk rfl rfl (q_nil (q_ret ?_)))
  refine q_fin tabOk rfl (by repeat constructor) fun w hs => ?_
  exact ⟨rfl, hs.chg0⟩
theorem lim5_ca (w : World) (cv : Value) : Ca Try.prog 61 [.agg (rulC cv).toArray] w fun v w' => v = .int .i64 0 ∧ Chg [] w w' := by
  refine q_of (Sat.nil w M0) Try.func61 rfl (by simp [Try.ntmps61]) ?_
  (refine q_seq (q_region ?_))
  refine ql_box rfl rfl (fun b1 => ?_)
  rw [agg_cells]
  (refine ql_pure tabOk rfl rfl (q_nil (q_seq (q_region (ql_pure tabOk rfl rfl ?_)))); refine ql_loadBa tabOk rfl rfl rfl ?_; refine ql_pure tabOk rfl rfl (q_nil (q_ret ?_)))
  refine q_fin tabOk rfl (by repeat constructor) fun w hs => ?_
  exact ⟨rfl, hs.chg0⟩
/-- The limits of rules. -/
def limE : List Value := [.agg #[.func (.func 57) #[] #[], .int .i64 1, .int .i64 4], .agg #[.func (.func 58) #[] #[], .int .i64 1, .int .i64 5], .agg #[.func (.func 59) #[] #[], .int .i64 0, .int .i64 600], .agg #[.func (.func 60) #[] #[], .int .i64 0, .int .i64 600], .agg #[.func (.func 61) #[] #[], .int .i64 0, .int .i64 6000]]
def limC : List Value := [.func (.func 57) #[] #[], .int .i64 1, .int .i64 4, .func (.func 58) #[] #[], .int .i64 1, .int .i64 5, .func (.func 59) #[] #[], .int .i64 0, .int .i64 600, .func (.func 60) #[] #[], .int .i64 0, .int .i64 600, .func (.func 61) #[] #[], .int .i64 0, .int .i64 6000]
theorem limits_ca (w : World) : Ca Try.prog 43 [] w fun x w' => ∃ b : Nat, x = .slice (some ⟨b, 0, none⟩) 5 5 ∧ Sat w M0 [.pt b limC 95] w' := by
  refine q_of (Sat.nil w M0) Try.func43 rfl (by simp [Try.ntmps43]) ?_
  (refine q_seq (q_region (ql_pure tabOk rfl rfl (q_nil (q_seq (q_region ?_))))))
  refine ql_mk #[.func (.func 57) #[] #[], .int .i64 1, .int .i64 4] rfl (by kernel_rfl) rfl ?_
  refine ql_mk #[.func (.func 58) #[] #[], .int .i64 1, .int .i64 5] rfl (by kernel_rfl) rfl ?_
  refine ql_mk #[.func (.func 59) #[] #[], .int .i64 0, .int .i64 600] rfl (by kernel_rfl) rfl ?_
  refine ql_mk #[.func (.func 60) #[] #[], .int .i64 0, .int .i64 600] rfl (by kernel_rfl) rfl ?_
  refine ql_mk #[.func (.func 61) #[] #[], .int .i64 0, .int .i64 6000] rfl (by kernel_rfl) rfl ?_
  refine ql_mkS 95 limC rfl (by kernel_rfl) rfl (fun b5 => ?_)
  (refine ql_pure tabOk rfl rfl (q_nil (q_ret ?_)))
  refine q_fin tabOk rfl (by repeat constructor) fun w hs => ?_
  exact ⟨b5, rfl, hs.sp (by repeat constructor)⟩
theorem rules1_p (w : World) (cv : Value) (b : Nat) (hb : Blk w b (rulC cv) 43) : PredAt Try.prog tab w (.func (.func 44) #[] #[.pointer (some ⟨b, 0, none⟩)]) limE (fun _ => true) := by
  refine ⟨_, _, _, rfl, rfl, fun w' hw' x hx => ?_⟩
  have hb' := hb.keep hw'
  simp only [limE, List.mem_cons, List.not_mem_nil, or_false] at hx
  rcases hx with rfl | rfl | rfl | rfl | rfl
  ·
    refine q_of (Sat.nil w' M0) Try.func44 rfl (by simp [Try.ntmps44]) ?_
    (refine q_seq (q_region ?_))
    refine ql_box rfl rfl (fun b2 => ?_)
    (refine ql_pure tabOk rfl rfl (q_nil (q_seq ?_)))
    refine q_draw _ [] (Sp.refl _) (by kernel_rfl) (by kernel_rfl) ?_
    (refine qf_pure tabOk rfl rfl rfl ?_; refine qf_loadBa tabOk rfl rfl rfl ?_; refine qf_loadPA tabOk rfl rfl rfl (by assumption) (by rfl) (by rfl) ?_)
    refine qf_callFv (val := .int .i64 2) rfl rfl rfl (fun w hs => CaF.of tabOk (by kernel_rfl) (lim1_ca w cv)) ?_
    (refine qf_pure tabOk rfl rfl rfl ?_; refine qf_loadBa tabOk rfl rfl rfl ?_; refine qf_pure tabOk rfl rfl rfl ?_; refine qf_loadBa tabOk rfl rfl rfl ?_)
    refine qf_callv (val := .bool (inB 2 1 4)) tabOk rfl rfl rfl rfl (fun w hs => ?_) ?_; exact rin_ca 2 1 4 w
    (refine qf_pure tabOk rfl rfl rfl (qf_nil (q_ret ?_)))
    refine q_fin tabOk rfl (by repeat constructor) fun w hs => ?_
    exact ⟨rfl, hs.chg0⟩
  ·
    refine q_of (Sat.nil w' M0) Try.func44 rfl (by simp [Try.ntmps44]) ?_
    (refine q_seq (q_region ?_))
    refine ql_box rfl rfl (fun b2 => ?_)
    (refine ql_pure tabOk rfl rfl (q_nil (q_seq ?_)))
    refine q_draw _ [] (Sp.refl _) (by kernel_rfl) (by kernel_rfl) ?_
    (refine qf_pure tabOk rfl rfl rfl ?_; refine qf_loadBa tabOk rfl rfl rfl ?_; refine qf_loadPA tabOk rfl rfl rfl (by assumption) (by rfl) (by rfl) ?_)
    refine qf_callFv (val := .int .i64 1) rfl rfl rfl (fun w hs => CaF.of tabOk (by kernel_rfl) (lim2_ca w cv)) ?_
    (refine qf_pure tabOk rfl rfl rfl ?_; refine qf_loadBa tabOk rfl rfl rfl ?_; refine qf_pure tabOk rfl rfl rfl ?_; refine qf_loadBa tabOk rfl rfl rfl ?_)
    refine qf_callv (val := .bool (inB 1 1 5)) tabOk rfl rfl rfl rfl (fun w hs => ?_) ?_; exact rin_ca 1 1 5 w
    (refine qf_pure tabOk rfl rfl rfl (qf_nil (q_ret ?_)))
    refine q_fin tabOk rfl (by repeat constructor) fun w hs => ?_
    exact ⟨rfl, hs.chg0⟩
  ·
    refine q_of (Sat.nil w' M0) Try.func44 rfl (by simp [Try.ntmps44]) ?_
    (refine q_seq (q_region ?_))
    refine ql_box rfl rfl (fun b2 => ?_)
    (refine ql_pure tabOk rfl rfl (q_nil (q_seq ?_)))
    refine q_draw _ [] (Sp.refl _) (by kernel_rfl) (by kernel_rfl) ?_
    (refine qf_pure tabOk rfl rfl rfl ?_; refine qf_loadBa tabOk rfl rfl rfl ?_; refine qf_loadPA tabOk rfl rfl rfl (by assumption) (by rfl) (by rfl) ?_)
    refine qf_callFv (val := .int .i64 0) rfl rfl rfl (fun w hs => CaF.of tabOk (by kernel_rfl) (lim3_ca w cv)) ?_
    (refine qf_pure tabOk rfl rfl rfl ?_; refine qf_loadBa tabOk rfl rfl rfl ?_; refine qf_pure tabOk rfl rfl rfl ?_; refine qf_loadBa tabOk rfl rfl rfl ?_)
    refine qf_callv (val := .bool (inB 0 0 600)) tabOk rfl rfl rfl rfl (fun w hs => ?_) ?_; exact rin_ca 0 0 600 w
    (refine qf_pure tabOk rfl rfl rfl (qf_nil (q_ret ?_)))
    refine q_fin tabOk rfl (by repeat constructor) fun w hs => ?_
    exact ⟨rfl, hs.chg0⟩
  ·
    refine q_of (Sat.nil w' M0) Try.func44 rfl (by simp [Try.ntmps44]) ?_
    (refine q_seq (q_region ?_))
    refine ql_box rfl rfl (fun b2 => ?_)
    (refine ql_pure tabOk rfl rfl (q_nil (q_seq ?_)))
    refine q_draw _ [] (Sp.refl _) (by kernel_rfl) (by kernel_rfl) ?_
    (refine qf_pure tabOk rfl rfl rfl ?_; refine qf_loadBa tabOk rfl rfl rfl ?_; refine qf_loadPA tabOk rfl rfl rfl (by assumption) (by rfl) (by rfl) ?_)
    refine qf_callFv (val := .int .i64 0) rfl rfl rfl (fun w hs => CaF.of tabOk (by kernel_rfl) (lim4_ca w cv)) ?_
    (refine qf_pure tabOk rfl rfl rfl ?_; refine qf_loadBa tabOk rfl rfl rfl ?_; refine qf_pure tabOk rfl rfl rfl ?_; refine qf_loadBa tabOk rfl rfl rfl ?_)
    refine qf_callv (val := .bool (inB 0 0 600)) tabOk rfl rfl rfl rfl (fun w hs => ?_) ?_; exact rin_ca 0 0 600 w
    (refine qf_pure tabOk rfl rfl rfl (qf_nil (q_ret ?_)))
    refine q_fin tabOk rfl (by repeat constructor) fun w hs => ?_
    exact ⟨rfl, hs.chg0⟩
  ·
    refine q_of (Sat.nil w' M0) Try.func44 rfl (by simp [Try.ntmps44]) ?_
    (refine q_seq (q_region ?_))
    refine ql_box rfl rfl (fun b2 => ?_)
    (refine ql_pure tabOk rfl rfl (q_nil (q_seq ?_)))
    refine q_draw _ [] (Sp.refl _) (by kernel_rfl) (by kernel_rfl) ?_
    (refine qf_pure tabOk rfl rfl rfl ?_; refine qf_loadBa tabOk rfl rfl rfl ?_; refine qf_loadPA tabOk rfl rfl rfl (by assumption) (by rfl) (by rfl) ?_)
    refine qf_callFv (val := .int .i64 0) rfl rfl rfl (fun w hs => CaF.of tabOk (by kernel_rfl) (lim5_ca w cv)) ?_
    (refine qf_pure tabOk rfl rfl rfl ?_; refine qf_loadBa tabOk rfl rfl rfl ?_; refine qf_pure tabOk rfl rfl rfl ?_; refine qf_loadBa tabOk rfl rfl rfl ?_)
    refine qf_callv (val := .bool (inB 0 0 6000)) tabOk rfl rfl rfl rfl (fun w hs => ?_) ?_; exact rin_ca 0 0 6000 w
    (refine qf_pure tabOk rfl rfl rfl (qf_nil (q_ret ?_)))
    refine q_fin tabOk rfl (by repeat constructor) fun w hs => ?_
    exact ⟨rfl, hs.chg0⟩
theorem zero_classed (m : Nat) : ((List.replicate m (0 : Int)).all (fun x => inB x 0 3) && true) = true := by
  rw [Bool.and_true, List.all_eq_true]
  intro x hx
  rw [(List.mem_replicate.1 hx).2]
  decide
theorem rules_ca (w : World) (lo hi : Nat) (cv : Value) (m : Nat) (h : RdI w lo hi cv (List.replicate m 0)) (h1 : 1 ≤ m) (h4 : m ≤ 4) : Ca Try.prog 25 [.agg (rulC cv).toArray] w fun x w' => x = .int .i64 0 ∧ Chg [] w w' := by
  obtain ⟨a, c, rfl, hsl⟩ := RdI.outI h
  rw [List.length_replicate] at h ⊢
  refine q_of (Sat.nil w M0) Try.func25 rfl (by simp [Try.ntmps25]) ?_
  (refine q_seq (q_region ?_))
  refine ql_box rfl rfl (fun b1 => ?_)
  rw [agg_cells]
  (refine ql_pure tabOk rfl rfl (q_nil (q_seq (q_block (q_seq (q_region (ql_pure tabOk rfl rfl ?_)))))); refine ql_loadBa tabOk rfl rfl rfl ?_; refine ql_pure tabOk rfl rfl ?_)
  refine ql_callv (val := .bool true) tabOk rfl rfl rfl rfl (fun w hs => ?_) ?_; exact by have := rin_ca m 1 4 w; rw [inB_iff.2 (show (1 : Int) ≤ (m : Int) ∧ (m : Int) ≤ 4 by omega)] at this; exact this
  (refine ql_pure tabOk rfl rfl (ql_pure tabOk rfl rfl (q_nil (q_cond_false rfl (q_seq (q_region (ql_pure tabOk rfl rfl ?_)))))); refine ql_loadBa tabOk rfl rfl rfl ?_)
  refine ql_callv (val := .bool true) tabOk rfl rfl rfl rfl (fun w hs => ?_) ?_; exact by have := classed_ca w lo hi (.slice a m c) (List.replicate m 0) (RdE.keep h hs.chg0) (by rw [List.length_replicate]; omega); rw [zero_classed] at this; exact this
  (refine ql_pure tabOk rfl rfl (ql_pure tabOk rfl rfl (ql_gyes rfl ?_)))
  refine ql_call (β := Nat) tabOk [] _ M0 rfl rfl rfl rfl (Sp.refl _) (fun _ h => h.elim) (fun w' hs => limits_ca w') ?_
  rintro bl _ rfl
  dsimp only [List.cons_append, List.nil_append]
  (refine ql_gyes rfl (ql_pure tabOk rfl rfl (ql_gyes rfl ?_)))
  refine ql_callv (val := .bool true) tabOk rfl rfl rfl rfl (fun w hs => ?_) ?_; exact by have := all_rlim w 0 w.heap.size (.slice (some ⟨bl, 0, none⟩) 5 5) _ limE (fun _ => true) (⟨Blk.rdN (sz := 3) (hs.blk (b := bl) (cs := limC) (by repeat constructor)) rfl, by simp [limE, agg_size]⟩) (by intro i hi; simp only [limE, List.length_cons, List.length_nil] at hi; have : i = 0 ∨ i = 1 ∨ i = 2 ∨ i = 3 ∨ i = 4 := (by omega); rcases this with rfl | rfl | rfl | rfl | rfl <;> exact ⟨_, rfl⟩) (by decide) (rules1_p w (.slice a m c) b1 (hs.blk (by repeat constructor))); exact this
  (refine ql_gyes rfl ?_; (iterate 3 refine ql_pure tabOk rfl rfl ?_); refine q_nil (q_cond_false rfl (q_skip (q_blk (q_seq (q_region (ql_pure tabOk rfl rfl (q_nil (q_ret ?_)))))))))
  refine q_fin tabOk rfl (by repeat constructor) fun w hs => ?_
  exact ⟨rfl, hs.chg0⟩
end Go.Proofs.Ytllldihodgdcjaa

/- Walks of relay: how long an order takes. -/
namespace Go.Proofs.Ytllldihodgdcjaa
open Go Go.Eng
/-- A squad with the law's rules. -/
abbrev chC (scl sti rcl : Value) : List Value := [scl, sti, rcl, .int .i64 2, .int .i64 1, .int .i64 0, .int .i64 0, .int .i64 0]
structure ChO (w : World) (hb : Nat) (scl sti rcl : Value) (n m : Nat) (T : List (List Int)) : Prop where
  sc : RdI w 0 hb scl (List.replicate n 0)
  rc : RdI w 0 hb rcl (List.replicate m 0)
  st : RdII w 0 hb sti T
  len : T.length = n
  row : ∀ r ∈ T, r.length = m
  bd : ∀ r ∈ T, ∀ x ∈ r, 0 ≤ x ∧ x ≤ 100000
  n8 : n ≤ 8
  m4 : m ≤ 4
  m1 : 1 ≤ m
theorem ChO.keep {w w' : World} {hb : Nat} {scl sti rcl : Value} {n m : Nat} {T : List (List Int)} (h : ChO w hb scl sti rcl n m T) (c : Chg [] w w') : ChO w' hb scl sti rcl n m T := ⟨h.sc.keep c, h.rc.keep c, h.st.keep c, h.len, h.row, h.bd, h.n8, h.m4, h.m1⟩
theorem may_ca (w : World) (hb : Nat) (scl sti rcl : Value) (n m : Nat) (T : List (List Int)) (h : ChO w hb scl sti rcl n m T) (s k : Nat) (hsn : s < n) (hk : k < m) : Ca Try.prog 36 [.agg (chC scl sti rcl).toArray, .int .i64 s, .int .i64 k] w fun v w' => v = .bool true ∧ Chg [] w w' := by
  obtain ⟨sa, sc, rfl, hs1⟩ := RdI.outI h.sc
  obtain ⟨ra, rc, rfl, hr1⟩ := RdI.outI h.rc
  rw [List.length_replicate] at hs1 hr1
  obtain ⟨gs, os, rfl⟩ := hs1 (by omega)
  obtain ⟨gr, og, rfl⟩ := hr1 (by omega)
  have hsc := h.sc
  have hrc := h.rc
  rw [List.length_replicate] at hsc hrc ⊢
  rw [List.length_replicate]
  refine q_of (Sat.nil w M0) Try.func36 rfl (by simp [Try.ntmps36]) ?_
  (refine q_seq (q_region ?_))
  refine ql_box rfl rfl (fun b3 => ?_)
  rw [agg_cells]
  (refine ql_pure tabOk rfl rfl (q_nil (q_seq ?_)))
  refine q_draw _ [] (Sp.refl _) (by kernel_rfl) (by kernel_rfl) ?_
  (refine qf_pure tabOk rfl rfl rfl (qf_pure tabOk rfl rfl rfl ?_); refine qf_loadBa tabOk rfl rfl rfl ?_; refine qf_pure tabOk rfl rfl rfl ?_)
  refine qf_index tabOk rfl rfl rfl rfl rfl (by omega) (by omega) ?_
  skip
  refine qf_load1 (v := .int .i64 0) tabOk rfl rfl rfl (fun w hs => by
    have := RdI.at (RdE.keep hsc hs.chg0) s (by rw [List.length_replicate]; exact hsn)
    rw [List.getElem_replicate] at this
    exact this) ?_
  (refine qf_pure tabOk rfl rfl rfl (qf_pure tabOk rfl rfl rfl ?_); refine qf_loadBa tabOk rfl rfl rfl ?_; refine qf_pure tabOk rfl rfl rfl ?_)
  refine qf_index tabOk rfl rfl rfl rfl rfl (by omega) (by omega) ?_
  skip
  refine qf_load1 (v := .int .i64 0) tabOk rfl rfl rfl (fun w hs => by
    have := RdI.at (RdE.keep hrc hs.chg0) k (by rw [List.length_replicate]; exact hk)
    rw [List.getElem_replicate] at this
    exact this) ?_
  (refine qf_eqlT tabOk rfl rfl rfl (by omega) (qf_pure tabOk rfl rfl rfl (qf_nil (q_ret ?_))))
  refine q_fin tabOk rfl (by repeat constructor) fun w hs => ?_
  exact ⟨rfl, hs.chg0⟩
/-- How often each skier is in an order, up to a leg. -/
def cntA (L : List Nat) (k : Nat) : List Int := (List.range 8).map fun s => ((L.take k).count s : Int)
theorem cntA_len (L : List Nat) (k : Nat) : (cntA L k).length = 8 := by simp [cntA]
theorem cntA_at (L : List Nat) (k s : Nat) (h : s < (cntA L k).length) : (cntA L k)[s] = ((L.take k).count s : Int) := by simp [cntA]
theorem cntA_succ {L : List Nat} {k : Nat} (hk : k < L.length) : (cntA L k).set L[k] (((L.take k).count L[k] : Int) + 1) = cntA L (k + 1) := by
  refine List.ext_getElem (by simp [cntA]) fun i h1 h2 => ?_
  rw [List.getElem_set]
  simp only [cntA_at]
  rw [List.take_succ_eq_append_getElem hk, List.count_append]
  split
  · rename_i e
    subst e
    simp
  · rename_i e
    simp [List.count_cons, e]
theorem foldl_bd : ∀ (l : List Int) (a : Int), (∀ x ∈ l, 0 ≤ x ∧ x ≤ 100000) → 0 ≤ a → 0 ≤ l.foldl (· + ·) a ∧ l.foldl (· + ·) a ≤ a + 100000 * l.length
  | [], a, _, h => by simp; omega
  | x :: l, a, hl, h => by
    have h1 := hl x (.head _)
    have h2 := foldl_bd l (a + x) (fun y hy => hl y (.tail _ hy)) (by omega)
    rw [List.foldl_cons, List.length_cons]
    omega
theorem foldl_snoc (l : List Int) (k : Nat) (hk : k < l.length) : (l.take (k + 1)).foldl (· + ·) (0 : Int) = (l.take k).foldl (· + ·) 0 + l[k] := by
  rw [List.take_succ_eq_append_getElem hk, List.foldl_append]
  rfl
theorem rsum_ca (w : World) (lo hi : Nat) (v : Value) (l : List Int) (h : RdI w lo hi v l) (hl : l.length ≤ 10) (hb : ∀ x ∈ l, 0 ≤ x ∧ x ≤ 100000) : Ca Try.prog 50 [v] w fun x w' => x = .int .i64 (l.foldl (· + ·) 0) ∧ Chg [] w w' := by
  obtain ⟨va, vc, rfl, hsv⟩ := RdI.outI h
  refine q_of (Sat.nil w M0) Try.func50 rfl (by simp [Try.ntmps50]) ?_
  (refine q_seq (q_region (ql_pure tabOk rfl rfl (q_nil (q_seq (q_region (ql_pure tabOk rfl rfl (q_nil (q_seq (q_seq (q_region ?_)))))))))); (iterate 3 refine ql_pure tabOk rfl rfl ?_); refine q_nil (q_block ?_))
  refine q_loop (σ := Nat) (fun k => k ≤ l.length) (fun k => l.length - k) (fun k => [(3, .int .i64 ((l.take k).foldl (· + ·) 0)), (6, .slice va l.length vc), (7, .int .i64 l.length), (8, .int .i64 k)]) (fun _ => []) 0 (by omega) ⟨rfl, rfl, rfl, rfl, trivial⟩ (by repeat constructor) ?_
  rintro k hk K hK
  (refine q_seq (q_region (ql_pure tabOk rfl rfl (q_nil (q_seq ?_)))))
  refine q_if rfl (fun hc => ?_) (fun hc => ?_)
  · have hk2 : k < l.length := by omega
    clear hc
    obtain ⟨g, o, rfl⟩ := hsv (by omega)
    have hfs := foldl_snoc l k hk2
    have h1 := foldl_bd (l.take k) 0 (fun x hx => hb x (List.mem_of_mem_take hx)) (Int.le_refl _)
    rw [List.length_take] at h1
    have h2 := hb l[k] (List.getElem_mem hk2)
    generalize (l.take k).foldl (· + ·) (0 : Int) = f at hfs h1 ⊢
    obtain ⟨x, hx⟩ : ∃ x, l[k] = x := ⟨_, rfl⟩
    rw [hx] at hfs h2
    (refine q_skip (q_seq (q_block (q_seq (q_region ?_)))))
    refine ql_index tabOk rfl rfl rfl rfl rfl (by omega) (by omega) ?_
    refine ql_load1 (v := .int .i64 x) tabOk rfl rfl rfl (fun w hs => by
      have := RdI.at (RdE.keep h hs.chg0) k hk2
      rw [hx] at this
      exact this) ?_
    (refine ql_pure tabOk rfl rfl (q_nil (q_region (ql_pure tabOk rfl rfl (ql_pure tabOk rfl rfl (ql_ar tabOk rfl rfl rfl rfl (by omega) (by omega) (ql_pure tabOk rfl rfl (q_nil (q_blk (q_region (ql_ar tabOk rfl rfl rfl rfl (by omega) (by omega) (ql_pure tabOk rfl rfl ?_))))))))))); refine q_nil ?_)
    exact hK (k + 1) _ _ (by omega) (by omega) ⟨by rw [hfs]; rfl, rfl, rfl, rfl, trivial⟩ (by repeat constructor)
  · obtain rfl : k = l.length := by omega
    rw [List.take_length]
    (refine q_exit _ rfl (q_seq (q_region (ql_pure tabOk rfl rfl (ql_pure tabOk rfl rfl (q_nil (q_ret ?_)))))))
    refine q_fin tabOk rfl (by repeat constructor) fun w hs => ?_
    exact ⟨rfl, hs.chg0⟩
theorem cst_bd {w : World} {hb : Nat} {scl sti rcl : Value} {n m : Nat} {T : List (List Int)} (h : ChO w hb scl sti rcl n m T) (L : List Nat) (k : Nat) (hL : L.length ≤ m) (hLn : ∀ s ∈ L, s < n) : ∀ x ∈ cstB T L k, 0 ≤ x ∧ x ≤ 100000 := fun x hx => by
  obtain ⟨i, _, rfl⟩ := List.mem_map.1 hx
  have h0 : (0 : Int) ≤ 0 ∧ (0 : Int) ≤ 100000 := by decide
  rw [List.getD_eq_getElem?_getD, List.getD_eq_getElem?_getD]
  cases hr : T[L.getD i 0]? with
  | none => simp
  | some r =>
    have hm := List.mem_of_getElem? hr
    rw [Option.getD_some]
    cases hc : r[i]? with
    | none => simp
    | some y =>
      rw [Option.getD_some]
      exact h.bd r hm y (List.mem_of_getElem? hc)
theorem oft_arr : arrB Try.prog 100 8 3 1 = true := by kernel_rfl
set_option maxHeartbeats 4000000 in
theorem takes_ca (w : World) (hb : Nat) (scl sti rcl : Value) (n m : Nat) (T : List (List Int)) (h : ChO w hb scl sti rcl n m T) (lo hi : Nat) (u : Value) (L : List Nat) (hu : RdI w lo hi u (chI L)) (hL : L.length ≤ m) (hLn : ∀ s ∈ L, s < n) :
    Ca Try.prog 34 [.agg (chC scl sti rcl).toArray, u] w fun v w' => v = .tuple #[.int .i64 (if okO 2 L L.length = true then cstO T L else 0), .bool (okO 2 L L.length && true)] ∧ Chg [] w w' := by
  have hm4 := h.m4
  have hn8 := h.n8
  obtain ⟨ua, uc, rfl, hus⟩ := RdI.outI hu
  rw [chI_len] at hus hu ⊢
  refine q_of (Sat.nil w M0) Try.func34 rfl (by simp [Try.ntmps34]) ?_
  (refine q_seq (q_region ?_))
  refine ql_box rfl rfl (fun b2 => ?_)
  rw [agg_cells]
  (refine ql_pure tabOk rfl rfl (ql_pure tabOk rfl rfl (q_nil (q_seq (q_region ?_)))); refine ql_loadABa tabOk rfl rfl rfl ?_; refine ql_pure tabOk rfl rfl (ql_pure tabOk rfl rfl (q_nil (q_seq (q_region (ql_pure tabOk rfl rfl (q_nil (q_seq (q_region ?_)))))))))
  refine ql_alloc zero100 rfl (fun b8 => ?_)
  (refine q_nil (q_seq (q_seq (q_region ?_))); (iterate 3 refine ql_pure tabOk rfl rfl ?_); refine q_nil (q_block ?_))
  refine q_conv (H' := [.ow (.slice none 0 0) 3 1 0 [], .pt b8 (ints (cntA L 0)) 100, .pt b2 (chC scl sti rcl) 70]) (fun w' hs => (Sat.ownil hs 3 1).sp (by repeat constructor)) ?_
  refine q_loop (σ := Nat × Value) (fun z => z.1 ≤ L.length ∧ okO 2 L z.1 = true) (fun z => L.length - z.1) (fun z => [(2, .pointer (some ⟨b2, 0, none⟩)), (6, .func (.func 36) #[.agg (chC scl sti rcl).toArray] #[]), (7, z.2), (8, .pointer (some ⟨b8, 0, none⟩)), (13, .slice ua L.length uc), (14, .int .i64 L.length), (15, .int .i64 z.1)]) (fun z => [.ow z.2 3 1 z.1 (ints (cstB T L z.1)), .pt b8 (ints (cntA L z.1)) 100, .pt b2 (chC scl sti rcl) 70]) (0, .slice none 0 0) ⟨Nat.zero_le _, rfl⟩ ⟨rfl, rfl, rfl, rfl, rfl, rfl, rfl, trivial⟩ (by repeat constructor) ?_
  rintro ⟨k, v⟩ ⟨hk, hok⟩ K hK
  dsimp only at hk hok hK ⊢
  (refine q_seq (q_region (ql_pure tabOk rfl rfl (q_nil (q_seq ?_)))))
  refine q_if rfl (fun hc => ?_) (fun hc => ?_)
  · have hk2 : k < L.length := by omega
    clear hc
    obtain ⟨g, o, rfl⟩ := hus (by omega)
    have hsn := hLn L[k] (List.getElem_mem hk2)
    have hkc : k < (chI L).length := by rw [chI_len]; exact hk2
    have hcs := cntA_succ hk2
    have hos := okO_succ 2 L k
    have hld : L.getD k 0 = L[k] := by rw [List.getD_eq_getElem?_getD, List.getElem?_eq_getElem hk2, Option.getD_some]
    rw [hok, Bool.true_and, hld, List.take_succ_eq_append_getElem hk2, List.count_append] at hos
    have hcst := cstB_succ T L k
    rw [hld] at hcst
    obtain ⟨s, hs0⟩ : ∃ s, L[k] = s := ⟨_, rfl⟩
    rw [hs0] at hsn hcs hos hcst
    have hc1 : ([s] : List Nat).count s = 1 := by simp
    rw [hc1] at hos
    have hs8 : s < (cntA L k).length := by rw [cntA_len]; omega
    have hcat := cntA_at L k s hs8
    have hcle : (L.take k).count s ≤ 4 := by
      have := List.count_le_length (a := s) (l := L.take k)
      rw [List.length_take] at this
      omega
    obtain ⟨c, hcc⟩ : ∃ c, c = (L.take k).count s := ⟨_, rfl⟩
    rw [← hcc] at hcs hos hcat hcle
    (refine q_skip (q_seq (q_block (q_seq (q_region (ql_pure tabOk rfl rfl ?_))))))
    refine ql_index tabOk rfl rfl rfl rfl rfl (by omega) (by omega) ?_
    refine ql_load1 (v := .int .i64 (s : Nat)) tabOk rfl rfl rfl (fun w hs => by
      have := RdI.at (RdE.keep hu hs.chg0) k hkc
      rw [chI_at hk2 hkc, hs0] at this
      exact this) ?_
    (refine ql_pure tabOk rfl rfl (ql_pure tabOk rfl rfl (q_nil (q_seq (q_region (ql_pure tabOk rfl rfl ?_))))))
    refine ql_indexA (len := 8) oft_arr rfl rfl rfl (by omega) (by omega) ?_
    refine ql_loadI tabOk (s) rfl rfl rfl (by repeat constructor) (by first | rfl | omega | simp) hs8 ?_
    rw [hcat]
    (refine ql_ar tabOk rfl rfl rfl rfl (by omega) (by omega) ?_)
    refine ql_indexA (len := 8) oft_arr rfl rfl rfl (by omega) (by omega) ?_
    skip
    refine ql_storeI tabOk (s) rfl rfl rfl (by repeat constructor) (by first | rfl | omega | simp) hs8 ?_
    rw [hcs]
    have hs8' : s < (cntA L (k + 1)).length := by rw [cntA_len]; omega
    have hcat2 : (cntA L (k + 1))[s] = (c : Int) + 1 := by
      rw [cntA_at, List.take_succ_eq_append_getElem hk2, List.count_append, hs0, hc1, ← hcc]
      omega
    (refine q_nil (q_seq (q_seq ?_)))
    refine q_draw _ [] (Sp.refl _) (by kernel_rfl) (by kernel_rfl) ?_
    ((iterate 3 refine qf_pure tabOk rfl rfl rfl ?_))
    refine qf_callFv (val := .bool true) rfl rfl rfl (fun w hs => CaF.of tabOk (by kernel_rfl) (may_ca w hb scl sti rcl n m T (h.keep hs.chg0) s k (by omega) (by omega))) ?_
    (refine qf_pure tabOk rfl rfl rfl (qf_pure tabOk rfl rfl rfl (qf_gyes rfl (qf_pure tabOk rfl rfl rfl (qf_gyes rfl ?_)))))
    refine qf_indexA (len := 8) oft_arr rfl rfl rfl (by omega) (by omega) ?_
    (refine qf_gyes rfl ?_)
    refine qf_loadI tabOk (s) rfl rfl rfl (by repeat constructor) (by first | rfl | omega | simp) hs8' ?_
    rw [hcat2]
    by_cases hc2 : c + 1 ≤ 2
    · rw [decide_eq_true hc2] at hos
      have hsT : s < T.length := by rw [h.len]; exact hsn
      have hrw := h.row T[s] (List.getElem_mem hsT)
      have hbd := h.bd T[s] (List.getElem_mem hsT)
      obtain ⟨ta, tc, rfl, hts⟩ := RdII.outI h.st
      obtain ⟨gt, ot, rfl⟩ := hts (by omega)
      have hm1 := h.m1
      obtain ⟨g1, o1, c1, hr1, hcl1⟩ := RdII.rowS (m := m) h.st s hsT hrw (by omega)
      have hkr : k < T[s].length := by omega
      obtain ⟨x, hx⟩ : ∃ x, T[s][k] = x := ⟨_, rfl⟩
      have hgx : (T.getD s []).getD k 0 = x := by
        rw [List.getD_eq_getElem?_getD (l := T), List.getElem?_eq_getElem hsT, Option.getD_some, List.getD_eq_getElem?_getD, List.getElem?_eq_getElem hkr, Option.getD_some, hx]
      rw [hgx] at hcst
      have hlen := h.len
      (refine qf_gyes rfl (qf_pure tabOk rfl rfl rfl (qf_gyes rfl (qf_pure tabOk rfl rfl rfl (qf_gyes rfl ?_)))); refine qf_loadBa tabOk rfl rfl rfl ?_; refine qf_gyes rfl (qf_gtrF tabOk rfl rfl rfl (by omega) (qf_pure tabOk rfl rfl rfl (qf_nil (q_cond_false rfl (q_skip (q_region ?_)))))); (iterate 3 refine ql_pure tabOk rfl rfl ?_); refine ql_loadBa tabOk rfl rfl rfl ?_; refine ql_pure tabOk rfl rfl ?_)
      refine ql_index tabOk rfl rfl rfl rfl rfl (by omega) (by omega) ?_
      refine ql_load1 (v := .slice (some ⟨g1, o1, none⟩) m c1) tabOk rfl rfl rfl (fun w hs => hcl1 w hs.chg0) ?_
      (refine ql_pure tabOk rfl rfl ?_)
      refine ql_index tabOk rfl rfl rfl rfl rfl (by omega) (by omega) ?_
      refine ql_load1 (v := .int .i64 x) tabOk rfl rfl rfl (fun w hs => by
        have := RdI.at (RdE.keep hr1 hs.chg0) k hkr
        rw [hx] at this
        exact this) ?_
      skip
      refine ql_mkS 3 [.int .i64 x] rfl (by kernel_rfl) rfl (fun bm => ?_)
      skip
      refine ql_append (q := 1) (news := [.int .i64 x]) slI rfl rfl rfl (fun v' => by repeat constructor) (fun w' hs => ⟨_, _, Blk.rdN (hs.blk (b := bm) (by repeat constructor)) rfl⟩) (by simp [oneV]) (by omega) (by omega) (fun u4 => ?_)
      (refine ql_pure tabOk rfl rfl (q_nil (q_blk (q_region (ql_ar tabOk rfl rfl rfl rfl (by omega) (by omega) (ql_pure tabOk rfl rfl (q_nil ?_)))))))
      exact hK (k + 1, u4) _ _ ⟨by simp only; omega, hos⟩ (by simp only; omega) ⟨rfl, rfl, rfl, rfl, rfl, rfl, rfl, trivial⟩ (by dsimp only; rw [hcst, show ints (cstB T L k ++ [x]) = ints (cstB T L k) ++ [.int .i64 x] from by simp [ints]]; repeat constructor)
    · rw [decide_eq_false hc2] at hos
      have hof := okO_mono 2 L hos (show k + 1 ≤ L.length by omega)
      rw [hof]
      (refine qf_gyes rfl (qf_pure tabOk rfl rfl rfl (qf_gyes rfl (qf_pure tabOk rfl rfl rfl (qf_gyes rfl ?_)))); refine qf_loadBa tabOk rfl rfl rfl ?_; refine qf_gyes rfl (qf_gtrT tabOk rfl rfl rfl (by omega) (qf_pure tabOk rfl rfl rfl (qf_nil (q_cond_true rfl (q_seq (q_region (ql_pure tabOk rfl rfl (ql_pure tabOk rfl rfl (q_nil (q_ret ?_)))))))))))
      refine q_fin tabOk rfl (by repeat constructor) fun w hs => ?_
      exact ⟨rfl, hs.chg0⟩
  · obtain rfl : k = L.length := by omega
    clear hc hK hk
    rw [hok]
    (refine q_exit _ rfl (q_seq (q_region (ql_pure tabOk rfl rfl ?_))))
    refine ql_callv (val := .int .i64 (cstO T L)) tabOk rfl rfl rfl rfl (fun w hs => ?_) ?_; exact rsum_ca w 0 w.heap.size v (cstB T L L.length) (hs.rdI (t := 3) (n := L.length) (by repeat constructor) (cstB_len T L L.length).symm) (by rw [cstB_len]; omega) (cst_bd h L L.length hL hLn)
    (refine ql_pure tabOk rfl rfl (ql_pure tabOk rfl rfl (q_nil (q_ret ?_))))
    refine q_fin tabOk rfl (by repeat constructor) fun w hs => ?_
    exact ⟨rfl, hs.chg0⟩
end Go.Proofs.Ytllldihodgdcjaa

/- Walks of relay: a squad is checked. -/
namespace Go.Proofs.Ytllldihodgdcjaa
open Go Go.Eng
theorem squad1_p (w : World) (lo hi : Nat) (ra : Option Addr) (rc m b : Nat) (vs : List Value) (T : List (List Int)) (hb : Blk w b (rulC (.slice ra m rc)) 43) (hv : ∀ x ∈ vs, ∃ r ∈ T, RdI w lo hi x r) (hm : ∀ r ∈ T, r.length = m) : PredAt Try.prog tab w (.func (.func 28) #[] #[.pointer (some ⟨b, 0, none⟩)]) vs (fun _ => true) := by
  refine ⟨_, _, _, rfl, rfl, fun w' hw' x hx => ?_⟩
  have hb' := hb.keep hw'
  obtain ⟨r, hr, hrd⟩ := hv x hx
  obtain ⟨a, c, rfl, _⟩ := RdI.outI hrd
  have hrl := hm r hr
  refine q_of (Sat.nil w' M0) Try.func28 rfl (by simp [Try.ntmps28]) ?_
  (refine q_seq (q_region (ql_pure tabOk rfl rfl (q_nil (q_seq (q_region ?_))))); (iterate 3 refine ql_pure tabOk rfl rfl ?_); refine ql_loadP tabOk rfl rfl rfl (by assumption) (by rfl) ?_; refine ql_pure tabOk rfl rfl (ql_eqlT tabOk rfl rfl rfl (by omega) (ql_pure tabOk rfl rfl (q_nil (q_ret ?_)))))
  refine q_fin tabOk rfl (by repeat constructor) fun w hs => ?_
  exact ⟨rfl, hs.chg0⟩
theorem squad21_p (w : World) (l : List Int) : PredAt Try.prog tab w (.func (.func 32) #[] #[]) (ints l) (pIn 0 100000) := by
  refine ⟨_, _, _, rfl, rfl, fun w' hw' x hx => ?_⟩
  obtain ⟨y, hy, rfl⟩ := List.mem_map.1 hx
  refine q_of (Sat.nil w' M0) Try.func32 rfl (by simp [Try.ntmps32]) ?_
  (refine q_seq (q_region (ql_pure tabOk rfl rfl (q_nil (q_seq (q_region (ql_pure tabOk rfl rfl ?_)))))))
  refine ql_callv (val := .bool (inB y 0 100000)) tabOk rfl rfl rfl rfl (fun w hs => ?_) ?_; exact rin_ca y 0 100000 w
  (refine ql_pure tabOk rfl rfl (q_nil (q_ret ?_)))
  refine q_fin tabOk rfl (by repeat constructor) fun w hs => ?_
  exact ⟨rfl, hs.chg0⟩
theorem squad2_p (w : World) (lo hi : Nat) (vs : List Value) (T : List (List Int)) (hv : ∀ x ∈ vs, ∃ r ∈ T, RdI w lo hi x r) (hm : ∀ r ∈ T, r.length ≤ 1000) (hbd : ∀ r ∈ T, ∀ x ∈ r, 0 ≤ x ∧ x ≤ 100000) : PredAt Try.prog tab w (.func (.func 30) #[] #[]) vs (fun _ => true) := by
  refine ⟨_, _, _, rfl, rfl, fun w' hw' x hx => ?_⟩
  obtain ⟨r, hr, hrd⟩ := hv x hx
  have hrl := hm r hr
  have hall : (r.all fun x => inB x 0 100000) = true := List.all_eq_true.2 fun x hx => inB_iff.2 (hbd r hr x hx)
  refine q_of (Sat.nil w' M0) Try.func30 rfl (by simp [Try.ntmps30]) ?_
  (refine q_seq (q_region (ql_pure tabOk rfl rfl (q_nil (q_seq (q_region (ql_pure tabOk rfl rfl ?_)))))))
  refine ql_callv (val := .bool true) tabOk rfl rfl rfl rfl (fun w hs => ?_) ?_; exact by have := all_rint w lo hi _ _ (ints r) (pIn 0 100000) (RdE.keep hrd (hw'.trans hs.chg0)) (by intro i hi; simp [ints, oneV]) (by simp [ints]; omega) (squad21_p w r); rw [pIn_all, hall] at this; exact this
  (refine ql_pure tabOk rfl rfl (q_nil (q_ret ?_)))
  refine q_fin tabOk rfl (by repeat constructor) fun w hs => ?_
  exact ⟨rfl, hs.chg0⟩
theorem rdII_vs {w : World} {lo hi : Nat} {v : Value} {T : List (List Int)} (h : RdII w lo hi v T) : ∃ vs, RdE w lo hi v 1 vs ∧ vs.length = T.length ∧ ∀ x ∈ vs, ∃ r ∈ T, RdI w lo hi x r := by
  obtain ⟨vs, h1, h2, h3⟩ := h
  refine ⟨vs, h1, h2, fun x hx => ?_⟩
  obtain ⟨i, hi', rfl⟩ := List.mem_iff_getElem.1 hx
  exact ⟨T[i]'(by omega), List.getElem_mem _, h3 i hi' (by omega)⟩
abbrev sqC (scl sti : Value) : List Value := [scl, sti]
set_option maxHeartbeats 1000000 in
theorem squad_ca (w : World) (hb : Nat) (scl sti rcl : Value) (n m : Nat) (T : List (List Int)) (h : ChO w hb scl sti rcl n m T) (hn : 1 ≤ n) : Ca Try.prog 19 [.agg (rulC rcl).toArray, .agg (sqC scl sti).toArray] w fun x w' => x = .int .i64 0 ∧ Chg [] w w' := by
  have hn8 := h.n8
  have hm4 := h.m4
  have hm1 := h.m1
  have hsc := h.sc
  have hrc := h.rc
  have hst := h.st
  obtain ⟨sa, sc, rfl, _⟩ := RdI.outI h.sc
  obtain ⟨ra, rc, rfl, _⟩ := RdI.outI h.rc
  obtain ⟨ta, tc, rfl, _⟩ := RdII.outI h.st
  rw [List.length_replicate] at hsc hrc ⊢
  rw [List.length_replicate]
  rw [h.len] at hst ⊢
  refine q_of (Sat.nil w M0) Try.func19 rfl (by simp [Try.ntmps19]) ?_
  (refine q_seq (q_region ?_))
  refine ql_box rfl rfl (fun b2 => ?_)
  refine ql_box rfl rfl (fun b3 => ?_)
  rw [agg_cells, agg_cells]
  (refine ql_pure tabOk rfl rfl (q_nil (q_seq (q_region ?_))); refine ql_loadABa tabOk rfl rfl rfl ?_)
  refine ql_callv (val := .int .i64 0) tabOk rfl rfl rfl rfl (fun w hs => ?_) ?_; exact rules_ca w 0 _ (.slice ra m rc) m (RdE.keep hrc hs.chg0) hm1 hm4
  (refine ql_pure tabOk rfl rfl (q_nil (q_seq (q_block (q_seq (q_region (ql_pure tabOk rfl rfl (ql_neqF tabOk rfl rfl rfl (by omega) (ql_pure tabOk rfl rfl (q_nil (q_cond_false rfl (q_seq ?_))))))))))); refine q_region (ql_pure tabOk rfl rfl ?_); refine ql_loadBa tabOk rfl rfl rfl ?_; refine ql_pure tabOk rfl rfl ?_)
  refine ql_callv (val := .bool true) tabOk rfl rfl rfl rfl (fun w hs => ?_) ?_; exact by have := rin_ca n 1 8 w; rw [inB_iff.2 (show (1 : Int) ≤ (n : Int) ∧ (n : Int) ≤ 8 by omega)] at this; exact this
  (refine ql_pure tabOk rfl rfl (ql_pure tabOk rfl rfl (ql_gyes rfl (ql_pure tabOk rfl rfl (ql_gyes rfl ?_)))); refine ql_loadBa tabOk rfl rfl rfl ?_; refine ql_gyes rfl (ql_pure tabOk rfl rfl (ql_gyes rfl (ql_pure tabOk rfl rfl (ql_gyes rfl ?_)))); refine ql_loadBa tabOk rfl rfl rfl ?_; refine ql_gyes rfl (ql_pure tabOk rfl rfl (ql_gyes rfl (ql_neqF tabOk rfl rfl rfl (by omega) (ql_pure tabOk rfl rfl (ql_pure tabOk rfl rfl (ql_gyes rfl (ql_pure tabOk rfl rfl (ql_gyes rfl ?_)))))))); refine ql_loadBa tabOk rfl rfl rfl ?_; refine ql_gyes rfl (ql_pure tabOk rfl rfl (ql_gyes rfl ?_)))
  refine ql_callv (val := .bool true) tabOk rfl rfl rfl rfl (fun w hs => ?_) ?_; exact by obtain ⟨vs, g1, g2, g3⟩ := rdII_vs (hst); have := all_rints w 0 _ (.slice ta n tc) _ vs (fun _ => true) (g1.keep hs.chg0) (fun i hi => by obtain ⟨r, _, hr⟩ := g3 _ (List.getElem_mem hi); obtain ⟨a, c, e, _⟩ := RdI.outI hr; rw [e]; rfl) (by have := h.len; omega) (squad1_p w 0 _ ra rc m b2 vs T (hs.blk (by repeat constructor)) (fun x hx => by obtain ⟨r, hr, hrd⟩ := g3 x hx; exact ⟨r, hr, RdE.keep hrd hs.chg0⟩) h.row); rw [show vs.all (fun _ => true) = true from by simp] at this; exact this
  (refine ql_gyes rfl ?_; (iterate 3 refine ql_pure tabOk rfl rfl ?_); refine q_nil (q_cond_false rfl (q_seq (q_region (ql_pure tabOk rfl rfl ?_)))); refine ql_loadBa tabOk rfl rfl rfl ?_)
  refine ql_callv (val := .bool true) tabOk rfl rfl rfl rfl (fun w hs => ?_) ?_; exact by have := classed_ca w 0 _ (.slice sa n sc) (List.replicate n 0) (RdE.keep hsc hs.chg0) (by rw [List.length_replicate]; omega); rw [zero_classed] at this; exact this
  (refine ql_pure tabOk rfl rfl (ql_pure tabOk rfl rfl (ql_gyes rfl (ql_pure tabOk rfl rfl (ql_gyes rfl ?_)))); refine ql_loadBa tabOk rfl rfl rfl ?_; refine ql_gyes rfl ?_)
  refine ql_callv (val := .bool true) tabOk rfl rfl rfl rfl (fun w hs => ?_) ?_; exact by obtain ⟨vs, g1, g2, g3⟩ := rdII_vs (hst); have := all_rints w 0 _ (.slice ta n tc) _ vs (fun _ => true) (g1.keep hs.chg0) (fun i hi => by obtain ⟨r, _, hr⟩ := g3 _ (List.getElem_mem hi); obtain ⟨a, c, e, _⟩ := RdI.outI hr; rw [e]; rfl) (by have := h.len; omega) (squad2_p w 0 _ vs T (fun x hx => by obtain ⟨r, hr, hrd⟩ := g3 x hx; exact ⟨r, hr, RdE.keep hrd hs.chg0⟩) (fun r hr => by rw [h.row r hr]; omega) h.bd); rw [show vs.all (fun _ => true) = true from by simp] at this; exact this
  (refine ql_gyes rfl ?_; (iterate 3 refine ql_pure tabOk rfl rfl ?_); refine q_nil (q_cond_false rfl (q_skip (q_blk (q_seq (q_region (ql_pure tabOk rfl rfl (q_nil (q_ret ?_)))))))))
  refine q_fin tabOk rfl (by repeat constructor) fun w hs => ?_
  exact ⟨rfl, hs.chg0⟩
end Go.Proofs.Ytllldihodgdcjaa

/- Walks of relay: all orders are tried. -/
namespace Go.Proofs.Ytllldihodgdcjaa
open Go Go.Eng
theorem two_sat {w : World} {p2 p3 : Nat} {c2 c3 : List Value} {t2 t3 : TypeId} (h2 : Blk w p2 c2 t2) (h3 : Blk w p3 c3 t3) (hne : p2 ≠ p3) : Sat w (· ∈ [p2, p3]) [.pt p2 c2 t2, .pt p3 c3 t3] w :=
  ⟨ChgP.refl _ _, by simp only [List.mem_cons, List.not_mem_nil, or_false]; rintro c (rfl | rfl) <;> assumption, by
    refine .cons (fun c hc b h1 h2 => ?_) (.cons (by simp) .nil)
    obtain rfl : c = .pt p3 c3 t3 := by simpa using hc
    exact hne (h1.symm.trans h2), by
    simp only [List.mem_cons, List.not_mem_nil, or_false]
    rintro c (rfl | rfl) x hx
    · obtain rfl : x = p2 := hx
      exact ⟨h2.lt, .inl (.inl rfl)⟩
    · obtain rfl : x = p3 := hx
      exact ⟨h3.lt, .inl (.inr rfl)⟩⟩
/-- Readable, whatever becomes of some blocks. -/
def UpI (w : World) (Ml : List Nat) (u : Value) (l : List Int) : Prop := ∃ lo hi, ∀ w', ChgP (· ∈ Ml) w w' → RdI w' lo hi u l
theorem UpI.of {w : World} {Ml : List Nat} {lo hi : Nat} {u : Value} {l : List Int} (h : RdI w lo hi u l) (hM : ∀ k ∈ Ml, k < lo ∨ hi ≤ k) : UpI w Ml u l := ⟨lo, hi, fun _ c => RdE.chg h c.list hM⟩
theorem UpI.chg {w w' : World} {Ml : List Nat} {u : Value} {l : List Int} (h : UpI w Ml u l) (c : ChgP (· ∈ Ml) w w') : UpI w' Ml u l := by
  obtain ⟨lo, hi, h1⟩ := h
  exact ⟨lo, hi, fun w'' c2 => h1 w'' (c.upP c2 fun k hk => .inl hk)⟩
theorem up_own {w0 w : World} {M : Nat → Prop} {Ml : List Nat} {u : Value} {t n : Nat} {l : List Int} {H : List Ck} (hs : Sat w0 M (.ow u t 1 n (ints l) :: H) w) (hn : n = l.length) (hM : ∀ k ∈ Ml, ∃ c ∈ H, c.D k) : UpI w Ml u l := by
  have h0 : w.ownsRow 0 t 1 u n (ints l) := hs.all _ (.head _)
  have h1 := own_rdI h0 hn
  have hsep := (List.pairwise_cons.1 hs.sep).1
  rcases h0.2 with ⟨h3, h4⟩ | ⟨g, cap, cur, h3, _⟩
  · refine UpI.of (lo := 0) (hi := 0) ⟨⟨h1.rd.1, .inl ⟨.inl h3, by rw [List.length_map]; omega⟩⟩, h1.sz⟩ fun k _ => .inr (Nat.zero_le _)
  · refine UpI.of (lo := g) (hi := g + 1) ⟨⟨h1.rd.1, ?_⟩, h1.sz⟩ fun k hk => ?_
    · rcases h1.rd.2 with h2 | ⟨b, off, cp, hv, hb, hc⟩
      · exact .inl h2
      · refine .inr ⟨b, off, cp, hv, fun hp => ?_, hc⟩
        rw [h3] at hv
        injection hv with e1 e2 e3
        injection e1 with e1
        injection e1 with e1 e4
        have := hb hp
        omega
    · obtain ⟨c, hc, hD⟩ := hM k hk
      have h5 := hsep c hc k
      have h6 : k ≠ g := fun e => h5 (by subst e; rw [h3]; rfl) hD
      omega
theorem ChO.chg {w w' : World} {hb : Nat} {scl sti rcl : Value} {n m : Nat} {T : List (List Int)} {N : List Nat} (h : ChO w hb scl sti rcl n m T) (c : Chg N w w') (hN : ∀ k ∈ N, hb ≤ k) : ChO w' hb scl sti rcl n m T := by
  have h0 : ∀ k ∈ N, k < 0 ∨ hb ≤ k := fun k hk => .inr (hN k hk)
  obtain ⟨vs, h1, h2, h3⟩ := h.st
  exact ⟨RdE.chg h.sc c h0, RdE.chg h.rc c h0, ⟨vs, RdE.chg h1 c h0, h2, fun i a b => RdE.chg (h3 i a b) c h0⟩, h.len, h.row, h.bd, h.n8, h.m4, h.m1⟩
theorem hm23 {p2 p3 : Nat} {c2 c3 : List Value} {t2 t3 : TypeId} : ∀ x, x ∈ [p2, p3] → ∃ c ∈ [Ck.pt p2 c2 t2, Ck.pt p3 c3 t3], c.D x := fun x hx => by
  simp only [List.mem_cons, List.not_mem_nil, or_false] at hx
  rcases hx with rfl | rfl
  · exact ⟨_, .head _, rfl⟩
  · exact ⟨_, .tail _ (.head _), rfl⟩
/-- Whether there is a best order. -/
def NilV (v : Value) (o : Option (List Nat)) : Prop := (o = none ∧ v = .slice none 0 0) ∨ (∃ L, o = some L ∧ ∃ g n c, v = .slice (some g) n c)
abbrev growF (p1 p2 p3 p4 p5 : Nat) : Value := .func (.func 33) #[] #[.pointer (some ⟨p1, 0, none⟩), .pointer (some ⟨p2, 0, none⟩), .pointer (some ⟨p3, 0, none⟩), .pointer (some ⟨p4, 0, none⟩), .pointer (some ⟨p5, 0, none⟩)]
abbrev grP (p2 p3 : Nat) (v : Value) (x : Int) : List Ck := [.pt p2 [v] 29, .pt p3 [.int .i64 x] 3]
structure GrE (w : World) (hb p1 p2 p3 p4 p5 : Nat) (scl sti rcl : Value) (n m : Nat) (T : List (List Int)) : Prop where
  c : ∀ w', ChgP (· ∈ [p2, p3]) w w' → ChO w' hb scl sti rcl n m T
  b1 : ∀ w', ChgP (· ∈ [p2, p3]) w w' → Blk w' p1 (chC scl sti rcl) 70
  b4 : ∀ w', ChgP (· ∈ [p2, p3]) w w' → Blk w' p4 [.int .i64 (-1)] 3
  b5 : ∀ w', ChgP (· ∈ [p2, p3]) w w' → Blk w' p5 [growF p1 p2 p3 p4 p5] 80
  ne : p2 ≠ p3
theorem GrE.chg {w w' : World} {hb p1 p2 p3 p4 p5 : Nat} {scl sti rcl : Value} {n m : Nat} {T : List (List Int)} (h : GrE w hb p1 p2 p3 p4 p5 scl sti rcl n m T) (c : ChgP (· ∈ [p2, p3]) w w') : GrE w' hb p1 p2 p3 p4 p5 scl sti rcl n m T :=
  ⟨fun w'' g => h.c w'' (c.upP g fun _ h => .inl h), fun w'' g => h.b1 w'' (c.upP g fun _ h => .inl h), fun w'' g => h.b4 w'' (c.upP g fun _ h => .inl h), fun w'' g => h.b5 w'' (c.upP g fun _ h => .inl h), h.ne⟩
def tZ4_3586681 : OT := .alt (chainT [1, 2, 3, 4, 5, 0, 6] (.nil)) (chainT [3, 4, 1, 2, 5, 0, 6] (.nil))
set_option maxHeartbeats 1000000 in
theorem grow_ca {hb p1 p2 p3 p4 p5 : Nat} {scl sti rcl : Value} {n m : Nat} {T : List (List Int)} : ∀ (j : Nat) (pre : List Nat) (z : Option (List Nat) × Int) (v : Value) (w : World) (u : Value), pre.length + j = m → (∀ s ∈ pre, s < n) → NilV v z.1 → GrE w hb p1 p2 p3 p4 p5 scl sti rcl n m T → UpI w [p2, p3] u (chI pre) → Blk w p2 [v] 29 → Blk w p3 [.int .i64 z.2] 3 →
    Ca Try.prog 33 [u, .pointer (some ⟨p1, 0, none⟩), .pointer (some ⟨p2, 0, none⟩), .pointer (some ⟨p3, 0, none⟩), .pointer (some ⟨p4, 0, none⟩), .pointer (some ⟨p5, 0, none⟩)] w fun _ w' => ∃ y : Value × (Option (List Nat) × Int), (y.2 = (extO n j pre).foldl (bstS T 2) z ∧ NilV y.1 y.2.1) ∧ Sat w (· ∈ [p2, p3]) (grP p2 p3 y.1 y.2.2) w' := by
  intro j
  induction j with
  | zero =>
    intro pre z v w u hpl hpn hnv hE hu hv2 hv3
    have hb1 := hE.b1
    obtain ⟨lo, hi, hu⟩ := hu
    obtain ⟨ua, uc, rfl, _⟩ := RdI.outI (hu w (ChgP.refl _ _))
    rw [chI_len] at hu ⊢
    have hch := hE.c w (ChgP.refl _ _)
    have hrc := hch.rc
    have hm4 := hch.m4
    obtain ⟨ra, rc, erc, _⟩ := RdI.outI hrc
    rw [List.length_replicate] at erc
    subst erc
    have hpm : pre.length = m := by omega
    refine q_of (two_sat hv2 hv3 hE.ne) Try.func33 rfl (by simp [Try.ntmps33]) ?_
    (refine q_seq (q_seq (q_region ?_)); (iterate 4 refine ql_pure tabOk rfl rfl ?_); refine ql_loadG tabOk rfl rfl rfl (by assumption) (by rfl) ?_; refine ql_pure tabOk rfl rfl (ql_eqlT tabOk rfl rfl rfl (by omega) (q_nil (q_cond_true rfl (q_seq (q_seq (q_region ?_)))))); refine ql_loadGA tabOk rfl rfl rfl (by assumption) (by rfl) (by rfl) ?_; refine ql_pure tabOk rfl rfl ?_)
    refine ql_callv (val := .tuple #[.int .i64 (if okO 2 pre pre.length = true then cstO T pre else 0), .bool (okO 2 pre pre.length && true)]) tabOk rfl rfl rfl rfl (fun w hs => ?_) ?_; exact takes_ca w hb scl sti (.slice ra m rc) n m T (hE.c w hs.chg) lo hi (.slice ua pre.length uc) pre (hu w hs.chg) (by omega) hpn
    have hfold : (extO n 0 pre).foldl (bstS T 2) z = bstS T 2 z pre := rfl
    rw [hfold]
    unfold bstS
    cases hok : okO 2 pre pre.length with
    | false =>
      (refine ql_pure tabOk rfl rfl (ql_ext tabOk rfl rfl rfl (ql_ext tabOk rfl rfl rfl (ql_pure tabOk rfl rfl (ql_pure tabOk rfl rfl (q_nil (q_seq (q_region (ql_pure tabOk rfl rfl (ql_pure tabOk rfl rfl ?_))))))))); (iterate 3 refine ql_gno rfl rfl rfl ?_); (iterate 3 refine ql_gnone rfl rfl ?_); refine ql_gno rfl rfl rfl (ql_pure tabOk rfl rfl (q_nil (q_cond_false rfl (q_skip (q_ret ?_))))))
      refine q_fin tabOk rfl (by repeat constructor) fun w hs => ?_
      exact ⟨(v, z), ⟨by simp, hnv⟩, hs.sp (by repeat constructor)⟩
    | true =>
      rw [if_pos rfl]
      generalize cstO T pre = cs
      rcases hnv with ⟨h1, rfl⟩ | ⟨L, h1, g, gn, gc, rfl⟩
      · have hb : (z.1.isNone || decide (cs < z.2)) = true := by rw [h1]; rfl
        (refine ql_pure tabOk rfl rfl (ql_ext tabOk rfl rfl rfl (ql_ext tabOk rfl rfl rfl (ql_pure tabOk rfl rfl (ql_pure tabOk rfl rfl (q_nil (q_seq (q_region (ql_pure tabOk rfl rfl (ql_pure tabOk rfl rfl (ql_gyes rfl ?_)))))))))); refine ql_loadBa tabOk rfl rfl rfl ?_; refine ql_gyes rfl ?_)
        refine ql_eqnil tabOk rfl rfl rfl rfl ?_
        (refine ql_gyes rfl (ql_pure tabOk rfl rfl ?_); (iterate 3 refine ql_gno rfl rfl rfl ?_); refine ql_gyes rfl (ql_pure tabOk rfl rfl (ql_pure tabOk rfl rfl (q_nil (q_cond_true rfl (q_region (ql_pure tabOk rfl rfl ?_)))))))
        refine ql_call (β := Value) tabOk [] _ M0 rfl rfl rfl rfl (Sp.refl _) (fun _ h => h.elim) (fun w' hs => sclone_ca w' lo hi (.slice ua pre.length uc) (chI pre) (hu w' hs.chg) (by rw [chI_len]; omega)) ?_
        rintro _ x rfl
        dsimp only [List.cons_append, List.nil_append]
        refine ql_fact (fun w hs => hs.slice2 (v := x) (by repeat constructor)) ?_
        rintro ⟨xa, xc, rfl⟩
        rw [chI_len]
        refine ql_fact (fun w hs => hs.ownSome (v := .slice xa pre.length xc) (by repeat constructor) (by have := hch.m1; omega)) ?_
        rintro ⟨xg, xd, ev⟩
        cases ev
        (refine ql_pure tabOk rfl rfl ?_; (iterate 2 refine ql_set tabOk rfl rfl rfl rfl (by repeat constructor) ?_); refine q_nil (q_ret ?_))
        refine q_fin tabOk rfl (by repeat constructor) fun w hs => ?_
        exact ⟨(.slice (some ⟨xg, 0, none⟩) pre.length xc, (some pre, cs)), ⟨by rw [hb]; rfl, .inr ⟨pre, rfl, _, _, _, rfl⟩⟩, hs.sp (by repeat constructor)⟩
      · by_cases hlt : cs < z.2
        · have hb : (z.1.isNone || decide (cs < z.2)) = true := by rw [decide_eq_true hlt, Bool.or_true]
          (refine ql_pure tabOk rfl rfl (ql_ext tabOk rfl rfl rfl (ql_ext tabOk rfl rfl rfl (ql_pure tabOk rfl rfl (ql_pure tabOk rfl rfl (q_nil (q_seq (q_region (ql_pure tabOk rfl rfl (ql_pure tabOk rfl rfl (ql_gyes rfl ?_)))))))))); refine ql_loadBa tabOk rfl rfl rfl ?_; refine ql_gyes rfl ?_)
          refine ql_eqnil tabOk rfl rfl rfl rfl ?_
          (refine ql_gyes rfl (ql_pure tabOk rfl rfl (ql_gyes rfl (ql_pure tabOk rfl rfl (ql_gyes rfl ?_)))); refine ql_loadBa tabOk rfl rfl rfl ?_; refine ql_gyes rfl (ql_lssT tabOk rfl rfl rfl (by omega) (ql_gyes rfl (ql_pure tabOk rfl rfl (ql_pure tabOk rfl rfl (q_nil (q_cond_true rfl (q_region (ql_pure tabOk rfl rfl ?_)))))))))
          refine ql_call (β := Value) tabOk [] _ M0 rfl rfl rfl rfl (Sp.refl _) (fun _ h => h.elim) (fun w' hs => sclone_ca w' lo hi (.slice ua pre.length uc) (chI pre) (hu w' hs.chg) (by rw [chI_len]; omega)) ?_
          rintro _ x rfl
          dsimp only [List.cons_append, List.nil_append]
          refine ql_fact (fun w hs => hs.slice2 (v := x) (by repeat constructor)) ?_
          rintro ⟨xa, xc, rfl⟩
          rw [chI_len]
          refine ql_fact (fun w hs => hs.ownSome (v := .slice xa pre.length xc) (by repeat constructor) (by have := hch.m1; omega)) ?_
          rintro ⟨xg, xd, ev⟩
          cases ev
          (refine ql_pure tabOk rfl rfl ?_; (iterate 2 refine ql_set tabOk rfl rfl rfl rfl (by repeat constructor) ?_); refine q_nil (q_ret ?_))
          refine q_fin tabOk rfl (by repeat constructor) fun w hs => ?_
          exact ⟨(.slice (some ⟨xg, 0, none⟩) pre.length xc, (some pre, cs)), ⟨by rw [hb]; rfl, .inr ⟨pre, rfl, _, _, _, rfl⟩⟩, hs.sp (by repeat constructor)⟩
        · have hb : (z.1.isNone || decide (cs < z.2)) = false := by rw [decide_eq_false hlt, h1]; rfl
          (refine ql_pure tabOk rfl rfl (ql_ext tabOk rfl rfl rfl (ql_ext tabOk rfl rfl rfl (ql_pure tabOk rfl rfl (ql_pure tabOk rfl rfl (q_nil (q_seq (q_region (ql_pure tabOk rfl rfl (ql_pure tabOk rfl rfl (ql_gyes rfl ?_)))))))))); refine ql_loadBa tabOk rfl rfl rfl ?_; refine ql_gyes rfl ?_)
          refine ql_eqnil tabOk rfl rfl rfl rfl ?_
          (refine ql_gyes rfl (ql_pure tabOk rfl rfl (ql_gyes rfl (ql_pure tabOk rfl rfl (ql_gyes rfl ?_)))); refine ql_loadBa tabOk rfl rfl rfl ?_; refine ql_gyes rfl (ql_lssF tabOk rfl rfl rfl (by omega) (ql_gyes rfl (ql_pure tabOk rfl rfl (ql_pure tabOk rfl rfl (q_nil (q_cond_false rfl (q_skip (q_ret ?_)))))))))
          refine q_fin tabOk rfl (by repeat constructor) fun w hs => ?_
          exact ⟨(.slice (some g) gn gc, z), ⟨by rw [hb]; rfl, .inr ⟨L, h1, g, gn, gc, rfl⟩⟩, hs.sp (by repeat constructor)⟩
  | succ j ih =>
    intro pre z0 v0 w u hpl hpn hnv0 hE hu hv2 hv3
    have hb1 := hE.b1
    have hb4 := hE.b4
    have hb5 := hE.b5
    have huu := hu
    obtain ⟨lo, hi, hu⟩ := hu
    obtain ⟨ua, uc, rfl, _⟩ := RdI.outI (hu w (ChgP.refl _ _))
    rw [chI_len] at hu huu ⊢
    have hch := hE.c w (ChgP.refl _ _)
    have hrc := hch.rc
    have hsc := hch.sc
    have hm4 := hch.m4
    have hn8 := hch.n8
    obtain ⟨ra, rc, erc, _⟩ := RdI.outI hrc
    rw [List.length_replicate] at erc
    subst erc
    obtain ⟨sa, sc, esc, _⟩ := RdI.outI hsc
    rw [List.length_replicate] at esc
    subst esc
    have hpm : pre.length < m := by omega
    have hext : extO n (j + 1) pre = (List.range n).flatMap fun s => extO n j (pre ++ [s]) := rfl
    rw [hext]
    refine q_of (two_sat hv2 hv3 hE.ne) Try.func33 rfl (by simp [Try.ntmps33]) ?_
    (refine q_seq (q_seq (q_region ?_)); (iterate 4 refine ql_pure tabOk rfl rfl ?_); refine ql_loadG tabOk rfl rfl rfl (by assumption) (by rfl) ?_; refine ql_pure tabOk rfl rfl (ql_eqlF tabOk rfl rfl rfl (by omega) (q_nil (q_cond_false rfl (q_skip (q_seq (q_region (ql_pure tabOk rfl rfl (ql_pure tabOk rfl rfl ?_)))))))); refine ql_loadG tabOk rfl rfl rfl (by assumption) (by rfl) ?_; refine ql_pure tabOk rfl rfl (ql_pure tabOk rfl rfl (q_nil (q_block ?_))))
    refine q_loop (σ := Nat × Value × (Option (List Nat) × Int)) (fun y => y.1 ≤ n ∧ NilV y.2.1 y.2.2.1 ∧ y.2.2 = ((List.range y.1).flatMap fun s => extO n j (pre ++ [s])).foldl (bstS T 2) z0) (fun y => n - y.1) (fun y => [(0, .slice ua pre.length uc), (1, .pointer (some ⟨p1, 0, none⟩)), (2, .pointer (some ⟨p2, 0, none⟩)), (3, .pointer (some ⟨p3, 0, none⟩)), (4, .pointer (some ⟨p4, 0, none⟩)), (5, .pointer (some ⟨p5, 0, none⟩)), (39, .int .i64 n), (40, .int .i64 y.1)]) (fun y => [.pt p2 [y.2.1] 29, .pt p3 [.int .i64 y.2.2.2] 3]) (0, v0, z0) ⟨Nat.zero_le _, hnv0, rfl⟩ ⟨rfl, rfl, rfl, rfl, rfl, rfl, rfl, rfl, trivial⟩ (by repeat constructor) ?_
    rintro ⟨s, v, z⟩ ⟨hs0, hnv, hz⟩ K hK
    dsimp only at hs0 hnv hz hK ⊢
    (refine q_seq (q_region (ql_pure tabOk rfl rfl (q_nil (q_seq ?_)))))
    refine q_if rfl (fun hc => ?_) (fun hc => ?_)
    · have hsn : s < n := by omega
      clear hc
      (refine q_skip (q_seq (q_block (q_seq (q_region (ql_pure tabOk rfl rfl (ql_pure tabOk rfl rfl (q_nil (q_seq (q_region (ql_pure tabOk rfl rfl ?_)))))))))); refine ql_loadG tabOk rfl rfl rfl (by assumption) (by rfl) ?_; refine ql_neqT tabOk rfl rfl rfl (by omega) (ql_pure tabOk rfl rfl (ql_gyes rfl ?_)); refine ql_loadGA tabOk rfl rfl rfl (by assumption) (by rfl) (by rfl) ?_; refine ql_gyes rfl (ql_pure tabOk rfl rfl (ql_gyes rfl (ql_pure tabOk rfl rfl (ql_gyes rfl (ql_pure tabOk rfl rfl (ql_gyes rfl ?_)))))))
      refine ql_callv (val := .bool true) tabOk rfl rfl rfl rfl (fun w hs => ?_) ?_; exact may_ca w hb (.slice sa n sc) sti (.slice ra m rc) n m T (hE.c w hs.chg) s pre.length hsn hpm
      (refine ql_pure tabOk rfl rfl (q_nil (q_cond_true rfl ?_)))
      have hpc : ints (chI pre) ++ [.int .i64 s] = ints (chI (pre ++ [s])) := by simp [chI]
      have hpcl : pre.length + 1 = (chI (pre ++ [s])).length := by rw [chI_len]; simp
      have hpj : (pre ++ [s]).length + j = m := by simp; omega
      have hpns : ∀ x ∈ pre ++ [s], x < n := fun x hx => by
        rcases List.mem_append.1 hx with h | h
        · exact hpn x h
        · rw [List.mem_singleton.1 h]; exact hsn
      refine q_cut (σ := { y : Value × (Option (List Nat) × Int) // y.2 = (extO n j (pre ++ [s])).foldl (bstS T 2) z ∧ NilV y.1 y.2.1 }) (fun _ => [(0, .slice ua pre.length uc), (1, .pointer (some ⟨p1, 0, none⟩)), (2, .pointer (some ⟨p2, 0, none⟩)), (3, .pointer (some ⟨p3, 0, none⟩)), (4, .pointer (some ⟨p4, 0, none⟩)), (5, .pointer (some ⟨p5, 0, none⟩)), (39, .int .i64 n), (40, .int .i64 s)]) (fun y => [.pt p2 [y.1.1] 29, .pt p3 [.int .i64 y.1.2.2] 3]) ?_ ?_
      rotate_left
      · intro K2 hK2
        refine q_drawT (tZ4_3586681) _ [.pt p2 [v] 29, .pt p3 [.int .i64 z.2] 3] (Sp.cons (by repeat constructor) (Sp.cons (by repeat constructor) (Sp.refl _))) (by kernel_rfl) (by kernel_rfl) ?_
        refine qt_alt ?_ ?_
        · skip
          refine qt_seg (by repeat (first | exact PickL.nil | (apply PickL.cons; rfl))) fun K1 hK1 => ?_
          (refine qf_pure tabOk rfl rfl rfl ?_)
          refine qf_call (β := Value) tabOk [] _ M0 rfl rfl rfl rfl (Sp.refl _) (fun _ h => h.elim) (fun w' hs => sclone_ca w' lo hi (.slice ua pre.length uc) (chI pre) (hu w' hs.chg) (by rw [chI_len]; omega)) ?_
          rintro _ x rfl
          dsimp only [List.cons_append, List.nil_append]
          refine qf_fact (fun w hs => hs.slice2 (v := x) (by repeat constructor)) ?_
          rintro ⟨xa, xc, rfl⟩
          rw [chI_len]
          (refine qf_pure tabOk rfl rfl rfl ?_)
          refine qf_mkS 3 [.int .i64 s] rfl (by kernel_rfl) rfl (fun bm => ?_)
          skip
          refine qf_append (q := 1) (news := [.int .i64 s]) slI rfl rfl rfl (fun v' => by repeat constructor) (fun w' hs => ⟨_, _, Blk.rdN (hs.blk (b := bm) (by repeat constructor)) rfl⟩) (by simp [oneV]) (by omega) (by omega) (fun u4 => ?_)
          rw [hpc]
          (refine qf_loadG tabOk rfl rfl rfl (by assumption) (by rfl) ?_)
          refine qf_callF (β := Value × (Option (List Nat) × Int)) (ψ := fun y _ => y.2 = (extO n j (pre ++ [s])).foldl (bstS T 2) z ∧ NilV y.1 y.2.1) (L' := fun y => [.pt p2 [y.1] 29, .pt p3 [.int .i64 y.2.2] 3]) [.pt p2 [v] 29, .pt p3 [.int .i64 z.2] 3] [.ow u4 3 1 (pre.length + 1) (ints (chI (pre ++ [s])))] (· ∈ [p2, p3]) rfl rfl rfl (by repeat constructor) hm23 (fun w' hs => CaF.of tabOk (by kernel_rfl) (ih (pre ++ [s]) z v w' u4 hpj hpns hnv (hE.chg hs.chg) (up_own (H := [.pt p2 [v] 29, .pt p3 [.int .i64 z.2] 3]) (hs.sp (by repeat constructor)) hpcl hm23) (hs.blk (b := p2) (by repeat constructor)) (hs.blk (b := p3) (by repeat constructor)))) ?_
          rintro ⟨v5, z5⟩ _ ⟨hz5, hnv5⟩
          dsimp only [List.cons_append, List.nil_append] at hz5 hnv5 ⊢
          (refine qf_nil ?_)
          exact hK1 _ _ (qt_nil (hK2 ⟨(v5, z5), hz5, hnv5⟩ _ _ ⟨rfl, rfl, rfl, rfl, rfl, rfl, rfl, rfl, trivial⟩ (by repeat constructor)))
        · skip
          refine qt_seg (by repeat (first | exact PickL.nil | (apply PickL.cons; rfl))) fun K1 hK1 => ?_
          (refine qf_pure tabOk rfl rfl rfl ?_)
          refine qf_mkS 3 [.int .i64 s] rfl (by kernel_rfl) rfl (fun bm => ?_)
          (refine qf_pure tabOk rfl rfl rfl ?_)
          refine qf_call (β := Value) tabOk [] _ M0 rfl rfl rfl rfl (Sp.refl _) (fun _ h => h.elim) (fun w' hs => sclone_ca w' lo hi (.slice ua pre.length uc) (chI pre) (hu w' hs.chg) (by rw [chI_len]; omega)) ?_
          rintro _ x rfl
          dsimp only [List.cons_append, List.nil_append]
          refine qf_fact (fun w hs => hs.slice2 (v := x) (by repeat constructor)) ?_
          rintro ⟨xa, xc, rfl⟩
          rw [chI_len]
          skip
          refine qf_append (q := 1) (news := [.int .i64 s]) slI rfl rfl rfl (fun v' => by repeat constructor) (fun w' hs => ⟨_, _, Blk.rdN (hs.blk (b := bm) (by repeat constructor)) rfl⟩) (by simp [oneV]) (by omega) (by omega) (fun u4 => ?_)
          rw [hpc]
          (refine qf_loadG tabOk rfl rfl rfl (by assumption) (by rfl) ?_)
          refine qf_callF (β := Value × (Option (List Nat) × Int)) (ψ := fun y _ => y.2 = (extO n j (pre ++ [s])).foldl (bstS T 2) z ∧ NilV y.1 y.2.1) (L' := fun y => [.pt p2 [y.1] 29, .pt p3 [.int .i64 y.2.2] 3]) [.pt p2 [v] 29, .pt p3 [.int .i64 z.2] 3] [.ow u4 3 1 (pre.length + 1) (ints (chI (pre ++ [s])))] (· ∈ [p2, p3]) rfl rfl rfl (by repeat constructor) hm23 (fun w' hs => CaF.of tabOk (by kernel_rfl) (ih (pre ++ [s]) z v w' u4 hpj hpns hnv (hE.chg hs.chg) (up_own (H := [.pt p2 [v] 29, .pt p3 [.int .i64 z.2] 3]) (hs.sp (by repeat constructor)) hpcl hm23) (hs.blk (b := p2) (by repeat constructor)) (hs.blk (b := p3) (by repeat constructor)))) ?_
          rintro ⟨v5, z5⟩ _ ⟨hz5, hnv5⟩
          dsimp only [List.cons_append, List.nil_append] at hz5 hnv5 ⊢
          (refine qf_nil ?_)
          exact hK1 _ _ (qt_nil (hK2 ⟨(v5, z5), hz5, hnv5⟩ _ _ ⟨rfl, rfl, rfl, rfl, rfl, rfl, rfl, rfl, trivial⟩ (by repeat constructor)))
      rintro ⟨⟨v5, z5⟩, hz5, hnv5⟩
      dsimp only at hz5 hnv5 ⊢
      (refine q_blk (q_region (ql_ar tabOk rfl rfl rfl rfl (by omega) (by omega) (ql_pure tabOk rfl rfl (q_nil ?_)))))
      exact hK (s + 1, v5, z5) _ _ ⟨by simp only; omega, hnv5, by
        dsimp only
        rw [hz5, hz, List.range_succ, List.flatMap_append, List.foldl_append]
        simp⟩ (by simp only; omega) ⟨rfl, rfl, rfl, rfl, rfl, rfl, rfl, rfl, trivial⟩ (by repeat constructor)
    · obtain rfl : s = n := by omega
      (refine q_exit _ rfl ?_)
      refine q_end tabOk rfl (by repeat constructor) fun w hs => ?_
      exact ⟨(v, z), ⟨hz, hnv⟩, hs.sp (by repeat constructor)⟩
end Go.Proofs.Ytllldihodgdcjaa

/- Walks of relay: the best order. -/
namespace Go.Proofs.Ytllldihodgdcjaa
open Go Go.Eng
theorem gr_start {w0 w : World} {b2 b3 b6 b7 b8 hb n m : Nat} {scl sti rcl v : Value} {T : List (List Int)} {x : Int} (hs : Sat w0 M0 [.pt b6 [v] 29, .pt b7 [.int .i64 x] 3, .pt b2 (chC scl sti rcl) 70, .pt b3 [.int .i64 (-1)] 3, .pt b8 [growF b2 b6 b7 b3 b8] 80] w) (hC : ChO w hb scl sti rcl n m T) (hh : hb ≤ w0.heap.size) : GrE w hb b2 b6 b7 b3 b8 scl sti rcl n m T := by
  have h1 := List.pairwise_cons.1 hs.sep
  have h2 := List.pairwise_cons.1 h1.2
  have n67 : b6 ≠ b7 := fun e => h1.1 _ (.head _) b6 rfl e
  have n62 : b6 ≠ b2 := fun e => h1.1 _ (.tail _ (.head _)) b6 rfl e
  have n63 : b6 ≠ b3 := fun e => h1.1 _ (.tail _ (.tail _ (.head _))) b6 rfl e
  have n68 : b6 ≠ b8 := fun e => h1.1 _ (.tail _ (.tail _ (.tail _ (.head _)))) b6 rfl e
  have n72 : b7 ≠ b2 := fun e => h2.1 _ (.head _) b7 rfl e
  have n73 : b7 ≠ b3 := fun e => h2.1 _ (.tail _ (.head _)) b7 rfl e
  have n78 : b7 ≠ b8 := fun e => h2.1 _ (.tail _ (.tail _ (.head _))) b7 rfl e
  have g6 : w0.heap.size ≤ b6 := by rcases (hs.bd _ (.head _) b6 rfl).2 with h | h; exact h.elim; exact h
  have g7 : w0.heap.size ≤ b7 := by rcases (hs.bd _ (.tail _ (.head _)) b7 rfl).2 with h | h; exact h.elim; exact h
  refine ⟨fun w' c => hC.chg c.list fun k hk => ?_, fun w' c => Blk.chg (hs.blk (b := b2) (by repeat constructor)) c.list ?_, fun w' c => Blk.chg (hs.blk (b := b3) (by repeat constructor)) c.list ?_, fun w' c => Blk.chg (hs.blk (b := b8) (by repeat constructor)) c.list ?_, n67⟩
  · simp only [List.mem_cons, List.not_mem_nil, or_false] at hk
    rcases hk with rfl | rfl <;> omega
  · simp only [List.mem_cons, List.not_mem_nil, or_false, not_or]
    exact ⟨n62.symm, n72.symm⟩
  · simp only [List.mem_cons, List.not_mem_nil, or_false, not_or]
    exact ⟨n63.symm, n73.symm⟩
  · simp only [List.mem_cons, List.not_mem_nil, or_false, not_or]
    exact ⟨n68.symm, n78.symm⟩
set_option maxHeartbeats 1000000 in
theorem best0_ca (w : World) (hb : Nat) (scl sti rcl : Value) (n m : Nat) (T : List (List Int)) (h : ChO w hb scl sti rcl n m T) (hh : hb ≤ w.heap.size) : Ca Try.prog 20 [.agg (chC scl sti rcl).toArray, .int .i64 (-1)] w fun x w' => ∃ v : Value, (x = .tuple #[v, .int .i64 (bstV T 2 n m).2] ∧ NilV v (bstV T 2 n m).1) ∧ Sat w M0 [] w' := by
  refine q_of (Sat.nil w M0) Try.func20 rfl (by simp [Try.ntmps20]) ?_
  (refine q_seq (q_region ?_))
  refine ql_box rfl rfl (fun b2 => ?_)
  refine ql_box rfl rfl (fun b3 => ?_)
  rw [agg_cells]
  (refine ql_pure tabOk rfl rfl (ql_pure tabOk rfl rfl (q_nil (q_seq (q_region ?_)))))
  refine ql_alloc zero29 rfl (fun b6 => ?_)
  (refine q_nil (q_seq (q_region ?_)))
  refine ql_alloc zero3 rfl (fun b7 => ?_)
  (refine ql_set tabOk rfl rfl rfl rfl (by repeat constructor) ?_; refine q_nil (q_seq (q_region ?_)))
  refine ql_alloc zero80 rfl (fun b8 => ?_)
  (refine q_nil (q_seq (q_region (ql_pure tabOk rfl rfl ?_))); refine ql_set tabOk rfl rfl rfl rfl (by repeat constructor) ?_; refine q_nil (q_seq (q_region ?_)); refine ql_loadBa tabOk rfl rfl rfl ?_)
  refine ql_callF (β := Value × (Option (List Nat) × Int)) (ψ := fun y _ => y.2 = bstV T 2 n m ∧ NilV y.1 y.2.1) (L' := fun y => [.pt b6 [y.1] 29, .pt b7 [.int .i64 y.2.2] 3]) [.pt b6 [.slice none 0 0] 29, .pt b7 [.int .i64 0] 3] [.pt b2 (chC scl sti rcl) 70, .pt b3 [.int .i64 (-1)] 3, .pt b8 [growF b2 b6 b7 b3 b8] 80] (· ∈ [b6, b7]) rfl rfl rfl (by repeat constructor) hm23 (fun w' hs => CaF.of tabOk (by kernel_rfl) (grow_ca m [] (none, 0) (.slice none 0 0) w' (.slice none 0 0) (by simp) (by simp) (.inl ⟨rfl, rfl⟩) (gr_start (hs.sp (by repeat constructor)) (h.keep hs.chg0) hh) (UpI.of (lo := 0) (hi := 0) ⟨⟨rfl, .inl ⟨.inl rfl, rfl⟩⟩, by simp [chI]⟩ fun k _ => .inr (Nat.zero_le _)) (hs.blk (b := b6) (by repeat constructor)) (hs.blk (b := b7) (by repeat constructor)))) ?_
  rintro ⟨v, z⟩ _ ⟨hz, hnv⟩
  dsimp only [List.cons_append, List.nil_append] at hz hnv ⊢
  subst hz
  (refine q_nil (q_seq ?_))
  refine q_draw _ [] (Sp.refl _) (by kernel_rfl) (by kernel_rfl) ?_
  ((iterate 2 refine qf_loadBa tabOk rfl rfl rfl ?_); refine qf_pure tabOk rfl rfl rfl (qf_pure tabOk rfl rfl rfl (qf_nil (q_ret ?_))))
  refine q_fin tabOk rfl (by repeat constructor) fun w hs => ?_
  exact ⟨v, ⟨rfl, hnv⟩, hs.sp (by repeat constructor)⟩
/-- What Best tells, but for the order itself. -/
def bsE (T : List (List Int)) (n m : Nat) : Int := if (bstV T 2 n m).1.isNone = true then 6 else 0
set_option maxHeartbeats 1000000 in
theorem best_ca (w : World) (hb : Nat) (scl sti rcl : Value) (n m : Nat) (T : List (List Int)) (h : ChO w hb scl sti rcl n m T) (hn : 1 ≤ n) (hh : hb ≤ w.heap.size) : Ca Try.prog 12 [.agg (rulC rcl).toArray, .agg (sqC scl sti).toArray] w fun x w' => ∃ v : Value, (x = .tuple #[v, .int .i64 (bstV T 2 n m).2, .int .i64 (bsE T n m)]) ∧ Sat w M0 [] w' := by
  refine q_of (Sat.nil w M0) Try.func12 rfl (by simp [Try.ntmps12]) ?_
  (refine q_seq (q_region ?_))
  refine ql_box rfl rfl (fun b2 => ?_)
  refine ql_box rfl rfl (fun b3 => ?_)
  rw [agg_cells, agg_cells]
  ((iterate 3 refine ql_pure tabOk rfl rfl ?_); refine q_nil (q_seq (q_seq (q_region ?_))); (iterate 2 refine ql_loadABa tabOk rfl rfl rfl ?_))
  refine ql_callv (val := .int .i64 0) tabOk rfl rfl rfl rfl (fun w hs => ?_) ?_; exact squad_ca w hb scl sti rcl n m T (h.keep hs.chg0) hn
  (refine ql_pure tabOk rfl rfl (q_nil (q_seq (q_region (ql_pure tabOk rfl rfl (ql_neqF tabOk rfl rfl rfl (by omega) (q_nil (q_cond_false rfl (q_skip (q_seq (q_region ?_)))))))))); (iterate 2 refine ql_loadABa tabOk rfl rfl rfl ?_))
  refine ql_mk #[scl, sti, rcl, .int .i64 2, .int .i64 1, .int .i64 0, .int .i64 0, .int .i64 0] rfl (by kernel_rfl) rfl ?_
  refine ql_call (β := Value) (ψ := fun v x => x = .tuple #[v, .int .i64 (bstV T 2 n m).2] ∧ NilV v (bstV T 2 n m).1) (L' := fun _ => []) tabOk [] _ M0 rfl rfl rfl rfl (Sp.refl _) (fun _ h => h.elim) (fun w' hs => best0_ca w' hb scl sti rcl n m T (h.keep hs.chg0) (Nat.le_trans hh hs.chg0.size)) ?_
  rintro v _ ⟨rfl, hnv⟩
  dsimp only [List.cons_append, List.nil_append]
  have hz : (bstV T 2 n m).1 = none → (bstV T 2 n m).2 = 0 := fun h => by
    have h1 : BstI T 2 _ (bstV T 2 n m) := bst_all T 2 (extO n m [])
    exact h1.zero h
  unfold bsE
  generalize bstV T 2 n m = z at hnv hz ⊢
  obtain ⟨z1, z2⟩ := z
  dsimp only at hnv hz ⊢
  rcases hnv with ⟨h1, rfl⟩ | ⟨L, h1, g, gn, gc, rfl⟩
  · rw [hz h1, h1]
    (refine ql_pure tabOk rfl rfl (ql_ext tabOk rfl rfl rfl (ql_ext tabOk rfl rfl rfl (ql_pure tabOk rfl rfl (ql_pure tabOk rfl rfl (q_nil (q_seq (q_seq (q_region (ql_pure tabOk rfl rfl ?_))))))))))
    refine ql_eqnil tabOk rfl rfl rfl rfl ?_
    (refine q_nil (q_cond_true rfl (q_seq (q_region ?_))); (iterate 3 refine ql_pure tabOk rfl rfl ?_); refine q_nil (q_ret ?_))
    refine q_fin tabOk rfl (by repeat constructor) fun w hs => ?_
    exact ⟨.slice none 0 0, rfl, hs.sp (by repeat constructor)⟩
  · rw [h1]
    (refine ql_pure tabOk rfl rfl (ql_ext tabOk rfl rfl rfl (ql_ext tabOk rfl rfl rfl (ql_pure tabOk rfl rfl (ql_pure tabOk rfl rfl (q_nil (q_seq (q_seq (q_region (ql_pure tabOk rfl rfl ?_))))))))))
    refine ql_eqnil tabOk rfl rfl rfl rfl ?_
    (refine q_nil (q_cond_false rfl (q_skip (q_seq (q_region ?_)))); (iterate 5 refine ql_pure tabOk rfl rfl ?_); refine q_nil (q_ret ?_))
    refine q_fin tabOk rfl (by repeat constructor) fun w hs => ?_
    exact ⟨.slice (some g) gn gc, rfl, hs.sp (by repeat constructor)⟩
end Go.Proofs.Ytllldihodgdcjaa

/- Walks: Fold. -/
namespace Go.Proofs.Ytllldihodgdcjaa
open Go Go.Eng

theorem ftm_lt {a b : Int} (hb : 0 < b) : -b < a.tmod b ∧ a.tmod b < b := by
  refine ⟨?_, Int.tmod_lt_of_pos a hb⟩
  have h1 := Int.tmod_lt_of_pos (-a) hb
  rw [Int.neg_tmod] at h1
  omega

theorem fold_ca (v n : Int) (hn0 : 0 < n) (hn1 : n < 1000000) (w : World) : Ca Try.prog 18 [.int .i64 v, .int .i64 n] w fun r w' => (∃ x, r = .int .i64 x ∧ 0 ≤ x ∧ x < n) ∧ w' = w := by
  refine ca_of Try.func18 rfl (by simp [Try.ntmps18]) ?_
  (refine y_seq (y_region (yl_pure tabOk rfl rfl (y_seq (y_seq (y_region (yl_pure tabOk rfl rfl (yl_pure tabOk rfl rfl (yl_nil ?_)))))))))
  refine y_if rfl (fun hc => ?_) (fun hc => ?_)
  · omega
  (refine y_skip (y_seq (y_region (yl_pure tabOk rfl rfl (yl_pure tabOk rfl rfl ?_)))))
  refine yl_rem rfl rfl (by omega) rfl ?_
  ((iterate 3 refine yl_pure tabOk rfl rfl ?_))
  refine yl_rem rfl rfl (by omega) rfl ?_
  have h1 := ftm_lt (a := v) hn0
  rw [w64 (x := v.tmod n + n) (by omega) (by omega)]
  have h2 := tmod_pos (a := v.tmod n + n) (by omega) hn0
  (refine yl_pure tabOk rfl rfl (y_ret ?_))
  exact y_fin1 rfl rfl ⟨⟨_, rfl, h2.1, h2.2⟩, rfl⟩

theorem tfold_ca (v n : Int) (hn0 : 0 < n) (hn1 : n < 1000000) (w : World) : Ca Try.prog 11 [.int .i64 v, .int .i64 n] w fun r w' => (∃ x, r = .int .i64 x ∧ 0 ≤ x ∧ x < n) ∧ w' = w := by
  refine ca_of Try.func11 rfl (by simp [Try.ntmps11]) ?_
  (refine y_seq (y_region (yl_pure tabOk rfl rfl (y_seq (y_region (yl_pure tabOk rfl rfl (yl_pure tabOk rfl rfl ?_)))))))
  refine yl_call tabOk rfl rfl rfl rfl (fold_ca v n hn0 hn1 w) ?_
  rintro _ w2 ⟨⟨x, rfl, hx0, hx1⟩, rfl⟩
  (refine yl_pure tabOk rfl rfl (y_ret ?_))
  exact y_fin1 rfl rfl ⟨⟨_, rfl, hx0, hx1⟩, rfl⟩

theorem foldP_ca (v n : Int) (hn0 : 0 < n) (hn1 : n < 1000000) (w : World) : Ca Try.prog 11 [.int .i64 v, .int .i64 n] w fun r w' => ∃ x : Int, (r = .int .i64 x ∧ 0 ≤ x ∧ x < n) ∧ Sat w M0 [] w' :=
  (tfold_ca v n hn0 hn1 w).mono fun r w' ⟨⟨x, h1, h2, h3⟩, h4⟩ => ⟨x, ⟨h1, h2, h3⟩, by rw [h4]; exact Sat.nil w M0⟩

end Go.Proofs.Ytllldihodgdcjaa
