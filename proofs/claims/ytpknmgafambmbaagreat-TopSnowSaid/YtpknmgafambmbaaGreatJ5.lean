/- My texts Gr0, Gr1, Gr2, X0, X1, Z1, joined: a claim takes at most 60 files. -/
import Derived.Test.YtpknmgafambmbaaGreatJ4

/- Taken over from rifle,ski: what F4:gap_ok,F19:Blk.rdH' reach. Written by graft.py. -/
/- long -/
namespace Go.Proofs.YtpknmgafambmbaaGreat
open Go Go.Eng
-- rifle/R0.lean
section
/-- A hold. -/
structure Hd where
  who : Int
  f : Int
  t : Int
deriving DecidableEq
def Hd.cov (h : Hd) (m : Int) : Bool := (decide (h.f ≤ m) && decide (m < h.t)) && true
theorem Hd.cov_iff {h : Hd} {m : Int} : h.cov m = true ↔ h.f ≤ m ∧ m < h.t := by simp [Hd.cov]
/-- Some holds guard a span. -/
def Gd (C : List Hd) (a b : Int) : Prop := ∀ m, a ≤ m → m < b → ∃ h ∈ C, h.cov m = true
theorem Gd.sub {C D : List Hd} {a b : Int} (h : Gd C a b) (hs : ∀ x ∈ C, x ∈ D) : Gd D a b := fun m h1 h2 => by
  obtain ⟨x, hx, hc⟩ := h m h1 h2
  exact ⟨x, hs x hx, hc⟩
theorem Gd.part {C : List Hd} {a b c d : Int} (h : Gd C a b) (h1 : a ≤ c) (h2 : d ≤ b) : Gd C c d := fun m g1 g2 => h m (by omega) (by omega)
/-- Minutes of which no hold covers two. -/
structure Mk (L : List Hd) (a b : Int) (ms : List Int) : Prop where
  bd : ∀ m ∈ ms, a ≤ m ∧ m < b
  inc : ms.Pairwise (· < ·)
  one : ms.Pairwise fun x y => ∀ h ∈ L, ¬ (h.cov x = true ∧ h.cov y = true)
theorem mk_le : ∀ (ms : List Int) (C : List Hd), (∀ m ∈ ms, ∃ h ∈ C, h.cov m = true) → ms.Pairwise (fun x y => ∀ h ∈ C, ¬ (h.cov x = true ∧ h.cov y = true)) → ms.length ≤ C.length
  | [], _, _, _ => Nat.zero_le _
  | m :: ms, C, h1, h2 => by
    obtain ⟨h, hC, hc⟩ := h1 m (.head _)
    rw [List.pairwise_cons] at h2
    have h3 := mk_le ms (C.erase h) (fun x hx => by
      obtain ⟨g, hg, hgc⟩ := h1 x (.tail _ hx)
      have hne : g ≠ h := fun e => h2.1 x hx h hC ⟨hc, e ▸ hgc⟩
      exact ⟨g, (List.mem_erase_of_ne hne).2 hg, hgc⟩) (h2.2.imp fun h g hg => h g (List.mem_of_mem_erase hg))
    have h4 := List.length_erase_of_mem hC
    have h5 : 0 < C.length := List.length_pos_of_mem hC
    rw [List.length_cons]
    omega
/-- No holds that guard a span are fewer than marks in it. -/
theorem Mk.le {L C : List Hd} {a b : Int} {ms : List Int} (h : Mk L a b ms) (hs : ∀ x ∈ C, x ∈ L) (hg : Gd C a b) : ms.length ≤ C.length :=
  mk_le ms C (fun m hm => hg m (h.bd m hm).1 (h.bd m hm).2) (h.one.imp fun h g hgc => h g (hs g hgc))
def hdL (L : List Hd) (i : Nat) : Hd := L.getD i ⟨0, 0, 0⟩
theorem hdL_mem {L : List Hd} {i : Nat} (h : i < L.length) : hdL L i ∈ L := by
  unfold hdL
  rw [List.getD_eq_getElem?_getD, List.getElem?_eq_getElem h, Option.getD_some]
  exact List.getElem_mem h
theorem hdL_of_mem {L : List Hd} {h : Hd} (hm : h ∈ L) : ∃ i, i < L.length ∧ hdL L i = h := by
  obtain ⟨i, hi, rfl⟩ := List.mem_iff_getElem.1 hm
  exact ⟨i, hi, by unfold hdL; rw [List.getD_eq_getElem?_getD, List.getElem?_eq_getElem hi, Option.getD_some]⟩
/-- Hold after hold, the one that reaches farthest: the holds, the minutes from which on each is needed, and the end. -/
inductive Lk (L : List Hd) (b : Int) : Int → List Nat → List Int → Int → Prop
  | done {a : Int} : b ≤ a → Lk L b a [] [] b
  | gap {a : Int} : a < b → (∀ h ∈ L, h.cov a = false) → Lk L b a [] [] a
  | step {a e : Int} {i : Nat} {hs : List Nat} {ms : List Int} : a < b → i < L.length → (hdL L i).cov a = true → (∀ h ∈ L, h.cov a = true → h.t ≤ (hdL L i).t) → Lk L b (hdL L i).t hs ms e → Lk L b a (i :: hs) (a :: ms) e
section
variable {L : List Hd} {a b e : Int} {hs : List Nat} {ms : List Int}
theorem Lk.len (h : Lk L b a hs ms e) : hs.length = ms.length := by
  induction h with
  | done _ => rfl
  | gap _ _ => rfl
  | step _ _ _ _ _ ih => simp [ih]
theorem Lk.idx (h : Lk L b a hs ms e) : ∀ i ∈ hs, i < L.length := by
  induction h with
  | done _ => simp
  | gap _ _ => simp
  | step _ h1 _ _ _ ih => intro i hi; rcases List.mem_cons.1 hi with rfl | hi; exact h1; exact ih i hi
theorem Lk.sub (h : Lk L b a hs ms e) : ∀ x ∈ hs.map (hdL L), x ∈ L := fun x hx => by
  obtain ⟨i, hi, rfl⟩ := List.mem_map.1 hx
  exact hdL_mem (h.idx i hi)
theorem Lk.le (h : Lk L b a hs ms e) : e ≤ b ∧ (a ≤ b → a ≤ e) := by
  induction h with
  | done h => exact ⟨Int.le_refl _, fun h => h⟩
  | gap h _ => exact ⟨by omega, fun _ => Int.le_refl _⟩
  | @step a e i hs ms h1 h2 h3 h4 h5 ih =>
    refine ⟨ih.1, fun _ => ?_⟩
    rw [Hd.cov_iff] at h3
    rcases Int.lt_or_le b (hdL L i).t with h | h
    · cases h5 with
      | done _ => omega
      | gap _ _ => omega
      | step _ _ _ _ _ => omega
    · have := ih.2 h
      omega
theorem Lk.gd (h : Lk L b a hs ms e) : Gd (hs.map (hdL L)) a e := by
  induction h with
  | done h => exact fun m h1 h2 => by omega
  | gap h _ => exact fun m h1 h2 => by omega
  | @step a e i hs ms h1 h2 h3 h4 h5 ih =>
    intro m g1 g2
    rw [Hd.cov_iff] at h3
    by_cases g : m < (hdL L i).t
    · exact ⟨hdL L i, List.mem_cons_self, Hd.cov_iff.2 ⟨by omega, g⟩⟩
    · obtain ⟨x, hx, hc⟩ := ih m (by omega) g2
      exact ⟨x, List.mem_cons_of_mem _ hx, hc⟩
theorem Lk.end (h : Lk L b a hs ms e) (he : e < b) : ∀ x ∈ L, x.cov e = false := by
  induction h with
  | done _ => omega
  | gap _ h => exact h
  | step _ _ _ _ _ ih => exact ih he
theorem Lk.lb (h : Lk L b a hs ms e) : ∀ m ∈ ms, a ≤ m ∧ m < b := by
  induction h with
  | done _ => simp
  | gap _ _ => simp
  | step h1 _ h3 _ _ ih =>
    intro m hm
    rw [Hd.cov_iff] at h3
    rcases List.mem_cons.1 hm with rfl | hm
    · omega
    · have := ih m hm
      omega
theorem Lk.mk (h : Lk L b a hs ms e) : Mk L a b ms := by
  refine ⟨h.lb, ?_, ?_⟩
  · induction h with
    | done _ => exact .nil
    | gap _ _ => exact .nil
    | step h1 _ h3 _ h5 ih =>
      rw [Hd.cov_iff] at h3
      exact List.pairwise_cons.2 ⟨fun m hm => by have := h5.lb m hm; omega, ih⟩
  · induction h with
    | done _ => exact .nil
    | gap _ _ => exact .nil
    | step h1 _ h3 h4 h5 ih =>
      refine List.pairwise_cons.2 ⟨fun m hm x hx ⟨g1, g2⟩ => ?_, ih⟩
      have g3 := h4 x hx g1
      have g4 := h5.lb m hm
      rw [Hd.cov_iff] at g2
      omega
/-- The end is the first minute that no hold covers. -/
theorem Lk.full (h : Lk L b a hs ms e) (hab : a ≤ b) : e = b ↔ Gd L a b := by
  constructor
  · rintro rfl
    exact h.gd.sub h.sub
  · intro hg
    have h1 := h.le
    refine Int.le_antisymm h1.1 (Int.not_lt.1 fun he => ?_)
    obtain ⟨x, hx, hc⟩ := hg e (h1.2 hab) he
    rw [h.end he x hx] at hc
    cases hc
theorem Lk.first (h : Lk L b a hs ms e) (hab : a ≤ b) (he : e < b) {g : Int} (g1 : a ≤ g) (g2 : g < b) (g3 : Gd L a g) (g4 : ∀ x ∈ L, x.cov g = false) : e = g := by
  have h1 := h.le.2 hab
  rcases Int.lt_trichotomy e g with h2 | h2 | h2
  · obtain ⟨x, hx, hc⟩ := g3 e h1 h2
    rw [h.end he x hx] at hc
    cases hc
  · exact h2
  · obtain ⟨x, hx, hc⟩ := (h.gd.sub h.sub) g g1 h2
    rw [g4 x hx] at hc
    cases hc
/-- The fewest holds: no others that guard the span are fewer. -/
theorem Lk.min (h : Lk L b a hs ms e) {C : List Hd} (hs' : ∀ x ∈ C, x ∈ L) (hg : Gd C a b) : hs.length ≤ C.length := by
  rw [h.len]
  exact h.mk.le hs' hg
/-- A chain is parted at a minute: one hold may be in both parts. -/
theorem Lk.split (h : Lk L b a hs ms e) (hb : e = b) {mid : Int} (h1 : a ≤ mid) (h2 : mid ≤ b) : ∃ c d : List Nat, (∀ i ∈ c, i ∈ hs) ∧ (∀ i ∈ d, i ∈ hs) ∧ Gd (c.map (hdL L)) a mid ∧ Gd (d.map (hdL L)) mid b ∧ c.length + d.length ≤ hs.length + 1 := by
  induction h with
  | done h => exact ⟨[], [], by simp, by simp, fun m g1 g2 => by omega, fun m g1 g2 => by omega, by simp⟩
  | gap h _ => omega
  | @step a e i hs ms g1 g2 g3 g4 g5 ih =>
    have hgd := g5.gd
    rw [Hd.cov_iff] at g3
    rcases Int.lt_or_le (hdL L i).t mid with g | g
    · obtain ⟨c, d, c1, d1, c2, d2, hl⟩ := ih hb (by omega)
      refine ⟨i :: c, d, fun x hx => ?_, fun x hx => .tail _ (d1 x hx), fun m k1 k2 => ?_, d2, by simp only [List.length_cons]; omega⟩
      · rcases List.mem_cons.1 hx with rfl | hx
        · exact .head _
        · exact .tail _ (c1 x hx)
      · by_cases k : m < (hdL L i).t
        · exact ⟨hdL L i, List.mem_cons_self, Hd.cov_iff.2 ⟨by omega, k⟩⟩
        · obtain ⟨x, hx, hc⟩ := c2 m (by omega) k2
          exact ⟨x, List.mem_cons_of_mem _ hx, hc⟩
    · refine ⟨[i], i :: hs, fun x hx => ?_, fun x hx => hx, fun m k1 k2 => ⟨hdL L i, by simp, Hd.cov_iff.2 ⟨by omega, by omega⟩⟩, fun m k1 k2 => ?_, by simp only [List.length_cons, List.length_nil]; omega⟩
      · rw [List.mem_singleton.1 hx]
        exact .head _
      · by_cases k : m < (hdL L i).t
        · exact ⟨hdL L i, List.mem_cons_self, Hd.cov_iff.2 ⟨by omega, k⟩⟩
        · obtain ⟨x, hx, hc⟩ := hgd m (by omega) (by omega)
          exact ⟨x, List.mem_cons_of_mem _ hx, hc⟩
end
/-- Told backwards. -/
def Hd.back (h : Hd) : Hd := ⟨h.who, 10000 - h.t, 10000 - h.f⟩
end
/-- A scale: its error, what a rifle must weigh, its tests (the mass, what it read), what it read for rifles. -/
structure Sc where
  err : Int
  least : Int
  tests : List (Int × Int)
  rifles : List Int
structure Sc.Ok (s : Sc) : Prop where
  tn : s.tests.length ≤ 10
  rn1 : 1 ≤ s.rifles.length
  rn8 : s.rifles.length ≤ 8
  err : 0 ≤ s.err ∧ s.err ≤ 100
  least : 1 ≤ s.least ∧ s.least ≤ 10000
  test : ∀ t ∈ s.tests, (1 ≤ t.1 ∧ t.1 ≤ 10000) ∧ 0 ≤ t.2 ∧ t.2 ≤ 20000
  rifle : ∀ n ∈ s.rifles, 0 ≤ n ∧ n ≤ 20000
/-- What is known: the span of offsets, the rifles that were shown to pass, and to fail. -/
structure Kn where
  lo : Int
  hi : Int
  p : List Bool
  f : List Bool
structure Kn.Fit (k : Kn) : Prop where
  p8 : k.p.length = 8
  f8 : k.f.length = 8
  lo : -1000 ≤ k.lo
  hi : k.hi ≤ 1000
  le : k.lo ≤ k.hi
def Kn.off (k : Kn) : Int × Int := (k.lo, k.hi)
/-- A node of a plan. -/
structure Nd where
  r : Int
  p : Int
  f : Int
/-- Each node of the plan is right. -/
def NdOk (s : Sc) (n : Nat) (i : Nat) (x : Nd) : Prop := (0 ≤ x.r ∧ x.r < s.rifles.length) ∧ (x.p = -1 ∨ (i : Int) < x.p ∧ x.p < n) ∧ (x.f = -1 ∨ (i : Int) < x.f ∧ x.f < n)
theorem NdOk.more {s : Sc} {n m i : Nat} {x : Nd} (h : NdOk s n i x) (hm : n ≤ m) : NdOk s m i x := by
  obtain ⟨h1, h2, h3⟩ := h
  refine ⟨h1, ?_, ?_⟩
  · rcases h2 with h2 | h2
    · exact .inl h2
    · exact .inr ⟨h2.1, by omega⟩
  · rcases h3 with h3 | h3
    · exact .inl h3
    · exact .inr ⟨h3.1, by omega⟩
/-- The number whose bits are those of a function. -/
def mkB (g : Nat → Bool) : Nat → Nat
  | 0 => 0
  | n + 1 => mkB g n ||| (cond (g n) (2 ^ n) 0)
theorem mkB_bit (g : Nat → Bool) (i : Nat) : ∀ n, (mkB g n).testBit i = (decide (i < n) && g i)
  | 0 => by simp [mkB]
  | n + 1 => by
    rw [mkB, Nat.testBit_or, mkB_bit g i n]
    by_cases h : i = n
    · subst h
      cases hg : g i <;> simp [Nat.testBit_two_pow_self]
    · have h1 : (cond (g n) (2 ^ n) 0).testBit i = false := by
        cases g n
        · simp
        · simp [Nat.testBit_two_pow_of_ne (Ne.symm h)]
      rw [h1, Bool.or_false]
      congr 1
      exact decide_eq_decide.2 (by omega)
theorem mkB_lt (g : Nat → Bool) : ∀ n, mkB g n < 2 ^ n := fun n => Nat.lt_pow_two_of_testBit _ fun i hi => by
  rw [mkB_bit]
  simp; omega
/-- Whether a is faster than b. -/
def fa (o a b : Nat) : Bool := o.testBit (8 * a + b)
/-- The order in which one ski more is faster than another one, and all that follows. -/
def withO (o f s : Nat) : Nat := mkB (fun c => o.testBit c || ((c / 8 == f || fa o (c / 8) f) && (c % 8 == s || fa o s (c % 8)))) 64
theorem fa_with (o f s : Nat) {a b : Nat} (ha : a < 8) (hb : b < 8) : fa (withO o f s) a b = (fa o a b || ((a == f || fa o a f) && (b == s || fa o s b))) := by
  unfold withO
  rw [fa, mkB_bit]
  have h1 : (8 * a + b) / 8 = a := by omega
  have h2 : (8 * a + b) % 8 = b := by omega
  have h3 : decide (8 * a + b < 64) = true := decide_eq_true (by omega)
  rw [h3, h1, h2, Bool.true_and]
  rfl
theorem with_iff {o f s a b : Nat} (ha : a < 8) (hb : b < 8) : fa (withO o f s) a b = true ↔ fa o a b = true ∨ ((a = f ∨ fa o a f = true) ∧ (b = s ∨ fa o s b = true)) := by
  rw [fa_with o f s ha hb]
  simp
theorem with_lt (o f s : Nat) : withO o f s < 2 ^ 64 := mkB_lt _ _
/-- Orders: less than 2 ^ 64, and chains lead on. -/
structure Ord (o : Nat) : Prop where
  lt : o < 2 ^ 64
  tr : ∀ a b c, a < 8 → b < 8 → c < 8 → fa o a b = true → fa o b c = true → fa o a c = true
theorem Ord.zero : Ord 0 := ⟨by decide, fun a b c _ _ _ h => by simp [fa] at h⟩
theorem Ord.with {o f s : Nat} (h : Ord o) (hf : f < 8) (hs : s < 8) : Ord (withO o f s) := ⟨with_lt _ _ _, fun a b c ha hb hc h1 h2 => by
  rw [with_iff ha hb] at h1
  rw [with_iff hb hc] at h2
  rw [with_iff ha hc]
  rcases h1 with h1 | ⟨h1, h1'⟩ <;> rcases h2 with h2 | ⟨h2, h2'⟩
  · exact .inl (h.tr a b c ha hb hc h1 h2)
  · refine .inr ⟨?_, h2'⟩
    rcases h2 with rfl | h2
    · exact .inr h1
    · exact .inr (h.tr a b f ha hb hf h1 h2)
  · refine .inr ⟨h1, ?_⟩
    rcases h1' with rfl | h1'
    · exact .inr h2
    · exact .inr (h.tr s b c hs hb hc h1' h2)
  · exact .inr ⟨h1, h2'⟩⟩
/-- All that one order says, another one says. -/
def LeO (o p : Nat) : Prop := ∀ a b, a < 8 → b < 8 → fa o a b = true → fa p a b = true
theorem LeO.refl (o : Nat) : LeO o o := fun _ _ _ _ h => h
theorem LeO.trans {o p q : Nat} (h : LeO o p) (g : LeO p q) : LeO o q := fun a b ha hb x => g a b ha hb (h a b ha hb x)
/-- The order that pairs show. -/
def orderV (l : List (Nat × Nat)) : Nat := l.foldl (fun o p => withO o p.1 p.2) 0
theorem order_snoc (l : List (Nat × Nat)) (p : Nat × Nat) : orderV (l ++ [p]) = withO (orderV l) p.1 p.2 := by simp [orderV]
theorem snocI {α : Type} {p : List α → Prop} (h0 : p []) (hs : ∀ l a, p l → p (l ++ [a])) : ∀ l, p l := fun l => by
  have : ∀ n (l : List α), l.length = n → p l := by
    intro n
    induction n with
    | zero => intro l hl; rw [List.length_eq_zero_iff.1 hl]; exact h0
    | succ n ih =>
      intro l hl
      have hne : l ≠ [] := by intro h; rw [h] at hl; cases hl
      rw [← List.dropLast_concat_getLast hne]
      exact hs _ _ (ih _ (by simp [hl]))
  exact this _ l rfl
def In8 (l : List (Nat × Nat)) : Prop := ∀ p ∈ l, p.1 < 8 ∧ p.2 < 8
theorem order_ord : ∀ l, In8 l → Ord (orderV l) := fun l => snocI (p := fun l => In8 l → Ord (orderV l)) (fun _ => Ord.zero) (fun l a ih h => by
  rw [order_snoc]
  have := h a (by simp)
  exact (ih (fun p hp => h p (by simp [hp]))).with this.1 this.2) l
structure Und (o n x y : Nat) : Prop where
  ord : Ord o
  n8 : n ≤ 8
  hx : x < n
  hy : y < n
  ne : x ≠ y
  xy : fa o x y = false
  yx : fa o y x = false
theorem Und.swap {o n x y : Nat} (h : Und o n x y) : Und o n y x := ⟨h.ord, h.n8, h.hy, h.hx, h.ne.symm, h.yx, h.xy⟩
/-- No ski is faster than itself. -/
def NoC (o n : Nat) : Prop := ∀ s, s < n → fa o s s = false
theorem NoC.with {o n x y : Nat} (hc : NoC o n) (h : Und o n x y) : NoC (withO o x y) n := fun s hs => by
  have h8 := h.n8
  cases hx : fa (withO o x y) s s with
  | false => rfl
  | true =>
    exfalso
    have hx1 := h.hx
    have hy1 := h.hy
    rcases (with_iff (by omega) (by omega)).1 hx with hx | ⟨h1, h2⟩
    · rw [hc s hs] at hx; cases hx
    · have : fa o y x = true := by
        rcases h1 with rfl | h1 <;> rcases h2 with h2 | h2
        · exact absurd h2 h.ne
        · exact h2
        · subst h2; exact h1
        · exact h.ord.tr y s x (by omega) (by omega) (by omega) h2 h1
      rw [h.yx] at this; cases this
/-- All pairs of skis. -/
def pairsN (n : Nat) : List (Nat × Nat) := (List.range n).flatMap fun a => (List.range a).map fun b => (a, b)
theorem pairs_iff {n a b : Nat} : (a, b) ∈ pairsN n ↔ a < n ∧ b < a := by
  unfold pairsN
  simp [List.mem_flatMap]
/-- Whether it is not known of a pair which one is faster. -/
def undO (o : Nat) (p : Nat × Nat) : Bool := !(fa o p.1 p.2 || fa o p.2 p.1)
theorem und_iff {o : Nat} {p : Nat × Nat} : undO o p = true ↔ fa o p.1 p.2 = false ∧ fa o p.2 p.1 = false := by
  unfold undO
  simp
theorem Und.of {o n : Nat} (ho : Ord o) (hn : n ≤ 8) {p : Nat × Nat} (hp : p ∈ pairsN n) (hu : undO o p = true) : Und o n p.1 p.2 := by
  obtain ⟨a, b⟩ := p
  have h1 := pairs_iff.1 hp
  have h2 := und_iff.1 hu
  exact ⟨ho, hn, h1.1, by simp only; omega, by simp only; omega, h2.1, h2.2⟩
structure Rn where
  a : Int
  b : Int
  lead : Int
structure Lb where
  skis : Int
  err : Int
  runs : List Rn
/-- What a run shows. -/
def runV (e : Int) (r : Rn) : Option (Nat × Nat) := if e < r.lead then some (r.a.toNat, r.b.toNat) else if r.lead < -e then some (r.b.toNat, r.a.toNat) else none
def Lb.pairs (l : Lb) : List (Nat × Nat) := l.runs.filterMap (runV l.err)
def Lb.ord (l : Lb) : Nat := orderV l.pairs
def Lb.n (l : Lb) : Nat := l.skis.toNat
/-- A number within two others. -/
def rinB (n lo hi : Int) : Bool := decide (lo ≤ n) && decide (n ≤ hi)
theorem rinB_iff {n lo hi : Int} : rinB n lo hi = true ↔ lo ≤ n ∧ n ≤ hi := by simp [rinB]
structure Rn.Ok (s : Int) (r : Rn) : Prop where
  a0 : 0 ≤ r.a
  a1 : r.a < s
  b0 : 0 ≤ r.b
  b1 : r.b < s
  ne : r.a ≠ r.b
  l0 : -10000 ≤ r.lead
  l1 : r.lead ≤ 10000
structure Lb.Ok (l : Lb) : Prop where
  s0 : 1 ≤ l.skis
  s1 : l.skis ≤ 8
  e0 : 0 ≤ l.err
  e1 : l.err ≤ 1000
  len : l.runs.length ≤ 40
  run : ∀ r ∈ l.runs, r.Ok l.skis
theorem runV_in {e s : Int} {r : Rn} (h : r.Ok s) (hs : s ≤ 8) {p : Nat × Nat} (hp : runV e r = some p) : p.1 < s.toNat ∧ p.2 < s.toNat ∧ p.1 ≠ p.2 := by
  have h1 := h.a0
  have h2 := h.a1
  have h3 := h.b0
  have h4 := h.b1
  have h5 := h.ne
  unfold runV at hp
  split at hp
  · cases hp; simp only; omega
  · split at hp
    · cases hp; simp only; omega
    · cases hp
theorem Lb.Ok.n8 {l : Lb} (h : l.Ok) : l.n ≤ 8 := by have := h.s0; have := h.s1; unfold Lb.n; omega
theorem Lb.Ok.in {l : Lb} (h : l.Ok) : ∀ p ∈ l.pairs, p.1 < l.n ∧ p.2 < l.n ∧ p.1 ≠ p.2 := fun p hp => by
  obtain ⟨r, hr, h1⟩ := List.mem_filterMap.1 hp
  exact runV_in (h.run r hr) h.s1 h1
theorem Lb.Ok.in8 {l : Lb} (h : l.Ok) : In8 l.pairs := fun p hp => by
  have h1 := h.in p hp
  have h2 := h.n8
  exact ⟨by omega, by omega⟩
theorem Lb.Ok.o {l : Lb} (h : l.Ok) : Ord l.ord := order_ord _ h.in8
/-- Leads that are what the skis really are, within the error. -/
structure Rn.True (e : Int) (real : List Int) (r : Rn) : Prop where
  lo : real.getD r.a.toNat 0 - real.getD r.b.toNat 0 - e ≤ r.lead
  hi : r.lead ≤ real.getD r.a.toNat 0 - real.getD r.b.toNat 0 + e
def Lb.True (l : Lb) (real : List Int) : Prop := ∀ r ∈ l.runs, r.True l.err real
/-- The error of a table. -/
def tableV (l : List (List Int)) : Int := if (rinB l.length 1 12 && l.all (fun row => rinB row.length 1 20 && (decide (row.length = (l.headD []).length) && true))) = false then 2 else if l.all (fun row => row.all fun n => rinB n 0 10000) = false then 3 else 0
structure TabOk (l : List (List Int)) (n : Nat) : Prop where
  l1 : 1 ≤ l.length
  l2 : l.length ≤ 12
  n1 : 1 ≤ n
  n2 : n ≤ 20
  len : ∀ row ∈ l, row.length = n
  num : ∀ row ∈ l, ∀ x ∈ row, 0 ≤ x ∧ x ≤ 10000
theorem table_iff {l : List (List Int)} : tableV l = 0 ↔ TabOk l (l.headD []).length := by
  unfold tableV
  constructor
  · intro h
    split at h
    · cases h
    split at h
    · cases h
    rename_i h1 h2
    simp only [Bool.not_eq_false, Bool.and_eq_true, rinB_iff, List.all_eq_true, Bool.and_true, decide_eq_true_eq] at h1 h2
    obtain ⟨⟨a, b⟩, c⟩ := h1
    cases l with
    | nil => simp at a
    | cons r l =>
      have hr := c r List.mem_cons_self
      exact ⟨by omega, by omega, by simp only [List.headD_cons]; omega, by simp only [List.headD_cons]; omega, fun row hrow => (c row hrow).2, fun row hrow x hx => h2 row hrow x hx⟩
  · intro h
    rw [if_neg, if_neg]
    · simp only [Bool.not_eq_false, List.all_eq_true]
      exact fun row hr x hx => rinB_iff.2 (h.num row hr x hx)
    · simp only [Bool.not_eq_false, Bool.and_eq_true, rinB_iff, List.all_eq_true, Bool.and_true, decide_eq_true_eq]
      refine ⟨⟨by have := h.l1; omega, by have := h.l2; omega⟩, fun row hr => ?_⟩
      have h1 := h.len row hr
      have h2 := h.n1
      have h3 := h.n2
      exact ⟨⟨by omega, by omega⟩, h1⟩
/-- What a wax loses on a snow. -/
def gt (l : List (List Int)) (i s : Nat) : Int := (l.getD i []).getD s 0
/-- The least of a list, from a number on. -/
def minF (a : Int) (l : List Int) : Int := l.foldl min a
theorem min_mem (a : Int) : ∀ l : List Int, minF a l = a ∨ minF a l ∈ l := by
  intro l
  induction l generalizing a with
  | nil => exact .inl rfl
  | cons b l ih =>
    have := ih (min a b)
    unfold minF at this ⊢
    rw [List.foldl_cons]
    rcases this with h | h
    · rw [h]
      by_cases hab : a ≤ b
      · exact .inl (by omega)
      · exact .inr (by rw [show min a b = b from by omega]; exact List.mem_cons_self)
    · exact .inr (List.mem_cons_of_mem _ h)
/-- The least loss on a snow. -/
def lowV (l : List (List Int)) (s : Nat) : Int := minF (gt l 0 s) (l.map fun row => row.getD s 0)
theorem low_mem {l : List (List Int)} (h : l ≠ []) (s : Nat) : ∃ row ∈ l, lowV l s = row.getD s 0 := by
  rcases min_mem (gt l 0 s) (l.map fun row => row.getD s 0) with h1 | h1
  · cases l with
    | nil => exact absurd rfl h
    | cons r l => exact ⟨r, List.mem_cons_self, h1⟩
  · obtain ⟨row, hr, h2⟩ := List.mem_map.1 h1
    exact ⟨row, hr, h2.symm⟩
theorem getD_mem {l : List Int} {i : Nat} (h : i < l.length) : l.getD i 0 ∈ l := by
  rw [List.getD_eq_getElem?_getD, List.getElem?_eq_getElem h]
  exact List.getElem_mem h
-- ski/G0.lean
section
abbrev rnV (l : Rn) : Value := .agg #[.int .i64 l.a, .int .i64 l.b, .int .i64 l.lead]
abbrev RdR (w : World) (lo hi : Nat) (v : Value) (l : List Rn) : Prop := RdE w lo hi v 3 (l.map rnV)
def rrnC (l : List Rn) : List Value := l.flatMap fun x => [.int .i64 x.a, .int .i64 x.b, .int .i64 x.lead]
section
variable {w w' : World} {lo hi b off len cap : Nat} {v : Value}
theorem RdR.outI {l : List Rn} (h : RdR w lo hi v l) : ∃ a cap, v = .slice a l.length cap ∧ (0 < l.length → ∃ b off, a = some ⟨b, off, none⟩) := by
  have := RdE.out h
  simpa using this
theorem RdR.at {l : List Rn} (h : RdR w lo hi (.slice (some ⟨b, off, none⟩) len cap) l) (i : Nat) (hi : i < l.length) (j : Nat) (hj : j < 3) : w.cell? ⟨b, off + i * 3 + j, none⟩ = [Value.int .i64 l[i].a, Value.int .i64 l[i].b, Value.int .i64 l[i].lead][j]? := by
  have := RdE.cell h i j (by simpa using hi) hj
  rw [this]
  simp [rnV, Value.cells]
theorem RdR.at2 {l : List Rn} (h : RdR w lo hi (.slice (some ⟨b, off, none⟩) len cap) l) (i : Nat) (hi : i < l.length) : w.cell? ⟨b, off + i * 3 + 2, none⟩ = some (.int .i64 l[i].lead) := RdR.at h i hi 2 (by omega)
theorem cells_rn (l : List Rn) : cellsOf (l.map rnV) = rrnC l := by simp [cellsOf, rrnC, List.flatMap_map, Value.cells]
theorem RdR.row {l : List Rn} (h : RdR w lo hi v l) : Rd w lo hi v 3 l.length (rrnC l) := by
  have := h.rd
  rw [cells_rn, List.length_map] at this
  exact this
theorem RdR.of {l : List Rn} (h : Rd w lo hi v 3 l.length (rrnC l)) : RdR w lo hi v l := ⟨by rw [cells_rn, List.length_map]; exact h, fun e he => by obtain ⟨x, _, rfl⟩ := List.mem_map.1 he; rfl⟩
end
end
set_option maxHeartbeats 1000000 in
theorem idxF_hold (w : World) (lo hi : Nat) (v cv : Value) (es : List Value) (p : Value → Bool) (hrd : RdE w lo hi v 3 es) (hagg : ∀ i (hi : i < es.length), ∃ c, es[i] = .agg c) (hlen : es.length < 4611686018427387904) (hp : PredAt Tryz.prog tab w cv es p) :
    Ca Tryz.prog 119 [v, cv] w fun r w' => ((∃ i : Nat, r = .int .i64 i ∧ ∃ hi : i < es.length, p es[i] = true) ∨ (r = .int .i64 (-1) ∧ ∀ x ∈ es, p x = false)) ∧ Chg [] w w' := by
  obtain ⟨a, cap, rfl, hsl⟩ := hrd.out
  obtain ⟨g, first, caps, rfl, hg, hcl⟩ := hp
  refine ca_of Tryz.func119 rfl (by simp [Tryz.ntmps119]) ?_
  (refine y_seq (y_region (yl_pure tabOk rfl rfl (y_seq (y_seq (y_region ?_))))); (iterate 3 refine yl_pure tabOk rfl rfl ?_); refine y_block ?_)
  refine y_loop (fun m l wr => ∃ k : Nat, k ≤ es.length ∧ m = es.length - k ∧ l = [(0, .slice a es.length cap), (1, .func (.func g) first caps), (7, .int .i64 es.length), (8, .int .i64 k)] ∧ (∀ i (hi : i < es.length), i < k → p es[i] = false) ∧ Chg [] w wr) (m := es.length)
    ⟨0, by omega, rfl, rfl, fun i _ hi => by omega, Chg.refl _ _⟩ ⟨rfl, rfl, rfl, rfl, trivial⟩ ?_
  rintro m l wr ⟨k, hkl, rfl, rfl, hpk, hcw⟩ K hK
  (refine y_seq (y_region (yl_pure tabOk rfl rfl (y_seq ?_))))
  refine y_if rfl (fun hc => ?_) (fun hc => ?_)
  · have hk : k < es.length := by omega
    obtain ⟨b, off, rfl⟩ := hsl (by omega)
    (refine y_skip (y_seq (y_block (y_seq (y_region (yl_pure tabOk rfl rfl (yl_pure tabOk rfl rfl (y_seq (y_region ?_)))))))); (iterate 3 refine yl_pure tabOk rfl rfl ?_))
    refine yl_index tabOk rfl rfl rfl rfl rfl (by omega) (by omega) ?_
    refine yl_loadA tabOk rfl rfl rfl (cs := es[k].cells.toList) (by simpa using hrd.sz es[k] (List.getElem_mem hk)) (fun j hj => (hrd.keep hcw).cell k j hk hj) ?_
    have hval : Value.agg es[k].cells.toList.toArray = es[k] := by
      obtain ⟨c, hc⟩ := hagg k hk
      rw [hc]; simp [Value.cells]
    rw [hval]
    refine yl_call tabOk rfl hg rfl rfl (hcl wr hcw es[k] (List.getElem_mem hk)) ?_
    rintro _ w2 ⟨rfl, hc2⟩
    (refine yl_nil ?_)
    refine y_cond rfl (fun hc => ?_) (fun hc => ?_)
    · (refine y_seq (y_region (yl_pure tabOk rfl rfl (yl_pure tabOk rfl rfl (y_ret ?_)))))
      exact y_fin1 rfl rfl ⟨.inl ⟨k, rfl, hk, hc⟩, hcw.trans hc2⟩
    · (refine y_skip (y_region (yl_pure tabOk rfl rfl (yl_pure tabOk rfl rfl (yl_nil ?_)))))
      refine y_k (hK _ _ _ _ ⟨k + 1, by omega, rfl, rfl, fun i hi hik => ?_, hcw.trans hc2⟩ (by omega) ⟨rfl, rfl, rfl, ?_, trivial⟩)
      · by_cases h : i < k
        · exact hpk i hi h
        · obtain rfl : i = k := by omega
          exact hc
      · show some (Value.int _ (IntKind.i64.wrap (↑k + 1))) = _
        rw [w64 (by omega) (by omega)]
        rfl
  · (refine y_exit _ rfl (y_seq (y_region (yl_pure tabOk rfl rfl (y_ret ?_)))))
    refine y_fin1 rfl rfl ⟨.inr ⟨rfl, fun x hx => ?_⟩, hcw⟩
    obtain ⟨i, hi, rfl⟩ := List.getElem_of_mem hx
    exact hpk i hi (by omega)
theorem conF_hold (w : World) (lo hi : Nat) (v cv : Value) (es : List Value) (p : Value → Bool) (hrd : RdE w lo hi v 3 es) (hagg : ∀ i (hi : i < es.length), ∃ c, es[i] = .agg c) (hlen : es.length < 4611686018427387904) (hp : PredAt Tryz.prog tab w cv es p) :
    Ca Tryz.prog 109 [v, cv] w fun r w' => r = .bool (es.any p) ∧ Chg [] w w' := by
  refine ca_of Tryz.func109 rfl (by simp [Tryz.ntmps109]) ?_
  (refine y_seq (y_region (yl_pure tabOk rfl rfl (y_seq (y_region (yl_pure tabOk rfl rfl (yl_pure tabOk rfl rfl ?_)))))))
  refine yl_call tabOk rfl rfl rfl rfl (idxF_hold w lo hi v cv es p hrd hagg hlen hp) ?_
  rintro r w2 ⟨⟨i, rfl, hi, hpi⟩ | ⟨rfl, hall⟩, hc2⟩
  · (refine yl_pure tabOk rfl rfl (yl_pure tabOk rfl rfl (y_ret ?_)))
    refine y_fin1 rfl rfl ⟨?_, hc2⟩
    have h1 : es.any p = true := List.any_eq_true.2 ⟨_, List.getElem_mem hi, hpi⟩
    rw [h1]
    exact congrArg Value.bool (decide_eq_true (by omega))
  · (refine yl_pure tabOk rfl rfl (yl_pure tabOk rfl rfl (y_ret ?_)))
    refine y_fin1 rfl rfl ⟨?_, hc2⟩
    have h1 : es.any p = false := List.any_eq_false.2 (fun x hx => by simp [hall x hx])
    rw [h1]
    rfl
theorem all1_hold (w : World) (b t : Nat) (cv x : Value) (es : List Value) (p : Value → Bool) (hx : ∃ c, x = .agg c ∧ c.size = 3) (hm : x ∈ es) (hb : Blk w b [cv] t) (hp : PredAt Tryz.prog tab w cv es p) :
    Ca Tryz.prog 110 [x, .pointer (some ⟨b, 0, none⟩)] w fun r w' => r = .bool (!(p x)) ∧ Chg [] w w' := by
  obtain ⟨g, first, caps, rfl, hg, hcl⟩ := hp
  obtain ⟨c, rfl, hcs⟩ := hx
  refine ca_of Tryz.func110 rfl (by simp [Tryz.ntmps110]) ?_
  (refine y_seq (y_region ?_))
  refine yl_box rfl rfl (fun w1 hc1 hs1 hb1 => ?_)
  have hb' := hb.keep hc1
  (refine yl_pure tabOk rfl rfl (y_seq (y_region ?_)); refine yl_loadB tabOk rfl rfl rfl (by assumption) (by rfl) ?_)
  refine yl_loadAB tabOk rfl rfl rfl hb1 (us := c.toList) (List.take_of_length_le (by simp [Value.cells, hcs])) (by simpa using hcs) ?_
  refine yl_call tabOk rfl hg rfl rfl (hcl w1 hc1 _ hm) ?_
  rintro _ w2 ⟨rfl, hc2⟩
  (refine yl_pure tabOk rfl rfl (yl_pure tabOk rfl rfl (y_ret ?_)))
  exact y_fin1 rfl rfl ⟨rfl, hc1.trans hc2⟩
theorem all_hold (w : World) (lo hi : Nat) (v cv : Value) (es : List Value) (p : Value → Bool) (hrd : RdE w lo hi v 3 es) (hagg : ∀ i (hi : i < es.length), ∃ c, es[i] = .agg c) (hlen : es.length < 4611686018427387904) (hp : PredAt Tryz.prog tab w cv es p) :
    Ca Tryz.prog 85 [v, cv] w fun r w' => r = .bool (es.all p) ∧ Chg [] w w' := by
  refine ca_of Tryz.func85 rfl (by simp [Tryz.ntmps85]) ?_
  (refine y_seq (y_region ?_))
  refine yl_box rfl rfl (fun w1 hc1 hs1 hb1 => ?_)
  have hcv : cv.cells.toList = [cv] := by obtain ⟨g, first, caps, rfl, _, _⟩ := hp; rfl
  rw [hcv] at hb1
  have hp1 : PredAt Tryz.prog tab w1 (.func (.func 110) #[] #[.pointer (some ⟨w.heap.size, 0, none⟩)]) es (fun x => !(p x)) := by
    refine ⟨110, #[], #[_], rfl, rfl, fun w' hw' x hx => ?_⟩
    refine all1_hold w' w.heap.size _ cv x es p ?_ hx (hb1.keep hw') (hp.keep (hc1.trans hw'))
    obtain ⟨i, hi, rfl⟩ := List.getElem_of_mem hx
    obtain ⟨c, hc⟩ := hagg i hi; exact ⟨c, hc, by have := hrd.sz _ hx; rw [hc] at this; exact this⟩
  (refine yl_pure tabOk rfl rfl (y_seq (y_region (yl_pure tabOk rfl rfl (yl_pure tabOk rfl rfl ?_)))))
  refine yl_call tabOk rfl rfl rfl rfl (conF_hold w1 lo hi v _ es _ (hrd.keep hc1) hagg hlen hp1) ?_
  rintro _ w2 ⟨rfl, hc2⟩
  (refine yl_pure tabOk rfl rfl (yl_pure tabOk rfl rfl (y_ret ?_)))
  refine y_fin1 rfl rfl ⟨?_, hc1.trans hc2⟩
  rw [List.all_eq_not_any_not]
-- rifle/G1.lean
section
abbrev hdV (l : Hd) : Value := .agg #[.int .i64 l.who, .int .i64 l.f, .int .i64 l.t]
abbrev RdH (w : World) (lo hi : Nat) (v : Value) (l : List Hd) : Prop := RdE w lo hi v 3 (l.map hdV)
def hdC (l : List Hd) : List Value := l.flatMap fun x => [.int .i64 x.who, .int .i64 x.f, .int .i64 x.t]
section
variable {w w' : World} {lo hi b off len cap : Nat} {v : Value}
theorem RdH.outI {l : List Hd} (h : RdH w lo hi v l) : ∃ a cap, v = .slice a l.length cap ∧ (0 < l.length → ∃ b off, a = some ⟨b, off, none⟩) := by
  have := RdE.out h
  simpa using this
theorem RdH.at {l : List Hd} (h : RdH w lo hi (.slice (some ⟨b, off, none⟩) len cap) l) (i : Nat) (hi : i < l.length) (j : Nat) (hj : j < 3) : w.cell? ⟨b, off + i * 3 + j, none⟩ = [Value.int .i64 l[i].who, Value.int .i64 l[i].f, Value.int .i64 l[i].t][j]? := by
  have := RdE.cell h i j (by simpa using hi) hj
  rw [this]
  simp [hdV, Value.cells]
theorem RdH.at2 {l : List Hd} (h : RdH w lo hi (.slice (some ⟨b, off, none⟩) len cap) l) (i : Nat) (hi : i < l.length) : w.cell? ⟨b, off + i * 3 + 2, none⟩ = some (.int .i64 l[i].t) := RdH.at h i hi 2 (by omega)
theorem cells_hdC (l : List Hd) : cellsOf (l.map hdV) = hdC l := by simp [cellsOf, hdC, List.flatMap_map, Value.cells]
theorem hdC_length (l : List Hd) : (hdC l).length = l.length * 3 := by
  rw [← cells_hdC, cellsOf_length (sz := 3)]
  · simp
  · intro e he; obtain ⟨x, _, rfl⟩ := List.mem_map.1 he; rfl
theorem RdH.row {l : List Hd} (h : RdH w lo hi v l) : Rd w lo hi v 3 l.length (hdC l) := by
  have := h.rd
  rw [cells_hdC, List.length_map] at this
  exact this
theorem RdH.of {l : List Hd} (h : Rd w lo hi v 3 l.length (hdC l)) : RdH w lo hi v l := ⟨by rw [cells_hdC, List.length_map]; exact h, fun e he => by obtain ⟨x, _, rfl⟩ := List.mem_map.1 he; rfl⟩
end
abbrev nodV (l : Nd) : Value := .agg #[.int .i64 l.r, .int .i64 l.p, .int .i64 l.f]
abbrev RdN (w : World) (lo hi : Nat) (v : Value) (l : List Nd) : Prop := RdE w lo hi v 3 (l.map nodV)
def nodC (l : List Nd) : List Value := l.flatMap fun x => [.int .i64 x.r, .int .i64 x.p, .int .i64 x.f]
section
variable {w w' : World} {lo hi b off len cap : Nat} {v : Value}
theorem RdN.outI {l : List Nd} (h : RdN w lo hi v l) : ∃ a cap, v = .slice a l.length cap ∧ (0 < l.length → ∃ b off, a = some ⟨b, off, none⟩) := by
  have := RdE.out h
  simpa using this
theorem RdN.at {l : List Nd} (h : RdN w lo hi (.slice (some ⟨b, off, none⟩) len cap) l) (i : Nat) (hi : i < l.length) (j : Nat) (hj : j < 3) : w.cell? ⟨b, off + i * 3 + j, none⟩ = [Value.int .i64 l[i].r, Value.int .i64 l[i].p, Value.int .i64 l[i].f][j]? := by
  have := RdE.cell h i j (by simpa using hi) hj
  rw [this]
  simp [nodV, Value.cells]
theorem RdN.at2 {l : List Nd} (h : RdN w lo hi (.slice (some ⟨b, off, none⟩) len cap) l) (i : Nat) (hi : i < l.length) : w.cell? ⟨b, off + i * 3 + 2, none⟩ = some (.int .i64 l[i].f) := RdN.at h i hi 2 (by omega)
theorem cells_nodC (l : List Nd) : cellsOf (l.map nodV) = nodC l := by simp [cellsOf, nodC, List.flatMap_map, Value.cells]
theorem RdN.row {l : List Nd} (h : RdN w lo hi v l) : Rd w lo hi v 3 l.length (nodC l) := by
  have := h.rd
  rw [cells_nodC, List.length_map] at this
  exact this
theorem RdN.of {l : List Nd} (h : Rd w lo hi v 3 l.length (nodC l)) : RdN w lo hi v l := ⟨by rw [cells_nodC, List.length_map]; exact h, fun e he => by obtain ⟨x, _, rfl⟩ := List.mem_map.1 he; rfl⟩
end
theorem hdV_agg (l : List Hd) : ∀ i (hi : i < (l.map hdV).length), ∃ c, (l.map hdV)[i] = .agg c := fun i hi => ⟨_, by rw [List.getElem_map]⟩
end
/-- A wax as a value. -/
def wxV (most : Int) (v : Value) : Value := .agg #[v, .int .i64 most]
/-- The regrets on the first snows. -/
def regP (l : List (List Int)) (k : Nat) (row : List Int) : List Int := (List.range k).map fun s => row.getD s 0 - lowV l s
/-- The rows, some of which are longer by one. -/
structure RegI (l : List (List Int)) (s m : Nat) (xs : List (Value × List Int)) : Prop where
  len : xs.length = l.length
  lt : ∀ i (hi : i < xs.length), i < m → xs[i].2 = regP l (s + 1) (l.getD i [])
  ge : ∀ i (hi : i < xs.length), m ≤ i → xs[i].2 = regP l s (l.getD i [])
theorem RegI.step {l : List (List Int)} {s m : Nat} {xs : List (Value × List Int)} (h : RegI l s m xs) (u : Value) {r : List Int} (hr : r = regP l (s + 1) (l.getD m [])) : RegI l s (m + 1) (xs.modify m fun _ => (u, r)) := by
  refine ⟨by rw [List.length_modify]; exact h.len, fun i hi h2 => ?_, fun i hi h2 => ?_⟩
  · rw [List.getElem_modify]
    split
    · rename_i e; subst e; exact hr
    · exact h.lt i (by simpa using hi) (by omega)
  · rw [List.getElem_modify, if_neg (by omega)]
    exact h.ge i (by simpa using hi) (by omega)
theorem RegI.all {l : List (List Int)} {s : Nat} {xs : List (Value × List Int)} (h : RegI l s 0 xs) : xs.map (·.2) = l.map (regP l s) := by
  refine List.ext_getElem (by simp [h.len]) (fun i h1 h2 => ?_)
  have hi : i < xs.length := by simpa using h1
  have hi2 : i < l.length := by simpa using h2
  rw [List.getElem_map, List.getElem_map, h.ge i hi (by omega), List.getD_eq_getElem?_getD, List.getElem?_eq_getElem hi2]
  rfl
theorem getD_get {r : List Int} {s : Nat} (hs : s < r.length) : r.getD s 0 = r[s] := by
  simp only [List.getD_eq_getElem?_getD, Option.getD_some, List.getElem?_eq_getElem hs]
/-- Waxes that can be read. -/
def RdW (w : World) (lo hi : Nat) (v : Value) (most : Int) (rows : List (List Int)) : Prop :=
  ∃ vs : List Value, RdE w lo hi v 2 (vs.map (wxV most)) ∧ vs.length = rows.length ∧ ∀ i (h : i < vs.length) (h' : i < rows.length), RdI w lo hi vs[i] rows[i] ∧ ∀ a n c, vs[i] = .slice a n c → n ≤ c
theorem RdW.keep {w w' : World} {lo hi : Nat} {v : Value} {most : Int} {rows : List (List Int)} (h : RdW w lo hi v most rows) (c : Chg [] w w') : RdW w' lo hi v most rows := by
  obtain ⟨vs, h1, h2, h3⟩ := h
  exact ⟨vs, h1.keep c, h2, fun i hi hi' => ⟨(h3 i hi hi').1.keep c, (h3 i hi hi').2⟩⟩
theorem RdW.outI {w : World} {lo hi : Nat} {v : Value} {most : Int} {rows : List (List Int)} (h : RdW w lo hi v most rows) : ∃ a cap, v = .slice a rows.length cap ∧ (0 < rows.length → ∃ b off, a = some ⟨b, off, none⟩) := by
  obtain ⟨vs, h1, h2, h3⟩ := h
  have := RdE.out h1
  rwa [List.length_map, h2] at this
/-- One wax. -/
theorem RdW.row {w : World} {lo hi : Nat} {b off len cap : Nat} {most : Int} {rows : List (List Int)} (h : RdW w lo hi (.slice (some ⟨b, off, none⟩) len cap) most rows) (i : Nat) (hi' : i < rows.length) :
    ∃ a c, RdI w lo hi (.slice a rows[i].length c) rows[i] ∧ rows[i].length ≤ c ∧ ∀ w', Chg [] w w' → ∀ j, j < 2 → w'.cell? ⟨b, off + i * 2 + j, none⟩ = [Value.slice a rows[i].length c, .int .i64 most][j]? := by
  obtain ⟨vs, h1, h2, h3⟩ := h
  obtain ⟨h4, h5⟩ := h3 i (by omega) hi'
  obtain ⟨a, c, hv, _⟩ := RdI.outI h4
  refine ⟨a, c, hv ▸ h4, h5 _ _ _ hv, fun w' hw' j hj => ?_⟩
  rw [RdE.cell (h1.keep hw') i j (by simp; omega) hj, List.getElem_map, hv]
  rfl
theorem getD_row {r : List Int} {s : Nat} (hs : s < r.length) : r.getD s 0 = r[s] := by
  simp only [List.getD_eq_getElem?_getD, Option.getD_some, List.getElem?_eq_getElem hs]
-- ski/W8.lean
section
/-- By the key, then by the number. -/
def LtK (key : Int → Int) (a b : Int) : Prop := key a < key b ∨ (key a = key b ∧ a < b)
theorem LtK.trans {key : Int → Int} {a b c : Int} (h1 : LtK key a b) (h2 : LtK key b c) : LtK key a c := by
  unfold LtK at *
  omega
structure SrI (key : Int → Int) (l L : List Int) (i : Nat) : Prop where
  perm : L.Perm l
  srt : ∀ p q, p < q → q < i → LtK key (L.getD p 0) (L.getD q 0)
  ord : ∀ p q, p < i → i ≤ q → q < l.length → L.getD p 0 < L.getD q 0
  tail : ∀ p q, i ≤ p → p < q → q < l.length → L.getD p 0 < L.getD q 0
structure SrJ (key : Int → Int) (l L : List Int) (i j : Nat) : Prop where
  perm : L.Perm l
  ji : j ≤ i
  srt : ∀ p q, p < q → q ≤ i → p ≠ j → q ≠ j → LtK key (L.getD p 0) (L.getD q 0)
  low : ∀ q, j < q → q ≤ i → LtK key (L.getD j 0) (L.getD q 0)
  big : ∀ q, q ≤ i → q ≠ j → L.getD q 0 < L.getD j 0
  ord : ∀ p q, p ≤ i → i < q → q < l.length → L.getD p 0 < L.getD q 0
  tail : ∀ p q, i < p → p < q → q < l.length → L.getD p 0 < L.getD q 0
variable {key : Int → Int} {l L : List Int} {i j : Nat}
theorem SrJ.close (h : SrJ key l L i j) (hj : j = 0 ∨ ¬ key (L.getD j 0) < key (L.getD (j - 1) 0)) : SrI key l L (i + 1) where
  perm := h.perm
  srt := fun p q h1 h2 => by
    by_cases hp : p = j
    · subst hp
      exact h.low q h1 (by omega)
    by_cases hq : q = j
    · subst hq
      rcases hj with hj | hj
      · omega
      · have h4 := h.big (q - 1) (by omega) (by omega)
        have h5 : LtK key (L.getD (q - 1) 0) (L.getD q 0) := by unfold LtK; omega
        by_cases hp2 : p = q - 1
        · rw [hp2]; exact h5
        · exact (h.srt p (q - 1) (by omega) (by have := h.ji; omega) hp (by omega)).trans h5
    · exact h.srt p q h1 (by omega) hp hq
  ord := fun p q h1 h2 h3 => h.ord p q (by omega) (by omega) h3
  tail := fun p q h1 h2 h3 => h.tail p q (by omega) h2 h3
theorem SrJ.swap (h : SrJ key l L i j) (hj : 0 < j) (hi : i < L.length) (hlt : key (L.getD j 0) < key (L.getD (j - 1) 0)) {x y : Int} (hx : L.getD (j - 1) 0 = x) (hy : L.getD j 0 = y) : SrJ key l ((L.set j x).set (j - 1) y) i (j - 1) := by
  have hji := h.ji
  have e : ∀ p, ((L.set j x).set (j - 1) y).getD p 0 = if p = j - 1 then y else if p = j then x else L.getD p 0 := fun p => by
    rw [getD_set _ _ _ _ (by simp; omega), getD_set _ _ _ _ (by omega)]
  refine ⟨List.Perm.trans ?_ h.perm, by omega, fun p q h1 h2 h3 h4 => ?_, fun q h1 h2 => ?_, fun q h1 h2 => ?_, fun p q h1 h2 h3 => ?_, fun p q h1 h2 h3 => ?_⟩
  · have h1 : j < L.length := by omega
    have h2 : j - 1 < L.length := by omega
    have ex : x = L[j - 1] := by rw [← hx, getD_row h2]
    have ey : y = L[j] := by rw [← hy, getD_row h1]
    subst ex ey
    exact List.set_set_perm h1 h2
  · rw [e, e, if_neg h3, if_neg h4]
    by_cases hp : p = j
    · rw [if_pos hp, if_neg (by omega), ← hx]
      exact h.srt (j - 1) q (by omega) h2 (by omega) (by omega)
    · rw [if_neg hp]
      by_cases hq : q = j
      · rw [if_pos hq, ← hx]
        exact h.srt p (j - 1) (by omega) (by omega) hp (by omega)
      · rw [if_neg hq]
        exact h.srt p q h1 h2 hp hq
  · rw [e, e, if_pos rfl, if_neg (by omega), ← hy]
    by_cases hq : q = j
    · rw [if_pos hq, ← hx]
      exact .inl hlt
    · rw [if_neg hq]
      exact h.low q (by omega) h2
  · rw [e, e, if_pos rfl, if_neg h2, ← hy]
    by_cases hq : q = j
    · rw [if_pos hq, ← hx]
      exact h.big (j - 1) (by omega) (by omega)
    · rw [if_neg hq]
      exact h.big q h1 hq
  · rw [e p, e q, if_neg (show ¬ q = j - 1 by omega), if_neg (show ¬ q = j by omega)]
    split
    · rw [← hy]; exact h.ord j q (by omega) h2 h3
    · split
      · rw [← hx]; exact h.ord (j - 1) q (by omega) h2 h3
      · exact h.ord p q h1 h2 h3
  · rw [e, e, if_neg (by omega), if_neg (by omega), if_neg (by omega), if_neg (by omega)]
    exact h.tail p q h1 h2 h3
/-- Sorted by the key. -/
def SrtK (key : Int → Int) (L : List Int) : Prop := ∀ p q, p < q → q < L.length → LtK key (L.getD p 0) (L.getD q 0)
def iotaL (n : Nat) : List Int := (List.range n).map fun (i : Nat) => (i : Int)
theorem iota_len (n : Nat) : (iotaL n).length = n := by simp [iotaL]
theorem iota_get {n i : Nat} (h : i < n) : (iotaL n).getD i 0 = i := by
  unfold iotaL
  rw [List.getD_eq_getElem?_getD, List.getElem?_map, List.getElem?_range h]
  rfl
theorem SrI.start (n : Nat) : SrI key (iotaL n) (iotaL n) 1 where
  perm := .refl _
  srt := fun p q h1 h2 => by omega
  ord := fun p q h1 h2 h3 => by
    rw [iota_len] at h3
    rw [iota_get (by omega), iota_get h3]
    omega
  tail := fun p q h1 h2 h3 => by
    rw [iota_len] at h3
    rw [iota_get (by omega), iota_get h3]
    omega
theorem SrI.all (h : SrI key l L l.length) : SrtK key L := fun p q h1 h2 => h.srt p q h1 (by rw [← h.perm.length_eq]; exact h2)
end
/-- A function value that compares by a key, in all worlds where only one block may have changed. -/
def CmpAt (w : World) (g : Nat) (cmp : Value) (key : Int → Int) (l : List Int) : Prop := ∀ w', ChgP (fun x => x = g) w w' → ∀ a ∈ l, ∀ b ∈ l, CaF Tryz.prog cmp [.int .i64 a, .int .i64 b] w' fun v w2 => v = .int .i64 (key a - key b) ∧ Chg [] w' w2
theorem CmpAt.sub {w w' : World} {g : Nat} {cmp : Value} {key : Int → Int} {l : List Int} (h : CmpAt w g cmp key l) (hc : ChgP (fun x => x = g) w w') : CmpAt w' g cmp key l := fun w2 hc2 => h w2 (hc.upP hc2 fun _ h => .inl h)
theorem iota_mem {n : Nat} {x : Int} : x ∈ iotaL n ↔ 0 ≤ x ∧ x < n := by
  unfold iotaL
  rw [List.mem_map]
  constructor
  · rintro ⟨i, hi, rfl⟩
    have := List.mem_range.1 hi
    omega
  · intro h
    exact ⟨x.toNat, List.mem_range.2 (by omega), by omega⟩
/-- What is told of a lab. -/
structure Told (k : Nat) (l : Lb) : Prop where
  ok : l.Ok
  noC : NoC l.ord l.n
/-- Tables of numbers. -/
structure LosL (W S : Nat) (l : List (List Int)) (n : Nat) : Prop where
  l1 : 1 ≤ l.length
  l2 : l.length ≤ W
  n1 : 1 ≤ n
  n2 : n ≤ S
  len : ∀ row ∈ l, row.length = n
  num : ∀ row ∈ l, ∀ x ∈ row, 0 ≤ x ∧ x ≤ 200
theorem LosL.tab {W S n : Nat} {l : List (List Int)} (h : LosL W S l n) (hW : W ≤ 12) (hS : S ≤ 20) : TabOk l n :=
  ⟨h.l1, by have := h.l2; omega, h.n1, by have := h.n2; omega, h.len, fun r hr x hx => by have := h.num r hr x hx; omega⟩
theorem TabOk.v {l : List (List Int)} {n : Nat} (h : TabOk l n) : tableV l = 0 ∧ (l.headD []).length = n := by
  have e : (l.headD []).length = n := by
    have h1 := h.l1
    match l, h1 with
    | r :: l, _ => exact h.len r List.mem_cons_self
  exact ⟨table_iff.2 (e ▸ h), e⟩
theorem TabOk.low {l : List (List Int)} {n s : Nat} (h : TabOk l n) (hs : s < n) : 0 ≤ lowV l s ∧ lowV l s ≤ 10000 := by
  obtain ⟨r, hr, e⟩ := low_mem (l := l) (by intro e; have := h.l1; rw [e] at this; simp at this) s
  rw [e]
  exact h.num r hr _ (getD_mem (by rw [h.len r hr]; exact hs))
/-- A function value that compares somehow, in all worlds where only one block may have changed. -/
def CmpS (w : World) (g : Nat) (cmp : Value) (cf : Int → Int → Int) (l : List Int) : Prop := ∀ w', ChgP (fun x => x = g) w w' → ∀ a ∈ l, ∀ b ∈ l, CaF Tryz.prog cmp [.int .i64 a, .int .i64 b] w' fun v w2 => v = .int .i64 (cf a b) ∧ Chg [] w' w2
theorem CmpS.sub {w w' : World} {g : Nat} {cmp : Value} {cf : Int → Int → Int} {l : List Int} (h : CmpS w g cmp cf l) (hc : ChgP (fun x => x = g) w w') : CmpS w' g cmp cf l := fun w2 hc2 => h w2 (hc.upP hc2 fun _ h => .inl h)
theorem rfin_ca (n lo hi : Int) (w : World) : Ca Tryz.prog 63 [.int .i64 n, .int .i64 lo, .int .i64 hi] w fun v w' => v = .bool (rinB n lo hi) ∧ Chg [] w w' := by
  refine q_of (Sat.nil w M0) Tryz.func63 rfl (by simp [Tryz.ntmps63]) ?_
  (refine q_seq (q_region (ql_pure tabOk rfl rfl (q_nil (q_seq (q_region ?_))))); (iterate 4 refine ql_pure tabOk rfl rfl ?_))
  refine ql_split rfl rfl (fun hc => ?_) (fun hc => ?_)
  · (refine ql_gyes rfl (ql_pure tabOk rfl rfl (ql_gyes rfl (ql_pure tabOk rfl rfl (ql_gyes rfl ?_)))); (iterate 3 refine ql_pure tabOk rfl rfl ?_); refine q_nil (q_ret ?_))
    refine q_fin tabOk rfl (by repeat (first | exact RVs.nil | apply RVs.tmp rfl | apply RVs.cellA rfl rfl (by repeat first | exact .head _ | refine .tail _ ?_) (by rfl) | apply RVs.cell1 rfl rfl (by repeat first | exact .head _ | refine .tail _ ?_))) fun w hs => ?_
    exact ⟨by simp at hc; simp [rinB, hc, retV], hs.chg0⟩
  · ((iterate 3 refine ql_gno rfl rfl rfl ?_); refine ql_pure tabOk rfl rfl (ql_pure tabOk rfl rfl (q_nil (q_ret ?_))))
    refine q_fin tabOk rfl (by repeat (first | exact RVs.nil | apply RVs.tmp rfl | apply RVs.cellA rfl rfl (by repeat first | exact .head _ | refine .tail _ ?_) (by rfl) | apply RVs.cell1 rfl rfl (by repeat first | exact .head _ | refine .tail _ ?_))) fun w hs => ?_
    exact ⟨by simp at hc; simp [rinB, retV]; omega, hs.chg0⟩
def hdB (h : Hd) : Bool := (rinB h.who 0 99 && rinB h.f 0 h.t) && decide (h.t ≤ 10000)
theorem hdB_iff {h : Hd} : hdB h = true ↔ (0 ≤ h.who ∧ h.who ≤ 99) ∧ (0 ≤ h.f ∧ h.f ≤ h.t) ∧ h.t ≤ 10000 := by
  unfold hdB
  rw [Bool.and_eq_true, Bool.and_eq_true, rinB_iff, rinB_iff, decide_eq_true_iff, and_assoc]
def pHd : Value → Bool
  | .agg cs => match cs.toList with
    | [.int _ a, .int _ b, .int _ c] => hdB ⟨a, b, c⟩
    | _ => false
  | _ => false
theorem pHd_all (l : List Hd) : (l.map hdV).all pHd = l.all hdB := by
  rw [List.all_map]
  rfl
/-- The error of a guard. -/
def chkG (L : List Hd) : Int := if L.length < 1 ∨ 30 < L.length then 2 else if L.all hdB = true then 0 else 3
structure GOk (L : List Hd) : Prop where
  n1 : 1 ≤ L.length
  n30 : L.length ≤ 30
  all : ∀ h ∈ L, (0 ≤ h.who ∧ h.who ≤ 99) ∧ (0 ≤ h.f ∧ h.f ≤ h.t) ∧ h.t ≤ 10000
theorem chkG_zero {L : List Hd} : chkG L = 0 ↔ GOk L := by
  unfold chkG
  constructor
  · intro h
    split at h
    · omega
    split at h
    · rename_i h1 h2
      exact ⟨by omega, by omega, fun x hx => hdB_iff.1 (List.all_eq_true.1 h2 x hx)⟩
    · omega
  · intro h
    have h1 := h.n1
    have h2 := h.n30
    rw [if_neg (by omega), if_pos (List.all_eq_true.2 fun x hx => hdB_iff.2 (h.all x hx))]
theorem checkG1_p (w : World) (l : List Hd) : PredAt Tryz.prog tab w (.func (.func 86) #[] #[]) (l.map hdV) pHd := by
  refine ⟨_, _, _, rfl, rfl, fun w' hw' x hx => ?_⟩
  obtain ⟨⟨x, y, z⟩, hy, rfl⟩ := List.mem_map.1 hx
  refine q_of (Sat.nil w' M0) Tryz.func86 rfl (by simp [Tryz.ntmps86]) ?_
  (refine q_seq (q_region ?_))
  refine ql_box rfl rfl (fun b1 => ?_)
  (refine ql_pure tabOk rfl rfl (q_nil (q_seq (q_region (ql_pure tabOk rfl rfl ?_)))); refine ql_loadB tabOk rfl rfl rfl (by repeat first | exact .head _ | refine .tail _ ?_) (by rfl) ?_)
  refine ql_callv (val := .bool (rinB x 0 99)) tabOk rfl rfl rfl rfl (fun w hs => ?_) ?_; exact rfin_ca x 0 99 w
  (refine ql_pure tabOk rfl rfl ?_)
  refine ql_split rfl rfl (fun hc => ?_) (fun hc => ?_)
  · (refine ql_gyes rfl (ql_pure tabOk rfl rfl (ql_gyes rfl ?_)); refine ql_loadB tabOk rfl rfl rfl (by repeat first | exact .head _ | refine .tail _ ?_) (by rfl) ?_; refine ql_gyes rfl (ql_pure tabOk rfl rfl (ql_gyes rfl ?_)); refine ql_loadB tabOk rfl rfl rfl (by repeat first | exact .head _ | refine .tail _ ?_) (by rfl) ?_; refine ql_gyes rfl ?_)
    refine ql_callv (val := .bool (rinB y 0 z)) tabOk rfl rfl rfl rfl (fun w hs => ?_) ?_; exact rfin_ca y 0 z w
    (refine ql_pure tabOk rfl rfl (ql_pure tabOk rfl rfl ?_))
    refine ql_split rfl rfl (fun hc => ?_) (fun hc => ?_)
    · (refine ql_gyes rfl (ql_pure tabOk rfl rfl (ql_gyes rfl ?_)); refine ql_loadB tabOk rfl rfl rfl (by repeat first | exact .head _ | refine .tail _ ?_) (by rfl) ?_; refine ql_gyes rfl ?_; (iterate 3 refine ql_pure tabOk rfl rfl ?_); refine q_nil (q_ret ?_))
      refine q_fin tabOk rfl (by repeat (first | exact RVs.nil | apply RVs.tmp rfl | apply RVs.cellA rfl rfl (by repeat first | exact .head _ | refine .tail _ ?_) (by rfl) | apply RVs.cell1 rfl rfl (by repeat first | exact .head _ | refine .tail _ ?_))) fun w hs => ?_
      exact ⟨by simp [retV, pHd, hdB, *], hs.chg0⟩
    · ((iterate 3 refine ql_gno rfl rfl rfl ?_); refine ql_pure tabOk rfl rfl (ql_pure tabOk rfl rfl (q_nil (q_ret ?_))))
      refine q_fin tabOk rfl (by repeat (first | exact RVs.nil | apply RVs.tmp rfl | apply RVs.cellA rfl rfl (by repeat first | exact .head _ | refine .tail _ ?_) (by rfl) | apply RVs.cell1 rfl rfl (by repeat first | exact .head _ | refine .tail _ ?_))) fun w hs => ?_
      exact ⟨by simp [retV, pHd, hdB, *], hs.chg0⟩
  · ((iterate 5 refine ql_gno rfl rfl rfl ?_); refine ql_pure tabOk rfl rfl (ql_pure tabOk rfl rfl ?_); (iterate 3 refine ql_gno rfl rfl rfl ?_); refine ql_pure tabOk rfl rfl (ql_pure tabOk rfl rfl (q_nil (q_ret ?_))))
    refine q_fin tabOk rfl (by repeat (first | exact RVs.nil | apply RVs.tmp rfl | apply RVs.cellA rfl rfl (by repeat first | exact .head _ | refine .tail _ ?_) (by rfl) | apply RVs.cell1 rfl rfl (by repeat first | exact .head _ | refine .tail _ ?_))) fun w hs => ?_
    exact ⟨by simp [retV, pHd, hdB, *], hs.chg0⟩
theorem checkG_ca (w : World) (lo hi : Nat) (L : List Hd) (v : Value) (h : RdH w lo hi v L) (hlen : L.length ≤ maxLen) : Ca Tryz.prog 62 [v] w fun x w' => x = .int .i64 (chkG L) ∧ Chg [] w w' := by
  obtain ⟨a, ca, rfl, hsa⟩ := RdH.outI h
  simp only [maxLen] at hlen
  refine q_of (Sat.nil w M0) Tryz.func62 rfl (by simp [Tryz.ntmps62]) ?_
  (refine q_seq (q_region (ql_pure tabOk rfl rfl (q_nil (q_seq (q_block (q_seq (q_region (ql_pure tabOk rfl rfl (ql_pure tabOk rfl rfl ?_))))))))))
  refine ql_callv (val := .bool (rinB L.length 1 30)) tabOk rfl rfl rfl rfl (fun w hs => ?_) ?_; exact rfin_ca L.length 1 30 w
  (refine ql_pure tabOk rfl rfl (ql_pure tabOk rfl rfl (q_nil ?_)))
  refine q_cond rfl (fun hc => ?_) (fun hc => ?_)
  · have hn : ¬ ((1 : Int) ≤ L.length ∧ (L.length : Int) ≤ 30) := by rw [← rinB_iff]; simpa using hc
    (refine q_seq (q_region (ql_pure tabOk rfl rfl (q_nil (q_ret ?_)))))
    refine q_fin tabOk rfl (by repeat (first | exact RVs.nil | apply RVs.tmp rfl | apply RVs.cellA rfl rfl (by repeat first | exact .head _ | refine .tail _ ?_) (by rfl) | apply RVs.cell1 rfl rfl (by repeat first | exact .head _ | refine .tail _ ?_))) fun w hs => ?_
    exact ⟨by simp only [retV, chkG]; rw [if_pos (by omega)], hs.chg0⟩
  · have hn := rinB_iff.1 (show rinB (L.length : Int) 1 30 = true by simpa using hc)
    (refine q_seq (q_region (ql_pure tabOk rfl rfl ?_)))
    refine ql_callv (val := .bool (L.all hdB)) tabOk rfl rfl rfl rfl (fun w hs => ?_) ?_; exact by have := all_hold w lo hi _ _ (L.map hdV) pHd (RdE.keep h hs.chg0) (hdV_agg L) (by rw [List.length_map]; omega) (checkG1_p w L); rw [pHd_all] at this; exact this
    (refine ql_pure tabOk rfl rfl (ql_pure tabOk rfl rfl (q_nil ?_)))
    refine q_cond rfl (fun hc => ?_) (fun hc => ?_)
    · (refine q_seq (q_region (ql_pure tabOk rfl rfl (q_nil (q_ret ?_)))))
      refine q_fin tabOk rfl (by repeat (first | exact RVs.nil | apply RVs.tmp rfl | apply RVs.cellA rfl rfl (by repeat first | exact .head _ | refine .tail _ ?_) (by rfl) | apply RVs.cell1 rfl rfl (by repeat first | exact .head _ | refine .tail _ ?_))) fun w hs => ?_
      exact ⟨by simp only [retV, chkG]; rw [if_neg (by omega), if_neg (by simpa using hc)], hs.chg0⟩
    · (refine q_skip (q_blk (q_seq (q_region (ql_pure tabOk rfl rfl (q_nil (q_ret ?_)))))))
      refine q_fin tabOk rfl (by repeat (first | exact RVs.nil | apply RVs.tmp rfl | apply RVs.cellA rfl rfl (by repeat first | exact .head _ | refine .tail _ ?_) (by rfl) | apply RVs.cell1 rfl rfl (by repeat first | exact .head _ | refine .tail _ ?_))) fun w hs => ?_
      exact ⟨by simp only [retV, chkG]; rw [if_neg (by omega), if_pos (by simpa using hc)], hs.chg0⟩
theorem covers_ca (h : Hd) (m : Int) (w : World) : Ca Tryz.prog 66 [hdV h, .int .i64 m] w fun x w' => x = .bool (h.cov m) ∧ Chg [] w w' := by
  refine q_of (Sat.nil w M0) Tryz.func66 rfl (by simp [Tryz.ntmps66]) ?_
  (refine q_seq (q_region ?_))
  refine ql_box rfl rfl (fun b2 => ?_)
  (refine ql_pure tabOk rfl rfl (q_nil (q_seq (q_region (ql_pure tabOk rfl rfl ?_)))); refine ql_loadB tabOk rfl rfl rfl (by repeat first | exact .head _ | refine .tail _ ?_) (by rfl) ?_; (iterate 3 refine ql_pure tabOk rfl rfl ?_))
  refine ql_split rfl rfl (fun hc => ?_) (fun hc => ?_)
  · have h1 : h.f ≤ m := by simpa using hc
    (refine ql_gyes rfl (ql_pure tabOk rfl rfl (ql_gyes rfl ?_)); refine ql_loadB tabOk rfl rfl rfl (by repeat first | exact .head _ | refine .tail _ ?_) (by rfl) ?_; refine ql_gyes rfl (ql_pure tabOk rfl rfl (ql_gyes rfl ?_)); (iterate 3 refine ql_pure tabOk rfl rfl ?_); refine q_nil (q_ret ?_))
    refine q_fin tabOk rfl (by repeat (first | exact RVs.nil | apply RVs.tmp rfl | apply RVs.cellA rfl rfl (by repeat first | exact .head _ | refine .tail _ ?_) (by rfl) | apply RVs.cell1 rfl rfl (by repeat first | exact .head _ | refine .tail _ ?_))) fun w hs => ?_
    exact ⟨by simp [retV, Hd.cov, h1, gt_iff_lt], hs.chg0⟩
  · have h1 : ¬ h.f ≤ m := by simpa using hc
    ((iterate 4 refine ql_gno rfl rfl rfl ?_); refine ql_pure tabOk rfl rfl (ql_pure tabOk rfl rfl (q_nil (q_ret ?_))))
    refine q_fin tabOk rfl (by repeat (first | exact RVs.nil | apply RVs.tmp rfl | apply RVs.cellA rfl rfl (by repeat first | exact .head _ | refine .tail _ ?_) (by rfl) | apply RVs.cell1 rfl rfl (by repeat first | exact .head _ | refine .tail _ ?_))) fun w hs => ?_
    exact ⟨by simp [retV, Hd.cov]; omega, hs.chg0⟩
/-- Two holds are compared by their ends. -/
def endK (L : List Hd) (i : Int) : Int := (hdL L i.toNat).t
theorem links1_ca (w : World) (lo hi b n c : Nat) (a : Option Addr) (L : List Hd) (h : RdH w lo hi (.slice a n c) L) (hb : Blk w b [.slice a n c] 89) (hL : ∀ h ∈ L, 0 ≤ h.t ∧ h.t ≤ 10000) (i j : Nat) (hi' : i < L.length) (hj : j < L.length) : Ca Tryz.prog 65 [.int .i64 i, .int .i64 j, .pointer (some ⟨b, 0, none⟩)] w fun x w' => x = .int .i64 (endK L j - endK L i) ∧ Chg [] w w' := by
  obtain ⟨a', c', e0, hsa⟩ := RdH.outI h
  cases e0
  obtain ⟨ab, ao, rfl⟩ := hsa (by omega)
  have e1 : endK L i = L[i].t := by
    unfold endK hdL
    rw [Int.toNat_natCast, List.getD_eq_getElem?_getD, List.getElem?_eq_getElem hi', Option.getD_some]
  have e2 : endK L j = L[j].t := by
    unfold endK hdL
    rw [Int.toNat_natCast, List.getD_eq_getElem?_getD, List.getElem?_eq_getElem hj, Option.getD_some]
  have b1 := hL _ (List.getElem_mem hi')
  have b2 := hL _ (List.getElem_mem hj)
  rw [e1, e2]
  refine q_of (Sat.nil w M0) Tryz.func65 rfl (by simp [Tryz.ntmps65]) ?_
  (refine q_seq (q_region (ql_pure tabOk rfl rfl (q_nil (q_seq ?_)))))
  refine q_draw _ [] (Sp.refl _) (by kernel_rfl) (by kernel_rfl) ?_
  (refine qf_loadP tabOk rfl rfl rfl (by assumption) (by rfl) ?_; refine qf_pure tabOk rfl rfl rfl ?_)
  refine qf_index tabOk rfl rfl rfl rfl rfl (by omega) (by omega) ?_
  (refine qf_pure tabOk rfl rfl rfl ?_)
  refine qf_load1 (v := .int .i64 L[j].t) tabOk rfl rfl rfl (fun w hs => RdH.at2 (RdE.keep h hs.chg0) j hj) ?_
  (refine qf_loadP tabOk rfl rfl rfl (by assumption) (by rfl) ?_; refine qf_pure tabOk rfl rfl rfl ?_)
  refine qf_index tabOk rfl rfl rfl rfl rfl (by omega) (by omega) ?_
  (refine qf_pure tabOk rfl rfl rfl ?_)
  refine qf_load1 (v := .int .i64 L[i].t) tabOk rfl rfl rfl (fun w hs => RdH.at2 (RdE.keep h hs.chg0) i hi') ?_
  (refine qf_ar tabOk rfl rfl rfl rfl (by omega) (by omega) (qf_pure tabOk rfl rfl rfl (qf_nil (q_ret ?_))))
  refine q_fin tabOk rfl (by repeat (first | exact RVs.nil | apply RVs.tmp rfl | apply RVs.cellA rfl rfl (by repeat first | exact .head _ | refine .tail _ ?_) (by rfl) | apply RVs.cell1 rfl rfl (by repeat first | exact .head _ | refine .tail _ ?_))) fun w hs => ?_
  exact ⟨rfl, hs.chg0⟩
end Go.Proofs.YtpknmgafambmbaaGreat

/- Taken over from rifle,ski: what F4:gap_ok,F19:Blk.rdH' reach. Written by graft.py. -/
/- long -/
namespace Go.Proofs.YtpknmgafambmbaaGreat
open Go Go.Eng
-- rifle/R10.lean
section
theorem gD_set {l : List Int} {i k : Nat} {x : Int} (hi : i < l.length) : (l.set i x).getD k 0 = if i = k then x else l.getD k 0 := by
  rw [List.getD_eq_getElem?_getD, List.getElem?_set, List.getD_eq_getElem?_getD]
  by_cases e : i = k
  · subst e
    simp [hi]
  · simp [e]
def swL (l : List Int) (i j : Nat) : List Int := (l.set i (l.getD j 0)).set j (l.getD i 0)
theorem swL_at {l : List Int} {i j : Nat} (hi : i < l.length) (hj : j < l.length) (k : Nat) : (swL l i j).getD k 0 = if j = k then l.getD i 0 else if i = k then l.getD j 0 else l.getD k 0 := by
  unfold swL
  rw [gD_set (by simpa using hj), gD_set hi]
theorem swL_perm {l : List Int} {i j : Nat} (hi : i < l.length) (hj : j < l.length) : (swL l i j).Perm l := by
  unfold swL
  have e1 : l.getD j 0 = l[j] := by rw [List.getD_eq_getElem?_getD, List.getElem?_eq_getElem hj]; rfl
  have e2 : l.getD i 0 = l[i] := by rw [List.getD_eq_getElem?_getD, List.getElem?_eq_getElem hi]; rfl
  rw [e1, e2]
  exact List.set_set_perm hi hj
/-- A list changed within a part of it. -/
structure Seg (l L : List Int) (a b : Nat) : Prop where
  perm : L.Perm l
  out : ∀ k, k < a ∨ b ≤ k → L.getD k 0 = l.getD k 0
  mem : ∀ k, a ≤ k → k < b → ∃ j, (a ≤ j ∧ j < b) ∧ L.getD k 0 = l.getD j 0
theorem Seg.refl (l : List Int) (a b : Nat) : Seg l l a b := ⟨.refl _, fun _ _ => rfl, fun k h1 h2 => ⟨k, ⟨h1, h2⟩, rfl⟩⟩
theorem Seg.trans {l L M : List Int} {a b : Nat} (h : Seg l L a b) (g : Seg L M a b) : Seg l M a b :=
  ⟨g.perm.trans h.perm, fun k hk => (g.out k hk).trans (h.out k hk), fun k h1 h2 => by
    obtain ⟨j, ⟨h3, h4⟩, e⟩ := g.mem k h1 h2
    obtain ⟨i, h5, e2⟩ := h.mem j h3 h4
    exact ⟨i, h5, e.trans e2⟩⟩
theorem Seg.wide {l L : List Int} {a b a' b' : Nat} (h : Seg l L a b) (ha : a' ≤ a) (hb : b ≤ b') : Seg l L a' b' :=
  ⟨h.perm, fun k hk => h.out k (by omega), fun k h1 h2 => by
    by_cases c : a ≤ k ∧ k < b
    · obtain ⟨j, h3, e⟩ := h.mem k c.1 c.2
      exact ⟨j, by omega, e⟩
    · exact ⟨k, ⟨h1, h2⟩, h.out k (by omega)⟩⟩
theorem Seg.len {l L : List Int} {a b : Nat} (h : Seg l L a b) : L.length = l.length := h.perm.length_eq
theorem Seg.sw {l : List Int} {a b i j : Nat} (hi : a ≤ i ∧ i < b) (hj : a ≤ j ∧ j < b) (hb : b ≤ l.length) : Seg l (swL l i j) a b :=
  ⟨swL_perm (by omega) (by omega), fun k hk => by rw [swL_at (by omega) (by omega), if_neg (by omega), if_neg (by omega)], fun k h1 h2 => by
    rw [swL_at (by omega) (by omega)]
    by_cases c1 : j = k
    · rw [if_pos c1]; exact ⟨i, hi, rfl⟩
    · rw [if_neg c1]
      by_cases c2 : i = k
      · rw [if_pos c2]; exact ⟨j, hj, rfl⟩
      · rw [if_neg c2]; exact ⟨k, ⟨h1, h2⟩, rfl⟩⟩
/-- Where an element comes from when two parts are exchanged. -/
def swP (a b n k : Nat) : Nat := if a ≤ k ∧ k < a + n then k + (b - a) else if b ≤ k ∧ k < b + n then k - (b - a) else k
theorem swP_zero (a b k : Nat) : swP a b 0 k = k := by
  unfold swP
  rw [if_neg (by omega), if_neg (by omega)]
theorem swP_next {l L : List Int} {a b n : Nat} (hab : a + (n + 1) ≤ b) (hb : b + n < L.length) (h : ∀ k, L.getD k 0 = l.getD (swP a b n k) 0) (k : Nat) : (swL L (a + n) (b + n)).getD k 0 = l.getD (swP a b (n + 1) k) 0 := by
  rw [swL_at (by omega) (by omega), h, h, h]
  by_cases c1 : b + n = k
  · rw [if_pos c1]
    congr 1
    unfold swP
    rw [if_neg (by omega), if_neg (by omega), if_neg (by omega), if_pos (by omega)]
    omega
  · rw [if_neg c1]
    by_cases c2 : a + n = k
    · rw [if_pos c2]
      congr 1
      unfold swP
      rw [if_neg (by omega), if_neg (by omega), if_pos (by omega)]
      omega
    · rw [if_neg c2]
      congr 1
      unfold swP
      by_cases c3 : a ≤ k ∧ k < a + n
      · rw [if_pos c3, if_pos (by omega)]
      · rw [if_neg c3, if_neg (show ¬ (a ≤ k ∧ k < a + (n + 1)) by omega)]
        by_cases c4 : b ≤ k ∧ k < b + n
        · rw [if_pos c4, if_pos (by omega)]
        · rw [if_neg c4, if_neg (by omega)]
/-- Where an element comes from when a part is turned round a place. -/
def roP (a m b k : Nat) : Nat := if a ≤ k ∧ k < a + (b - m) then k + (m - a) else if a + (b - m) ≤ k ∧ k < b then k - (b - m) else k
theorem ro_gt {m i j : Nat} (hi : i ≤ m) (hj : 0 < j) (h : j < i) (k : Nat) : swP (m - i) m j (roP (m - (i - j)) m (m + j) k) = roP (m - i) m (m + j) k := by
  unfold roP
  by_cases c1 : m - i ≤ k ∧ k < m - i + (m + j - m)
  · rw [if_pos c1, if_neg (by omega), if_neg (by omega)]
    unfold swP
    rw [if_pos (by omega)]
  · rw [if_neg c1]
    by_cases c2 : m - i + (m + j - m) ≤ k ∧ k < m + j
    · rw [if_pos c2]
      by_cases c3 : m - (i - j) ≤ k ∧ k < m - (i - j) + (m + j - m)
      · rw [if_pos c3]
        unfold swP
        rw [if_neg (by omega), if_pos (by omega)]
        omega
      · rw [if_neg c3, if_pos (by omega)]
        unfold swP
        rw [if_neg (by omega), if_neg (by omega)]
    · rw [if_neg c2, if_neg (by omega), if_neg (by omega)]
      unfold swP
      rw [if_neg (by omega), if_neg (by omega)]
theorem ro_lt {m i j : Nat} (hi : i ≤ m) (h0 : 0 < i) (h : i < j) (k : Nat) : swP (m - i) (m + j - i) i (roP (m - i) m (m + (j - i)) k) = roP (m - i) m (m + j) k := by
  unfold roP
  by_cases c1 : m - i ≤ k ∧ k < m - i + (m + j - m)
  · rw [if_pos c1]
    by_cases c3 : m - i ≤ k ∧ k < m - i + (m + (j - i) - m)
    · rw [if_pos c3]
      unfold swP
      rw [if_neg (by omega), if_neg (by omega)]
    · rw [if_neg c3, if_pos (by omega)]
      unfold swP
      rw [if_pos (by omega)]
      omega
  · rw [if_neg c1]
    by_cases c2 : m - i + (m + j - m) ≤ k ∧ k < m + j
    · rw [if_pos c2, if_neg (by omega), if_neg (by omega)]
      unfold swP
      rw [if_neg (by omega), if_pos (by omega)]
      omega
    · rw [if_neg c2, if_neg (by omega), if_neg (by omega)]
      unfold swP
      rw [if_neg (by omega), if_neg (by omega)]
theorem ro_eq {m i : Nat} (hi : i ≤ m) (k : Nat) : swP (m - i) m i k = roP (m - i) m (m + i) k := by
  unfold swP
  by_cases c1 : m - i ≤ k ∧ k < m - i + i
  · rw [if_pos c1]
    unfold roP
    rw [if_pos (by omega)]
  · rw [if_neg c1]
    by_cases c2 : m ≤ k ∧ k < m + i
    · rw [if_pos c2]
      unfold roP
      rw [if_neg (by omega), if_pos (by omega)]
      omega
    · rw [if_neg c2]
      unfold roP
      rw [if_neg (by omega), if_neg (by omega)]
theorem ro_id {s m e k : Nat} (h : s ≤ m ∧ m ≤ e) (h2 : s = m ∨ m = e) : roP s m e k = k := by
  unfold roP
  by_cases c1 : s ≤ k ∧ k < s + (e - m)
  · rw [if_pos c1]; omega
  · rw [if_neg c1]
    by_cases c2 : s + (e - m) ≤ k ∧ k < e
    · rw [if_pos c2]; omega
    · rw [if_neg c2]
/-- Sorted, within a part. -/
def SrW (key : Int → Int) (L : List Int) (a b : Nat) : Prop := ∀ p q, a ≤ p → p ≤ q → q < b → key (L.getD p 0) ≤ key (L.getD q 0)
section
variable {key : Int → Int} {l L : List Int} {a s m e b : Nat}
theorem SrW.sub (h : SrW key L a b) {a' b' : Nat} (ha : a ≤ a') (hb : b' ≤ b) : SrW key L a' b' := fun p q h1 h2 h3 => h p q (by omega) h2 (by omega)
theorem SrW.out (h : SrW key l a b) {x y : Nat} (hs : Seg l L x y) (hxy : b ≤ x ∨ y ≤ a) : SrW key L a b := fun p q h1 h2 h3 => by
  rw [hs.out p (by omega), hs.out q (by omega)]
  exact h p q h1 h2 h3
theorem SrW.one (h : b ≤ a + 1) : SrW key L a b := fun p q h1 h2 h3 => by
  obtain rfl : p = q := by omega
  exact Int.le_refl _
/-- A part that was turned round: its four runs. -/
structure Rot (l L : List Int) (a s m e b : Nat) : Prop where
  le1 : a ≤ s
  le2 : s ≤ m
  le3 : m ≤ e
  le4 : e ≤ b
  at_ : ∀ k, L.getD k 0 = l.getD (roP s m e k) 0
theorem Rot.r1 (h : Rot l L a s m e b) {k : Nat} (hk : k < s) : L.getD k 0 = l.getD k 0 := by
  rw [h.at_]; unfold roP; rw [if_neg (by omega), if_neg (by omega)]
theorem Rot.r2 (h : Rot l L a s m e b) {k : Nat} (h1 : s ≤ k) (h2 : k < s + (e - m)) : L.getD k 0 = l.getD (k + (m - s)) 0 := by
  rw [h.at_]; unfold roP; rw [if_pos ⟨h1, h2⟩]
theorem Rot.r3 (h : Rot l L a s m e b) {k : Nat} (h1 : s + (e - m) ≤ k) (h2 : k < e) : L.getD k 0 = l.getD (k - (e - m)) 0 := by
  rw [h.at_]; unfold roP; rw [if_neg (by omega), if_pos ⟨h1, h2⟩]
theorem Rot.r4 (h : Rot l L a s m e b) {k : Nat} (h1 : e ≤ k) : L.getD k 0 = l.getD k 0 := by
  have := h.le2
  have := h.le3
  rw [h.at_]; unfold roP; rw [if_neg (by omega), if_neg (by omega)]
theorem Rot.s1 (h : Rot l L a s m e b) (h1 : SrW key l a m) : SrW key L a s := fun p q g1 g2 g3 => by
  have := h.le2
  rw [h.r1 (by omega), h.r1 g3]
  exact h1 p q g1 g2 (by omega)
theorem Rot.s2 (h : Rot l L a s m e b) (h2 : SrW key l m b) : SrW key L s (s + (e - m)) := fun p q g1 g2 g3 => by
  have := h.le1
  have := h.le2
  have := h.le3
  have := h.le4
  rw [h.r2 g1 (by omega), h.r2 (by omega) g3]
  exact h2 _ _ (by omega) (by omega) (by omega)
theorem Rot.s3 (h : Rot l L a s m e b) (h1 : SrW key l a m) : SrW key L (s + (e - m)) e := fun p q g1 g2 g3 => by
  have := h.le1
  have := h.le2
  have := h.le3
  rw [h.r3 g1 (by omega), h.r3 (by omega) g3]
  exact h1 _ _ (by omega) (by omega) (by omega)
theorem Rot.s4 (h : Rot l L a s m e b) (h2 : SrW key l m b) : SrW key L e b := fun p q g1 g2 g3 => by
  have := h.le3
  rw [h.r4 g1, h.r4 (by omega)]
  exact h2 _ _ (by omega) (by omega) (by omega)
/-- What lies left of the middle is not greater than what lies right of it. -/
theorem Rot.cross (h : Rot l L a s m e b) (h1 : SrW key l a m) (h2 : SrW key l m b) (c1 : s = a ∨ e = b ∨ key (l.getD (s - 1) 0) ≤ key (l.getD e 0)) (c2 : s = m ∨ e = m ∨ key (l.getD (e - 1) 0) < key (l.getD s 0)) {p q : Nat} (hp : a ≤ p ∧ p < s + (e - m)) (hq : s + (e - m) ≤ q ∧ q < b) : key (L.getD p 0) ≤ key (L.getD q 0) := by
  have g1 := h.le1
  have g2 := h.le2
  have g3 := h.le3
  have g4 := h.le4
  by_cases cp : p < s
  · rw [h.r1 cp]
    by_cases cq : q < e
    · rw [h.r3 hq.1 cq]
      exact h1 _ _ hp.1 (by omega) (by omega)
    · rw [h.r4 (by omega)]
      have d : key (l.getD (s - 1) 0) ≤ key (l.getD e 0) := by
        rcases c1 with c | c | c
        · omega
        · omega
        · exact c
      have d1 := h1 p (s - 1) hp.1 (by omega) (by omega)
      have d2 := h2 e q (by omega) (by omega) hq.2
      omega
  · rw [h.r2 (by omega) hp.2]
    by_cases cq : q < e
    · rw [h.r3 hq.1 cq]
      have d : key (l.getD (e - 1) 0) < key (l.getD s 0) := by
        rcases c2 with c | c | c
        · omega
        · omega
        · exact c
      have d1 := h2 (p + (m - s)) (e - 1) (by omega) (by omega) (by omega)
      have d2 := h1 s (q - (e - m)) (by omega) (by omega) (by omega)
      omega
    · rw [h.r4 (by omega)]
      exact h2 _ _ (by omega) (by omega) hq.2
theorem srt_join {mid : Nat} (hl : SrW key L a mid) (hr : SrW key L mid b) (hx : ∀ p q, a ≤ p → p < mid → mid ≤ q → q < b → key (L.getD p 0) ≤ key (L.getD q 0)) : SrW key L a b := fun p q h1 h2 h3 => by
  by_cases c1 : q < mid
  · exact hl p q h1 h2 c1
  · by_cases c2 : p < mid
    · exact hx p q h1 c2 (by omega) h3
    · exact hr p q (by omega) h2 h3
/-- Both halves sorted by themselves. -/
theorem seg_join {M N : List Int} {mid : Nat} (hx : ∀ p q, a ≤ p → p < mid → mid ≤ q → q < b → key (L.getD p 0) ≤ key (L.getD q 0)) (h1 : Seg L M a mid) (h2 : Seg M N mid b) (s1 : SrW key M a mid) (s2 : SrW key N mid b) : SrW key N a b :=
  srt_join (s1.out h2 (.inl (Nat.le_refl _))) s2 fun p q g1 g2 g3 g4 => by
    rw [h2.out p (.inl g2)]
    obtain ⟨p', hp', e1⟩ := h1.mem p g1 g2
    obtain ⟨q', hq', e2⟩ := h2.mem q g3 g4
    rw [e1, e2, h1.out q' (.inr hq'.1)]
    exact hx p' q' hp'.1 hp'.2 hq'.1 hq'.2
/-- The first element alone is put into its place. -/
theorem Rot.first {i : Nat} (h : Rot l L a a (a + 1) i b) (h2 : SrW key l (a + 1) b) (c1 : i = a + 1 ∨ key (l.getD (i - 1) 0) < key (l.getD a 0)) (c2 : i = b ∨ key (l.getD a 0) ≤ key (l.getD i 0)) : SrW key L a b := by
  have g3 := h.le3
  have g4 := h.le4
  have h1 : SrW key l a (a + 1) := .one (Nat.le_refl _)
  refine srt_join (mid := i) (srt_join (mid := a + (i - (a + 1))) (h.s2 h2) (h.s3 h1) fun p q x1 x2 x3 x4 => ?_) (h.s4 h2) fun p q x1 x2 x3 x4 => ?_
  · rw [h.r2 x1 x2, h.r3 x3 x4]
    have d1 := h2 (p + (a + 1 - a)) (i - 1) (by omega) (by omega) (by omega)
    have e : q - (i - (a + 1)) = a := by omega
    rw [e]
    rcases c1 with c | c
    · omega
    · omega
  · rw [h.r4 x3]
    have hi : ¬ i = b := by omega
    have d2 := h2 i q g3 x3 x4
    have c2 := c2.resolve_left hi
    by_cases c : p < a + (i - (a + 1))
    · rw [h.r2 x1 c]
      exact h2 _ _ (by omega) (by omega) x4
    · rw [h.r3 (by omega) x2]
      have e : p - (i - (a + 1)) = a := by omega
      rw [e]
      omega
/-- The last element alone is put into its place. -/
theorem Rot.last {i : Nat} (h : Rot l L a i m (m + 1) (m + 1)) (h1 : SrW key l a m) (c1 : i = a ∨ key (l.getD (i - 1) 0) ≤ key (l.getD m 0)) (c2 : i = m ∨ key (l.getD m 0) < key (l.getD i 0)) : SrW key L a (m + 1) := by
  have g1 := h.le1
  have g2 := h.le2
  have h2 : SrW key l m (m + 1) := .one (Nat.le_refl _)
  refine srt_join (mid := i) (h.s1 h1) (srt_join (mid := i + (m + 1 - m)) (h.s2 h2) (h.s3 h1) fun p q x1 x2 x3 x4 => ?_) fun p q x1 x2 x3 x4 => ?_
  · rw [h.r2 x1 x2, h.r3 x3 x4]
    have e : p + (m - i) = m := by omega
    rw [e]
    have d := h1 i (q - (m + 1 - m)) (by omega) (by omega) (by omega)
    rcases c2 with c | c
    · omega
    · omega
  · rw [h.r1 x2]
    have hi : ¬ i = a := by omega
    have c1 := c1.resolve_left hi
    have d := h1 p (i - 1) x1 (by omega) (by omega)
    by_cases c : q < i + (m + 1 - m)
    · rw [h.r2 x3 c]
      have e : q + (m - i) = m := by omega
      rw [e]
      omega
    · rw [h.r3 (by omega) x4]
      exact h1 _ _ x1 (by omega) (by omega)
end
/-- The first element moved on by one. -/
theorem mv_first {l L : List Int} {a k : Nat} (ha : a ≤ k) (hk : k + 1 < L.length) (h : ∀ x, L.getD x 0 = l.getD (roP a (a + 1) (k + 1) x) 0) (x : Nat) : (swL L k (k + 1)).getD x 0 = l.getD (roP a (a + 1) (k + 1 + 1) x) 0 := by
  rw [swL_at (by omega) (by omega), h, h, h]
  unfold roP
  by_cases c1 : k + 1 = x
  · rw [if_pos c1, if_neg (by omega), if_pos (by omega), if_neg (by omega), if_pos (by omega)]
    congr 1; omega
  · rw [if_neg c1]
    by_cases c2 : k = x
    · rw [if_pos c2, if_neg (by omega), if_neg (by omega), if_pos (by omega)]
      congr 1; omega
    · rw [if_neg c2]
      by_cases c3 : a ≤ x ∧ x < a + (k + 1 - (a + 1))
      · rw [if_pos c3, if_pos (by omega)]
      · rw [if_neg c3, if_neg (by omega), if_neg (by omega), if_neg (by omega)]
/-- The last element moved back by one. -/
theorem mv_last {l L : List Int} {m k : Nat} (hk : k + 1 ≤ m) (hm : m < L.length) (h : ∀ x, L.getD x 0 = l.getD (roP (k + 1) m (m + 1) x) 0) (x : Nat) : (swL L (k + 1) k).getD x 0 = l.getD (roP k m (m + 1) x) 0 := by
  rw [swL_at (by omega) (by omega), h, h, h]
  unfold roP
  by_cases c1 : k = x
  · rw [if_pos c1, if_pos (by omega), if_pos (by omega)]
    congr 1; omega
  · rw [if_neg c1]
    by_cases c2 : k + 1 = x
    · rw [if_pos c2, if_neg (by omega), if_neg (by omega), if_neg (by omega), if_pos (by omega)]
      congr 1; omega
    · rw [if_neg c2]
      by_cases c3 : k + 1 ≤ x ∧ x < k + 1 + (m + 1 - m)
      · omega
      · rw [if_neg c3, if_neg (show ¬ (k ≤ x ∧ x < k + (m + 1 - m)) by omega)]
        by_cases c4 : k + 1 + (m + 1 - m) ≤ x ∧ x < m + 1
        · rw [if_pos c4, if_pos (by omega)]
        · rw [if_neg c4, if_neg (by omega)]
/-- All is sorted up to a place but for one element, which is smaller than all behind it. -/
structure rInsJ (key : Int → Int) (C : List Int) (a i j : Nat) : Prop where
  ji : a ≤ j ∧ j ≤ i
  srt : ∀ p q, a ≤ p → p ≤ q → q ≤ i → p ≠ j → q ≠ j → key (C.getD p 0) ≤ key (C.getD q 0)
  low : ∀ q, j < q → q ≤ i → key (C.getD j 0) ≤ key (C.getD q 0)
theorem rInsJ.start {key : Int → Int} {C : List Int} {a i : Nat} (h : SrW key C a i) (ha : a ≤ i) : rInsJ key C a i i :=
  ⟨⟨ha, Nat.le_refl _⟩, fun p q h1 h2 h3 h4 h5 => h p q h1 h2 (by omega), fun q h1 h2 => by omega⟩
theorem rInsJ.close {key : Int → Int} {C : List Int} {a i j : Nat} (h : rInsJ key C a i j) (hj : j = a ∨ key (C.getD (j - 1) 0) ≤ key (C.getD j 0)) : SrW key C a (i + 1) := fun p q h1 h2 h3 => by
  have hji := h.ji
  by_cases c1 : q = j
  · by_cases c2 : p = q
    · rw [c2]; exact Int.le_refl _
    · have hj := hj.resolve_left (by omega)
      by_cases c3 : p = j - 1
      · rw [c3, c1]; exact hj
      · have := h.srt p (j - 1) h1 (by omega) (by omega) (by omega) (by omega)
        rw [c1]; omega
  · by_cases c2 : p = j
    · rw [c2]; exact h.low q (by omega) (by omega)
    · exact h.srt p q h1 h2 (by omega) c2 c1
theorem rInsJ.swap {key : Int → Int} {C : List Int} {a i j : Nat} (h : rInsJ key C a i (j + 1)) (ha : a ≤ j) (hi : i < C.length) (hlt : key (C.getD (j + 1) 0) < key (C.getD j 0)) : rInsJ key (swL C (j + 1) j) a i j := by
  have hji := h.ji
  have at_ := fun k => swL_at (l := C) (i := j + 1) (j := j) (by omega) (by omega) k
  refine ⟨by omega, fun p q h1 h2 h3 h4 h5 => ?_, fun q h1 h2 => ?_⟩
  · rw [at_, at_, if_neg (Ne.symm h4), if_neg (Ne.symm h5)]
    by_cases c1 : j + 1 = p
    · rw [if_pos c1]
      by_cases c2 : j + 1 = q
      · rw [if_pos c2]; exact Int.le_refl _
      · rw [if_neg c2]; exact h.srt j q ha (by omega) h3 (by omega) (by omega)
    · rw [if_neg c1]
      by_cases c2 : j + 1 = q
      · rw [if_pos c2]; exact h.srt p j h1 (by omega) (by omega) (by omega) (by omega)
      · rw [if_neg c2]; exact h.srt p q h1 h2 h3 (by omega) (by omega)
  · rw [at_, at_, if_pos rfl, if_neg (by omega)]
    by_cases c2 : j + 1 = q
    · rw [if_pos c2]; omega
    · rw [if_neg c2]; exact h.low q (by omega) h2
end
set_option maxHeartbeats 4000000 in
theorem swr_ca (w : World) (g c : Nat) (l : List Int) (a b n lo hi : Nat) (cmp : Value) (h1 : lo ≤ a) (h2 : a + n ≤ b) (h3 : b + n ≤ hi) (h4 : hi ≤ l.length) (hl : l.length ≤ 1000) (hb : w.ownsRow 0 3 1 (.slice (some ⟨g, 0, none⟩) l.length c) l.length (ints l)) :
    Ca Tryz.prog 134 [.slice (some ⟨g, 0, none⟩) l.length c, .int .i64 a, .int .i64 b, .int .i64 n, cmp] w fun v w' => ∃ L : List Int, (v = .tuple #[] ∧ Seg l L lo hi ∧ ∀ k, L.getD k 0 = l.getD (swP a b n k) 0) ∧ Sat w (fun x => x = g) [.ow (.slice (some ⟨g, 0, none⟩) l.length c) 3 1 l.length (ints L)] w' := by
  refine q_of (Sat.own0 hb) Tryz.func134 rfl (by simp [Tryz.ntmps134]) ?_
  (refine q_seq (q_region (ql_pure tabOk rfl rfl (q_nil (q_block ?_)))))
  refine q_loop (σ := Nat × List Int) (fun s => s.1 ≤ n ∧ Seg l s.2 lo hi ∧ ∀ k, s.2.getD k 0 = l.getD (swP a b s.1 k) 0) (fun s => n - s.1) (fun s => [(0, .slice (some ⟨g, 0, none⟩) l.length c), (1, .int .i64 a), (2, .int .i64 b), (3, .int .i64 n), (10, .int .i64 s.1)])
    (fun s => [.ow (.slice (some ⟨g, 0, none⟩) l.length c) 3 1 l.length (ints s.2)]) (0, l) ⟨by simp, .refl _ _ _, fun k => by rw [swP_zero]⟩ ⟨rfl, rfl, rfl, rfl, rfl, trivial⟩ (by repeat (first | exact Sp.nil | exact Sp.refl _ | refine Sp.cons (by repeat constructor) ?_)) ?_
  rintro ⟨i, L⟩ ⟨hi1, hS, hA⟩ K hK
  simp only at hi1 hS hA
  dsimp only
  have hlen : L.length = l.length := hS.len
  (refine q_seq (q_seq (q_region ?_)); (iterate 3 refine ql_pure tabOk rfl rfl ?_); refine q_nil ?_)
  refine q_if rfl (fun hc => ?_) (fun hc => ?_)
  · have hi2 : i < n := by omega
    clear hc
    have y1 : a + i < L.length := by omega
    have y2 : b + i < L.length := by omega
    (refine q_skip (q_seq (q_block ?_)))
    refine q_drawB [true, true, true, true, false, false, false, false, true, true, true, true, true, true, true, true, true, true, true, true, false, false, false, false] [] [.ow (.slice (some ⟨g, 0, none⟩) l.length c) 3 1 l.length (ints L)] (by repeat (first | exact Sp.nil | exact Sp.refl _ | refine Sp.cons (by repeat constructor) ?_)) (by kernel_rfl) (by kernel_rfl) (by kernel_rfl) ?_
    refine qb_T 4 rfl rfl (Sp.refl _) fun K1 hK1 => ?_
    ((iterate 3 refine qf_pure tabOk rfl rfl rfl ?_); refine qf_ar tabOk rfl rfl rfl rfl (by omega) (by omega) (qf_nil ?_))
    refine hK1 _ _ (qb_F 4 [.ow (.slice (some ⟨g, 0, none⟩) l.length c) 3 1 l.length (ints L)] rfl rfl (by repeat (first | exact Sp.nil | exact Sp.refl _ | refine Sp.cons (by repeat constructor) ?_)) fun K1 hK1 => ?_)
    ((iterate 3 refine qf_pure tabOk rfl rfl rfl ?_); refine qf_ar tabOk rfl rfl rfl rfl (by omega) (by omega) (qf_nil ?_))
    refine hK1 _ _ (qb_T 12 rfl rfl (by repeat (first | exact Sp.nil | exact Sp.refl _ | refine Sp.cons (by repeat constructor) ?_)) fun K1 hK1 => ?_)
    ((iterate 3 refine qf_pure tabOk rfl rfl rfl ?_); refine qf_ar tabOk rfl rfl rfl rfl (by omega) (by omega) ?_)
    rw [show (b : Int) + i = (b + i : Nat) from by omega]
    (refine qf_index tabOk rfl rfl rfl rfl rfl (by omega) (by omega) ?_; refine qf_load1 tabOk rfl rfl rfl (fun w hs => RdI.at (hs.rdI (l := L) (t := 3) (n := l.length) (by repeat first | exact .head _ | refine .tail _ ?_) hlen.symm) (b + i) y2) ?_)
    ((iterate 3 refine qf_pure tabOk rfl rfl rfl ?_); refine qf_ar tabOk rfl rfl rfl rfl (by omega) (by omega) ?_)
    rw [show (a : Int) + i = (a + i : Nat) from by omega]
    (refine qf_index tabOk rfl rfl rfl rfl rfl (by omega) (by omega) ?_; refine qf_load1 tabOk rfl rfl rfl (fun w hs => RdI.at (hs.rdI (l := L) (t := 3) (n := l.length) (by repeat first | exact .head _ | refine .tail _ ?_) hlen.symm) (a + i) y1) ?_)
    (refine qf_nil ?_)
    refine hK1 _ _ (qb_F 4 [.ow (.slice (some ⟨g, 0, none⟩) l.length c) 3 1 l.length (ints L)] rfl rfl (by repeat (first | exact Sp.nil | exact Sp.refl _ | refine Sp.cons (by repeat constructor) ?_)) fun K1 hK1 => ?_)
    skip
    refine qf_index tabOk rfl rfl rfl rfl rfl (by omega) (by omega) ?_
    refine qf_storeW tabOk (a + i) rfl rfl rfl rfl (by repeat constructor) (by omega) (by simpa using y1) ?_
    skip
    refine qf_index tabOk rfl rfl rfl rfl rfl (by omega) (by omega) ?_
    refine qf_storeW tabOk (b + i) rfl rfl rfl rfl (by repeat constructor) (by omega) (by simpa using y2) ?_
    rw [set_ints, set_ints]
    (refine qf_nil ?_)
    refine hK1 _ _ (qb_nil ?_)
    have e : (L.set (a + i) L[b + i]).set (b + i) L[a + i] = swL L (a + i) (b + i) := by
      unfold swL
      rw [getD_get y1, getD_get y2]
    rw [e]
    (refine q_blk (q_region (ql_pure tabOk rfl rfl (ql_ar tabOk rfl rfl rfl rfl (by omega) (by omega) (ql_pure tabOk rfl rfl (q_nil ?_))))))
    exact hK (i + 1, _) _ _ ⟨by simp only; omega, hS.trans (.sw (by omega) (by omega) (by omega)), swP_next (by omega) y2 hA⟩ (by simp only; omega) ⟨rfl, rfl, rfl, rfl, rfl, trivial⟩ (by repeat (first | exact Sp.nil | exact Sp.refl _ | refine Sp.cons (by repeat constructor) ?_))
  · obtain rfl : i = n := by omega
    (refine q_exit _ rfl ?_)
    refine q_end tabOk rfl (by repeat (first | exact RVs.nil | apply RVs.tmp rfl | apply RVs.cellA rfl rfl (by repeat first | exact .head _ | refine .tail _ ?_) (by rfl) | apply RVs.cell1 rfl rfl (by repeat first | exact .head _ | refine .tail _ ?_))) fun w hs => ?_
    exact ⟨L, ⟨rfl, hS, hA⟩, hs⟩
set_option maxHeartbeats 4000000 in
theorem rot_ca (w : World) (g c : Nat) (l : List Int) (a m b lo hi : Nat) (cmp : Value) (h0 : lo ≤ a) (h1 : a < m) (h2 : m < b) (h3 : b ≤ hi) (h4 : hi ≤ l.length) (hl : l.length ≤ 1000) (hb : w.ownsRow 0 3 1 (.slice (some ⟨g, 0, none⟩) l.length c) l.length (ints l)) :
    Ca Tryz.prog 120 [.slice (some ⟨g, 0, none⟩) l.length c, .int .i64 a, .int .i64 m, .int .i64 b, cmp] w fun v w' => ∃ L : List Int, (v = .tuple #[] ∧ Seg l L lo hi ∧ ∀ k, L.getD k 0 = l.getD (roP a m b k) 0) ∧ Sat w (fun x => x = g) [.ow (.slice (some ⟨g, 0, none⟩) l.length c) 3 1 l.length (ints L)] w' := by
  refine q_of (Sat.own0 hb) Tryz.func120 rfl (by simp [Tryz.ntmps120]) ?_
  (refine q_seq (q_region (ql_pure tabOk rfl rfl (ql_pure tabOk rfl rfl (ql_ar tabOk rfl rfl rfl rfl (by omega) (by omega) (ql_pure tabOk rfl rfl (q_nil (q_seq (q_region (ql_pure tabOk rfl rfl (ql_pure tabOk rfl rfl (ql_ar tabOk rfl rfl rfl rfl (by omega) (by omega) ?_))))))))))); refine ql_pure tabOk rfl rfl (q_nil (q_seq (q_block ?_))))
  refine q_loop (σ := Nat × Nat × List Int) (fun ⟨i, j, C⟩ => (0 < i ∧ 0 < j ∧ a + i ≤ m ∧ m + j ≤ b) ∧ Seg l C lo hi ∧ ∀ k, C.getD (roP (m - i) m (m + j) k) 0 = l.getD (roP a m b k) 0) (fun ⟨i, j, _⟩ => i + j) (fun ⟨i, j, C⟩ => [(0, .slice (some ⟨g, 0, none⟩) l.length c), (2, .int .i64 m), (4, cmp), (10, .int .i64 i), (11, .int .i64 j)])
    (fun ⟨i, j, C⟩ => [.ow (.slice (some ⟨g, 0, none⟩) l.length c) 3 1 l.length (ints C)]) (m - a, b - m, l) ⟨by omega, .refl _ _ _, fun k => by rw [show m - (m - a) = a from by omega, show m + (b - m) = b from by omega]⟩ ⟨rfl, rfl, rfl, lookI rfl (by omega), lookI rfl (by omega), trivial⟩ (by repeat (first | exact Sp.nil | exact Sp.refl _ | refine Sp.cons (by repeat constructor) ?_)) ?_
  rintro ⟨i, j, C⟩ ⟨⟨p1, p2, p3, p4⟩, hS, hA⟩ K hK
  dsimp only at p1 p2 p3 p4 hS hA hK ⊢
  have hlen : C.length = l.length := hS.len
  have hmi : (m : Int) - i = (m - i : Nat) := by omega
  by_cases cij : i = j
  · subst cij
    (refine q_seq (q_seq (q_region (ql_pure tabOk rfl rfl (ql_pure tabOk rfl rfl (ql_neqF tabOk rfl rfl rfl (by omega) (q_nil (q_cond_false rfl (q_exit _ rfl (q_region ?_))))))))); (iterate 3 refine ql_pure tabOk rfl rfl ?_); refine ql_ar tabOk rfl rfl rfl rfl (by omega) (by omega) ?_; (iterate 3 refine ql_pure tabOk rfl rfl ?_))
    rw [hmi]
    refine ql_call (β := List Int) (ψ := fun D v => v = .tuple #[] ∧ Seg C D lo hi ∧ ∀ k, D.getD k 0 = C.getD (swP (m - i) (m) (i) k) 0) (L' := fun D => [.ow (.slice (some ⟨g, 0, none⟩) l.length c) 3 1 l.length (ints D)]) tabOk [.ow (.slice (some ⟨g, 0, none⟩) l.length c) 3 1 l.length (ints C)] _ (fun x => x = g) rfl rfl rfl rfl (Sp.cons (by repeat constructor) (Sp.refl _)) (fun x hx => ⟨_, .head _, by subst hx; rfl⟩) (fun w' hs => by have := swr_ca w' g c C (m - i) (m) (i) lo hi cmp (by omega) (by omega) (by omega) (by omega) (by omega) (by rw [hlen]; exact hs.all _ (.head _)); rw [hlen] at this; exact this) ?_
    rintro D _ ⟨rfl, hD, hDA⟩
    dsimp only [List.cons_append, List.nil_append]
    (refine q_nil ?_)
    refine q_end tabOk rfl (by repeat (first | exact RVs.nil | apply RVs.tmp rfl | apply RVs.cellA rfl rfl (by repeat first | exact .head _ | refine .tail _ ?_) (by rfl) | apply RVs.cell1 rfl rfl (by repeat first | exact .head _ | refine .tail _ ?_))) fun w hs => ?_
    exact ⟨D, ⟨rfl, hS.trans hD, fun k => by rw [hDA, ro_eq (by omega), hA]⟩, hs⟩
  · by_cases cg : j < i
    · (refine q_seq (q_seq (q_region (ql_pure tabOk rfl rfl (ql_pure tabOk rfl rfl (ql_neqT tabOk rfl rfl rfl (by omega) (q_nil (q_cond_true rfl (q_skip (q_block (q_seq (q_region ?_))))))))))); refine ql_pure tabOk rfl rfl (ql_pure tabOk rfl rfl (ql_gtrT tabOk rfl rfl rfl (by omega) (q_nil (q_cond_true rfl (q_seq (q_region ?_)))))); (iterate 3 refine ql_pure tabOk rfl rfl ?_); refine ql_ar tabOk rfl rfl rfl rfl (by omega) (by omega) ?_; (iterate 3 refine ql_pure tabOk rfl rfl ?_))
      rw [hmi]
      refine ql_call (β := List Int) (ψ := fun D v => v = .tuple #[] ∧ Seg C D lo hi ∧ ∀ k, D.getD k 0 = C.getD (swP (m - i) (m) (j) k) 0) (L' := fun D => [.ow (.slice (some ⟨g, 0, none⟩) l.length c) 3 1 l.length (ints D)]) tabOk [.ow (.slice (some ⟨g, 0, none⟩) l.length c) 3 1 l.length (ints C)] _ (fun x => x = g) rfl rfl rfl rfl (Sp.cons (by repeat constructor) (Sp.refl _)) (fun x hx => ⟨_, .head _, by subst hx; rfl⟩) (fun w' hs => by have := swr_ca w' g c C (m - i) (m) (j) lo hi cmp (by omega) (by omega) (by omega) (by omega) (by omega) (by rw [hlen]; exact hs.all _ (.head _)); rw [hlen] at this; exact this) ?_
      rintro D _ ⟨rfl, hD, hDA⟩
      dsimp only [List.cons_append, List.nil_append]
      (refine q_nil (q_region (ql_pure tabOk rfl rfl (ql_pure tabOk rfl rfl (ql_ar tabOk rfl rfl rfl rfl (by omega) (by omega) (ql_pure tabOk rfl rfl (q_nil (q_blk ?_))))))))
      exact hK (i - j, j, D) _ _ ⟨by dsimp only; omega, hS.trans hD, fun k => by rw [hDA, ro_gt (by omega) p2 cg, hA]⟩ (by dsimp only; omega) ⟨rfl, rfl, rfl, lookI rfl (by dsimp only; omega), rfl, trivial⟩ (by repeat (first | exact Sp.nil | exact Sp.refl _ | refine Sp.cons (by repeat constructor) ?_))
    · have hmj : (m : Int) + j - i = (m + j - i : Nat) := by omega
      (refine q_seq (q_seq (q_region (ql_pure tabOk rfl rfl (ql_pure tabOk rfl rfl (ql_neqT tabOk rfl rfl rfl (by omega) (q_nil (q_cond_true rfl (q_skip (q_block (q_seq (q_region ?_))))))))))); refine ql_pure tabOk rfl rfl (ql_pure tabOk rfl rfl (ql_gtrF tabOk rfl rfl rfl (by omega) (q_nil (q_cond_false rfl (q_seq (q_region ?_)))))); (iterate 3 refine ql_pure tabOk rfl rfl ?_); refine ql_ar tabOk rfl rfl rfl rfl (by omega) (by omega) (ql_pure tabOk rfl rfl (ql_pure tabOk rfl rfl (ql_ar tabOk rfl rfl rfl rfl (by omega) (by omega) (ql_pure tabOk rfl rfl (ql_ar tabOk rfl rfl rfl rfl (by omega) (by omega) (ql_pure tabOk rfl rfl (ql_pure tabOk rfl rfl ?_))))))))
      rw [hmi, hmj]
      refine ql_call (β := List Int) (ψ := fun D v => v = .tuple #[] ∧ Seg C D lo hi ∧ ∀ k, D.getD k 0 = C.getD (swP (m - i) (m + j - i) (i) k) 0) (L' := fun D => [.ow (.slice (some ⟨g, 0, none⟩) l.length c) 3 1 l.length (ints D)]) tabOk [.ow (.slice (some ⟨g, 0, none⟩) l.length c) 3 1 l.length (ints C)] _ (fun x => x = g) rfl rfl rfl rfl (Sp.cons (by repeat constructor) (Sp.refl _)) (fun x hx => ⟨_, .head _, by subst hx; rfl⟩) (fun w' hs => by have := swr_ca w' g c C (m - i) (m + j - i) (i) lo hi cmp (by omega) (by omega) (by omega) (by omega) (by omega) (by rw [hlen]; exact hs.all _ (.head _)); rw [hlen] at this; exact this) ?_
      rintro D _ ⟨rfl, hD, hDA⟩
      dsimp only [List.cons_append, List.nil_append]
      (refine q_nil (q_region (ql_pure tabOk rfl rfl (ql_pure tabOk rfl rfl (ql_ar tabOk rfl rfl rfl rfl (by omega) (by omega) (ql_pure tabOk rfl rfl (q_nil (q_blk ?_))))))))
      exact hK (i, j - i, D) _ _ ⟨by dsimp only; omega, hS.trans hD, fun k => by rw [hDA, ro_lt (by omega) p1 (by omega), hA]⟩ (by dsimp only; omega) ⟨rfl, rfl, rfl, rfl, lookI rfl (by dsimp only; omega), trivial⟩ (by repeat (first | exact Sp.nil | exact Sp.refl _ | refine Sp.cons (by repeat constructor) ?_))
set_option maxHeartbeats 8000000 in
theorem symM_ca (g c0 N : Nat) (B : List Int) (key : Int → Int) (cmp : Value) (cf : Int → Int → Int) (hcf : ∀ x ∈ B, ∀ y ∈ B, (cf x y < 0 ↔ key x < key y)) (hN : N ≤ 1000) :
    ∀ (d : Nat) (w : World) (l : List Int) (a m b : Nat), b - a ≤ d → a < m → m < b → b ≤ N → l.length = N → (∀ x ∈ l, x ∈ B) → CmpS w g cmp cf B → SrW key l a m → SrW key l m b → w.ownsRow 0 3 1 (.slice (some ⟨g, 0, none⟩) N c0) N (ints l) →
    Ca Tryz.prog 112 [(.slice (some ⟨g, 0, none⟩) N c0), .int .i64 a, .int .i64 m, .int .i64 b, cmp] w fun v w' => ∃ L : List Int, (v = .tuple #[] ∧ Seg l L a b ∧ SrW key L a b) ∧ Sat w (fun x => x = g) [.ow (.slice (some ⟨g, 0, none⟩) N c0) 3 1 N (ints L)] w' := by
  intro d
  induction d with
  | zero => intro w l a m b h1 h2 h3; omega
  | succ d ih =>
    intro w l a m b hd ham hmb hbN hln hB hcmp hs1 hs2 hb
    refine q_of (Sat.own0 hb) Tryz.func112 rfl (by simp [Tryz.ntmps112]) ?_
    by_cases hm1 : m = a + 1
    · subst hm1
      (refine q_seq (q_seq (q_region (ql_pure tabOk rfl rfl (ql_pure tabOk rfl rfl (ql_ar tabOk rfl rfl rfl rfl (by omega) (by omega) (ql_eqlT tabOk rfl rfl rfl (by omega) (q_nil (q_cond_true rfl (q_seq (q_region (ql_pure tabOk rfl rfl ?_))))))))))); refine ql_pure tabOk rfl rfl (q_nil (q_seq (q_region (ql_pure tabOk rfl rfl (ql_pure tabOk rfl rfl (q_nil (q_seq (q_block ?_)))))))))
      refine q_loop (σ := Nat × Nat) (fun ⟨i, j⟩ => (a + 1 ≤ i ∧ i ≤ j ∧ j ≤ b) ∧ (i = a + 1 ∨ key (l.getD (i - 1) 0) < key (l.getD a 0)) ∧ (j = b ∨ key (l.getD a 0) ≤ key (l.getD j 0))) (fun ⟨i, j⟩ => j - i) (fun ⟨i, j⟩ => [(0, (.slice (some ⟨g, 0, none⟩) N c0)), (1, .int .i64 a), (4, cmp), (10, .int .i64 i), (11, .int .i64 j)]) (fun _ => [.ow (.slice (some ⟨g, 0, none⟩) N c0) 3 1 N (ints l)]) (a + 1, b) ⟨by omega, .inl rfl, .inl rfl⟩ ⟨rfl, rfl, rfl, lookI rfl (by omega), rfl, trivial⟩ (by repeat (first | exact Sp.nil | exact Sp.refl _ | refine Sp.cons (by repeat constructor) ?_)) ?_
      rintro ⟨i, j⟩ ⟨⟨p1, p2, p3⟩, c1, c2⟩ K hK
      dsimp only at p1 p2 p3 c1 c2 hK ⊢
      (refine q_seq (q_seq (q_region ?_)); (iterate 3 refine ql_pure tabOk rfl rfl ?_); refine q_nil ?_)
      refine q_if rfl (fun hc => ?_) (fun hc => ?_)
      · have hij : i < j := by omega
        clear hc
        obtain ⟨h, hh⟩ : ∃ h : Nat, (h : Int) = ((i : Int) + j) / 2 := ⟨(i + j) / 2, by omega⟩
        (refine q_skip (q_block (q_seq (q_region (ql_pure tabOk rfl rfl (ql_pure tabOk rfl rfl (ql_ar tabOk rfl rfl rfl rfl (by omega) (by omega) (ql_pure tabOk rfl rfl ?_))))))))
        rw [wu64 (by omega) (by omega)]
        refine ql_shrU rfl rfl ?_
        rw [← hh]
        (refine ql_pure tabOk rfl rfl (ql_pure tabOk rfl rfl (q_nil (q_seq ?_))))
        rw [w64 (by omega) (by omega)]
        have y1 : h < l.length := by omega
        have y2 : a < l.length := by omega
        skip
        refine q_draw _ [] (Sp.refl _) (by kernel_rfl) (by kernel_rfl) ?_
        ((iterate 3 refine qf_pure tabOk rfl rfl rfl ?_))
        refine qf_index tabOk rfl rfl rfl rfl rfl (by omega) (by omega) ?_
        skip
        refine qf_load1 (v := .int .i64 l[h]) tabOk rfl rfl rfl (fun w hs => RdI.at (hs.rdI (v := (.slice (some ⟨g, 0, none⟩) N c0)) (l := l) (t := 3) (n := N) (by repeat first | exact .head _ | refine .tail _ ?_) hln.symm) (h) y1) ?_
        (refine qf_pure tabOk rfl rfl rfl (qf_pure tabOk rfl rfl rfl ?_))
        refine qf_index tabOk rfl rfl rfl rfl rfl (by omega) (by omega) ?_
        skip
        refine qf_load1 (v := .int .i64 l[a]) tabOk rfl rfl rfl (fun w hs => RdI.at (hs.rdI (v := (.slice (some ⟨g, 0, none⟩) N c0)) (l := l) (t := 3) (n := N) (by repeat first | exact .head _ | refine .tail _ ?_) hln.symm) (a) y2) ?_
        skip
        refine qf_callFv rfl rfl rfl (fun w' hs => hcmp w' hs.chg _ (hB _ (List.getElem_mem y1)) _ (hB _ (List.getElem_mem y2))) ?_
        have hcj : cf l[h] l[a] < 0 ↔ key (l.getD (h) 0) < key (l.getD (a) 0) := by
          rw [getD_get y1, getD_get y2]
          exact hcf _ (hB _ (List.getElem_mem y1)) _ (hB _ (List.getElem_mem y2))
        by_cases hlt : cf l[h] l[a] < 0
        · (refine qf_lssT tabOk rfl rfl rfl (by omega) (qf_nil (q_cond_true rfl (q_region (ql_pure tabOk rfl rfl (ql_ar tabOk rfl rfl rfl rfl (by omega) (by omega) (ql_pure tabOk rfl rfl (q_nil (q_blk ?_)))))))))
          exact hK (h + 1, j) _ _ ⟨by dsimp only; omega, .inr (hcj.1 hlt), c2⟩ (by dsimp only; omega) ⟨rfl, rfl, rfl, lookI rfl (by dsimp only; omega), rfl, trivial⟩ (by repeat (first | exact Sp.nil | exact Sp.refl _ | refine Sp.cons (by repeat constructor) ?_))
        · (refine qf_lssF tabOk rfl rfl rfl (by omega) (qf_nil (q_cond_false rfl (q_region (ql_pure tabOk rfl rfl (ql_pure tabOk rfl rfl (q_nil (q_blk ?_))))))))
          exact hK (i, h) _ _ ⟨by dsimp only; omega, c1, .inr (Int.not_lt.1 fun e => hlt (hcj.2 e))⟩ (by dsimp only; omega) ⟨rfl, rfl, rfl, rfl, rfl, trivial⟩ (by repeat (first | exact Sp.nil | exact Sp.refl _ | refine Sp.cons (by repeat constructor) ?_))
      · obtain rfl : i = j := by omega
        clear hc hK
        (refine q_exit _ rfl (q_seq (q_seq (q_region (ql_pure tabOk rfl rfl (ql_pure tabOk rfl rfl (q_nil (q_block ?_))))))))
        refine q_loop (σ := Nat × List Int) (fun ⟨k, C⟩ => (a ≤ k ∧ k + 1 ≤ i) ∧ Seg l C a b ∧ ∀ x, C.getD x 0 = l.getD (roP a (a + 1) (k + 1) x) 0) (fun ⟨k, _⟩ => i - k) (fun ⟨k, C⟩ => [(0, (.slice (some ⟨g, 0, none⟩) N c0)), (10, .int .i64 i), (13, .int .i64 k)]) (fun ⟨k, C⟩ => [.ow (.slice (some ⟨g, 0, none⟩) N c0) 3 1 N (ints C)]) (a, l) ⟨by omega, .refl _ _ _, fun x => by rw [ro_id ⟨by omega, Nat.le_refl _⟩ (.inr rfl)]⟩ ⟨rfl, rfl, rfl, trivial⟩ (by repeat (first | exact Sp.nil | exact Sp.refl _ | refine Sp.cons (by repeat constructor) ?_)) ?_
        rintro ⟨k, C⟩ ⟨⟨q1, q2⟩, hS, hA⟩ K hK
        dsimp only at q1 q2 hS hA hK ⊢
        have hlen : C.length = N := by rw [hS.len, hln]
        (refine q_seq (q_seq (q_region (ql_pure tabOk rfl rfl (ql_pure tabOk rfl rfl (ql_ar tabOk rfl rfl rfl rfl (by omega) (by omega) (ql_pure tabOk rfl rfl (q_nil ?_))))))))
        refine q_if rfl (fun hc => ?_) (fun hc => ?_)
        · have hki : k + 1 < i := by omega
          clear hc
          have y1 : k < C.length := by omega
          have y2 : k + 1 < C.length := by omega
          have hk1 : (k : Int) + 1 = (k + 1 : Nat) := by omega
          (refine q_skip (q_seq (q_block ?_)))
          refine q_drawB [true, true, false, false, false, true, true, true, true, true, true, true, true, true, false, false, false, false] [] [.ow (.slice (some ⟨g, 0, none⟩) N c0) 3 1 N (ints C)] (by repeat (first | exact Sp.nil | exact Sp.refl _ | refine Sp.cons (by repeat constructor) ?_)) (by kernel_rfl) (by kernel_rfl) (by kernel_rfl) ?_
          refine qb_T 2 rfl rfl (Sp.refl _) fun K1 hK1 => ?_
          (refine qf_pure tabOk rfl rfl rfl (qf_pure tabOk rfl rfl rfl (qf_nil ?_)))
          refine hK1 _ _ (qb_F 3 [.ow (.slice (some ⟨g, 0, none⟩) N c0) 3 1 N (ints C)] rfl rfl (by repeat (first | exact Sp.nil | exact Sp.refl _ | refine Sp.cons (by repeat constructor) ?_)) fun K1 hK1 => ?_)
          (refine qf_pure tabOk rfl rfl rfl (qf_pure tabOk rfl rfl rfl (qf_ar tabOk rfl rfl rfl rfl (by omega) (by omega) (qf_nil ?_))))
          refine hK1 _ _ (qb_T 9 rfl rfl (by repeat (first | exact Sp.nil | exact Sp.refl _ | refine Sp.cons (by repeat constructor) ?_)) fun K1 hK1 => ?_)
          (refine qf_pure tabOk rfl rfl rfl (qf_pure tabOk rfl rfl rfl (qf_ar tabOk rfl rfl rfl rfl (by omega) (by omega) ?_)))
          rw [hk1]
          (refine qf_index tabOk rfl rfl rfl rfl rfl (by omega) (by omega) ?_; refine qf_load1 tabOk rfl rfl rfl (fun w hs => RdI.at (hs.rdI (l := C) (t := 3) (n := N) (by repeat first | exact .head _ | refine .tail _ ?_) hlen.symm) (k + 1) y2) ?_)
          (refine qf_pure tabOk rfl rfl rfl (qf_pure tabOk rfl rfl rfl ?_))
          (refine qf_index tabOk rfl rfl rfl rfl rfl (by omega) (by omega) ?_; refine qf_load1 tabOk rfl rfl rfl (fun w hs => RdI.at (hs.rdI (l := C) (t := 3) (n := N) (by repeat first | exact .head _ | refine .tail _ ?_) hlen.symm) (k) y1) ?_)
          (refine qf_nil ?_)
          refine hK1 _ _ (qb_F 4 [.ow (.slice (some ⟨g, 0, none⟩) N c0) 3 1 N (ints C)] rfl rfl (by repeat (first | exact Sp.nil | exact Sp.refl _ | refine Sp.cons (by repeat constructor) ?_)) fun K1 hK1 => ?_)
          skip
          refine qf_index tabOk rfl rfl rfl rfl rfl (by omega) (by omega) ?_
          refine qf_storeW tabOk (k) rfl rfl rfl rfl (by repeat constructor) (by omega) (by simpa using y1) ?_
          skip
          refine qf_index tabOk rfl rfl rfl rfl rfl (by omega) (by omega) ?_
          refine qf_storeW tabOk (k + 1) rfl rfl rfl rfl (by repeat constructor) (by omega) (by simpa using y2) ?_
          rw [set_ints, set_ints]
          (refine qf_nil ?_)
          refine hK1 _ _ (qb_nil ?_)
          have e : (C.set (k) C[k + 1]).set (k + 1) C[k] = swL C (k) (k + 1) := by
            unfold swL
            rw [getD_get y1, getD_get y2]
          rw [e]
          (refine q_blk (q_region (ql_pure tabOk rfl rfl (ql_ar tabOk rfl rfl rfl rfl (by omega) (by omega) (ql_pure tabOk rfl rfl (q_nil ?_))))))
          exact hK (k + 1, _) _ _ ⟨by dsimp only; omega, hS.trans (.sw (by omega) (by omega) (by omega)), mv_first q1 y2 hA⟩ (by dsimp only; omega) ⟨rfl, rfl, rfl, trivial⟩ (by repeat (first | exact Sp.nil | exact Sp.refl _ | refine Sp.cons (by repeat constructor) ?_))
        · have hki : k + 1 = i := by omega
          clear hc hK
          (refine q_exit _ rfl (q_ret ?_))
          refine q_fin tabOk rfl (by repeat (first | exact RVs.nil | apply RVs.tmp rfl | apply RVs.cellA rfl rfl (by repeat first | exact .head _ | refine .tail _ ?_) (by rfl) | apply RVs.cell1 rfl rfl (by repeat first | exact .head _ | refine .tail _ ?_))) fun w hs => ?_
          have hR : Rot l C a a (a + 1) i b := ⟨Nat.le_refl _, by omega, p1, p3, fun x => by rw [hA, hki]⟩
          exact ⟨C, ⟨rfl, hS, hR.first hs2 c1 c2⟩, hs⟩
    by_cases hb1 : b = m + 1
    · subst hb1
      (refine q_seq (q_seq (q_region (ql_pure tabOk rfl rfl (ql_pure tabOk rfl rfl (ql_ar tabOk rfl rfl rfl rfl (by omega) (by omega) (ql_eqlF tabOk rfl rfl rfl (by omega) (q_nil (q_cond_false rfl (q_skip (q_seq (q_seq ?_))))))))))); refine q_region (ql_pure tabOk rfl rfl (ql_pure tabOk rfl rfl (ql_ar tabOk rfl rfl rfl rfl (by omega) (by omega) (ql_eqlT tabOk rfl rfl rfl (by omega) (q_nil (q_cond_true rfl (q_seq (q_region (ql_pure tabOk rfl rfl (ql_pure tabOk rfl rfl (q_nil ?_))))))))))); refine q_seq (q_region (ql_pure tabOk rfl rfl (ql_pure tabOk rfl rfl (q_nil (q_seq (q_block ?_)))))))
      refine q_loop (σ := Nat × Nat) (fun ⟨i, j⟩ => (a ≤ i ∧ i ≤ j ∧ j ≤ m) ∧ (i = a ∨ key (l.getD (i - 1) 0) ≤ key (l.getD m 0)) ∧ (j = m ∨ key (l.getD m 0) < key (l.getD j 0))) (fun ⟨i, j⟩ => j - i) (fun ⟨i, j⟩ => [(0, (.slice (some ⟨g, 0, none⟩) N c0)), (2, .int .i64 m), (4, cmp), (14, .int .i64 i), (15, .int .i64 j)]) (fun _ => [.ow (.slice (some ⟨g, 0, none⟩) N c0) 3 1 N (ints l)]) (a, m) ⟨by omega, .inl rfl, .inl rfl⟩ ⟨rfl, rfl, rfl, rfl, rfl, trivial⟩ (by repeat (first | exact Sp.nil | exact Sp.refl _ | refine Sp.cons (by repeat constructor) ?_)) ?_
      rintro ⟨i, j⟩ ⟨⟨p1, p2, p3⟩, c1, c2⟩ K hK
      dsimp only at p1 p2 p3 c1 c2 hK ⊢
      (refine q_seq (q_seq (q_region ?_)); (iterate 3 refine ql_pure tabOk rfl rfl ?_); refine q_nil ?_)
      refine q_if rfl (fun hc => ?_) (fun hc => ?_)
      · have hij : i < j := by omega
        clear hc
        obtain ⟨h, hh⟩ : ∃ h : Nat, (h : Int) = ((i : Int) + j) / 2 := ⟨(i + j) / 2, by omega⟩
        (refine q_skip (q_block (q_seq (q_region (ql_pure tabOk rfl rfl (ql_pure tabOk rfl rfl (ql_ar tabOk rfl rfl rfl rfl (by omega) (by omega) (ql_pure tabOk rfl rfl ?_))))))))
        rw [wu64 (by omega) (by omega)]
        refine ql_shrU rfl rfl ?_
        rw [← hh]
        (refine ql_pure tabOk rfl rfl (ql_pure tabOk rfl rfl (q_nil (q_seq ?_))))
        rw [w64 (by omega) (by omega)]
        have y1 : m < l.length := by omega
        have y2 : h < l.length := by omega
        skip
        refine q_draw _ [] (Sp.refl _) (by kernel_rfl) (by kernel_rfl) ?_
        ((iterate 3 refine qf_pure tabOk rfl rfl rfl ?_))
        refine qf_index tabOk rfl rfl rfl rfl rfl (by omega) (by omega) ?_
        skip
        refine qf_load1 (v := .int .i64 l[m]) tabOk rfl rfl rfl (fun w hs => RdI.at (hs.rdI (v := (.slice (some ⟨g, 0, none⟩) N c0)) (l := l) (t := 3) (n := N) (by repeat first | exact .head _ | refine .tail _ ?_) hln.symm) (m) y1) ?_
        (refine qf_pure tabOk rfl rfl rfl (qf_pure tabOk rfl rfl rfl ?_))
        refine qf_index tabOk rfl rfl rfl rfl rfl (by omega) (by omega) ?_
        skip
        refine qf_load1 (v := .int .i64 l[h]) tabOk rfl rfl rfl (fun w hs => RdI.at (hs.rdI (v := (.slice (some ⟨g, 0, none⟩) N c0)) (l := l) (t := 3) (n := N) (by repeat first | exact .head _ | refine .tail _ ?_) hln.symm) (h) y2) ?_
        skip
        refine qf_callFv rfl rfl rfl (fun w' hs => hcmp w' hs.chg _ (hB _ (List.getElem_mem y1)) _ (hB _ (List.getElem_mem y2))) ?_
        have hcj : cf l[m] l[h] < 0 ↔ key (l.getD (m) 0) < key (l.getD (h) 0) := by
          rw [getD_get y1, getD_get y2]
          exact hcf _ (hB _ (List.getElem_mem y1)) _ (hB _ (List.getElem_mem y2))
        by_cases hlt : cf l[m] l[h] < 0
        · (refine qf_lssT tabOk rfl rfl rfl (by omega) (qf_pure tabOk rfl rfl rfl (qf_nil (q_cond_false rfl (q_region (ql_pure tabOk rfl rfl (ql_pure tabOk rfl rfl (q_nil (q_blk ?_)))))))))
          exact hK (i, h) _ _ ⟨by dsimp only; omega, c1, .inr (hcj.1 hlt)⟩ (by dsimp only; omega) ⟨rfl, rfl, rfl, rfl, rfl, trivial⟩ (by repeat (first | exact Sp.nil | exact Sp.refl _ | refine Sp.cons (by repeat constructor) ?_))
        · (refine qf_lssF tabOk rfl rfl rfl (by omega) (qf_pure tabOk rfl rfl rfl (qf_nil (q_cond_true rfl (q_region (ql_pure tabOk rfl rfl (ql_ar tabOk rfl rfl rfl rfl (by omega) (by omega) (ql_pure tabOk rfl rfl (q_nil (q_blk ?_))))))))))
          exact hK (h + 1, j) _ _ ⟨by dsimp only; omega, .inr (Int.not_lt.1 fun e => hlt (hcj.2 e)), c2⟩ (by dsimp only; omega) ⟨rfl, rfl, rfl, lookI rfl (by dsimp only; omega), rfl, trivial⟩ (by repeat (first | exact Sp.nil | exact Sp.refl _ | refine Sp.cons (by repeat constructor) ?_))
      · obtain rfl : i = j := by omega
        clear hc hK
        (refine q_exit _ rfl (q_seq (q_seq (q_region (ql_pure tabOk rfl rfl (ql_pure tabOk rfl rfl (q_nil (q_block ?_))))))))
        refine q_loop (σ := Nat × List Int) (fun ⟨k, C⟩ => (i ≤ k ∧ k ≤ m) ∧ Seg l C a (m + 1) ∧ ∀ x, C.getD x 0 = l.getD (roP k m (m + 1) x) 0) (fun ⟨k, _⟩ => k - i) (fun ⟨k, C⟩ => [(0, (.slice (some ⟨g, 0, none⟩) N c0)), (14, .int .i64 i), (17, .int .i64 k)]) (fun ⟨k, C⟩ => [.ow (.slice (some ⟨g, 0, none⟩) N c0) 3 1 N (ints C)]) (m, l) ⟨by omega, .refl _ _ _, fun x => by rw [ro_id ⟨Nat.le_refl _, by omega⟩ (.inl rfl)]⟩ ⟨rfl, rfl, rfl, trivial⟩ (by repeat (first | exact Sp.nil | exact Sp.refl _ | refine Sp.cons (by repeat constructor) ?_)) ?_
        rintro ⟨k, C⟩ ⟨⟨q1, q2⟩, hS, hA⟩ K hK
        dsimp only at q1 q2 hS hA hK ⊢
        have hlen : C.length = N := by rw [hS.len, hln]
        (refine q_seq (q_seq (q_region ?_)); (iterate 3 refine ql_pure tabOk rfl rfl ?_); refine q_nil ?_)
        refine q_if rfl (fun hc => ?_) (fun hc => ?_)
        · have hki : i < k := by omega
          clear hc
          obtain ⟨r, rfl⟩ : ∃ r, k = r + 1 := ⟨k - 1, by omega⟩
          have y1 : r + 1 < C.length := by omega
          have y2 : r < C.length := by omega
          have hk1 : ((r + 1 : Nat) : Int) - 1 = r := by omega
          (refine q_skip (q_seq (q_block ?_)))
          refine q_drawB [true, true, false, false, false, true, true, true, true, true, true, true, true, true, false, false, false, false] [] [.ow (.slice (some ⟨g, 0, none⟩) N c0) 3 1 N (ints C)] (by repeat (first | exact Sp.nil | exact Sp.refl _ | refine Sp.cons (by repeat constructor) ?_)) (by kernel_rfl) (by kernel_rfl) (by kernel_rfl) ?_
          refine qb_T 2 rfl rfl (Sp.refl _) fun K1 hK1 => ?_
          (refine qf_pure tabOk rfl rfl rfl (qf_pure tabOk rfl rfl rfl (qf_nil ?_)))
          refine hK1 _ _ (qb_F 3 [.ow (.slice (some ⟨g, 0, none⟩) N c0) 3 1 N (ints C)] rfl rfl (by repeat (first | exact Sp.nil | exact Sp.refl _ | refine Sp.cons (by repeat constructor) ?_)) fun K1 hK1 => ?_)
          (refine qf_pure tabOk rfl rfl rfl (qf_pure tabOk rfl rfl rfl (qf_ar tabOk rfl rfl rfl rfl (by omega) (by omega) (qf_nil ?_))))
          refine hK1 _ _ (qb_T 9 rfl rfl (by repeat (first | exact Sp.nil | exact Sp.refl _ | refine Sp.cons (by repeat constructor) ?_)) fun K1 hK1 => ?_)
          (refine qf_pure tabOk rfl rfl rfl (qf_pure tabOk rfl rfl rfl (qf_ar tabOk rfl rfl rfl rfl (by omega) (by omega) ?_)))
          rw [hk1]
          (refine qf_index tabOk rfl rfl rfl rfl rfl (by omega) (by omega) ?_; refine qf_load1 tabOk rfl rfl rfl (fun w hs => RdI.at (hs.rdI (l := C) (t := 3) (n := N) (by repeat first | exact .head _ | refine .tail _ ?_) hlen.symm) (r) y2) ?_)
          (refine qf_pure tabOk rfl rfl rfl (qf_pure tabOk rfl rfl rfl ?_))
          (refine qf_index tabOk rfl rfl rfl rfl rfl (by omega) (by omega) ?_; refine qf_load1 tabOk rfl rfl rfl (fun w hs => RdI.at (hs.rdI (l := C) (t := 3) (n := N) (by repeat first | exact .head _ | refine .tail _ ?_) hlen.symm) (r + 1) y1) ?_)
          (refine qf_nil ?_)
          refine hK1 _ _ (qb_F 4 [.ow (.slice (some ⟨g, 0, none⟩) N c0) 3 1 N (ints C)] rfl rfl (by repeat (first | exact Sp.nil | exact Sp.refl _ | refine Sp.cons (by repeat constructor) ?_)) fun K1 hK1 => ?_)
          skip
          refine qf_index tabOk rfl rfl rfl rfl rfl (by omega) (by omega) ?_
          refine qf_storeW tabOk (r + 1) rfl rfl rfl rfl (by repeat constructor) (by omega) (by simpa using y1) ?_
          skip
          refine qf_index tabOk rfl rfl rfl rfl rfl (by omega) (by omega) ?_
          refine qf_storeW tabOk (r) rfl rfl rfl rfl (by repeat constructor) (by omega) (by simpa using y2) ?_
          rw [set_ints, set_ints]
          (refine qf_nil ?_)
          refine hK1 _ _ (qb_nil ?_)
          have e : (C.set (r + 1) C[r]).set (r) C[r + 1] = swL C (r + 1) (r) := by
            unfold swL
            rw [getD_get y1, getD_get y2]
          rw [e]
          (refine q_blk (q_region (ql_pure tabOk rfl rfl (ql_ar tabOk rfl rfl rfl rfl (by omega) (by omega) (ql_pure tabOk rfl rfl (q_nil ?_))))))
          exact hK (r, _) _ _ ⟨by dsimp only; omega, hS.trans (.sw (by omega) (by omega) (by omega)), mv_last q2 (by omega) hA⟩ (by dsimp only; omega) ⟨rfl, rfl, lookI rfl (by dsimp only; omega), trivial⟩ (by repeat (first | exact Sp.nil | exact Sp.refl _ | refine Sp.cons (by repeat constructor) ?_))
        · obtain rfl : k = i := by omega
          clear hc hK
          (refine q_exit _ rfl (q_ret ?_))
          refine q_fin tabOk rfl (by repeat (first | exact RVs.nil | apply RVs.tmp rfl | apply RVs.cellA rfl rfl (by repeat first | exact .head _ | refine .tail _ ?_) (by rfl) | apply RVs.cell1 rfl rfl (by repeat first | exact .head _ | refine .tail _ ?_))) fun w hs => ?_
          have hR : Rot l C a k m (m + 1) (m + 1) := ⟨p1, by omega, by omega, Nat.le_refl _, hA⟩
          exact ⟨C, ⟨rfl, hS, hR.last hs1 c1 c2⟩, hs⟩
    have hma : a + 2 ≤ m := by omega
    have hbm : m + 2 ≤ b := by omega
    obtain ⟨mid, hmid⟩ : ∃ mid : Nat, (mid : Int) = ((a : Int) + b) / 2 := ⟨(a + b) / 2, by omega⟩
    (refine q_seq (q_seq (q_region (ql_pure tabOk rfl rfl (ql_pure tabOk rfl rfl (ql_ar tabOk rfl rfl rfl rfl (by omega) (by omega) (ql_eqlF tabOk rfl rfl rfl (by omega) (q_nil (q_cond_false rfl (q_skip (q_seq (q_seq ?_))))))))))); refine q_region (ql_pure tabOk rfl rfl (ql_pure tabOk rfl rfl (ql_ar tabOk rfl rfl rfl rfl (by omega) (by omega) (ql_eqlF tabOk rfl rfl rfl (by omega) (q_nil (q_cond_false rfl (q_skip (q_seq (q_region (ql_pure tabOk rfl rfl (ql_pure tabOk rfl rfl ?_))))))))))); refine ql_ar tabOk rfl rfl rfl rfl (by omega) (by omega) (ql_pure tabOk rfl rfl ?_))
    rw [wu64 (by omega) (by omega)]
    refine ql_shrU rfl rfl ?_
    rw [← hmid]
    (refine ql_pure tabOk rfl rfl (ql_pure tabOk rfl rfl (q_nil ?_)))
    rw [w64 (by omega) (by omega)]
    (refine q_seq (q_region (ql_pure tabOk rfl rfl (ql_pure tabOk rfl rfl (ql_ar tabOk rfl rfl rfl rfl (by omega) (by omega) (ql_pure tabOk rfl rfl (q_nil (q_seq (q_region (ql_pure tabOk rfl rfl (ql_pure tabOk rfl rfl (q_nil ?_))))))))))); refine q_seq (q_seq (q_region ?_)); (iterate 3 refine ql_pure tabOk rfl rfl ?_); refine q_nil ?_)
    refine q_cut (σ := {z : Nat × Nat // (z.1 = a ∧ z.2 = m ∧ m ≤ mid) ∨ (z.1 + b = mid + m ∧ z.2 = mid ∧ mid < m)}) (fun z => [(0, (.slice (some ⟨g, 0, none⟩) N c0)), (1, .int .i64 a), (3, .int .i64 b), (4, cmp), (18, .int .i64 mid), (2, .int .i64 m), (19, .int .i64 ((mid : Int) + m)), (20, .int .i64 z.1.1), (21, .int .i64 z.1.2)]) (fun _ => [.ow (.slice (some ⟨g, 0, none⟩) N c0) 3 1 N (ints l)]) ?_ ?_
    rotate_left
    · intro K2 hK2
      refine q_if rfl (fun hc => ?_) (fun hc => ?_)
      · have hmm : mid < m := by omega
        clear hc
        (refine q_seq (q_region (ql_pure tabOk rfl rfl (ql_pure tabOk rfl rfl (ql_ar tabOk rfl rfl rfl rfl (by omega) (by omega) (ql_pure tabOk rfl rfl (q_nil (q_region (ql_pure tabOk rfl rfl (ql_pure tabOk rfl rfl (q_nil ?_)))))))))))
        exact hK2 ⟨(mid + m - b, mid), .inr ⟨by dsimp only; omega, rfl, hmm⟩⟩ _ _ ⟨rfl, rfl, rfl, rfl, rfl, rfl, rfl, lookI rfl (by dsimp only; omega), rfl, trivial⟩ (by repeat (first | exact Sp.nil | exact Sp.refl _ | refine Sp.cons (by repeat constructor) ?_))
      · have hmm : ¬ mid < m := by omega
        clear hc
        (refine q_seq (q_region (ql_pure tabOk rfl rfl (ql_pure tabOk rfl rfl (q_nil (q_region (ql_pure tabOk rfl rfl (ql_pure tabOk rfl rfl (q_nil ?_)))))))))
        exact hK2 ⟨(a, m), .inl ⟨rfl, rfl, by omega⟩⟩ _ _ ⟨rfl, rfl, rfl, rfl, rfl, rfl, rfl, rfl, rfl, trivial⟩ (by repeat (first | exact Sp.nil | exact Sp.refl _ | refine Sp.cons (by repeat constructor) ?_))
    rintro ⟨⟨s0, r0⟩, hz⟩
    dsimp only at hz ⊢
    (refine q_seq (q_region (ql_pure tabOk rfl rfl (ql_ar tabOk rfl rfl rfl rfl (by omega) (by omega) (ql_pure tabOk rfl rfl (q_nil (q_seq (q_block ?_))))))))
    refine q_loop (σ := Nat × Nat) (fun ⟨i, j⟩ => (s0 ≤ i ∧ i ≤ j ∧ j ≤ r0) ∧ (i = s0 ∨ key (l.getD (i - 1) 0) ≤ key (l.getD (mid + m - i) 0)) ∧ (j = r0 ∨ key (l.getD (mid + m - 1 - j) 0) < key (l.getD j 0))) (fun ⟨i, j⟩ => j - i) (fun ⟨i, j⟩ => [(0, (.slice (some ⟨g, 0, none⟩) N c0)), (1, .int .i64 a), (3, .int .i64 b), (4, cmp), (18, .int .i64 mid), (2, .int .i64 m), (19, .int .i64 ((mid : Int) + m)), (20, .int .i64 i), (21, .int .i64 j), (22, .int .i64 ((mid : Int) + m - 1))]) (fun _ => [.ow (.slice (some ⟨g, 0, none⟩) N c0) 3 1 N (ints l)]) (s0, r0) ⟨by omega, .inl rfl, .inl rfl⟩ ⟨rfl, rfl, rfl, rfl, rfl, rfl, rfl, rfl, rfl, rfl, trivial⟩ (by repeat (first | exact Sp.nil | exact Sp.refl _ | refine Sp.cons (by repeat constructor) ?_)) ?_
    rintro ⟨i, j⟩ ⟨⟨p1, p2, p3⟩, c1, c2⟩ K hK
    dsimp only at p1 p2 p3 c1 c2 hK ⊢
    (refine q_seq (q_seq (q_region ?_)); (iterate 3 refine ql_pure tabOk rfl rfl ?_); refine q_nil ?_)
    refine q_if rfl (fun hc => ?_) (fun hc => ?_)
    · have hij : i < j := by omega
      clear hc
      obtain ⟨h, hh⟩ : ∃ h : Nat, (h : Int) = ((i : Int) + j) / 2 := ⟨(i + j) / 2, by omega⟩
      (refine q_skip (q_block (q_seq (q_region (ql_pure tabOk rfl rfl (ql_pure tabOk rfl rfl (ql_ar tabOk rfl rfl rfl rfl (by omega) (by omega) (ql_pure tabOk rfl rfl ?_))))))))
      rw [wu64 (by omega) (by omega)]
      refine ql_shrU rfl rfl ?_
      rw [← hh]
      (refine ql_pure tabOk rfl rfl (ql_pure tabOk rfl rfl (q_nil (q_seq ?_))))
      rw [w64 (by omega) (by omega)]
      have y1 : mid + m - 1 - h < l.length := by omega
      have y2 : h < l.length := by omega
      have hpc : (mid : Int) + m - 1 - h = (mid + m - 1 - h : Nat) := by omega
      skip
      refine q_draw _ [] (Sp.refl _) (by kernel_rfl) (by kernel_rfl) ?_
      ((iterate 4 refine qf_pure tabOk rfl rfl rfl ?_); refine qf_ar tabOk rfl rfl rfl rfl (by omega) (by omega) ?_)
      rw [hpc]
      refine qf_index tabOk rfl rfl rfl rfl rfl (by omega) (by omega) ?_
      skip
      refine qf_load1 (v := .int .i64 l[mid + m - 1 - h]) tabOk rfl rfl rfl (fun w hs => RdI.at (hs.rdI (v := (.slice (some ⟨g, 0, none⟩) N c0)) (l := l) (t := 3) (n := N) (by repeat first | exact .head _ | refine .tail _ ?_) hln.symm) (mid + m - 1 - h) y1) ?_
      (refine qf_pure tabOk rfl rfl rfl (qf_pure tabOk rfl rfl rfl ?_))
      refine qf_index tabOk rfl rfl rfl rfl rfl (by omega) (by omega) ?_
      skip
      refine qf_load1 (v := .int .i64 l[h]) tabOk rfl rfl rfl (fun w hs => RdI.at (hs.rdI (v := (.slice (some ⟨g, 0, none⟩) N c0)) (l := l) (t := 3) (n := N) (by repeat first | exact .head _ | refine .tail _ ?_) hln.symm) (h) y2) ?_
      skip
      refine qf_callFv rfl rfl rfl (fun w' hs => hcmp w' hs.chg _ (hB _ (List.getElem_mem y1)) _ (hB _ (List.getElem_mem y2))) ?_
      have hcj : cf l[mid + m - 1 - h] l[h] < 0 ↔ key (l.getD (mid + m - 1 - h) 0) < key (l.getD (h) 0) := by
        rw [getD_get y1, getD_get y2]
        exact hcf _ (hB _ (List.getElem_mem y1)) _ (hB _ (List.getElem_mem y2))
      by_cases hlt : cf l[mid + m - 1 - h] l[h] < 0
      · (refine qf_lssT tabOk rfl rfl rfl (by omega) (qf_pure tabOk rfl rfl rfl (qf_nil (q_cond_false rfl (q_region (ql_pure tabOk rfl rfl (ql_pure tabOk rfl rfl (q_nil (q_blk ?_)))))))))
        exact hK (i, h) _ _ ⟨by dsimp only; omega, c1, .inr (hcj.1 hlt)⟩ (by dsimp only; omega) ⟨rfl, rfl, rfl, rfl, rfl, rfl, rfl, rfl, rfl, rfl, trivial⟩ (by repeat (first | exact Sp.nil | exact Sp.refl _ | refine Sp.cons (by repeat constructor) ?_))
      · (refine qf_lssF tabOk rfl rfl rfl (by omega) (qf_pure tabOk rfl rfl rfl (qf_nil (q_cond_true rfl (q_region (ql_pure tabOk rfl rfl (ql_ar tabOk rfl rfl rfl rfl (by omega) (by omega) (ql_pure tabOk rfl rfl (q_nil (q_blk ?_))))))))))
        exact hK (h + 1, j) _ _ ⟨by dsimp only; omega, .inr (by rw [show mid + m - (h + 1) = mid + m - 1 - h from by omega]; exact Int.not_lt.1 fun e => hlt (hcj.2 e)), c2⟩ (by dsimp only; omega) ⟨rfl, rfl, rfl, rfl, rfl, rfl, rfl, lookI rfl (by dsimp only; omega), rfl, rfl, trivial⟩ (by repeat (first | exact Sp.nil | exact Sp.refl _ | refine Sp.cons (by repeat constructor) ?_))
    · obtain rfl : i = j := by omega
      clear hc hK
      obtain ⟨e, he⟩ : ∃ e : Nat, (e : Int) = (mid : Int) + m - i := ⟨mid + m - i, by omega⟩
      have hie : i + (e - m) = mid := by omega
      have hno : Rot l l a i m e b ∨ (i < m ∧ m < e) := by
        by_cases c : i < m ∧ m < e
        · exact .inr c
        · exact .inl ⟨by omega, by omega, by omega, by omega, fun k => by rw [ro_id ⟨by omega, by omega⟩ (by omega)]⟩
      have d1 : i = a ∨ e = b ∨ key (l.getD (i - 1) 0) ≤ key (l.getD e 0) := by
        rcases c1 with c | c
        · omega
        · rw [show mid + m - i = e from by omega] at c
          exact .inr (.inr c)
      have d2 : i = m ∨ e = m ∨ key (l.getD (e - 1) 0) < key (l.getD i 0) := by
        rcases c2 with c | c
        · omega
        · rw [show mid + m - 1 - i = e - 1 from by omega] at c
          exact .inr (.inr c)
      have hb1 : a ≤ i ∧ i ≤ m ∧ m ≤ e ∧ e ≤ b ∧ i ≤ mid ∧ mid ≤ e := by omega
      clear c1 c2 p1 p3 hz
      (refine q_exit _ rfl (q_seq ?_))
      refine q_region ?_
      (refine ql_pure tabOk rfl rfl (ql_pure tabOk rfl rfl (ql_ar tabOk rfl rfl rfl rfl (by omega) (by omega) (ql_pure tabOk rfl rfl (q_nil ?_)))))
      rw [← he]
      refine q_seq ?_
      refine q_cut (σ := {L : List Int // Seg l L a b ∧ Rot l L a i m e b}) (fun _ => [(0, (.slice (some ⟨g, 0, none⟩) N c0)), (1, .int .i64 a), (3, .int .i64 b), (4, cmp), (18, .int .i64 mid), (20, .int .i64 i), (24, .int .i64 e)]) (fun L => [.ow (.slice (some ⟨g, 0, none⟩) N c0) 3 1 N (ints L.1)]) ?_ ?_
      rotate_left
      · intro K2 hK2
        by_cases c : i < m ∧ m < e
        · (refine q_seq (q_region (ql_pure tabOk rfl rfl (ql_pure tabOk rfl rfl (ql_lssT tabOk rfl rfl rfl (by omega) (ql_pure tabOk rfl rfl (ql_gyes rfl (ql_pure tabOk rfl rfl (ql_gyes rfl (ql_pure tabOk rfl rfl (ql_gyes rfl (ql_lssT tabOk rfl rfl rfl (by omega) ?_))))))))))); refine ql_pure tabOk rfl rfl (q_nil (q_cond_true rfl (q_region ?_))); (iterate 5 refine ql_pure tabOk rfl rfl ?_))
          refine ql_call (β := List Int) (ψ := fun D v => v = .tuple #[] ∧ Seg l D a b ∧ ∀ k, D.getD k 0 = l.getD (roP i m e k) 0) (L' := fun D => [.ow (.slice (some ⟨g, 0, none⟩) N c0) 3 1 N (ints D)]) tabOk [.ow (.slice (some ⟨g, 0, none⟩) N c0) 3 1 N (ints l)] _ (fun x => x = g) rfl rfl rfl rfl (Sp.cons (by repeat constructor) (Sp.refl _)) (fun x hx => ⟨_, .head _, by subst hx; rfl⟩) (fun w' hs => by have := rot_ca w' g c0 l i m e a b cmp (by omega) (by omega) (by omega) (by omega) (by omega) (by omega) (by rw [hln]; exact hs.all _ (.head _)); rw [hln] at this; exact this) ?_
          rintro D _ ⟨rfl, hD, hDA⟩
          dsimp only [List.cons_append, List.nil_append]
          (refine q_nil ?_)
          exact hK2 ⟨D, hD, ⟨by omega, by omega, by omega, by omega, hDA⟩⟩ _ _ ⟨rfl, rfl, rfl, rfl, rfl, rfl, rfl, trivial⟩ (by repeat (first | exact Sp.nil | exact Sp.refl _ | refine Sp.cons (by repeat constructor) ?_))
        · have hno := hno.resolve_right c
          by_cases c3 : i < m
          · have c4 : ¬ m < e := fun h => c ⟨c3, h⟩
            (refine q_seq (q_region (ql_pure tabOk rfl rfl (ql_pure tabOk rfl rfl (ql_lssT tabOk rfl rfl rfl (by omega) (ql_pure tabOk rfl rfl (ql_gyes rfl (ql_pure tabOk rfl rfl (ql_gyes rfl (ql_pure tabOk rfl rfl (ql_gyes rfl (ql_lssF tabOk rfl rfl rfl (by omega) ?_))))))))))); refine ql_pure tabOk rfl rfl (q_nil (q_cond_false rfl (q_skip ?_))))
            exact hK2 ⟨l, .refl _ _ _, hno⟩ _ _ ⟨rfl, rfl, rfl, rfl, rfl, rfl, rfl, trivial⟩ (by repeat (first | exact Sp.nil | exact Sp.refl _ | refine Sp.cons (by repeat constructor) ?_))
          · (refine q_seq (q_region (ql_pure tabOk rfl rfl (ql_pure tabOk rfl rfl (ql_lssF tabOk rfl rfl rfl (by omega) (ql_pure tabOk rfl rfl ?_))))); (iterate 3 refine ql_gno rfl rfl rfl ?_); refine ql_pure tabOk rfl rfl (q_nil (q_cond_false rfl (q_skip ?_))))
            exact hK2 ⟨l, .refl _ _ _, hno⟩ _ _ ⟨rfl, rfl, rfl, rfl, rfl, rfl, rfl, trivial⟩ (by repeat (first | exact Sp.nil | exact Sp.refl _ | refine Sp.cons (by repeat constructor) ?_))
      rintro ⟨L, hL, hR⟩
      dsimp only
      have hx : ∀ p q, a ≤ p → p < mid → mid ≤ q → q < b → key (L.getD p 0) ≤ key (L.getD q 0) := fun p q x1 x2 x3 x4 => hR.cross hs1 hs2 d1 d2 ⟨x1, by omega⟩ ⟨by omega, x4⟩
      have hLn : L.length = N := by rw [hL.len, hln]
      have hLB : ∀ x ∈ L, x ∈ B := fun x hx => hB x (hL.perm.subset hx)
      have t1 := hR.s1 hs1
      have t2 := hR.s2 hs2
      have t3 := hR.s3 hs1
      have t4 := hR.s4 hs2
      rw [hie] at t2 t3
      clear d1 d2 hno hR
      refine q_seq ?_
      refine q_cut (σ := {M : List Int // Seg L M a mid ∧ SrW key M a mid}) (fun _ => [(0, (.slice (some ⟨g, 0, none⟩) N c0)), (1, .int .i64 a), (3, .int .i64 b), (4, cmp), (18, .int .i64 mid), (24, .int .i64 e)]) (fun M => [.ow (.slice (some ⟨g, 0, none⟩) N c0) 3 1 N (ints M.1)]) ?_ ?_
      rotate_left
      · intro K2 hK2
        by_cases c1 : a < i
        · by_cases c2 : i < mid
          · (refine q_seq (q_region (ql_pure tabOk rfl rfl (ql_pure tabOk rfl rfl (ql_lssT tabOk rfl rfl rfl (by omega) (ql_pure tabOk rfl rfl (ql_gyes rfl (ql_pure tabOk rfl rfl (ql_gyes rfl (ql_pure tabOk rfl rfl (ql_gyes rfl (ql_lssT tabOk rfl rfl rfl (by omega) ?_))))))))))); refine ql_pure tabOk rfl rfl (q_nil (q_cond_true rfl (q_region ?_))); (iterate 5 refine ql_pure tabOk rfl rfl ?_))
            refine ql_call (β := List Int) (ψ := fun D v => v = .tuple #[] ∧ Seg L D a mid ∧ SrW key D a mid) (L' := fun D => [.ow (.slice (some ⟨g, 0, none⟩) N c0) 3 1 N (ints D)]) tabOk [.ow (.slice (some ⟨g, 0, none⟩) N c0) 3 1 N (ints L)] _ (fun x => x = g) rfl rfl rfl rfl (Sp.cons (by repeat constructor) (Sp.refl _)) (fun x hx => ⟨_, .head _, by subst hx; rfl⟩) (fun w' hs => ih w' L a i mid (by omega) (by omega) (by omega) (by omega) hLn hLB (hcmp.sub hs.chg) t1 t2 (hs.all _ (.head _))) ?_
            rintro D _ ⟨rfl, hD, sD⟩
            dsimp only [List.cons_append, List.nil_append]
            (refine q_nil ?_)
            exact hK2 ⟨D, hD, sD⟩ _ _ ⟨rfl, rfl, rfl, rfl, rfl, rfl, trivial⟩ (by repeat (first | exact Sp.nil | exact Sp.refl _ | refine Sp.cons (by repeat constructor) ?_))
          · obtain rfl : i = mid := by omega
            (refine q_seq (q_region (ql_pure tabOk rfl rfl (ql_pure tabOk rfl rfl (ql_lssT tabOk rfl rfl rfl (by omega) (ql_pure tabOk rfl rfl (ql_gyes rfl (ql_pure tabOk rfl rfl (ql_gyes rfl (ql_pure tabOk rfl rfl (ql_gyes rfl (ql_lssF tabOk rfl rfl rfl (by omega) ?_))))))))))); refine ql_pure tabOk rfl rfl (q_nil (q_cond_false rfl (q_skip ?_))))
            exact hK2 ⟨L, .refl _ _ _, t1⟩ _ _ ⟨rfl, rfl, rfl, rfl, rfl, rfl, trivial⟩ (by repeat (first | exact Sp.nil | exact Sp.refl _ | refine Sp.cons (by repeat constructor) ?_))
        · obtain rfl : i = a := by omega
          (refine q_seq (q_region (ql_pure tabOk rfl rfl (ql_pure tabOk rfl rfl (ql_lssF tabOk rfl rfl rfl (by omega) (ql_pure tabOk rfl rfl ?_))))); (iterate 3 refine ql_gno rfl rfl rfl ?_); refine ql_pure tabOk rfl rfl (q_nil (q_cond_false rfl (q_skip ?_))))
          exact hK2 ⟨L, .refl _ _ _, t2⟩ _ _ ⟨rfl, rfl, rfl, rfl, rfl, rfl, trivial⟩ (by repeat (first | exact Sp.nil | exact Sp.refl _ | refine Sp.cons (by repeat constructor) ?_))
      rintro ⟨M, hM, hMs⟩
      dsimp only
      have hMn : M.length = N := by rw [hM.len, hLn]
      have hMB : ∀ x ∈ M, x ∈ B := fun x hx => hLB x (hM.perm.subset hx)
      have t3' := t3.out hM (.inr (Nat.le_refl _))
      have t4' := t4.out hM (.inr (by omega))
      by_cases c1 : mid < e
      · by_cases c2 : e < b
        · (refine q_seq (q_region (ql_pure tabOk rfl rfl (ql_pure tabOk rfl rfl (ql_lssT tabOk rfl rfl rfl (by omega) (ql_pure tabOk rfl rfl (ql_gyes rfl (ql_pure tabOk rfl rfl (ql_gyes rfl (ql_pure tabOk rfl rfl (ql_gyes rfl (ql_lssT tabOk rfl rfl rfl (by omega) ?_))))))))))); refine ql_pure tabOk rfl rfl (q_nil (q_cond_true rfl (q_region ?_))); (iterate 5 refine ql_pure tabOk rfl rfl ?_))
          refine ql_call (β := List Int) (ψ := fun D v => v = .tuple #[] ∧ Seg M D mid b ∧ SrW key D mid b) (L' := fun D => [.ow (.slice (some ⟨g, 0, none⟩) N c0) 3 1 N (ints D)]) tabOk [.ow (.slice (some ⟨g, 0, none⟩) N c0) 3 1 N (ints M)] _ (fun x => x = g) rfl rfl rfl rfl (Sp.cons (by repeat constructor) (Sp.refl _)) (fun x hx => ⟨_, .head _, by subst hx; rfl⟩) (fun w' hs => ih w' M mid e b (by omega) (by omega) (by omega) (by omega) hMn hMB (hcmp.sub hs.chg) t3' t4' (hs.all _ (.head _))) ?_
          rintro D _ ⟨rfl, hD, sD⟩
          dsimp only [List.cons_append, List.nil_append]
          (refine q_nil ?_)
          refine q_end tabOk rfl (by repeat (first | exact RVs.nil | apply RVs.tmp rfl | apply RVs.cellA rfl rfl (by repeat first | exact .head _ | refine .tail _ ?_) (by rfl) | apply RVs.cell1 rfl rfl (by repeat first | exact .head _ | refine .tail _ ?_))) fun w hs => ?_
          exact ⟨D, ⟨rfl, (hL.trans (hM.wide (Nat.le_refl _) (by omega))).trans (hD.wide (by omega) (Nat.le_refl _)), seg_join hx hM hD hMs sD⟩, hs⟩
        · obtain rfl : e = b := by omega
          (refine q_seq (q_region (ql_pure tabOk rfl rfl (ql_pure tabOk rfl rfl (ql_lssT tabOk rfl rfl rfl (by omega) (ql_pure tabOk rfl rfl (ql_gyes rfl (ql_pure tabOk rfl rfl (ql_gyes rfl (ql_pure tabOk rfl rfl (ql_gyes rfl (ql_lssF tabOk rfl rfl rfl (by omega) ?_))))))))))); refine ql_pure tabOk rfl rfl (q_nil (q_cond_false rfl (q_skip ?_))))
          refine q_end tabOk rfl (by repeat (first | exact RVs.nil | apply RVs.tmp rfl | apply RVs.cellA rfl rfl (by repeat first | exact .head _ | refine .tail _ ?_) (by rfl) | apply RVs.cell1 rfl rfl (by repeat first | exact .head _ | refine .tail _ ?_))) fun w hs => ?_
          exact ⟨M, ⟨rfl, hL.trans (hM.wide (Nat.le_refl _) (by omega)), seg_join hx hM (.refl _ _ _) hMs t3'⟩, hs⟩
      · obtain rfl : e = mid := by omega
        (refine q_seq (q_region (ql_pure tabOk rfl rfl (ql_pure tabOk rfl rfl (ql_lssF tabOk rfl rfl rfl (by omega) (ql_pure tabOk rfl rfl ?_))))); (iterate 3 refine ql_gno rfl rfl rfl ?_); refine ql_pure tabOk rfl rfl (q_nil (q_cond_false rfl (q_skip ?_))))
        refine q_end tabOk rfl (by repeat (first | exact RVs.nil | apply RVs.tmp rfl | apply RVs.cellA rfl rfl (by repeat first | exact .head _ | refine .tail _ ?_) (by rfl) | apply RVs.cell1 rfl rfl (by repeat first | exact .head _ | refine .tail _ ?_))) fun w hs => ?_
        exact ⟨M, ⟨rfl, hL.trans (hM.wide (Nat.le_refl _) (by omega)), seg_join hx hM (.refl _ _ _) hMs t4'⟩, hs⟩
set_option maxHeartbeats 4000000 in
theorem insR_ca (g c0 N : Nat) (B : List Int) (key : Int → Int) (cmp : Value) (cf : Int → Int → Int) (hcf : ∀ x ∈ B, ∀ y ∈ B, (cf x y < 0 ↔ key x < key y)) (hN : N ≤ 1000) (w : World) (l : List Int) (a b : Nat) (hab : a ≤ b) (hbN : b ≤ N) (hln : l.length = N) (hB : ∀ x ∈ l, x ∈ B) (hcmp : CmpS w g cmp cf B) (hb : w.ownsRow 0 3 1 (.slice (some ⟨g, 0, none⟩) N c0) N (ints l)) :
    Ca Tryz.prog 111 [(.slice (some ⟨g, 0, none⟩) N c0), .int .i64 a, .int .i64 b, cmp] w fun v w' => ∃ L : List Int, (v = .tuple #[] ∧ Seg l L a b ∧ SrW key L a b) ∧ Sat w (fun x => x = g) [.ow (.slice (some ⟨g, 0, none⟩) N c0) 3 1 N (ints L)] w' := by
  refine q_of (Sat.own0 hb) Tryz.func111 rfl (by simp [Tryz.ntmps111]) ?_
  (refine q_seq (q_region (ql_pure tabOk rfl rfl (ql_ar tabOk rfl rfl rfl rfl (by omega) (by omega) (ql_pure tabOk rfl rfl (q_nil (q_block ?_)))))))
  refine q_loop (σ := Nat × List Int) (fun ⟨i, C⟩ => (a + 1 ≤ i ∧ (i ≤ b ∨ i = a + 1)) ∧ Seg l C a b ∧ SrW key C a i) (fun ⟨i, _⟩ => b - i) (fun ⟨i, _⟩ => [(0, (.slice (some ⟨g, 0, none⟩) N c0)), (1, .int .i64 a), (2, .int .i64 b), (3, cmp), (8, .int .i64 i)]) (fun ⟨_, C⟩ => [.ow (.slice (some ⟨g, 0, none⟩) N c0) 3 1 N (ints C)]) (a + 1, l) ⟨by omega, .refl _ _ _, .one (Nat.le_refl _)⟩ ⟨rfl, rfl, rfl, rfl, lookI rfl (by omega), trivial⟩ (by repeat (first | exact Sp.nil | exact Sp.refl _ | refine Sp.cons (by repeat constructor) ?_)) ?_
  rintro ⟨i, C⟩ ⟨⟨p1, p2⟩, hS, hR⟩ K hK
  dsimp only at p1 p2 hS hR hK ⊢
  (refine q_seq (q_seq (q_region ?_)); (iterate 3 refine ql_pure tabOk rfl rfl ?_); refine q_nil ?_)
  refine q_if rfl (fun hc => ?_) (fun hc => ?_)
  · have hib : i < b := by omega
    clear hc
    (refine q_skip (q_seq (q_block (q_seq (q_region (ql_pure tabOk rfl rfl (ql_pure tabOk rfl rfl (q_nil (q_block ?_)))))))))
    refine q_loop (σ := Nat × List Int) (fun ⟨j, C⟩ => Seg l C a b ∧ rInsJ key C a i j) (fun ⟨j, _⟩ => j) (fun ⟨j, _⟩ => [(0, (.slice (some ⟨g, 0, none⟩) N c0)), (1, .int .i64 a), (2, .int .i64 b), (3, cmp), (8, .int .i64 i), (9, .int .i64 j)]) (fun ⟨_, C⟩ => [.ow (.slice (some ⟨g, 0, none⟩) N c0) 3 1 N (ints C)]) (i, C) ⟨hS, .start hR (by omega)⟩ ⟨rfl, rfl, rfl, rfl, rfl, rfl, trivial⟩ (by repeat (first | exact Sp.nil | exact Sp.refl _ | refine Sp.cons (by repeat constructor) ?_)) ?_
    clear hS hR
    rintro ⟨j, C⟩ ⟨hS, hJ⟩ K2 hK2
    dsimp only at hS hJ hK2 ⊢
    have hji := hJ.ji
    have hlen : C.length = N := by rw [hS.len, hln]
    have hB : ∀ x ∈ C, x ∈ B := fun x hx => hB x (hS.perm.subset hx)
    by_cases hja : j = a
    · subst hja
      (refine q_seq (q_seq ?_))
      refine q_draw _ [] (Sp.refl _) (by kernel_rfl) (by kernel_rfl) ?_
      (refine qf_pure tabOk rfl rfl rfl (qf_pure tabOk rfl rfl rfl (qf_gtrF tabOk rfl rfl rfl (by omega) (qf_pure tabOk rfl rfl rfl ?_))); (iterate 12 refine qf_gno rfl rfl rfl ?_); refine qf_pure tabOk rfl rfl rfl (qf_nil (q_cond_false rfl (q_exit _ rfl (q_blk (q_region (ql_pure tabOk rfl rfl (ql_ar tabOk rfl rfl rfl rfl (by omega) (by omega) (ql_pure tabOk rfl rfl (q_nil ?_))))))))))
      exact hK (i + 1, C) _ _ ⟨by dsimp only; omega, hS, hJ.close (.inl rfl)⟩ (by dsimp only; omega) ⟨rfl, rfl, rfl, rfl, rfl, trivial⟩ (by repeat (first | exact Sp.nil | exact Sp.refl _ | refine Sp.cons (by repeat constructor) ?_))
    · obtain ⟨j, rfl⟩ : ∃ r, j = r + 1 := ⟨j - 1, by omega⟩
      have y1 : j + 1 < C.length := by omega
      have y2 : j < C.length := by omega
      have hj1 : ((j + 1 : Nat) : Int) - 1 = j := by omega
      (refine q_seq (q_seq ?_))
      refine q_draw _ [] (Sp.refl _) (by kernel_rfl) (by kernel_rfl) ?_
      (refine qf_pure tabOk rfl rfl rfl (qf_pure tabOk rfl rfl rfl (qf_gtrT tabOk rfl rfl rfl (by omega) (qf_pure tabOk rfl rfl rfl (qf_gyes rfl (qf_pure tabOk rfl rfl rfl (qf_gyes rfl (qf_pure tabOk rfl rfl rfl (qf_gyes rfl (qf_pure tabOk rfl rfl rfl (qf_gyes rfl ?_)))))))))))
      refine qf_index tabOk rfl rfl rfl rfl rfl (by omega) (by omega) ?_
      (refine qf_gyes rfl ?_)
      refine qf_load1 (v := .int .i64 C[j + 1]) tabOk rfl rfl rfl (fun w hs => RdI.at (hs.rdI (v := (.slice (some ⟨g, 0, none⟩) N c0)) (l := C) (t := 3) (n := N) (by repeat first | exact .head _ | refine .tail _ ?_) hlen.symm) (j + 1) y1) ?_
      (refine qf_gyes rfl (qf_pure tabOk rfl rfl rfl (qf_gyes rfl (qf_pure tabOk rfl rfl rfl (qf_gyes rfl (qf_ar tabOk rfl rfl rfl rfl (by omega) (by omega) (qf_gyes rfl ?_)))))))
      rw [hj1]
      refine qf_index tabOk rfl rfl rfl rfl rfl (by omega) (by omega) ?_
      (refine qf_gyes rfl ?_)
      refine qf_load1 (v := .int .i64 C[j]) tabOk rfl rfl rfl (fun w hs => RdI.at (hs.rdI (v := (.slice (some ⟨g, 0, none⟩) N c0)) (l := C) (t := 3) (n := N) (by repeat first | exact .head _ | refine .tail _ ?_) hlen.symm) (j) y2) ?_
      (refine qf_gyes rfl ?_)
      refine qf_callFv rfl rfl rfl (fun w' hs => hcmp w' hs.chg _ (hB _ (List.getElem_mem y1)) _ (hB _ (List.getElem_mem y2))) ?_
      have hcj : cf C[j + 1] C[j] < 0 ↔ key (C.getD (j + 1) 0) < key (C.getD (j) 0) := by
        rw [getD_get y1, getD_get y2]
        exact hcf _ (hB _ (List.getElem_mem y1)) _ (hB _ (List.getElem_mem y2))
      by_cases hlt : cf C[j + 1] C[j] < 0
      · (refine qf_gyes rfl (qf_lssT tabOk rfl rfl rfl (by omega) (qf_pure tabOk rfl rfl rfl (qf_nil (q_cond_true rfl (q_skip (q_seq (q_block ?_))))))))
        skip
        refine q_drawB [true, true, false, false, false, true, true, true, true, true, true, true, true, true, false, false, false, false] [] [.ow (.slice (some ⟨g, 0, none⟩) N c0) 3 1 N (ints C)] (by repeat (first | exact Sp.nil | exact Sp.refl _ | refine Sp.cons (by repeat constructor) ?_)) (by kernel_rfl) (by kernel_rfl) (by kernel_rfl) ?_
        refine qb_T 2 rfl rfl (Sp.refl _) fun K1 hK1 => ?_
        (refine qf_pure tabOk rfl rfl rfl (qf_pure tabOk rfl rfl rfl (qf_nil ?_)))
        refine hK1 _ _ (qb_F 3 [.ow (.slice (some ⟨g, 0, none⟩) N c0) 3 1 N (ints C)] rfl rfl (by repeat (first | exact Sp.nil | exact Sp.refl _ | refine Sp.cons (by repeat constructor) ?_)) fun K1 hK1 => ?_)
        (refine qf_pure tabOk rfl rfl rfl (qf_pure tabOk rfl rfl rfl (qf_ar tabOk rfl rfl rfl rfl (by omega) (by omega) (qf_nil ?_))))
        refine hK1 _ _ (qb_T 9 rfl rfl (by repeat (first | exact Sp.nil | exact Sp.refl _ | refine Sp.cons (by repeat constructor) ?_)) fun K1 hK1 => ?_)
        (refine qf_pure tabOk rfl rfl rfl (qf_pure tabOk rfl rfl rfl (qf_ar tabOk rfl rfl rfl rfl (by omega) (by omega) ?_)))
        rw [hj1]
        (refine qf_index tabOk rfl rfl rfl rfl rfl (by omega) (by omega) ?_; refine qf_load1 tabOk rfl rfl rfl (fun w hs => RdI.at (hs.rdI (l := C) (t := 3) (n := N) (by repeat first | exact .head _ | refine .tail _ ?_) hlen.symm) (j) y2) ?_)
        (refine qf_pure tabOk rfl rfl rfl (qf_pure tabOk rfl rfl rfl ?_))
        (refine qf_index tabOk rfl rfl rfl rfl rfl (by omega) (by omega) ?_; refine qf_load1 tabOk rfl rfl rfl (fun w hs => RdI.at (hs.rdI (l := C) (t := 3) (n := N) (by repeat first | exact .head _ | refine .tail _ ?_) hlen.symm) (j + 1) y1) ?_)
        (refine qf_nil ?_)
        refine hK1 _ _ (qb_F 4 [.ow (.slice (some ⟨g, 0, none⟩) N c0) 3 1 N (ints C)] rfl rfl (by repeat (first | exact Sp.nil | exact Sp.refl _ | refine Sp.cons (by repeat constructor) ?_)) fun K1 hK1 => ?_)
        skip
        refine qf_index tabOk rfl rfl rfl rfl rfl (by omega) (by omega) ?_
        refine qf_storeW tabOk (j + 1) rfl rfl rfl rfl (by repeat constructor) (by omega) (by simpa using y1) ?_
        skip
        refine qf_index tabOk rfl rfl rfl rfl rfl (by omega) (by omega) ?_
        refine qf_storeW tabOk (j) rfl rfl rfl rfl (by repeat constructor) (by omega) (by simpa using y2) ?_
        rw [set_ints, set_ints]
        (refine qf_nil ?_)
        refine hK1 _ _ (qb_nil ?_)
        have e : (C.set (j + 1) C[j]).set (j) C[j + 1] = swL C (j + 1) (j) := by
          unfold swL
          rw [getD_get y1, getD_get y2]
        rw [e]
        (refine q_blk (q_region (ql_pure tabOk rfl rfl (ql_ar tabOk rfl rfl rfl rfl (by omega) (by omega) (ql_pure tabOk rfl rfl (q_nil ?_))))))
        exact hK2 (j, _) _ _ ⟨hS.trans (.sw (by omega) (by omega) (by omega)), hJ.swap (by omega) (by omega) (hcj.1 hlt)⟩ (by dsimp only; omega) ⟨rfl, rfl, rfl, rfl, rfl, lookI rfl (by dsimp only; omega), trivial⟩ (by repeat (first | exact Sp.nil | exact Sp.refl _ | refine Sp.cons (by repeat constructor) ?_))
      · (refine qf_gyes rfl (qf_lssF tabOk rfl rfl rfl (by omega) (qf_pure tabOk rfl rfl rfl (qf_nil (q_cond_false rfl (q_exit _ rfl (q_blk (q_region (ql_pure tabOk rfl rfl (ql_ar tabOk rfl rfl rfl rfl (by omega) (by omega) (ql_pure tabOk rfl rfl (q_nil ?_))))))))))))
        exact hK (i + 1, C) _ _ ⟨by dsimp only; omega, hS, hJ.close (.inr (Int.not_lt.1 fun e => hlt (hcj.2 e)))⟩ (by dsimp only; omega) ⟨rfl, rfl, rfl, rfl, rfl, trivial⟩ (by repeat (first | exact Sp.nil | exact Sp.refl _ | refine Sp.cons (by repeat constructor) ?_))
  · clear hK
    have hbi : b ≤ i := by omega
    (refine q_exit _ rfl ?_)
    refine q_end tabOk rfl (by repeat (first | exact RVs.nil | apply RVs.tmp rfl | apply RVs.cellA rfl rfl (by repeat first | exact .head _ | refine .tail _ ?_) (by rfl) | apply RVs.cell1 rfl rfl (by repeat first | exact .head _ | refine .tail _ ?_))) fun w hs => ?_
    exact ⟨C, ⟨rfl, hS, hR.sub (Nat.le_refl _) hbi⟩, hs⟩
set_option maxHeartbeats 4000000 in
theorem stabW_ca (g c0 N : Nat) (B : List Int) (key : Int → Int) (cmp : Value) (cf : Int → Int → Int) (hcf : ∀ x ∈ B, ∀ y ∈ B, (cf x y < 0 ↔ key x < key y)) (hN : N ≤ 39) (w : World) (l : List Int) (hln : l.length = N) (hB : ∀ x ∈ l, x ∈ B) (hcmp : CmpS w g cmp cf B) (hb : w.ownsRow 0 3 1 (.slice (some ⟨g, 0, none⟩) N c0) N (ints l)) :
    Ca Tryz.prog 87 [(.slice (some ⟨g, 0, none⟩) N c0), .int .i64 N, cmp] w fun v w' => ∃ L : List Int, (v = .tuple #[] ∧ L.Perm l ∧ SrW key L 0 N) ∧ Sat w (fun x => x = g) [.ow (.slice (some ⟨g, 0, none⟩) N c0) 3 1 N (ints L)] w' := by
  refine q_of (Sat.own0 hb) Tryz.func87 rfl (by simp [Tryz.ntmps87]) ?_
  (refine q_seq (q_region (ql_pure tabOk rfl rfl (q_nil (q_seq (q_region ?_))))); (iterate 3 refine ql_pure tabOk rfl rfl ?_); refine q_nil (q_seq (q_block ?_)))
  refine q_loop (σ := Nat × List Int) (fun ⟨t, C⟩ => (t = 0 ∧ C = l) ∨ (t = 1 ∧ 20 ≤ N ∧ C.Perm l ∧ SrW key C 0 20)) (fun ⟨t, _⟩ => 1 - t) (fun ⟨t, _⟩ => [(0, (.slice (some ⟨g, 0, none⟩) N c0)), (1, .int .i64 N), (2, cmp), (6, .int .i64 20), (7, .int .i64 (20 * t : Nat)), (8, .int .i64 (20 * t + 20 : Nat))]) (fun ⟨_, C⟩ => [.ow (.slice (some ⟨g, 0, none⟩) N c0) 3 1 N (ints C)]) (0, l) (.inl ⟨rfl, rfl⟩) ⟨rfl, rfl, rfl, rfl, rfl, rfl, trivial⟩ (by repeat (first | exact Sp.nil | exact Sp.refl _ | refine Sp.cons (by repeat constructor) ?_)) ?_
  rintro ⟨t, C⟩ hI K hK
  dsimp only at hI hK ⊢
  (refine q_seq (q_seq (q_region ?_)); (iterate 3 refine ql_pure tabOk rfl rfl ?_); refine q_nil ?_)
  refine q_if rfl (fun hc => ?_) (fun hc => ?_)
  · have ht : t = 0 ∧ C = l ∧ 20 ≤ N := by
      rcases hI with ⟨rfl, rfl⟩ | ⟨rfl, _⟩
      · exact ⟨rfl, rfl, by omega⟩
      · omega
    obtain ⟨rfl, rfl, hn⟩ := ht
    clear hc hI
    (refine q_skip (q_block (q_seq (q_region ?_))); (iterate 4 refine ql_pure tabOk rfl rfl ?_))
    refine ql_call (β := List Int) (ψ := fun D v => v = .tuple #[] ∧ Seg C D (20 * 0) (20 * 0 + 20) ∧ SrW key D (20 * 0) (20 * 0 + 20)) (L' := fun D => [.ow (.slice (some ⟨g, 0, none⟩) N c0) 3 1 N (ints D)]) tabOk [.ow (.slice (some ⟨g, 0, none⟩) N c0) 3 1 N (ints C)] _ (fun x => x = g) rfl rfl rfl rfl (Sp.cons (by repeat constructor) (Sp.refl _)) (fun x hx => ⟨_, .head _, by subst hx; rfl⟩) (fun w' hs => insR_ca g c0 N B key cmp cf hcf (by omega) w' C (20 * 0) (20 * 0 + 20) (by omega) (by omega) hln hB (hcmp.sub hs.chg) (hs.all _ (.head _))) ?_
    rintro D _ ⟨rfl, hD, sD⟩
    dsimp only [List.cons_append, List.nil_append]
    (refine q_nil (q_seq (q_region (ql_pure tabOk rfl rfl (ql_pure tabOk rfl rfl (q_nil (q_region (ql_pure tabOk rfl rfl (ql_pure tabOk rfl rfl (ql_ar tabOk rfl rfl rfl rfl (by omega) (by omega) (ql_pure tabOk rfl rfl (q_nil ?_))))))))))); refine q_blk ?_)
    exact hK (1, D) _ _ (.inr ⟨rfl, hn, hD.perm, sD⟩) (by dsimp only; omega) ⟨rfl, rfl, rfl, rfl, rfl, lookI rfl (by dsimp only; omega), trivial⟩ (by repeat (first | exact Sp.nil | exact Sp.refl _ | refine Sp.cons (by repeat constructor) ?_))
  · clear hK
    have hC : C.Perm l ∧ SrW key C 0 (20 * t) ∧ 20 * t ≤ N ∧ N < 20 * t + 20 ∧ t ≤ 1 := by
      rcases hI with ⟨rfl, rfl⟩ | ⟨rfl, h1, h2, h3⟩
      · exact ⟨.refl _, .one (by omega), by omega, by omega, by omega⟩
      · exact ⟨h2, h3, by omega, by omega, by omega⟩
    clear hc hI
    obtain ⟨hP, hSr, hq1, hq2, hq3⟩ := hC
    have hlC : C.length = N := by rw [hP.length_eq, hln]
    have hBC : ∀ x ∈ C, x ∈ B := fun x hx => hB x (hP.subset hx)
    (refine q_exit _ rfl (q_seq (q_region ?_)); (iterate 4 refine ql_pure tabOk rfl rfl ?_))
    refine ql_call (β := List Int) (ψ := fun D v => v = .tuple #[] ∧ Seg C D (20 * t) N ∧ SrW key D (20 * t) N) (L' := fun D => [.ow (.slice (some ⟨g, 0, none⟩) N c0) 3 1 N (ints D)]) tabOk [.ow (.slice (some ⟨g, 0, none⟩) N c0) 3 1 N (ints C)] _ (fun x => x = g) rfl rfl rfl rfl (Sp.cons (by repeat constructor) (Sp.refl _)) (fun x hx => ⟨_, .head _, by subst hx; rfl⟩) (fun w' hs => insR_ca g c0 N B key cmp cf hcf (by omega) w' C (20 * t) N (by omega) (by omega) hlC hBC (hcmp.sub hs.chg) (hs.all _ (.head _))) ?_
    rintro D _ ⟨rfl, hD, sD⟩
    dsimp only [List.cons_append, List.nil_append]
    have hP2 : D.Perm l := hD.perm.trans hP
    have hlD : D.length = N := by rw [hP2.length_eq, hln]
    have hBD : ∀ x ∈ D, x ∈ B := fun x hx => hB x (hP2.subset hx)
    have hS1 := hSr.out hD (.inl (Nat.le_refl _))
    clear hSr hP hlC hBC hD
    (refine q_nil (q_block ?_))
    refine q_loop (σ := Nat × List Int) (fun ⟨z, M⟩ => (z = 20 ∧ M = D) ∨ (z = 40 ∧ M.Perm l ∧ SrW key M 0 N)) (fun ⟨z, _⟩ => 40 - z) (fun ⟨z, _⟩ => [(0, (.slice (some ⟨g, 0, none⟩) N c0)), (1, .int .i64 N), (2, cmp), (6, .int .i64 z)]) (fun ⟨_, M⟩ => [.ow (.slice (some ⟨g, 0, none⟩) N c0) 3 1 N (ints M)]) (20, D) (.inl ⟨rfl, rfl⟩) ⟨rfl, rfl, rfl, rfl, trivial⟩ (by repeat (first | exact Sp.nil | exact Sp.refl _ | refine Sp.cons (by repeat constructor) ?_)) ?_
    rintro ⟨z, M⟩ hI K hK
    dsimp only at hI hK ⊢
    (refine q_seq (q_seq (q_region ?_)); (iterate 3 refine ql_pure tabOk rfl rfl ?_); refine q_nil ?_)
    refine q_if rfl (fun hc => ?_) (fun hc => ?_)
    · have ht : z = 20 ∧ M = D ∧ 20 < N := by
        rcases hI with ⟨rfl, rfl⟩ | ⟨rfl, _⟩
        · exact ⟨rfl, rfl, by omega⟩
        · omega
      obtain ⟨rfl, rfl, hn⟩ := ht
      obtain rfl : t = 1 := by omega
      clear hc hI
      (refine q_skip (q_block (q_seq (q_region (ql_pure tabOk rfl rfl (ql_ar tabOk rfl rfl rfl rfl (by omega) (by omega) (ql_pure tabOk rfl rfl (ql_pure tabOk rfl rfl (q_nil (q_seq (q_block ?_)))))))))))
      refine q_loop (σ := Unit) (fun _ => True) (fun _ => 0) (fun _ => [(0, (.slice (some ⟨g, 0, none⟩) N c0)), (1, .int .i64 N), (2, cmp), (6, .int .i64 20), (7, .int .i64 0), (8, .int .i64 40)]) (fun _ => [.ow (.slice (some ⟨g, 0, none⟩) N c0) 3 1 N (ints M)]) () trivial ⟨rfl, rfl, rfl, rfl, rfl, rfl, trivial⟩ (by repeat (first | exact Sp.nil | exact Sp.refl _ | refine Sp.cons (by repeat constructor) ?_)) ?_
      rintro _ _ K2 hK2
      clear hK2
      (refine q_seq (q_seq (q_region (ql_pure tabOk rfl rfl (ql_pure tabOk rfl rfl (ql_leqF tabOk rfl rfl rfl (by omega) (q_nil (q_cond_false rfl (q_exit _ rfl (q_seq (q_seq (q_region ?_))))))))))); refine ql_pure tabOk rfl rfl (ql_pure tabOk rfl rfl (ql_ar tabOk rfl rfl rfl rfl (by omega) (by omega) (ql_pure tabOk rfl rfl (q_nil (q_seq (q_region (ql_pure tabOk rfl rfl (ql_pure tabOk rfl rfl (ql_lssT tabOk rfl rfl rfl (by omega) (q_nil (q_cond_true rfl ?_))))))))))); refine q_region ?_; (iterate 5 refine ql_pure tabOk rfl rfl ?_))
      refine ql_call (β := List Int) (ψ := fun D v => v = .tuple #[] ∧ Seg M D 0 N ∧ SrW key D 0 N) (L' := fun D => [.ow (.slice (some ⟨g, 0, none⟩) N c0) 3 1 N (ints D)]) tabOk [.ow (.slice (some ⟨g, 0, none⟩) N c0) 3 1 N (ints M)] _ (fun x => x = g) rfl rfl rfl rfl (Sp.cons (by repeat constructor) (Sp.refl _)) (fun x hx => ⟨_, .head _, by subst hx; rfl⟩) (fun w' hs => symM_ca g c0 N B key cmp cf hcf (by omega) N w' M 0 20 N (by omega) (by omega) (by omega) (by omega) hlD hBD (hcmp.sub hs.chg) hS1 sD (hs.all _ (.head _))) ?_
      rintro E _ ⟨rfl, hE, sE⟩
      dsimp only [List.cons_append, List.nil_append]
      (refine q_nil (q_region (ql_pure tabOk rfl rfl (ql_ar tabOk rfl rfl rfl rfl (by omega) (by omega) (ql_pure tabOk rfl rfl (q_nil (q_blk ?_)))))))
      exact hK (40, E) _ _ (.inr ⟨rfl, hE.perm.trans hP2, sE⟩) (by dsimp only; omega) ⟨rfl, rfl, rfl, rfl, trivial⟩ (by repeat (first | exact Sp.nil | exact Sp.refl _ | refine Sp.cons (by repeat constructor) ?_))
    · clear hK
      have hM : M.Perm l ∧ SrW key M 0 N := by
        rcases hI with ⟨rfl, rfl⟩ | ⟨rfl, h1, h2⟩
        · refine ⟨hP2, ?_⟩
          by_cases c : t = 0
          · rw [c] at sD; exact sD
          · have e : 20 * t = N := by omega
            rw [e] at hS1
            exact hS1
        · exact ⟨h1, h2⟩
      (refine q_exit _ rfl ?_)
      refine q_end tabOk rfl (by repeat (first | exact RVs.nil | apply RVs.tmp rfl | apply RVs.cellA rfl rfl (by repeat first | exact .head _ | refine .tail _ ?_) (by rfl) | apply RVs.cell1 rfl rfl (by repeat first | exact .head _ | refine .tail _ ?_))) fun w hs => ?_
      exact ⟨M, ⟨rfl, hM.1, hM.2⟩, hs⟩
/-- Sorted by a key, up to 39 elements. -/
theorem sortW_ca (g c0 N : Nat) (B : List Int) (key : Int → Int) (cmp : Value) (cf : Int → Int → Int) (hcf : ∀ x ∈ B, ∀ y ∈ B, (cf x y < 0 ↔ key x < key y)) (hN : N ≤ 39) (w : World) (l : List Int) (hln : l.length = N) (hB : ∀ x ∈ l, x ∈ B) (hcmp : CmpS w g cmp cf B) (hb : w.ownsRow 0 3 1 (.slice (some ⟨g, 0, none⟩) N c0) N (ints l)) :
    Ca Tryz.prog 64 [(.slice (some ⟨g, 0, none⟩) N c0), cmp] w fun v w' => ∃ L : List Int, (v = .tuple #[] ∧ L.Perm l ∧ SrW key L 0 N) ∧ Sat w (fun x => x = g) [.ow (.slice (some ⟨g, 0, none⟩) N c0) 3 1 N (ints L)] w' := by
  refine q_of (Sat.own0 hb) Tryz.func64 rfl (by simp [Tryz.ntmps64]) ?_
  (refine q_region ?_; (iterate 4 refine ql_pure tabOk rfl rfl ?_))
  refine ql_call (β := List Int) (ψ := fun D v => v = .tuple #[] ∧ D.Perm l ∧ SrW key D 0 N) (L' := fun D => [.ow (.slice (some ⟨g, 0, none⟩) N c0) 3 1 N (ints D)]) tabOk [.ow (.slice (some ⟨g, 0, none⟩) N c0) 3 1 N (ints l)] _ (fun x => x = g) rfl rfl rfl rfl (Sp.cons (by repeat constructor) (Sp.refl _)) (fun x hx => ⟨_, .head _, by subst hx; rfl⟩) (fun w' hs => stabW_ca g c0 N B key cmp cf hcf hN w' l hln hB (hcmp.sub hs.chg) (hs.all _ (.head _))) ?_
  rintro D _ ⟨rfl, hD, sD⟩
  dsimp only [List.cons_append, List.nil_append]
  (refine q_nil ?_)
  refine q_end tabOk rfl (by repeat (first | exact RVs.nil | apply RVs.tmp rfl | apply RVs.cellA rfl rfl (by repeat first | exact .head _ | refine .tail _ ?_) (by rfl) | apply RVs.cell1 rfl rfl (by repeat first | exact .head _ | refine .tail _ ?_))) fun w hs => ?_
  exact ⟨D, ⟨rfl, hD, sD⟩, hs⟩
end Go.Proofs.YtpknmgafambmbaaGreat

/- Taken over from rifle,ski: what F4:gap_ok,F19:Blk.rdH' reach. Written by graft.py. -/
/- long -/
namespace Go.Proofs.YtpknmgafambmbaaGreat
open Go Go.Eng
/-- Sorted, also if there is nothing to be sorted. -/
theorem sortT_ca (w : World) (g c n : Nat) (key : Int → Int) (cmp : Value) (cf : Int → Int → Int) (hcf : ∀ a ∈ iotaL n, ∀ b ∈ iotaL n, (cf a b < 0 ↔ key a < key b)) (hl : n ≤ 39) (hcmp : CmpS w g cmp cf (iotaL n)) (hb : w.ownsRow 0 3 1 (.slice (some ⟨g, 0, none⟩) n c) n (ints (iotaL n))) :
    Ca Tryz.prog 64 [.slice (some ⟨g, 0, none⟩) n c, cmp] w fun v w' => ∃ L : List Int, (v = .tuple #[] ∧ L.Perm (iotaL n) ∧ SrW key L 0 n) ∧ Sat w (fun x => x = g) [.ow (.slice (some ⟨g, 0, none⟩) n c) 3 1 n (ints L)] w' :=
  sortW_ca g c n (iotaL n) key cmp cf hcf hl w (iotaL n) (iota_len n) (fun _ h => h) hcmp hb
/-- The order of the holds, those that reach farthest first. -/
structure LateO (L : List Hd) (Q : List Int) : Prop where
  len : Q.length = L.length
  bd : ∀ k, k < L.length → 0 ≤ Q.getD k 0 ∧ Q.getD k 0 < L.length
  all : ∀ j, j < L.length → ∃ k, k < L.length ∧ Q.getD k 0 = (j : Int)
  srt : ∀ p q, p < q → q < L.length → (hdL L (Q.getD q 0).toNat).t ≤ (hdL L (Q.getD p 0).toNat).t
theorem late_of {L : List Hd} {Q : List Int} (hp : Q.Perm (iotaL L.length)) (hs : SrW (fun i => -endK L i) Q 0 L.length) : LateO L Q := by
  have hl : Q.length = L.length := by rw [hp.length_eq, iota_len]
  refine ⟨hl, fun k hk => ?_, fun j hj => ?_, fun p q h1 h2 => ?_⟩
  · have hm : Q.getD k 0 ∈ Q := by
      rw [List.getD_eq_getElem?_getD, List.getElem?_eq_getElem (by omega), Option.getD_some]
      exact List.getElem_mem _
    exact iota_mem.1 (hp.subset hm)
  · have hm : (j : Int) ∈ Q := hp.symm.subset (iota_mem.2 ⟨by omega, by omega⟩)
    obtain ⟨k, hk, he⟩ := List.mem_iff_getElem.1 hm
    exact ⟨k, by omega, by rw [List.getD_eq_getElem?_getD, List.getElem?_eq_getElem hk, Option.getD_some, he]⟩
  · have h3 := hs p q (by omega) (by omega) h2
    unfold endK at h3
    dsimp only at h3
    omega
/-- The hold that reaches farthest of those that cover a minute. -/
theorem late_best {L : List Hd} {Q : List Int} (h : LateO L Q) {k : Nat} (hk : k < L.length) {m : Int} (hno : ∀ j, j < k → (hdL L (Q.getD j 0).toNat).cov m = false) : ∀ x ∈ L, x.cov m = true → x.t ≤ (hdL L (Q.getD k 0).toNat).t := by
  intro x hx hc
  obtain ⟨i, hi, rfl⟩ := hdL_of_mem hx
  obtain ⟨p, hp, he⟩ := h.all i hi
  rcases Nat.lt_trichotomy p k with h1 | h1 | h1
  · have := hno p h1
    rw [he, Int.toNat_natCast, hc] at this
    cases this
  · subst h1
    rw [he, Int.toNat_natCast]
    exact Int.le_refl _
  · have := h.srt k p h1 hp
    rw [he, Int.toNat_natCast] at this
    exact this
theorem late_none {L : List Hd} {Q : List Int} (h : LateO L Q) {m : Int} (hno : ∀ j, j < L.length → (hdL L (Q.getD j 0).toNat).cov m = false) : ∀ x ∈ L, x.cov m = false := by
  intro x hx
  obtain ⟨i, hi, rfl⟩ := hdL_of_mem hx
  obtain ⟨p, hp, he⟩ := h.all i hi
  have := hno p hp
  rwa [he, Int.toNat_natCast] at this
def nI (l : List Nat) : List Int := l.map fun (i : Nat) => (i : Int)
theorem nI_snoc (l : List Nat) (x : Nat) : ints (nI (l ++ [x])) = ints (nI l) ++ [.int .i64 x] := by simp [nI, ints]
def fillI (n k : Nat) : List Int := (List.range n).map fun (i : Nat) => if i < k then (i : Int) else 0
theorem fillI_zero (n : Nat) : List.replicate n (0 : Int) = fillI n 0 := List.ext_getElem (by simp [fillI]) fun i h1 h2 => by simp [fillI]
theorem fillI_full (n : Nat) : fillI n n = iotaL n := List.ext_getElem (by simp [fillI, iotaL]) fun i h1 h2 => by
  have : i < n := by simpa [fillI] using h1
  simp [fillI, iotaL, this]
theorem fillI_len (n k : Nat) : (fillI n k).length = n := by simp [fillI]
theorem fillI_set (n k : Nat) : (fillI n k).set k (k : Int) = fillI n (k + 1) := List.ext_getElem (by simp [fillI]) fun i h1 h2 => by
  rw [List.getElem_set]
  simp only [fillI, List.getElem_map, List.getElem_range]
  by_cases e : k = i
  · subst e
    rw [if_pos rfl, if_pos (by omega)]
  · rw [if_neg e]
    by_cases e2 : i < k
    · rw [if_pos e2, if_pos (by omega)]
    · rw [if_neg e2, if_neg (by omega)]
set_option maxHeartbeats 4000000 in
theorem links_ca (w : World) (lo hi : Nat) (v : Value) (L : List Hd) (h : RdH w lo hi v L) (hL : ∀ h ∈ L, 0 ≤ h.t ∧ h.t ≤ 10000) (hn : L.length ≤ 39) (a b : Int) (ha : 0 ≤ a ∧ a ≤ 10000) (hb : 0 ≤ b ∧ b ≤ 10000) :
    Ca Tryz.prog 47 [v, .int .i64 a, .int .i64 b] w fun x w' => ∃ y : (Value × List Nat) × (Value × List Int) × Int, (x = .tuple #[y.1.1, y.2.1.1, .int .i64 y.2.2] ∧ Lk L b a y.1.2 y.2.1.2 y.2.2) ∧ Sat w M0 [.ow y.1.1 3 1 y.1.2.length (ints (nI y.1.2)), .ow y.2.1.1 3 1 y.2.1.2.length (ints y.2.1.2)] w' := by
  obtain ⟨va, vc, rfl, hsa⟩ := RdH.outI h
  refine q_of (Sat.nil w M0) Tryz.func47 rfl (by simp [Tryz.ntmps47]) ?_
  (refine q_seq (q_region ?_))
  refine ql_box rfl rfl (fun b3 => ?_)
  ((iterate 3 refine ql_pure tabOk rfl rfl ?_); refine q_nil (q_seq (q_region ?_)); refine ql_loadB tabOk rfl rfl rfl (by repeat first | exact .head _ | refine .tail _ ?_) (by rfl) ?_; refine ql_pure tabOk rfl rfl ?_)
  refine ql_makeI slI rfl rfl rfl (by omega) (fun b9 => ?_)
  rw [fillI_zero]
  (refine ql_pure tabOk rfl rfl (q_nil (q_seq (q_seq (q_region ?_)))); refine ql_loadB tabOk rfl rfl rfl (by repeat first | exact .head _ | refine .tail _ ?_) (by rfl) ?_; refine ql_pure tabOk rfl rfl (ql_pure tabOk rfl rfl (q_nil (q_block ?_))))
  refine q_loop (σ := Nat) (fun k => k ≤ L.length) (fun k => L.length - k) (fun k => [(1, .int .i64 a), (2, .int .i64 b), (3, .pointer (some ⟨b3, 0, none⟩)), (6, .slice none 0 0), (7, .slice none 0 0), (9, .slice (some ⟨b9, 0, none⟩) L.length L.length), (20, .int .i64 L.length), (21, .int .i64 k)]) (fun k => [.pt b9 (ints (fillI L.length k)) 3, .pt b3 [.slice va L.length vc] 89]) 0 (by omega) ⟨rfl, rfl, rfl, rfl, rfl, rfl, rfl, rfl, trivial⟩ (by repeat (first | exact Sp.nil | exact Sp.refl _ | refine Sp.cons (by repeat constructor) ?_)) ?_
  rintro k hk K hK
  (refine q_seq (q_region (ql_pure tabOk rfl rfl (q_nil (q_seq ?_)))))
  refine q_if rfl (fun hc => ?_) (fun hc => ?_)
  · have hk2 : k < L.length := by omega
    clear hc
    have hkf : k < (fillI L.length k).length := by rw [fillI_len]; exact hk2
    (refine q_skip (q_seq (q_block (q_seq (q_region (ql_pure tabOk rfl rfl (ql_pure tabOk rfl rfl (q_nil (q_region ?_)))))))); (iterate 3 refine ql_pure tabOk rfl rfl ?_))
    refine ql_index tabOk rfl rfl rfl rfl rfl (by omega) (by omega) ?_
    refine ql_storeI tabOk (k) rfl rfl rfl (by repeat constructor) (by first | rfl | omega | simp) hkf ?_
    rw [fillI_set]
    (refine q_nil (q_blk (q_region (ql_ar tabOk rfl rfl rfl rfl (by omega) (by omega) (ql_pure tabOk rfl rfl (q_nil ?_))))))
    exact hK (k + 1) _ _ (by omega) (by omega) ⟨rfl, rfl, rfl, rfl, rfl, rfl, rfl, rfl, trivial⟩ (by repeat (first | exact Sp.nil | exact Sp.refl _ | refine Sp.cons (by repeat constructor) ?_))
  · obtain rfl : k = L.length := by omega
    clear hc hK hk
    rw [fillI_full]
    (refine q_exit _ rfl (q_seq (q_region ?_)); refine ql_loadB tabOk rfl rfl rfl (by repeat first | exact .head _ | refine .tail _ ?_) (by rfl) ?_; refine ql_pure tabOk rfl rfl ?_)
    refine ql_makeI slI rfl rfl rfl (by omega) (fun b5 => ?_)
    (refine ql_pure tabOk rfl rfl (q_nil (q_seq (q_region (ql_pure tabOk rfl rfl (ql_pure tabOk rfl rfl ?_))))))
    refine ql_copyR (et := 3) (news := ints (iotaL L.length)) (sz := 1) (o := 0) (by kernel_rfl) (by kernel_rfl) rfl rfl rfl (by repeat constructor) (by simp [ints, iota_len]) (by simp [ints, oneV]) (fun w hs => ⟨_, _, by have := Blk.rdN (c := L.length) (sz := 1) (q := L.length) (hs.blk (b := b9) (by repeat first | exact .head _ | refine .tail _ ?_)) (by simp [ints, iota_len]); exact this⟩) ?_
    have ec : List.take 0 (ints (List.replicate L.length 0)) ++ ints (iotaL L.length) ++ List.drop (0 + (ints (iotaL L.length)).length) (ints (List.replicate L.length 0)) = ints (iotaL L.length) := by
      rw [List.take_zero, List.nil_append, List.drop_of_length_le (by simp [ints, iota_len]), List.append_nil]
    rw [ec]
    refine ql_conv (H' := [.ow (.slice (some ⟨b5, 0, none⟩) L.length L.length) 3 1 L.length (ints (iotaL L.length)), .pt b9 (ints (iotaL L.length)) 3, .pt b3 [.slice va L.length vc] 89]) (fun w' hs => Sat.pt_ow (m := L.length) (by simp [ints, iota_len]) (by omega) hs) ?_
    (refine q_nil (q_seq (q_region (ql_pure tabOk rfl rfl (ql_pure tabOk rfl rfl ?_)))))
    refine ql_call (β := List Int) (ψ := fun Q v => v = .tuple #[] ∧ Q.Perm (iotaL L.length) ∧ SrW (fun i => -endK L i) Q 0 L.length) (L' := fun Q => [.ow (.slice (some ⟨b5, 0, none⟩) L.length L.length) 3 1 L.length (ints Q)]) tabOk [.ow (.slice (some ⟨b5, 0, none⟩) L.length L.length) 3 1 L.length (ints (iotaL L.length))] _ (fun x => x = b5) rfl rfl rfl rfl (Sp.cons (by repeat constructor) (Sp.refl _)) (fun x hx => ⟨_, .head _, by subst hx; rfl⟩) (fun w' hs => by
      have hcmp : CmpS w' b5 (.func (.func 65) #[] #[.pointer (some ⟨b3, 0, none⟩)]) (fun i j => endK L j - endK L i) (iotaL L.length) := fun w2 hc2 x hx y hy => by
        have hx2 := iota_mem.1 hx
        have hy2 := iota_mem.1 hy
        have hc3 : ChgP (DL [Ck.ow (.slice (some ⟨b5, 0, none⟩) L.length L.length) 3 1 L.length (ints (iotaL L.length))]) w' w2 := (ChgP.refl _ w').upP hc2 fun k hk => .inl ⟨_, .head _, by subst hk; rfl⟩
        have hb1 : Blk w2 b3 [.slice va L.length vc] 89 := hs.aside hc3 (x := .pt b3 [.slice va L.length vc] 89) (by repeat first | exact .head _ | refine .tail _ ?_)
        have hc4 := hs.asideOld hc3
        obtain ⟨i, rfl⟩ := Int.eq_ofNat_of_zero_le hx2.1
        obtain ⟨j, rfl⟩ := Int.eq_ofNat_of_zero_le hy2.1
        exact CaF.of tabOk rfl (links1_ca w2 lo hi b3 _ _ _ L (RdE.keep h hc4) hb1 hL i j (by omega) (by omega))
      exact sortT_ca w' b5 L.length L.length (fun i => -endK L i) _ _ (fun x hx y hy => by omega) hn hcmp (hs.all _ (.head _))) ?_
    rintro Q _ ⟨rfl, hp, hso⟩
    have hQ := late_of hp hso
    clear hp hso
    have hQl := hQ.len
    dsimp only [List.cons_append, List.nil_append]
    refine ql_conv (H' := [.ow (.slice none 0 0) 3 1 0 [], .ow (.slice none 0 0) 3 1 0 [], .ow (.slice (some ⟨b5, 0, none⟩) L.length L.length) 3 1 L.length (ints Q), .pt b3 [.slice va L.length vc] 89]) (fun w' hs => (Sat.ownil (Sat.ownil (hs.sp (H' := [.ow (.slice (some ⟨b5, 0, none⟩) L.length L.length) 3 1 L.length (ints Q), .pt b3 [.slice va L.length vc] 89]) (by repeat (first | exact Sp.nil | exact Sp.refl _ | refine Sp.cons (by repeat constructor) ?_))) 3 1) 3 1)) ?_
    (refine q_nil (q_seq (q_block ?_)))
    refine q_loop (σ := (Int × Value × Value) × List Nat × List Int) (fun z => (0 ≤ z.1.1 ∧ z.1.1 ≤ 10000 ∧ a ≤ z.1.1) ∧ z.2.1.length = z.2.2.length ∧ (z.2.1.length : Int) ≤ z.1.1 - a ∧ ∀ hs' ms' e, Lk L b z.1.1 hs' ms' e → Lk L b a (z.2.1 ++ hs') (z.2.2 ++ ms') e) (fun z => (b - z.1.1).toNat) (fun z => [(1, .int .i64 z.1.1), (2, .int .i64 b), (3, .pointer (some ⟨b3, 0, none⟩)), (6, z.1.2.1), (7, z.1.2.2), (11, .slice (some ⟨b5, 0, none⟩) L.length L.length)]) (fun z => [.ow z.1.2.1 3 1 z.2.1.length (ints (nI z.2.1)), .ow z.1.2.2 3 1 z.2.2.length (ints z.2.2), .ow (.slice (some ⟨b5, 0, none⟩) L.length L.length) 3 1 L.length (ints Q), .pt b3 [.slice va L.length vc] 89]) ((a, .slice none 0 0, .slice none 0 0), [], []) ⟨⟨ha.1, ha.2, Int.le_refl _⟩, rfl, by simp, fun _ _ _ h => h⟩ ⟨rfl, rfl, rfl, rfl, rfl, rfl, trivial⟩ (by repeat (first | exact Sp.nil | exact Sp.refl _ | refine Sp.cons (by repeat constructor) ?_)) ?_
    rintro ⟨⟨cur, u6, u7⟩, hsl, ms⟩ ⟨⟨hc0, hc1, hc2⟩, hlen, hle, hcont⟩ K hK
    dsimp only at hc0 hc1 hc2 hlen hle hcont hK ⊢
    (refine q_seq (q_seq (q_region ?_)); (iterate 3 refine ql_pure tabOk rfl rfl ?_); refine q_nil ?_)
    refine q_if rfl (fun hc => ?_) (fun hc => ?_)
    · have hcb : cur < b := by simpa using hc
      clear hc
      (refine q_skip (q_block ?_))
      refine q_scope (fun _ _ _ h => h) ?_
      (refine q_seq (q_region (ql_pure tabOk rfl rfl (q_nil (q_seq (q_label (q_seq (q_seq (q_region ?_)))))))); (iterate 3 refine ql_pure tabOk rfl rfl ?_); refine q_nil (q_block ?_))
      refine q_loop (σ := Nat) (fun k => k ≤ L.length ∧ ∀ j, j < k → (hdL L (Q.getD j 0).toNat).cov cur = false) (fun k => L.length - k) (fun k => [(1, .int .i64 cur), (2, .int .i64 b), (3, .pointer (some ⟨b3, 0, none⟩)), (6, u6), (7, u7), (11, .slice (some ⟨b5, 0, none⟩) L.length L.length), (12, .int .i64 (-1)), (41, .slice (some ⟨b5, 0, none⟩) L.length L.length), (42, .int .i64 L.length), (43, .int .i64 k)]) (fun _ => [.ow u6 3 1 hsl.length (ints (nI hsl)), .ow u7 3 1 ms.length (ints ms), .ow (.slice (some ⟨b5, 0, none⟩) L.length L.length) 3 1 L.length (ints Q), .pt b3 [.slice va L.length vc] 89]) 0 ⟨by omega, fun j hj => absurd hj (by omega)⟩ ⟨rfl, rfl, rfl, rfl, rfl, rfl, rfl, rfl, rfl, rfl, trivial⟩ (by repeat (first | exact Sp.nil | exact Sp.refl _ | refine Sp.cons (by repeat constructor) ?_)) ?_
      rintro k ⟨hk, hno⟩ K2 hK2
      (refine q_seq (q_region (ql_pure tabOk rfl rfl (q_nil (q_seq ?_)))))
      refine q_if rfl (fun hc => ?_) (fun hc => ?_)
      · have hk2 : k < L.length := by omega
        clear hc
        obtain ⟨q0, q1⟩ := hQ.bd k hk2
        obtain ⟨i, hi⟩ := Int.eq_ofNat_of_zero_le q0
        have hkQ : k < Q.length := by omega
        have hQk : Q[k] = (i : Int) := by
          rw [List.getD_eq_getElem?_getD, List.getElem?_eq_getElem hkQ, Option.getD_some] at hi
          exact hi
        have hil : i < L.length := by rw [hi] at q1; omega
        have hLi : hdL L i = L[i] := by
          unfold hdL
          rw [List.getD_eq_getElem?_getD, List.getElem?_eq_getElem hil, Option.getD_some]
        have hti := hL _ (List.getElem_mem hil)
        obtain ⟨ab, ao, rfl⟩ := hsa (by omega)
        (refine q_skip (q_seq (q_block (q_seq (q_region ?_)))))
        refine ql_index tabOk rfl rfl rfl rfl rfl (by omega) (by omega) ?_
        refine ql_load1 (v := .int .i64 i) tabOk rfl rfl rfl (fun w hs => by
          have := RdI.at (hs.rdI (v := .slice (some ⟨b5, 0, none⟩) L.length L.length) (l := Q) (t := 3) (n := L.length) (by repeat first | exact .head _ | refine .tail _ ?_) hQl.symm) k hkQ
          rw [hQk] at this
          exact this) ?_
        (refine ql_pure tabOk rfl rfl (q_nil (q_seq (q_region ?_))); refine ql_loadB tabOk rfl rfl rfl (by repeat first | exact .head _ | refine .tail _ ?_) (by rfl) ?_; refine ql_pure tabOk rfl rfl ?_)
        refine ql_index tabOk rfl rfl rfl rfl rfl (by omega) (by omega) ?_
        refine ql_loadA (cs := [.int .i64 L[i].who, .int .i64 L[i].f, .int .i64 L[i].t]) tabOk rfl rfl rfl rfl (fun w hs q hq => RdH.at (RdE.keep h hs.chg0) i hil q hq) ?_
        (refine ql_pure tabOk rfl rfl (ql_pure tabOk rfl rfl (q_nil (q_seq (q_region (ql_pure tabOk rfl rfl (ql_pure tabOk rfl rfl ?_)))))))
        refine ql_callv (val := .bool ((L[i]).cov cur)) tabOk rfl rfl rfl rfl (fun w hs => ?_) ?_; exact covers_ca L[i] cur w
        cases hcv : (L[i]).cov cur with
        | false =>
          (refine q_nil (q_cond_false rfl (q_skip (q_blk (q_region (ql_ar tabOk rfl rfl rfl rfl (by omega) (by omega) (ql_pure tabOk rfl rfl (q_nil ?_))))))))
          exact hK2 (k + 1) _ _ ⟨by omega, fun j hj => by
            by_cases e : j = k
            · subst e
              rw [hi]
              show (hdL L i).cov cur = false
              rw [hLi]
              exact hcv
            · exact hno j (by omega)⟩ (by omega) ⟨rfl, rfl, rfl, rfl, rfl, rfl, rfl, rfl, rfl, rfl, trivial⟩ (by repeat (first | exact Sp.nil | exact Sp.refl _ | refine Sp.cons (by repeat constructor) ?_))
        | true =>
          have hcv2 := Hd.cov_iff.1 hcv
          have hbest : ∀ h ∈ L, h.cov cur = true → h.t ≤ (hdL L i).t := by
            have := late_best hQ hk2 hno
            rw [hi] at this
            exact this
          have hml : ms.length ≤ 10000 := by omega
          (refine q_nil (q_cond_true rfl (q_seq (q_region (ql_pure tabOk rfl rfl (ql_pure tabOk rfl rfl (q_nil (q_exit _ rfl (q_seq (q_seq (q_region (ql_pure tabOk rfl rfl ?_))))))))))); refine ql_eqlF tabOk rfl rfl rfl (by omega) (q_nil (q_cond_false rfl (q_skip (q_seq (q_region (ql_pure tabOk rfl rfl (ql_pure tabOk rfl rfl ?_))))))))
          refine ql_mkS 3 [.int .i64 i] rfl (by kernel_rfl) rfl (fun bn => ?_)
          skip
          refine ql_append (q := 1) (news := [.int .i64 i]) slI rfl rfl rfl (fun v' => by repeat constructor) (fun w' hs => ⟨_, _, Blk.rdN (hs.blk (b := bn) (by repeat first | exact .head _ | refine .tail _ ?_)) rfl⟩) (by simp [oneV]) (by omega) (by omega) (fun u6' => ?_)
          (refine ql_pure tabOk rfl rfl (ql_pure tabOk rfl rfl ?_))
          refine ql_mkS 3 [.int .i64 cur] rfl (by kernel_rfl) rfl (fun bn2 => ?_)
          skip
          refine ql_append (q := 1) (news := [.int .i64 cur]) slI rfl rfl rfl (fun v' => by repeat constructor) (fun w' hs => ⟨_, _, Blk.rdN (hs.blk (b := bn2) (by repeat first | exact .head _ | refine .tail _ ?_)) rfl⟩) (by simp [oneV]) (by omega) (by omega) (fun u7' => ?_)
          (refine ql_pure tabOk rfl rfl (ql_pure tabOk rfl rfl (q_nil (q_region ?_))); refine ql_loadB tabOk rfl rfl rfl (by repeat first | exact .head _ | refine .tail _ ?_) (by rfl) ?_; refine ql_pure tabOk rfl rfl ?_)
          refine ql_index tabOk rfl rfl rfl rfl rfl (by omega) (by omega) ?_
          (refine ql_pure tabOk rfl rfl ?_)
          refine ql_load1 (v := .int .i64 L[i].t) tabOk rfl rfl rfl (fun w hs => RdH.at2 (RdE.keep h hs.chg0) i hil) ?_
          (refine ql_pure tabOk rfl rfl (q_nil (q_blk ?_)))
          exact hK ((L[i].t, u6', u7'), hsl ++ [i], ms ++ [cur]) _ _ ⟨⟨by simp only; omega, by simp only; omega, by simp only; omega⟩, by simp [hlen], by simp only [List.length_append, List.length_singleton]; omega, fun hs' ms' e hh => by
            have h1 := hcont (i :: hs') (cur :: ms') e (.step hcb hil (by rw [hLi]; exact hcv) hbest (by rw [hLi]; exact hh))
            rw [List.append_assoc, List.append_assoc]
            exact h1⟩ (by simp only; omega) ⟨rfl, rfl, rfl, rfl, rfl, rfl, trivial⟩ (by dsimp only; rw [nI_snoc, show ints (ms ++ [cur]) = ints ms ++ [.int .i64 cur] from by simp [ints], List.length_append, List.length_append, List.length_singleton, List.length_singleton]; repeat (first | exact Sp.nil | exact Sp.refl _ | refine Sp.cons (by repeat constructor) ?_))
      · obtain rfl : k = L.length := by omega
        clear hc hK2 hk
        (refine q_exit _ rfl (q_seq (q_seq (q_region (ql_pure tabOk rfl rfl (ql_eqlT tabOk rfl rfl rfl (by omega) (q_nil (q_cond_true rfl (q_seq (q_region ?_))))))))); (iterate 6 refine ql_pure tabOk rfl rfl ?_); refine q_nil (q_ret ?_))
        refine q_fin tabOk rfl (by repeat (first | exact RVs.nil | apply RVs.tmp rfl | apply RVs.cellA rfl rfl (by repeat first | exact .head _ | refine .tail _ ?_) (by rfl) | apply RVs.cell1 rfl rfl (by repeat first | exact .head _ | refine .tail _ ?_))) fun w hs => ?_
        exact ⟨((u6, hsl), (u7, ms), cur), ⟨rfl, by have := hcont [] [] cur (.gap hcb (late_none hQ hno)); rwa [List.append_nil, List.append_nil] at this⟩, hs.sp (by repeat (first | exact Sp.nil | exact Sp.refl _ | refine Sp.cons (by repeat constructor) ?_))⟩
    · have hcb : b ≤ cur := by simpa using hc
      (refine q_exit _ rfl (q_seq (q_region ?_)); (iterate 6 refine ql_pure tabOk rfl rfl ?_); refine q_nil (q_ret ?_))
      refine q_fin tabOk rfl (by repeat (first | exact RVs.nil | apply RVs.tmp rfl | apply RVs.cellA rfl rfl (by repeat first | exact .head _ | refine .tail _ ?_) (by rfl) | apply RVs.cell1 rfl rfl (by repeat first | exact .head _ | refine .tail _ ?_))) fun w hs => ?_
      exact ⟨((u6, hsl), (u7, ms), b), ⟨rfl, by have := hcont [] [] b (.done hcb); rwa [List.append_nil, List.append_nil] at this⟩, hs.sp (by repeat (first | exact Sp.nil | exact Sp.refl _ | refine Sp.cons (by repeat constructor) ?_))⟩
/-- The error of a guard and a span. -/
def chkSp (L : List Hd) (a b : Int) : Int := if chkG L ≠ 0 then chkG L else if (0 ≤ a ∧ a ≤ 10000) ∧ a < b ∧ b ≤ 10000 then 0 else 3
structure SpOk (L : List Hd) (a b : Int) : Prop where
  g : GOk L
  ra : 0 ≤ a ∧ a ≤ 10000
  rb : a < b ∧ b ≤ 10000
theorem chkSp_zero {L : List Hd} {a b : Int} : chkSp L a b = 0 ↔ SpOk L a b := by
  unfold chkSp
  constructor
  · intro h
    split at h
    · omega
    split at h
    · rename_i h1 h2
      exact ⟨chkG_zero.1 (by simpa using h1), h2.1, h2.2⟩
    · omega
  · intro h
    rw [if_neg (by rw [chkG_zero.2 h.g]; simp), if_pos ⟨h.ra, h.rb⟩]
theorem spanned_ca (w : World) (lo hi : Nat) (L : List Hd) (v : Value) (a b : Int) (h : RdH w lo hi v L) (hlen : L.length ≤ maxLen) : Ca Tryz.prog 46 [v, .int .i64 a, .int .i64 b] w fun x w' => x = .int .i64 (chkSp L a b) ∧ Chg [] w w' := by
  refine q_of (Sat.nil w M0) Tryz.func46 rfl (by simp [Tryz.ntmps46]) ?_
  (refine q_seq (q_region (ql_pure tabOk rfl rfl (q_nil (q_seq (q_seq (q_region (ql_pure tabOk rfl rfl ?_))))))))
  refine ql_callv (val := .int .i64 (chkG L)) tabOk rfl rfl rfl rfl (fun w hs => ?_) ?_; exact checkG_ca w lo hi L v (RdE.keep h hs.chg0) hlen
  by_cases h0 : chkG L = 0
  · have e0 : chkSp L a b = if (0 ≤ a ∧ a ≤ 10000) ∧ a < b ∧ b ≤ 10000 then 0 else 3 := by
      unfold chkSp
      rw [if_neg (by simpa using h0)]
    rw [e0]
    (refine ql_pure tabOk rfl rfl (q_nil (q_seq (q_region (ql_pure tabOk rfl rfl (ql_neqF tabOk rfl rfl rfl (by omega) (q_nil (q_cond_false rfl (q_skip (q_seq (q_seq (q_region ?_))))))))))); refine ql_pure tabOk rfl rfl ?_)
    refine ql_callv (val := .bool (rinB a 0 10000)) tabOk rfl rfl rfl rfl (fun w hs => ?_) ?_; exact rfin_ca a 0 10000 w
    by_cases h1 : 0 ≤ a ∧ a ≤ 10000
    · rw [rinB_iff.2 h1]
      by_cases h2 : a < b
      · by_cases h3 : b ≤ 10000
        · (refine ql_pure tabOk rfl rfl (ql_pure tabOk rfl rfl (ql_gyes rfl (ql_pure tabOk rfl rfl (ql_gyes rfl (ql_pure tabOk rfl rfl (ql_gyes rfl (ql_leqF tabOk rfl rfl rfl (by omega) (ql_pure tabOk rfl rfl (ql_pure tabOk rfl rfl (ql_gyes rfl (ql_pure tabOk rfl rfl ?_))))))))))); refine ql_gyes rfl (ql_gtrF tabOk rfl rfl rfl (by omega) (ql_pure tabOk rfl rfl (q_nil (q_cond_false rfl (q_skip (q_seq (q_region (ql_pure tabOk rfl rfl (q_nil (q_ret ?_)))))))))))
          refine q_fin tabOk rfl (by repeat (first | exact RVs.nil | apply RVs.tmp rfl | apply RVs.cellA rfl rfl (by repeat first | exact .head _ | refine .tail _ ?_) (by rfl) | apply RVs.cell1 rfl rfl (by repeat first | exact .head _ | refine .tail _ ?_))) fun w hs => ?_
          exact ⟨by rw [if_pos ⟨h1, h2, h3⟩]; rfl, hs.chg0⟩
        · (refine ql_pure tabOk rfl rfl (ql_pure tabOk rfl rfl (ql_gyes rfl (ql_pure tabOk rfl rfl (ql_gyes rfl (ql_pure tabOk rfl rfl (ql_gyes rfl (ql_leqF tabOk rfl rfl rfl (by omega) (ql_pure tabOk rfl rfl (ql_pure tabOk rfl rfl (ql_gyes rfl (ql_pure tabOk rfl rfl ?_))))))))))); refine ql_gyes rfl (ql_gtrT tabOk rfl rfl rfl (by omega) (ql_pure tabOk rfl rfl (q_nil (q_cond_true rfl (q_seq (q_region (ql_pure tabOk rfl rfl (q_nil (q_ret ?_))))))))))
          refine q_fin tabOk rfl (by repeat (first | exact RVs.nil | apply RVs.tmp rfl | apply RVs.cellA rfl rfl (by repeat first | exact .head _ | refine .tail _ ?_) (by rfl) | apply RVs.cell1 rfl rfl (by repeat first | exact .head _ | refine .tail _ ?_))) fun w hs => ?_
          exact ⟨by rw [if_neg (fun e => h3 e.2.2)]; rfl, hs.chg0⟩
      · (refine ql_pure tabOk rfl rfl (ql_pure tabOk rfl rfl (ql_gyes rfl (ql_pure tabOk rfl rfl (ql_gyes rfl (ql_pure tabOk rfl rfl (ql_gyes rfl (ql_leqT tabOk rfl rfl rfl (by omega) (ql_pure tabOk rfl rfl (ql_pure tabOk rfl rfl (ql_gno rfl rfl rfl (ql_gno rfl rfl rfl ?_))))))))))); refine ql_pure tabOk rfl rfl (q_nil (q_cond_true rfl (q_seq (q_region (ql_pure tabOk rfl rfl (q_nil (q_ret ?_))))))))
        refine q_fin tabOk rfl (by repeat (first | exact RVs.nil | apply RVs.tmp rfl | apply RVs.cellA rfl rfl (by repeat first | exact .head _ | refine .tail _ ?_) (by rfl) | apply RVs.cell1 rfl rfl (by repeat first | exact .head _ | refine .tail _ ?_))) fun w hs => ?_
        exact ⟨by rw [if_neg (fun e => h2 e.2.1)]; rfl, hs.chg0⟩
    · rw [show rinB a 0 10000 = false from by rw [← Bool.not_eq_true, rinB_iff]; exact h1]
      (refine ql_pure tabOk rfl rfl (ql_pure tabOk rfl rfl ?_); (iterate 3 refine ql_gno rfl rfl rfl ?_); refine ql_pure tabOk rfl rfl (ql_pure tabOk rfl rfl (ql_gno rfl rfl rfl (ql_gno rfl rfl rfl (ql_pure tabOk rfl rfl (q_nil (q_cond_true rfl (q_seq (q_region (ql_pure tabOk rfl rfl (q_nil (q_ret ?_))))))))))))
      refine q_fin tabOk rfl (by repeat (first | exact RVs.nil | apply RVs.tmp rfl | apply RVs.cellA rfl rfl (by repeat first | exact .head _ | refine .tail _ ?_) (by rfl) | apply RVs.cell1 rfl rfl (by repeat first | exact .head _ | refine .tail _ ?_))) fun w hs => ?_
      exact ⟨by rw [if_neg (fun e => h1 e.1)]; rfl, hs.chg0⟩
  · have e0 : chkSp L a b = chkG L := by
      unfold chkSp
      rw [if_pos h0]
    rw [e0]
    (refine ql_pure tabOk rfl rfl (q_nil (q_seq (q_region (ql_pure tabOk rfl rfl (ql_neqT tabOk rfl rfl rfl (by omega) (q_nil (q_cond_true rfl (q_seq (q_region (ql_pure tabOk rfl rfl (ql_pure tabOk rfl rfl ?_))))))))))); refine q_nil (q_ret ?_))
    refine q_fin tabOk rfl (by repeat (first | exact RVs.nil | apply RVs.tmp rfl | apply RVs.cellA rfl rfl (by repeat first | exact .head _ | refine .tail _ ?_) (by rfl) | apply RVs.cell1 rfl rfl (by repeat first | exact .head _ | refine .tail _ ?_))) fun w hs => ?_
    exact ⟨rfl, hs.chg0⟩
/-- What Gap answers. -/
def GapR (L : List Hd) (a b : Int) (g e : Int) : Prop := (e = 0 ∧ (a ≤ g ∧ g < b) ∧ Gd L a g ∧ ∀ x ∈ L, x.cov g = false) ∨ (e = 6 ∧ g = 0 ∧ Gd L a b)
theorem gap_ok (w : World) (lo hi : Nat) (L : List Hd) (v : Value) (a b : Int) (h : RdH w lo hi v L) (hn : L.length ≤ 39) (h0 : SpOk L a b) : Ca Tryz.prog 29 [v, .int .i64 a, .int .i64 b] w fun x w' => ∃ y : Int × Int, (x = .tuple #[.int .i64 y.1, .int .i64 y.2] ∧ GapR L a b y.1 y.2) ∧ Sat w M0 [] w' := by
  have ha := h0.ra
  have hb := h0.rb
  refine q_of (Sat.nil w M0) Tryz.func29 rfl (by simp [Tryz.ntmps29]) ?_
  (refine q_seq (q_region (ql_pure tabOk rfl rfl (ql_pure tabOk rfl rfl (q_nil (q_seq (q_seq (q_region ?_))))))); (iterate 3 refine ql_pure tabOk rfl rfl ?_))
  refine ql_callv (val := .int .i64 0) tabOk rfl rfl rfl rfl (fun w hs => ?_) ?_; exact by have := spanned_ca w lo hi L v a b (RdE.keep h hs.chg0) (by simp only [maxLen]; omega); rw [chkSp_zero.2 h0] at this; exact this
  (refine ql_pure tabOk rfl rfl (q_nil (q_seq (q_region (ql_pure tabOk rfl rfl (ql_neqF tabOk rfl rfl rfl (by omega) (q_nil (q_cond_false rfl (q_skip (q_seq (q_region ?_)))))))))); (iterate 3 refine ql_pure tabOk rfl rfl ?_))
  refine ql_call (β := (Value × List Nat) × (Value × List Int) × Int) tabOk [] _ M0 rfl rfl rfl rfl (Sp.refl _) (fun _ h => h.elim) (fun w' hs => links_ca w' lo hi v L (RdE.keep h hs.chg0) (fun x hx => by have := h0.g.all x hx; omega) hn a b ha (by omega)) ?_
  rintro ⟨⟨u, hl⟩, ⟨u2, ms⟩, e⟩ _ ⟨rfl, hlk⟩
  dsimp only [List.cons_append, List.nil_append] at hlk ⊢
  have hle := hlk.le
  by_cases he : e = b
  · subst he
    (refine ql_pure tabOk rfl rfl ?_; (iterate 3 refine ql_ext tabOk rfl rfl rfl ?_); (iterate 3 refine ql_pure tabOk rfl rfl ?_); refine q_nil (q_seq (q_seq (q_region (ql_pure tabOk rfl rfl (ql_pure tabOk rfl rfl (ql_eqlT tabOk rfl rfl rfl (by omega) (q_nil (q_cond_true rfl (q_seq (q_region (ql_pure tabOk rfl rfl ?_))))))))))); refine ql_pure tabOk rfl rfl (q_nil (q_ret ?_)))
    refine q_fin tabOk rfl (by repeat (first | exact RVs.nil | apply RVs.tmp rfl | apply RVs.cellA rfl rfl (by repeat first | exact .head _ | refine .tail _ ?_) (by rfl) | apply RVs.cell1 rfl rfl (by repeat first | exact .head _ | refine .tail _ ?_))) fun w hs => ?_
    exact ⟨(0, 6), ⟨rfl, .inr ⟨rfl, rfl, (hlk.full (by omega)).1 rfl⟩⟩, hs.sp (by repeat (first | exact Sp.nil | exact Sp.refl _ | refine Sp.cons (by repeat constructor) ?_))⟩
  · (refine ql_pure tabOk rfl rfl ?_; (iterate 3 refine ql_ext tabOk rfl rfl rfl ?_); (iterate 3 refine ql_pure tabOk rfl rfl ?_); refine q_nil (q_seq (q_seq (q_region (ql_pure tabOk rfl rfl (ql_pure tabOk rfl rfl (ql_eqlF tabOk rfl rfl rfl (by omega) (q_nil (q_cond_false rfl (q_skip (q_seq (q_region ?_))))))))))); (iterate 3 refine ql_pure tabOk rfl rfl ?_); refine q_nil (q_ret ?_))
    refine q_fin tabOk rfl (by repeat (first | exact RVs.nil | apply RVs.tmp rfl | apply RVs.cellA rfl rfl (by repeat first | exact .head _ | refine .tail _ ?_) (by rfl) | apply RVs.cell1 rfl rfl (by repeat first | exact .head _ | refine .tail _ ?_))) fun w hs => ?_
    exact ⟨(e, 0), ⟨rfl, .inl ⟨rfl, by omega, hlk.gd.sub hlk.sub, hlk.end (by omega)⟩⟩, hs.sp (by repeat (first | exact Sp.nil | exact Sp.refl _ | refine Sp.cons (by repeat constructor) ?_))⟩
/-- A scale as cells. -/
abbrev scC (s : Sc) (tv rv : Value) : List Value := [.int .i64 s.err, .int .i64 s.least, tv, rv]
/-- A scale that can be read. -/
structure ScR (w : World) (lo hi : Nat) (tv rv : Value) (s : Sc) : Prop where
  t : RdS w lo hi tv s.tests
  r : RdI w lo hi rv s.rifles
theorem ScR.keep {w w' : World} {lo hi : Nat} {tv rv : Value} {s : Sc} (h : ScR w lo hi tv rv s) (c : Chg [] w w') : ScR w' lo hi tv rv s := ⟨RdE.keep h.t c, RdE.keep h.r c⟩
/-- What is known, as cells. -/
abbrev knC (k : Kn) : List Value := .int .i64 k.lo :: .int .i64 k.hi :: (bools k.p ++ bools k.f)
/-- A desk's cells. -/
abbrev dskC (s : Sc) (tv rv : Value) (k : Kn) : List Value := scC s tv rv ++ knC k
/-- What is known, with bounds for sums. -/
structure Kn.Bd (k : Kn) : Prop where
  p8 : k.p.length = 8
  f8 : k.f.length = 8
  lo : -100000 ≤ k.lo ∧ k.lo ≤ 100000
  hi : -100000 ≤ k.hi ∧ k.hi ≤ 100000
theorem Kn.Fit.bd {k : Kn} (h : k.Fit) : k.Bd := ⟨h.p8, h.f8, by have := h.lo; have := h.hi; have := h.le; omega, by have := h.lo; have := h.hi; have := h.le; omega⟩
theorem Blk.rdH' {w : World} {b c n : Nat} {l : List Hd} {t : TypeId} (h : Blk w b (hdC l) t) (hn : n = l.length) : RdH w 0 w.heap.size (.slice (some ⟨b, 0, none⟩) n c) l := by
  subst hn
  exact RdH.of (Blk.rdN (sz := 3) h (hdC_length l))
end Go.Proofs.YtpknmgafambmbaaGreat

/- Walk: a winter in which snow is needed besides on one day. -/
namespace Go.Proofs.YtpknmgafambmbaaGreat
open Go Go.Eng
theorem raced_ca (w : World) (lo hi bw bj : Nat) (x : Wn) (a : Option Addr) (c j : Nat) (n : Int) {t1 t2 : TypeId} (hx : WinS x) (hj : j < x.days.length) (hn : 0 ≤ n ∧ n ≤ 90000) (hbw : Blk w bw [.int .i64 x.stock, .int .i64 x.store, .slice a x.days.length c] t1) (hbj : Blk w bj [.int .i64 j] t2) (hrd : RdD w lo hi (.slice a x.days.length c) x.days) :
    Ca Tryz.prog 7 [.int .i64 n, .pointer (some ⟨bw, 0, none⟩), .pointer (some ⟨bj, 0, none⟩)] w fun v w' => ∃ y : Nat × Nat × List Value, v = .agg #[.int .i64 x.stock, .int .i64 x.store, .slice (some ⟨y.1, 0, none⟩) x.days.length y.2.1] ∧ Sat w M0 [dyB y.1 (rcL x.days j n) y.2.2] w' := by
  have hl1 := hx.d1
  have hl2 := hx.d2
  refine q_of (Sat.nil w M0) Tryz.func7 rfl (by simp [Tryz.ntmps7]) ?_
  (refine q_seq (q_region ?_))
  refine ql_alloc zero34 rfl (fun b4 => ?_)
  (refine q_nil (q_seq (q_region ?_)); refine ql_loadPA tabOk rfl rfl rfl (by assumption) (by rfl) (by rfl) ?_)
  refine ql_call (β := Option Addr × Nat) tabOk [] _ M0 rfl rfl rfl rfl (Sp.refl _) (fun _ h => h.elim) (fun w' hs => cloneW_ca w' lo hi x a c (RdE.keep hrd hs.chg0) (by omega)) ?_
  rintro ⟨ra, rc⟩ _ rfl
  dsimp only [List.cons_append, List.nil_append]
  refine ql_alloc zero34 rfl (fun b5 => ?_)
  (refine ql_setA tabOk rfl rfl rfl rfl rfl (by repeat constructor) rfl ?_; refine q_nil (q_seq ?_))
  have e0 : x.days.set j x.days[j] = x.days := List.set_getElem_self hj
  have e1 : rcL x.days j n = x.days.set j (snD x.days[j] n) := by unfold rcL; rw [List.getD_eq_getElem?_getD, List.getElem?_eq_getElem hj, Option.getD_some]
  have hD := hx.days _ (List.getElem_mem hj)
  rw [e1]
  refine q_conv (H' := .ow (.slice ra x.days.length rc) 38 6 x.days.length (dyC x.days) :: [.pt b5 [.int .i64 x.stock, .int .i64 x.store, .slice ra x.days.length rc] 34, .pt b4 [.int .i64 0, .int .i64 0, .slice none 0 0] 34]) (fun w' hs => hs.sp (by repeat constructor)) ?_
  refine q_ow (by omega) ?_
  rintro g2 c3 sp zz
  cases zz
  refine q_conv (H' := [.pt g2 (dyC (x.days.set j x.days[j]) ++ sp) 38, .pt b5 [.int .i64 x.stock, .int .i64 x.store, .slice (some ⟨g2, 0, none⟩) x.days.length rc] 34, .pt b4 [.int .i64 0, .int .i64 0, .slice none 0 0] 34]) (fun w' hs => by rw [e0]; exact hs.sp (by repeat constructor)) ?_
  clear e0 e1
  generalize x.days[j] = d at *
  obtain ⟨n0, n1, m0, m1, l0, l1⟩ := d
  have hDn := hD.n
  dsimp only at hDn
  (refine q_region (ql_pure tabOk rfl rfl ?_); refine ql_loadBa tabOk rfl rfl rfl ?_; refine ql_loadP tabOk rfl rfl rfl (by assumption) (by rfl) ?_)
  refine ql_index tabOk rfl rfl rfl rfl rfl (by omega) (by omega) ?_
  (refine ql_pure tabOk rfl rfl (ql_pure tabOk rfl rfl ?_))
  refine ql_load1 (v := .int .i64 n0) tabOk rfl rfl rfl (fun w hs => dy_cell2 (hs.blk (by repeat constructor)) hj 0 0 (by decide)) ?_
  (refine ql_pure tabOk rfl rfl (ql_ar tabOk rfl rfl rfl rfl (by omega) (by omega) ?_))
  refine ql_index tabOk rfl rfl rfl rfl rfl (by omega) (by omega) ?_
  (refine ql_pure tabOk rfl rfl (ql_pure tabOk rfl rfl ?_))
  refine ql_dyT (l := x.days) tabOk j 0 ⟨n0 + n, n1, m0, m1, l0, l1⟩ rfl rfl rfl (by omega) (by decide) hj rfl (by repeat constructor) ?_
  (refine q_nil (q_seq (q_region (ql_pure tabOk rfl rfl ?_))); refine ql_loadBa tabOk rfl rfl rfl ?_; refine ql_loadP tabOk rfl rfl rfl (by assumption) (by rfl) ?_)
  refine ql_index tabOk rfl rfl rfl rfl rfl (by omega) (by omega) ?_
  (refine ql_pure tabOk rfl rfl (ql_pure tabOk rfl rfl ?_))
  refine ql_load1 (v := .int .i64 n1) tabOk rfl rfl rfl (fun w hs => dy_cell2 (hs.blk (by repeat constructor)) hj 0 1 (by decide)) ?_
  (refine ql_pure tabOk rfl rfl (ql_ar tabOk rfl rfl rfl rfl (by omega) (by omega) ?_))
  refine ql_index tabOk rfl rfl rfl rfl rfl (by omega) (by omega) ?_
  (refine ql_pure tabOk rfl rfl (ql_pure tabOk rfl rfl ?_))
  refine ql_dyT (l := x.days) tabOk j 1 ⟨n0 + n, n1 + n, m0, m1, l0, l1⟩ rfl rfl rfl (by omega) (by decide) hj rfl (by repeat constructor) ?_
  (refine q_nil (q_seq (q_region ?_)); refine ql_loadABa tabOk rfl rfl rfl ?_; refine ql_setA tabOk rfl rfl rfl rfl rfl (by repeat constructor) rfl ?_; refine q_nil (q_ret ?_))
  refine q_fin tabOk rfl (by repeat constructor) fun w hs => ?_
  exact ⟨(g2, rc, sp), rfl, hs.sp (by repeat constructor)⟩
end Go.Proofs.YtpknmgafambmbaaGreat

/- Walks: awake07. -/
namespace Go.Proofs.YtpknmgafambmbaaGreat
open Go Go.Eng
theorem aw_gap {g e : Int} (h : GapR [⟨0, 0, 7⟩] 0 9 g e) : g = 7 ∧ e = 0 := by
  rcases h with ⟨h1, h2, h3, h4⟩ | ⟨_, _, h3⟩
  · refine ⟨?_, h1⟩
    have h5 : ¬ (0 ≤ g ∧ g < 7) := fun hh => by
      have h6 := h4 _ (.head _)
      rw [Hd.cov_iff.2 hh] at h6
      cases h6
    rcases Int.lt_or_le 7 g with h6 | h6
    · obtain ⟨x, hx, hc⟩ := h3 7 (by omega) h6
      rw [List.mem_singleton.1 hx] at hc
      have := Hd.cov_iff.1 hc
      dsimp only at this
      omega
    · omega
  · obtain ⟨x, hx, hc⟩ := h3 8 (by omega) (by omega)
    rw [List.mem_singleton.1 hx] at hc
    have := Hd.cov_iff.1 hc
    dsimp only at this
    omega
theorem awake07_ca (w : World) : Ca Tryz.prog 11 [] w fun v w' => v = .bool true ∧ Chg [] w w' := by
  refine q_of (Sat.nil w M0) Tryz.func11 rfl (by simp [Tryz.ntmps11]) ?_
  (refine q_seq (q_region (ql_pure tabOk rfl rfl (q_nil (q_seq (q_region ?_))))))
  refine ql_call (β := Nat) tabOk [] _ M0 rfl rfl rfl rfl (Sp.refl _) (fun _ h => h.elim) (fun w' hs => short_ca w' 500) ?_
  rintro bs _ rfl
  skip
  refine ql_callv (val := .tuple #[.int .i64 2, .int .i64 0]) tabOk rfl rfl rfl rfl (fun w hs => ?_) ?_; exact by have := first_ca w 0 w.heap.size (shortW 500) (some ⟨bs, 0, none⟩) 3 (Blk.rdD (hs.blk (b := bs) (by repeat constructor)) rfl) (by decide); rw [aw_first] at this; exact this
  (refine ql_pure tabOk rfl rfl (ql_ext tabOk rfl rfl rfl (ql_ext tabOk rfl rfl rfl (ql_pure tabOk rfl rfl (ql_pure tabOk rfl rfl (q_nil (q_seq (q_region ?_))))))))
  refine ql_mk #[.int .i64 0, .int .i64 0, .int .i64 7] rfl (by kernel_rfl) rfl ?_
  skip
  refine ql_mkS 88 [.int .i64 0, .int .i64 0, .int .i64 7] rfl (by kernel_rfl) rfl (fun bn => ?_)
  skip
  refine ql_call (β := Int × Int) tabOk [] _ M0 rfl rfl rfl rfl (Sp.refl _) (fun _ h => h.elim) (fun w' hs => gap_ok w' 0 w'.heap.size [⟨0, 0, 7⟩] _ 0 9 (Blk.rdH' (c := 1) (hs.blk (b := bn) (by repeat constructor)) rfl) (by decide) ⟨⟨by decide, by decide, fun h hh => by rw [List.mem_singleton.1 hh]; decide⟩, by decide, by decide⟩) ?_
  rintro ⟨g, e⟩ _ ⟨rfl, hg⟩
  obtain ⟨rfl, rfl⟩ := aw_gap hg
  dsimp only [List.cons_append, List.nil_append]
  (refine ql_pure tabOk rfl rfl (ql_ext tabOk rfl rfl rfl (ql_ext tabOk rfl rfl rfl (ql_pure tabOk rfl rfl (ql_pure tabOk rfl rfl (q_nil (q_seq (q_region (ql_pure tabOk rfl rfl (ql_eqlT tabOk rfl rfl rfl (by omega) (ql_pure tabOk rfl rfl (ql_gyes rfl ?_))))))))))); refine ql_pure tabOk rfl rfl (ql_gyes rfl (ql_eqlT tabOk rfl rfl rfl (by omega) (ql_pure tabOk rfl rfl (ql_pure tabOk rfl rfl (ql_gyes rfl (ql_pure tabOk rfl rfl (ql_gyes rfl (ql_eqlT tabOk rfl rfl rfl (by omega) (ql_pure tabOk rfl rfl (ql_pure tabOk rfl rfl (ql_gyes rfl ?_))))))))))); refine ql_pure tabOk rfl rfl (ql_gyes rfl (ql_eqlT tabOk rfl rfl rfl (by omega) (ql_pure tabOk rfl rfl (ql_pure tabOk rfl rfl (q_nil (q_ret ?_)))))))
  refine q_fin tabOk rfl (by repeat constructor) fun w hs => ?_
  exact ⟨rfl, hs.chg0⟩
end Go.Proofs.YtpknmgafambmbaaGreat

/- The walk of TopSnow. -/
namespace Go.Proofs.YtpknmgafambmbaaGreat
open Go Go.Eng

/-- A day that is twenty times as great, its first j spans. -/
def blD (d : Dy) (j : Nat) : Dy := ⟨if 1 ≤ j then 20 * d.n0 else d.n0, if 1 ≤ j then 20 * d.n1 else d.n1, if 2 ≤ j then 20 * d.m0 else d.m0, if 2 ≤ j then 20 * d.m1 else d.m1, if 3 ≤ j then 20 * d.l0 else d.l0, if 3 ≤ j then 20 * d.l1 else d.l1⟩
structure BlI (l0 : List Dy) (k : Nat) (l : List Dy) : Prop where
  len : l.length = l0.length
  done : ∀ i, i < k → ∀ (h : i < l0.length) (h' : i < l.length), l[i] = blD l0[i] 3
  rest : ∀ i, k ≤ i → ∀ (h : i < l0.length) (h' : i < l.length), l[i] = l0[i]
theorem BlI.step {l0 l : List Dy} {k : Nat} (h : BlI l0 k l) (hk : k < l0.length) : BlI l0 (k + 1) (l.set k (blD l0[k] 3)) := by
  refine ⟨by simp [h.len], fun i hi h1 h2 => ?_, fun i hi h1 h2 => ?_⟩
  · by_cases hik : i = k
    · subst hik
      simp
    · rw [List.getElem_set_ne (by omega)]
      exact h.done i (by omega) h1 (by simpa using h2)
  · rw [List.getElem_set_ne (by omega)]
    exact h.rest i (by omega) h1 (by simpa using h2)
theorem BlI.win {x : Wn} {l : List Dy} (hx : WinB 8 x) (h : BlI x.days x.days.length l) : WinS ⟨20 * x.stock, 20 * x.store, l⟩ := by
  have h1 := hx.store
  have h2 := hx.stock
  have h3 := hx.d1
  have h4 := hx.d2
  have h5 := h.len
  refine ⟨by dsimp only; omega, by dsimp only; omega, by dsimp only; omega, by dsimp only; omega, fun d hd => ?_⟩
  obtain ⟨i, hi, rfl⟩ := List.getElem_of_mem (show d ∈ l from hd)
  rw [h.done i (by omega) (by omega) hi]
  have hD := hx.days _ (List.getElem_mem (show i < x.days.length by omega))
  have a := hD.n
  have b := hD.m
  have c := hD.l
  exact ⟨by simp [blD]; omega, by simp [blD]; omega, by simp [blD]; omega⟩
theorem held_rdII {w0 w : World} {M : Nat → Prop} {H : List Ck} {xs hp : List (Value × List Int)} {v : Value} {t t2 n : Nat} (hs : Sat w0 M H w) (hu : un (rowsO t xs) ∈ H) (hv : .ow v t2 1 n (hp.map (·.1)) ∈ H) (hsub : ∀ p ∈ hp, p ∈ xs) : RdII w 0 w.heap.size v (hp.map (·.2)) := by
  have h1 := hs.mem hv
  have hn : n = (hp.map (·.1)).length := by have := h1.1; omega
  refine ⟨hp.map (·.1), RdE.one (by rw [← hn]; exact own_rd h1) (fun e he => by obtain ⟨p, hm, rfl⟩ := List.mem_map.1 he; exact own_one' (ls_mem hs hu (u := p.1) (c := p.2) (hsub p hm))), by simp, fun i hi hi' => ?_⟩
  have hi2 : i < hp.length := by simpa using hi
  simp only [List.getElem_map]
  exact own_rdI (ls_mem hs hu (hsub _ (List.getElem_mem hi2))) rfl
theorem slSp6 : SlT Tryz.prog 55 27 2 16 (.agg #[.int .i64 0, .int .i64 0]) := ⟨by kernel_rfl, by kernel_rfl, by kernel_rfl, by decide⟩
theorem span_flat6 : flatB Tryz.prog 27 [some .i64, some .i64] = true := by kernel_rfl
set_option maxRecDepth 20000 in
set_option maxHeartbeats 16000000 in
theorem topSnow_ca (w : World) (a : Option Addr) (n c : Nat) (a2 : Option Addr) (n2 c2 : Nat) (wh : Int) (hwh : 0 ≤ wh ∧ wh < 256) (hbyb1 : DkB w 0 w.heap.size (.slice a n c)) (hbyb2 : DkB w 0 w.heap.size (.slice a2 n2 c2)) :
    Ca Tryz.prog 3 [.slice a n c, .slice a2 n2 c2, .int .u8 wh] w fun r w' => r = .bool true ∧ Chg [] w w' := by
  refine q_of (Sat.nil w M0) Tryz.func3 rfl (by simp [Tryz.ntmps3]) ?_
  (refine q_seq (q_region (ql_pure tabOk rfl rfl (q_nil (q_seq (q_region (ql_pure tabOk rfl rfl ?_)))))))
  refine ql_call (β := Nat) tabOk [] _ M0 rfl rfl rfl rfl (Sp.refl _) (fun _ h => h.elim) (fun w' hs => of_ca w' a n c) ?_
  rintro b1 _ rfl
  (refine ql_pure tabOk rfl rfl (q_nil (q_seq (q_region (ql_pure tabOk rfl rfl ?_)))))
  refine ql_call (β := Nat × Nat × List Lp × Rl) (ψ := fun y v => v = .tuple #[.slice (some ⟨y.1, 0, none⟩) y.2.2.1.length y.2.1, .agg (rlC y.2.2.2).toArray] ∧ MadeS 5 3 y.2.2.1 y.2.2.2) (L' := fun y => [.ow (.slice (some ⟨y.1, 0, none⟩) y.2.2.1.length y.2.1) 61 3 y.2.2.1.length (lpC y.2.2.1), dkP (.slice a n c) b1 (0 + 100)]) tabOk [dkP (.slice a n c) b1 0] _ (fun x => x = b1) rfl rfl rfl rfl (Sp.cons (by repeat constructor) (Sp.refl _)) (fun x hx => ⟨_, .head _, hx⟩) (fun w' hs => madeS0 (most := 5) (laps := 3) (by omega) (by omega) (by omega) (by omega) hbyb1 hs (by omega)) ?_
  rintro ⟨gs, cs, s, r⟩ _ ⟨rfl, hm⟩
  dsimp only [List.cons_append, List.nil_append] at hm ⊢
  have hcr := hm.cr (by omega) (by omega)
  have hn1 := hm.n1
  have hn2 := hm.n2
  have hlp := hm.lp
  have hnl : nL r ≤ 5 := by unfold nL; omega
  have hA1 : (allC s r).length ≤ 300 := allC_300 (by omega) hnl
  (refine ql_pure tabOk rfl rfl (ql_ext tabOk rfl rfl rfl (ql_ext tabOk rfl rfl rfl ?_)))
  refine ql_alloc zero29 rfl (fun b9 => ?_)
  (refine ql_pure tabOk rfl rfl ?_; refine ql_setA tabOk rfl rfl rfl rfl rfl (by repeat constructor) rfl ?_; refine q_nil (q_seq (q_region (ql_pure tabOk rfl rfl ?_))))
  refine ql_call (β := Nat) tabOk [] _ M0 rfl rfl rfl rfl (Sp.refl _) (fun _ h => h.elim) (fun w' hs => of_ca w' a2 n2 c2) ?_
  rintro b2 _ rfl
  skip
  refine ql_call (β := Nat × Nat × Wn) (ψ := fun y v => v = .agg (wnC y.2.2 (some ⟨y.1, 0, none⟩) y.2.1).toArray ∧ WinB 8 y.2.2) (L' := fun y => [.ow (.slice (some ⟨y.1, 0, none⟩) y.2.2.days.length y.2.1) 38 6 y.2.2.days.length (dyC y.2.2.days), dkP (.slice a2 n2 c2) b2 (0 + 1000)]) tabOk [dkP (.slice a2 n2 c2) b2 (0)] _ (fun x => x = b2) rfl rfl rfl rfl (Sp.cons (by repeat constructor) (Sp.refl _)) (fun x hx => ⟨_, .head _, hx⟩) (fun w' hs => madeW0 (days := 8) hbyb2 hs (by omega) (by omega) (by omega)) ?_; rintro ⟨g, cd, x⟩ _ ⟨rfl, hwx⟩; dsimp only [List.cons_append, List.nil_append] at hwx ⊢
  have hst := hwx.store
  have hsk := hwx.stock
  have hl1 := hwx.d1
  have hl2 := hwx.d2
  skip
  refine ql_alloc zero34 rfl (fun b10 => ?_)
  (refine ql_setA tabOk rfl rfl rfl rfl rfl (by repeat constructor) rfl ?_; refine q_nil (q_seq (q_region (ql_pure tabOk rfl rfl ?_))); refine ql_loadBa tabOk rfl rfl rfl ?_; refine ql_ar tabOk rfl rfl rfl rfl (by omega) (by omega) (ql_pure tabOk rfl rfl ?_); refine ql_loadBa tabOk rfl rfl rfl ?_; refine ql_ar tabOk rfl rfl rfl rfl (by omega) (by omega) (ql_pure tabOk rfl rfl ?_); refine ql_st0 tabOk rfl rfl rfl rfl (by repeat constructor) ?_; refine ql_pure tabOk rfl rfl ?_; refine ql_st1 tabOk rfl rfl rfl rfl (by repeat constructor) ?_; refine q_nil (q_seq (q_seq (q_region (ql_pure tabOk rfl rfl ?_)))); refine ql_loadBa tabOk rfl rfl rfl ?_; refine ql_pure tabOk rfl rfl (ql_pure tabOk rfl rfl (q_nil (q_block ?_))))
  refine q_conv (H' := .ow (.slice (some ⟨g, 0, none⟩) x.days.length cd) 38 6 x.days.length (dyC x.days) :: [.pt b10 [.int .i64 (20 * x.stock), .int .i64 (20 * x.store), .slice (some ⟨g, 0, none⟩) x.days.length cd] 34, .pt b9 (rlC r) 29, .ow (.slice (some ⟨gs, 0, none⟩) s.length cs) 61 3 s.length (lpC s)]) (fun w' hs => hs.sp (by repeat constructor)) ?_
  refine q_ow (by omega) ?_
  rintro g2 c3 sp zz
  cases zz
  refine q_loop (σ := Nat × List Dy) (fun q => q.1 ≤ x.days.length ∧ BlI x.days q.1 q.2) (fun q => x.days.length - q.1) (fun q => [(2, .int .u8 wh), (8, .slice (some ⟨gs, 0, none⟩) s.length cs), (9, .pointer (some ⟨b9, 0, none⟩)), (10, .pointer (some ⟨b10, 0, none⟩)), (59, .int .i64 x.days.length), (60, .int .i64 q.1)])
    (fun q => [.pt g (dyC q.2 ++ sp) 38, .pt b10 [.int .i64 (20 * x.stock), .int .i64 (20 * x.store), .slice (some ⟨g, 0, none⟩) x.days.length cd] 34, .pt b9 (rlC r) 29, .ow (.slice (some ⟨gs, 0, none⟩) s.length cs) 61 3 s.length (lpC s)]) (0, x.days) ⟨by simp, ⟨rfl, fun i h => by simp at h, fun i _ _ _ => rfl⟩⟩ ⟨rfl, rfl, rfl, rfl, rfl, rfl, trivial⟩ (by repeat constructor) ?_
  rintro ⟨k, l⟩ ⟨hk, hI⟩ K hK
  simp only at hk hI
  dsimp only
  (refine q_seq (q_region (ql_pure tabOk rfl rfl (q_nil (q_seq ?_)))))
  refine q_if rfl (fun hc => ?_) (fun hc => ?_)
  · have hk2 : k < x.days.length := by first | omega | (simp at hc; omega)
    clear hc
    have hkl : k < l.length := by have := hI.len; omega
    have hlk := hI.rest k (Nat.le_refl _) hk2 hkl
    have hstp := hI.step hk2
    have hDB := hwx.days _ (List.getElem_mem hk2)
    have e0 : l.set k (blD x.days[k] 0) = l := by
      have : blD x.days[k] 0 = l[k] := by rw [hlk]; simp [blD]
      rw [this]
      exact List.set_getElem_self hkl
    generalize x.days[k] = d at *
    obtain ⟨n0, n1, m0, m1, l0, l1⟩ := d
    have hDn := hDB.n
    have hDm := hDB.m
    have hDl := hDB.l
    dsimp only at hDn hDm hDl
    (refine q_skip (q_seq (q_block (q_seq (q_region (ql_pure tabOk rfl rfl (ql_pure tabOk rfl rfl (q_nil (q_seq ?_)))))))))
    refine q_draw _ [] (Sp.refl _) (by kernel_rfl) (by kernel_rfl) ?_
    (refine qf_pure tabOk rfl rfl rfl ?_; refine qf_loadBa tabOk rfl rfl rfl ?_; refine qf_pure tabOk rfl rfl rfl ?_)
    refine qf_index tabOk rfl rfl rfl rfl rfl (by omega) (by omega) ?_
    (refine qf_pure tabOk rfl rfl rfl (qf_pure tabOk rfl rfl rfl ?_); refine qf_loadBa tabOk rfl rfl rfl ?_; refine qf_pure tabOk rfl rfl rfl ?_)
    refine qf_index tabOk rfl rfl rfl rfl rfl (by omega) (by omega) ?_
    (refine qf_pure tabOk rfl rfl rfl (qf_pure tabOk rfl rfl rfl ?_); refine qf_loadBa tabOk rfl rfl rfl ?_; refine qf_pure tabOk rfl rfl rfl ?_)
    refine qf_index tabOk rfl rfl rfl rfl rfl (by omega) (by omega) ?_
    (refine qf_pure tabOk rfl rfl rfl ?_)
    refine qf_mkS 36 [.pointer (some ⟨g, 0 + (k : Int).toNat * 6 + 0, none⟩), .pointer (some ⟨g, 0 + (k : Int).toNat * 6 + 2, none⟩), .pointer (some ⟨g, 0 + (k : Int).toNat * 6 + 4, none⟩)] rfl (by kernel_rfl) rfl (fun bp => ?_)
    (refine qf_pure tabOk rfl rfl rfl (qf_pure tabOk rfl rfl rfl (qf_nil (q_block ?_))))
    refine q_loop (σ := Nat) (fun q => q ≤ 3) (fun q => 3 - q) (fun q => [(2, .int .u8 wh), (8, .slice (some ⟨gs, 0, none⟩) s.length cs), (9, .pointer (some ⟨b9, 0, none⟩)), (10, .pointer (some ⟨b10, 0, none⟩)), (59, .int .i64 x.days.length), (60, .int .i64 k), (78, .slice (some ⟨bp, 0, none⟩) 3 3), (79, .int .i64 3), (80, .int .i64 q)])
      (fun q => [.pt g (dyC (l.set k (blD ⟨n0, n1, m0, m1, l0, l1⟩ q)) ++ sp) 38, .pt bp [.pointer (some ⟨g, 0 + (k : Int).toNat * 6 + 0, none⟩), .pointer (some ⟨g, 0 + (k : Int).toNat * 6 + 2, none⟩), .pointer (some ⟨g, 0 + (k : Int).toNat * 6 + 4, none⟩)] 36, .pt b10 [.int .i64 (20 * x.stock), .int .i64 (20 * x.store), .slice (some ⟨g, 0, none⟩) x.days.length cd] 34, .pt b9 (rlC r) 29, .ow (.slice (some ⟨gs, 0, none⟩) s.length cs) 61 3 s.length (lpC s)]) 0 (by omega) ⟨rfl, rfl, rfl, rfl, rfl, rfl, rfl, rfl, rfl, trivial⟩ (by rw [e0]; repeat constructor) ?_
    intro j hj K2 hK2
    (refine q_seq (q_region (ql_pure tabOk rfl rfl (q_nil (q_seq ?_)))))
    refine q_if rfl (fun hc => ?_) (fun hc => ?_)
    · have hj3 : j < 3 := by omega
      clear hc
      obtain rfl | rfl | rfl : j = 0 ∨ j = 1 ∨ j = 2 := by omega
      · (refine q_skip (q_seq (q_block (q_seq (q_region ?_)))))
        refine ql_index tabOk rfl rfl rfl rfl rfl (by omega) (by omega) ?_
        (refine ql_loadBa tabOk rfl rfl rfl ?_; refine ql_pure tabOk rfl rfl (q_nil ?_))
        refine q_conv (H' := [.pt g (dyC (l.set k ⟨n0, n1, m0, m1, l0, l1⟩) ++ sp) 38, .pt bp [.pointer (some ⟨g, 0 + (k : Int).toNat * 6 + 0, none⟩), .pointer (some ⟨g, 0 + (k : Int).toNat * 6 + 2, none⟩), .pointer (some ⟨g, 0 + (k : Int).toNat * 6 + 4, none⟩)] 36, .pt b10 [.int .i64 (20 * x.stock), .int .i64 (20 * x.store), .slice (some ⟨g, 0, none⟩) x.days.length cd] 34, .pt b9 (rlC r) 29, .ow (.slice (some ⟨gs, 0, none⟩) s.length cs) 61 3 s.length (lpC s)]) (fun w' hs => hs.sp (by repeat constructor)) ?_
        refine q_drawB2 [false, false, false, false, false, true, false, false, false, false, true, false, false, false, false, false, false, false] [.pt g (dyC (l.set k ⟨n0, n1, m0, m1, l0, l1⟩) ++ sp) 38, .pt bp [.pointer (some ⟨g, 0 + (k : Int).toNat * 6 + 0, none⟩), .pointer (some ⟨g, 0 + (k : Int).toNat * 6 + 2, none⟩), .pointer (some ⟨g, 0 + (k : Int).toNat * 6 + 4, none⟩)] 36, .pt b10 [.int .i64 (20 * x.stock), .int .i64 (20 * x.store), .slice (some ⟨g, 0, none⟩) x.days.length cd] 34, .pt b9 (rlC r) 29, .ow (.slice (some ⟨gs, 0, none⟩) s.length cs) 61 3 s.length (lpC s)] [] [.pt bp [.pointer (some ⟨g, 0 + (k : Int).toNat * 6 + 0, none⟩), .pointer (some ⟨g, 0 + (k : Int).toNat * 6 + 2, none⟩), .pointer (some ⟨g, 0 + (k : Int).toNat * 6 + 4, none⟩)] 36, .pt b10 [.int .i64 (20 * x.stock), .int .i64 (20 * x.store), .slice (some ⟨g, 0, none⟩) x.days.length cd] 34, .pt b9 (rlC r) 29, .ow (.slice (some ⟨gs, 0, none⟩) s.length cs) 61 3 s.length (lpC s)] [.pt g (dyC (l.set k ⟨n0, n1, m0, m1, l0, l1⟩) ++ sp) 38] (by repeat constructor) (by repeat constructor) (by kernel_rfl) (by kernel_rfl) (by kernel_rfl) ?_
        refine qb_F 5 [.pt g (dyC (l.set k ⟨n0, n1, m0, m1, l0, l1⟩) ++ sp) 38] rfl rfl (by repeat constructor) fun K5 hK5 => ?_
        ((iterate 5 refine qf_pure tabOk rfl rfl rfl ?_); refine qf_nil ?_)
        refine hK5 _ _ (qb_T2 1 [] rfl rfl (by repeat constructor) fun K5 hK5 => ?_)
        refine qf_load1 (v := .int .i64 n0) tabOk rfl rfl rfl (fun w hs => dy_cell2 (hs.blk (by repeat constructor)) hkl 0 0 (by decide)) ?_
        (refine qf_nil ?_)
        refine hK5 _ _ (qb_F 4 [.pt g (dyC (l.set k ⟨n0, n1, m0, m1, l0, l1⟩) ++ sp) 38] rfl rfl (by repeat constructor) fun K5 hK5 => ?_)
        (refine qf_ar tabOk rfl rfl rfl rfl (by omega) (by omega) ?_; (iterate 3 refine qf_pure tabOk rfl rfl rfl ?_); refine qf_nil ?_)
        refine hK5 _ _ (qb_T2 1 [] rfl rfl (by repeat constructor) fun K5 hK5 => ?_)
        refine qf_load1 (v := .int .i64 n1) tabOk rfl rfl rfl (fun w hs => dy_cell2 (hs.blk (by repeat constructor)) hkl 0 1 (by decide)) ?_
        (refine qf_nil ?_)
        refine hK5 _ _ (qb_F 7 [.pt g (dyC (l.set k ⟨n0, n1, m0, m1, l0, l1⟩) ++ sp) 38] rfl rfl (by repeat constructor) fun K5 hK5 => ?_)
        (refine qf_ar tabOk rfl rfl rfl rfl (by omega) (by omega) (qf_pure tabOk rfl rfl rfl (qf_pure tabOk rfl rfl rfl ?_)))
        refine qf_dyT (l := l) tabOk k 0 ⟨20 * n0, n1, m0, m1, l0, l1⟩ rfl rfl rfl (by omega) (by decide) hkl rfl (by repeat constructor) ?_
        (refine qf_pure tabOk rfl rfl rfl (qf_pure tabOk rfl rfl rfl ?_))
        refine qf_dyT (l := l) tabOk k 1 ⟨20 * n0, 20 * n1, m0, m1, l0, l1⟩ rfl rfl rfl (by omega) (by decide) hkl rfl (by repeat constructor) ?_
        (refine qf_nil ?_)
        refine hK5 _ _ (qb_nil ?_)
        (refine q_blk (q_region (ql_ar tabOk rfl rfl rfl rfl (by omega) (by omega) (ql_pure tabOk rfl rfl (q_nil ?_)))))
        exact hK2 1 _ _ (by omega) (by omega) ⟨rfl, rfl, rfl, rfl, rfl, rfl, rfl, rfl, rfl, trivial⟩ (by repeat constructor)
      · (refine q_skip (q_seq (q_block (q_seq (q_region ?_)))))
        refine ql_index tabOk rfl rfl rfl rfl rfl (by omega) (by omega) ?_
        (refine ql_loadBa tabOk rfl rfl rfl ?_; refine ql_pure tabOk rfl rfl (q_nil ?_))
        refine q_conv (H' := [.pt g (dyC (l.set k ⟨20 * n0, 20 * n1, m0, m1, l0, l1⟩) ++ sp) 38, .pt bp [.pointer (some ⟨g, 0 + (k : Int).toNat * 6 + 0, none⟩), .pointer (some ⟨g, 0 + (k : Int).toNat * 6 + 2, none⟩), .pointer (some ⟨g, 0 + (k : Int).toNat * 6 + 4, none⟩)] 36, .pt b10 [.int .i64 (20 * x.stock), .int .i64 (20 * x.store), .slice (some ⟨g, 0, none⟩) x.days.length cd] 34, .pt b9 (rlC r) 29, .ow (.slice (some ⟨gs, 0, none⟩) s.length cs) 61 3 s.length (lpC s)]) (fun w' hs => hs.sp (by repeat constructor)) ?_
        refine q_drawB2 [false, false, false, false, false, true, false, false, false, false, true, false, false, false, false, false, false, false] [.pt g (dyC (l.set k ⟨20 * n0, 20 * n1, m0, m1, l0, l1⟩) ++ sp) 38, .pt bp [.pointer (some ⟨g, 0 + (k : Int).toNat * 6 + 0, none⟩), .pointer (some ⟨g, 0 + (k : Int).toNat * 6 + 2, none⟩), .pointer (some ⟨g, 0 + (k : Int).toNat * 6 + 4, none⟩)] 36, .pt b10 [.int .i64 (20 * x.stock), .int .i64 (20 * x.store), .slice (some ⟨g, 0, none⟩) x.days.length cd] 34, .pt b9 (rlC r) 29, .ow (.slice (some ⟨gs, 0, none⟩) s.length cs) 61 3 s.length (lpC s)] [] [.pt bp [.pointer (some ⟨g, 0 + (k : Int).toNat * 6 + 0, none⟩), .pointer (some ⟨g, 0 + (k : Int).toNat * 6 + 2, none⟩), .pointer (some ⟨g, 0 + (k : Int).toNat * 6 + 4, none⟩)] 36, .pt b10 [.int .i64 (20 * x.stock), .int .i64 (20 * x.store), .slice (some ⟨g, 0, none⟩) x.days.length cd] 34, .pt b9 (rlC r) 29, .ow (.slice (some ⟨gs, 0, none⟩) s.length cs) 61 3 s.length (lpC s)] [.pt g (dyC (l.set k ⟨20 * n0, 20 * n1, m0, m1, l0, l1⟩) ++ sp) 38] (by repeat constructor) (by repeat constructor) (by kernel_rfl) (by kernel_rfl) (by kernel_rfl) ?_
        refine qb_F 5 [.pt g (dyC (l.set k ⟨20 * n0, 20 * n1, m0, m1, l0, l1⟩) ++ sp) 38] rfl rfl (by repeat constructor) fun K5 hK5 => ?_
        ((iterate 5 refine qf_pure tabOk rfl rfl rfl ?_); refine qf_nil ?_)
        refine hK5 _ _ (qb_T2 1 [] rfl rfl (by repeat constructor) fun K5 hK5 => ?_)
        refine qf_load1 (v := .int .i64 m0) tabOk rfl rfl rfl (fun w hs => dy_cell2 (hs.blk (by repeat constructor)) hkl 2 0 (by decide)) ?_
        (refine qf_nil ?_)
        refine hK5 _ _ (qb_F 4 [.pt g (dyC (l.set k ⟨20 * n0, 20 * n1, m0, m1, l0, l1⟩) ++ sp) 38] rfl rfl (by repeat constructor) fun K5 hK5 => ?_)
        (refine qf_ar tabOk rfl rfl rfl rfl (by omega) (by omega) ?_; (iterate 3 refine qf_pure tabOk rfl rfl rfl ?_); refine qf_nil ?_)
        refine hK5 _ _ (qb_T2 1 [] rfl rfl (by repeat constructor) fun K5 hK5 => ?_)
        refine qf_load1 (v := .int .i64 m1) tabOk rfl rfl rfl (fun w hs => dy_cell2 (hs.blk (by repeat constructor)) hkl 2 1 (by decide)) ?_
        (refine qf_nil ?_)
        refine hK5 _ _ (qb_F 7 [.pt g (dyC (l.set k ⟨20 * n0, 20 * n1, m0, m1, l0, l1⟩) ++ sp) 38] rfl rfl (by repeat constructor) fun K5 hK5 => ?_)
        (refine qf_ar tabOk rfl rfl rfl rfl (by omega) (by omega) (qf_pure tabOk rfl rfl rfl (qf_pure tabOk rfl rfl rfl ?_)))
        refine qf_dyT (l := l) tabOk k 2 ⟨20 * n0, 20 * n1, 20 * m0, m1, l0, l1⟩ rfl rfl rfl (by omega) (by decide) hkl rfl (by repeat constructor) ?_
        (refine qf_pure tabOk rfl rfl rfl (qf_pure tabOk rfl rfl rfl ?_))
        refine qf_dyT (l := l) tabOk k 3 ⟨20 * n0, 20 * n1, 20 * m0, 20 * m1, l0, l1⟩ rfl rfl rfl (by omega) (by decide) hkl rfl (by repeat constructor) ?_
        (refine qf_nil ?_)
        refine hK5 _ _ (qb_nil ?_)
        (refine q_blk (q_region (ql_ar tabOk rfl rfl rfl rfl (by omega) (by omega) (ql_pure tabOk rfl rfl (q_nil ?_)))))
        exact hK2 2 _ _ (by omega) (by omega) ⟨rfl, rfl, rfl, rfl, rfl, rfl, rfl, rfl, rfl, trivial⟩ (by repeat constructor)
      · (refine q_skip (q_seq (q_block (q_seq (q_region ?_)))))
        refine ql_index tabOk rfl rfl rfl rfl rfl (by omega) (by omega) ?_
        (refine ql_loadBa tabOk rfl rfl rfl ?_; refine ql_pure tabOk rfl rfl (q_nil ?_))
        refine q_conv (H' := [.pt g (dyC (l.set k ⟨20 * n0, 20 * n1, 20 * m0, 20 * m1, l0, l1⟩) ++ sp) 38, .pt bp [.pointer (some ⟨g, 0 + (k : Int).toNat * 6 + 0, none⟩), .pointer (some ⟨g, 0 + (k : Int).toNat * 6 + 2, none⟩), .pointer (some ⟨g, 0 + (k : Int).toNat * 6 + 4, none⟩)] 36, .pt b10 [.int .i64 (20 * x.stock), .int .i64 (20 * x.store), .slice (some ⟨g, 0, none⟩) x.days.length cd] 34, .pt b9 (rlC r) 29, .ow (.slice (some ⟨gs, 0, none⟩) s.length cs) 61 3 s.length (lpC s)]) (fun w' hs => hs.sp (by repeat constructor)) ?_
        refine q_drawB2 [false, false, false, false, false, true, false, false, false, false, true, false, false, false, false, false, false, false] [.pt g (dyC (l.set k ⟨20 * n0, 20 * n1, 20 * m0, 20 * m1, l0, l1⟩) ++ sp) 38, .pt bp [.pointer (some ⟨g, 0 + (k : Int).toNat * 6 + 0, none⟩), .pointer (some ⟨g, 0 + (k : Int).toNat * 6 + 2, none⟩), .pointer (some ⟨g, 0 + (k : Int).toNat * 6 + 4, none⟩)] 36, .pt b10 [.int .i64 (20 * x.stock), .int .i64 (20 * x.store), .slice (some ⟨g, 0, none⟩) x.days.length cd] 34, .pt b9 (rlC r) 29, .ow (.slice (some ⟨gs, 0, none⟩) s.length cs) 61 3 s.length (lpC s)] [] [.pt bp [.pointer (some ⟨g, 0 + (k : Int).toNat * 6 + 0, none⟩), .pointer (some ⟨g, 0 + (k : Int).toNat * 6 + 2, none⟩), .pointer (some ⟨g, 0 + (k : Int).toNat * 6 + 4, none⟩)] 36, .pt b10 [.int .i64 (20 * x.stock), .int .i64 (20 * x.store), .slice (some ⟨g, 0, none⟩) x.days.length cd] 34, .pt b9 (rlC r) 29, .ow (.slice (some ⟨gs, 0, none⟩) s.length cs) 61 3 s.length (lpC s)] [.pt g (dyC (l.set k ⟨20 * n0, 20 * n1, 20 * m0, 20 * m1, l0, l1⟩) ++ sp) 38] (by repeat constructor) (by repeat constructor) (by kernel_rfl) (by kernel_rfl) (by kernel_rfl) ?_
        refine qb_F 5 [.pt g (dyC (l.set k ⟨20 * n0, 20 * n1, 20 * m0, 20 * m1, l0, l1⟩) ++ sp) 38] rfl rfl (by repeat constructor) fun K5 hK5 => ?_
        ((iterate 5 refine qf_pure tabOk rfl rfl rfl ?_); refine qf_nil ?_)
        refine hK5 _ _ (qb_T2 1 [] rfl rfl (by repeat constructor) fun K5 hK5 => ?_)
        refine qf_load1 (v := .int .i64 l0) tabOk rfl rfl rfl (fun w hs => dy_cell2 (hs.blk (by repeat constructor)) hkl 4 0 (by decide)) ?_
        (refine qf_nil ?_)
        refine hK5 _ _ (qb_F 4 [.pt g (dyC (l.set k ⟨20 * n0, 20 * n1, 20 * m0, 20 * m1, l0, l1⟩) ++ sp) 38] rfl rfl (by repeat constructor) fun K5 hK5 => ?_)
        (refine qf_ar tabOk rfl rfl rfl rfl (by omega) (by omega) ?_; (iterate 3 refine qf_pure tabOk rfl rfl rfl ?_); refine qf_nil ?_)
        refine hK5 _ _ (qb_T2 1 [] rfl rfl (by repeat constructor) fun K5 hK5 => ?_)
        refine qf_load1 (v := .int .i64 l1) tabOk rfl rfl rfl (fun w hs => dy_cell2 (hs.blk (by repeat constructor)) hkl 4 1 (by decide)) ?_
        (refine qf_nil ?_)
        refine hK5 _ _ (qb_F 7 [.pt g (dyC (l.set k ⟨20 * n0, 20 * n1, 20 * m0, 20 * m1, l0, l1⟩) ++ sp) 38] rfl rfl (by repeat constructor) fun K5 hK5 => ?_)
        (refine qf_ar tabOk rfl rfl rfl rfl (by omega) (by omega) (qf_pure tabOk rfl rfl rfl (qf_pure tabOk rfl rfl rfl ?_)))
        refine qf_dyT (l := l) tabOk k 4 ⟨20 * n0, 20 * n1, 20 * m0, 20 * m1, 20 * l0, l1⟩ rfl rfl rfl (by omega) (by decide) hkl rfl (by repeat constructor) ?_
        (refine qf_pure tabOk rfl rfl rfl (qf_pure tabOk rfl rfl rfl ?_))
        refine qf_dyT (l := l) tabOk k 5 ⟨20 * n0, 20 * n1, 20 * m0, 20 * m1, 20 * l0, 20 * l1⟩ rfl rfl rfl (by omega) (by decide) hkl rfl (by repeat constructor) ?_
        (refine qf_nil ?_)
        refine hK5 _ _ (qb_nil ?_)
        (refine q_blk (q_region (ql_ar tabOk rfl rfl rfl rfl (by omega) (by omega) (ql_pure tabOk rfl rfl (q_nil ?_)))))
        exact hK2 3 _ _ (by omega) (by omega) ⟨rfl, rfl, rfl, rfl, rfl, rfl, rfl, rfl, rfl, trivial⟩ (by repeat constructor)
    · obtain rfl : j = 3 := by omega
      (refine q_exit _ rfl (q_blk (q_region (ql_ar tabOk rfl rfl rfl rfl (by omega) (by omega) (ql_pure tabOk rfl rfl (q_nil ?_))))))
      exact hK (k + 1, l.set k (blD ⟨n0, n1, m0, m1, l0, l1⟩ 3)) _ _ ⟨by dsimp only; omega, hstp⟩ (by dsimp only; omega) ⟨rfl, rfl, rfl, rfl, rfl, rfl, trivial⟩ (by repeat constructor)
  · obtain rfl : k = x.days.length := by first | omega | (simp at hc; omega)
    clear hc hK
    have hll := hI.len
    have hxs := hI.win hwx
    clear hI
    rw [← hll]
    rw [← hll] at hl1 hl2
    have hww : IntKind.i64.wrap wh = wh := by
      simp only [IntKind.wrap, IntKind.signed, IntKind.bits]
      simp [Int.bmod]
      omega
    (refine q_exit _ rfl (q_seq (q_region ?_)); (iterate 3 refine ql_pure tabOk rfl rfl ?_); refine ql_loadBa tabOk rfl rfl rfl ?_; refine ql_pure tabOk rfl rfl (ql_remN rfl rfl rfl (by omega) (by omega) ?_))
    obtain ⟨j, hj, hjl⟩ : ∃ j : Nat, (j : Int) = wh % (l.length : Int) ∧ j < l.length := by
      have h1 := Int.emod_nonneg wh (show (l.length : Int) ≠ 0 by omega)
      have h2 := Int.emod_lt_of_pos wh (show 0 < (l.length : Int) by omega)
      exact ⟨(wh % (l.length : Int)).toNat, by omega, by omega⟩
    rw [hww, ← hj]
    clear hj hww hwh hwx hst hsk
    refine ql_alloc zero3 rfl (fun b14 => ?_)
    (refine ql_set tabOk rfl rfl rfl rfl (by repeat constructor) ?_; refine q_nil (q_seq (q_region (ql_pure tabOk rfl rfl (ql_pure tabOk rfl rfl (q_nil (q_seq (q_region (ql_pure tabOk rfl rfl ?_)))))))); refine ql_loadABa tabOk rfl rfl rfl ?_)
    obtain ⟨X, hX⟩ : ∃ X : Wn, X = ⟨20 * x.stock, 20 * x.store, l⟩ := ⟨_, rfl⟩
    rw [← hX] at hxs
    have hXs : 20 * x.stock = X.stock := by rw [hX]
    have hXr : 20 * x.store = X.store := by rw [hX]
    have hXl : l = X.days := by rw [hX]
    rw [hXs, hXr]
    clear hX hll hXs hXr
    subst hXl
    clear hk x
    refine ql_call (β := Value × List (Value × List Int)) tabOk [] _ M0 rfl rfl rfl rfl (Sp.refl _) (fun _ h => h.elim) (fun w' hs => all_ok w' 0 w'.heap.size (some ⟨gs, 0, none⟩) cs s r (sat_rdL (t := 61) hs (by repeat constructor) rfl) hcr hA1) ?_
    rintro ⟨z1, xs⟩ _ ⟨rfl, hxm⟩
    dsimp only [lsK, List.cons_append, List.nil_append] at hxm ⊢
    have l1 := congrArg List.length hxm
    rw [List.length_map] at l1
    have hcin : ∀ q ∈ allC s r, (∀ y ∈ q, 0 ≤ y ∧ y < s.length) ∧ (q.length : Int) = r.laps ∧ srtB q = true := fun q hq => by
      obtain ⟨h1, h2⟩ := List.mem_filter.1 hq
      obtain ⟨m1, m2, m3⟩ := coursesL_mem.1 h1
      exact ⟨m2, by rw [m1]; unfold nL; omega, m3⟩
    have hsn : ∀ q ∈ allC s r, 1 ≤ snowV s q 1 ∧ snowV s q 1 ≤ 2000 := fun q hq => by
      obtain ⟨h1, h2, _⟩ := hcin q hq
      exact ⟨snow_pos (d := 1) hcr.s (List.getElem_mem (show 0 < q.length by omega)) (h1 _ (List.getElem_mem _)) (by omega), (snowM hm (by omega) q).2⟩
    refine ql_fact (fun w hs => hs.slice2 (v := z1) (by repeat constructor)) ?_
    rintro ⟨va, vc, rfl⟩
    (refine ql_pure tabOk rfl rfl (ql_ext tabOk rfl rfl rfl (ql_ext tabOk rfl rfl rfl (ql_pure tabOk rfl rfl (ql_pure tabOk rfl rfl (q_nil (q_seq (q_region (ql_pure tabOk rfl rfl ?_)))))))); refine ql_loadABa tabOk rfl rfl rfl ?_)
    rcases cheap_best s r 1 with ⟨hno, hall⟩ | ⟨R, hR, hRm, hbest⟩
    · have hl0 : (allC s r).length = 0 := by rw [hall]; rfl
      refine ql_callv (val := .tuple #[.slice none 0 0, .int .i64 0, .int .i64 6]) tabOk rfl rfl rfl rfl (fun w hs => ?_) ?_; exact by have := cheap_no w 0 w.heap.size (some ⟨gs, 0, none⟩) cs s r 1 (sat_rdL (t := 61) hs (by repeat constructor) rfl) (by omega) (by rw [cheap6 hcr (by omega) hno]; decide); rw [cheap6 hcr (by omega) hno] at this; exact this
      (refine ql_pure tabOk rfl rfl ?_; (iterate 3 refine ql_ext tabOk rfl rfl rfl ?_); (iterate 3 refine ql_pure tabOk rfl rfl ?_); refine q_nil (q_seq (q_seq (q_region (ql_pure tabOk rfl rfl (ql_neqF tabOk rfl rfl rfl (by omega) (ql_pure tabOk rfl rfl (ql_gyes rfl (ql_pure tabOk rfl rfl (ql_gyes rfl (ql_eqlF tabOk rfl rfl rfl (by omega) (ql_gyes rfl ?_))))))))))); refine ql_pure tabOk rfl rfl (ql_gyes rfl (ql_pure tabOk rfl rfl (ql_gyes rfl (ql_gtrF tabOk rfl rfl rfl (by omega) (ql_gyes rfl ?_))))))
      refine ql_neb bool_b rfl rfl rfl ?_
      (refine ql_pure tabOk rfl rfl (ql_pure tabOk rfl rfl (ql_gyes rfl (ql_pure tabOk rfl rfl (ql_gyes rfl (ql_neqT tabOk rfl rfl rfl (by omega) (ql_gyes rfl (ql_pure tabOk rfl rfl (ql_gyes rfl (ql_pure tabOk rfl rfl (ql_gyes rfl (ql_neqF tabOk rfl rfl rfl (by omega) ?_))))))))))); refine ql_gyes rfl (ql_pure tabOk rfl rfl (ql_pure tabOk rfl rfl (q_nil (q_cond_false rfl (q_skip (q_seq (q_seq (q_region (ql_pure tabOk rfl rfl (ql_neqT tabOk rfl rfl rfl (by omega) (q_nil ?_))))))))))); refine q_cond_true rfl (q_seq (q_region ?_)))
      refine ql_callv (val := .bool true) tabOk rfl rfl rfl rfl (fun w hs => ?_) ?_; exact awake07_ca w
      (refine ql_pure tabOk rfl rfl (q_nil (q_ret ?_)))
      refine q_fin tabOk rfl (by repeat constructor) fun w hs => ?_
      exact ⟨rfl, hs.chg0⟩
    have hl0 : 0 < (allC s r).length := List.length_pos_of_mem hRm
    obtain ⟨R1, R2, R3⟩ := hcin R hRm
    have hRs := hsn R hRm
    obtain ⟨nR, hnR⟩ : ∃ z : Int, z = snowV s R 1 := ⟨_, rfl⟩
    rw [← hnR] at hRs hbest
    refine ql_call (β := Value) (ψ := fun y v => v = .tuple #[y, .int .i64 nR, .int .i64 0]) (L' := fun y => [.ow y 3 1 R.length (ints R)]) tabOk [] _ M0 rfl rfl rfl rfl (Sp.refl _) (fun _ h => h.elim) (fun w' hs => by
      rw [hnR]
      exact cheap_ok w' 0 w'.heap.size (some ⟨gs, 0, none⟩) cs s r 1 R (sat_rdL (t := 61) hs (by repeat constructor) rfl) hcr (by omega) hR) ?_
    rintro cv _ rfl
    dsimp only [List.cons_append, List.nil_append]
    refine ql_fact (fun w hs => hs.slice2 (v := cv) (by repeat constructor)) ?_
    rintro ⟨ca, cc, rfl⟩
    (refine ql_pure tabOk rfl rfl ?_; (iterate 3 refine ql_ext tabOk rfl rfl rfl ?_); (iterate 3 refine ql_pure tabOk rfl rfl ?_); refine q_nil (q_seq (q_seq (q_region (ql_pure tabOk rfl rfl (ql_neqF tabOk rfl rfl rfl (by omega) (ql_pure tabOk rfl rfl (ql_gyes rfl (ql_pure tabOk rfl rfl (ql_gyes rfl (ql_eqlT tabOk rfl rfl rfl (by omega) (ql_gyes rfl ?_))))))))))); refine ql_pure tabOk rfl rfl (ql_gyes rfl (ql_pure tabOk rfl rfl (ql_gyes rfl (ql_gtrT tabOk rfl rfl rfl (by omega) (ql_gyes rfl ?_))))))
    refine ql_neb bool_b rfl rfl rfl ?_
    (refine ql_pure tabOk rfl rfl (ql_pure tabOk rfl rfl (ql_gyes rfl (ql_pure tabOk rfl rfl (ql_gyes rfl (ql_neqF tabOk rfl rfl rfl (by omega) (ql_gyes rfl (ql_pure tabOk rfl rfl (ql_gno rfl rfl rfl (ql_gno rfl rfl rfl (ql_gyes rfl (ql_pure tabOk rfl rfl ?_))))))))))); refine ql_pure tabOk rfl rfl (q_nil (q_cond_false rfl (q_skip (q_seq (q_seq (q_region (ql_pure tabOk rfl rfl (ql_neqF tabOk rfl rfl rfl (by omega) (q_nil (q_cond_false rfl (q_skip ?_))))))))))); refine q_seq (q_region (ql_pure tabOk rfl rfl (ql_pure tabOk rfl rfl ?_))))
    have hmo := fun n (h1 : nR ≤ n) (h2 : n ≤ 2000) => rc_mono hxs j (n := nR) (m := n) (by omega) h1 (by omega)
    have hXd : ∀ n, (rcW X j n).days.length = X.days.length := fun n => rcL_len _ _ _
    refine ql_callF (β := Nat × Nat × List Value) (ψ := fun y v => v = .agg #[.int .i64 X.stock, .int .i64 X.store, .slice (some ⟨y.1, 0, none⟩) X.days.length y.2.1]) (L' := fun y => [dyB y.1 (rcL X.days j nR) y.2.2]) [] _ M0 rfl rfl rfl (Sp.refl _) (fun _ h => h.elim) (fun w' hs => CaF.of tabOk rfl (raced_ca w' 0 w'.heap.size b10 b14 X (some ⟨g, 0, none⟩) cd j nR hxs hjl (by omega) (hs.blk (b := b10) (by repeat constructor)) (hs.blk (b := b14) (by repeat constructor)) (dyB_rd (g := g) (l := X.days) (sp := sp) hs (by repeat constructor)))) ?_
    rintro ⟨g5, c5, sp5⟩ _ rfl
    dsimp only [List.cons_append, List.nil_append]
    skip
    refine ql_callv (val := .tuple #[.int .i64 (firstV (rcW X j nR)).1, .int .i64 (firstV (rcW X j nR)).2]) tabOk rfl rfl rfl rfl (fun w hs => ?_) ?_; exact first_caN w 0 w.heap.size (rcW X j nR) (some ⟨g5, 0, none⟩) c5 X.days.length (dyB_rd (g := g5) (l := rcL X.days j nR) (sp := sp5) hs (by repeat constructor)) (by rw [hXd]; omega) (hXd nR)
    (refine ql_pure tabOk rfl rfl (ql_ext tabOk rfl rfl rfl (ql_ext tabOk rfl rfl rfl (ql_pure tabOk rfl rfl (ql_pure tabOk rfl rfl (q_nil (q_seq (q_region (ql_pure tabOk rfl rfl (ql_pure tabOk rfl rfl ?_))))))))))
    refine ql_callF (β := Nat × Nat × List Value) (ψ := fun y v => v = .agg #[.int .i64 X.stock, .int .i64 X.store, .slice (some ⟨y.1, 0, none⟩) X.days.length y.2.1]) (L' := fun y => [dyB y.1 (rcL X.days j nR) y.2.2]) [] _ M0 rfl rfl rfl (Sp.refl _) (fun _ h => h.elim) (fun w' hs => CaF.of tabOk rfl (raced_ca w' 0 w'.heap.size b10 b14 X (some ⟨g, 0, none⟩) cd j nR hxs hjl (by omega) (hs.blk (b := b10) (by repeat constructor)) (hs.blk (b := b14) (by repeat constructor)) (dyB_rd (g := g) (l := X.days) (sp := sp) hs (by repeat constructor)))) ?_
    rintro ⟨g6, c6, sp6⟩ _ rfl
    dsimp only [List.cons_append, List.nil_append]
    skip
    refine ql_callv (val := .tuple #[.int .i64 (leastV (rcW X j nR)).1, .int .i64 (leastV (rcW X j nR)).2]) tabOk rfl rfl rfl rfl (fun w hs => ?_) ?_; exact least_caN w 0 w.heap.size (rcW X j nR) (some ⟨g6, 0, none⟩) c6 X.days.length (dyB_rd (g := g6) (l := rcL X.days j nR) (sp := sp6) hs (by repeat constructor)) (by rw [hXd]; omega) (hXd nR)
    obtain ⟨⟨he, _, _⟩, hf, _⟩ := hmo nR (Int.le_refl _) (by omega)
    have hfsc : ∀ n m, 0 ≤ n → n ≤ m → m ≤ 90000 → (firstV (rcW X j m)).2 = 6 → (firstV (rcW X j n)).2 = 6 := fun n m h1 h2 h3 => (rc_mono hxs j h1 h2 h3).1.2.1
    generalize firstV (rcW X j nR) = p at hmo he
    generalize leastV (rcW X j nR) = q at hmo hf
    obtain ⟨p1, e⟩ := p
    obtain ⟨q1, f⟩ := q
    dsimp only at hmo he hf ⊢
    (refine ql_pure tabOk rfl rfl (ql_ext tabOk rfl rfl rfl (ql_ext tabOk rfl rfl rfl (ql_pure tabOk rfl rfl (ql_pure tabOk rfl rfl (q_nil (q_seq (q_seq ?_))))))))
    refine q_cut (σ := Unit) (fun _ => [(8, .slice (some ⟨gs, 0, none⟩) s.length cs), (9, .pointer (some ⟨b9, 0, none⟩)), (15, .func (.func 7) #[] #[.pointer (some ⟨b10, 0, none⟩), .pointer (some ⟨b14, 0, none⟩)]), (16, .slice va xs.length vc), (17, .int .i64 e), (18, .slice ca R.length cc), (19, .int .i64 nR), (20, .int .i64 f), (21, .int .i64 p1), (22, .int .i64 q1), (174, .bool false)]) (fun _ => [.pt g (dyC X.days ++ sp) 38, .pt b10 [.int .i64 X.stock, .int .i64 X.store, .slice (some ⟨g, 0, none⟩) X.days.length cd] 34, .pt b14 [.int .i64 j] 3, .pt b9 (rlC r) 29, .ow (.slice (some ⟨gs, 0, none⟩) s.length cs) 61 3 s.length (lpC s), .ow (.slice va xs.length vc) 46 1 xs.length (xs.map (·.1)), un (rowsO 3 xs), .ow (.slice ca R.length cc) 3 1 R.length (ints R)]) ?_ (fun KK hKK => ?_)
    rotate_left
    · rcases he with rfl | rfl <;> rcases hf with rfl | rfl <;> ((first | (refine q_region (ql_pure tabOk rfl rfl (ql_neqT tabOk rfl rfl rfl (by omega) (ql_pure tabOk rfl rfl (ql_gyes rfl (ql_pure tabOk rfl rfl (ql_gyes rfl (ql_neqF tabOk rfl rfl rfl (by omega) (ql_pure tabOk rfl rfl (ql_pure tabOk rfl rfl (ql_gyes rfl (ql_pure tabOk rfl rfl ?_))))))))))); refine ql_gyes rfl (ql_neqT tabOk rfl rfl rfl (by omega) (ql_gyes rfl (ql_pure tabOk rfl rfl (ql_gyes rfl (ql_pure tabOk rfl rfl (ql_gyes rfl (ql_neqF tabOk rfl rfl rfl (by omega) (ql_gyes rfl ?_)))))))); (iterate 3 refine ql_pure tabOk rfl rfl ?_); refine ql_gyes rfl (ql_pure tabOk rfl rfl (ql_gyes rfl (ql_lssF tabOk rfl rfl rfl (by omega) (ql_pure tabOk rfl rfl (q_nil ?_)))))) | (refine q_region (ql_pure tabOk rfl rfl (ql_neqF tabOk rfl rfl rfl (by omega) (ql_pure tabOk rfl rfl (ql_gno rfl rfl rfl (ql_gno rfl rfl rfl (ql_pure tabOk rfl rfl (ql_pure tabOk rfl rfl (ql_gyes rfl (ql_pure tabOk rfl rfl (ql_gyes rfl (ql_neqT tabOk rfl rfl rfl (by omega) ?_))))))))))); refine ql_gyes rfl (ql_pure tabOk rfl rfl (ql_gyes rfl (ql_pure tabOk rfl rfl (ql_gyes rfl (ql_neqF tabOk rfl rfl rfl (by omega) (ql_gyes rfl ?_)))))); (iterate 3 refine ql_pure tabOk rfl rfl ?_); refine ql_gyes rfl (ql_pure tabOk rfl rfl (ql_gyes rfl (ql_lssF tabOk rfl rfl rfl (by omega) (ql_pure tabOk rfl rfl (q_nil ?_)))))) | (refine q_region (ql_pure tabOk rfl rfl (ql_neqT tabOk rfl rfl rfl (by omega) (ql_pure tabOk rfl rfl (ql_gyes rfl (ql_pure tabOk rfl rfl (ql_gyes rfl (ql_neqF tabOk rfl rfl rfl (by omega) (ql_pure tabOk rfl rfl (ql_pure tabOk rfl rfl (ql_gyes rfl (ql_pure tabOk rfl rfl ?_))))))))))); refine ql_gyes rfl (ql_neqF tabOk rfl rfl rfl (by omega) (ql_gyes rfl (ql_pure tabOk rfl rfl (ql_gno rfl rfl rfl (ql_gno rfl rfl rfl (ql_gyes rfl ?_)))))); (iterate 3 refine ql_pure tabOk rfl rfl ?_); refine ql_gyes rfl (ql_pure tabOk rfl rfl (ql_gyes rfl (ql_lssF tabOk rfl rfl rfl (by omega) (ql_pure tabOk rfl rfl (q_nil ?_)))))) | (refine q_region (ql_pure tabOk rfl rfl (ql_neqF tabOk rfl rfl rfl (by omega) (ql_pure tabOk rfl rfl (ql_gno rfl rfl rfl (ql_gno rfl rfl rfl (ql_pure tabOk rfl rfl (ql_pure tabOk rfl rfl (ql_gyes rfl (ql_pure tabOk rfl rfl (ql_gyes rfl (ql_neqF tabOk rfl rfl rfl (by omega) ?_))))))))))); refine ql_gyes rfl (ql_pure tabOk rfl rfl (ql_gno rfl rfl rfl (ql_gno rfl rfl rfl (ql_gyes rfl ?_)))); (iterate 3 refine ql_pure tabOk rfl rfl ?_); refine ql_gyes rfl (ql_pure tabOk rfl rfl (ql_gyes rfl (ql_lssF tabOk rfl rfl rfl (by omega) (ql_pure tabOk rfl rfl (q_nil ?_))))))); exact hKK () _ _ ⟨rfl, rfl, rfl, rfl, rfl, rfl, rfl, rfl, rfl, rfl, rfl, trivial⟩ (by repeat constructor))
    intro _
    (refine q_cond_false rfl (q_skip (q_seq (q_region (ql_pure tabOk rfl rfl (q_nil (q_seq (q_region (ql_pure tabOk rfl rfl (q_nil (q_seq (q_seq ?_))))))))))); refine q_region ?_; (iterate 3 refine ql_pure tabOk rfl rfl ?_); refine q_nil (q_block ?_))
    refine q_conv (H' := .ow (.slice none 0 0) 46 1 0 [] :: [.pt g (dyC X.days ++ sp) 38, .pt b10 [.int .i64 X.stock, .int .i64 X.store, .slice (some ⟨g, 0, none⟩) X.days.length cd] 34, .pt b14 [.int .i64 j] 3, .pt b9 (rlC r) 29, .ow (.slice (some ⟨gs, 0, none⟩) s.length cs) 61 3 s.length (lpC s), .ow (.slice va xs.length vc) 46 1 xs.length (xs.map (·.1)), un (rowsO 3 xs), .ow (.slice ca R.length cc) 3 1 R.length (ints R)]) (fun w' hs => Sat.ownil hs 46 1) ?_
    refine q_loop (σ := Nat × Value × List (Value × List Int) × Int) (fun q => q.1 ≤ xs.length ∧ q.2.2.1 = (xs.take q.1).filter (fun p => decide ((firstV (rcW X j (snowV s p.2 1))).2 = 6)) ∧ (0 ≤ q.2.2.2 ∧ q.2.2.2 ≤ 2000) ∧ (∀ p ∈ q.2.2.1, snowV s p.2 1 ≤ q.2.2.2) ∧ (q.2.2.2 = 0 ∨ ∃ p ∈ q.2.2.1, q.2.2.2 = snowV s p.2 1)) (fun q => xs.length - q.1) (fun q => [(8, .slice (some ⟨gs, 0, none⟩) s.length cs), (9, .pointer (some ⟨b9, 0, none⟩)), (15, .func (.func 7) #[] #[.pointer (some ⟨b10, 0, none⟩), .pointer (some ⟨b14, 0, none⟩)]), (16, .slice va xs.length vc), (17, .int .i64 e), (18, .slice ca R.length cc), (19, .int .i64 nR), (20, .int .i64 f), (21, .int .i64 p1), (22, .int .i64 q1), (23, q.2.1), (24, .int .i64 q.2.2.2), (175, .slice va xs.length vc), (176, .int .i64 xs.length), (177, .int .i64 q.1)])
      (fun q => .ow q.2.1 46 1 q.2.2.1.length (q.2.2.1.map (·.1)) :: [.pt g (dyC X.days ++ sp) 38, .pt b10 [.int .i64 X.stock, .int .i64 X.store, .slice (some ⟨g, 0, none⟩) X.days.length cd] 34, .pt b14 [.int .i64 j] 3, .pt b9 (rlC r) 29, .ow (.slice (some ⟨gs, 0, none⟩) s.length cs) 61 3 s.length (lpC s), .ow (.slice va xs.length vc) 46 1 xs.length (xs.map (·.1)), un (rowsO 3 xs), .ow (.slice ca R.length cc) 3 1 R.length (ints R)]) (0, .slice none 0 0, [], 0) ⟨by omega, rfl, by dsimp only; omega, fun p hp => by simp at hp, .inl rfl⟩ ⟨rfl, rfl, rfl, rfl, rfl, rfl, rfl, rfl, rfl, rfl, rfl, rfl, rfl, rfl, rfl, trivial⟩ (by repeat constructor) ?_
    rintro ⟨i, hv, hp, most⟩ ⟨hi, hhp, hmost, hle, hmx⟩ K hK
    dsimp only at hi hhp hmost hle hmx ⊢
    (refine q_seq (q_region (ql_pure tabOk rfl rfl (q_nil (q_seq ?_)))))
    refine q_if rfl (fun hc => ?_) (fun hc => ?_)
    · have hi2 : i < xs.length := by omega
      clear hc
      have hmem : xs[i] ∈ xs := List.getElem_mem hi2
      have hpi : hp.length ≤ xs.length := by rw [hhp]; exact Nat.le_trans (List.length_filter_le _ _) (List.length_take_le' _ _)
      have htk := filter_take (fun p : Value × List Int => decide ((firstV (rcW X j (snowV s p.2 1))).2 = 6)) xs hi2
      rw [← hhp] at htk
      generalize hxi : xs[i] = p at *
      obtain ⟨u, q⟩ := p
      have hqm : q ∈ allC s r := by rw [← hxm]; exact List.mem_map.2 ⟨_, hmem, rfl⟩
      obtain ⟨Q1, Q2, Q3⟩ := hcin q hqm
      have hqs := hsn q hqm
      have hqb := hbest q hqm
      have eq := (meas_in hcr.s (c := q) (by omega) Q1 Q3 1 (by omega)).2
      refine q_fact (fun w hs => hs.ownSome (v := .slice va xs.length vc) (by repeat constructor) (by omega)) ?_
      rintro ⟨g0, d0, ee⟩
      cases ee
      refine q_fact (fun w hs => ls_slice hs (xs := xs) (t := 3) (by repeat constructor) hmem) ?_
      rintro ⟨ua, uc, rfl⟩
      dsimp only at htk
      generalize hnq : snowV s q 1 = nq at *
      (refine q_skip (q_seq (q_block (q_seq (q_region ?_)))))
      refine ql_index tabOk rfl rfl rfl rfl rfl (by omega) (by omega) ?_
      refine ql_load1 (v := .slice ua q.length uc) tabOk rfl rfl rfl (fun w hs => ls_cell hs (by repeat constructor) hi2 hxi) ?_
      (refine ql_pure tabOk rfl rfl (q_nil (q_seq (q_region (ql_pure tabOk rfl rfl (ql_pure tabOk rfl rfl ?_))))))
      refine ql_callv (val := .tuple #[.int .i64 nq, .int .i64 0]) tabOk rfl rfl rfl rfl (fun w hs => ?_) ?_; exact by have := snowE_ca w 0 w.heap.size 0 w.heap.size (some ⟨gs, 0, none⟩) cs (.slice ua q.length uc) s q 1 (sat_rdL (t := 61) hs (by repeat constructor) rfl) (by omega) (ls_rd hs (xs := xs) (t := 3) (by repeat constructor) hmem) (by omega); rw [eq] at this; exact this
      (refine ql_pure tabOk rfl rfl (ql_ext tabOk rfl rfl rfl (ql_ext tabOk rfl rfl rfl (ql_pure tabOk rfl rfl (ql_pure tabOk rfl rfl (q_nil (q_seq (q_seq (q_region (ql_pure tabOk rfl rfl (ql_neqF tabOk rfl rfl rfl (by omega) (ql_pure tabOk rfl rfl ?_))))))))))); refine ql_gyes rfl (ql_pure tabOk rfl rfl (ql_gyes rfl (ql_pure tabOk rfl rfl (ql_gyes rfl (ql_lssF tabOk rfl rfl rfl (by omega) (ql_pure tabOk rfl rfl (q_nil (q_cond_false rfl (q_skip (q_seq (q_region ?_))))))))))); refine ql_pure tabOk rfl rfl (ql_pure tabOk rfl rfl ?_))
      refine ql_callF (β := Nat × Nat × List Value) (ψ := fun y v => v = .agg #[.int .i64 X.stock, .int .i64 X.store, .slice (some ⟨y.1, 0, none⟩) X.days.length y.2.1]) (L' := fun y => [dyB y.1 (rcL X.days j nq) y.2.2]) [] _ M0 rfl rfl rfl (Sp.refl _) (fun _ h => h.elim) (fun w' hs => CaF.of tabOk rfl (raced_ca w' 0 w'.heap.size b10 b14 X (some ⟨g, 0, none⟩) cd j nq hxs hjl (by omega) (hs.blk (b := b10) (by repeat constructor)) (hs.blk (b := b14) (by repeat constructor)) (dyB_rd (g := g) (l := X.days) (sp := sp) hs (by repeat constructor)))) ?_
      rintro ⟨g7, c7, sp7⟩ _ rfl
      dsimp only [List.cons_append, List.nil_append]
      skip
      refine ql_callv (val := .tuple #[.int .i64 (firstV (rcW X j nq)).1, .int .i64 (firstV (rcW X j nq)).2]) tabOk rfl rfl rfl rfl (fun w hs => ?_) ?_; exact first_caN w 0 w.heap.size (rcW X j nq) (some ⟨g7, 0, none⟩) c7 X.days.length (dyB_rd (g := g7) (l := rcL X.days j nq) (sp := sp7) hs (by repeat constructor)) (by rw [hXd]; omega) (hXd nq)
      (refine ql_pure tabOk rfl rfl (ql_ext tabOk rfl rfl rfl (ql_ext tabOk rfl rfl rfl (ql_pure tabOk rfl rfl (ql_pure tabOk rfl rfl (q_nil (q_seq (q_region (ql_pure tabOk rfl rfl (ql_pure tabOk rfl rfl ?_))))))))))
      refine ql_callF (β := Nat × Nat × List Value) (ψ := fun y v => v = .agg #[.int .i64 X.stock, .int .i64 X.store, .slice (some ⟨y.1, 0, none⟩) X.days.length y.2.1]) (L' := fun y => [dyB y.1 (rcL X.days j nq) y.2.2]) [] _ M0 rfl rfl rfl (Sp.refl _) (fun _ h => h.elim) (fun w' hs => CaF.of tabOk rfl (raced_ca w' 0 w'.heap.size b10 b14 X (some ⟨g, 0, none⟩) cd j nq hxs hjl (by omega) (hs.blk (b := b10) (by repeat constructor)) (hs.blk (b := b14) (by repeat constructor)) (dyB_rd (g := g) (l := X.days) (sp := sp) hs (by repeat constructor)))) ?_
      rintro ⟨g8, c8, sp8⟩ _ rfl
      dsimp only [List.cons_append, List.nil_append]
      skip
      refine ql_callv (val := .tuple #[.int .i64 (leastV (rcW X j nq)).1, .int .i64 (leastV (rcW X j nq)).2]) tabOk rfl rfl rfl rfl (fun w hs => ?_) ?_; exact least_caN w 0 w.heap.size (rcW X j nq) (some ⟨g8, 0, none⟩) c8 X.days.length (dyB_rd (g := g8) (l := rcL X.days j nq) (sp := sp8) hs (by repeat constructor)) (by rw [hXd]; omega) (hXd nq)
      obtain ⟨⟨_, m1, m2⟩, _, m3⟩ := hmo nq hqb (by omega)
      obtain ⟨⟨hG, _, _⟩, hH, _⟩ := rc_mono hxs j (n := nq) (m := nq) (by omega) (Int.le_refl _) (by omega)
      generalize firstV (rcW X j nq) = P at *
      generalize leastV (rcW X j nq) = Q at *
      obtain ⟨P1, G⟩ := P
      obtain ⟨Q1', H⟩ := Q
      dsimp only at m1 m2 m3 hG hH htk ⊢
      (refine ql_pure tabOk rfl rfl (ql_ext tabOk rfl rfl rfl (ql_ext tabOk rfl rfl rfl (ql_pure tabOk rfl rfl (ql_pure tabOk rfl rfl (q_nil (q_seq (q_seq ?_))))))))
      refine q_cut (σ := Unit) (fun _ => [(8, .slice (some ⟨gs, 0, none⟩) s.length cs), (9, .pointer (some ⟨b9, 0, none⟩)), (15, .func (.func 7) #[] #[.pointer (some ⟨b10, 0, none⟩), .pointer (some ⟨b14, 0, none⟩)]), (16, .slice (some ⟨g0, 0, none⟩) xs.length vc), (17, .int .i64 e), (18, .slice ca R.length cc), (19, .int .i64 nR), (20, .int .i64 f), (21, .int .i64 p1), (22, .int .i64 q1), (23, hv), (24, .int .i64 most), (26, .slice ua q.length uc), (27, .int .i64 nq), (28, .int .i64 G), (175, .slice (some ⟨g0, 0, none⟩) xs.length vc), (176, .int .i64 xs.length), (177, .int .i64 i), (255, .bool false)]) (fun _ => .ow hv 46 1 hp.length (hp.map (·.1)) :: [.pt g (dyC X.days ++ sp) 38, .pt b10 [.int .i64 X.stock, .int .i64 X.store, .slice (some ⟨g, 0, none⟩) X.days.length cd] 34, .pt b14 [.int .i64 j] 3, .pt b9 (rlC r) 29, .ow (.slice (some ⟨gs, 0, none⟩) s.length cs) 61 3 s.length (lpC s), .ow (.slice (some ⟨g0, 0, none⟩) xs.length vc) 46 1 xs.length (xs.map (·.1)), un (rowsO 3 xs), .ow (.slice ca R.length cc) 3 1 R.length (ints R)]) ?_ (fun KK hKK => ?_)
      rotate_left
      · rcases hG with rfl | rfl
        · rcases he with rfl | rfl <;> rcases hH with rfl | rfl <;> (try have m4 := m3 rfl) <;> (try have m5 := m2 rfl) <;> ((first | (refine q_region (ql_pure tabOk rfl rfl (ql_neqF tabOk rfl rfl rfl (by omega) (ql_pure tabOk rfl rfl (ql_gno rfl rfl rfl (ql_gno rfl rfl rfl (ql_pure tabOk rfl rfl (ql_pure tabOk rfl rfl (ql_gyes rfl (ql_pure tabOk rfl rfl (ql_gyes rfl (ql_neqF tabOk rfl rfl rfl (by omega) ?_))))))))))); refine ql_gyes rfl (ql_pure tabOk rfl rfl (ql_gno rfl rfl rfl (ql_gno rfl rfl rfl (ql_gyes rfl ?_)))); (iterate 3 refine ql_pure tabOk rfl rfl ?_); refine ql_gyes rfl (ql_pure tabOk rfl rfl (ql_gyes rfl (ql_eqlF tabOk rfl rfl rfl (by omega) (ql_gyes rfl (ql_pure tabOk rfl rfl (ql_gno rfl rfl rfl (ql_gno rfl rfl rfl (ql_gyes rfl ?_)))))))); (iterate 3 refine ql_pure tabOk rfl rfl ?_); refine ql_gyes rfl (ql_pure tabOk rfl rfl (ql_gyes rfl (ql_eqlT tabOk rfl rfl rfl (by omega) (ql_gyes rfl (ql_pure tabOk rfl rfl (ql_gyes rfl (ql_pure tabOk rfl rfl (ql_gyes rfl (ql_eqlT tabOk rfl rfl rfl (by omega) (ql_gyes rfl (ql_pure tabOk rfl rfl ?_))))))))))); refine ql_gyes rfl (ql_pure tabOk rfl rfl (ql_gyes rfl (ql_pure tabOk rfl rfl (ql_gyes rfl (ql_pure tabOk rfl rfl (ql_gyes rfl (ql_gtrF tabOk rfl rfl rfl (by omega) (ql_gyes rfl ?_)))))))); (iterate 3 refine ql_pure tabOk rfl rfl ?_); refine ql_gyes rfl (ql_pure tabOk rfl rfl (ql_gyes rfl (ql_eqlT tabOk rfl rfl rfl (by omega) (ql_gyes rfl (ql_pure tabOk rfl rfl (ql_gyes rfl (ql_pure tabOk rfl rfl (ql_gyes rfl (ql_neqF tabOk rfl rfl rfl (by omega) (ql_gyes rfl (ql_pure tabOk rfl rfl ?_))))))))))); refine ql_gyes rfl (ql_pure tabOk rfl rfl (ql_gyes rfl (ql_pure tabOk rfl rfl (ql_gyes rfl (ql_lssF tabOk rfl rfl rfl (by omega) (ql_gyes rfl (ql_pure tabOk rfl rfl (ql_gyes rfl (ql_pure tabOk rfl rfl (ql_pure tabOk rfl rfl (q_nil ?_)))))))))))) | (refine q_region (ql_pure tabOk rfl rfl (ql_neqF tabOk rfl rfl rfl (by omega) (ql_pure tabOk rfl rfl (ql_gno rfl rfl rfl (ql_gno rfl rfl rfl (ql_pure tabOk rfl rfl (ql_pure tabOk rfl rfl (ql_gyes rfl (ql_pure tabOk rfl rfl (ql_gyes rfl (ql_neqF tabOk rfl rfl rfl (by omega) ?_))))))))))); refine ql_gyes rfl (ql_pure tabOk rfl rfl (ql_gno rfl rfl rfl (ql_gno rfl rfl rfl (ql_gyes rfl ?_)))); (iterate 3 refine ql_pure tabOk rfl rfl ?_); refine ql_gyes rfl (ql_pure tabOk rfl rfl (ql_gyes rfl (ql_eqlF tabOk rfl rfl rfl (by omega) (ql_gyes rfl (ql_pure tabOk rfl rfl (ql_gno rfl rfl rfl (ql_gno rfl rfl rfl (ql_gyes rfl ?_)))))))); (iterate 3 refine ql_pure tabOk rfl rfl ?_); refine ql_gyes rfl (ql_pure tabOk rfl rfl (ql_gyes rfl (ql_eqlT tabOk rfl rfl rfl (by omega) (ql_gyes rfl (ql_pure tabOk rfl rfl (ql_gyes rfl (ql_pure tabOk rfl rfl (ql_gyes rfl (ql_eqlF tabOk rfl rfl rfl (by omega) (ql_gyes rfl (ql_pure tabOk rfl rfl ?_))))))))))); refine ql_gyes rfl (ql_pure tabOk rfl rfl ?_); (iterate 3 refine ql_gno rfl rfl rfl ?_); refine ql_gyes rfl ?_; (iterate 3 refine ql_pure tabOk rfl rfl ?_); refine ql_gyes rfl (ql_pure tabOk rfl rfl (ql_gyes rfl (ql_eqlT tabOk rfl rfl rfl (by omega) (ql_gyes rfl (ql_pure tabOk rfl rfl (ql_gyes rfl (ql_pure tabOk rfl rfl (ql_gyes rfl (ql_neqF tabOk rfl rfl rfl (by omega) (ql_gyes rfl (ql_pure tabOk rfl rfl ?_))))))))))); refine ql_gyes rfl (ql_pure tabOk rfl rfl (ql_gyes rfl (ql_pure tabOk rfl rfl (ql_gyes rfl (ql_lssF tabOk rfl rfl rfl (by omega) (ql_gyes rfl (ql_pure tabOk rfl rfl (ql_gyes rfl (ql_pure tabOk rfl rfl (ql_pure tabOk rfl rfl (q_nil ?_)))))))))))) | (refine q_region (ql_pure tabOk rfl rfl (ql_neqF tabOk rfl rfl rfl (by omega) (ql_pure tabOk rfl rfl (ql_gno rfl rfl rfl (ql_gno rfl rfl rfl (ql_pure tabOk rfl rfl (ql_pure tabOk rfl rfl (ql_gyes rfl (ql_pure tabOk rfl rfl (ql_gyes rfl (ql_neqT tabOk rfl rfl rfl (by omega) ?_))))))))))); refine ql_gyes rfl (ql_pure tabOk rfl rfl (ql_gyes rfl (ql_pure tabOk rfl rfl (ql_gyes rfl (ql_neqF tabOk rfl rfl rfl (by omega) (ql_gyes rfl ?_)))))); (iterate 3 refine ql_pure tabOk rfl rfl ?_); refine ql_gyes rfl (ql_pure tabOk rfl rfl (ql_gyes rfl (ql_eqlF tabOk rfl rfl rfl (by omega) (ql_gyes rfl (ql_pure tabOk rfl rfl (ql_gno rfl rfl rfl (ql_gno rfl rfl rfl (ql_gyes rfl ?_)))))))); (iterate 3 refine ql_pure tabOk rfl rfl ?_); refine ql_gyes rfl (ql_pure tabOk rfl rfl (ql_gyes rfl (ql_eqlT tabOk rfl rfl rfl (by omega) (ql_gyes rfl (ql_pure tabOk rfl rfl (ql_gyes rfl (ql_pure tabOk rfl rfl (ql_gyes rfl (ql_eqlT tabOk rfl rfl rfl (by omega) (ql_gyes rfl (ql_pure tabOk rfl rfl ?_))))))))))); refine ql_gyes rfl (ql_pure tabOk rfl rfl (ql_gyes rfl (ql_pure tabOk rfl rfl (ql_gyes rfl (ql_pure tabOk rfl rfl (ql_gyes rfl (ql_gtrF tabOk rfl rfl rfl (by omega) (ql_gyes rfl ?_)))))))); (iterate 3 refine ql_pure tabOk rfl rfl ?_); refine ql_gyes rfl (ql_pure tabOk rfl rfl (ql_gyes rfl (ql_eqlF tabOk rfl rfl rfl (by omega) (ql_gyes rfl (ql_pure tabOk rfl rfl ?_))))); (iterate 3 refine ql_gno rfl rfl rfl ?_); (iterate 3 refine ql_gnone rfl rfl ?_); refine ql_gno rfl rfl rfl (ql_gyes rfl (ql_pure tabOk rfl rfl (ql_pure tabOk rfl rfl (q_nil ?_))))) | (refine q_region (ql_pure tabOk rfl rfl (ql_neqF tabOk rfl rfl rfl (by omega) (ql_pure tabOk rfl rfl (ql_gno rfl rfl rfl (ql_gno rfl rfl rfl (ql_pure tabOk rfl rfl (ql_pure tabOk rfl rfl (ql_gyes rfl (ql_pure tabOk rfl rfl (ql_gyes rfl (ql_neqT tabOk rfl rfl rfl (by omega) ?_))))))))))); refine ql_gyes rfl (ql_pure tabOk rfl rfl (ql_gyes rfl (ql_pure tabOk rfl rfl (ql_gyes rfl (ql_neqF tabOk rfl rfl rfl (by omega) (ql_gyes rfl ?_)))))); (iterate 3 refine ql_pure tabOk rfl rfl ?_); refine ql_gyes rfl (ql_pure tabOk rfl rfl (ql_gyes rfl (ql_eqlF tabOk rfl rfl rfl (by omega) (ql_gyes rfl (ql_pure tabOk rfl rfl (ql_gno rfl rfl rfl (ql_gno rfl rfl rfl (ql_gyes rfl ?_)))))))); (iterate 3 refine ql_pure tabOk rfl rfl ?_); refine ql_gyes rfl (ql_pure tabOk rfl rfl (ql_gyes rfl (ql_eqlT tabOk rfl rfl rfl (by omega) (ql_gyes rfl (ql_pure tabOk rfl rfl (ql_gyes rfl (ql_pure tabOk rfl rfl (ql_gyes rfl (ql_eqlF tabOk rfl rfl rfl (by omega) (ql_gyes rfl (ql_pure tabOk rfl rfl ?_))))))))))); refine ql_gyes rfl (ql_pure tabOk rfl rfl ?_); (iterate 3 refine ql_gno rfl rfl rfl ?_); refine ql_gyes rfl ?_; (iterate 3 refine ql_pure tabOk rfl rfl ?_); refine ql_gyes rfl (ql_pure tabOk rfl rfl (ql_gyes rfl (ql_eqlF tabOk rfl rfl rfl (by omega) (ql_gyes rfl (ql_pure tabOk rfl rfl ?_))))); (iterate 3 refine ql_gno rfl rfl rfl ?_); (iterate 3 refine ql_gnone rfl rfl ?_); refine ql_gno rfl rfl rfl (ql_gyes rfl (ql_pure tabOk rfl rfl (ql_pure tabOk rfl rfl (q_nil ?_)))))); exact hKK () _ _ ⟨rfl, rfl, rfl, rfl, rfl, rfl, rfl, rfl, rfl, rfl, rfl, rfl, rfl, rfl, rfl, rfl, rfl, rfl, rfl, trivial⟩ (by repeat constructor))
        · obtain rfl := m1 rfl
          rcases hH with rfl | rfl <;> (try have m4 := m3 rfl) <;> ((first | (refine q_region (ql_pure tabOk rfl rfl (ql_neqT tabOk rfl rfl rfl (by omega) (ql_pure tabOk rfl rfl (ql_gyes rfl (ql_pure tabOk rfl rfl (ql_gyes rfl (ql_neqF tabOk rfl rfl rfl (by omega) (ql_pure tabOk rfl rfl (ql_pure tabOk rfl rfl (ql_gyes rfl (ql_pure tabOk rfl rfl ?_))))))))))); refine ql_gyes rfl (ql_neqF tabOk rfl rfl rfl (by omega) (ql_gyes rfl (ql_pure tabOk rfl rfl (ql_gno rfl rfl rfl (ql_gno rfl rfl rfl (ql_gyes rfl ?_)))))); (iterate 3 refine ql_pure tabOk rfl rfl ?_); refine ql_gyes rfl (ql_pure tabOk rfl rfl (ql_gyes rfl (ql_eqlT tabOk rfl rfl rfl (by omega) (ql_gyes rfl (ql_pure tabOk rfl rfl (ql_gyes rfl (ql_pure tabOk rfl rfl (ql_gyes rfl (ql_neqF tabOk rfl rfl rfl (by omega) (ql_gyes rfl ?_)))))))))); (iterate 3 refine ql_pure tabOk rfl rfl ?_); refine ql_gyes rfl (ql_pure tabOk rfl rfl (ql_gyes rfl (ql_eqlF tabOk rfl rfl rfl (by omega) (ql_gyes rfl (ql_pure tabOk rfl rfl (ql_gno rfl rfl rfl (ql_gno rfl rfl rfl (ql_gyes rfl (ql_pure tabOk rfl rfl (ql_gyes rfl (ql_pure tabOk rfl rfl ?_))))))))))); (iterate 3 refine ql_gno rfl rfl rfl ?_); refine ql_gyes rfl ?_; (iterate 3 refine ql_pure tabOk rfl rfl ?_); refine ql_gyes rfl (ql_pure tabOk rfl rfl (ql_gyes rfl (ql_eqlT tabOk rfl rfl rfl (by omega) (ql_gyes rfl (ql_pure tabOk rfl rfl (ql_gyes rfl (ql_pure tabOk rfl rfl (ql_gyes rfl (ql_neqF tabOk rfl rfl rfl (by omega) (ql_gyes rfl (ql_pure tabOk rfl rfl ?_))))))))))); refine ql_gyes rfl (ql_pure tabOk rfl rfl (ql_gyes rfl (ql_pure tabOk rfl rfl (ql_gyes rfl (ql_lssF tabOk rfl rfl rfl (by omega) (ql_gyes rfl (ql_pure tabOk rfl rfl (ql_gyes rfl (ql_pure tabOk rfl rfl (ql_pure tabOk rfl rfl (q_nil ?_)))))))))))) | (refine q_region (ql_pure tabOk rfl rfl (ql_neqT tabOk rfl rfl rfl (by omega) (ql_pure tabOk rfl rfl (ql_gyes rfl (ql_pure tabOk rfl rfl (ql_gyes rfl (ql_neqF tabOk rfl rfl rfl (by omega) (ql_pure tabOk rfl rfl (ql_pure tabOk rfl rfl (ql_gyes rfl (ql_pure tabOk rfl rfl ?_))))))))))); refine ql_gyes rfl (ql_neqT tabOk rfl rfl rfl (by omega) (ql_gyes rfl (ql_pure tabOk rfl rfl (ql_gyes rfl (ql_pure tabOk rfl rfl (ql_gyes rfl (ql_neqF tabOk rfl rfl rfl (by omega) (ql_gyes rfl ?_)))))))); (iterate 3 refine ql_pure tabOk rfl rfl ?_); refine ql_gyes rfl (ql_pure tabOk rfl rfl (ql_gyes rfl (ql_eqlT tabOk rfl rfl rfl (by omega) (ql_gyes rfl (ql_pure tabOk rfl rfl (ql_gyes rfl (ql_pure tabOk rfl rfl (ql_gyes rfl (ql_neqF tabOk rfl rfl rfl (by omega) (ql_gyes rfl ?_)))))))))); (iterate 3 refine ql_pure tabOk rfl rfl ?_); refine ql_gyes rfl (ql_pure tabOk rfl rfl (ql_gyes rfl (ql_eqlF tabOk rfl rfl rfl (by omega) (ql_gyes rfl (ql_pure tabOk rfl rfl (ql_gno rfl rfl rfl (ql_gno rfl rfl rfl (ql_gyes rfl (ql_pure tabOk rfl rfl (ql_gyes rfl (ql_pure tabOk rfl rfl ?_))))))))))); (iterate 3 refine ql_gno rfl rfl rfl ?_); refine ql_gyes rfl ?_; (iterate 3 refine ql_pure tabOk rfl rfl ?_); refine ql_gyes rfl (ql_pure tabOk rfl rfl (ql_gyes rfl (ql_eqlF tabOk rfl rfl rfl (by omega) (ql_gyes rfl (ql_pure tabOk rfl rfl ?_))))); (iterate 3 refine ql_gno rfl rfl rfl ?_); (iterate 3 refine ql_gnone rfl rfl ?_); refine ql_gno rfl rfl rfl (ql_gyes rfl (ql_pure tabOk rfl rfl (ql_pure tabOk rfl rfl (q_nil ?_)))))); exact hKK () _ _ ⟨rfl, rfl, rfl, rfl, rfl, rfl, rfl, rfl, rfl, rfl, rfl, rfl, rfl, rfl, rfl, rfl, rfl, rfl, rfl, trivial⟩ (by repeat constructor))
      intro _
      by_cases hg : G = 6
      · rw [hg] at htk
        rw [hg]
        have ht2 : (xs.take (i + 1)).filter (fun p : Value × List Int => decide ((firstV (rcW X j (snowV s p.2 1))).2 = 6)) = hp ++ [(.slice ua q.length uc, q)] := htk
        (refine q_cond_false rfl (q_skip (q_seq (q_region (ql_pure tabOk rfl rfl (ql_eqlT tabOk rfl rfl rfl (by omega) (q_nil (q_cond_true rfl (q_region (ql_pure tabOk rfl rfl (ql_pure tabOk rfl rfl ?_)))))))))))
        refine ql_mkS 46 [.slice ua q.length uc] rfl (by kernel_rfl) rfl (fun bn => ?_)
        skip
        refine ql_append (q := 1) slII rfl rfl rfl (fun v' => by repeat constructor) (fun w' hs => ⟨_, _, Blk.rd (hs.blk (b := bn) (by repeat constructor)) rfl 1⟩) (by simp [oneV]) (by omega) (by omega) (fun v2 => ?_)
        ((iterate 5 refine ql_pure tabOk rfl rfl ?_); refine q_nil (q_blk (q_region (ql_ar tabOk rfl rfl rfl rfl (by omega) (by omega) (ql_pure tabOk rfl rfl (q_nil ?_))))))
        refine hK (i + 1, v2, hp ++ [(.slice ua q.length uc, q)], max most nq) _ _ ⟨by dsimp only; omega, ht2.symm, by dsimp only; omega, fun p hp' => ?_, .inr ?_⟩ (by dsimp only; omega) ⟨rfl, rfl, rfl, rfl, rfl, rfl, rfl, rfl, rfl, rfl, rfl, rfl, rfl, rfl, rfl, trivial⟩ ?_
        · dsimp only
          rcases List.mem_append.1 hp' with h | h
          · have := hle p h; omega
          · rw [List.mem_singleton.1 h]; dsimp only; rw [hnq]; omega
        · dsimp only
          rcases hmx with h | ⟨p, hpm, h⟩
          · exact ⟨_, List.mem_append_right _ (.head _), by dsimp only; rw [hnq]; omega⟩
          · rcases Int.lt_or_le most nq with h5 | h5
            · exact ⟨_, List.mem_append_right _ (.head _), by dsimp only; rw [hnq]; omega⟩
            · exact ⟨p, List.mem_append_left _ hpm, by omega⟩
        · dsimp only
          rw [List.map_append, List.length_append]
          repeat constructor
      · have ht2 : (xs.take (i + 1)).filter (fun p : Value × List Int => decide ((firstV (rcW X j (snowV s p.2 1))).2 = 6)) = hp := by
          rw [htk, if_neg (by simpa using hg), List.append_nil]
        (refine q_cond_false rfl (q_skip (q_seq (q_region (ql_pure tabOk rfl rfl (ql_eqlF tabOk rfl rfl rfl (by omega) (q_nil (q_cond_false rfl (q_skip (q_blk (q_region (ql_ar tabOk rfl rfl rfl rfl (by omega) (by omega) ?_))))))))))); refine ql_pure tabOk rfl rfl (q_nil ?_))
        exact hK (i + 1, hv, hp, most) _ _ ⟨by dsimp only; omega, ht2.symm, hmost, hle, hmx⟩ (by dsimp only; omega) ⟨rfl, rfl, rfl, rfl, rfl, rfl, rfl, rfl, rfl, rfl, rfl, rfl, rfl, rfl, rfl, trivial⟩ (by repeat constructor)
    · obtain rfl : i = xs.length := by omega
      clear hc hK
      rw [List.take_length] at hhp
      have hcov : covL s r 1 most = hp.map (·.2) := by
        rw [hhp]
        have h1 := held_cov (s := s) (r := r) (fun n => decide ((firstV (rcW X j n)).2 = 6)) (fun n m a b c h => by simp at h ⊢; exact hfsc n m a b c h) hsn most hmost.1 (fun c hc h => ?_) ?_
        · rw [h1, ← hxm, List.filter_map]
          rfl
        · have hc2 : c ∈ xs.map (·.2) := by rw [hxm]; exact hc
          obtain ⟨p, hp2, rfl⟩ := List.mem_map.1 hc2
          exact hle p (by rw [hhp]; exact List.mem_filter.2 ⟨hp2, h⟩)
        · rcases hmx with h | ⟨p, hpm, h⟩
          · exact .inl h
          · rw [hhp] at hpm
            obtain ⟨h1, h2⟩ := List.mem_filter.1 hpm
            exact .inr ⟨p.2, by rw [← hxm]; exact List.mem_map.2 ⟨p, h1, rfl⟩, h2, h⟩
      have hps : ∀ p ∈ hp, p ∈ xs := fun p h => by rw [hhp] at h; exact (List.mem_filter.1 h).1
      have hpl : hp.length ≤ xs.length := by rw [hhp]; exact List.length_filter_le _ _
      refine q_fact (fun w hs => hs.slice2 (v := hv) (by repeat constructor)) ?_
      rintro ⟨ha, hc, rfl⟩
      clear hhp hle hmx hmo hfsc he hf
      (refine q_exit _ rfl (q_seq (q_region (ql_pure tabOk rfl rfl ?_))); refine ql_loadABa tabOk rfl rfl rfl ?_; refine ql_pure tabOk rfl rfl ?_)
      refine ql_call (β := Value × List (Value × List Int)) tabOk [] _ M0 rfl rfl rfl rfl (Sp.refl _) (fun _ h => h.elim) (fun w' hs => cov_ok w' 0 w'.heap.size (some ⟨gs, 0, none⟩) cs s r 1 most (sat_rdL (t := 61) hs (by repeat constructor) rfl) (by omega) (covered0 hcr (by omega) (by omega) hA1)) ?_
      rintro ⟨z2, ls⟩ _ ⟨rfl, hlm⟩
      dsimp only [lsK, List.cons_append, List.nil_append] at hlm ⊢
      rw [hcov] at hlm
      refine ql_fact (fun w hs => hs.slice2 (v := z2) (by repeat constructor)) ?_
      rintro ⟨ya, yc, rfl⟩
      (refine ql_pure tabOk rfl rfl (ql_ext tabOk rfl rfl rfl (ql_ext tabOk rfl rfl rfl (ql_pure tabOk rfl rfl (ql_pure tabOk rfl rfl (q_nil (q_seq (q_seq (q_region (ql_pure tabOk rfl rfl (ql_neqF tabOk rfl rfl rfl (by omega) (ql_pure tabOk rfl rfl ?_))))))))))); refine ql_gyes rfl (ql_pure tabOk rfl rfl (ql_gyes rfl (ql_pure tabOk rfl rfl (ql_gyes rfl ?_)))))
      refine ql_callv (val := .bool true) tabOk rfl rfl rfl rfl (fun w hs => ?_) ?_; exact eqII_ca w 0 w.heap.size 0 w.heap.size (.slice ya ls.length yc) (.slice ha hp.length hc) (hp.map (·.2)) (hlm ▸ ls_rdII hs (xs := ls) (t := 3) (t2 := 46) (n := ls.length) (by repeat constructor) (by repeat constructor)) (held_rdII hs (xs := xs) (t := 3) (t2 := 46) (by repeat constructor) (by repeat constructor) hps) (by rw [List.length_map]; omega) (fun l hl => by obtain ⟨p, hp2, rfl⟩ := List.mem_map.1 hl; have := (hcin p.2 (by rw [← hxm]; exact List.mem_map.2 ⟨p, hps p hp2, rfl⟩)).2.1; omega)
      (refine ql_gyes rfl (ql_pure tabOk rfl rfl (ql_pure tabOk rfl rfl (q_nil (q_cond_false rfl (q_skip (q_seq (q_region ?_))))))))
      refine ql_mkS 3 [.int .i64 300] rfl (by kernel_rfl) rfl (fun bS => ?_)
      skip
      refine ql_mk #[.slice (some ⟨bS, 0, none⟩) 1 1, .slice none 0 0, .slice none 0 0, .slice none 0 0] rfl (by kernel_rfl) rfl ?_
      refine ql_alloc zero59 rfl (fun b33 => ?_)
      (refine ql_setA tabOk rfl rfl rfl rfl rfl (by repeat constructor) rfl ?_; refine ql_pure tabOk rfl rfl (q_nil (q_seq (q_seq (q_region ?_)))); (iterate 3 refine ql_pure tabOk rfl rfl ?_); refine q_nil (q_block ?_))
      obtain ⟨Lf, hLf⟩ : ∃ Lf : List Int, Lf = R.map fun i => (lpAt s i).len := ⟨_, rfl⟩
      have hLl : Lf.length = R.length := by rw [hLf, List.length_map]
      have hLb : ∀ y ∈ Lf, 1 ≤ y ∧ y ≤ 5000 := fun y hy => by
        rw [hLf] at hy
        obtain ⟨i, hi, rfl⟩ := List.mem_map.1 hy
        have h1 := R1 i hi
        have h2 : lpAt s i ∈ s := by rw [lpAt_at (by omega)]; exact List.getElem_mem _
        have := (hm.all _ h2).len
        omega
      have hLs : ∀ k, 0 ≤ (Lf.take k).sum ∧ (Lf.take k).sum ≤ 15000 := fun k => by
        have h1 := sumI_bd 5000 (Lf.take k) (fun y hy => by have := hLb y (List.mem_of_mem_take hy); omega)
        have h2 : (Lf.take k).length ≤ 3 := Nat.le_trans (List.length_take_le' _ _) (by omega)
        omega
      refine q_conv (H' := .ow (.slice none 0 0) 27 2 0 [] :: [.pt b33 [.slice (some ⟨bS, 0, none⟩) 1 1, .slice none 0 0, .slice none 0 0, .slice none 0 0] 59, .pt bS [.int .i64 300] 3, .pt b9 (rlC r) 29, .ow (.slice (some ⟨gs, 0, none⟩) s.length cs) 61 3 s.length (lpC s), .ow (.slice ca R.length cc) 3 1 R.length (ints R)]) (fun w' hs => Sat.ownil (hs.sp (by repeat constructor)) 27 2) ?_
      refine q_loop (σ := Nat × Option Addr × Nat) (fun q => q.1 ≤ R.length) (fun q => R.length - q.1) (fun q => [(8, .slice (some ⟨gs, 0, none⟩) s.length cs), (9, .pointer (some ⟨b9, 0, none⟩)), (18, .slice ca R.length cc), (33, .pointer (some ⟨b33, 0, none⟩)), (34, .int .i64 (Lf.take q.1).sum), (283, .slice ca R.length cc), (284, .int .i64 R.length), (285, .int .i64 q.1)])
        (fun q => [.pt b33 [.slice (some ⟨bS, 0, none⟩) 1 1, .slice q.2.1 q.1 q.2.2, .slice none 0 0, .slice none 0 0] 59, .ow (.slice q.2.1 q.1 q.2.2) 27 2 q.1 (spC (spL (Lf.take q.1))), .pt bS [.int .i64 300] 3, .pt b9 (rlC r) 29, .ow (.slice (some ⟨gs, 0, none⟩) s.length cs) 61 3 s.length (lpC s), .ow (.slice ca R.length cc) 3 1 R.length (ints R)]) (0, none, 0) (by simp) ⟨rfl, rfl, rfl, rfl, rfl, rfl, rfl, rfl, trivial⟩ (by repeat constructor) ?_
      rintro ⟨i, sa, sc⟩ hi K hK
      dsimp only at hi ⊢
      have hLi := hLs i
      (refine q_seq (q_region (ql_pure tabOk rfl rfl (q_nil (q_seq ?_)))))
      refine q_if rfl (fun hc => ?_) (fun hc => ?_)
      · have hi2 : i < R.length := by omega
        have hi3 : i < Lf.length := by omega
        have hy := R1 _ (List.getElem_mem hi2)
        have hLy : Lf[i] = (lpAt s R[i]).len := by simp [hLf]
        have hLt : Lf.take (i + 1) = Lf.take i ++ [Lf[i]] := List.take_succ_eq_append_getElem hi3
        have hLn := hLb _ (List.getElem_mem hi3)
        have hsum : (Lf.take (i + 1)).sum = (Lf.take i).sum + Lf[i] := by rw [hLt, List.sum_append]; simp
        have hspc : spC (spL (Lf.take (i + 1))) = spC (spL (Lf.take i)) ++ [.int .i64 Lf[i], .int .i64 (2 * Lf[i])] := by rw [hLt]; unfold spL spC; rw [List.map_append, List.flatMap_append]; rfl
        refine q_fact (fun w hs => hs.ownSome (v := .slice ca R.length cc) (by repeat constructor) (by omega)) ?_
        rintro ⟨g9, d9, ee⟩
        cases ee
        (refine q_skip (q_seq (q_block (q_seq (q_region ?_)))))
        (refine ql_index tabOk rfl rfl rfl rfl rfl (by omega) (by omega) ?_; refine ql_load1 tabOk rfl rfl rfl (fun w hs => RdI.at (hs.rdI (v := .slice (some ⟨g9, 0, none⟩) R.length cc) (l := R) (t := 3) (by repeat constructor) rfl) i hi2) ?_)
        rw [lpAt_at hy] at hLy
        have hyt : R[i].toNat < s.length := by omega
        generalize R[i] = y at *
        (refine ql_pure tabOk rfl rfl (q_nil (q_seq (q_seq (q_region (ql_pure tabOk rfl rfl (ql_lssF tabOk rfl rfl rfl (by omega) (ql_pure tabOk rfl rfl (ql_gyes rfl (ql_pure tabOk rfl rfl (ql_gyes rfl (ql_pure tabOk rfl rfl ?_))))))))))); refine ql_gyes rfl (ql_pure tabOk rfl rfl (ql_gyes rfl (ql_geqF tabOk rfl rfl rfl (by omega) (ql_pure tabOk rfl rfl (q_nil (q_cond_false rfl (q_skip (q_seq (q_region (ql_pure tabOk rfl rfl (ql_pure tabOk rfl rfl ?_))))))))))))
        refine ql_index tabOk rfl rfl rfl rfl rfl (by omega) (by omega) ?_
        (refine ql_pure tabOk rfl rfl ?_)
        refine ql_load1 (v := .int .i64 Lf[i]) tabOk rfl rfl rfl (fun w hs => (RdL.at0 (sat_rdL (t := 61) (l := s) (v := .slice (some ⟨gs, 0, none⟩) s.length cs) hs (by repeat constructor) rfl) y.toNat hyt).trans (by rw [hLy])) ?_
        generalize Lf[i] = z at *
        (refine ql_pure tabOk rfl rfl (q_nil (q_region (ql_pure tabOk rfl rfl ?_))); refine ql_loadBa tabOk rfl rfl rfl ?_; refine ql_pure tabOk rfl rfl (ql_pure tabOk rfl rfl (ql_ar tabOk rfl rfl rfl rfl (by omega) (by omega) ?_)))
        refine ql_mk #[.int .i64 z, .int .i64 (2 * z)] rfl (by kernel_rfl) rfl ?_
        skip
        refine ql_mkS 27 [.int .i64 z, .int .i64 (2 * z)] rfl (by kernel_rfl) rfl (fun bn => ?_)
        skip
        refine ql_append (q := 1) (news := [.int .i64 z, .int .i64 (2 * z)]) slSp6 rfl rfl rfl (fun v' => by repeat constructor) (fun w' hs => ⟨_, _, Blk.rdN (hs.blk (b := bn) (by repeat constructor)) rfl⟩) (by simp [oneV]) (by omega) (by omega) (fun u' => ?_)
        refine ql_fact (fun w hs => hs.slice2 (v := u') (by repeat constructor)) ?_
        rintro ⟨a1, c1, rfl⟩
        (refine ql_pure tabOk rfl rfl (ql_pure tabOk rfl rfl (ql_ar tabOk rfl rfl rfl rfl (by omega) (by omega) (ql_pure tabOk rfl rfl ?_))); refine ql_st1 tabOk rfl rfl rfl rfl (by repeat constructor) ?_; refine ql_pure tabOk rfl rfl (q_nil (q_blk (q_region (ql_ar tabOk rfl rfl rfl rfl (by omega) (by omega) (ql_pure tabOk rfl rfl (q_nil ?_)))))))
        exact hK (i + 1, a1, c1) _ _ (by dsimp only; omega) (by dsimp only; omega) ⟨rfl, rfl, rfl, rfl, lookI rfl hsum.symm, rfl, rfl, rfl, trivial⟩ (by dsimp only; rw [hspc]; repeat constructor)
      · obtain rfl : i = R.length := by omega
        clear hK hi
        rw [← hLl, List.take_length, hLl]
        rw [← hLl, List.take_length] at hLi
        have hrb : wiB (lenS s R) r.g0 r.g1 = true := by
          have h1 := (List.mem_filter.1 hRm).2
          unfold rightB marksV at h1
          simp only [List.all_cons, Bool.and_eq_true] at h1
          simpa using h1.1
        have hLe : lenS s R = Lf.sum := by rw [hLf]; rfl
        rw [hLe] at hrb
        have hrb2 := wiB_iff.1 hrb
        (refine q_exit _ rfl (q_seq (q_region ?_)); refine ql_loadABa tabOk rfl rfl rfl ?_; refine ql_pure tabOk rfl rfl (ql_pure tabOk rfl rfl ?_))
        refine ql_mk #[.int .i64 0, .int .i64 R.length] rfl (by kernel_rfl) rfl ?_
        skip
        refine ql_callv (val := .tuple #[.agg #[.int .i64 (300 + Lf.sum), .int .i64 (300 + 2 * Lf.sum)], .int .i64 0]) tabOk rfl rfl rfl rfl (fun w hs => ?_) ?_; exact by have := range_ca6 w 0 w.heap.size bS sa sc Lf (by omega) hLb (RdI.of (l := [300]) (Blk.rdN (hs.blk (b := bS) (by repeat constructor)) rfl)) (RdS.of (l := spL Lf) (by rw [spL_len, hLl]; exact own_rd (hs.all (.ow (.slice sa R.length sc) 27 2 R.length (spC (spL Lf))) (by repeat constructor)))); rw [hLl] at this; exact this
        (refine ql_pure tabOk rfl rfl (ql_ext tabOk rfl rfl rfl (ql_ext tabOk rfl rfl rfl ?_)))
        refine ql_alloc zero27 rfl (fun b38 => ?_)
        (refine ql_setA tabOk rfl rfl rfl rfl rfl (by repeat constructor) rfl ?_; refine ql_pure tabOk rfl rfl (q_nil (q_seq (q_region (ql_pure tabOk rfl rfl (ql_eqlT tabOk rfl rfl rfl (by omega) (ql_pure tabOk rfl rfl (ql_gyes rfl ?_))))))); refine ql_loadABa tabOk rfl rfl rfl ?_; refine ql_gyes rfl (ql_pure tabOk rfl rfl (ql_gyes rfl (ql_ar tabOk rfl rfl rfl rfl (by omega) (by omega) (ql_gyes rfl (ql_pure tabOk rfl rfl (ql_gyes rfl (ql_ar tabOk rfl rfl rfl rfl (by omega) (by omega) (ql_gyes rfl (ql_ar tabOk rfl rfl rfl rfl (by omega) (by omega) (ql_gyes rfl ?_)))))))))))
        refine ql_mk #[.int .i64 (300 + Lf.sum), .int .i64 (300 + 2 * Lf.sum)] rfl (by kernel_rfl) rfl ?_
        (refine ql_gyes rfl ?_)
        refine ql_eqF (xs := [.int .i64 (300 + Lf.sum), .int .i64 (300 + 2 * Lf.sum)]) (ys := [.int .i64 (300 + Lf.sum), .int .i64 (300 + 2 * Lf.sum)]) [some .i64, some .i64] span_flat6 rfl rfl rfl rfl rfl ?_
        rw [eqL_refl]
        (refine ql_pure tabOk rfl rfl (ql_pure tabOk rfl rfl (ql_gyes rfl (ql_pure tabOk rfl rfl (ql_gyes rfl (ql_pure tabOk rfl rfl (ql_gyes rfl (ql_pure tabOk rfl rfl (ql_gyes rfl ?_)))))))); refine ql_loadBa tabOk rfl rfl rfl ?_; refine ql_gyes rfl (ql_geqT tabOk rfl rfl rfl (by omega) (ql_pure tabOk rfl rfl (ql_pure tabOk rfl rfl (ql_gyes rfl (ql_pure tabOk rfl rfl (ql_gyes rfl (ql_pure tabOk rfl rfl (ql_gyes rfl (ql_pure tabOk rfl rfl (ql_gyes rfl ?_)))))))))); refine ql_loadBa tabOk rfl rfl rfl ?_; refine ql_gyes rfl (ql_leqT tabOk rfl rfl rfl (by omega) (ql_pure tabOk rfl rfl (ql_pure tabOk rfl rfl (ql_gyes rfl ?_)))))
        refine ql_callv (val := .bool true) tabOk rfl rfl rfl rfl (fun w hs => ?_) ?_; exact awake07_ca w
        (refine ql_pure tabOk rfl rfl (ql_pure tabOk rfl rfl (q_nil (q_ret ?_))))
        refine q_fin tabOk rfl (by repeat constructor) fun w hs => ?_
        exact ⟨rfl, hs.chg0⟩
end Go.Proofs.YtpknmgafambmbaaGreat
