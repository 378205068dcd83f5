/- The plain law: rounds with a sum less than 0. -/
import Derived.Test.YtmfeegebijejjaaM1
namespace Go.Proofs.Ytmfeegebijejjaa
open Go Go.Eng

structure BF where
  low : Nat → Int
  pre : Nat → Nat
  rk : Nat → Nat
  last : Int

def bfStep (r i : Nat) (k : Lk) (s : BF) : BF :=
  if s.low k.fr.toNat + k.c < s.low k.to.toNat then
    ⟨fun v => if v = k.to.toNat then s.low k.fr.toNat + k.c else s.low v, fun v => if v = k.to.toNat then i else s.pre v, fun v => if v = k.to.toNat then r else s.rk v, k.to⟩
  else s

/-- Links lead to a place beside. -/
def LkAdj (LL : List Lk) : Prop := ∀ k ∈ LL, k.to = k.fr + 1 ∨ k.fr = k.to + 1

structure J (n : Nat) (LL : List Lk) (B : Int) (r i : Nat) (s : BF) : Prop where
  lo : ∀ v, v ≤ n → -(B + 100 * i) ≤ s.low v ∧ s.low v ≤ 0
  lk : ∀ (j : Nat) (k : Lk), LL[j]? = some k → s.low k.to.toNat ≤ s.low k.fr.toNat + k.c ∨ (if j < i then r else r - 1) ≤ s.rk k.fr.toNat
  pr : ∀ v, v ≤ n → 1 ≤ s.rk v → ∃ k, LL[s.pre v]? = some k ∧ k.to.toNat = v ∧ s.low k.fr.toNat + k.c ≤ s.low v ∧ s.rk v ≤ s.rk k.fr.toNat + 1
  rk : ∀ v, v ≤ n → s.rk v ≤ r
  cy : ∀ v, v ≤ n → 1 ≤ s.rk v → ∀ k1 k2, LL[s.pre v]? = some k1 → LL[s.pre k1.fr.toNat]? = some k2 → 1 ≤ s.rk k1.fr.toNat → k2.fr.toNat = v → k1.c + k2.c < 0
  la : (s.last = -1 ∧ ∀ v, v ≤ n → s.rk v < r) ∨ (0 ≤ s.last ∧ s.last ≤ n ∧ s.rk s.last.toNat = r)

theorem J.step {n : Nat} {LL : List Lk} {B : Int} {r i : Nat} {s : BF} (hok : LkOk n LL) (hadj : LkAdj LL) (hr : 1 ≤ r) (h : J n LL B r i s) {k : Lk} (hk : LL[i]? = some k) : J n LL B r (i + 1) (bfStep r i k s) := by
  obtain ⟨hk1, hk2, hk3, hk4, hk5, hk6⟩ := hok k (List.mem_of_getElem? hk)
  have hne : k.fr.toNat ≠ k.to.toNat := by
    rcases hadj k (List.mem_of_getElem? hk) with h1 | h1 <;> omega
  unfold bfStep
  split
  · rename_i hlt
    have hrk := (h.lk i k hk).resolve_left (by omega)
    rw [if_neg (Nat.lt_irrefl _)] at hrk
    have hle : ∀ v, (if v = k.to.toNat then s.low k.fr.toNat + k.c else s.low v) ≤ s.low v := fun v => by
      split
      · rename_i e; subst e; omega
      · omega
    refine ⟨fun v hv => ?_, fun j k' hj => ?_, fun v hv h1 => ?_, fun v hv => ?_, fun v hv h1 k1 k2 e1 e2 h2 h3 => ?_, .inr ⟨hk3, hk4, by simp⟩⟩
    · have := h.lo v hv
      have := h.lo k.fr.toNat (by omega)
      show -(B + 100 * ((i + 1 : Nat) : Int)) ≤ (if v = k.to.toNat then s.low k.fr.toNat + k.c else s.low v) ∧ (if v = k.to.toNat then s.low k.fr.toNat + k.c else s.low v) ≤ 0
      have := hle v
      have := h.lo k.to.toNat (by omega)
      split <;> omega
    · show (if k'.to.toNat = k.to.toNat then s.low k.fr.toNat + k.c else s.low k'.to.toNat) ≤ (if k'.fr.toNat = k.to.toNat then s.low k.fr.toNat + k.c else s.low k'.fr.toNat) + k'.c ∨ (if j < i + 1 then r else r - 1) ≤ (if k'.fr.toNat = k.to.toNat then r else s.rk k'.fr.toNat)
      by_cases hf : k'.fr.toNat = k.to.toNat
      · right
        rw [if_pos hf]
        split <;> omega
      · rw [if_neg hf, if_neg hf]
        have h1 := hle k'.to.toNat
        by_cases hji : j = i
        · subst hji
          rw [hk] at hj
          cases hj
          left
          rw [if_pos rfl]
          omega
        · rcases h.lk j k' hj with h2 | h2
          · left; omega
          · right
            have : (j < i + 1) ↔ (j < i) := by omega
            simp only [this]
            exact h2
    · show ∃ k', LL[if v = k.to.toNat then i else s.pre v]? = some k' ∧ k'.to.toNat = v ∧ (if k'.fr.toNat = k.to.toNat then s.low k.fr.toNat + k.c else s.low k'.fr.toNat) + k'.c ≤ (if v = k.to.toNat then s.low k.fr.toNat + k.c else s.low v) ∧ (if v = k.to.toNat then r else s.rk v) ≤ (if k'.fr.toNat = k.to.toNat then r else s.rk k'.fr.toNat) + 1
      by_cases hv' : v = k.to.toNat
      · refine ⟨k, by rw [if_pos hv']; exact hk, hv'.symm, ?_, ?_⟩
        · rw [if_neg hne, if_pos hv']; omega
        · rw [if_neg hne, if_pos hv']; omega
      · have h1' : 1 ≤ s.rk v := by
          have : (if v = k.to.toNat then r else s.rk v) = s.rk v := if_neg hv'
          rw [← this]; exact h1
        obtain ⟨k', e1, e2, e3, e4⟩ := h.pr v hv h1'
        refine ⟨k', by rw [if_neg hv']; exact e1, e2, ?_, ?_⟩
        · have := hle k'.fr.toNat
          rw [if_neg hv']
          omega
        · rw [if_neg hv']
          have := h.rk v hv
          split <;> omega
    · show (if v = k.to.toNat then r else s.rk v) ≤ r
      have := h.rk v hv
      split <;> omega
    · have h1' : 1 ≤ (if v = k.to.toNat then r else s.rk v) := h1
      have e1' : LL[if v = k.to.toNat then i else s.pre v]? = some k1 := e1
      have e2' : LL[if k1.fr.toNat = k.to.toNat then i else s.pre k1.fr.toNat]? = some k2 := e2
      have h2' : 1 ≤ (if k1.fr.toNat = k.to.toNat then r else s.rk k1.fr.toNat) := h2
      by_cases hv' : v = k.to.toNat
      · rw [if_pos hv', hk] at e1'
        cases e1'
        rw [if_neg hne] at e2' h2'
        obtain ⟨k', q1, q2, q3, q4⟩ := h.pr k.fr.toNat (by omega) h2'
        rw [e2'] at q1
        cases q1
        rw [h3, hv'] at q3
        omega
      · rw [if_neg hv'] at e1' h1'
        by_cases hu : k1.fr.toNat = k.to.toNat
        · rw [if_pos hu, hk] at e2'
          cases e2'
          obtain ⟨k', q1, q2, q3, q4⟩ := h.pr v hv h1'
          rw [e1'] at q1
          cases q1
          rw [hu] at q3
          rw [h3] at hlt
          omega
        · rw [if_neg hu] at e2' h2'
          exact h.cy v hv h1' k1 k2 e1' e2' h2' h3
  · rename_i hge
    refine ⟨fun v hv => ?_, fun j k' hj => ?_, h.pr, h.rk, h.cy, h.la⟩
    · have := h.lo v hv
      omega
    · by_cases hji : j = i
      · subst hji
        rw [hk] at hj
        cases hj
        left; omega
      · have : (j < i + 1) ↔ (j < i) := by omega
        simp only [this]
        exact h.lk j k' hj

theorem J.start (n : Nat) (LL : List Lk) (pre : Nat → Nat) : J n LL 0 1 0 ⟨fun _ => 0, pre, fun _ => 0, -1⟩ :=
  ⟨fun v _ => by simp, fun j k _ => .inr (by simp), fun v _ h => by simp at h, fun v _ => by simp, fun v _ h => by simp at h, .inl ⟨rfl, fun v _ => by simp⟩⟩

theorem J.next {n : Nat} {LL : List Lk} {B : Int} {r : Nat} {s : BF} (h : J n LL B r LL.length s) : J n LL (B + 100 * LL.length) (r + 1) 0 { s with last := -1 } :=
  ⟨fun v hv => by have := h.lo v hv; simpa using this, fun j k hj => by
    have h1 := h.lk j k hj
    rw [if_pos (List.getElem?_eq_some_iff.1 hj).1] at h1
    simpa using h1, h.pr, fun v hv => by have := h.rk v hv; exact Nat.le_succ_of_le this, h.cy, .inl ⟨rfl, fun v hv => Nat.lt_succ_of_le (h.rk v hv)⟩⟩

theorem J.stop {n : Nat} {LL : List Lk} {B : Int} {r : Nat} {s : BF} (hok : LkOk n LL) (h : J n LL B r LL.length s) (hl : s.last < 0) : ¬ Neg2 LL := by
  rintro ⟨k1, hk1, k2, hk2, e1, e2, hs⟩
  have hrk : ∀ v, v ≤ n → s.rk v < r := by
    rcases h.la with h1 | h1
    · exact h1.2
    · omega
  have key : ∀ k ∈ LL, s.low k.to.toNat ≤ s.low k.fr.toNat + k.c := fun k hk => by
    obtain ⟨j, hj⟩ := List.getElem?_of_mem hk
    have ho := hok k hk
    have h1 := h.lk j k hj
    rw [if_pos (List.getElem?_eq_some_iff.1 hj).1] at h1
    exact h1.resolve_right (by have := hrk k.fr.toNat (by omega); omega)
  have h1 := key k1 hk1
  have h2 := key k2 hk2
  rw [e1, e2] at h1
  omega

/-- The place before. -/
def prev (LL : List Lk) (s : BF) (v : Nat) : Nat := match LL[s.pre v]? with
  | some k => k.fr.toNat
  | none => 0

def Cyc (n : Nat) (LL : List Lk) (s : BF) (x : Nat) : Prop := x ≤ n ∧ 1 ≤ s.rk x ∧ prev LL s x ≤ n ∧ 1 ≤ s.rk (prev LL s x) ∧ prev LL s (prev LL s x) = x

/-- Going back: m steps from x0. -/
def Bk (n : Nat) (LL : List Lk) (s : BF) (x0 m x : Nat) : Prop := x ≤ n ∧ n + 2 ≤ s.rk x + m ∧
  ((m = 0 ∧ x = x0) ∨ Cyc n LL s x ∨ (x = x0 + m ∧ 1 ≤ x ∧ 1 ≤ s.rk (x - 1) ∧ prev LL s (x - 1) = x) ∨ (x + m = x0 ∧ x + 1 ≤ n ∧ 1 ≤ s.rk (x + 1) ∧ prev LL s (x + 1) = x))

theorem J.pred {n : Nat} {LL : List Lk} {B : Int} {r i : Nat} {s : BF} (hok : LkOk n LL) (hadj : LkAdj LL) (h : J n LL B r i s) {v : Nat} (hv : v ≤ n) (h1 : 1 ≤ s.rk v) :
    ∃ k, LL[s.pre v]? = some k ∧ k.to.toNat = v ∧ k.fr.toNat = prev LL s v ∧ prev LL s v ≤ n ∧ s.rk v ≤ s.rk (prev LL s v) + 1 ∧ (prev LL s v = v + 1 ∨ v = prev LL s v + 1) := by
  obtain ⟨k, e1, e2, e3, e4⟩ := h.pr v hv h1
  have hk := List.mem_of_getElem? e1
  have ho := hok k hk
  have ha := hadj k hk
  have hp : prev LL s v = k.fr.toNat := by simp [prev, e1]
  rw [hp]
  exact ⟨k, e1, e2, rfl, by omega, e4, by omega⟩

theorem Bk.step {n : Nat} {LL : List Lk} {B : Int} {r i : Nat} {s : BF} (hok : LkOk n LL) (hadj : LkAdj LL) (h : J n LL B r i s) {x0 m x : Nat} (hm : m ≤ n) (hb : Bk n LL s x0 m x) : Bk n LL s x0 (m + 1) (prev LL s x) := by
  obtain ⟨hx, hrk, hcase⟩ := hb
  obtain ⟨k, e1, e2, e3, e4, e5, e6⟩ := h.pred hok hadj hx (by omega)
  refine ⟨e4, by omega, ?_⟩
  rcases hcase with ⟨rfl, rfl⟩ | hc | ⟨h1, h2, h3, h4⟩ | ⟨h1, h2, h3, h4⟩
  · rcases e6 with e6 | e6
    · right; right; left
      refine ⟨by omega, by omega, ?_, ?_⟩
      · rw [e6]; simp; omega
      · rw [e6]; simp [e6]
    · right; right; right
      have e7 : prev LL s x + 1 = x := e6.symm
      refine ⟨by omega, by omega, ?_, ?_⟩
      · rw [e7]; omega
      · rw [e7]
  · right; left
    obtain ⟨c1, c2, c3, c4, c5⟩ := hc
    exact ⟨c3, c4, by rw [c5]; exact c1, by rw [c5]; exact c2, by rw [c5]⟩
  · rcases e6 with e6 | e6
    · right; right; left
      refine ⟨by omega, by omega, ?_, ?_⟩
      · rw [e6]; simp; omega
      · rw [e6]; simp [e6]
    · right; left
      have e7 : prev LL s x = x - 1 := by omega
      rw [e7]
      exact ⟨by omega, h3, by rw [h4]; exact hx, by rw [h4]; omega, by rw [h4, e7]⟩
  · rcases e6 with e6 | e6
    · right; left
      rw [e6]
      exact ⟨by omega, h3, by rw [h4]; exact hx, by rw [h4]; omega, by rw [h4, e6]⟩
    · right; right; right
      have e7 : prev LL s x + 1 = x := e6.symm
      refine ⟨by omega, by omega, ?_, ?_⟩
      · rw [e7]; omega
      · rw [e7]

theorem Bk.cyc {n : Nat} {LL : List Lk} {s : BF} {x0 x : Nat} (h0 : x0 ≤ n) (hb : Bk n LL s x0 (n + 1) x) : Cyc n LL s x := by
  obtain ⟨hx, _, hcase⟩ := hb
  rcases hcase with ⟨h1, _⟩ | hc | ⟨h1, _⟩ | ⟨h1, _⟩
  · omega
  · exact hc
  · omega
  · omega

theorem J.found {n : Nat} {LL : List Lk} {B : Int} {r i : Nat} {s : BF} (hok : LkOk n LL) (hadj : LkAdj LL) (h : J n LL B r i s) {x : Nat} (hc : Cyc n LL s x) :
    ∃ k1 k2, LL[s.pre x]? = some k1 ∧ LL[s.pre (prev LL s x)]? = some k2 ∧ k1.fr.toNat = prev LL s x ∧ k2.fr.toNat = x ∧ k1.to.toNat = x ∧ k2.to.toNat = prev LL s x ∧ prev LL s x ≠ x ∧ k1.c + k2.c < 0 := by
  obtain ⟨c1, c2, c3, c4, c5⟩ := hc
  obtain ⟨k1, e1, e2, e3, e4, e5, e6⟩ := h.pred hok hadj c1 c2
  obtain ⟨k2, g1, g2, g3, g4, g5, g6⟩ := h.pred hok hadj c3 c4
  rw [c5] at g3
  exact ⟨k1, k2, e1, g1, e3, g3, e2, g2, by omega, h.cy x c1 c2 k1 k2 e1 (by rw [e3]; exact g1) (by rw [e3]; exact c4) g3⟩

end Go.Proofs.Ytmfeegebijejjaa
