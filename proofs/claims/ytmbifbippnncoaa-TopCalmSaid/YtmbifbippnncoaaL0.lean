/- The plain law of TopCalm. -/
import Derived.Test.YtmbifbippnncoaaD6
namespace Go.Proofs.Ytmbifbippnncoaa
open Go Go.Eng

/-- One state. -/
structure Lone (r : Rg) : Prop where
  tot : r.total = 1
  first : r.first = [1]
  next : r.next = [[1]]
  one : r.drifts.length = 1

theorem lone_wts {r : Rg} (h : Lone r) : ∀ k, wts r k = [1, 0, 0, 0, 0]
  | 0 => by rw [wts, h.first]; rfl
  | k + 1 => by rw [wts, lone_wts h k, afterS, h.next]; simp only [List.length_cons, List.length_nil, afterP]; rw [h.next]; rfl
theorem lone_exp {r : Rg} (h : Lone r) (click : Int) : ∀ k, k ≤ 5 → (expP r click k).1 = k * missS r (r.drifts.getD 0 0) click
  | 0, _ => by simp [expP]
  | k + 1, hk => by
    have h1 : mulN r click [1, 0, 0, 0, 0] 1 = missS r (r.drifts.getD 0 0) click := by simp [mulN, sumR]
    rw [expP_succ r click k (by omega), lone_exp h click k (by omega), lone_wts h, h.one, h1, h.tot]
    simp only [Int.mul_one, Int.natCast_add, Int.add_mul]
    simp
theorem lone_expV {r : Rg} (h : Lone r) (click : Int) : expV r click = ratioV (5 * missS r (r.drifts.getD 0 0) click) r.group.sum := by
  have := lone_exp h click 5 (by omega)
  rw [expV, this, h.tot]
  simp

theorem tenth (m : Int) (h : 0 ≤ m ∧ m ≤ 10) : m = 0 ∨ m = 1 ∨ m = 2 ∨ m = 3 ∨ m = 4 ∨ m = 5 ∨ m = 6 ∨ m = 7 ∨ m = 8 ∨ m = 9 ∨ m = 10 := by omega
/-- What is known of the fractions, by the weight that misses. -/
theorem exp_nums (m : Int) (h : 0 ≤ m ∧ m ≤ 10) : (ratioV (5 * m) 10).1 * 1000 = 500 * m * (ratioV (5 * m) 10).2 ∧ 1 ≤ (ratioV (5 * m) 10).2 ∧ (ratioV (5 * m) 10).2 ≤ 100 ∧ 0 ≤ (ratioV (5 * m) 10).1 ∧ (ratioV (5 * m) 10).1 ≤ 50 := by
  rcases tenth m h with rfl | rfl | rfl | rfl | rfl | rfl | rfl | rfl | rfl | rfl | rfl <;> decide
theorem hit_nums (m : Int) (h : 0 ≤ m ∧ m ≤ 10) : 1 ≤ (ratioV (10 - m) 10).2 ∧ (ratioV (10 - m) 10).2 ≤ 100 ∧ (1000 : Int).tmod (ratioV (10 - m) 10).2 = 0 ∧ 1000 - (ratioV (10 - m) 10).1 * ((1000 : Int).tdiv (ratioV (10 - m) 10).2) = 100 * m ∧ 0 ≤ (ratioV (10 - m) 10).1 ∧ (ratioV (10 - m) 10).1 ≤ 50 := by
  rcases tenth m h with rfl | rfl | rfl | rfl | rfl | rfl | rfl | rfl | rfl | rfl | rfl <;> decide
theorem less_nums (m n : Int) (hm : 0 ≤ m ∧ m ≤ 10) (hn : 0 ≤ n ∧ n ≤ 10) : lessB (ratioV (5 * m) 10) (ratioV (5 * n) 10) = (decide (m < n) && true) := by
  rcases tenth m hm with rfl | rfl | rfl | rfl | rfl | rfl | rfl | rfl | rfl | rfl | rfl <;> rcases tenth n hn with rfl | rfl | rfl | rfl | rfl | rfl | rfl | rfl | rfl | rfl | rfl <;> decide

/-- The best by numbers. -/
theorem best_nums (q : Int → Int × Int) (f : Int → Int) (hq : ∀ a b, lessB (q a) (q b) = (decide (f a < f b) && true)) : ∀ (l : List Int) (s : Int × (Int × Int)), s.2 = q s.1 →
    (l.foldl (bestStep q) s).2 = q (l.foldl (bestStep q) s).1 ∧ f (l.foldl (bestStep q) s).1 ≤ f s.1 ∧ (∀ c ∈ l, f (l.foldl (bestStep q) s).1 ≤ f c) ∧ ((l.foldl (bestStep q) s).1 = s.1 ∨ (l.foldl (bestStep q) s).1 ∈ l)
  | [], s, hs => ⟨hs, Int.le_refl _, by simp, .inl rfl⟩
  | c :: l, s, hs => by
    rw [List.foldl_cons]
    have hb : bestStep q s c = if f c < f s.1 then (c, q c) else s := by
      unfold bestStep
      rw [hs, hq]
      by_cases h : f c < f s.1 <;> simp [h]
    rw [hb]
    by_cases h : f c < f s.1
    · rw [if_pos h]
      obtain ⟨h1, h2, h3, h4⟩ := best_nums q f hq l (c, q c) rfl
      refine ⟨h1, by simp only at h2; omega, fun d hd => ?_, .inr ?_⟩
      · rcases List.mem_cons.1 hd with rfl | hd
        · exact h2
        · exact h3 d hd
      · rcases h4 with h4 | h4
        · rw [h4]; exact List.mem_cons_self
        · exact List.mem_cons_of_mem _ h4
    · rw [if_neg h]
      obtain ⟨h1, h2, h3, h4⟩ := best_nums q f hq l s hs
      refine ⟨h1, h2, fun d hd => ?_, ?_⟩
      · rcases List.mem_cons.1 hd with rfl | hd
        · omega
        · exact h3 d hd
      · rcases h4 with h4 | h4
        · exact .inl h4
        · exact .inr (List.mem_cons_of_mem _ h4)

theorem clickL_all (C c : Int) (hC : 0 ≤ C) (h : inB c (-C) C = true) : c ∈ clickL C 0 := by
  have hc := inB_iff.1 h
  simp only [clickL, clickP, List.mem_flatMap, List.mem_range]
  refine ⟨c.natAbs, by omega, ?_⟩
  unfold farL
  split
  · simp; omega
  · refine List.mem_filter.2 ⟨?_, h⟩
    simp
    omega

def aim1 (m : Int) : List (List Int) := List.replicate 5 [m]
def aim2 (m : Int) : List (List Int) := List.replicate 5 [m, m - m.tdiv 2]
theorem aim_nums (m : Int) (h : 0 ≤ m ∧ m ≤ 10) : mssS (aim1 (100 * m)) (List.replicate 5 0) 5 = 500 * m ∧ mssS (aim2 (100 * m)) (wtsP (aim2 (100 * m)) 0) 5 = 500 * m ∧ mssS (aim2 (100 * m)) (wtsP (aim2 (100 * m)) 5) 5 = 5 * (100 * m - (100 * m).tdiv 2) := by
  rcases tenth m h with rfl | rfl | rfl | rfl | rfl | rfl | rfl | rfl | rfl | rfl | rfl <;> decide
theorem aim1_ok (m : Int) (h : 0 ≤ m ∧ m ≤ 10) : AimOk (aim1 (100 * m)) := by
  constructor
  · simp [aim1]
  · simp [aim1]
  · intro l hl; obtain ⟨_, rfl⟩ := List.mem_replicate.1 hl; simp
  · intro l hl x hx; obtain ⟨_, rfl⟩ := List.mem_replicate.1 hl; simp at hx; omega
  · intro l hl; obtain ⟨_, rfl⟩ := List.mem_replicate.1 hl; simp; omega
theorem aim2_ok (m : Int) (h : 0 ≤ m ∧ m ≤ 10) : AimOk (aim2 (100 * m)) := by
  have h2 : (100 * m).tdiv 2 = 50 * m := by rw [Int.tdiv_eq_ediv_of_nonneg (by omega)]; omega
  constructor
  · simp [aim2]
  · simp [aim2]
  · intro l hl; obtain ⟨_, rfl⟩ := List.mem_replicate.1 hl; simp
  · intro l hl x hx; obtain ⟨_, rfl⟩ := List.mem_replicate.1 hl; rw [h2] at hx; simp at hx; omega
  · intro l hl; obtain ⟨_, rfl⟩ := List.mem_replicate.1 hl; rw [h2]; simp; omega

end Go.Proofs.Ytmbifbippnncoaa
