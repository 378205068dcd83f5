/- Walks: the misses to be expected. -/
import Derived.Test.YtmbifbippnncoaaV10
namespace Go.Proofs.Ytmbifbippnncoaa
open Go Go.Eng

def sumR (f : Nat → Int) : Nat → Int
  | 0 => 0
  | n + 1 => sumR f n + f n
theorem sumR_eq (f : Nat → Int) : ∀ n, ((List.range n).map f).sum = sumR f n
  | 0 => rfl
  | n + 1 => by rw [List.range_succ, List.map_append, List.sum_append, sumR_eq f n, sumR]; simp
theorem sumR_add (f g : Nat → Int) : ∀ n, sumR (fun i => f i + g i) n = sumR f n + sumR g n
  | 0 => rfl
  | n + 1 => by rw [sumR, sumR, sumR, sumR_add f g n]; omega
theorem sumR_mul (c : Int) (g : Nat → Int) : ∀ n, sumR (fun i => c * g i) n = c * sumR g n
  | 0 => by simp [sumR]
  | n + 1 => by rw [sumR, sumR, sumR_mul c g n, Int.mul_add]
theorem sumR_front (f : Nat → Int) : ∀ n, sumR f (n + 1) = f 0 + sumR (fun i => f (i + 1)) n
  | 0 => by simp [sumR]
  | n + 1 => by rw [sumR, sumR_front f n, sumR]; omega
theorem sumR_zero (f : Nat → Int) : ∀ n, (∀ i, i < n → f i = 0) → sumR f n = 0
  | 0, _ => rfl
  | n + 1, h => by rw [sumR, sumR_zero f n (fun i hi => h i (by omega)), h n (by omega)]; rfl
theorem sumR_getD : ∀ (l : List Int) n, l.length ≤ n → sumR (fun i => l.getD i 0) n = l.sum
  | [], n, _ => by rw [sumR_zero]; rfl; intro i _; simp
  | x :: l, 0, h => by simp at h
  | x :: l, n + 1, h => by
    rw [sumR_front, List.sum_cons]
    have := sumR_getD l n (by simpa using h)
    simp at this ⊢
    omega
theorem sumR_mono (f g : Nat → Int) : ∀ n, (∀ i, i < n → f i ≤ g i) → sumR f n ≤ sumR g n
  | 0, _ => by simp [sumR]
  | n + 1, h => by
    have h1 := sumR_mono f g n (fun i hi => h i (by omega))
    have h2 := h n (by omega)
    rw [sumR, sumR]
    omega
theorem sumR_up (f : Nat → Int) (h : ∀ i, 0 ≤ f i) {n m : Nat} (hnm : n ≤ m) : sumR f n ≤ sumR f m := by
  induction m with
  | zero => obtain rfl : n = 0 := by omega
            simp
  | succ m ih =>
    by_cases e : n = m + 1
    · subst e; simp
    · have := ih (by omega)
      have := h m
      rw [sumR]
      omega
theorem sumR_nonneg (f : Nat → Int) (h : ∀ i, 0 ≤ f i) : ∀ n, 0 ≤ sumR f n
  | 0 => by simp [sumR]
  | n + 1 => by have := sumR_nonneg f h n; have := h n; rw [sumR]; omega

theorem addRow_sum (out : List Int) (c : Int) (row : List Int) (h : row.length ≤ out.length) : (addRow out c row).sum = out.sum + c * row.sum := by
  rw [addRow, sumR_eq, sumR_add, sumR_mul, sumR_getD out _ (Nat.le_refl _), sumR_getD row _ h]

theorem afterP_sum (r : Rg) (hr : r.Right) (ws : List Int) : ∀ k, k ≤ r.next.length → (afterP r ws k).sum = sumR (fun s => ws.getD s 0) k * r.total
  | 0, _ => by simp [afterP, sumR]
  | k + 1, h => by
    have hk : k < r.next.length := by omega
    have e : r.next.getD k [] = r.next[k] := by simp [hk]
    have h1 := hr.rows _ (List.getElem_mem hk)
    have h2 := hr.nsum _ (List.getElem_mem hk)
    have h3 := hr.d2
    rw [afterP, addRow_sum _ _ _ (by rw [afterP_length, e]; omega), afterP_sum r hr ws k (by omega), sumR, Int.add_mul, e, h2]

theorem wts_sum (r : Rg) (hr : r.Right) : ∀ k, (wts r k).sum ≤ r.total ^ (k + 1)
  | 0 => by
    have h : (wts r 0).sum = r.first.sum := by
      have hz : ∀ n, (List.replicate n (0 : Int)).sum = 0 := fun n => by induction n <;> simp_all [List.replicate_succ]
      rw [wts, List.sum_append, List.drop_replicate, hz, Int.add_zero]
    rw [h, hr.fsum, Int.pow_succ, Int.pow_zero, Int.one_mul]
    exact Int.le_refl _
  | k + 1 => by
    have h1 := wts_sum r hr k
    have h0 := wts_length r hr k
    have hd2 := hr.d2
    have hn := hr.next
    have ht := hr.total
    have h2 : sumR (fun s => (wts r k).getD s 0) r.next.length ≤ (wts r k).sum := by
      rw [← sumR_getD (wts r k) 5 (by omega)]
      refine sumR_up _ (fun i => ?_) (by omega)
      by_cases hi : i < (wts r k).length
      · simp only [List.getD_eq_getElem?_getD, List.getElem?_eq_getElem hi, Option.getD_some]
        exact (wts_bd0 r hr k _ (List.getElem_mem hi)).1
      · simp [List.getElem?_eq_none (Nat.le_of_not_lt hi)]
    rw [wts, afterS, afterP_sum r hr (wts r k) _ (Nat.le_refl _), Int.pow_succ]
    exact Int.mul_le_mul_of_nonneg_right (by omega) (by omega)

/-- The misses at a shot, by the first n states. -/
def mulN (r : Rg) (click : Int) (ws : List Int) (n : Nat) : Int := sumR (fun s => ws.getD s 0 * missS r (r.drifts.getD s 0) click) n
theorem wts_getD (r : Rg) (hr : r.Right) (k i : Nat) : 0 ≤ (wts r k).getD i 0 := by
  by_cases hi : i < (wts r k).length
  · simp only [List.getD_eq_getElem?_getD, List.getElem?_eq_getElem hi, Option.getD_some]
    exact (wts_bd0 r hr k _ (List.getElem_mem hi)).1
  · simp [List.getElem?_eq_none (Nat.le_of_not_lt hi)]
theorem mulN_bd (r : Rg) (hr : r.Right) (click : Int) (k n : Nat) (hn : n ≤ 5) : 0 ≤ mulN r click (wts r k) n ∧ mulN r click (wts r k) n ≤ r.total ^ (k + 1) * r.group.sum := by
  constructor
  · exact sumR_nonneg _ (fun i => Int.mul_nonneg (wts_getD r hr k i) (missS_bd r hr _ _).1) n
  · have hG := hr.gsum
    have h1 : mulN r click (wts r k) n ≤ sumR (fun s => r.group.sum * (wts r k).getD s 0) n := sumR_mono _ _ n (fun i _ => by
      rw [Int.mul_comm]
      exact Int.mul_le_mul_of_nonneg_right (missS_bd r hr _ _).2 (wts_getD r hr k i))
    rw [sumR_mul] at h1
    have h2 : sumR (fun s => (wts r k).getD s 0) n ≤ (wts r k).sum := by
      rw [← sumR_getD (wts r k) 5 (by rw [wts_length r hr k]; exact Nat.le_refl _)]
      exact sumR_up _ (wts_getD r hr k) hn
    have h3 := wts_sum r hr k
    have h4 : r.group.sum * sumR (fun s => (wts r k).getD s 0) n ≤ r.group.sum * r.total ^ (k + 1) := Int.mul_le_mul_of_nonneg_left (by omega) (by omega)
    rw [Int.mul_comm (r.total ^ (k + 1))]
    omega

def expStep (r : Rg) (click : Int) (s : Int × Int) (x : List Int × Int) : Int × Int := (s.1 * r.total + mulN r click x.1 r.drifts.length, x.2)
def expP (r : Rg) (click : Int) (k : Nat) : Int × Int := ((shotL r).take k).foldl (expStep r click) (0, 1)
theorem expP_succ (r : Rg) (click : Int) (k : Nat) (hk : k < 5) : expP r click (k + 1) = ((expP r click k).1 * r.total + mulN r click (wts r k) r.drifts.length, r.total ^ (k + 1)) := by
  rw [expP, shotL_take r k hk, List.foldl_append]
  rfl
theorem expP_bd (r : Rg) (hr : r.Right) (click : Int) : ∀ k, k ≤ 5 → 0 ≤ (expP r click k).1 ∧ (expP r click k).1 ≤ r.total ^ k * r.group.sum * k ∧ (expP r click k).2 = r.total ^ k
  | 0, _ => by simp [expP]
  | k + 1, h => by
    obtain ⟨h1, h2, h3⟩ := expP_bd r hr click k (by omega)
    have h4 := mulN_bd r hr click k r.drifts.length hr.d2
    have ht := hr.total
    rw [expP_succ r click k (by omega)]
    have h5 : (expP r click k).1 * r.total ≤ r.total ^ k * r.group.sum * k * r.total := Int.mul_le_mul_of_nonneg_right h2 (by omega)
    have h6 : r.total ^ (k + 1) * r.group.sum * ((k + 1 : Nat) : Int) = r.total ^ k * r.group.sum * k * r.total + r.total ^ (k + 1) * r.group.sum := by
      rw [Int.natCast_add, Int.mul_add, Int.pow_succ]
      congr 1
      · rw [Int.mul_right_comm (r.total ^ k) r.total, Int.mul_right_comm _ r.total]
      · simp
    have h7 : 0 ≤ (expP r click k).1 * r.total := Int.mul_nonneg h1 (by omega)
    refine ⟨by simp only; omega, by simp only; omega, rfl⟩
/-- The misses to be expected with a click. -/
def expV (r : Rg) (click : Int) : Int × Int := ratioV (expP r click 5).1 (r.total ^ 5 * r.group.sum)

end Go.Proofs.Ytmbifbippnncoaa
