/- My texts C0, C1, C2, W11, W2, W3, W5, B5, B6, B7, B8, B9, B10, B11, B12, B13, B14, B15, B16, B17, B18, B19, B20, B21, G0, Every, K0, B22, B23, B24, B25, K2, K3, joined: a claim takes at most 60 files. -/
import Derived.Test.YtpknmgafambmbaaGreatJ1
import Derived.Laws.CopyRow
import Derived.Laws.MakeOwn
import Derived.Laws.OwnMore
import Derived.Laws.Slices
import Derived.Laws.StructEq

/- The plain laws of courses: lists of laps, and the rules that they break. -/
namespace Go.Proofs.YtpknmgafambmbaaGreat

structure Lp where
  len : Int
  climb : Int
  wide : Int
structure Rl where
  laps : Int
  g0 : Int
  g1 : Int
  c0 : Int
  c1 : Int
  p0 : Int
  p1 : Int
  wide : Int
  uses : Int

def wiB (n lo hi : Int) : Bool := decide (lo ≤ n) && decide (n ≤ hi)
theorem wiB_iff {n lo hi : Int} : wiB n lo hi = true ↔ lo ≤ n ∧ n ≤ hi := by simp [wiB]
def loopB (l : Lp) : Bool := wiB l.len 1 20000 && wiB l.climb 0 2000 && wiB l.wide 1 20
structure Lp.Right (l : Lp) : Prop where
  len : 1 ≤ l.len ∧ l.len ≤ 20000
  climb : 0 ≤ l.climb ∧ l.climb ≤ 2000
  wide : 1 ≤ l.wide ∧ l.wide ≤ 20
theorem loopB_iff {l : Lp} : loopB l = true ↔ l.Right := by
  simp only [loopB, Bool.and_eq_true, wiB_iff]
  exact ⟨fun ⟨⟨a, b⟩, c⟩ => ⟨a, b, c⟩, fun ⟨a, b, c⟩ => ⟨⟨a, b⟩, c⟩⟩
/-- The error of a stadium. -/
def stadV (s : List Lp) : Int := if ¬(1 ≤ s.length ∧ s.length ≤ 12) then 2 else if s.all loopB then 0 else 3
structure StadR (s : List Lp) : Prop where
  n1 : 1 ≤ s.length
  n2 : s.length ≤ 12
  all : ∀ l ∈ s, l.Right
theorem stadV_iff {s : List Lp} : stadV s = 0 ↔ StadR s := by
  unfold stadV
  constructor
  · intro h
    split at h
    · cases h
    split at h
    · rename_i h1 h2
      exact ⟨by omega, by omega, fun l hl => loopB_iff.1 (List.all_eq_true.1 h2 l hl)⟩
    · cases h
  · rintro ⟨h1, h2, h3⟩
    rw [if_neg (by omega), if_pos (List.all_eq_true.2 fun l hl => loopB_iff.2 (h3 l hl))]
def rulesB (r : Rl) : Bool := wiB r.laps 1 6 && spnB r.g0 r.g1 200000 && spnB r.c0 r.c1 200000 && spnB r.p0 r.p1 200000 && wiB r.wide 1 20 && wiB r.uses 1 6
structure Rl.Right (r : Rl) : Prop where
  laps : 1 ≤ r.laps ∧ r.laps ≤ 6
  g : 0 ≤ r.g0 ∧ r.g0 ≤ r.g1 ∧ r.g1 ≤ 200000
  c : 0 ≤ r.c0 ∧ r.c0 ≤ r.c1 ∧ r.c1 ≤ 200000
  p : 0 ≤ r.p0 ∧ r.p0 ≤ r.p1 ∧ r.p1 ≤ 200000
  wide : 1 ≤ r.wide ∧ r.wide ≤ 20
  uses : 1 ≤ r.uses ∧ r.uses ≤ 6
theorem rulesB_iff {r : Rl} : rulesB r = true ↔ r.Right := by
  simp only [rulesB, Bool.and_eq_true, wiB_iff, spnB_iff]
  exact ⟨fun ⟨⟨⟨⟨⟨a, b⟩, c⟩, d⟩, e⟩, f⟩ => ⟨a, b, c, d, e, f⟩, fun ⟨a, b, c, d, e, f⟩ => ⟨⟨⟨⟨⟨a, b⟩, c⟩, d⟩, e⟩, f⟩⟩
/-- The error of a stadium and rules. -/
def checkS (s : List Lp) (r : Rl) : Int := if stadV s ≠ 0 then stadV s else if rulesB r then 0 else 3
structure CR (s : List Lp) (r : Rl) : Prop where
  s : StadR s
  r : r.Right
theorem checkS_iff {s : List Lp} {r : Rl} : checkS s r = 0 ↔ CR s r := by
  unfold checkS
  constructor
  · intro h
    split at h
    · rename_i h1; exact absurd h h1
    split at h
    · rename_i h1 h2
      exact ⟨stadV_iff.1 (by omega), rulesB_iff.1 h2⟩
    · cases h
  · rintro ⟨h1, h2⟩
    rw [if_neg (by rw [stadV_iff.2 h1]; simp), if_pos (rulesB_iff.2 h2)]

def srtB : List Int → Bool
  | [] => true
  | [_] => true
  | a :: b :: l => decide (a ≤ b) && srtB (b :: l)
def inL (n : Nat) (c : List Int) : Bool := c.all fun i => wiB i 0 ((n : Int) - 1)
/-- The error of a course. -/
def listedV (n : Nat) (c : List Int) : Int := if ¬(1 ≤ c.length ∧ c.length ≤ 6) then 2 else if inL n c = false then 1 else if srtB c then 0 else 4

/-! All courses -/
/-- Lists of k numbers from least to n - 1, in order. -/
def sortL (n : Nat) : Nat → Nat → List (List Int)
  | 0, _ => [[]]
  | k + 1, least => (List.range' least (n - least)).flatMap fun i => (sortL n k i).map ((i : Int) :: ·)
/-- .. behind a list. -/
def growL (n : Nat) : Nat → Nat → List Int → List (List Int)
  | 0, _, l => [l]
  | k + 1, least, l => (List.range' least (n - least)).flatMap fun i => growL n k i (l ++ [(i : Int)])
theorem growL_eq (n : Nat) : ∀ (k least : Nat) (l : List Int), growL n k least l = (sortL n k least).map (l ++ ·)
  | 0, _, l => by simp [growL, sortL]
  | k + 1, least, l => by
    simp only [growL, sortL, List.map_flatMap, List.map_map]
    congr 1
    funext i
    rw [growL_eq n k i (l ++ [(i : Int)])]
    congr 1
    funext x
    simp
def coursesL (n laps : Nat) : List (List Int) := sortL n laps 0
theorem coursesL_grow (n laps : Nat) : growL n laps 0 [] = coursesL n laps := by rw [growL_eq]; simp [coursesL]

/-- Lists of k numbers less than n. -/
def allL (n : Nat) : Nat → List (List Int)
  | 0 => [[]]
  | k + 1 => (List.range n).flatMap fun (i : Nat) => (allL n k).map (fun x => (i : Int) :: x)
def fromB (least : Nat) : List Int → Bool
  | [] => true
  | a :: l => decide ((least : Int) ≤ a) && srtB (a :: l)
theorem srtB_cons (a : Nat) (l : List Int) : srtB ((a : Int) :: l) = fromB a l := by
  cases l with
  | nil => rfl
  | cons b l => rfl
theorem flat_from {α : Type} (f : Nat → List α) (least : Nat) : ∀ (m s : Nat), (List.range' s m).flatMap (fun i => if least ≤ i then f i else []) = (List.range' (max s least) (s + m - max s least)).flatMap f
  | 0, s => by
    rw [show s + 0 - max s least = 0 by omega]
    rfl
  | m + 1, s => by
    rw [List.range'_succ, List.flatMap_cons, flat_from f least m (s + 1)]
    by_cases h : least ≤ s
    · rw [if_pos h, show max s least = s by omega, show max (s + 1) least = s + 1 by omega, show s + (m + 1) - s = m + 1 by omega, show s + 1 + m - (s + 1) = m by omega, List.range'_succ, List.flatMap_cons]
    · rw [if_neg h, show max (s + 1) least = max s least by omega, show s + 1 + m - max s least = s + (m + 1) - max s least by omega]
      rfl
theorem allL_filter (n : Nat) : ∀ (k least : Nat), (allL n k).filter (fromB least) = sortL n k least
  | 0, _ => rfl
  | k + 1, least => by
    simp only [allL, sortL, List.filter_flatMap, List.filter_map]
    have e2 : ∀ i : Nat, ((allL n k).filter (fromB least ∘ fun x => ((i : Int) :: x))).map (fun x => (i : Int) :: x) = if least ≤ i then (sortL n k i).map (fun x => (i : Int) :: x) else [] := by
      intro i
      rw [← allL_filter n k i]
      by_cases h : least ≤ i
      · rw [if_pos h]
        congr 1
        refine List.filter_congr fun x _ => ?_
        simp [Function.comp, fromB, srtB_cons, h]
      · rw [if_neg h, List.filter_eq_nil_iff.2]
        · rfl
        · intro x _
          simp [Function.comp, fromB]
          omega
    simp only [e2]
    rw [List.range_eq_range', flat_from]
    by_cases hl : 0 ≤ least
    · rw [show max 0 least = least by omega, show 0 + n - least = n - least by omega]
    · omega
/-- The reference counts lists as numbers. -/
def digL (n : Nat) : Nat → Nat → List Int
  | 0, _ => []
  | k + 1, m => ((m / n ^ k % n : Nat) : Int) :: digL n k m
theorem allL_mem (n : Nat) : ∀ k c, c ∈ allL n k ↔ c.length = k ∧ ∀ x ∈ c, 0 ≤ x ∧ x < n
  | 0, c => by
    simp only [allL, List.mem_singleton]
    constructor
    · rintro rfl; simp
    · intro ⟨h, _⟩; exact List.eq_nil_of_length_eq_zero h
  | k + 1, c => by
    simp only [allL, List.mem_flatMap, List.mem_range, List.mem_map]
    constructor
    · rintro ⟨i, hi, x, hx, rfl⟩
      obtain ⟨h1, h2⟩ := (allL_mem n k x).1 hx
      refine ⟨by simp [h1], fun y hy => ?_⟩
      rcases List.mem_cons.1 hy with rfl | hy
      · omega
      · exact h2 y hy
    · rintro ⟨h1, h2⟩
      cases c with
      | nil => simp at h1
      | cons a c =>
        have ha := h2 a List.mem_cons_self
        exact ⟨a.toNat, by omega, c, (allL_mem n k c).2 ⟨by simpa using h1, fun y hy => h2 y (List.mem_cons_of_mem _ hy)⟩, by rw [Int.toNat_of_nonneg ha.1]⟩
theorem fromB_zero {c : List Int} (h : ∀ x ∈ c, 0 ≤ x) : fromB 0 c = srtB c := by
  cases c with
  | nil => rfl
  | cons a c => simp [fromB, h a List.mem_cons_self]
theorem coursesL_mem {n laps : Nat} {c : List Int} : c ∈ coursesL n laps ↔ c.length = laps ∧ (∀ x ∈ c, 0 ≤ x ∧ x < n) ∧ srtB c = true := by
  unfold coursesL
  rw [← allL_filter, List.mem_filter, allL_mem]
  constructor
  · rintro ⟨⟨h1, h2⟩, h3⟩
    exact ⟨h1, h2, by rwa [fromB_zero (fun x hx => (h2 x hx).1)] at h3⟩
  · rintro ⟨h1, h2, h3⟩
    exact ⟨⟨h1, h2⟩, by rwa [fromB_zero (fun x hx => (h2 x hx).1)]⟩
theorem inL_iff {n : Nat} {c : List Int} : inL n c = true ↔ ∀ x ∈ c, 0 ≤ x ∧ x < n := by
  simp only [inL, List.all_eq_true, wiB_iff]
  constructor <;> intro h x hx <;> have := h x hx <;> omega
theorem listedV_iff {n : Nat} {c : List Int} : listedV n c = 0 ↔ (1 ≤ c.length ∧ c.length ≤ 6) ∧ (∀ x ∈ c, 0 ≤ x ∧ x < n) ∧ srtB c = true := by
  unfold listedV
  rw [← inL_iff]
  constructor
  · intro h
    split at h
    · cases h
    split at h
    · cases h
    split at h
    · rename_i h1 h2 h3
      exact ⟨by omega, by simpa using h2, h3⟩
    · cases h
  · rintro ⟨h1, h2, h3⟩
    rw [if_neg (by omega), if_neg (by simp [h2]), if_pos h3]
end Go.Proofs.YtpknmgafambmbaaGreat

/- The plain laws of courses: what a course breaks, its area and its snow. -/
namespace Go.Proofs.YtpknmgafambmbaaGreat

def lpAt (s : List Lp) (i : Int) : Lp := s.getD i.toNat ⟨0, 0, 0⟩
def lenS (s : List Lp) (c : List Int) : Int := (c.map fun i => (lpAt s i).len).sum
def clbS (s : List Lp) (c : List Int) : Int := (c.map fun i => (lpAt s i).climb).sum
def lapB (s : List Lp) (r : Rl) (c : List Int) : Bool := c.any fun i => !wiB (lpAt s i).len r.p0 r.p1
def widB (s : List Lp) (r : Rl) (c : List Int) : Bool := c.any fun i => decide ((lpAt s i).wide < r.wide) && true
def cntI (c : List Int) (i : Int) : Nat := c.countP (fun x => decide (x = i))
/-- The greatest number of uses, lap by lap. -/
def mostP (c : List Int) : Nat → Int
  | 0 => 0
  | k + 1 => max (mostP c k) (cntI (c.take (k + 1)) (c.getD k 0))
def oftB (r : Rl) (c : List Int) : Bool := decide (r.uses < mostP c c.length) && true
/-- Which rules are broken. -/
def marksV (s : List Lp) (r : Rl) (c : List Int) : List Bool := [!wiB (lenS s c) r.g0 r.g1, !wiB (clbS s c) r.c0 r.c1, lapB s r c, widB s r c, oftB r c]
def markI : List Bool → Int → List Int
  | [], _ => []
  | b :: m, i => (if b then [i] else []) ++ markI m (i + 1)
/-- The rules that a course breaks. -/
def brkL (s : List Lp) (r : Rl) (c : List Int) : List Int := markI (marksV s r c) 0
def rightB (s : List Lp) (r : Rl) (c : List Int) : Bool := (marksV s r c).all (! ·)
def brokenV (s : List Lp) (r : Rl) (c : List Int) : List Int × Int :=
  if checkS s r ≠ 0 then ([], checkS s r) else if listedV s.length c ≠ 0 then ([], listedV s.length c) else if (c.length : Int) ≠ r.laps then ([], 2) else (brkL s r c, 0)

theorem cnt_le {c : List Int} {i : Int} : cntI c i ≤ c.length := List.countP_le_length
theorem cnt_take_succ (c : List Int) (i : Int) (k : Nat) (hk : k < c.length) : cntI (c.take (k + 1)) i = cntI (c.take k) i + if c[k] = i then 1 else 0 := by
  unfold cntI
  rw [List.take_succ_eq_append_getElem hk, List.countP_append]
  simp [List.countP_cons]
theorem mostP_bd (c : List Int) : ∀ k, 0 ≤ mostP c k ∧ mostP c k ≤ c.length
  | 0 => by simp [mostP]
  | k + 1 => by
    have ih := mostP_bd c k
    have h := cnt_le (c := c.take (k + 1)) (i := c.getD k 0)
    rw [List.length_take] at h
    simp only [mostP]
    omega
theorem lpAt_at {s : List Lp} {i : Int} (h : 0 ≤ i ∧ i < s.length) : lpAt s i = s[i.toNat]'(by omega) := by
  unfold lpAt
  rw [List.getD_eq_getElem?_getD, List.getElem?_eq_getElem (by omega)]
  rfl
theorem lpAt_right {s : List Lp} (hs : StadR s) {i : Int} (h : 0 ≤ i ∧ i < s.length) : (lpAt s i).Right := by
  rw [lpAt_at h]
  exact hs.all _ (List.getElem_mem _)
theorem sumI_bd (B : Int) : ∀ (l : List Int), (∀ x ∈ l, 0 ≤ x ∧ x ≤ B) → 0 ≤ l.sum ∧ l.sum ≤ B * l.length
  | [], _ => by simp
  | x :: l, h => by
    have h1 := sumI_bd B l (fun y hy => h y (List.mem_cons_of_mem _ hy))
    have h2 := h x List.mem_cons_self
    have e : B * ((x :: l).length : Int) = B * l.length + B := by simp [Int.mul_add]
    rw [e, List.sum_cons]
    omega
theorem lenS_bd {s : List Lp} (hs : StadR s) {c : List Int} (hc : ∀ x ∈ c, 0 ≤ x ∧ x < s.length) : (0 ≤ lenS s c ∧ lenS s c ≤ 20000 * c.length) ∧ 0 ≤ clbS s c ∧ clbS s c ≤ 2000 * c.length := by
  have h1 := sumI_bd 20000 (c.map fun i => (lpAt s i).len) (fun x hx => by
    obtain ⟨i, hi, rfl⟩ := List.mem_map.1 hx
    have := (lpAt_right hs (hc i hi)).len
    omega)
  have h2 := sumI_bd 2000 (c.map fun i => (lpAt s i).climb) (fun x hx => by
    obtain ⟨i, hi, rfl⟩ := List.mem_map.1 hx
    have := (lpAt_right hs (hc i hi)).climb
    omega)
  simp only [List.length_map] at h1 h2
  exact ⟨h1, h2⟩
theorem map_take_sum (f : Int → Int) (c : List Int) (k : Nat) (hk : k < c.length) : ((c.take (k + 1)).map f).sum = ((c.take k).map f).sum + f c[k] := by
  rw [List.take_succ_eq_append_getElem hk, List.map_append, List.sum_append]
  simp
theorem any_take (p : Int → Bool) (c : List Int) (k : Nat) (hk : k < c.length) : (c.take (k + 1)).any p = ((c.take k).any p || p c[k]) := by
  rw [List.take_succ_eq_append_getElem hk, List.any_append]
  simp
/-! All right courses, and the fewest rules to be given up -/
def nL (r : Rl) : Nat := r.laps.toNat
def allC (s : List Lp) (r : Rl) : List (List Int) := (coursesL s.length (nL r)).filter (rightB s r)
def allV (s : List Lp) (r : Rl) : List (List Int) × Int := if checkS s r ≠ 0 then ([], checkS s r) else if 300 < (allC s r).length then ([], 10) else (allC s r, 0)
def cmpB : List Int → List Int → Bool
  | [], [] => false
  | [], _ :: _ => true
  | _ :: _, [] => false
  | a :: l, b :: m => if a = b then cmpB l m else decide (a < b) && true
/-- Fewer rules, or as many that come first. -/
def fewB (a b : List Int) : Bool := (decide (a.length < b.length) && true) || (decide (a.length = b.length) && true && cmpB a b)
/-- The best one so far. -/
def bestS {α : Type} (lt : α → α → Bool) (o : Option α) (c : α) : Option α :=
  match o with
  | none => some c
  | some b => if lt c b then some c else some b
def yieldS (s : List Lp) (r : Rl) (o : Option (List Int)) (c : List Int) : Option (List Int) := bestS (fun a b => fewB (brkL s r a) (brkL s r b)) o c
def yieldO (s : List Lp) (r : Rl) (l : List (List Int)) : Option (List Int) := l.foldl (yieldS s r) none

/-! Area and snow -/
def areaP (s : List Lp) (c : List Int) (k : Nat) : Int := ((List.range k).map fun (i : Nat) => if c.any (fun x => decide (x = (i : Int)) && true) then (lpAt s i).len * (lpAt s i).wide else 0).sum
def areaV (s : List Lp) (c : List Int) : Int := areaP s c s.length
def measV (s : List Lp) (c : List Int) : Int := if stadV s ≠ 0 then stadV s else listedV s.length c
def areaE (s : List Lp) (c : List Int) : Int × Int := if measV s c ≠ 0 then (0, measV s c) else (areaV s c, 0)
def snowV (s : List Lp) (c : List Int) (depth : Int) : Int := (areaV s c * depth + 99) / 100
def snowE (s : List Lp) (c : List Int) (depth : Int) : Int × Int := if measV s c ≠ 0 then (0, measV s c) else if wiB depth 1 200 = false then (0, 3) else (snowV s c depth, 0)
def covL (s : List Lp) (r : Rl) (depth volume : Int) : List (List Int) := (coursesL s.length (nL r)).filter fun c => rightB s r c && (decide (snowV s c depth ≤ volume) && true)
def coveredV (s : List Lp) (r : Rl) (depth volume : Int) : List (List Int) × Int :=
  if checkS s r ≠ 0 then ([], checkS s r) else if (wiB depth 1 200 && wiB volume 0 10000000) = false then ([], 3) else if 300 < (covL s r depth volume).length then ([], 10) else (covL s r depth volume, 0)
def cheapS (s : List Lp) (r : Rl) (depth : Int) (o : Option (List Int)) (c : List Int) : Option (List Int) :=
  if rightB s r c then bestS (fun a b => decide (snowV s a depth < snowV s b depth) && true) o c else o
def cheapO (s : List Lp) (r : Rl) (depth : Int) (l : List (List Int)) : Option (List Int) := l.foldl (cheapS s r depth) none
def cheapV (s : List Lp) (r : Rl) (depth : Int) : List Int × Int × Int :=
  if checkS s r ≠ 0 then ([], 0, checkS s r) else if wiB depth 1 200 = false then ([], 0, 3) else match cheapO s r depth (coursesL s.length (nL r)) with
    | none => ([], 0, 6)
    | some b => (b, snowV s b depth, 0)
theorem areaP_succ (s : List Lp) (c : List Int) (k : Nat) : areaP s c (k + 1) = areaP s c k + if c.any (fun x => decide (x = (k : Int)) && true) then (lpAt s k).len * (lpAt s k).wide else 0 := by simp [areaP, List.range_succ]
theorem areaP_bd {s : List Lp} (hs : StadR s) (c : List Int) : ∀ k, k ≤ s.length → 0 ≤ areaP s c k ∧ areaP s c k ≤ 400000 * k
  | 0, _ => by simp [areaP]
  | k + 1, hk => by
    have ih := areaP_bd hs c k (by omega)
    have h := lpAt_right hs (i := (k : Int)) (by omega)
    rw [areaP_succ]
    split
    · have h1 : 0 ≤ (lpAt s k).len * (lpAt s k).wide := Int.mul_nonneg (by have := h.len; omega) (by have := h.wide; omega)
      have h2 : (lpAt s k).len * (lpAt s k).wide ≤ 20000 * 20 := Int.mul_le_mul h.len.2 h.wide.2 (by have := h.wide; omega) (by omega)
      omega
    · omega
theorem snowV_bd {s : List Lp} (hs : StadR s) (c : List Int) {depth : Int} (hd : 1 ≤ depth ∧ depth ≤ 200) : (0 ≤ areaV s c ∧ areaV s c ≤ 4800000) ∧ (0 ≤ areaV s c * depth ∧ areaV s c * depth ≤ 960000000) ∧ 0 ≤ snowV s c depth ∧ snowV s c depth ≤ 9600001 := by
  have h := areaP_bd hs c s.length (Nat.le_refl _)
  have h2 := hs.n2
  have h3 : 0 ≤ areaV s c ∧ areaV s c ≤ 4800000 := by unfold areaV; omega
  have h4 : 0 ≤ areaV s c * depth := Int.mul_nonneg h3.1 (by omega)
  have h5 : areaV s c * depth ≤ 4800000 * 200 := Int.mul_le_mul h3.2 hd.2 (by omega) (by omega)
  unfold snowV
  omega
end Go.Proofs.YtpknmgafambmbaaGreat

/- The plain laws of courses: their order, the fewest rules, the least snow. -/
namespace Go.Proofs.YtpknmgafambmbaaGreat

/-! Lexicographic order -/
/-! The fewest rules -/
/-- The first of the best ones, by a strict order of keys. -/
theorem best_fold {α : Type} (lt : α → α → Bool) (irr : ∀ a, lt a a = false) (tr : ∀ {a b c}, lt a b = true → lt b c = true → lt a c = true) (neg : ∀ {a b c}, lt a b = false → lt b c = false → lt a c = false) :
    ∀ (l : List α) (m : α), ∃ R, l.foldl (bestS lt) (some m) = some R ∧ (R = m ∨ R ∈ l) ∧ lt m R = false ∧ ∀ c ∈ l, lt c R = false
  | [], m => ⟨m, rfl, .inl rfl, irr m, by simp⟩
  | c :: l, m => by
    rw [List.foldl_cons]
    by_cases h : lt c m = true
    · simp only [bestS, h, if_true]
      obtain ⟨R, h1, h2, h3, h4⟩ := best_fold lt irr tr neg l c
      refine ⟨R, h1, .inr (List.mem_cons.2 h2), ?_, fun d hd => ?_⟩
      · cases hm : lt m R with
        | false => rfl
        | true => rw [tr h hm] at h3; cases h3
      · rcases List.mem_cons.1 hd with rfl | hd
        · exact h3
        · exact h4 d hd
    · have h : lt c m = false := by simpa using h
      simp only [bestS, h]
      obtain ⟨R, h1, h2, h3, h4⟩ := best_fold lt irr tr neg l m
      refine ⟨R, h1, h2.imp_right (List.mem_cons_of_mem _), h3, fun d hd => ?_⟩
      rcases List.mem_cons.1 hd with rfl | hd
      · exact neg h h3
      · exact h4 d hd
theorem cheap_filter (s : List Lp) (r : Rl) (depth : Int) : ∀ (l : List (List Int)) (o : Option (List Int)), l.foldl (cheapS s r depth) o = (l.filter (rightB s r)).foldl (bestS fun a b => decide (snowV s a depth < snowV s b depth) && true) o
  | [], _ => rfl
  | c :: l, o => by
    rw [List.foldl_cons, cheap_filter s r depth l, List.filter_cons]
    cases h : rightB s r c with
    | false => simp [cheapS, h]
    | true => simp only [if_true, List.foldl_cons, cheapS, h]
theorem cheap_best (s : List Lp) (r : Rl) (depth : Int) : (cheapO s r depth (coursesL s.length (nL r)) = none ∧ allC s r = []) ∨
    ∃ R, cheapO s r depth (coursesL s.length (nL r)) = some R ∧ R ∈ allC s r ∧ ∀ c ∈ allC s r, snowV s R depth ≤ snowV s c depth := by
  unfold cheapO
  rw [cheap_filter]
  show _ ∨ _
  unfold allC
  generalize (coursesL s.length (nL r)).filter (rightB s r) = l
  cases l with
  | nil => exact .inl ⟨rfl, rfl⟩
  | cons m l =>
    obtain ⟨R, h1, h2, h3, h4⟩ := best_fold (fun a b => decide (snowV s a depth < snowV s b depth) && true) (fun a => by simp) (fun {a b c} h1 h2 => by simp at h1 h2 ⊢; omega) (fun {a b c} h1 h2 => by simp at h1 h2 ⊢; omega) l m
    refine .inr ⟨R, (by rw [List.foldl_cons]; exact h1), List.mem_cons.2 h2, fun c hc => ?_⟩
    rcases List.mem_cons.1 hc with rfl | hc
    · simpa using h3
    · simpa using h4 c hc
end Go.Proofs.YtpknmgafambmbaaGreat

/- The plain law of CourseSpread. -/
namespace Go.Proofs.YtpknmgafambmbaaGreat
open Go

theorem area_any (c : List Int) (i : Int) : c.any (fun x => decide (x = i) && true) = decide (i ∈ c) := by
  rw [Bool.eq_iff_iff]
  simp only [List.any_eq_true, Bool.and_true, decide_eq_true_eq]
  exact ⟨fun ⟨x, h1, h2⟩ => h2 ▸ h1, fun h => ⟨i, h, rfl⟩⟩
theorem areaP_pos {s : List Lp} (hs : StadR s) {c : List Int} {y : Nat} (hy : (y : Int) ∈ c) : ∀ k, k ≤ s.length → y < k → 1 ≤ areaP s c k
  | 0, _, h => by omega
  | k + 1, hk, hyk => by
    have hb := areaP_bd hs c k (by omega)
    have hl := lpAt_right hs (i := (k : Int)) (by omega)
    have h1 : 0 < (lpAt s k).len * (lpAt s k).wide := Int.mul_pos (by have := hl.len; omega) (by have := hl.wide; omega)
    simp only [areaP_succ, area_any, decide_eq_true_eq]
    rcases Nat.lt_or_eq_of_le (Nat.le_of_lt_succ hyk) with h2 | h2
    · have := areaP_pos hs hy k (by omega) h2
      split <;> omega
    · subst h2
      rw [if_pos hy]; omega
theorem covL_filter (s : List Lp) (r : Rl) (d v : Int) : covL s r d v = (allC s r).filter fun c => decide (snowV s c d ≤ v) := by
  unfold covL allC
  rw [List.filter_filter]
  congr 1
  funext c
  simp [Bool.and_comm]
theorem filter_le {α : Type} (f : α → Int) {v u : Int} (h : v ≤ u) : ∀ l : List α, (l.filter fun c => decide (f c ≤ v)).length ≤ (l.filter fun c => decide (f c ≤ u)).length
  | [] => by simp
  | c :: l => by
    have ih := filter_le f h l
    simp only [List.filter_cons, decide_eq_true_eq]
    by_cases h1 : f c ≤ v
    · rw [if_pos h1, if_pos (by omega)]; simp; exact ih
    · rw [if_neg h1]
      split
      · simp; omega
      · exact ih
theorem cov_mono (s : List Lp) (r : Rl) (d : Int) {v u : Int} (h : v ≤ u) : (covL s r d v).length ≤ (covL s r d u).length ∧ (covL s r d u).length ≤ (allC s r).length := by
  rw [covL_filter, covL_filter]
  exact ⟨filter_le _ h _, List.length_filter_le _ _⟩
end Go.Proofs.YtpknmgafambmbaaGreat

/- The plain laws of a winter: piles. -/
namespace Go.Proofs.YtpknmgafambmbaaGreat

def sumP (l : List (Int × Int)) : Int := (l.map (·.2)).sum
/-- What is left of all piles: the last ones whole, and some of the one before. -/
def LeftOf (A l : List (Int × Int)) : Prop := l = [] ∨ ∃ pre d a m rest, A = pre ++ (d, a) :: rest ∧ l = (d, m) :: rest ∧ 0 < m ∧ m ≤ a
theorem remP_zero : ∀ (l : List (Int × Int)), remP 0 l = l
  | [] => rfl
  | (d, m) :: r => by simp [remP]
/-- All that there was: the stock, and what was made. -/
def allP (w : Wn) (t : Wt) : Nat → List (Int × Int)
  | 0 => addP (-1) w.stock []
  | k + 1 => addP k (madeOf w.store (sq w t k) (t.make.getD k 0) (t.loss.getD k 0)) (allP w t k)
/-! The reference's piles -/
def rremP : Int → List Int → List Int
  | _, [] => []
  | much, n :: r => if much > 0 then (n - min n much) :: rremP (much - min n much) r else n :: r
def posP : Int → List Int → List (Int × Int)
  | _, [] => []
  | d, n :: r => (if n > 0 then [(d, n)] else []) ++ posP (d + 1) r
theorem rremP_zero : ∀ (l : List Int), rremP 0 l = l
  | [] => rfl
  | n :: r => by simp [rremP]
/-- The reference's piles, after some days. -/
def rpP (w : Wn) (t : Wt) : Nat → List Int
  | 0 => [w.stock]
  | k + 1 => rremP (t.need.getD k 0) (rremP (lossOf (sq w t k) (t.loss.getD k 0)) (rpP w t k) ++ [madeOf w.store (sq w t k) (t.make.getD k 0) (t.loss.getD k 0)])
end Go.Proofs.YtpknmgafambmbaaGreat

/- The plain laws of a winter: weathers within its spans; what is more; parts. -/
namespace Go.Proofs.YtpknmgafambmbaaGreat

/-- A weather within the spans. -/
structure Wt.In (t : Wt) (w : Wn) : Prop where
  need : t.need.length = w.days.length
  make : t.make.length = w.days.length
  loss : t.loss.length = w.days.length
  n : ∀ i (h : i < w.days.length), w.days[i].n0 ≤ t.need.getD i 0 ∧ t.need.getD i 0 ≤ w.days[i].n1
  m : ∀ i (h : i < w.days.length), w.days[i].m0 ≤ t.make.getD i 0 ∧ t.make.getD i 0 ≤ w.days[i].m1
  l : ∀ i (h : i < w.days.length), w.days[i].l0 ≤ t.loss.getD i 0 ∧ t.loss.getD i 0 ≤ w.days[i].l1
def inB (w : Wn) (t : Wt) (i : Nat) : Bool :=
  let d := w.days.getD i ⟨0, 0, 0, 0, 0, 0⟩
  decide (d.n0 ≤ t.need.getD i 0) && decide (t.need.getD i 0 ≤ d.n1) && (decide (d.m0 ≤ t.make.getD i 0) && decide (t.make.getD i 0 ≤ d.m1)) && (decide (d.l0 ≤ t.loss.getD i 0) && decide (t.loss.getD i 0 ≤ d.l1))
/-- The error of a winter and a weather. -/
def weatV (w : Wn) (t : Wt) : Int :=
  if checkW w ≠ 0 then checkW w else if ¬(t.need.length = w.days.length ∧ t.make.length = w.days.length ∧ t.loss.length = w.days.length) then 2 else if (List.range w.days.length).all (inB w t) then 0 else 3
/-! The results -/
def firstV (w : Wn) : Int × Int := if checkW w ≠ 0 then (0, checkW w) else if (hapV w (worstW w)).fails = -1 then (0, 6) else ((hapV w (worstW w)).fails, 0)
def whyV (w : Wn) : (Int × Int) × Int := if checkW w ≠ 0 then ((0, 0), checkW w) else if (hapV w (worstW w)).fails = -1 then ((0, 0), 6) else (((hapV w (worstW w)).full, (hapV w (worstW w)).fails), 0)
def leastV (w : Wn) : Int × Int := if checkW w ≠ 0 then (0, checkW w) else if w.store < max (neededV w).1 (neededV w).2 then (0, 6) else ((neededV w).1, 0)
def roomV (w : Wn) : Int × Int := if checkW w ≠ 0 then (0, checkW w) else if w.stock < (neededV w).1 ∨ 1000000 < (neededV w).2 then (0, 6) else (max (max 1 w.stock) (neededV w).2, 0)
def rangesV (w : Wn) : List (Int × Int) := (List.range (hapV w (worstW w)).stocks.length).map fun i => ((hapV w (worstW w)).stocks.getD i 0, (hapV w (bestW w)).stocks.getD i 0)
end Go.Proofs.YtpknmgafambmbaaGreat

/- Plain laws of winters: more stock, more room, more snow made, less need and less loss. -/
namespace Go.Proofs.YtpknmgafambmbaaGreat
open Go

structure RichD (d d' : Dy) : Prop where
  n : d'.n0 = d.n0 ∧ d.n0 ≤ d'.n1 ∧ d'.n1 ≤ d.n1
  m : d'.m1 = d.m1 ∧ d.m0 ≤ d'.m0 ∧ d'.m0 ≤ d.m1
  l : d'.l0 = d.l0 ∧ d.l0 ≤ d'.l1 ∧ d'.l1 ≤ d.l1
structure RichL (l l' : List Dy) : Prop where
  len : l'.length = l.length
  all : ∀ i (h : i < l.length) (h' : i < l'.length), RichD l[i] l'[i]
theorem least_eq {w : Wn} (hw : w.Right) : leastV w = if w.store < max (neededV w).1 (neededV w).2 then (0, 6) else ((neededV w).1, 0) := by unfold leastV; rw [if_neg (by simp [checkW_iff.2 hw])]
end Go.Proofs.YtpknmgafambmbaaGreat

/- The engine, part B5: arrays as values; slices of arrays; copy; make. -/
namespace Go.Eng
open Go Go.RowKit

section
variable {P : Program} {T : Tab}
variable {ro : Cx} {n n' : Nat} {F : Fin} {w0 : World} {M : Nat → Prop} {k : List It} {ops : Array Oper} {rest : List Oper} {e : Env} {H Hq : List Ck}

/-- An element of an array that is a value. -/
theorem run_ixA (hT : T.Ok P) {t len et : Nat} {cs : Array Value} {ik : IntKind} {i : Int} {v : Value} (hA : arrB P t len et 1 = true) (h1 : has T.one et = true) (h0 : 0 ≤ i) (hi : i < len) (hv : cs[i.toNat]? = some v) (w : World) :
    (Instr.index t (.agg cs) (.int ik i)).run P w = .ok v w := by
  obtain ⟨r1, r2⟩ := one_run hT h1 w
  simp only [arrB, Bool.and_eq_true] at hA
  obtain ⟨ha, hb⟩ := hA
  split at ha
  · rename_i m e' hu
    simp only [Bool.and_eq_true] at ha
    have e1 := Nat.eq_of_beq_eq_true ha.1
    have e2 := Nat.eq_of_beq_eq_true ha.2
    subst e1; subst e2
    simp [Instr.index, asIntOf, run_underlying hu, h0, hi, r2, part, r1, hv]
  · cases ha
theorem ql_ixA (hT : T.Ok P) {d t len et : Nat} {x ix : Operand} {cs : Array Value} {ik : IntKind} {i : Int} {v : Value} {ty : TypeId} {pos : String} {af : Array Edge} (hA : arrB P t len et 1 = true) (h1 : has T.one et = true)
    (hx : opv e x = some (.agg cs)) (hi : opv e ix = some (.int ik i)) (hd : Nat.blt d n = true) (h0 : 0 ≤ i) (hl : i < len) (hv : cs[i.toNat]? = some v)
    (h : QL P ro n F w0 M k ops rest ((d, v) :: e) H) : QL P ro n F w0 M k ops (⟨some d, .index t x ix, ty, pos, af, none⟩ :: rest) e H := .mk fun w hw =>
  yl_val (by simp) hd (fun a hf => by
    simp only [execOp, hf.op hx, hf.op hi]
    simp [run_ixA hT hA h1 h0 hl hv w]) (h w hw)
/-- make([]int, n). -/
theorem ql_makeI {d t et m : Nat} {x y : Operand} {ty : TypeId} {pos : String} {af : Array Edge} (hS : SlT P t et 1 8 (.int .i64 0)) (hx : opv e x = some (.int .i64 m)) (hy : opv e y = some (.int .i64 m)) (hd : Nat.blt d n = true) (hm : m ≤ 1000000)
    (h : ∀ b, QL P ro n F w0 M k ops rest ((d, .slice (some ⟨b, 0, none⟩) m m) :: e) (.pt b (ints (List.replicate m 0)) et :: H)) :
    QL P ro n F w0 M k ops (⟨some d, .makeSlice t x y, ty, pos, af, none⟩ :: rest) e H := .mk fun w hs => by
  obtain ⟨ht, hi', hzs, hsz⟩ := hS
  cases hinf : P.info? et with
  | none => simp [hinf] at hi'
  | some i =>
    simp [hinf] at hi'
    obtain ⟨hz, hsize, hby⟩ := hi'
    have hr := run_makeSlice (P := P) w t et i _ ht hinf hz .i64 .i64 m m (by omega) (Int.le_refl _) (by rw [hsize]; simp; omega) (by rw [hby]; omega) (by omega)
    have hcells : (madeCells (Value.int .i64 0).cells ((m : Int).toNat * i.size)) = (ints (List.replicate m 0)).toArray := by
      apply Array.ext'
      rw [hsize, show (Value.int .i64 0).cells = #[Value.int .i64 0] from rfl, toList_madeCells_one]
      simp
    rw [hcells] at hr
    refine yl_val (w' := w.alloc (.cells (ints (List.replicate m 0)).toArray et)) (by simp) hd (fun ac hf => ?_) ((h w.heap.size).h _ (hs.addPt (alloc_chg _ _) (by simp) (alloc_blk w _ _)))
    simp only [execOp, hf.op hx, hf.op hy]
    simp [hr]
end
end Go.Eng

/- The engine, part B6: other pieces for the same memory. -/
namespace Go.Eng
open Go Go.RowKit

section
variable {P : Program} {T : Tab}
variable {ro : Cx} {n n' : Nat} {F : Fin} {w0 : World} {M : Nat → Prop} {k : List It} {ops : Array Oper} {rest : List Oper} {e : Env} {H H' Hq L R : List Ck}

theorem q_conv (hc : ∀ w, Sat w0 M H w → Sat w0 M H' w) (h : Q P ro n F w0 M k e H') : Q P ro n F w0 M k e H := .mk fun w hs => h.h w (hc w hs)
theorem ql_conv (hc : ∀ w, Sat w0 M H w → Sat w0 M H' w) (h : QL P ro n F w0 M k ops rest e H') : QL P ro n F w0 M k ops rest e H := .mk fun w hs => h.h w (hc w hs)

theorem q_fact {p : Prop} (hp : ∀ w, Sat w0 M H w → p) (h : p → Q P ro n F w0 M k e H) : Q P ro n F w0 M k e H := .mk fun w hs => (h (hp w hs)).h w hs
theorem ql_fact {p : Prop} (hp : ∀ w, Sat w0 M H w → p) (h : p → QL P ro n F w0 M k ops rest e H) : QL P ro n F w0 M k ops rest e H := .mk fun w hs => (h (hp w hs)).h w hs
theorem Blk.rd {w : World} {b m : Nat} {cs : List Value} {t : TypeId} (h : Blk w b cs t) (hl : cs.length = m) (c : Nat) : Rd w b (b + 1) (.slice (some ⟨b, 0, none⟩) m c) 1 m cs :=
  ⟨by omega, .inr ⟨b, 0, c, rfl, fun _ => ⟨Nat.le_refl _, Nat.lt_succ_self _, h.lt⟩, fun j _ => by rw [Blk.cell h]; simp⟩⟩
theorem cellsOf_one : ∀ (es : List Value), (∀ e ∈ es, oneV e = true) → cellsOf es = es
  | [], _ => rfl
  | e :: es, h => by
    have h1 := cellsOf_one es (fun x hx => h x (List.mem_cons_of_mem _ hx))
    have h2 := h e List.mem_cons_self
    have h3 : e.cells.toList = [e] := by cases e <;> first | rfl | simp [oneV] at h2
    simp only [cellsOf, List.flatMap_cons] at h1 ⊢
    rw [h1, h3]
    rfl
/-- Elements of one cell each. -/
theorem RdE.one {w : World} {lo hi : Nat} {v : Value} {es : List Value} (h : Rd w lo hi v 1 es.length es) (h1 : ∀ e ∈ es, oneV e = true) : RdE w lo hi v 1 es :=
  ⟨by rw [cellsOf_one es h1]; exact h, fun e he => by have := h1 e he; cases e <;> first | rfl | simp [oneV] at this⟩

theorem Sat.ownil {w : World} (h : Sat w0 M H w) (t sz : Nat) : Sat w0 M (.ow (.slice none 0 0) t sz 0 [] :: H) w :=
  h.add (Chg.refl _ _) (own_nil _ _ _ _) (fun b hb => by simp [Ck.D, Value.ownBlock] at hb)

theorem Sat.pt_ow {w : World} {b : Nat} {cs : List Value} {t sz m : Nat} (hl : cs.length = m * sz) (hm : m ≤ 1000000) (h : Sat w0 M (.pt b cs t :: R) w) : Sat w0 M (.ow (.slice (some ⟨b, 0, none⟩) m m) t sz m cs :: R) w := by
  have hb : Blk w b cs t := h.blk List.mem_cons_self
  refine h.rep .z (Chg.refl [] w) (by simp) ⟨hl, .inr ⟨b, m, cs.toArray, rfl, Nat.zero_le _, hb, Nat.le_refl _, by simp only [maxLen]; omega, by simpa using hl, ?_⟩⟩ (fun x hx => ?_)
  · rw [← hl]; simp
  · have hx' : x = b := by simpa [Ck.D, Value.ownBlock, eq_comm] using hx
    subst hx'
    exact ⟨.inl rfl, hb.lt⟩

theorem Sat.ow_pt {w : World} {v : Value} {t sz m : Nat} {xs : List Value} (hm : 0 < m) (h : Sat w0 M (.ow v t sz m xs :: R) w) : ∃ g cap spare, v = .slice (some ⟨g, 0, none⟩) m cap ∧ Sat w0 M (.pt g (xs ++ spare) t :: R) w := by
  have hp : w.ownsRow 0 t sz v m xs := h.all _ List.mem_cons_self
  have hbd := h.bd _ List.mem_cons_self
  obtain ⟨hl, h2 | ⟨g, cap, cur, rfl, _, hg, hmc, _, hcs, htake⟩⟩ := hp
  · omega
  · refine ⟨g, cap, cur.toList.drop (m * sz), rfl, h.rep .z (Chg.refl [] w) (by simp) ?_ (fun x hx => ?_)⟩
    · show w.heap[g]? = _
      rw [hg, ← htake, List.take_append_drop]
    · have hx' : x = g := hx
      subst hx'
      exact ⟨.inl rfl, (Array.getElem?_eq_some_iff.1 hg).1⟩

/-- A slice of our own that is not empty is a block, with something behind. -/
theorem q_ow {v : Value} {t sz m : Nat} {xs : List Value} (hm : 0 < m) (h : ∀ g cap spare, v = .slice (some ⟨g, 0, none⟩) m cap → Q P ro n F w0 M k e (.pt g (xs ++ spare) t :: R)) : Q P ro n F w0 M k e (.ow v t sz m xs :: R) := .mk fun w hs => by
  obtain ⟨g, cap, spare, hv, hs'⟩ := hs.ow_pt hm
  exact (h g cap spare hv).h w hs'

theorem Sat.un_perm {w : World} {L L' : List Ck} (hp : L.Perm L') (h : Sat w0 M (un L :: R) w) : Sat w0 M (un L' :: R) w :=
  Sat.un_iff.2 ((Sat.un_iff.1 h).perm (hp.append_right R))
theorem Sat.un_in {w : World} {c : Ck} (h : Sat w0 M (c :: un L :: R) w) : Sat w0 M (un (c :: L) :: R) w := by
  have h1 : Sat w0 M (un L :: c :: R) w := h.perm (.swap _ _ _)
  refine Sat.un_iff.2 ((Sat.un_iff.1 h1).perm ?_)
  exact List.perm_middle
theorem Sat.un_nil {w : World} (h : Sat w0 M R w) : Sat w0 M (un [] :: R) w := Sat.un_iff.2 h
theorem Sat.un_mem {w : World} {c : Ck} (h : Sat w0 M H w) (hu : un L ∈ H) (hc : c ∈ L) : c.p w := by
  obtain ⟨h1, _, _⟩ := (h.all (un L) hu : (un L).p w)
  exact h1 c hc
end
end Go.Eng

/- The engine, part B7: structs of numbers and Bools compared; maps. -/
namespace Go.Eng
open Go Go.RowKit

section
variable {P : Program} {T : Tab}

/-! Flat structs: each field is a number or a Bool. -/
def flatF (P : Program) : Nat → List Field → List (Option IntKind) → Bool
  | _, [], [] => true
  | o, f :: fs, k :: ks => !(f.name == "_") && Nat.beq f.offset o && oneB P f.type && (match P.underlying f.type, k with | some (.int q), some q' => kindEq q q' | some .bool, none => true | _, _ => false) && flatF P (o + 1) fs ks
  | _, _, _ => false
def flatB (P : Program) (t : Nat) (ks : List (Option IntKind)) : Bool :=
  !(P.stoodInHeld t) && !(P.eqGuardType P.depth t) && (match P.underlying t with | some (.struct fs) => flatF P 0 fs.toList ks | _ => false)
def fitV : List (Option IntKind) → List Value → Bool
  | [], [] => true
  | some k :: ks, .int k' _ :: vs => kindEq k k' && fitV ks vs
  | none :: ks, .bool _ :: vs => fitV ks vs
  | _, _ => false
def eqL : List Value → List Value → Bool
  | .int _ a :: l, .int _ b :: m => decide (a = b) && eqL l m
  | .bool a :: l, .bool b :: m => (a == b) && eqL l m
  | _, _ => true

theorem eqL_refl : ∀ l : List Value, eqL l l = true
  | [] => rfl
  | v :: l => by
    cases v <;> simp [eqL, eqL_refl l]
theorem eqL_eq : ∀ (ks : List (Option IntKind)) (l m : List Value), fitV ks l = true → fitV ks m = true → eqL l m = true → l = m
  | [], [], [], _, _, _ => rfl
  | [], [], _ :: _, _, h, _ => by simp [fitV] at h
  | [], _ :: _, _, h, _, _ => by simp [fitV] at h
  | k :: ks, [], _, h, _, _ => by cases k <;> simp [fitV] at h
  | k :: ks, _ :: _, [], _, h, _ => by cases k <;> simp [fitV] at h
  | some k :: ks, v :: l, u :: m, h1, h2, h3 => by
    cases v <;> simp [fitV] at h1
    cases u <;> simp [fitV] at h2
    simp [eqL] at h3
    have e1 := kindEq_eq h1.1
    have e2 := kindEq_eq h2.1
    rw [h3.1, ← e1, ← e2, eqL_eq ks l m h1.2 h2.2 h3.2]
  | none :: ks, v :: l, u :: m, h1, h2, h3 => by
    cases v <;> simp [fitV] at h1
    cases u <;> simp [fitV] at h2
    simp [eqL] at h3
    rw [h3.1, eqL_eq ks l m h1 h2 h3.2]

theorem oneB_agg {t : Nat} (h : oneB P t = true) (w : World) : (isAgg t).run P w = .ok false w := by
  simp only [oneB, Bool.and_eq_true] at h
  obtain ⟨ha, _⟩ := h
  split at ha <;> first | (cases ha; done) | (rename_i d hd1 hd2 hu; cases d <;> first | exact absurd rfl (hd1 _) | exact absurd rfl (hd2 _ _) | simp [isAgg, run_underlying hu])
theorem run_part1 {t : Nat} (h : oneB P t = true) {xs : Array Value} {o : Nat} {v : Value} (hv : xs[o]? = some v) (w : World) : (part t xs o).run P w = .ok v w := by
  simp [part, oneB_agg h w, hv]

theorem fitV_cons {k : Option IntKind} {ks : List (Option IntKind)} {l : List Value} (h : fitV (k :: ks) l = true) : ∃ v m, l = v :: m ∧ fitV ks m = true ∧ ((∃ q a, k = some q ∧ v = .int q a) ∨ (∃ b, k = none ∧ v = .bool b)) := by
  cases l with
  | nil => cases k <;> simp [fitV] at h
  | cons v m =>
    cases k with
    | none =>
      cases v <;> simp [fitV] at h
      exact ⟨_, _, rfl, h, .inr ⟨_, rfl, rfl⟩⟩
    | some q =>
      cases v <;> simp [fitV] at h
      have := kindEq_eq h.1
      subst this
      exact ⟨_, _, rfl, h.2, .inl ⟨_, _, rfl, rfl⟩⟩

theorem eqFields_flat (d : Nat) (w : World) : ∀ (fs : List Field) (ks : List (Option IntKind)) (o : Nat) (xs ys : List Value) (l m : List Value), flatF P o fs ks = true → fitV ks l = true → fitV ks m = true → xs.drop o = l → ys.drop o = m →
    (Op.eqFields (d + 1) xs.toArray ys.toArray fs).run P w = .ok (eqL l m) w
  | [], [], o, xs, ys, l, m, _, hl, hm, _, _ => by
    cases l <;> simp [fitV] at hl
    cases m <;> simp [fitV] at hm
    rfl
  | [], _ :: _, _, _, _, _, _, h, _, _, _, _ => by simp [flatF] at h
  | _ :: _, [], _, _, _, _, _, h, _, _, _, _ => by simp [flatF] at h
  | f :: fs, k :: ks, o, xs, ys, l, m, h, hl, hm, ex, ey => by
    simp only [flatF, Bool.and_eq_true] at h
    obtain ⟨⟨⟨⟨hn, ho⟩, h1⟩, hk⟩, hr⟩ := h
    have ho := Nat.eq_of_beq_eq_true ho
    have hn : f.name ≠ "_" := by simpa using hn
    obtain ⟨v, l', rfl, hl', hv⟩ := fitV_cons hl
    obtain ⟨u, m', rfl, hm', hu⟩ := fitV_cons hm
    have gx : xs.toArray[f.offset]? = some v := by
      rw [ho]
      have := congrArg (fun z => z[0]?) ex
      simpa using this
    have gy : ys.toArray[f.offset]? = some u := by
      rw [ho]
      have := congrArg (fun z => z[0]?) ey
      simpa using this
    have dx : xs.drop (o + 1) = l' := by rw [← List.drop_drop, ex]; rfl
    have dy : ys.drop (o + 1) = m' := by rw [← List.drop_drop, ey]; rfl
    have ih := eqFields_flat d w fs ks (o + 1) xs ys l' m' hr hl' hm' dx dy
    have key : ∀ c : Bool, (Op.equalIn (d + 1) f.type v u).run P w = .ok c w → (Op.eqFields (d + 1) xs.toArray ys.toArray (f :: fs)).run P w = .ok (c && eqL l' m') w := by
      intro c hc
      simp only [Op.eqFields, if_pos hn, Sem.run_bind, run_part1 h1 gx, run_part1 h1 gy, Result.andThen_ok, hc]
      cases c
      · simp
      · simpa using ih
    rcases hv with ⟨q, a, rfl, rfl⟩ | ⟨a, rfl, rfl⟩
    · rcases hu with ⟨q', b, hq, rfl⟩ | ⟨b, hq, _⟩
      · cases hq
        split at hk
        · rename_i q1 q2 hun hq2
          exact (key (a == b) (run_equalIn_int w d f.type q q1 a b hun)).trans (by congr 1)
        · rename_i hq2; cases hq2
        · cases hk
      · cases hq
    · rcases hu with ⟨q', b, hq, _⟩ | ⟨b, _, rfl⟩
      · cases hq
      · split at hk
        · rename_i hq2; cases hq2
        · rename_i hun _
          exact key (a == b) (run_equalIn_bool' w d f.type a b hun)
        · cases hk

theorem flat_under {t : Nat} {ks : List (Option IntKind)} (h : flatB P t ks = true) : P.stoodInHeld t = false ∧ P.eqGuardType P.depth t = false ∧ P.underlying t = some (.struct (P.fieldsOf t)) ∧ flatF P 0 (P.fieldsOf t).toList ks = true := by
  simp only [flatB, Bool.and_eq_true, Bool.not_eq_true'] at h
  obtain ⟨⟨h1, h2⟩, h3⟩ := h
  split at h3
  · rename_i fs hu
    refine ⟨h1, h2, ?_, ?_⟩
    · simp [Program.fieldsOf, hu]
    · simpa [Program.fieldsOf, hu] using h3
  · cases h3

theorem run_eqFlat {t : Nat} {ks : List (Option IntKind)} (h : flatB P t ks = true) {xs ys : List Value} (hx : fitV ks xs = true) (hy : fitV ks ys = true) (d : Nat) (w : World) : (Op.equalIn (d + 2) t (.agg xs.toArray) (.agg ys.toArray)).run P w = .ok (eqL xs ys) w := by
  obtain ⟨h1, h2, h3, h4⟩ := flat_under h
  rw [run_equalIn_agg w (d + 1) t _ _ h3 h1]
  exact eqFields_flat d w _ ks 0 xs ys xs ys h4 hx hy rfl rfl

variable {ro : Cx} {n : Nat} {F : Fin} {w0 : World} {M : Nat → Prop} {k : List It} {ops : Array Oper} {rest : List Oper} {e : Env} {H Hq : List Ck}

theorem exec_eqFlat {a : Act} {d t t' : Nat} {x y : Operand} {xs ys : List Value} {ks : List (Option IntKind)} {ty : TypeId} {pos : String} {af : Array Edge} (hf : Fits n e a) (hx : opv e x = some (.agg xs.toArray)) (hy : opv e y = some (.agg ys.toArray)) (hF : flatB P t ks = true) (h1 : fitV ks xs = true) (h2 : fitV ks ys = true) (w : World) :
    (execOp a.eval ⟨some d, .binOp .eql t x y t', ty, pos, af, none⟩).run P w = .ok (.value (.bool (eqL xs ys))) w ∧ (execOp a.eval ⟨some d, .binOp .neq t x y t', ty, pos, af, none⟩).run P w = .ok (.value (.bool (!(eqL xs ys)))) w := by
  have e1 := hf.op hx
  have e2 := hf.op hy
  have h3 := run_eqFlat hF h1 h2 9998 w
  have hg := (flat_under hF).2.1
  constructor <;> simp [execOp, e1, e2, run_eqGuard_agg, hg, run_eql_struct, run_neq_struct, h3]
theorem ql_eqF (ks : List (Option IntKind)) {d t t' : Nat} {x y : Operand} {xs ys : List Value} {ty : TypeId} {pos : String} {af : Array Edge} (hF : flatB P t ks = true) (hx : opv e x = some (.agg xs.toArray)) (hy : opv e y = some (.agg ys.toArray)) (h1 : fitV ks xs = true) (h2 : fitV ks ys = true) (hd : Nat.blt d n = true)
    (h : QL P ro n F w0 M k ops rest ((d, .bool (eqL xs ys)) :: e) H) : QL P ro n F w0 M k ops (⟨some d, .binOp .eql t x y t', ty, pos, af, none⟩ :: rest) e H := .mk fun w hw =>
  yl_val (by simp) hd (fun _ hf => (exec_eqFlat hf hx hy hF h1 h2 w).1) (h.h w hw)
/-! Maps -/
/-- How keys of a type are compared: q says what Go's == does. -/
structure KeyT (P : Program) (kt : TypeId) (K : Value → Prop) (q : Value → Value → Bool) : Prop where
  chk : ∀ empty k w, K k → (Instr.checkKey empty 10000 kt k).run P w = .ok () w
  find : ∀ k es w, K k → (∀ x ∈ es, K x.key) → (Instr.findKey kt k es).run P w = .ok ((es.zipIdx.find? (fun p => q k p.1.key)).map (fun p => (p.2, p.1.val))) w
  eq : ∀ a b, K a → K b → q a b = true → a = b
  refl : ∀ a, K a → q a a = true
  bits : ∀ a, K a → Instr.sameBits 10000 a a = true

/-- A block is a map that is f. -/
def MapAt (w : World) (b : Nat) (K : Value → Prop) (q : Value → Value → Bool) (f : Value → Option Value) : Prop :=
  ∃ es clock, w.heap[b]? = some (.map es clock) ∧ (∀ x ∈ es.toList, K x.key) ∧ ∀ k, K k → (es.toList.find? (fun x => q k x.key)).map (·.val) = f k
def mpP (K : Value → Prop) (q : Value → Value → Bool) (b : Nat) (f : Value → Option Value) : Ck := .gn (· = b) (fun w => MapAt w b K q f)
  (fun _ _ _ ⟨es, clock, h1, h2⟩ hc hn => ⟨es, clock, (hc.block b (Array.getElem?_eq_some_iff.1 h1).1 (hn b rfl)).trans h1, h2⟩)

theorem find_zipIdx {α : Type} (p : α → Bool) : ∀ (l : List α) (i : Nat), (l.zipIdx i).find? (fun x => p x.1) = ((l.findIdx? p).bind fun j => (l[j]?).map fun a => (a, i + j))
  | [], i => by simp
  | a :: l, i => by
    rw [List.zipIdx_cons, List.find?_cons, List.findIdx?_cons]
    cases h : p a
    · rw [find_zipIdx p l (i + 1)]
      simp only [Option.bind_map]
      cases List.findIdx? p l with
      | none => simp
      | some j =>
        simp
        cases l[j]? with
        | none => simp
        | some b => simp; omega
    · simp

variable {K : Value → Prop} {q : Value → Value → Bool} {kt et mt : TypeId}

theorem run_mapLook {w : World} {b : Nat} {f : Value → Option Value} (hK : KeyT P kt K q) (ht : P.underlying mt = some (.map kt et)) {z : Value} (hz : (zeroValue et).run P w = .ok z w) (hm : MapAt w b K q f) {key : Value} (hk : K key) (ok : Bool) :
    (Instr.lookup mt (.map (some b)) key ok).run P w = .ok (if ok then .tuple #[(f key).getD z, .bool (f key).isSome] else (f key).getD z) w := by
  obtain ⟨es, clock, hb, hes, hf⟩ := hm
  have h1 := hK.find key es.toList w hk hes
  have h2 := hf key hk
  have h3 : ((es.toList.zipIdx.find? (fun p => q key p.1.key)).map (fun p => (p.2, p.1.val))).map (·.2) = f key := by
    rw [← h2, find_zipIdx (fun x : MapEntry => q key x.key), Option.map_map]
    rw [List.find?_eq_bind_findIdx?_getElem?]
    cases List.findIdx? (fun x : MapEntry => q key x.key) es.toList with
    | none => rfl
    | some j => simp only [Option.bind_some]; cases es.toList[j]? <;> rfl
  generalize (es.toList.zipIdx.find? (fun p => q key p.1.key)).map (fun p => (p.2, p.1.val)) = r at h1 h3
  have hg : (getObj b).run P w = .ok (.map es clock) w := by simp [getObj, Sem.run, hb]
  simp only [Instr.lookup, Sem.run_bind, run_underlying ht, Result.andThen_ok, hg, Sem.run_pure, hK.chk _ key w hk, h1]
  cases r with
  | none =>
    simp at h3
    rw [← h3]
    cases ok <;> simp [hz]
  | some p =>
    obtain ⟨i, v⟩ := p
    simp at h3
    rw [← h3]
    cases ok <;> simp

theorem find_mod0 (p : MapEntry → Bool) (g : MapEntry → MapEntry) : ∀ (l : List MapEntry) (i : Nat), (∀ e, l[i]? = some e → p e = false ∧ p (g e) = false) → (l.modify i g).find? p = l.find? p
  | [], i, _ => by simp
  | a :: l, 0, h => by
    have := h a rfl
    simp [List.modify_cons, List.find?_cons, this.1, this.2]
  | a :: l, i + 1, h => by
    have ih := find_mod0 p g l i (fun e he => h e (by simpa using he))
    simp [List.modify_cons, List.find?_cons, ih]
theorem find_mod1 (p : MapEntry → Bool) (g : MapEntry → MapEntry) : ∀ (l : List MapEntry) (i : Nat), l.findIdx? p = some i → (∀ e, l[i]? = some e → p (g e) = true) → (l.modify i g).find? p = (l[i]?).map g
  | [], i, h, _ => by simp at h
  | a :: l, i, h, hg => by
    rw [List.findIdx?_cons] at h
    cases ha : p a with
    | true =>
      rw [ha] at h
      simp at h
      subst h
      have := hg a rfl
      simp [List.modify_cons, List.find?_cons, this]
    | false =>
      rw [ha] at h
      simp at h
      obtain ⟨j, hj, rfl⟩ := h
      have ih := find_mod1 p g l j hj (fun e he => hg e (by simpa using he))
      simp [List.modify_cons, List.find?_cons, ha, ih]

theorem putObj_heap (w : World) (r : Nat) (o : Obj) (h : r < w.heap.size) : (w.putObj r o).heap[r]? = some o := World.putObj_heap_same h

theorem run_mapUpd {w : World} {b : Nat} {f : Value → Option Value} (hK : KeyT P kt K q) (ht : P.underlying mt = some (.map kt et)) (hm : MapAt w b K q f) {key v : Value} (hk : K key) :
    ∃ w', (Instr.mapUpdate mt (.map (some b)) key v).run P w = .ok () w' ∧ MapAt w' b K q (fun x => if q x key then some v else f x) ∧ Chg [b] w w' := by
  obtain ⟨es, clock, hb, hes, hf⟩ := hm
  have hlt : b < w.heap.size := (Array.getElem?_eq_some_iff.1 hb).1
  have h1 := hK.find key es.toList w hk hes
  have hg : (getObj b).run P w = .ok (.map es clock) w := by simp [getObj, Sem.run, hb]
  have hs : ∀ o, (setObj b o).run P w = .ok () (w.putObj b o) := fun o => by simp [setObj, Sem.run, World.putObj, hb]
  rw [find_zipIdx (fun x : MapEntry => q key x.key)] at h1
  have hfi : ∀ k, (es.toList.find? (fun x => q k x.key)) = (es.toList.findIdx? (fun x => q k x.key)).bind fun i => es.toList[i]? := fun k => List.find?_eq_bind_findIdx?_getElem?
  cases hi : es.toList.findIdx? (fun x => q key x.key) with
  | none =>
    rw [hi] at h1
    simp at h1
    refine ⟨w.putObj b (.map (es.push { key := key, val := v, born := clock }) (clock + 1)), ?_, ⟨es.push { key := key, val := v, born := clock }, clock + 1, putObj_heap w b _ hlt, ?_, fun k hk' => ?_⟩, putObj_chg w b _⟩
    · simp only [Instr.mapUpdate, Sem.run_bind, run_underlying ht, Result.andThen_ok, hg, hK.chk _ key w hk, h1, hs]
    · intro x hx
      rw [Array.toList_push, List.mem_append] at hx
      rcases hx with hx | hx
      · exact hes x hx
      · rw [List.mem_singleton.1 hx]; exact hk
    · rw [Array.toList_push, List.find?_append]
      by_cases hq : q k key = true
      · have := hK.eq k key hk' hk hq
        subst this
        rw [hfi, hi]
        simp [hq]
      · have hq' : q k key = false := by simpa using hq
        simp only [hq', if_false, Bool.false_eq_true]
        rw [← hf k hk']
        cases List.find? (fun x => q k x.key) es.toList <;> simp [hq']
  | some i =>
    have hi0 := hi
    rw [List.findIdx?_eq_some_iff_getElem] at hi
    obtain ⟨hlt2, hqi, _⟩ := hi
    have hki : es.toList[i].key = key := (hK.eq key _ hk (hes _ (List.getElem_mem hlt2)) hqi).symm
    rw [hi0] at h1
    simp only [Option.bind_some, List.getElem?_eq_getElem hlt2, Option.map_some] at h1
    have hki2 : ((es[i]?).map (·.key)).getD key = key := by
      rw [← Array.getElem?_toList, List.getElem?_eq_getElem hlt2]
      simpa using hki
    have hkeep : (Instr.keyThatStays (((es[i]?).map (·.key)).getD key) key).run P w = .ok key w := by
      rw [hki2]
      simp [Instr.keyThatStays, hK.bits key hk]
    refine ⟨w.putObj b (.map (es.modify i fun e => { e with key := key, val := v }) clock), ?_, ⟨es.modify i fun e => { e with key := key, val := v }, clock, putObj_heap w b _ hlt, ?_, fun k hk' => ?_⟩, putObj_chg w b _⟩
    · simp only [Instr.mapUpdate, Sem.run_bind, run_underlying ht, Result.andThen_ok, hg, hK.chk _ key w hk, h1, Nat.zero_add, hkeep, hs]
    · intro x hx
      rw [Array.toList_modify] at hx
      obtain ⟨j, hj, rfl⟩ := List.getElem_of_mem hx
      rw [List.getElem_modify]
      split
      · exact hk
      · exact hes _ (List.getElem_mem _)
    · rw [Array.toList_modify]
      by_cases hq : q k key = true
      · have := hK.eq k key hk' hk hq
        subst this
        rw [find_mod1 _ _ _ i hi0 (fun e _ => hq), List.getElem?_eq_getElem hlt2]
        simp [hq]
      · have hq' : q k key = false := by simpa using hq
        simp only [hq', if_false, Bool.false_eq_true]
        rw [find_mod0 _ _ _ i (fun e he => ?_), hf k hk']
        rw [List.getElem?_eq_getElem hlt2] at he
        cases he
        rw [hki]
        exact ⟨hq', hq'⟩
end
end Go.Eng

/- The engine, part B8: kinds of keys; the operations on maps. -/
namespace Go.Eng
open Go Go.RowKit

section
variable {P : Program} {T : Tab}

theorem lookI {e : Env} {t : Nat} {a b : Int} (hl : look e t = some (.int .i64 a)) (h : a = b) : look e t = some (.int .i64 b) := by rw [hl, h]

def eqV : Value → Value → Bool
  | .agg a, .agg b => eqL a.toList b.toList
  | .int _ a, .int _ b => decide (a = b)
  | _, _ => true
def keyF (ks : List (Option IntKind)) (v : Value) : Prop := ∃ xs : List Value, v = .agg xs.toArray ∧ fitV ks xs = true
def keyI (kd : IntKind) (v : Value) : Prop := ∃ a, v = .int kd a

theorem chk_fields (empty : Bool) (d : Nat) (w : World) : ∀ (fs : List Field) (ks : List (Option IntKind)) (o : Nat) (xs : List Value) (l : List Value), flatF P o fs ks = true → fitV ks l = true → xs.drop o = l →
    (forIn (m := Sem) fs PUnit.unit fun f _ => if f.name ≠ "_" then (do
        let v ← part f.type xs.toArray f.offset
        Instr.checkKey empty (d + 1) f.type v
        pure (ForInStep.yield PUnit.unit)) else pure (ForInStep.yield PUnit.unit)).run P w = .ok PUnit.unit w
  | [], [], o, xs, l, _, _, _ => by simp
  | [], _ :: _, _, _, _, h, _, _ => by simp [flatF] at h
  | _ :: _, [], _, _, _, h, _, _ => by simp [flatF] at h
  | f :: fs, k :: ks, o, xs, l, h, hl, ex => by
    simp only [flatF, Bool.and_eq_true] at h
    obtain ⟨⟨⟨⟨hn, ho⟩, h1⟩, hk⟩, hr⟩ := h
    have ho := Nat.eq_of_beq_eq_true ho
    have hn : f.name ≠ "_" := by simpa using hn
    obtain ⟨v, l', rfl, hl', hv⟩ := fitV_cons hl
    have gx : xs.toArray[f.offset]? = some v := by
      rw [ho]
      have := congrArg (fun z => z[0]?) ex
      simpa using this
    have dx : xs.drop (o + 1) = l' := by rw [← List.drop_drop, ex]; rfl
    have ih := chk_fields empty d w fs ks (o + 1) xs l' hr hl' dx
    have hc : (Instr.checkKey empty (d + 1) f.type v).run P w = .ok () w := by
      rcases hv with ⟨q, a, rfl, rfl⟩ | ⟨a, rfl, rfl⟩
      · split at hk
        · rename_i q1 q2 hun hq2
          simp [Instr.checkKey, run_underlying hun]
        · rename_i hq2; cases hq2
        · cases hk
      · split at hk
        · rename_i hq2; cases hq2
        · rename_i hun _
          simp [Instr.checkKey, run_underlying hun]
        · cases hk
    simp only [List.forIn_cons, Sem.run_bind, if_pos hn, run_part1 h1 gx, Result.andThen_ok, hc, Sem.run_pure]
    exact ih

theorem chk_agg {kt : TypeId} {ks : List (Option IntKind)} (hF : flatB P kt ks = true) {xs : List Value} (h : fitV ks xs = true) (empty : Bool) (d : Nat) (w : World) : (Instr.checkKey empty (d + 2) kt (.agg xs.toArray)).run P w = .ok () w := by
  obtain ⟨h1, h2, h3, h4⟩ := flat_under hF
  rw [Instr.checkKey]
  simp only [Sem.run_bind, run_underlying h3, Result.andThen_ok]
  rw [← Array.forIn_toList]
  rw [chk_fields empty d w _ ks 0 xs xs h4 h rfl]
  rfl
theorem chk_int {kt : TypeId} {kd : IntKind} (hu : P.underlying kt = some (.int kd)) (empty : Bool) (d : Nat) (a : Int) (w : World) : (Instr.checkKey empty (d + 1) kt (.int kd a)).run P w = .ok () w := by
  rw [Instr.checkKey]
  simp [run_underlying hu]
theorem bits_flat (d : Nat) : ∀ (ks : List (Option IntKind)) (l : List Value), fitV ks l = true → (l.zip l).all (fun p => Instr.sameBits d p.1 p.2) = true
  | [], [], _ => rfl
  | [], _ :: _, h => by simp [fitV] at h
  | k :: ks, l, h => by
    obtain ⟨v, m, rfl, hm, hv⟩ := fitV_cons h
    have ih := bits_flat d ks m hm
    simp only [List.zip_cons_cons, List.all_cons, ih, Bool.and_true]
    rcases hv with ⟨q, a, rfl, rfl⟩ | ⟨a, rfl, rfl⟩ <;> simp [Instr.sameBits]

theorem bits_agg (n : Nat) (a b : Array Value) : Instr.sameBits (n + 1) (.agg a) (.agg b) = (a.size == b.size && (a.toList.zip b.toList).all fun p => Instr.sameBits n p.1 p.2) := by
  rw [Instr.sameBits]
theorem bits_int (n : Nat) (k : IntKind) (a : Int) : Instr.sameBits n (.int k a) (.int k a) = true := by
  cases n <;> simp [Instr.sameBits]

theorem ask_find {kt : TypeId} {K : Value → Prop} {q : Value → Value → Bool} (w : World) (he : ∀ a b, K a → K b → (Op.equal kt a b).run P w = .ok (q a b) w) {k : Value} (hk : K k) : ∀ (es : List MapEntry) (i : Nat), (∀ x ∈ es, K x.key) →
    (Instr.findAsking kt k es i).run P w = .ok (((es.zipIdx i).find? (fun p => q k p.1.key)).map (fun p => (p.2, p.1.val))) w
  | [], i, _ => by simp [Instr.findAsking]
  | x :: es, i, h => by
    have ih := ask_find w he hk es (i + 1) (fun y hy => h y (List.mem_cons_of_mem _ hy))
    have h1 := he k x.key hk (h x List.mem_cons_self)
    rw [List.zipIdx_cons, List.find?_cons]
    simp only [Instr.findAsking, Sem.run_bind, h1, Result.andThen_ok]
    cases q k x.key
    · simpa using ih
    · simp

theorem keyT_flat {kt : TypeId} {ks : List (Option IntKind)} (hF : flatB P kt ks = true) : KeyT P kt (keyF ks) eqV where
  chk empty k w := by
    rintro ⟨xs, rfl, h⟩
    exact chk_agg hF h empty 9998 w
  find k es w hk hes := by
    have he : ∀ a b, keyF ks a → keyF ks b → (Op.equal kt a b).run P w = .ok (eqV a b) w := by
      rintro _ _ ⟨xs, rfl, hx⟩ ⟨ys, rfl, hy⟩
      exact run_eqFlat hF hx hy 9998 w
    obtain ⟨h1, h2, h3, h4⟩ := flat_under hF
    have h5 := ask_find w he hk es 0 hes
    simp only [Instr.findKey, Sem.run_bind, run_underlying h3, Result.andThen_ok]
    cases es with
    | nil => simp [Instr.findNow]
    | cons x es =>
      simp only [Instr.findNow, Instr.sameNow]
      exact h5
  eq := by
    rintro _ _ ⟨xs, rfl, hx⟩ ⟨ys, rfl, hy⟩ h
    rw [eqL_eq ks xs ys hx hy h]
  refl := by
    rintro _ ⟨xs, rfl, _⟩
    exact eqL_refl xs
  bits := by
    rintro _ ⟨xs, rfl, h⟩
    exact (bits_agg 9999 xs.toArray xs.toArray).trans (by simpa using bits_flat 9999 ks xs h)

theorem keyT_int {kt : TypeId} {kd : IntKind} (hu : P.underlying kt = some (.int kd)) : KeyT P kt (keyI kd) eqV where
  chk empty k w := by
    rintro ⟨a, rfl⟩
    exact chk_int hu empty 9999 a w
  find k es w hk hes := by
    obtain ⟨a, rfl⟩ := hk
    simp only [Instr.findKey, Sem.run_bind, run_underlying hu, Result.andThen_ok]
    have key : ∀ (es : List MapEntry) (i : Nat), (∀ x ∈ es, keyI kd x.key) → Instr.findNow (.int kd) (.int kd a) es i = some (((es.zipIdx i).find? (fun p => eqV (.int kd a) p.1.key)).map (fun p => (p.2, p.1.val))) := by
      intro es
      induction es with
      | nil => intro i _; rfl
      | cons x es ih =>
        intro i h
        obtain ⟨b, hb⟩ := h x List.mem_cons_self
        have ih' := ih (i + 1) (fun y hy => h y (List.mem_cons_of_mem _ hy))
        rw [List.zipIdx_cons, List.find?_cons]
        simp only [Instr.findNow, Instr.sameNow, hb, eqV, if_true]
        by_cases hab : a = b
        · simp [hab]
        · simp only [beq_eq_false_iff_ne.2 hab, decide_eq_false hab]
          exact ih'
    rw [key es 0 hes]
    simp
  eq := by
    rintro _ _ ⟨a, rfl⟩ ⟨b, rfl⟩ h
    rw [of_decide_eq_true h]
  refl := by
    rintro _ ⟨a, rfl⟩
    simp [eqV]
  bits := by
    rintro _ ⟨a, rfl⟩
    exact bits_int 10000 kd a

variable {ro : Cx} {n : Nat} {F : Fin} {w0 : World} {M : Nat → Prop} {k : List It} {ops : Array Oper} {rest : List Oper} {e : Env} {H Hq : List Ck}
variable {K : Value → Prop} {q : Value → Value → Bool} {kt et mt : TypeId}

theorem zero_run {t : TypeId} {z : Value} (h : ZeroOf P t z) (w : World) : (zeroValue t).run P w = .ok z w := by
  have h1 := h.h
  cases hi : P.info? t with
  | none => rw [hi] at h1; cases h1
  | some i =>
    rw [hi] at h1
    have hz : i.zero = some z := h1
    simp [zeroValue, typeInfo, hi, hz]

theorem ql_look {d b : Nat} {x ix : Operand} {f : Value → Option Value} {key z v : Value} {ty : TypeId} {pos : String} {af : Array Edge} (hK : KeyT P kt K q) (ht : P.underlying mt = some (.map kt et)) (hz : ZeroOf P et z)
    (hx : opv e x = some (.map (some b))) (hi : opv e ix = some key) (hd : Nat.blt d n = true) (hm : mpP K q b f ∈ H) (hk : K key) (hv : (f key).getD z = v)
    (h : QL P ro n F w0 M k ops rest ((d, v) :: e) H) : QL P ro n F w0 M k ops (⟨some d, .lookup mt x ix false, ty, pos, af, none⟩ :: rest) e H := .mk fun w hw =>
  yl_val (by simp) hd (fun a hf => by
    simp only [execOp, hf.op hx, hf.op hi]
    simp [run_mapLook hK ht (zero_run hz w) (hw.mem hm) hk, hv]) (h.h w hw)
theorem Sat.mapUpd {w w' : World} {b : Nat} {f f' : Value → Option Value} {H' : List Ck} (hs : Sat w0 M H w) (hr : Rp H (mpP K q b f) (mpP K q b f') H') (hc : Chg [b] w w') (hm : MapAt w' b K q f') : Sat w0 M H' w' := by
  refine hs.rep hr hc (fun x hx => (by simpa using hx : x = b)) hm (fun x hx => ?_)
  have hx' : x = b := hx
  subst hx'
  obtain ⟨es, clock, h1, _⟩ := hm
  exact ⟨.inl rfl, (Array.getElem?_eq_some_iff.1 h1).1⟩
theorem ql_mapUpd {b : Nat} {x ix y : Operand} {f : Value → Option Value} {key v : Value} {H' : List Ck} {ty : TypeId} {pos : String} {af : Array Edge} (hK : KeyT P kt K q) (ht : P.underlying mt = some (.map kt et))
    (hx : opv e x = some (.map (some b))) (hi : opv e ix = some key) (hy : opv e y = some v) (hk : K key) (hr : Rp H (mpP K q b f) (mpP K q b (fun x => if q x key then some v else f x)) H')
    (h : QL P ro n F w0 M k ops rest e H') : QL P ro n F w0 M k ops (⟨none, .mapUpdate mt x ix y, ty, pos, af, none⟩ :: rest) e H := .mk fun w hw => by
  obtain ⟨w', hrun, hm, hc⟩ := run_mapUpd hK ht (hw.mem hr.mem) hk (v := v)
  refine yl_do (w' := w') (by simp) (fun a hf => ?_) (h.h w' (hw.mapUpd hr hc hm))
  simp only [execOp, hf.op hx, hf.op hi, hf.op hy]
  simp [hrun]
theorem run_mkMap (t : TypeId) (w : World) : (Instr.makeMap t none).run P w = .ok (.map (some w.heap.size)) (w.alloc (.map #[] 0)) := rfl
theorem mk_mapAt (w : World) : MapAt (w.alloc (.map #[] 0)) w.heap.size K q (fun _ => none) := ⟨#[], 0, by show (w.heap.push _)[w.heap.size]? = _; simp, by simp, fun _ _ => rfl⟩
theorem mk_mapD (w : World) : ∀ b, (mpP K q w.heap.size (fun _ => none)).D b → w.heap.size ≤ b ∧ b < (w.alloc (.map #[] 0)).heap.size := fun x hx => by
  have hx' : x = w.heap.size := hx
  subst hx'
  simp
theorem ql_makeMap (K : Value → Prop) (q : Value → Value → Bool) {d : Nat} {t : TypeId} {ty : TypeId} {pos : String} {af : Array Edge} (hd : Nat.blt d n = true)
    (h : ∀ b, QL P ro n F w0 M k ops rest ((d, .map (some b)) :: e) (mpP K q b (fun _ => none) :: H)) : QL P ro n F w0 M k ops (⟨some d, .makeMap t none, ty, pos, af, none⟩ :: rest) e H := .mk fun w hs => by
  refine yl_val (w' := w.alloc (.map #[] 0)) (by simp) hd (fun a hf => ?_) ((h w.heap.size).h _ (hs.add (alloc_chg _ _) (mk_mapAt w) (mk_mapD w)))
  simp only [execOp]
  simp [run_mkMap]
/-! An empty list that is not nil. -/
theorem run_mkS0 {t et : Nat} (hu : P.underlying t = some (.slice et)) (hi : (P.info? et).isSome = true) (w : World) : (Instr.buildSlice t 0 #[]).run P w = .ok (.slice (some ⟨w.heap.size, 0, none⟩) 0 0) (w.alloc (.cells #[] et)) := by
  cases h : P.info? et with
  | none => rw [h] at hi; cases hi
  | some i =>
    have e0 : (Array.range 0) = #[] := rfl
    simp [Instr.buildSlice, run_underlying hu, sizeOf, typeInfo, h, Instr.fill, newRow, e0]
theorem ql_mkS0 (et : Nat) {d t : Nat} {ty : TypeId} {pos : String} {af : Array Edge} (hu : P.underlying t = some (.slice et)) (hi : (P.info? et).isSome = true) (hd : Nat.blt d n = true)
    (h : ∀ b, QL P ro n F w0 M k ops rest ((d, .slice (some ⟨b, 0, none⟩) 0 0) :: e) (.ow (.slice (some ⟨b, 0, none⟩) 0 0) et 1 0 [] :: H)) : QL P ro n F w0 M k ops (⟨some d, .buildSlice t 0 #[], ty, pos, af, none⟩ :: rest) e H := .mk fun w hs => by
  refine yl_val (w' := w.alloc (.cells #[] et)) (by simp) hd (fun a hf => ?_) ((h w.heap.size).h _ (Sat.pt_ow (m := 0) rfl (by omega) (hs.addPt (alloc_chg _ _) (by simp) (alloc_blk w _ _))))
  simp only [execOp]
  simp [run_mkS0 hu hi]
theorem RdI.row {w : World} {lo hi : Nat} {v : Value} {l : List Int} (h : RdI w lo hi v l) : Rd w lo hi v 1 l.length (ints l) := by
  have := h.rd
  rw [cellsOf_one _ (by simp [oneV])] at this
  simpa using this
end
end Go.Eng

/- The engine, part B9: maps that were there before. -/
namespace Go.Eng
open Go Go.RowKit

section
variable {P : Program} {T : Tab}
variable {ro : Cx} {n : Nat} {F : Fin} {w0 : World} {M : Nat → Prop} {k : List It} {ops : Array Oper} {rest : List Oper} {e : Env} {H Hq : List Ck}
variable {K : Value → Prop} {q : Value → Value → Bool} {kt et mt : TypeId}

theorem MapAt.keep {w w' : World} {b : Nat} {f : Value → Option Value} (h : MapAt w b K q f) (c : Chg [] w w') : MapAt w' b K q f := by
  obtain ⟨es, clock, h1, h2⟩ := h
  exact ⟨es, clock, (c.block b (Array.getElem?_eq_some_iff.1 h1).1 (by simp)).trans h1, h2⟩
theorem MapAt.congr {w : World} {b : Nat} {f g : Value → Option Value} (h : MapAt w b K q f) (he : ∀ k, K k → f k = g k) : MapAt w b K q g := by
  obtain ⟨es, clock, h1, h2, h3⟩ := h
  exact ⟨es, clock, h1, h2, fun k hk => (h3 k hk).trans (he k hk)⟩
theorem Sat.turn {w : World} {c c' : Ck} {R : List Ck} (h : Sat w0 M (c :: R) w) (hD : ∀ b, c'.D b → c.D b) (hp : c.p w → c'.p w) : Sat w0 M (c' :: R) w :=
  h.rep .z (Chg.refl [] w) (by simp) (hp (h.all _ List.mem_cons_self)) (fun b hb => ⟨.inl (hD b hb), (h.bd _ List.mem_cons_self b (hD b hb)).1⟩)
end
end Go.Eng

/- The engine, part B10: a region that draws its order, in which some operations that act may stand in any order: one walk for each such order. -/
namespace Go.Eng
open Go Go.RowKit

section
variable {P : Program} {ops : Array Oper} {C : World → Prop} {K : Act → World → Prop}

theorem apart_symm {x y : Oper} (h : x.apart ops y = true) : y.apart ops x = true := by
  obtain ⟨h1, h2, h3⟩ := Oper.apart_spec h
  simp only [Oper.apart, Bool.and_eq_true]
  constructor
  · cases hy : y.dst with
    | none => rfl
    | some d =>
      simp only [Bool.and_eq_true, Bool.not_eq_true', bne_iff_ne, ne_eq]
      refine ⟨?_, fun hx => h2 d hx hy⟩
      have := h3 d hy
      simpa using this
  · cases hx : x.dst with
    | none => rfl
    | some d =>
      have := h1 d hx
      simpa using this

/-- Each operation against all others. -/
def pairsB (ops : Array Oper) (ms : List Nat) : Bool := (List.range ops.size).all fun j => match ops[j]? with
  | none => true
  | some oj => (kindOk oj.op && oj.after.all (fun e => Nat.blt e.on ops.size)) && (List.range j).all fun i => match ops[i]? with
    | none => true
    | some oi => (ms.getD j 0).testBit i || oi.apart ops oj
structure FlM (ops : Array Oper) : Prop where
  kind : ∀ (j : Nat) o, ops[j]? = some o → kindOk o.op = true
  edge : ∀ (j : Nat) o, ops[j]? = some o → ∀ e ∈ o.after, Region.binds .any e = true → ¬ e.on < ops.size → False
  pair : ∀ (i j : Nat) oi oj, i ≠ j → ops[i]? = some oi → ops[j]? = some oj → ((masks ops.toList).getD j 0).testBit i = true ∨ ((masks ops.toList).getD i 0).testBit j = true ∨ oi.apart ops oj = true
theorem pairsB_spec (h : pairsB ops (masks ops.toList) = true) : FlM ops := by
  have hj : ∀ (j : Nat) oj, ops[j]? = some oj → (kindOk oj.op = true ∧ (oj.after.all (fun e => Nat.blt e.on ops.size)) = true) ∧ ∀ i oi, i < j → ops[i]? = some oi → ((masks ops.toList).getD j 0).testBit i = true ∨ oi.apart ops oj = true := by
    intro j oj hoj
    have h1 := List.all_eq_true.1 h j (List.mem_range.2 (Array.getElem?_eq_some_iff.1 hoj).1)
    simp only [hoj, Bool.and_eq_true] at h1
    refine ⟨⟨h1.1.1, h1.1.2⟩, fun i oi hi hoi => ?_⟩
    have h2 := List.all_eq_true.1 h1.2 i (List.mem_range.2 hi)
    simpa only [hoi, Bool.or_eq_true] using h2
  refine ⟨fun j o ho => (hj j o ho).1.1, fun j o ho e he _ hn => hn (by have := Array.all_eq_true'.1 (hj j o ho).1.2 e he; simpa [Nat.blt_eq] using this), fun i j oi oj hij hoi hoj => ?_⟩
  rcases Nat.lt_or_gt_of_ne hij with h1 | h1
  · rcases (hj j oj hoj).2 i oi h1 hoi with h2 | h2
    · exact .inl h2
    · exact .inr (.inr h2)
  · rcases (hj i oi hoi).2 j oj h1 hoj with h2 | h2
    · exact .inr (.inl h2)
    · exact .inr (.inr (apart_symm h2))

/-- Orders: alternatives share what stands ahead. -/
inductive OT where
  | nil
  | op (i : Nat) (t : OT)
  | alt (t u : OT)
def wpT (P : Program) (ops : Array Oper) (C : World → Prop) (K : Act → World → Prop) : OT → Act → World → Prop
  | .nil, a, w => K a w
  | .op i t, a, w => match ops[i]? with
    | none => False
    | some o => if Region.wanted o (yielded ops a.tmps) = true then
        (if eff o.op = true then effStep P o a w (fun v w' => C w' ∧ wpT P ops C K t (a.put o.dst v) w')
         else ∃ v, (∀ w', C w' → (execOp a.eval o).run P w' = .ok (.value v) w') ∧ wpT P ops C K t (a.put o.dst v) w)
      else wpT P ops C K t (a.put o.dst undef) w
  | .alt t u, a, w => wpT P ops C K t a w ∧ wpT P ops C K u a w
def OT.del (j : Nat) : OT → OT
  | .nil => .nil
  | .op i t => if i = j then t else .op i (t.del j)
  | .alt t u => .alt (t.del j) (u.del j)
def isEff (ops : Array Oper) (i : Nat) : Bool := match ops[i]? with | some o => eff o.op | none => false
def OT.take (ops : Array Oper) (j : Nat) : OT → Option OT
  | .nil => none
  | .op i t => if i = j then some t else if isEff ops i = true then none else (t.take ops j).map (.op i)
  | .alt t u => match t.take ops j with | some x => some x | none => u.take ops j
def effsT (ops : Array Oper) : OT → List Nat
  | .nil => []
  | .op i t => if isEff ops i = true then i :: effsT ops t else effsT ops t
  | .alt t _ => effsT ops t
def covT (ops : Array Oper) (ms : List Nat) : Nat → OT → Bool
  | 0, t => (effsT ops t).isEmpty
  | n + 1, t => (effsT ops t).all fun j => (effsT ops t).any (fun i => (ms.getD j 0).testBit i) || (match t.take ops j with | some t' => covT ops ms n t' | none => false)
def OkT (ops : Array Oper) : OT → List Nat → Prop
  | .nil, rem => rem = []
  | .op i t, rem => (∃ o, ops[i]? = some o ∧ ∀ e ∈ o.after, Region.binds .any e = true → e.on ∉ rem) ∧ i ∈ rem ∧ (∀ b ∈ rem, ((masks ops.toList).getD i 0).testBit b = false) ∧ OkT ops t (rem.erase i)
  | .alt t u, rem => OkT ops t rem ∧ OkT ops u rem
def okT (ops : Array Oper) (ms : List Nat) : OT → List Nat → Bool
  | .nil, rem => rem.isEmpty
  | .op i t, rem => (match ops[i]? with | none => false | some o => o.after.all fun e => !(Region.binds .any e) || !(rem.contains e.on)) && rem.contains i && rem.all (fun b => !((ms.getD i 0).testBit b)) && okT ops ms t (rem.erase i)
  | .alt t u, rem => okT ops ms t rem && okT ops ms u rem
theorem okT_spec : ∀ (t : OT) (rem : List Nat), okT ops (masks ops.toList) t rem = true → OkT ops t rem
  | .nil, rem, h => by simpa [okT, OkT] using h
  | .op i t, rem, h => by
    simp only [okT, Bool.and_eq_true] at h
    obtain ⟨⟨⟨h1, h2⟩, h3⟩, h4⟩ := h
    refine ⟨?_, by simpa using h2, fun b hb => by simpa using List.all_eq_true.1 h3 b hb, okT_spec t _ h4⟩
    cases ho : ops[i]? with
    | none => rw [ho] at h1; cases h1
    | some o =>
      rw [ho] at h1
      refine ⟨o, rfl, fun e he hb => ?_⟩
      have := Array.all_eq_true'.1 h1 e he
      simp only [hb, Bool.not_true, Bool.false_or, Bool.not_eq_true'] at this
      simpa using this
  | .alt t u, rem, h => by
    simp only [okT, Bool.and_eq_true] at h
    exact ⟨okT_spec t rem h.1, okT_spec u rem h.2⟩

theorem del_ok {j : Nat} : ∀ (t : OT) (rem : List Nat), rem.Nodup → OkT ops t rem → j ∈ rem → OkT ops (t.del j) (rem.erase j)
  | .nil, rem, _, h, hj => by
    have : rem = [] := h
    subst this
    cases hj
  | .op i t, rem, hn, ⟨⟨o, h1, h1'⟩, h2, h3, h4⟩, hj => by
    unfold OT.del
    split
    · rename_i hij
      subst hij
      exact h4
    · rename_i hij
      refine ⟨⟨o, h1, fun e he hb hm => h1' e he hb (List.mem_of_mem_erase hm)⟩, (List.mem_erase_of_ne hij).2 h2, fun b hb => h3 b (List.mem_of_mem_erase hb), ?_⟩
      rw [List.erase_comm]
      exact del_ok t _ (hn.erase i) h4 ((List.mem_erase_of_ne (fun h => hij h.symm)).2 hj)
  | .alt t u, rem, hn, ⟨h1, h2⟩, hj => ⟨del_ok t rem hn h1 hj, del_ok u rem hn h2 hj⟩
theorem take_ok {j : Nat} : ∀ (t t' : OT) (rem : List Nat), rem.Nodup → OkT ops t rem → j ∈ rem → t.take ops j = some t' → OkT ops t' (rem.erase j)
  | .nil, _, _, _, _, _, h => by simp [OT.take] at h
  | .op i t, t', rem, hn, ⟨⟨o, h1, h1'⟩, h2, h3, h4⟩, hj, h => by
    unfold OT.take at h
    split at h
    · rename_i hij
      subst hij
      cases h
      exact h4
    · rename_i hij
      split at h
      · cases h
      · cases hx : t.take ops j with
        | none => rw [hx] at h; cases h
        | some x =>
          rw [hx] at h
          cases h
          refine ⟨⟨o, h1, fun e he hb hm => h1' e he hb (List.mem_of_mem_erase hm)⟩, (List.mem_erase_of_ne hij).2 h2, fun b hb => h3 b (List.mem_of_mem_erase hb), ?_⟩
          rw [List.erase_comm]
          exact take_ok t x _ (hn.erase i) h4 ((List.mem_erase_of_ne (fun h => hij h.symm)).2 hj) hx
  | .alt t u, t', rem, hn, ⟨h1, h2⟩, hj, h => by
    unfold OT.take at h
    split at h
    · rename_i x hx
      cases h
      exact take_ok t _ rem hn h1 hj hx
    · exact take_ok u t' rem hn h2 hj h
theorem take_del {j q : Nat} (hq : isEff ops q = false) (hj : isEff ops j = true) : ∀ t : OT, (t.del q).take ops j = (t.take ops j).map (OT.del q)
  | .nil => rfl
  | .op i t => by
    have hjq : j ≠ q := fun h => by rw [h, hq] at hj; cases hj
    by_cases hiq : i = q
    · subst hiq
      have e1 : (OT.op i t).del i = t := by simp [OT.del]
      rw [e1]
      simp only [OT.take, if_neg (fun h : i = j => hjq h.symm), hq, Bool.false_eq_true, if_false]
      cases t.take ops j with
      | none => rfl
      | some x => simp [OT.del]
    · have e1 : (OT.op i t).del q = .op i (t.del q) := by simp [OT.del, hiq]
      rw [e1]
      simp only [OT.take]
      split
      · rfl
      · split
        · rfl
        · rw [take_del hq hj t]
          cases t.take ops j with
          | none => rfl
          | some x => simp [OT.del, hiq]
  | .alt t u => by
    simp only [OT.del, OT.take, take_del hq hj t, take_del hq hj u]
    cases t.take ops j with
    | none => rfl
    | some x => rfl
theorem effs_del {q : Nat} (hq : isEff ops q = false) : ∀ t : OT, effsT ops (t.del q) = effsT ops t
  | .nil => rfl
  | .op i t => by
    unfold OT.del
    split
    · rename_i h
      subst h
      simp [effsT, hq]
    · simp only [effsT, effs_del hq t]
  | .alt t _ => by simp only [OT.del, effsT, effs_del hq t]
theorem effs_eff : ∀ (t : OT) (j : Nat), j ∈ effsT ops t → isEff ops j = true
  | .nil, j, h => by simp [effsT] at h
  | .op i t, j, h => by
    unfold effsT at h
    split at h
    · rename_i hi
      rcases List.mem_cons.1 h with rfl | h
      · exact hi
      · exact effs_eff t j h
    · exact effs_eff t j h
  | .alt t _, j, h => effs_eff t j h
theorem effs_rem : ∀ (t : OT) (rem : List Nat), OkT ops t rem → (∀ j, j ∈ effsT ops t → j ∈ rem) ∧ ∀ j, j ∈ rem → isEff ops j = true → j ∈ effsT ops t
  | .nil, rem, h => by
    have : rem = [] := h
    subst this
    exact ⟨fun j h => by simp [effsT] at h, fun j h => by cases h⟩
  | .op i t, rem, ⟨_, h2, _, h4⟩ => by
    obtain ⟨ih1, ih2⟩ := effs_rem t _ h4
    unfold effsT
    constructor
    · intro j hj
      split at hj
      · rcases List.mem_cons.1 hj with rfl | hj
        · exact h2
        · exact List.mem_of_mem_erase (ih1 j hj)
      · exact List.mem_of_mem_erase (ih1 j hj)
    · intro j hj he
      by_cases hij : j = i
      · subst hij
        rw [if_pos he]
        exact List.mem_cons_self
      · have := ih2 j ((List.mem_erase_of_ne hij).2 hj) he
        split
        · exact List.mem_cons_of_mem _ this
        · exact this
  | .alt t _, rem, ⟨h, _⟩ => effs_rem t rem h
theorem cov_del {q : Nat} (hq : isEff ops q = false) (ms : List Nat) : ∀ (n : Nat) (t : OT), covT ops ms n t = true → covT ops ms n (t.del q) = true
  | 0, t, h => by simpa [covT, effs_del hq] using h
  | n + 1, t, h => by
    simp only [covT, effs_del hq, List.all_eq_true] at h ⊢
    intro j hj
    have h1 := h j hj
    rw [Bool.or_eq_true] at h1 ⊢
    rcases h1 with h1 | h1
    · exact .inl h1
    · refine .inr ?_
      rw [take_del hq (effs_eff t j hj)]
      cases hx : t.take ops j with
      | none => rw [hx] at h1; cases h1
      | some x =>
        rw [hx] at h1
        exact cov_del hq ms n x h1

theorem pair_apart (hF : FlM ops) {i j : Nat} {oi oj : Oper} (hij : i ≠ j) (hi : ops[i]? = some oi) (hj : ops[j]? = some oj) (h1 : ((masks ops.toList).getD j 0).testBit i = false) (h2 : ((masks ops.toList).getD i 0).testBit j = false) : oi.apart ops oj = true := by
  rcases hF.pair i j oi oj hij hi hj with h | h | h
  · rw [h1] at h; cases h
  · rw [h2] at h; cases h
  · exact h

theorem swapT_quiet (hF : FlM ops) {j : Nat} {oj : Oper} (hj : ops[j]? = some oj) (hne : eff oj.op = false) : ∀ (t : OT) (rem : List Nat) (a : Act) (w : World), rem.Nodup → OkT ops t rem → j ∈ rem → (∀ i ∈ rem, ((masks ops.toList).getD j 0).testBit i = false) →
    Region.wanted oj (yielded ops a.tmps) = true → C w → wpT P ops C K t a w → ∃ v, (∀ w', C w' → (execOp a.eval oj).run P w' = .ok (.value v) w') ∧ wpT P ops C K (t.del j) (a.put oj.dst v) w
  | .nil, rem, a, w, hn, hok, hjr, hm, hw, hC, h => by
    have : rem = [] := hok
    subst this
    cases hjr
  | .alt t u, rem, a, w, hn, ⟨o1, o2⟩, hjr, hm, hw, hC, ⟨h1, h2⟩ => by
    obtain ⟨v, hv, h3⟩ := swapT_quiet hF hj hne t rem a w hn o1 hjr hm hw hC h1
    obtain ⟨v', hv', h4⟩ := swapT_quiet hF hj hne u rem a w hn o2 hjr hm hw hC h2
    have e1 := hv w hC
    have e2 := hv' w hC
    rw [e1] at e2
    have : v = v' := by simpa using e2
    subst this
    exact ⟨v, hv, h3, h4⟩
  | .op i t, rem, a, w, hn, ⟨⟨oi, hi, _⟩, hir, him, hok⟩, hjr, hm, hw, hC, h => by
    by_cases hij : i = j
    · subst hij
      rw [hj] at hi
      obtain rfl := Option.some.inj hi
      simp only [wpT, hj, hw, if_true, hne, Bool.false_eq_true, if_false] at h
      simpa [OT.del] using h
    · have hji : j ∈ rem.erase i := (List.mem_erase_of_ne (fun h => hij h.symm)).2 hjr
      have ih' := fun a w => swapT_quiet hF hj hne t (rem.erase i) a w (hn.erase i) hok hji (fun b hb => hm b (List.mem_of_mem_erase hb))
      have hap := pair_apart hF hij hi hj (hm i hir) (him j hjr)
      obtain ⟨p1, p2, p3⟩ := Oper.apart_spec hap
      have kj := hF.kind j oj hj
      have ki := hF.kind i oi hi
      have ej : ∀ (a : Act) v, execOp (a.put oi.dst v).eval oj = execOp a.eval oj := fun a v => exec_put kj a oi.dst v p1
      have ei : ∀ (a : Act) v, execOp (a.put oj.dst v).eval oi = execOp a.eval oi := fun a v => exec_put ki a oj.dst v p3
      have wj : ∀ (a : Act) v, Region.wanted oj (yielded ops (a.put oi.dst v).tmps) = Region.wanted oj (yielded ops a.tmps) := fun a v => wanted_put oj a oi.dst v p1
      have wi : ∀ (a : Act) v, Region.wanted oi (yielded ops (a.put oj.dst v).tmps) = Region.wanted oi (yielded ops a.tmps) := fun a v => wanted_put oi a oj.dst v p3
      have cm : ∀ (a : Act) u v, (a.put oi.dst u).put oj.dst v = (a.put oj.dst v).put oi.dst u := fun a u v => Act.put_comm a u v p2
      have ed : (OT.op i t).del j = .op i (t.del j) := by simp [OT.del, hij]
      rw [ed]
      simp only [wpT, hi] at h ⊢
      by_cases hwi : Region.wanted oi (yielded ops a.tmps) = true
      · simp only [hwi, if_true] at h
        by_cases he : eff oi.op = true
        · simp only [he, if_true] at h
          obtain ⟨v0, w0, hC0, h0⟩ := h.some
          obtain ⟨v, hv, _⟩ := ih' _ w0 (by rw [wj]; exact hw) hC0 h0
          simp only [ej] at hv
          refine ⟨v, hv, ?_⟩
          rw [wi]
          simp only [hwi, if_true, he]
          have h1 : effStep P oi (a.put oj.dst v) w (fun u w' => C w' ∧ wpT P ops C K t (a.put oi.dst u) w') := by
            unfold effStep at h ⊢
            rw [ei]
            exact h
          refine h1.mono fun u w' ⟨hC', h2⟩ => ⟨hC', ?_⟩
          obtain ⟨v', hv', h3⟩ := ih' _ w' (by rw [wj]; exact hw) hC' h2
          simp only [ej] at hv'
          have e1 := hv w hC
          have e2 := hv' w hC
          rw [e1] at e2
          have : v = v' := by simpa using e2
          subst this
          rw [cm] at h3
          exact h3
        · simp only [he] at h
          obtain ⟨u, hu, h⟩ := h
          obtain ⟨v, hv, h3⟩ := ih' _ w (by rw [wj]; exact hw) hC h
          simp only [ej] at hv
          refine ⟨v, hv, ?_⟩
          rw [wi]
          simp only [hwi, if_true, he]
          refine ⟨u, fun w' hC' => by rw [ei]; exact hu w' hC', ?_⟩
          rw [cm] at h3
          exact h3
      · simp only [hwi] at h
        obtain ⟨v, hv, h3⟩ := ih' _ w (by rw [wj]; exact hw) hC h
        simp only [ej] at hv
        refine ⟨v, hv, ?_⟩
        rw [wi]
        simp only [hwi]
        rw [cm] at h3
        exact h3

theorem swapT_skip (hF : FlM ops) {j : Nat} {oj : Oper} (hj : ops[j]? = some oj) : ∀ (t : OT) (rem : List Nat) (a : Act) (w : World), rem.Nodup → OkT ops t rem → j ∈ rem → (∀ i ∈ rem, ((masks ops.toList).getD j 0).testBit i = false) →
    Region.wanted oj (yielded ops a.tmps) = false → wpT P ops C K t a w → wpT P ops C K (t.del j) (a.put oj.dst undef) w
  | .nil, rem, a, w, hn, hok, hjr, hm, hw, h => by
    have : rem = [] := hok
    subst this
    cases hjr
  | .alt t u, rem, a, w, hn, ⟨o1, o2⟩, hjr, hm, hw, ⟨h1, h2⟩ => ⟨swapT_skip hF hj t rem a w hn o1 hjr hm hw h1, swapT_skip hF hj u rem a w hn o2 hjr hm hw h2⟩
  | .op i t, rem, a, w, hn, ⟨⟨oi, hi, _⟩, hir, him, hok⟩, hjr, hm, hw, h => by
    by_cases hij : i = j
    · subst hij
      rw [hj] at hi
      obtain rfl := Option.some.inj hi
      simp only [wpT, hj, hw, Bool.false_eq_true, if_false] at h
      simpa [OT.del] using h
    · have hji : j ∈ rem.erase i := (List.mem_erase_of_ne (fun h => hij h.symm)).2 hjr
      have ih' := fun a w => swapT_skip hF hj t (rem.erase i) a w (hn.erase i) hok hji (fun b hb => hm b (List.mem_of_mem_erase hb))
      have hap := pair_apart hF hij hi hj (hm i hir) (him j hjr)
      obtain ⟨p1, p2, p3⟩ := Oper.apart_spec hap
      have ki := hF.kind i oi hi
      have ei : ∀ (a : Act) v, execOp (a.put oj.dst v).eval oi = execOp a.eval oi := fun a v => exec_put ki a oj.dst v p3
      have wj : ∀ (a : Act) v, Region.wanted oj (yielded ops (a.put oi.dst v).tmps) = Region.wanted oj (yielded ops a.tmps) := fun a v => wanted_put oj a oi.dst v p1
      have wi : ∀ (a : Act) v, Region.wanted oi (yielded ops (a.put oj.dst v).tmps) = Region.wanted oi (yielded ops a.tmps) := fun a v => wanted_put oi a oj.dst v p3
      have cm : ∀ (a : Act) u v, (a.put oi.dst u).put oj.dst v = (a.put oj.dst v).put oi.dst u := fun a u v => Act.put_comm a u v p2
      have ed : (OT.op i t).del j = .op i (t.del j) := by simp [OT.del, hij]
      rw [ed]
      simp only [wpT, hi] at h ⊢
      rw [wi]
      by_cases hwi : Region.wanted oi (yielded ops a.tmps) = true
      · simp only [hwi, if_true] at h ⊢
        by_cases he : eff oi.op = true
        · simp only [he, if_true] at h ⊢
          have h1 : effStep P oi (a.put oj.dst undef) w (fun u w' => C w' ∧ wpT P ops C K t (a.put oi.dst u) w') := by
            unfold effStep at h ⊢
            rw [ei]
            exact h
          refine h1.mono fun u w' ⟨hC', h2⟩ => ⟨hC', ?_⟩
          have h3 := ih' _ w' (by rw [wj]; exact hw) h2
          rw [cm] at h3
          exact h3
        · simp only [he] at h ⊢
          obtain ⟨u, hu, h⟩ := h
          have h3 := ih' _ w (by rw [wj]; exact hw) h
          refine ⟨u, fun w' hC' => by rw [ei]; exact hu w' hC', ?_⟩
          rw [cm] at h3
          exact h3
      · simp only [hwi] at h ⊢
        have h3 := ih' _ w (by rw [wj]; exact hw) h
        rw [cm] at h3
        exact h3

theorem swapT_eff (hF : FlM ops) {j : Nat} {oj : Oper} (hj : ops[j]? = some oj) (he : eff oj.op = true) : ∀ (t t' : OT) (rem : List Nat) (a : Act) (w : World), rem.Nodup → OkT ops t rem → j ∈ rem → (∀ i ∈ rem, ((masks ops.toList).getD j 0).testBit i = false) →
    Region.wanted oj (yielded ops a.tmps) = true → t.take ops j = some t' → wpT P ops C K t a w → effStep P oj a w (fun v w' => C w' ∧ wpT P ops C K t' (a.put oj.dst v) w')
  | .nil, _, _, _, _, _, _, _, _, _, ht, _ => by simp [OT.take] at ht
  | .alt t u, t', rem, a, w, hn, ⟨o1, o2⟩, hjr, hm, hw, ht, ⟨h1, h2⟩ => by
    unfold OT.take at ht
    split at ht
    · rename_i x hx
      cases ht
      exact swapT_eff hF hj he t _ rem a w hn o1 hjr hm hw hx h1
    · exact swapT_eff hF hj he u t' rem a w hn o2 hjr hm hw ht h2
  | .op i t, t', rem, a, w, hn, ⟨⟨oi, hi, _⟩, hir, him, hok⟩, hjr, hm, hw, ht, h => by
    unfold OT.take at ht
    split at ht
    · rename_i hij
      subst hij
      cases ht
      rw [hj] at hi
      obtain rfl := Option.some.inj hi
      simp only [wpT, hj, hw, if_true, he] at h
      exact h
    · rename_i hij
      split at ht
      · cases ht
      · rename_i hei0
        have hei : eff oi.op = false := by simpa [isEff, hi] using hei0
        cases hx : t.take ops j with
        | none => rw [hx] at ht; cases ht
        | some x =>
          rw [hx] at ht
          cases ht
          have hji : j ∈ rem.erase i := (List.mem_erase_of_ne (fun h => hij h.symm)).2 hjr
          have ih' := fun a w => swapT_eff hF hj he t x (rem.erase i) a w (hn.erase i) hok hji (fun b hb => hm b (List.mem_of_mem_erase hb))
          have hap := pair_apart hF hij hi hj (hm i hir) (him j hjr)
          obtain ⟨p1, p2, p3⟩ := Oper.apart_spec hap
          have kj := hF.kind j oj hj
          have ki := hF.kind i oi hi
          have ej : ∀ (a : Act) v, execOp (a.put oi.dst v).eval oj = execOp a.eval oj := fun a v => exec_put kj a oi.dst v p1
          have ei : ∀ (a : Act) v, execOp (a.put oj.dst v).eval oi = execOp a.eval oi := fun a v => exec_put ki a oj.dst v p3
          have wj : ∀ (a : Act) v, Region.wanted oj (yielded ops (a.put oi.dst v).tmps) = Region.wanted oj (yielded ops a.tmps) := fun a v => wanted_put oj a oi.dst v p1
          have wi : ∀ (a : Act) v, Region.wanted oi (yielded ops (a.put oj.dst v).tmps) = Region.wanted oi (yielded ops a.tmps) := fun a v => wanted_put oi a oj.dst v p3
          have cm : ∀ (a : Act) u v, (a.put oi.dst u).put oj.dst v = (a.put oj.dst v).put oi.dst u := fun a u v => Act.put_comm a u v p2
          simp only [wpT, hi] at h
          by_cases hwi : Region.wanted oi (yielded ops a.tmps) = true
          · simp only [hwi, if_true, hei, Bool.false_eq_true, if_false] at h
            obtain ⟨u, hu, h⟩ := h
            have h3 := ih' _ w (by rw [wj]; exact hw) hx h
            have h4 : effStep P oj a w (fun v w' => C w' ∧ wpT P ops C K x ((a.put oi.dst u).put oj.dst v) w') := by
              unfold effStep at h3 ⊢
              rw [ej] at h3
              exact h3
            refine h4.mono fun v w' ⟨hC', h5⟩ => ⟨hC', ?_⟩
            simp only [wpT, hi]
            rw [wi]
            simp only [hwi, if_true, hei, Bool.false_eq_true, if_false]
            refine ⟨u, fun w' hC' => by rw [ei]; exact hu w' hC', ?_⟩
            rw [cm] at h5
            exact h5
          · simp only [hwi, Bool.false_eq_true, if_false] at h
            have h3 := ih' _ w (by rw [wj]; exact hw) hx h
            have h4 : effStep P oj a w (fun v w' => C w' ∧ wpT P ops C K x ((a.put oi.dst undef).put oj.dst v) w') := by
              unfold effStep at h3 ⊢
              rw [ej] at h3
              exact h3
            refine h4.mono fun v w' ⟨hC', h5⟩ => ⟨hC', ?_⟩
            simp only [wpT, hi]
            rw [wi]
            simp only [hwi, Bool.false_eq_true, if_false]
            rw [cm] at h5
            exact h5

/-- An operation that is left out: the orders in which it stands first, without it. -/
theorem swapT_skipE (hF : FlM ops) {j : Nat} {oj : Oper} (hj : ops[j]? = some oj) : ∀ (t t' : OT) (rem : List Nat) (a : Act) (w : World), rem.Nodup → OkT ops t rem → j ∈ rem → (∀ i ∈ rem, ((masks ops.toList).getD j 0).testBit i = false) →
    Region.wanted oj (yielded ops a.tmps) = false → t.take ops j = some t' → wpT P ops C K t a w → wpT P ops C K t' (a.put oj.dst undef) w
  | .nil, _, _, _, _, _, _, _, _, _, ht, _ => by simp [OT.take] at ht
  | .alt t u, t', rem, a, w, hn, ⟨o1, o2⟩, hjr, hm, hw, ht, ⟨h1, h2⟩ => by
    unfold OT.take at ht
    split at ht
    · rename_i x hx
      cases ht
      exact swapT_skipE hF hj t _ rem a w hn o1 hjr hm hw hx h1
    · exact swapT_skipE hF hj u t' rem a w hn o2 hjr hm hw ht h2
  | .op i t, t', rem, a, w, hn, ⟨⟨oi, hi, _⟩, hir, him, hok⟩, hjr, hm, hw, ht, h => by
    unfold OT.take at ht
    split at ht
    · rename_i hij
      subst hij
      cases ht
      rw [hj] at hi
      obtain rfl := Option.some.inj hi
      simp only [wpT, hj, hw, Bool.false_eq_true, if_false] at h
      exact h
    · rename_i hij
      split at ht
      · cases ht
      · rename_i hei0
        have hei : eff oi.op = false := by simpa [isEff, hi] using hei0
        cases hx : t.take ops j with
        | none => rw [hx] at ht; cases ht
        | some x =>
          rw [hx] at ht
          cases ht
          have hji : j ∈ rem.erase i := (List.mem_erase_of_ne (fun h => hij h.symm)).2 hjr
          have ih' := fun a w => swapT_skipE hF hj t x (rem.erase i) a w (hn.erase i) hok hji (fun b hb => hm b (List.mem_of_mem_erase hb))
          have hap := pair_apart hF hij hi hj (hm i hir) (him j hjr)
          obtain ⟨p1, p2, p3⟩ := Oper.apart_spec hap
          have ki := hF.kind i oi hi
          have ei : ∀ (a : Act) v, execOp (a.put oj.dst v).eval oi = execOp a.eval oi := fun a v => exec_put ki a oj.dst v p3
          have wj : ∀ (a : Act) v, Region.wanted oj (yielded ops (a.put oi.dst v).tmps) = Region.wanted oj (yielded ops a.tmps) := fun a v => wanted_put oj a oi.dst v p1
          have wi : ∀ (a : Act) v, Region.wanted oi (yielded ops (a.put oj.dst v).tmps) = Region.wanted oi (yielded ops a.tmps) := fun a v => wanted_put oi a oj.dst v p3
          have cm : ∀ (a : Act) u v, (a.put oi.dst u).put oj.dst v = (a.put oj.dst v).put oi.dst u := fun a u v => Act.put_comm a u v p2
          simp only [wpT, hi] at h ⊢
          rw [wi]
          by_cases hwi : Region.wanted oi (yielded ops a.tmps) = true
          · simp only [hwi, if_true, hei, Bool.false_eq_true, if_false] at h ⊢
            obtain ⟨u, hu, h⟩ := h
            have h3 := ih' _ w (by rw [wj]; exact hw) hx h
            refine ⟨u, fun w' hC' => by rw [ei]; exact hu w' hC', ?_⟩
            rw [cm] at h3
            exact h3
          · simp only [hwi, Bool.false_eq_true, if_false] at h ⊢
            have h3 := ih' _ w (by rw [wj]; exact hw) hx h
            rw [cm] at h3
            exact h3

theorem okT_end : ∀ (t : OT) (a : Act) (w : World), OkT ops t [] → wpT P ops C K t a w → K a w
  | .nil, _, _, _, h => h
  | .op i t, _, _, ⟨_, h2, _⟩, _ => by cases h2
  | .alt t _, a, w, ⟨h1, _⟩, ⟨h2, _⟩ => okT_end t a w h1 h2
theorem okT_first : ∀ (t : OT) (rem : List Nat), OkT ops t rem → rem ≠ [] → ∃ i ∈ rem, ∃ o, ops[i]? = some o ∧ ∀ e ∈ o.after, Region.binds .any e = true → e.on ∉ rem
  | .nil, rem, h, hne => absurd h hne
  | .op i t, rem, ⟨h1, h2, _⟩, _ => ⟨i, h2, h1⟩
  | .alt t _, rem, ⟨h1, _⟩, hne => okT_first t rem h1 hne

variable {ro : Cx} {Q : Fin}
theorem any_of_T (hF : FlM ops) (hK : ∀ a w, C w → K a w → Q .normal a w) : ∀ (fuel m : Nat) (t : OT) (rem : List Nat) (listed : Array Bool) (a : Act) (w : World),
    rem.length = fuel → rem.Nodup → listed.size = ops.size → (∀ i, i ∈ rem ↔ i < ops.size ∧ listed.getD i true = false) →
    (∀ (m : Nat) o, ops[m]? = some o → listed.getD m false = true → ∀ e ∈ o.after, Region.binds .any e = true → listed.getD e.on false = true) →
    OkT ops t rem → covT ops (masks ops.toList) m t = true → C w → wpT P ops C K t a w → wpAnyIn (FR ro.ro) 0 P .any ops Q fuel listed a w := by
  intro fuel
  induction fuel with
  | zero =>
    intro m t rem listed a w hl hn hsz hmem hcl hok hcov hC h
    have : rem = [] := by simpa using hl
    subst this
    refine ⟨?_, hK _ _ hC (okT_end t a w hok h)⟩
    refine List.eq_nil_iff_forall_not_mem.2 fun i hi => ?_
    obtain ⟨h0, o, ho, _⟩ := mem_ready.1 hi
    exact absurd ((hmem i).2 ⟨(Array.getElem?_eq_some_iff.1 ho).1, h0⟩) (by simp)
  | succ fuel ih =>
    intro m t rem listed a w hl hn hsz hmem hcl hok hcov hC h
    have hlist : ∀ x, x < ops.size → x ∉ rem → listed.getD x false = true := by
      intro x hx hr
      have h3 : ¬ (x < ops.size ∧ listed.getD x true = false) := fun hx => hr ((hmem x).2 hx)
      have h4 : x < listed.size := by omega
      simp only [Array.getD_eq_getD_getElem?, Array.getElem?_eq_getElem h4, Option.getD_some] at h3 ⊢
      cases hc : listed[x] with
      | true => rfl
      | false => exact absurd ⟨hx, hc⟩ h3
    have hunl : ∀ x, listed.getD x false = true → x ∉ rem := by
      intro x hx hr
      have h0 := ((hmem x).1 hr).2
      simp only [Array.getD_eq_getD_getElem?] at hx h0
      cases hc : listed[x]? <;> simp [hc] at hx h0
      simp [hx] at h0
    refine ⟨fun h0 => ?_, fun j hj => ?_⟩
    · exfalso
      obtain ⟨i, hir, o, ho, hd⟩ := okT_first t rem hok (by rintro rfl; simp at hl)
      have hrd : i ∈ Region.ready .any ops listed := by
        refine mem_ready.2 ⟨((hmem i).1 hir).2, o, ho, fun e he hb => ?_⟩
        by_cases hes : e.on < ops.size
        · exact hlist _ hes (hd e he hb)
        · exact (hF.edge i o ho e he hb hes).elim
      rw [h0] at hrd
      cases hrd
    · obtain ⟨h0, oj, hoj, hre⟩ := mem_ready.1 hj
      have hjr : j ∈ rem := (hmem j).2 ⟨(Array.getElem?_eq_some_iff.1 hoj).1, h0⟩
      have hun : ∀ i ∈ rem, ((masks ops.toList).getD j 0).testBit i = false := fun i hi => by
        cases hb : ((masks ops.toList).getD j 0).testBit i with
        | false => rfl
        | true => exact absurd hi (hunl i (masks_spec (D := fun m => listed.getD m false = true) (fun m o hm hD e he hb => hcl m o hm hD e he hb) j oj hoj (fun e he hb => hre e he hb) i hb))
      have next : ∀ m (t' : OT) a w, OkT ops t' (rem.erase j) → covT ops (masks ops.toList) m t' = true → C w → wpT P ops C K t' a w → wpAnyIn (FR ro.ro) 0 P .any ops Q fuel (listed.setIfInBounds j true) a w := by
        intro m t' a w hok hcov hC h
        refine ih m t' (rem.erase j) _ a w ?_ (hn.erase j) (by simp [hsz]) ?_ ?_ hok hcov hC h
        · rw [List.length_erase_of_mem hjr]; omega
        · intro i
          constructor
          · intro hi
            have hne : j ≠ i := fun e => by subst e; exact absurd hi (hn.not_mem_erase)
            have h1 := (hmem i).1 (List.mem_of_mem_erase hi)
            exact ⟨h1.1, by rw [getD_set_ne true hne]; exact h1.2⟩
          · rintro ⟨h1, h2⟩
            have hne : j ≠ i := fun e => by
              subst e
              simp [hsz, h1] at h2
            rw [getD_set_ne true hne] at h2
            exact (List.mem_erase_of_ne (fun h => hne h.symm)).2 ((hmem i).2 ⟨h1, h2⟩)
        · intro m o hm hD e he hb
          by_cases hmj : j = m
          · subst hmj
            rw [hoj] at hm
            obtain rfl := Option.some.inj hm
            exact getD_set_true (hre e he hb)
          · rw [getD_set_ne false hmj] at hD
            exact getD_set_true (hcl m o hm hD e he hb)
      unfold wpOpIn
      simp only [hoj]
      by_cases hw : Region.wanted oj (yielded ops a.tmps) = true
      · simp only [hw, if_true]
        cases he : eff oj.op with
        | true =>
          have hej : isEff ops j = true := by simp [isEff, hoj, he]
          have hje := (effs_rem t rem hok).2 j hjr hej
          cases m with
          | zero =>
            simp only [covT, List.isEmpty_iff] at hcov
            rw [hcov] at hje
            cases hje
          | succ m =>
            simp only [covT, List.all_eq_true] at hcov
            have h1 := hcov j hje
            rw [Bool.or_eq_true] at h1
            rcases h1 with h1 | h1
            · obtain ⟨i, hi, hb⟩ := List.any_eq_true.1 h1
              rw [hun i ((effs_rem t rem hok).1 i hi)] at hb
              cases hb
            · cases hx : t.take ops j with
              | none => rw [hx] at h1; cases h1
              | some x =>
                rw [hx] at h1
                have h2 := swapT_eff hF hoj he t x rem a w hn hok hjr hun hw hx h
                exact effStep.wpIn (hF.kind j oj hoj) (h2.mono fun v w' ⟨hC', h3⟩ => next m x _ _ (take_ok t x rem hn hok hjr hx) h1 hC' h3)
        | false =>
          have hej : isEff ops j = false := by simp [isEff, hoj, he]
          obtain ⟨v, hv, h2⟩ := swapT_quiet hF hoj he t rem a w hn hok hjr hun hw hC h
          exact upon_FR (fun c hc => by have := hF.kind j oj hoj; rw [hc] at this; cases this) (hv w hC) (next m _ _ _ (del_ok t rem hn hok hjr) (cov_del hej _ m t hcov) hC h2)
      · have hw' : Region.wanted oj (yielded ops a.tmps) = false := by simpa using hw
        simp only [hw', Bool.false_eq_true, if_false]
        cases he : eff oj.op with
        | false =>
          have hej : isEff ops j = false := by simp [isEff, hoj, he]
          exact ⟨fun f _ => fr_fn f, next m _ _ _ (del_ok t rem hn hok hjr) (cov_del hej _ m t hcov) hC (swapT_skip hF hoj t rem a w hn hok hjr hun hw' h)⟩
        | true =>
          have hej : isEff ops j = true := by simp [isEff, hoj, he]
          have hje := (effs_rem t rem hok).2 j hjr hej
          cases m with
          | zero =>
            simp only [covT, List.isEmpty_iff] at hcov
            rw [hcov] at hje
            cases hje
          | succ m =>
            simp only [covT, List.all_eq_true] at hcov
            have h1 := hcov j hje
            rw [Bool.or_eq_true] at h1
            rcases h1 with h1 | h1
            · obtain ⟨i, hi, hb⟩ := List.any_eq_true.1 h1
              rw [hun i ((effs_rem t rem hok).1 i hi)] at hb
              cases hb
            · cases hx : t.take ops j with
              | none => rw [hx] at h1; cases h1
              | some x =>
                rw [hx] at h1
                exact ⟨fun f _ => fr_fn f, next m _ _ _ (take_ok t x rem hn hok hjr hx) h1 hC (swapT_skipE hF hoj t x rem a w hn hok hjr hun hw' hx h)⟩

/-- The whole check. -/
def treeB (ops : Array Oper) (t : OT) : Bool := pairsB ops (masks ops.toList) && okT ops (masks ops.toList) t (List.range ops.size) && covT ops (masks ops.toList) ops.size t
theorem wpIn_region_T {id : Nat} {a : Act} {w : World} (t : OT) (hm : P.follows .mixedOrders = true) (hB : treeB ops t = true) (hC : C { w with drawn := w.drawn + 1 })
    (hK : ∀ a w, C w → K a w → Q .normal a w) (h : wpT P ops C K t a { w with drawn := w.drawn + 1 }) : (Code.region id ops true).wpIn (FR ro.ro) 0 P Q a w := by
  simp only [treeB, Bool.and_eq_true] at hB
  obtain ⟨⟨h1, h2⟩, h3⟩ := hB
  refine wpIn_region_any hm (any_of_T (pairsB_spec h1) hK ops.size ops.size t (List.range ops.size) _ a _ (by simp) List.nodup_range (by simp) ?_ ?_ (okT_spec t _ h2) h3 hC h)
  · intro i
    simp only [List.mem_range]
    constructor
    · intro hi
      exact ⟨hi, by simp [hi]⟩
    · exact fun hi => hi.1
  · intro m o _ hD
    simp only [Array.getD_eq_getD_getElem?, Array.getElem?_replicate] at hD
    split at hD <;> simp at hD
end
end Go.Eng

/- The engine, part B11: walks of a region by a tree of orders. -/
namespace Go.Eng
open Go Go.RowKit

section
variable {P : Program} {ro : Cx} {n : Nat} {F : Fin} {w0 : World} {M : Nat → Prop} {k : List It} {ops : Array Oper} {e : Env} {H Hq : List Ck}

structure QT (P : Program) (ro : Cx) (n : Nat) (F : Fin) (w0 : World) (M : Nat → Prop) (k : List It) (ops : Array Oper) (Hq : List Ck) (t : OT) (e : Env) (H : List Ck) : Prop where
  h : ∀ w, Sat w0 M (H ++ Hq) w → ∀ a, Fits n e a → a.defers = ro.ds → wpT P ops (Sat w0 M Hq) (fun a w => S P ro.ro F k .normal a w) t a w
def chainT : List Nat → OT → OT
  | [], t => t
  | i :: l, t => .op i (chainT l t)

theorem q_drawT {id : Nat} {l : List Oper} (t : OT) (Hq Hm : List Ck) (hH : Sp H (Hm ++ Hq)) (hm : P.follows .mixedOrders = true) (hB : treeB l.toArray t = true) (h : QT P ro n F w0 M k l.toArray Hq t e Hm) :
    Q P ro n F w0 M (.code (.region id l.toArray true) :: k) e H := .mk fun w hs a hf hd => by
  have hs1 := (hs.sp hH).keep (Chg.drew (N := []) w)
  exact wpIn_region_T t hm hB (C := Sat w0 M Hq) hs1.right (fun _ _ _ h => h) (h.h _ hs1 a hf hd)
theorem qt_nil (h : Q P ro n F w0 M k e (H ++ Hq)) : QT P ro n F w0 M k ops Hq .nil e H := ⟨fun w hs a hf hd => h.h w hs a hf hd⟩
theorem qt_alt {t u : OT} (h1 : QT P ro n F w0 M k ops Hq t e H) (h2 : QT P ro n F w0 M k ops Hq u e H) : QT P ro n F w0 M k ops Hq (.alt t u) e H :=
  ⟨fun w hs a hf hd => ⟨h1.h w hs a hf hd, h2.h w hs a hf hd⟩⟩
theorem wpT_chain {C : World → Prop} {K : Act → World → Prop} {t : OT} : ∀ (l : List Nat) (lo : List Oper) (a : Act) (w : World), l.map (fun i => ops[i]?) = lo.map some → wpFlL P ops C (wpT P ops C K t) lo a w → wpT P ops C K (chainT l t) a w
  | [], [], a, w, _, h => h
  | [], _ :: _, _, _, hl, _ => by cases hl
  | _ :: _, [], _, _, hl, _ => by cases hl
  | i :: l, o :: lo, a, w, hl, h => by
    simp only [List.map_cons, List.cons.injEq] at hl
    have ih : ∀ a w, wpFlL P ops C (wpT P ops C K t) lo a w → wpT P ops C K (chainT l t) a w := fun a w => wpT_chain l lo a w hl.2
    simp only [chainT, wpT, hl.1]
    simp only [wpFlL] at h
    split
    · rename_i hw
      rw [if_pos hw] at h
      split
      · rename_i he
        rw [if_pos he] at h
        exact h.mono fun v w' ⟨hC, h2⟩ => ⟨hC, ih _ _ h2⟩
      · rename_i he
        rw [if_neg he] at h
        obtain ⟨v, hv, h2⟩ := h
        exact ⟨v, hv, ih _ _ h2⟩
    · rename_i hw
      rw [if_neg hw] at h
      exact ih _ _ h
/-- The operations of these numbers. -/
inductive PickL (ops : Array Oper) : List Nat → List Oper → Prop
  | nil : PickL ops [] []
  | cons {i : Nat} {o : Oper} {l : List Nat} {lo : List Oper} : ops[i]? = some o → PickL ops l lo → PickL ops (i :: l) (o :: lo)
theorem PickL.map {l : List Nat} {lo : List Oper} (h : PickL ops l lo) : l.map (fun i => ops[i]?) = lo.map some := by
  induction h with
  | nil => rfl
  | cons h1 _ ih => simp [h1, ih]
theorem qt_seg {l : List Nat} {lo : List Oper} {t : OT} (hl : PickL ops l lo)
    (h : ∀ K1 : Act → World → Prop, (∀ e' H', QT P ro n F w0 M k ops Hq t e' H' → Q P ro n F w0 M (.k K1 :: k) e' (H' ++ Hq)) → QF P ro n F w0 M (.k K1 :: k) ops Hq lo e H) : QT P ro n F w0 M k ops Hq (chainT l t) e H :=
  ⟨fun w hs a hf hd => by
    have h1 := h (wpT P ops (Sat w0 M Hq) (fun a w => S P ro.ro F k .normal a w) t) (fun e' H' hq => .mk fun w' hs' a' hf' hd' => hq.h w' hs' a' hf' hd')
    exact wpT_chain l lo a w hl.map (h1.h w hs a hf hd)⟩

/-- What follows, once for all the ways that lead there. -/
theorem q_cut {σ : Type} {c : Code} (env : σ → Env) (hp : σ → List Ck) (main : ∀ s, Q P ro n F w0 M k (env s) (hp s))
    (first : ∀ K2 : Act → World → Prop, (∀ s e' H', Sub (env s) e' → Sp H' (hp s) → Q P ro n F w0 M (.k K2 :: k) e' H') → Q P ro n F w0 M (.code c :: .k K2 :: k) e H) : Q P ro n F w0 M (.code c :: k) e H := by
  have h1 := first (fun a w => S P ro.ro F k .normal a w) (fun s e' H' hs hH => .mk fun w hw a hf hd => (main s).h w (hw.sp hH) a (hf.sub hs) hd)
  have e1 : S P ro.ro F (.k (fun a w => S P ro.ro F k .normal a w) :: k) = S P ro.ro F k := by
    funext x a w
    cases x <;> rfl
  refine .mk fun w hs a hf hd => ?_
  have h2 := h1.h w hs a hf hd
  simp only [S] at h2 ⊢
  simp only [S] at e1
  rw [e1] at h2
  exact h2
end
end Go.Eng

/- The engine, part B12: more about callbacks: pieces that others leave alone; maps in worlds that change. -/
namespace Go.Eng
open Go Go.RowKit

section
variable {P : Program} {T : Tab}
variable {ro : Cx} {n : Nat} {F : Fin} {w0 : World} {M : Nat → Prop} {k : List It} {ops : Array Oper} {rest : List Oper} {e : Env} {H Hq : List Ck}
variable {K : Value → Prop} {q : Value → Value → Bool} {kt et mt : TypeId}

/-- What stands beside is left alone. -/
theorem Sat.aside {w w' : World} {A R : List Ck} (h : Sat w0 M (A ++ R) w) (c : ChgP (DL A) w w') {x : Ck} (hx : x ∈ R) : x.p w' :=
  Ck.st (h.all x (List.mem_append_right _ hx)) c (fun b hb ⟨a, ha, hab⟩ => (List.pairwise_append.1 h.sep).2.2 a ha x hx b hab hb)
/-- What was there before is left alone. -/
theorem Sat.asideOld {w w' : World} {A R : List Ck} (h : Sat w0 M0 (A ++ R) w) (c : ChgP (DL A) w w') : Chg [] w0 w' :=
  h.chg0.old c (fun b ⟨a, ha, hab⟩ => (h.bd a (List.mem_append_left _ ha) b hab).2.resolve_left (fun h => h))

theorem Sat.self' {w : World} {A : List Ck} (h : Sat w0 M A w) : Sat w (DL A) A w := Sat.self (B := []) (by rw [List.append_nil]; exact h)
/-- Later changes of these pieces are changes of the first ones. -/
theorem Sat.later {w w' : World} {A B : List Ck} (h : Sat w0 (DL A) B w) (c : ChgP (DL B) w w') : ChgP (DL A) w0 w' := h.chg.upP c (fun k ⟨x, hx, hk⟩ => (h.bd x hx k hk).2)

theorem qf_fact {φ : Prop} (hf : ∀ w, Sat w0 M (H ++ Hq) w → φ) (h : φ → QF P ro n F w0 M k ops Hq rest e H) : QF P ro n F w0 M k ops Hq rest e H := .mk fun w hs => (h (hf w hs)).h w hs
theorem own_slice {w : World} {base e sz n : Nat} {v : Value} {xs : List Value} (h : w.ownsRow base e sz v n xs) : ∃ a m c, v = .slice a m c := by
  rcases h.2 with ⟨rfl, _⟩ | ⟨g, cap, cur, rfl, _⟩
  · exact ⟨_, _, _, rfl⟩
  · exact ⟨_, _, _, rfl⟩
theorem Sat.slice {w : World} {e sz n : Nat} {v : Value} {xs : List Value} (h : Sat w0 M H w) (hc : Ck.ow v e sz n xs ∈ H) : ∃ a m c, v = .slice a m c := own_slice (h.mem hc)

theorem Sat.slice2 {w : World} {e sz n : Nat} {v : Value} {xs : List Value} (h : Sat w0 M H w) (hc : Ck.ow v e sz n xs ∈ H) : ∃ a c, v = .slice a n c := by
  have h1 : w.ownsRow 0 e sz v n xs := h.all _ hc
  rcases h1.2 with ⟨rfl, rfl, _⟩ | ⟨g, cap, cur, rfl, _⟩
  · exact ⟨_, _, rfl⟩
  · exact ⟨_, _, rfl⟩

theorem Sat.rdI {w : World} {t n : Nat} {v : Value} {l : List Int} (h : Sat w0 M H w) (hc : Ck.ow v t 1 n (ints l) ∈ H) (hn : n = l.length) : RdI w 0 w.heap.size v l := by
  subst hn
  exact RdI.of (own_rd (h.all _ hc))

end
end Go.Eng

/- The engine, part B13: changing an element of a slice of our own. -/
namespace Go.Eng
open Go Go.RowKit

section
variable {P : Program} {T : Tab}
variable {ro : Cx} {n : Nat} {F : Fin} {w0 : World} {M : Nat → Prop} {k : List It} {ops : Array Oper} {rest : List Oper} {e : Env} {H Hq : List Ck}

theorem own_some {w : World} {et sz m : Nat} {v : Value} {xs : List Value} (h : w.ownsRow 0 et sz v m xs) (hm : 0 < m) : ∃ g c, v = .slice (some ⟨g, 0, none⟩) m c := by
  rcases h.2 with ⟨rfl, rfl⟩ | ⟨g, cap, cur, rfl, _⟩
  · omega
  · exact ⟨_, _, rfl⟩
theorem Sat.ownSome {w : World} {et sz m : Nat} {v : Value} {xs : List Value} (h : Sat w0 M H w) (hc : Ck.ow v et sz m xs ∈ H) (hm : 0 < m) : ∃ g c, v = .slice (some ⟨g, 0, none⟩) m c := own_some (h.all _ hc) hm

/-- A region that draws; what its first c operations read (Hq1) is not changed by them, and they stand ahead of all that changes Hm2. -/
theorem q_drawS2 {id : Nat} {l : List Oper} (c : Nat) (Hq1 Hm1 Hq2 Hm2 : List Ck) (hH1 : Sp H (Hm1 ++ Hq1)) (hH2 : Sp Hq1 (Hm2 ++ Hq2)) (hm : P.follows .mixedOrders = true) (hB : flB l.toArray = true)
    (hbs : flagB l.toArray (List.replicate c true ++ List.replicate (l.length - c) false) = true)
    (h : ∀ K1 : Act → World → Prop, (∀ e' H' Hm', Sp H' (Hm' ++ Hq2) → QF P ro n F w0 M k l.toArray Hq2 (l.drop c) e' Hm' → Q P ro n F w0 M (.k K1 :: k) e' H') → QF P ro n F w0 M (.k K1 :: k) l.toArray Hq1 (l.take c) e Hm1) :
    Q P ro n F w0 M (.code (.region id l.toArray true) :: k) e H := .mk fun w hs a hf hd => by
  have hs0 : Sat w0 M H { w with drawn := w.drawn + 1 } := hs.keep (Chg.drew (N := []) w)
  have hs1 : Sat w0 M Hq1 { w with drawn := w.drawn + 1 } := (hs0.sp hH1).right
  have h12 : ∀ w, Sat w0 M Hq1 w → Sat w0 M Hq2 w := fun w hw => (hw.sp hH2).right
  let bs := List.replicate c true ++ List.replicate (l.length - c) false
  refine wpIn_region_fl2 hm (flB_spec hB) (K := fun a w => S P ro.ro F k .normal a w) (Cq := flagC (Sat w0 M Hq1) (Sat w0 M Hq2) bs) (Ce := flagC (Sat w0 M Hq1) (Sat w0 M Hq2) bs)
    (fun i j oi oj => flagB_spec hbs h12 i j oi oj) (fun i => ?_) (fun _ _ h => h) ?_
  · unfold flagC
    cases bs.getD i false
    · exact h12 _ hs1
    · exact hs1
  · have h2 := wpFlB_eq (P := P) (ops := l.toArray) (C1 := Sat w0 M Hq1) (C2 := Sat w0 M Hq2) (bs := bs) (K := fun a w => S P ro.ro F k .normal a w) l 0 (by simp)
    rw [show List.range l.toArray.size = List.range' 0 l.length from by simp [List.range_eq_range'], h2]
    refine yb_seg (P := P) (ro := ro) (n := n) (F := F) (k := k) (C1 := Sat w0 M Hq1) (C2 := Sat w0 M Hq2) (bs := bs) (l := l) true c (by simp [bs]) (by simp [bs]) (fun K1 hK1 => ?_) a hf hd
    have h3 := h K1 (fun e' H' Hm' hsp hq => .mk fun w' hw' a' hf' hd' => ?_)
    · exact h3.h _ (hs0.sp hH1)
    · refine hK1 e' w' (fun a2 hf2 hd2 => ?_) a' hf' hd'
      have h4 : bs.drop c = List.replicate (l.length - c) false := by simp [bs]
      rw [h4]
      exact wpFlB_false _ _ (by simp) a2 w' (hq w' (hw'.sp hsp) a2 hf2 hd2)
end
end Go.Eng

/- The engine, part B14: a subtree of orders walked once for all the ways that lead there. -/
namespace Go.Eng
open Go Go.RowKit

section
variable {P : Program} {ro : Cx} {n : Nat} {F : Fin} {w0 : World} {M : Nat → Prop} {k : List It} {ops : Array Oper} {e : Env} {H Hq : List Ck}
end
end Go.Eng

/- The engine, part B15: comparisons that are decided at once. -/
namespace Go.Eng
open Go Go.RowKit

section
variable {P : Program} {T : Tab} {ro : Cx} {n : Nat} {F : Fin} {w0 : World} {M : Nat → Prop} {k : List It} {ops : Array Oper} {rest : List Oper} {e : Env} {H Hq : List Ck}
theorem bin_lssT {a b : Int} (h : a < b) : binV .lss .i64 a b = some (.bool true) := by simp [binV]; omega
theorem ql_lssT (hT : T.Ok P) {d : Nat} {t t' : Nat} {x y : Operand} {a b : Int} {ty : TypeId} {pos : String} {af : Array Edge} (hx : opv e x = some (.int .i64 a)) (hy : opv e y = some (.int .i64 b)) (hd : Nat.blt d n = true) (hp : a < b)
    (h : QL P ro n F w0 M k ops rest ((d, .bool true) :: e) H) : QL P ro n F w0 M k ops (⟨some d, .binOp .lss t x y t', ty, pos, af, none⟩ :: rest) e H := ql_pure hT ((evp_arith hx hy).trans (bin_lssT hp)) hd h
theorem qf_lssT (hT : T.Ok P) {d : Nat} {t t' : Nat} {x y : Operand} {a b : Int} {ty : TypeId} {pos : String} {af : Array Edge} (hx : opv e x = some (.int .i64 a)) (hy : opv e y = some (.int .i64 b)) (hd : Nat.blt d n = true) (hp : a < b)
    (h : QF P ro n F w0 M k ops Hq rest ((d, .bool true) :: e) H) : QF P ro n F w0 M k ops Hq (⟨some d, .binOp .lss t x y t', ty, pos, af, none⟩ :: rest) e H := qf_pure hT ((evp_arith hx hy).trans (bin_lssT hp)) rfl hd h
theorem bin_lssF {a b : Int} (h : ¬ a < b) : binV .lss .i64 a b = some (.bool false) := by simp [binV]; omega
theorem ql_lssF (hT : T.Ok P) {d : Nat} {t t' : Nat} {x y : Operand} {a b : Int} {ty : TypeId} {pos : String} {af : Array Edge} (hx : opv e x = some (.int .i64 a)) (hy : opv e y = some (.int .i64 b)) (hd : Nat.blt d n = true) (hp : ¬ a < b)
    (h : QL P ro n F w0 M k ops rest ((d, .bool false) :: e) H) : QL P ro n F w0 M k ops (⟨some d, .binOp .lss t x y t', ty, pos, af, none⟩ :: rest) e H := ql_pure hT ((evp_arith hx hy).trans (bin_lssF hp)) hd h
theorem qf_lssF (hT : T.Ok P) {d : Nat} {t t' : Nat} {x y : Operand} {a b : Int} {ty : TypeId} {pos : String} {af : Array Edge} (hx : opv e x = some (.int .i64 a)) (hy : opv e y = some (.int .i64 b)) (hd : Nat.blt d n = true) (hp : ¬ a < b)
    (h : QF P ro n F w0 M k ops Hq rest ((d, .bool false) :: e) H) : QF P ro n F w0 M k ops Hq (⟨some d, .binOp .lss t x y t', ty, pos, af, none⟩ :: rest) e H := qf_pure hT ((evp_arith hx hy).trans (bin_lssF hp)) rfl hd h
theorem bin_leqT {a b : Int} (h : a ≤ b) : binV .leq .i64 a b = some (.bool true) := by simp [binV]; omega
theorem ql_leqT (hT : T.Ok P) {d : Nat} {t t' : Nat} {x y : Operand} {a b : Int} {ty : TypeId} {pos : String} {af : Array Edge} (hx : opv e x = some (.int .i64 a)) (hy : opv e y = some (.int .i64 b)) (hd : Nat.blt d n = true) (hp : a ≤ b)
    (h : QL P ro n F w0 M k ops rest ((d, .bool true) :: e) H) : QL P ro n F w0 M k ops (⟨some d, .binOp .leq t x y t', ty, pos, af, none⟩ :: rest) e H := ql_pure hT ((evp_arith hx hy).trans (bin_leqT hp)) hd h
theorem bin_leqF {a b : Int} (h : ¬ a ≤ b) : binV .leq .i64 a b = some (.bool false) := by simp [binV]; omega
theorem ql_leqF (hT : T.Ok P) {d : Nat} {t t' : Nat} {x y : Operand} {a b : Int} {ty : TypeId} {pos : String} {af : Array Edge} (hx : opv e x = some (.int .i64 a)) (hy : opv e y = some (.int .i64 b)) (hd : Nat.blt d n = true) (hp : ¬ a ≤ b)
    (h : QL P ro n F w0 M k ops rest ((d, .bool false) :: e) H) : QL P ro n F w0 M k ops (⟨some d, .binOp .leq t x y t', ty, pos, af, none⟩ :: rest) e H := ql_pure hT ((evp_arith hx hy).trans (bin_leqF hp)) hd h
theorem bin_gtrT {a b : Int} (h : b < a) : binV .gtr .i64 a b = some (.bool true) := by simp [binV]; omega
theorem ql_gtrT (hT : T.Ok P) {d : Nat} {t t' : Nat} {x y : Operand} {a b : Int} {ty : TypeId} {pos : String} {af : Array Edge} (hx : opv e x = some (.int .i64 a)) (hy : opv e y = some (.int .i64 b)) (hd : Nat.blt d n = true) (hp : b < a)
    (h : QL P ro n F w0 M k ops rest ((d, .bool true) :: e) H) : QL P ro n F w0 M k ops (⟨some d, .binOp .gtr t x y t', ty, pos, af, none⟩ :: rest) e H := ql_pure hT ((evp_arith hx hy).trans (bin_gtrT hp)) hd h
theorem qf_gtrT (hT : T.Ok P) {d : Nat} {t t' : Nat} {x y : Operand} {a b : Int} {ty : TypeId} {pos : String} {af : Array Edge} (hx : opv e x = some (.int .i64 a)) (hy : opv e y = some (.int .i64 b)) (hd : Nat.blt d n = true) (hp : b < a)
    (h : QF P ro n F w0 M k ops Hq rest ((d, .bool true) :: e) H) : QF P ro n F w0 M k ops Hq (⟨some d, .binOp .gtr t x y t', ty, pos, af, none⟩ :: rest) e H := qf_pure hT ((evp_arith hx hy).trans (bin_gtrT hp)) rfl hd h
theorem bin_gtrF {a b : Int} (h : ¬ b < a) : binV .gtr .i64 a b = some (.bool false) := by simp [binV]; omega
theorem ql_gtrF (hT : T.Ok P) {d : Nat} {t t' : Nat} {x y : Operand} {a b : Int} {ty : TypeId} {pos : String} {af : Array Edge} (hx : opv e x = some (.int .i64 a)) (hy : opv e y = some (.int .i64 b)) (hd : Nat.blt d n = true) (hp : ¬ b < a)
    (h : QL P ro n F w0 M k ops rest ((d, .bool false) :: e) H) : QL P ro n F w0 M k ops (⟨some d, .binOp .gtr t x y t', ty, pos, af, none⟩ :: rest) e H := ql_pure hT ((evp_arith hx hy).trans (bin_gtrF hp)) hd h
theorem qf_gtrF (hT : T.Ok P) {d : Nat} {t t' : Nat} {x y : Operand} {a b : Int} {ty : TypeId} {pos : String} {af : Array Edge} (hx : opv e x = some (.int .i64 a)) (hy : opv e y = some (.int .i64 b)) (hd : Nat.blt d n = true) (hp : ¬ b < a)
    (h : QF P ro n F w0 M k ops Hq rest ((d, .bool false) :: e) H) : QF P ro n F w0 M k ops Hq (⟨some d, .binOp .gtr t x y t', ty, pos, af, none⟩ :: rest) e H := qf_pure hT ((evp_arith hx hy).trans (bin_gtrF hp)) rfl hd h
theorem bin_geqT {a b : Int} (h : b ≤ a) : binV .geq .i64 a b = some (.bool true) := by simp [binV]; omega
theorem ql_geqT (hT : T.Ok P) {d : Nat} {t t' : Nat} {x y : Operand} {a b : Int} {ty : TypeId} {pos : String} {af : Array Edge} (hx : opv e x = some (.int .i64 a)) (hy : opv e y = some (.int .i64 b)) (hd : Nat.blt d n = true) (hp : b ≤ a)
    (h : QL P ro n F w0 M k ops rest ((d, .bool true) :: e) H) : QL P ro n F w0 M k ops (⟨some d, .binOp .geq t x y t', ty, pos, af, none⟩ :: rest) e H := ql_pure hT ((evp_arith hx hy).trans (bin_geqT hp)) hd h
theorem bin_geqF {a b : Int} (h : ¬ b ≤ a) : binV .geq .i64 a b = some (.bool false) := by simp [binV]; omega
theorem ql_geqF (hT : T.Ok P) {d : Nat} {t t' : Nat} {x y : Operand} {a b : Int} {ty : TypeId} {pos : String} {af : Array Edge} (hx : opv e x = some (.int .i64 a)) (hy : opv e y = some (.int .i64 b)) (hd : Nat.blt d n = true) (hp : ¬ b ≤ a)
    (h : QL P ro n F w0 M k ops rest ((d, .bool false) :: e) H) : QL P ro n F w0 M k ops (⟨some d, .binOp .geq t x y t', ty, pos, af, none⟩ :: rest) e H := ql_pure hT ((evp_arith hx hy).trans (bin_geqF hp)) hd h
theorem bin_eqlT {a b : Int} (h : a = b) : binV .eql .i64 a b = some (.bool true) := by simp [binV]; omega
theorem ql_eqlT (hT : T.Ok P) {d : Nat} {t t' : Nat} {x y : Operand} {a b : Int} {ty : TypeId} {pos : String} {af : Array Edge} (hx : opv e x = some (.int .i64 a)) (hy : opv e y = some (.int .i64 b)) (hd : Nat.blt d n = true) (hp : a = b)
    (h : QL P ro n F w0 M k ops rest ((d, .bool true) :: e) H) : QL P ro n F w0 M k ops (⟨some d, .binOp .eql t x y t', ty, pos, af, none⟩ :: rest) e H := ql_pure hT ((evp_arith hx hy).trans (bin_eqlT hp)) hd h
theorem bin_eqlF {a b : Int} (h : a ≠ b) : binV .eql .i64 a b = some (.bool false) := by simp [binV]; omega
theorem ql_eqlF (hT : T.Ok P) {d : Nat} {t t' : Nat} {x y : Operand} {a b : Int} {ty : TypeId} {pos : String} {af : Array Edge} (hx : opv e x = some (.int .i64 a)) (hy : opv e y = some (.int .i64 b)) (hd : Nat.blt d n = true) (hp : a ≠ b)
    (h : QL P ro n F w0 M k ops rest ((d, .bool false) :: e) H) : QL P ro n F w0 M k ops (⟨some d, .binOp .eql t x y t', ty, pos, af, none⟩ :: rest) e H := ql_pure hT ((evp_arith hx hy).trans (bin_eqlF hp)) hd h
theorem bin_neqT {a b : Int} (h : a ≠ b) : binV .neq .i64 a b = some (.bool true) := by simp [binV]; omega
theorem ql_neqT (hT : T.Ok P) {d : Nat} {t t' : Nat} {x y : Operand} {a b : Int} {ty : TypeId} {pos : String} {af : Array Edge} (hx : opv e x = some (.int .i64 a)) (hy : opv e y = some (.int .i64 b)) (hd : Nat.blt d n = true) (hp : a ≠ b)
    (h : QL P ro n F w0 M k ops rest ((d, .bool true) :: e) H) : QL P ro n F w0 M k ops (⟨some d, .binOp .neq t x y t', ty, pos, af, none⟩ :: rest) e H := ql_pure hT ((evp_arith hx hy).trans (bin_neqT hp)) hd h
theorem bin_neqF {a b : Int} (h : a = b) : binV .neq .i64 a b = some (.bool false) := by simp [binV]; omega
theorem ql_neqF (hT : T.Ok P) {d : Nat} {t t' : Nat} {x y : Operand} {a b : Int} {ty : TypeId} {pos : String} {af : Array Edge} (hx : opv e x = some (.int .i64 a)) (hy : opv e y = some (.int .i64 b)) (hd : Nat.blt d n = true) (hp : a = b)
    (h : QL P ro n F w0 M k ops rest ((d, .bool false) :: e) H) : QL P ro n F w0 M k ops (⟨some d, .binOp .neq t x y t', ty, pos, af, none⟩ :: rest) e H := ql_pure hT ((evp_arith hx hy).trans (bin_neqF hp)) hd h
end
end Go.Eng

/- The engine, part B16: shifts, and the last bit. -/
namespace Go.Eng
open Go Go.RowKit

section
variable {P : Program} {ro : Cx} {n : Nat} {F : Fin} {w0 : World} {M : Nat → Prop} {k : List It} {ops : Array Oper} {rest : List Oper} {e : Env} {H Hq : List Ck}
end
end Go.Eng

/- Engine 2: a block of numbers with room behind them. -/
namespace Go.Eng
open Go Go.RowKit

section
variable {P : Program} {T : Tab} {ro : Cx} {n : Nat} {F : Fin} {w0 : World} {M : Nat → Prop} {k : List It} {ops : Array Oper} {rest : List Oper} {e : Env} {H Hq : List Ck}
end
end Go.Eng

/- Engine 2: a region that draws, with any marks. -/
namespace Go.Eng
open Go Go.RowKit

section
variable {P : Program} {ro : Cx} {n : Nat} {F : Fin} {w0 : World} {M : Nat → Prop} {k : List It} {ops : Array Oper} {l : List Oper} {e : Env} {H H1 H2 : List Ck} {bs : List Bool}
structure QB (P : Program) (ro : Cx) (n : Nat) (F : Fin) (w0 : World) (M : Nat → Prop) (k : List It) (ops : Array Oper) (H1 H2 : List Ck) (bs : List Bool) (l : List Oper) (e : Env) (H : List Ck) : Prop where
  h : ∀ w, Sat w0 M H w → YB P ro n F k ops (Sat w0 M H1) (Sat w0 M H2) bs l e w
theorem q_drawB {id : Nat} (bs : List Bool) (Hq2 Hm : List Ck) (hH : Sp H (Hm ++ Hq2)) (hm : P.follows .mixedOrders = true) (hB : flB l.toArray = true) (hbs : flagB l.toArray bs = true)
    (h : QB P ro n F w0 M k l.toArray H Hq2 bs l e H) : Q P ro n F w0 M (.code (.region id l.toArray true) :: k) e H := .mk fun w hs a hf hd => by
  have hs1 : Sat w0 M H { w with drawn := w.drawn + 1 } := hs.keep (Chg.drew (N := []) w)
  have h12 : ∀ w, Sat w0 M H w → Sat w0 M Hq2 w := fun w hw => (hw.sp hH).right
  refine wpIn_region_fl2 hm (flB_spec hB) (K := fun a w => S P ro.ro F k .normal a w) (Cq := flagC (Sat w0 M H) (Sat w0 M Hq2) bs) (Ce := flagC (Sat w0 M H) (Sat w0 M Hq2) bs)
    (fun i j oi oj => flagB_spec hbs h12 i j oi oj) (fun i => ?_) (fun _ _ h => h) ?_
  · unfold flagC
    cases bs.getD i false
    · exact h12 _ hs1
    · exact hs1
  · have h2 := wpFlB_eq (P := P) (ops := l.toArray) (C1 := Sat w0 M H) (C2 := Sat w0 M Hq2) (bs := bs) (K := fun a w => S P ro.ro F k .normal a w) l 0 (by simp)
    rw [show List.range l.toArray.size = List.range' 0 l.length from by simp [List.range_eq_range'], h2]
    exact h.h _ hs1 a hf hd
theorem qb_T (c : Nat) (hb : (bs.take c).all (fun x => x == true) = true) (hc : Nat.ble c bs.length = true) (hH : Sp H H1)
    (h : ∀ K1 : Act → World → Prop, (∀ e' H', QB P ro n F w0 M k ops H1 H2 (bs.drop c) (l.drop c) e' H' → Q P ro n F w0 M (.k K1 :: k) e' H') → QF P ro n F w0 M (.k K1 :: k) ops H1 (l.take c) e []) :
    QB P ro n F w0 M k ops H1 H2 bs l e H := .mk fun w hs => by
  refine yb_seg true c hb (Nat.le_of_ble_eq_true hc) (fun K1 hK1 => ?_)
  have h3 := h K1 (fun e' H' hq => .mk fun w' hw' a' hf' hd' => hK1 e' w' (hq.h w' hw') a' hf' hd')
  exact h3.h w (hs.sp hH)
theorem qb_F (c : Nat) (Hm : List Ck) (hb : (bs.take c).all (fun x => x == false) = true) (hc : Nat.ble c bs.length = true) (hH : Sp H (Hm ++ H2))
    (h : ∀ K1 : Act → World → Prop, (∀ e' H', QB P ro n F w0 M k ops H1 H2 (bs.drop c) (l.drop c) e' H' → Q P ro n F w0 M (.k K1 :: k) e' H') → QF P ro n F w0 M (.k K1 :: k) ops H2 (l.take c) e Hm) :
    QB P ro n F w0 M k ops H1 H2 bs l e H := .mk fun w hs => by
  refine yb_seg false c hb (Nat.le_of_ble_eq_true hc) (fun K1 hK1 => ?_)
  have h3 := h K1 (fun e' H' hq => .mk fun w' hw' a' hf' hd' => hK1 e' w' (hq.h w' hw') a' hf' hd')
  exact h3.h w (hs.sp hH)
theorem qb_nil {bs : List Bool} (h : Q P ro n F w0 M k e H) : QB P ro n F w0 M k ops H1 H2 bs [] e H := .mk fun w hs => yb_nil (h.h w hs)
end
end Go.Eng

/- Engine 2: changing an element of a slice of our own, in a region that draws. -/
namespace Go.Eng
open Go Go.RowKit

section
variable {P : Program} {T : Tab}
variable {ro : Cx} {n : Nat} {F : Fin} {w0 : World} {M : Nat → Prop} {k : List It} {ops : Array Oper} {rest : List Oper} {e : Env} {H Hq : List Ck}
theorem qf_storeW (hT : T.Ok P) {t : Nat} {x y : Operand} {g off m c et : Nat} {xs : List Value} {u : Value} {H' : List Ck} {ty : TypeId} {pos : String} {af : Array Edge} (i : Nat)
    (hx : opv e x = some (.pointer (some ⟨g, off, none⟩))) (hy : opv e y = some u) (h1 : has T.one t = true) (hv : oneV u = true)
    (hr : Rp H (.ow (.slice (some ⟨g, 0, none⟩) m c) et 1 m xs) (.ow (.slice (some ⟨g, 0, none⟩) m c) et 1 m (xs.set i u)) H') (ho : off = i) (hi : i < xs.length)
    (h : QF P ro n F w0 M k ops Hq rest e H') : QF P ro n F w0 M k ops Hq (⟨none, .store t x y, ty, pos, af, none⟩ :: rest) e H := .mk fun w hs => by
  subst ho
  obtain ⟨hl, h2⟩ : w.ownsRow 0 et 1 (.slice (some ⟨g, 0, none⟩) m c) m xs := hs.mem (hr.app Hq).mem
  rcases h2 with ⟨hv', _⟩ | ⟨g', cap, cur, hv', hg, hh, hnc, hcm, hcs, ht⟩
  · cases hv'
  cases hv'
  have hb : Blk w g cur.toList et := by simpa [Blk] using hh
  have hcl : off < cur.toList.length := by
    have := congrArg List.length ht
    simp at this
    simp
    omega
  refine yf_store1 hT hx hy h1 hv hb hcl (fun w' hc _ hb' => ?_)
  have hs' := hs.rep (hr.app Hq) hc (fun k hk => by
    obtain rfl : k = g := by simpa using hk
    rfl) (by
    refine ⟨by simpa using hl, .inr ⟨g, c, (cur.toList.set off u).toArray, rfl, hg, by simpa [Blk] using hb', hnc, hcm, by simpa using hcs, ?_⟩⟩
    simp only [List.toList_toArray]
    rw [List.take_set, ht]) (fun b hb2 => by
    have : b = g := by simpa [Ck.D, Value.ownBlock] using hb2.symm
    subst this
    exact ⟨.inl rfl, hb'.lt⟩)
  exact ⟨hs'.right, h.h w' hs'⟩
theorem own_lt {w : World} {et g m c : Nat} {xs : List Value} (h : w.ownsRow 0 et 1 (.slice (some ⟨g, 0, none⟩) m c) m xs) : g < w.heap.size := by
  obtain ⟨hl, h2⟩ := h
  rcases h2 with ⟨hv', _⟩ | ⟨g', cap, cur, hv', hg, hh, hnc, hcm, hcs, ht⟩
  · cases hv'
  cases hv'
  have hb : Blk w g cur.toList et := by simpa [Blk] using hh
  exact hb.lt
theorem own_cell {w : World} {et g m c : Nat} {xs : List Value} (h : w.ownsRow 0 et 1 (.slice (some ⟨g, 0, none⟩) m c) m xs) (i : Nat) (hi : i < xs.length) : w.cell? ⟨g, i, none⟩ = some xs[i] := by
  obtain ⟨hl, h2⟩ := h
  rcases h2 with ⟨hv', _⟩ | ⟨g', cap, cur, hv', hg, hh, hnc, hcm, hcs, ht⟩
  · cases hv'
  cases hv'
  have hb : Blk w g cur.toList et := by simpa [Blk] using hh
  rw [Blk.cell hb i]
  have e : xs[i]? = some xs[i] := List.getElem?_eq_getElem hi
  rw [← e, ← ht, List.getElem?_take, if_pos (by omega)]
theorem Sat.own0 {w : World} {et g m c : Nat} {xs : List Value} (h : w.ownsRow 0 et 1 (.slice (some ⟨g, 0, none⟩) m c) m xs) : Sat w (fun x => x = g) [.ow (.slice (some ⟨g, 0, none⟩) m c) et 1 m xs] w :=
  ⟨ChgP.refl _ _, by simpa [Ck.p] using h, .cons (by simp) .nil, fun ck hc x hx => by
    obtain rfl : ck = .ow (.slice (some ⟨g, 0, none⟩) m c) et 1 m xs := by simpa using hc
    obtain rfl : x = g := by simpa [Ck.D, Value.ownBlock] using hx.symm
    exact ⟨own_lt h, .inl rfl⟩⟩
end
end Go.Eng

/- Engine, part B20: two Bools compared. -/
namespace Go.Eng
open Go Go.RowKit

section
variable {P : Program} {T : Tab} {ro : Cx} {n : Nat} {F : Fin} {w0 : World} {M : Nat → Prop} {k : List It} {ops : Array Oper} {rest : List Oper} {e : Env} {H Hq : List Ck}
def boolB (P : Program) (t : Nat) : Bool := match P.underlying t with | some .bool => true | _ => false
theorem boolB_eq {t : Nat} (h : boolB P t = true) : P.underlying t = some .bool := by
  unfold boolB at h
  split at h
  · assumption
  · cases h
theorem exec_eqb {a : Act} {d t t' : Nat} {x y : Operand} {p q : Bool} {ty : TypeId} {pos : String} {af : Array Edge} (hf : Fits n e a) (hx : opv e x = some (.bool p)) (hy : opv e y = some (.bool q)) (hB : boolB P t = true) (w : World) :
    (execOp a.eval ⟨some d, .binOp .eql t x y t', ty, pos, af, none⟩).run P w = .ok (.value (.bool (p == q))) w ∧ (execOp a.eval ⟨some d, .binOp .neq t x y t', ty, pos, af, none⟩).run P w = .ok (.value (.bool (!(p == q)))) w := by
  have e1 := hf.op hx
  have e2 := hf.op hy
  have hu := boolB_eq hB
  have h3 := run_equalIn_bool w 9999 t p q hu
  constructor <;> simp [execOp, e1, e2, eqGuard, binOp, Op.equal, Op.maxDepth, h3]
theorem ql_neb {d t t' : Nat} {x y : Operand} {p q : Bool} {ty : TypeId} {pos : String} {af : Array Edge} (hB : boolB P t = true) (hx : opv e x = some (.bool p)) (hy : opv e y = some (.bool q)) (hd : Nat.blt d n = true)
    (h : QL P ro n F w0 M k ops rest ((d, .bool (!(p == q))) :: e) H) : QL P ro n F w0 M k ops (⟨some d, .binOp .neq t x y t', ty, pos, af, none⟩ :: rest) e H := .mk fun w hw =>
  yl_val (by simp) hd (fun _ hf => (exec_eqb hf hx hy hB w).2) (h.h w hw)
end
end Go.Eng

/- The engine, part B21: ranges over functions that hand out memory of their own. -/
namespace Go.Eng
open Go Go.RowKit

section
variable {P : Program} {T : Tab}
variable {ro : Cx} {n : Nat} {F : Fin} {k : List It} {ops : Array Oper} {rest : List Oper} {e : Env} {w0 : World} {M : Nat → Prop} {H Hq : List Ck}

/-- At the world w the function gf, with what it has captured, is an iterator over xs, whose elements are handed out with pieces of memory; the body changes nothing but what lies in D, and these pieces. -/
def ItOkP {α β : Type} (P : Program) (gf : Nat) (lb : List Value) (enc : α → List Value) (val : α → β) (pc : α → List Ck) (xs : List β) (w : World) (D : Nat → Prop) : Prop :=
  ∀ (fv : Value) (σ : Type) (L : σ → List Ck) (I : List β → σ → Prop) (E : σ → Prop) (s0 : σ), oneV fv = true → I [] s0 → (∀ b, DL (L s0) b → D b) → Sat w (DL (L s0)) (L s0) w →
    (∀ pre x post s w', xs = pre ++ val x :: post → I pre s → Sat w (DL (L s0)) (L s ++ pc x) w' → CaF P fv (enc x) w' (fun v w'' => ∃ s', ((v = .bool true ∧ I (pre ++ [val x]) s') ∨ (v = .bool false ∧ E s')) ∧ Sat w' (DL (L s ++ pc x)) (L s') w'')) →
    Ca P gf (fv :: lb) w (fun _ w' => ∃ s', (I xs s' ∨ E s') ∧ Sat w (DL (L s0)) (L s') w')

/-- **for .. := range g { .. }**, over what is handed out with pieces of memory. -/
theorem q_rangeP {ds : List Deferred} {g : Operand} {ps : List Nat} {assign body : Code} {gf : Nat} {lb : Array Value} {α β : Type} (enc : α → List Value) (val : α → β) (pc : α → List Ck) (σ : Type) (xs : List β) (I : List β → σ → Prop) (E : Code → σ → Prop) (Hb : σ → List Ck) (R : List Ck) (s0 : σ)
    (hg : opv e g = some (.func (.func gf) #[] lb)) (hfn : fnB P gf = true) (hps : (ps.all fun p => Nat.blt p n) = true) (hlen : ∀ x, (enc x).length = ps.length) (hI0 : I [] s0) (hH : Sp H (Hb s0 ++ R))
    (it : ∀ w D, Sat w0 M (Hb s0 ++ R) w → (∀ b, D b → ¬ DL R b ∧ (M b ∨ w0.heap.size ≤ b)) → ItOkP P gf lb.toList enc val pc xs w D)
    (round : ∀ pre x post s w l (rdy bsy : Ck) (K : Act → World → Prop) (F' : Fin), xs = pre ++ val x :: post → I pre s → Sat w0 M ((Hb s ++ pc x) ++ R) w → (∀ w', ChgP (DL (rdy :: (Hb s ++ pc x))) w w' → Sat w0 M R w') →
      (∀ e' H', Q P ⟨some l, []⟩ n F' w (DL (rdy :: (Hb s ++ pc x))) [.code body] e' (bsy :: H') → Q P ⟨some l, []⟩ n (fun _ _ _ => False) w (DL (rdy :: (Hb s ++ pc x))) [.k K] e' (rdy :: H')) →
      (∀ e' H' s', I (pre ++ [val x]) s' → Sp H' (bsy :: Hb s') → Q P ⟨some l, []⟩ n F' w (DL (rdy :: (Hb s ++ pc x))) [] e' H') →
      (∀ e' H' s', E .ret s' → Sp H' (bsy :: Hb s') → Q P ⟨some l, []⟩ n (fun _ => F' .ret) w (DL (rdy :: (Hb s ++ pc x))) [] e' H') →
      (∀ id e' H' s', E (.exit id) s' → Sp H' (bsy :: Hb s') → Q P ⟨some l, []⟩ n (fun _ => F' (.exit id)) w (DL (rdy :: (Hb s ++ pc x))) [] e' H') →
      Q P ⟨some l, []⟩ n (fun _ _ _ => False) w (DL (rdy :: (Hb s ++ pc x))) [.code assign, .k K] ((ps.zip (enc x)).foldl (fun e p => p :: e) e) (rdy :: (Hb s ++ pc x)))
    (done : ∀ D s, I xs s → Q P ⟨none, mark D :: ds⟩ n F w0 M k e (dfr D :: (Hb s ++ R)))
    (stops : ∀ D s c, E c s → Q P ⟨none, mark D :: ds⟩ n F w0 M (.code c :: k) e (dfr D :: (Hb s ++ R))) :
    Q P ⟨none, ds⟩ n F w0 M (.code (.rangeFunc g ps.toArray assign body) :: k) e H := .mk fun w hsH a hfit hd => by
  have hs := hsH.sp hH
  have eg := hfit.op hg
  show (Code.rangeFunc g ps.toArray assign body).wpIn (FR none) 0 P (S P none F k) a w
  refine wpIn_rangeFunc ?_
  intro fn hfnF
  obtain ⟨rec, hrec⟩ : ∃ rec : LoopState → Option Code → Loop, rec = fun st pe => { state := st, pending := pe, fn, tmps := a.tmps, params := ps.toArray, assign, body, defers := w.heap.size } := ⟨_, rfl⟩
  have hW1 : (Instr.enterLoop fn a.tmps ps.toArray assign body none).run P w = .ok (w.heap.size + 1, [mark w.heap.size]) ((w.alloc (.deferred (some []))).alloc (.loop (rec .ready none))) := by
    rw [hrec]
    exact run_enterLoop_outer _ _ _ _ _
  generalize hl : w.heap.size + 1 = l at hW1
  generalize hD : w.heap.size = D at hW1
  have hne : D ≠ l := by omega
  have hs1 : Sat w0 M (obj2 l (.loop (rec .ready none)) D (.deferred (some [])) :: (Hb s0 ++ R)) ((w.alloc (.deferred (some []))).alloc (.loop (rec .ready none))) := by
    refine hs.add ((alloc_chg _ _).trans (alloc_chg _ _)) ⟨?_, ?_⟩ (fun b hb => ?_)
    · have := World.alloc_heap_new (w.alloc (.deferred (some []))) (.loop (rec .ready none))
      rw [World.size_alloc, hl] at this
      exact this
    · have h1 := (alloc_chg (w.alloc (.deferred (some []))) (.loop (rec .ready none))).block w.heap.size (by simp) (by simp)
      rw [← hD, h1]
      exact World.alloc_heap_new w _
    · simp only [World.size_alloc]
      rcases hb with rfl | rfl <;> omega
  generalize hWW : (w.alloc (.deferred (some []))).alloc (.loop (rec .ready none)) = W1 at hW1 hs1
  refine ⟨l, [mark D], W1, { target := .fn (.func gf) lb, args := #[.func (.yield l) #[] #[]] }, W1, gf, #[.func (.yield l) #[] #[]] ++ lb, W1, hW1, ?_, fun f _ => fr_fn f, ?_, fun hx => by simp [Fence.wide] at hx, ?_⟩
  · simp only [resolve, eg]
    simp [go_sem]
  · simp [invoke, run_callFuncB hfn]
  -- the iterator, over the states 'running' and 'stopped'
  let L : σ ⊕ (σ × Code) → List Ck := fun
    | .inl s => obj2 l (.loop (rec .ready none)) D (.deferred (some [])) :: Hb s
    | .inr (s, c) => obj2 l (.loop (rec .done (some c))) D (.deferred (some [])) :: Hb s
  have hit := it W1 (DL (L (.inl s0))) hs1.tail (fun b ⟨c, hc, hb⟩ => by
    have hp := List.pairwise_append.1 (show ((obj2 l (.loop (rec .ready none)) D (.deferred (some [])) :: Hb s0) ++ R).Pairwise _ from hs1.sep)
    exact ⟨fun ⟨c', hc', hb'⟩ => hp.2.2 c hc c' hc' b hb hb', (hs1.bd c (List.mem_append_left R hc) b hb).2⟩)
  have hself : Sat W1 (DL (L (.inl s0))) (L (.inl s0)) W1 := Sat.self (A := L (.inl s0)) (B := R) hs1
  have hcall := hit (.func (.yield l) #[] #[]) (σ ⊕ (σ × Code)) L (fun pre st => ∃ s, st = .inl s ∧ I pre s) (fun st => ∃ s c, st = .inr (s, c) ∧ E c s) (.inl s0) rfl ⟨s0, rfl, hI0⟩ (fun _ h => h) hself ?_
  · have hargs : #[Value.func (.yield l) #[] #[]] ++ lb = (Value.func (.yield l) #[] #[] :: lb.toList).toArray := by
      apply Array.ext'
      simp
    rw [hargs]
    refine callsIn_FR (Calls.mono hcall ?_)
    rintro x w' ⟨v, rfl, st, hst, hs'⟩
    have hs2 : Sat w0 M (L st ++ R) w' := Sat.call (L0 := L (.inl s0)) hs1 hs' (fun b hb => hb)
    have hdfr : ∀ {o : Obj} {s : σ} {w2 : World}, Sat w0 M (obj2 l o D (.deferred (some [])) :: (Hb s ++ R)) w2 → Sat w0 M (dfr D :: (Hb s ++ R)) w2 := fun {o s w2} h =>
      h.rep .z (Chg.refl [] _) (by simp) (h.all _ List.mem_cons_self : (obj2 l o D (.deferred (some []))).p w2).2 (fun b hb => ⟨.inl (.inr hb), (h.bd _ List.mem_cons_self b (.inr hb)).1⟩)
    rcases hst with ⟨s, rfl, hI⟩ | ⟨s, c, rfl, hE⟩
    · have hp : w'.heap[l]? = some (.loop (rec .ready none)) ∧ _ := hs2.all _ List.mem_cons_self
      have hr := run_endLoop (P := P) hp.1 (by rw [hrec]; simp)
      rw [show (rec .ready none).pending = none by rw [hrec]] at hr
      refine ⟨none, _, hr, ?_⟩
      exact done D s hI _ (hdfr (Sat.obj2 hs2 hne)) _ ⟨hfit.size, hfit.at_⟩ (by rw [hd]; rfl)
    · have hp : w'.heap[l]? = some (.loop (rec .done (some c))) ∧ _ := hs2.all _ List.mem_cons_self
      have hr := run_endLoop (P := P) hp.1 (by rw [hrec]; simp)
      rw [show (rec .done (some c)).pending = some c by rw [hrec]] at hr
      refine ⟨some c, _, hr, ?_⟩
      exact stops D s c hE _ (hdfr (Sat.obj2 hs2 hne)) _ ⟨hfit.size, hfit.at_⟩ (by rw [hd]; rfl)
  · rintro pre x post st w2 hx ⟨s, rfl, hI⟩ hs2
    have hp : w2.heap[l]? = some (.loop (rec .ready none)) ∧ _ := hs2.all _ List.mem_cons_self
    have hy := run_yield (P := P) (args := (enc x).toArray) hp.1 (by rw [hrec]; simpa using hlen x)
    refine .inr ⟨l, _, _, _, _, rfl, hy, fun r => ?_⟩
    rw [hrec]
    have hfull : Sat w0 M ((L (.inl s) ++ pc x) ++ R) w2 := Sat.call (L0 := L (.inl s0)) hs1 hs2 (fun b hb => hb)
    let F' : Fin := fun ex a w' => roundPost P l (fun e w'' => ∃ v, e = .returned v ∧ ∃ st', ((v = .bool true ∧ ∃ s, st' = .inl s ∧ I (pre ++ [val x]) s) ∨ (v = .bool false ∧ ∃ s c, st' = .inr (s, c) ∧ E c s)) ∧ Sat w2 (DL (L (.inl s) ++ pc x)) (L st') w'') ex a w'
    let K : Act → World → Prop := fun a1 w1 => ∃ w3, (Instr.beginRound l).run P w1 = .ok () w3 ∧ body.wpIn ((FR r).inRound l) 0 P F' a1 w3
    have hend : ∀ (j : Option Code) (s' : σ) (w4 : World), Sat w2 (DL (L (.inl s) ++ pc x)) (obj2 l (.loop (rec .busy none)) D (.deferred (some [])) :: Hb s') w4 →
        ∃ v w5, (Instr.endRound l j).run P w4 = .ok v w5 ∧ v = .bool j.isNone ∧ Sat w2 (DL (L (.inl s) ++ pc x)) (obj2 l (.loop (rec (if j.isNone then .ready else .done) j)) D (.deferred (some [])) :: Hb s') w5 := by
      intro j s' w4 h4
      have hp4 : w4.heap[l]? = some (.loop (rec .busy none)) ∧ _ := h4.all _ List.mem_cons_self
      have hr := run_endRound (P := P) j hp4.1
      refine ⟨_, _, hr, rfl, ?_⟩
      have h5 := Sat.obj2 (o2 := .loop (rec (if j.isNone then .ready else .done) j)) h4 hne
      rw [hrec] at h5 ⊢
      exact h5
    have key := round pre x post s w2 l (obj2 l (.loop (rec .ready none)) D (.deferred (some []))) (obj2 l (.loop (rec .busy none)) D (.deferred (some []))) K F' hx hI hfull.tail
      (fun w' hc => ?_) (fun e' H' hb => .mk fun w1 hw1 a1 hf1 hd1 => ?_) (fun e' H' s' hI' hsp => .mk fun w4 hw4 a4 hf4 hd4 => ?_) (fun e' H' s' hE' hsp => .mk fun w4 hw4 a4 hf4 hd4 => ?_) (fun id e' H' s' hE' hsp => .mk fun w4 hw4 a4 hf4 hd4 => ?_)
    · have h1 := key w2 (Sat.self (A := L (.inl s) ++ pc x) (B := R) hfull) _ (Fits.fold (ds := []) (ps.zip (enc x)) e a.tmps a.defers hfit (List.all_eq_true.2 fun p hp => List.all_eq_true.1 hps p.1 (List.of_mem_zip hp).1)) rfl
      refine roundIn_of_wpIn (fr_fn _) ?_
      have h2 : assign.wpIn ((FR r).inRound l) 0 P (Exit.then K (fun _ _ _ => False)) { tmps := (ps.zip (enc x)).foldl (fun t p => t.setIfInBounds p.1 p.2) a.tmps, defers := [] } w2 := h1
      simpa [K, F'] using h2
    · have hp3 := List.pairwise_append.1 hfull.sep
      refine ⟨hfull.chg.upP hc (fun b ⟨c, hc, hb⟩ => (hfull.bd c (List.mem_append_left _ hc) b hb).2), fun c hcR => Ck.st (hfull.all c (List.mem_append_right _ hcR)) hc (fun b hb ⟨c', hc', hb'⟩ => hp3.2.2 c' hc' c hcR b hb' hb), hp3.2.1, fun c hcR b hb => ?_⟩
      have := hfull.bd c (List.mem_append_right _ hcR) b hb
      exact ⟨Nat.lt_of_lt_of_le this.1 hc.size, this.2⟩
    · have hp1 : w1.heap[l]? = some (.loop (rec .ready none)) ∧ _ := hw1.all _ List.mem_cons_self
      have hr := run_beginRound (P := P) hp1.1 (by rw [hrec])
      refine ⟨_, hr, ?_⟩
      have h3 := Sat.obj2 (o2 := .loop (rec .busy none)) hw1 hne
      have h4 := hb _ h3 a1 hf1 hd1
      rw [hrec]
      rw [hrec] at h4
      exact h4
    · obtain ⟨v, w5, hr, hv, h5⟩ := hend none s' w4 (hw4.sp hsp)
      exact ⟨v, w5, hr, v, rfl, .inl s', .inl ⟨hv, s', rfl, hI'⟩, h5⟩
    · obtain ⟨v, w5, hr, hv, h5⟩ := hend (some .ret) s' w4 (hw4.sp hsp)
      exact ⟨v, w5, hr, v, rfl, .inr (s', .ret), .inr ⟨hv, s', .ret, rfl, hE'⟩, h5⟩
    · obtain ⟨v, w5, hr, hv, h5⟩ := hend (some (.exit id)) s' w4 (hw4.sp hsp)
      exact ⟨v, w5, hr, v, rfl, .inr (s', .exit id), .inr ⟨hv, s', .exit id, rfl, hE'⟩, h5⟩

end
end Go.Eng

/- Lists that can be read: of lists, of spans, of loops, of days. -/
namespace Go.Proofs.YtpknmgafambmbaaGreat
open Go Go.Eng

/-- A pair of numbers as a value. -/
abbrev rtV (q : Int × Int) : Value := .agg #[.int .i64 q.1, .int .i64 q.2]
abbrev lpV (l : Lp) : Value := .agg #[.int .i64 l.len, .int .i64 l.climb, .int .i64 l.wide]
abbrev dyV (d : Dy) : Value := .agg #[.int .i64 d.n0, .int .i64 d.n1, .int .i64 d.m0, .int .i64 d.m1, .int .i64 d.l0, .int .i64 d.l1]
abbrev RdS (w : World) (lo hi : Nat) (v : Value) (l : List (Int × Int)) : Prop := RdE w lo hi v 2 (l.map rtV)
abbrev RdL (w : World) (lo hi : Nat) (v : Value) (l : List Lp) : Prop := RdE w lo hi v 3 (l.map lpV)
abbrev RdD (w : World) (lo hi : Nat) (v : Value) (l : List Dy) : Prop := RdE w lo hi v 6 (l.map dyV)
/-- Their cells. -/
def spC (l : List (Int × Int)) : List Value := l.flatMap fun x => [.int .i64 x.1, .int .i64 x.2]
def lpC (l : List Lp) : List Value := l.flatMap fun x => [.int .i64 x.len, .int .i64 x.climb, .int .i64 x.wide]
def dyC (l : List Dy) : List Value := l.flatMap fun d => [.int .i64 d.n0, .int .i64 d.n1, .int .i64 d.m0, .int .i64 d.m1, .int .i64 d.l0, .int .i64 d.l1]

section
variable {w w' : World} {lo hi b off len cap : Nat} {v : Value}
theorem RdS.outI {l : List (Int × Int)} (h : RdS w lo hi v l) : ∃ a cap, v = .slice a l.length cap ∧ (0 < l.length → ∃ b off, a = some ⟨b, off, none⟩) := by
  have := RdE.out h
  simpa using this
theorem RdL.outI {l : List Lp} (h : RdL w lo hi v l) : ∃ a cap, v = .slice a l.length cap ∧ (0 < l.length → ∃ b off, a = some ⟨b, off, none⟩) := by
  have := RdE.out h
  simpa using this
theorem RdD.outI {l : List Dy} (h : RdD w lo hi v l) : ∃ a cap, v = .slice a l.length cap ∧ (0 < l.length → ∃ b off, a = some ⟨b, off, none⟩) := by
  have := RdE.out h
  simpa using this
theorem RdS.at {l : List (Int × Int)} (h : RdS w lo hi (.slice (some ⟨b, off, none⟩) len cap) l) (i : Nat) (hi : i < l.length) (j : Nat) (hj : j < 2) : w.cell? ⟨b, off + i * 2 + j, none⟩ = [Value.int .i64 l[i].1, Value.int .i64 l[i].2][j]? := by
  have := RdE.cell h i j (by simpa using hi) hj
  rw [this]
  simp [rtV, Value.cells]
theorem RdL.at {l : List Lp} (h : RdL w lo hi (.slice (some ⟨b, off, none⟩) len cap) l) (i : Nat) (hi : i < l.length) (j : Nat) (hj : j < 3) : w.cell? ⟨b, off + i * 3 + j, none⟩ = [Value.int .i64 l[i].len, Value.int .i64 l[i].climb, Value.int .i64 l[i].wide][j]? := by
  have := RdE.cell h i j (by simpa using hi) hj
  rw [this]
  simp [lpV, Value.cells]
theorem RdD.at {l : List Dy} (h : RdD w lo hi (.slice (some ⟨b, off, none⟩) len cap) l) (i : Nat) (hi : i < l.length) (j : Nat) (hj : j < 6) : w.cell? ⟨b, off + i * 6 + j, none⟩ = [Value.int .i64 l[i].n0, Value.int .i64 l[i].n1, Value.int .i64 l[i].m0, Value.int .i64 l[i].m1, Value.int .i64 l[i].l0, Value.int .i64 l[i].l1][j]? := by
  have := RdE.cell h i j (by simpa using hi) hj
  rw [this]
  simp [dyV, Value.cells]
theorem RdS.at0 {l : List (Int × Int)} (h : RdS w lo hi (.slice (some ⟨b, off, none⟩) len cap) l) (i : Nat) (hi : i < l.length) : w.cell? ⟨b, off + i * 2 + 0, none⟩ = some (.int .i64 l[i].1) := RdS.at h i hi 0 (by omega)
theorem RdS.at1 {l : List (Int × Int)} (h : RdS w lo hi (.slice (some ⟨b, off, none⟩) len cap) l) (i : Nat) (hi : i < l.length) : w.cell? ⟨b, off + i * 2 + 1, none⟩ = some (.int .i64 l[i].2) := RdS.at h i hi 1 (by omega)
theorem RdL.at0 {l : List Lp} (h : RdL w lo hi (.slice (some ⟨b, off, none⟩) len cap) l) (i : Nat) (hi : i < l.length) : w.cell? ⟨b, off + i * 3 + 0, none⟩ = some (.int .i64 l[i].len) := RdL.at h i hi 0 (by omega)
theorem RdL.at1 {l : List Lp} (h : RdL w lo hi (.slice (some ⟨b, off, none⟩) len cap) l) (i : Nat) (hi : i < l.length) : w.cell? ⟨b, off + i * 3 + 1, none⟩ = some (.int .i64 l[i].climb) := RdL.at h i hi 1 (by omega)
theorem RdL.at2 {l : List Lp} (h : RdL w lo hi (.slice (some ⟨b, off, none⟩) len cap) l) (i : Nat) (hi : i < l.length) : w.cell? ⟨b, off + i * 3 + 2, none⟩ = some (.int .i64 l[i].wide) := RdL.at h i hi 2 (by omega)
theorem cells_sp (l : List (Int × Int)) : cellsOf (l.map rtV) = spC l := by simp [cellsOf, spC, List.flatMap_map, Value.cells]
theorem cells_lp (l : List Lp) : cellsOf (l.map lpV) = lpC l := by simp [cellsOf, lpC, List.flatMap_map, Value.cells]
theorem cells_dy (l : List Dy) : cellsOf (l.map dyV) = dyC l := by simp [cellsOf, dyC, List.flatMap_map, Value.cells]
theorem spC_length (l : List (Int × Int)) : (spC l).length = l.length * 2 := by
  rw [← cells_sp, cellsOf_length (sz := 2)]
  · simp
  · intro e he; obtain ⟨x, _, rfl⟩ := List.mem_map.1 he; rfl
theorem dyC_length (l : List Dy) : (dyC l).length = l.length * 6 := by
  rw [← cells_dy, cellsOf_length (sz := 6)]
  · simp
  · intro e he; obtain ⟨x, _, rfl⟩ := List.mem_map.1 he; rfl
theorem RdS.row {l : List (Int × Int)} (h : RdS w lo hi v l) : Rd w lo hi v 2 l.length (spC l) := by
  have := h.rd
  rw [cells_sp, List.length_map] at this
  exact this
theorem RdL.row {l : List Lp} (h : RdL w lo hi v l) : Rd w lo hi v 3 l.length (lpC l) := by
  have := h.rd
  rw [cells_lp, List.length_map] at this
  exact this
theorem RdD.row {l : List Dy} (h : RdD w lo hi v l) : Rd w lo hi v 6 l.length (dyC l) := by
  have := h.rd
  rw [cells_dy, List.length_map] at this
  exact this
theorem RdS.of {l : List (Int × Int)} (h : Rd w lo hi v 2 l.length (spC l)) : RdS w lo hi v l := ⟨by rw [cells_sp, List.length_map]; exact h, fun e he => by obtain ⟨x, _, rfl⟩ := List.mem_map.1 he; rfl⟩
theorem RdL.of {l : List Lp} (h : Rd w lo hi v 3 l.length (lpC l)) : RdL w lo hi v l := ⟨by rw [cells_lp, List.length_map]; exact h, fun e he => by obtain ⟨x, _, rfl⟩ := List.mem_map.1 he; rfl⟩
theorem RdD.of {l : List Dy} (h : Rd w lo hi v 6 l.length (dyC l)) : RdD w lo hi v l := ⟨by rw [cells_dy, List.length_map]; exact h, fun e he => by obtain ⟨x, _, rfl⟩ := List.mem_map.1 he; rfl⟩
theorem own_rdI {t n : Nat} {l : List Int} (h : w.ownsRow 0 t 1 v n (ints l)) (hn : n = l.length) : RdI w 0 w.heap.size v l := by
  subst hn
  exact RdI.of (own_rd h)
theorem own_rdL {t n : Nat} {l : List Lp} (h : w.ownsRow 0 t 3 v n (lpC l)) (hn : n = l.length) : RdL w 0 w.heap.size v l := by
  subst hn
  exact RdL.of (own_rd h)
theorem own_one' {t sz m : Nat} {xs : List Value} (h : w.ownsRow 0 t sz v m xs) : oneV v = true := by
  obtain ⟨a, n, c, rfl⟩ := own_slice h
  rfl
end

/-- Lists of lists that can be read. -/
def RdII (w : World) (lo hi : Nat) (v : Value) (ll : List (List Int)) : Prop :=
  ∃ vs, RdE w lo hi v 1 vs ∧ vs.length = ll.length ∧ ∀ i (h : i < vs.length) (h' : i < ll.length), RdI w lo hi vs[i] ll[i]
theorem RdII.keep {w w' : World} {lo hi : Nat} {v : Value} {ll : List (List Int)} (h : RdII w lo hi v ll) (c : Chg [] w w') : RdII w' lo hi v ll := by
  obtain ⟨vs, h1, h2, h3⟩ := h
  exact ⟨vs, h1.keep c, h2, fun i hi hi' => (h3 i hi hi').keep c⟩
theorem RdII.outI {w : World} {lo hi : Nat} {v : Value} {ll : List (List Int)} (h : RdII w lo hi v ll) : ∃ a cap, v = .slice a ll.length cap ∧ (0 < ll.length → ∃ b off, a = some ⟨b, off, none⟩) := by
  obtain ⟨vs, h1, h2, h3⟩ := h
  have := RdE.out h1
  rwa [h2] at this
/-- One row. -/
theorem RdII.row {w : World} {lo hi : Nat} {b off len cap : Nat} {ll : List (List Int)} (h : RdII w lo hi (.slice (some ⟨b, off, none⟩) len cap) ll) (i : Nat) (hi' : i < ll.length) :
    ∃ a c, RdI w lo hi (.slice a ll[i].length c) ll[i] ∧ ∀ w', Chg [] w w' → w'.cell? ⟨b, off + i * 1, none⟩ = some (.slice a ll[i].length c) := by
  obtain ⟨vs, h1, h2, h3⟩ := h
  have h4 := h3 i (by omega) hi'
  obtain ⟨a, c, hv, _⟩ := RdI.outI h4
  refine ⟨a, c, hv ▸ h4, fun w' hw' => ?_⟩
  rw [RdE.cell1 (h1.keep hw') i (by omega) (by rw [hv]; rfl), hv]
/-- Rows of our own. -/
def rowsO (t : Nat) (xs : List (Value × List Int)) : List Ck := xs.map fun p => .ow p.1 t 1 p.2.length (ints p.2)
theorem rowsO_rd {w : World} {v : Value} {xs : List (Value × List Int)} {n t t2 : Nat} (hu : (un (rowsO t xs)).p w) (h1 : w.ownsRow 0 t2 1 v n (xs.map (·.1))) : RdII w 0 w.heap.size v (xs.map (·.2)) := by
  have hn : n = (xs.map (·.1)).length := by have := h1.1; omega
  have hp : ∀ p ∈ xs, w.ownsRow 0 t 1 p.1 p.2.length (ints p.2) := fun p hp => hu.1 (.ow p.1 t 1 p.2.length (ints p.2)) (List.mem_map.2 ⟨p, hp, rfl⟩)
  refine ⟨xs.map (·.1), RdE.one (by rw [← hn]; exact own_rd h1) (fun e he => by obtain ⟨p, hm, rfl⟩ := List.mem_map.1 he; exact own_one' (hp p hm)), by simp, fun i hi hi' => ?_⟩
  have hi2 : i < xs.length := by simpa using hi
  simp only [List.getElem_map]
  exact own_rdI (hp _ (List.getElem_mem hi2)) rfl
end Go.Proofs.YtpknmgafambmbaaGreat

/- Walks: IndexFunc, ContainsFunc, klister/course.all: alike for each element type. Written by gen_every.py. -/
namespace Go.Proofs.YtpknmgafambmbaaGreat
open Go Go.Eng

set_option maxHeartbeats 1000000 in
theorem idxF_int (w : World) (lo hi : Nat) (v cv : Value) (es : List Value) (p : Value → Bool) (hrd : RdE w lo hi v 1 es) (hone : ∀ i (hi : i < es.length), oneV es[i] = true) (hlen : es.length < 4611686018427387904) (hp : PredAt Tryz.prog tab w cv es p) :
    Ca Tryz.prog 113 [v, cv] w fun r w' => ((∃ i : Nat, r = .int .i64 i ∧ ∃ hi : i < es.length, p es[i] = true) ∨ (r = .int .i64 (-1) ∧ ∀ x ∈ es, p x = false)) ∧ Chg [] w w' := by
  obtain ⟨a, cap, rfl, hsl⟩ := hrd.out
  obtain ⟨g, first, caps, rfl, hg, hcl⟩ := hp
  refine ca_of Tryz.func113 rfl (by simp [Tryz.ntmps113]) ?_
  (refine y_seq (y_region (yl_pure tabOk rfl rfl (y_seq (y_seq (y_region ?_))))); (iterate 3 refine yl_pure tabOk rfl rfl ?_); refine y_block ?_)
  refine y_loop (fun m l wr => ∃ k : Nat, k ≤ es.length ∧ m = es.length - k ∧ l = [(0, .slice a es.length cap), (1, .func (.func g) first caps), (7, .int .i64 es.length), (8, .int .i64 k)] ∧ (∀ i (hi : i < es.length), i < k → p es[i] = false) ∧ Chg [] w wr) (m := es.length)
    ⟨0, by omega, rfl, rfl, fun i _ hi => by omega, Chg.refl _ _⟩ ⟨rfl, rfl, rfl, rfl, trivial⟩ ?_
  rintro m l wr ⟨k, hkl, rfl, rfl, hpk, hcw⟩ K hK
  (refine y_seq (y_region (yl_pure tabOk rfl rfl (y_seq ?_))))
  refine y_if rfl (fun hc => ?_) (fun hc => ?_)
  · have hk : k < es.length := by omega
    obtain ⟨b, off, rfl⟩ := hsl (by omega)
    (refine y_skip (y_seq (y_block (y_seq (y_region (yl_pure tabOk rfl rfl (yl_pure tabOk rfl rfl (y_seq (y_region ?_)))))))); (iterate 3 refine yl_pure tabOk rfl rfl ?_))
    refine yl_index tabOk rfl rfl rfl rfl rfl (by omega) (by omega) ?_
    refine yl_load1 tabOk rfl rfl rfl (v := es[k]) (by rw [show (Int.toNat (k : Int)) = k from rfl]; exact (hrd.keep hcw).cell1 k hk (hone k hk)) ?_
    refine yl_call tabOk rfl hg rfl rfl (hcl wr hcw es[k] (List.getElem_mem hk)) ?_
    rintro _ w2 ⟨rfl, hc2⟩
    (refine yl_nil ?_)
    refine y_cond rfl (fun hc => ?_) (fun hc => ?_)
    · (refine y_seq (y_region (yl_pure tabOk rfl rfl (yl_pure tabOk rfl rfl (y_ret ?_)))))
      exact y_fin1 rfl rfl ⟨.inl ⟨k, rfl, hk, hc⟩, hcw.trans hc2⟩
    · (refine y_skip (y_region (yl_pure tabOk rfl rfl (yl_pure tabOk rfl rfl (yl_nil ?_)))))
      refine y_k (hK _ _ _ _ ⟨k + 1, by omega, rfl, rfl, fun i hi hik => ?_, hcw.trans hc2⟩ (by omega) ⟨rfl, rfl, rfl, ?_, trivial⟩)
      · by_cases h : i < k
        · exact hpk i hi h
        · obtain rfl : i = k := by omega
          exact hc
      · show some (Value.int _ (IntKind.i64.wrap (↑k + 1))) = _
        rw [w64 (by omega) (by omega)]
        rfl
  · (refine y_exit _ rfl (y_seq (y_region (yl_pure tabOk rfl rfl (y_ret ?_)))))
    refine y_fin1 rfl rfl ⟨.inr ⟨rfl, fun x hx => ?_⟩, hcw⟩
    obtain ⟨i, hi, rfl⟩ := List.getElem_of_mem hx
    exact hpk i hi (by omega)

theorem conF_int (w : World) (lo hi : Nat) (v cv : Value) (es : List Value) (p : Value → Bool) (hrd : RdE w lo hi v 1 es) (hone : ∀ i (hi : i < es.length), oneV es[i] = true) (hlen : es.length < 4611686018427387904) (hp : PredAt Tryz.prog tab w cv es p) :
    Ca Tryz.prog 91 [v, cv] w fun r w' => r = .bool (es.any p) ∧ Chg [] w w' := by
  refine ca_of Tryz.func91 rfl (by simp [Tryz.ntmps91]) ?_
  (refine y_seq (y_region (yl_pure tabOk rfl rfl (y_seq (y_region (yl_pure tabOk rfl rfl (yl_pure tabOk rfl rfl ?_)))))))
  refine yl_call tabOk rfl rfl rfl rfl (idxF_int w lo hi v cv es p hrd hone hlen hp) ?_
  rintro r w2 ⟨⟨i, rfl, hi, hpi⟩ | ⟨rfl, hall⟩, hc2⟩
  · (refine yl_pure tabOk rfl rfl (yl_pure tabOk rfl rfl (y_ret ?_)))
    refine y_fin1 rfl rfl ⟨?_, hc2⟩
    have h1 : es.any p = true := List.any_eq_true.2 ⟨_, List.getElem_mem hi, hpi⟩
    rw [h1]
    exact congrArg Value.bool (decide_eq_true (by omega))
  · (refine yl_pure tabOk rfl rfl (yl_pure tabOk rfl rfl (y_ret ?_)))
    refine y_fin1 rfl rfl ⟨?_, hc2⟩
    have h1 : es.any p = false := List.any_eq_false.2 (fun x hx => by simp [hall x hx])
    rw [h1]
    rfl

theorem all1_int (w : World) (b t : Nat) (cv x : Value) (es : List Value) (p : Value → Bool) (_hx : oneV x = true) (hm : x ∈ es) (hb : Blk w b [cv] t) (hp : PredAt Tryz.prog tab w cv es p) :
    Ca Tryz.prog 92 [x, .pointer (some ⟨b, 0, none⟩)] w fun r w' => r = .bool (!(p x)) ∧ Chg [] w w' := by
  obtain ⟨g, first, caps, rfl, hg, hcl⟩ := hp
  refine ca_of Tryz.func92 rfl (by simp [Tryz.ntmps92]) ?_
  (refine y_seq (y_region (yl_pure tabOk rfl rfl (y_seq (y_region ?_)))); refine yl_loadB tabOk rfl rfl rfl (by assumption) (by rfl) ?_; refine yl_pure tabOk rfl rfl ?_)
  refine yl_call tabOk rfl hg rfl rfl (hcl w (Chg.refl _ _) _ hm) ?_
  rintro _ w2 ⟨rfl, hc2⟩
  (refine yl_pure tabOk rfl rfl (yl_pure tabOk rfl rfl (y_ret ?_)))
  exact y_fin1 rfl rfl ⟨rfl, hc2⟩

theorem all_int (w : World) (lo hi : Nat) (v cv : Value) (es : List Value) (p : Value → Bool) (hrd : RdE w lo hi v 1 es) (hone : ∀ i (hi : i < es.length), oneV es[i] = true) (hlen : es.length < 4611686018427387904) (hp : PredAt Tryz.prog tab w cv es p) :
    Ca Tryz.prog 75 [v, cv] w fun r w' => r = .bool (es.all p) ∧ Chg [] w w' := by
  refine ca_of Tryz.func75 rfl (by simp [Tryz.ntmps75]) ?_
  (refine y_seq (y_region ?_))
  refine yl_box rfl rfl (fun w1 hc1 hs1 hb1 => ?_)
  have hcv : cv.cells.toList = [cv] := by obtain ⟨g, first, caps, rfl, _, _⟩ := hp; rfl
  rw [hcv] at hb1
  have hp1 : PredAt Tryz.prog tab w1 (.func (.func 92) #[] #[.pointer (some ⟨w.heap.size, 0, none⟩)]) es (fun x => !(p x)) := by
    refine ⟨92, #[], #[_], rfl, rfl, fun w' hw' x hx => ?_⟩
    refine all1_int w' w.heap.size _ cv x es p ?_ hx (hb1.keep hw') (hp.keep (hc1.trans hw'))
    obtain ⟨i, hi, rfl⟩ := List.getElem_of_mem hx
    exact hone i hi
  (refine yl_pure tabOk rfl rfl (y_seq (y_region (yl_pure tabOk rfl rfl (yl_pure tabOk rfl rfl ?_)))))
  refine yl_call tabOk rfl rfl rfl rfl (conF_int w1 lo hi v _ es _ (hrd.keep hc1) hone hlen hp1) ?_
  rintro _ w2 ⟨rfl, hc2⟩
  (refine yl_pure tabOk rfl rfl (yl_pure tabOk rfl rfl (y_ret ?_)))
  refine y_fin1 rfl rfl ⟨?_, hc1.trans hc2⟩
  rw [List.all_eq_not_any_not]


set_option maxHeartbeats 1000000 in
theorem idxF_loop (w : World) (lo hi : Nat) (v cv : Value) (es : List Value) (p : Value → Bool) (hrd : RdE w lo hi v 3 es) (hagg : ∀ i (hi : i < es.length), ∃ c, es[i] = .agg c) (hlen : es.length < 4611686018427387904) (hp : PredAt Tryz.prog tab w cv es p) :
    Ca Tryz.prog 107 [v, cv] w fun r w' => ((∃ i : Nat, r = .int .i64 i ∧ ∃ hi : i < es.length, p es[i] = true) ∨ (r = .int .i64 (-1) ∧ ∀ x ∈ es, p x = false)) ∧ Chg [] w w' := by
  obtain ⟨a, cap, rfl, hsl⟩ := hrd.out
  obtain ⟨g, first, caps, rfl, hg, hcl⟩ := hp
  refine ca_of Tryz.func107 rfl (by simp [Tryz.ntmps107]) ?_
  (refine y_seq (y_region (yl_pure tabOk rfl rfl (y_seq (y_seq (y_region ?_))))); (iterate 3 refine yl_pure tabOk rfl rfl ?_); refine y_block ?_)
  refine y_loop (fun m l wr => ∃ k : Nat, k ≤ es.length ∧ m = es.length - k ∧ l = [(0, .slice a es.length cap), (1, .func (.func g) first caps), (7, .int .i64 es.length), (8, .int .i64 k)] ∧ (∀ i (hi : i < es.length), i < k → p es[i] = false) ∧ Chg [] w wr) (m := es.length)
    ⟨0, by omega, rfl, rfl, fun i _ hi => by omega, Chg.refl _ _⟩ ⟨rfl, rfl, rfl, rfl, trivial⟩ ?_
  rintro m l wr ⟨k, hkl, rfl, rfl, hpk, hcw⟩ K hK
  (refine y_seq (y_region (yl_pure tabOk rfl rfl (y_seq ?_))))
  refine y_if rfl (fun hc => ?_) (fun hc => ?_)
  · have hk : k < es.length := by omega
    obtain ⟨b, off, rfl⟩ := hsl (by omega)
    (refine y_skip (y_seq (y_block (y_seq (y_region (yl_pure tabOk rfl rfl (yl_pure tabOk rfl rfl (y_seq (y_region ?_)))))))); (iterate 3 refine yl_pure tabOk rfl rfl ?_))
    refine yl_index tabOk rfl rfl rfl rfl rfl (by omega) (by omega) ?_
    refine yl_loadA tabOk rfl rfl rfl (cs := es[k].cells.toList) (by simpa using hrd.sz es[k] (List.getElem_mem hk)) (fun j hj => (hrd.keep hcw).cell k j hk hj) ?_
    have hval : Value.agg es[k].cells.toList.toArray = es[k] := by
      obtain ⟨c, hc⟩ := hagg k hk
      rw [hc]; simp [Value.cells]
    rw [hval]
    refine yl_call tabOk rfl hg rfl rfl (hcl wr hcw es[k] (List.getElem_mem hk)) ?_
    rintro _ w2 ⟨rfl, hc2⟩
    (refine yl_nil ?_)
    refine y_cond rfl (fun hc => ?_) (fun hc => ?_)
    · (refine y_seq (y_region (yl_pure tabOk rfl rfl (yl_pure tabOk rfl rfl (y_ret ?_)))))
      exact y_fin1 rfl rfl ⟨.inl ⟨k, rfl, hk, hc⟩, hcw.trans hc2⟩
    · (refine y_skip (y_region (yl_pure tabOk rfl rfl (yl_pure tabOk rfl rfl (yl_nil ?_)))))
      refine y_k (hK _ _ _ _ ⟨k + 1, by omega, rfl, rfl, fun i hi hik => ?_, hcw.trans hc2⟩ (by omega) ⟨rfl, rfl, rfl, ?_, trivial⟩)
      · by_cases h : i < k
        · exact hpk i hi h
        · obtain rfl : i = k := by omega
          exact hc
      · show some (Value.int _ (IntKind.i64.wrap (↑k + 1))) = _
        rw [w64 (by omega) (by omega)]
        rfl
  · (refine y_exit _ rfl (y_seq (y_region (yl_pure tabOk rfl rfl (y_ret ?_)))))
    refine y_fin1 rfl rfl ⟨.inr ⟨rfl, fun x hx => ?_⟩, hcw⟩
    obtain ⟨i, hi, rfl⟩ := List.getElem_of_mem hx
    exact hpk i hi (by omega)

theorem conF_loop (w : World) (lo hi : Nat) (v cv : Value) (es : List Value) (p : Value → Bool) (hrd : RdE w lo hi v 3 es) (hagg : ∀ i (hi : i < es.length), ∃ c, es[i] = .agg c) (hlen : es.length < 4611686018427387904) (hp : PredAt Tryz.prog tab w cv es p) :
    Ca Tryz.prog 82 [v, cv] w fun r w' => r = .bool (es.any p) ∧ Chg [] w w' := by
  refine ca_of Tryz.func82 rfl (by simp [Tryz.ntmps82]) ?_
  (refine y_seq (y_region (yl_pure tabOk rfl rfl (y_seq (y_region (yl_pure tabOk rfl rfl (yl_pure tabOk rfl rfl ?_)))))))
  refine yl_call tabOk rfl rfl rfl rfl (idxF_loop w lo hi v cv es p hrd hagg hlen hp) ?_
  rintro r w2 ⟨⟨i, rfl, hi, hpi⟩ | ⟨rfl, hall⟩, hc2⟩
  · (refine yl_pure tabOk rfl rfl (yl_pure tabOk rfl rfl (y_ret ?_)))
    refine y_fin1 rfl rfl ⟨?_, hc2⟩
    have h1 : es.any p = true := List.any_eq_true.2 ⟨_, List.getElem_mem hi, hpi⟩
    rw [h1]
    exact congrArg Value.bool (decide_eq_true (by omega))
  · (refine yl_pure tabOk rfl rfl (yl_pure tabOk rfl rfl (y_ret ?_)))
    refine y_fin1 rfl rfl ⟨?_, hc2⟩
    have h1 : es.any p = false := List.any_eq_false.2 (fun x hx => by simp [hall x hx])
    rw [h1]
    rfl

theorem all1_loop (w : World) (b t : Nat) (cv x : Value) (es : List Value) (p : Value → Bool) (hx : ∃ c, x = .agg c ∧ c.size = 3) (hm : x ∈ es) (hb : Blk w b [cv] t) (hp : PredAt Tryz.prog tab w cv es p) :
    Ca Tryz.prog 83 [x, .pointer (some ⟨b, 0, none⟩)] w fun r w' => r = .bool (!(p x)) ∧ Chg [] w w' := by
  obtain ⟨g, first, caps, rfl, hg, hcl⟩ := hp
  obtain ⟨c, rfl, hcs⟩ := hx
  refine ca_of Tryz.func83 rfl (by simp [Tryz.ntmps83]) ?_
  (refine y_seq (y_region ?_))
  refine yl_box rfl rfl (fun w1 hc1 hs1 hb1 => ?_)
  have hb' := hb.keep hc1
  (refine yl_pure tabOk rfl rfl (y_seq (y_region ?_)); refine yl_loadB tabOk rfl rfl rfl (by assumption) (by rfl) ?_)
  refine yl_loadAB tabOk rfl rfl rfl hb1 (us := c.toList) (List.take_of_length_le (by simp [Value.cells, hcs])) (by simpa using hcs) ?_
  refine yl_call tabOk rfl hg rfl rfl (hcl w1 hc1 _ hm) ?_
  rintro _ w2 ⟨rfl, hc2⟩
  (refine yl_pure tabOk rfl rfl (yl_pure tabOk rfl rfl (y_ret ?_)))
  exact y_fin1 rfl rfl ⟨rfl, hc1.trans hc2⟩

theorem all_loop (w : World) (lo hi : Nat) (v cv : Value) (es : List Value) (p : Value → Bool) (hrd : RdE w lo hi v 3 es) (hagg : ∀ i (hi : i < es.length), ∃ c, es[i] = .agg c) (hlen : es.length < 4611686018427387904) (hp : PredAt Tryz.prog tab w cv es p) :
    Ca Tryz.prog 59 [v, cv] w fun r w' => r = .bool (es.all p) ∧ Chg [] w w' := by
  refine ca_of Tryz.func59 rfl (by simp [Tryz.ntmps59]) ?_
  (refine y_seq (y_region ?_))
  refine yl_box rfl rfl (fun w1 hc1 hs1 hb1 => ?_)
  have hcv : cv.cells.toList = [cv] := by obtain ⟨g, first, caps, rfl, _, _⟩ := hp; rfl
  rw [hcv] at hb1
  have hp1 : PredAt Tryz.prog tab w1 (.func (.func 83) #[] #[.pointer (some ⟨w.heap.size, 0, none⟩)]) es (fun x => !(p x)) := by
    refine ⟨83, #[], #[_], rfl, rfl, fun w' hw' x hx => ?_⟩
    refine all1_loop w' w.heap.size _ cv x es p ?_ hx (hb1.keep hw') (hp.keep (hc1.trans hw'))
    obtain ⟨i, hi, rfl⟩ := List.getElem_of_mem hx
    obtain ⟨c, hc⟩ := hagg i hi; exact ⟨c, hc, by have := hrd.sz _ hx; rw [hc] at this; exact this⟩
  (refine yl_pure tabOk rfl rfl (y_seq (y_region (yl_pure tabOk rfl rfl (yl_pure tabOk rfl rfl ?_)))))
  refine yl_call tabOk rfl rfl rfl rfl (conF_loop w1 lo hi v _ es _ (hrd.keep hc1) hagg hlen hp1) ?_
  rintro _ w2 ⟨rfl, hc2⟩
  (refine yl_pure tabOk rfl rfl (yl_pure tabOk rfl rfl (y_ret ?_)))
  refine y_fin1 rfl rfl ⟨?_, hc1.trans hc2⟩
  rw [List.all_eq_not_any_not]


set_option maxHeartbeats 1000000 in
theorem idxF_day (w : World) (lo hi : Nat) (v cv : Value) (es : List Value) (p : Value → Bool) (hrd : RdE w lo hi v 6 es) (hagg : ∀ i (hi : i < es.length), ∃ c, es[i] = .agg c) (hlen : es.length < 4611686018427387904) (hp : PredAt Tryz.prog tab w cv es p) :
    Ca Tryz.prog 90 [v, cv] w fun r w' => ((∃ i : Nat, r = .int .i64 i ∧ ∃ hi : i < es.length, p es[i] = true) ∨ (r = .int .i64 (-1) ∧ ∀ x ∈ es, p x = false)) ∧ Chg [] w w' := by
  obtain ⟨a, cap, rfl, hsl⟩ := hrd.out
  obtain ⟨g, first, caps, rfl, hg, hcl⟩ := hp
  refine ca_of Tryz.func90 rfl (by simp [Tryz.ntmps90]) ?_
  (refine y_seq (y_region (yl_pure tabOk rfl rfl (y_seq (y_seq (y_region ?_))))); (iterate 3 refine yl_pure tabOk rfl rfl ?_); refine y_block ?_)
  refine y_loop (fun m l wr => ∃ k : Nat, k ≤ es.length ∧ m = es.length - k ∧ l = [(0, .slice a es.length cap), (1, .func (.func g) first caps), (7, .int .i64 es.length), (8, .int .i64 k)] ∧ (∀ i (hi : i < es.length), i < k → p es[i] = false) ∧ Chg [] w wr) (m := es.length)
    ⟨0, by omega, rfl, rfl, fun i _ hi => by omega, Chg.refl _ _⟩ ⟨rfl, rfl, rfl, rfl, trivial⟩ ?_
  rintro m l wr ⟨k, hkl, rfl, rfl, hpk, hcw⟩ K hK
  (refine y_seq (y_region (yl_pure tabOk rfl rfl (y_seq ?_))))
  refine y_if rfl (fun hc => ?_) (fun hc => ?_)
  · have hk : k < es.length := by omega
    obtain ⟨b, off, rfl⟩ := hsl (by omega)
    (refine y_skip (y_seq (y_block (y_seq (y_region (yl_pure tabOk rfl rfl (yl_pure tabOk rfl rfl (y_seq (y_region ?_)))))))); (iterate 3 refine yl_pure tabOk rfl rfl ?_))
    refine yl_index tabOk rfl rfl rfl rfl rfl (by omega) (by omega) ?_
    refine yl_loadA tabOk rfl rfl rfl (cs := es[k].cells.toList) (by simpa using hrd.sz es[k] (List.getElem_mem hk)) (fun j hj => (hrd.keep hcw).cell k j hk hj) ?_
    have hval : Value.agg es[k].cells.toList.toArray = es[k] := by
      obtain ⟨c, hc⟩ := hagg k hk
      rw [hc]; simp [Value.cells]
    rw [hval]
    refine yl_call tabOk rfl hg rfl rfl (hcl wr hcw es[k] (List.getElem_mem hk)) ?_
    rintro _ w2 ⟨rfl, hc2⟩
    (refine yl_nil ?_)
    refine y_cond rfl (fun hc => ?_) (fun hc => ?_)
    · (refine y_seq (y_region (yl_pure tabOk rfl rfl (yl_pure tabOk rfl rfl (y_ret ?_)))))
      exact y_fin1 rfl rfl ⟨.inl ⟨k, rfl, hk, hc⟩, hcw.trans hc2⟩
    · (refine y_skip (y_region (yl_pure tabOk rfl rfl (yl_pure tabOk rfl rfl (yl_nil ?_)))))
      refine y_k (hK _ _ _ _ ⟨k + 1, by omega, rfl, rfl, fun i hi hik => ?_, hcw.trans hc2⟩ (by omega) ⟨rfl, rfl, rfl, ?_, trivial⟩)
      · by_cases h : i < k
        · exact hpk i hi h
        · obtain rfl : i = k := by omega
          exact hc
      · show some (Value.int _ (IntKind.i64.wrap (↑k + 1))) = _
        rw [w64 (by omega) (by omega)]
        rfl
  · (refine y_exit _ rfl (y_seq (y_region (yl_pure tabOk rfl rfl (y_ret ?_)))))
    refine y_fin1 rfl rfl ⟨.inr ⟨rfl, fun x hx => ?_⟩, hcw⟩
    obtain ⟨i, hi, rfl⟩ := List.getElem_of_mem hx
    exact hpk i hi (by omega)

theorem conF_day (w : World) (lo hi : Nat) (v cv : Value) (es : List Value) (p : Value → Bool) (hrd : RdE w lo hi v 6 es) (hagg : ∀ i (hi : i < es.length), ∃ c, es[i] = .agg c) (hlen : es.length < 4611686018427387904) (hp : PredAt Tryz.prog tab w cv es p) :
    Ca Tryz.prog 72 [v, cv] w fun r w' => r = .bool (es.any p) ∧ Chg [] w w' := by
  refine ca_of Tryz.func72 rfl (by simp [Tryz.ntmps72]) ?_
  (refine y_seq (y_region (yl_pure tabOk rfl rfl (y_seq (y_region (yl_pure tabOk rfl rfl (yl_pure tabOk rfl rfl ?_)))))))
  refine yl_call tabOk rfl rfl rfl rfl (idxF_day w lo hi v cv es p hrd hagg hlen hp) ?_
  rintro r w2 ⟨⟨i, rfl, hi, hpi⟩ | ⟨rfl, hall⟩, hc2⟩
  · (refine yl_pure tabOk rfl rfl (yl_pure tabOk rfl rfl (y_ret ?_)))
    refine y_fin1 rfl rfl ⟨?_, hc2⟩
    have h1 : es.any p = true := List.any_eq_true.2 ⟨_, List.getElem_mem hi, hpi⟩
    rw [h1]
    exact congrArg Value.bool (decide_eq_true (by omega))
  · (refine yl_pure tabOk rfl rfl (yl_pure tabOk rfl rfl (y_ret ?_)))
    refine y_fin1 rfl rfl ⟨?_, hc2⟩
    have h1 : es.any p = false := List.any_eq_false.2 (fun x hx => by simp [hall x hx])
    rw [h1]
    rfl

theorem all1_day (w : World) (b t : Nat) (cv x : Value) (es : List Value) (p : Value → Bool) (hx : ∃ c, x = .agg c ∧ c.size = 6) (hm : x ∈ es) (hb : Blk w b [cv] t) (hp : PredAt Tryz.prog tab w cv es p) :
    Ca Tryz.prog 73 [x, .pointer (some ⟨b, 0, none⟩)] w fun r w' => r = .bool (!(p x)) ∧ Chg [] w w' := by
  obtain ⟨g, first, caps, rfl, hg, hcl⟩ := hp
  obtain ⟨c, rfl, hcs⟩ := hx
  refine ca_of Tryz.func73 rfl (by simp [Tryz.ntmps73]) ?_
  (refine y_seq (y_region ?_))
  refine yl_box rfl rfl (fun w1 hc1 hs1 hb1 => ?_)
  have hb' := hb.keep hc1
  (refine yl_pure tabOk rfl rfl (y_seq (y_region ?_)); refine yl_loadB tabOk rfl rfl rfl (by assumption) (by rfl) ?_)
  refine yl_loadAB tabOk rfl rfl rfl hb1 (us := c.toList) (List.take_of_length_le (by simp [Value.cells, hcs])) (by simpa using hcs) ?_
  refine yl_call tabOk rfl hg rfl rfl (hcl w1 hc1 _ hm) ?_
  rintro _ w2 ⟨rfl, hc2⟩
  (refine yl_pure tabOk rfl rfl (yl_pure tabOk rfl rfl (y_ret ?_)))
  exact y_fin1 rfl rfl ⟨rfl, hc1.trans hc2⟩

theorem all_day (w : World) (lo hi : Nat) (v cv : Value) (es : List Value) (p : Value → Bool) (hrd : RdE w lo hi v 6 es) (hagg : ∀ i (hi : i < es.length), ∃ c, es[i] = .agg c) (hlen : es.length < 4611686018427387904) (hp : PredAt Tryz.prog tab w cv es p) :
    Ca Tryz.prog 50 [v, cv] w fun r w' => r = .bool (es.all p) ∧ Chg [] w w' := by
  refine ca_of Tryz.func50 rfl (by simp [Tryz.ntmps50]) ?_
  (refine y_seq (y_region ?_))
  refine yl_box rfl rfl (fun w1 hc1 hs1 hb1 => ?_)
  have hcv : cv.cells.toList = [cv] := by obtain ⟨g, first, caps, rfl, _, _⟩ := hp; rfl
  rw [hcv] at hb1
  have hp1 : PredAt Tryz.prog tab w1 (.func (.func 73) #[] #[.pointer (some ⟨w.heap.size, 0, none⟩)]) es (fun x => !(p x)) := by
    refine ⟨73, #[], #[_], rfl, rfl, fun w' hw' x hx => ?_⟩
    refine all1_day w' w.heap.size _ cv x es p ?_ hx (hb1.keep hw') (hp.keep (hc1.trans hw'))
    obtain ⟨i, hi, rfl⟩ := List.getElem_of_mem hx
    obtain ⟨c, hc⟩ := hagg i hi; exact ⟨c, hc, by have := hrd.sz _ hx; rw [hc] at this; exact this⟩
  (refine yl_pure tabOk rfl rfl (y_seq (y_region (yl_pure tabOk rfl rfl (yl_pure tabOk rfl rfl ?_)))))
  refine yl_call tabOk rfl rfl rfl rfl (conF_day w1 lo hi v _ es _ (hrd.keep hc1) hagg hlen hp1) ?_
  rintro _ w2 ⟨rfl, hc2⟩
  (refine yl_pure tabOk rfl rfl (yl_pure tabOk rfl rfl (y_ret ?_)))
  refine y_fin1 rfl rfl ⟨?_, hc1.trans hc2⟩
  rw [List.all_eq_not_any_not]

end Go.Proofs.YtpknmgafambmbaaGreat

/- Walks: course's small functions; the errors of stadiums, rules and courses. -/
namespace Go.Proofs.YtpknmgafambmbaaGreat
open Go Go.Eng

theorem within_ca (n lo hi : Int) (w : World) : Ca Tryz.prog 26 [.int .i64 n, .int .i64 lo, .int .i64 hi] w fun v w' => v = .bool (wiB n lo hi) ∧ Chg [] w w' := by
  refine q_of (Sat.nil w M0) Tryz.func26 rfl (by simp [Tryz.ntmps26]) ?_
  (refine q_seq (q_region (ql_pure tabOk rfl rfl (q_nil (q_seq (q_region ?_))))); (iterate 4 refine ql_pure tabOk rfl rfl ?_))
  refine ql_split rfl rfl (fun hc => ?_) (fun hc => ?_)
  · (refine ql_gyes rfl (ql_pure tabOk rfl rfl (ql_gyes rfl (ql_pure tabOk rfl rfl (ql_gyes rfl ?_)))); (iterate 3 refine ql_pure tabOk rfl rfl ?_); refine q_nil (q_ret ?_))
    refine q_fin tabOk rfl (by repeat constructor) fun w hs => ?_
    exact ⟨by simp at hc; simp [wiB, hc, retV], hs.chg0⟩
  · ((iterate 3 refine ql_gno rfl rfl rfl ?_); refine ql_pure tabOk rfl rfl (ql_pure tabOk rfl rfl (q_nil (q_ret ?_))))
    refine q_fin tabOk rfl (by repeat constructor) fun w hs => ?_
    exact ⟨by simp at hc; simp [wiB, retV]; omega, hs.chg0⟩
theorem spn_ca (a b g : Int) (w : World) : Ca Tryz.prog 40 [.agg #[.int .i64 a, .int .i64 b], .int .i64 g] w fun v w' => v = .bool (spnB a b g) ∧ Chg [] w w' := by
  refine q_of (Sat.nil w M0) Tryz.func40 rfl (by simp [Tryz.ntmps40]) ?_
  (refine q_seq (q_region ?_))
  refine ql_box rfl rfl (fun b2 => ?_)
  (refine ql_pure tabOk rfl rfl (q_nil (q_seq (q_region (ql_pure tabOk rfl rfl ?_)))); refine ql_loadBa tabOk rfl rfl rfl ?_; refine ql_pure tabOk rfl rfl ?_; refine ql_loadBa tabOk rfl rfl rfl ?_)
  refine ql_callv (val := .bool (wiB a 0 b)) tabOk rfl rfl rfl rfl (fun w hs => ?_) ?_; exact within_ca a 0 b w
  (refine ql_pure tabOk rfl rfl ?_)
  refine ql_split rfl rfl (fun hc => ?_) (fun hc => ?_)
  · (refine ql_gyes rfl (ql_pure tabOk rfl rfl (ql_gyes rfl ?_)); refine ql_loadBa tabOk rfl rfl rfl ?_; refine ql_gyes rfl (ql_pure tabOk rfl rfl (ql_gyes rfl ?_)); (iterate 3 refine ql_pure tabOk rfl rfl ?_); refine q_nil (q_ret ?_))
    refine q_fin tabOk rfl (by repeat constructor) fun w hs => ?_
    exact ⟨by simp [wiB] at hc; simp [spnB, hc, retV], hs.chg0⟩
  · ((iterate 4 refine ql_gno rfl rfl rfl ?_); refine ql_pure tabOk rfl rfl (ql_pure tabOk rfl rfl (q_nil (q_ret ?_))))
    refine q_fin tabOk rfl (by repeat constructor) fun w hs => ?_
    exact ⟨by simp [wiB] at hc; simp [spnB, retV]; omega, hs.chg0⟩
theorem sum_ca (w : World) (lo hi : Nat) (v : Value) (l : List Int) (h : RdI w lo hi v l) (hlen : l.length < 1000000) (hb : ∀ k, k ≤ l.length → -1000000000 ≤ (l.take k).sum ∧ (l.take k).sum ≤ 1000000000) :
    Ca Tryz.prog 44 [v] w fun r w' => r = .int .i64 l.sum ∧ Chg [] w w' := by
  obtain ⟨a, cap, rfl, hs⟩ := h.outI
  refine q_of (Sat.nil w M0) Tryz.func44 rfl (by simp [Tryz.ntmps44]) ?_
  (refine q_seq (q_region (ql_pure tabOk rfl rfl (q_nil (q_seq (q_region (ql_pure tabOk rfl rfl (q_nil (q_seq (q_seq (q_region ?_)))))))))); (iterate 3 refine ql_pure tabOk rfl rfl ?_); refine q_nil (q_block ?_))
  refine q_loop (σ := Nat) (fun k => k ≤ l.length) (fun k => l.length - k) (fun k => [(3, .int .i64 (l.take k).sum), (6, .slice a l.length cap), (7, .int .i64 l.length), (8, .int .i64 k)]) (fun _ => []) 0 (by omega) ⟨rfl, rfl, rfl, rfl, trivial⟩ .nil ?_
  intro k hk K hK
  (refine q_seq (q_region (ql_pure tabOk rfl rfl (q_nil (q_seq ?_)))))
  refine q_if rfl (fun hc => ?_) (fun hc => ?_)
  · have hk : k < l.length := by omega
    obtain ⟨b, off, rfl⟩ := hs (by omega)
    have h1 := hb k (by omega)
    have h2 := hb (k + 1) (by omega)
    have e : (l.take (k + 1)).sum = (l.take k).sum + l[k] := by rw [List.take_succ_eq_append_getElem hk, List.sum_append]; simp
    (refine q_skip (q_seq (q_block (q_seq (q_region ?_)))))
    (refine ql_index tabOk rfl rfl rfl rfl rfl (by omega) (by omega) ?_; refine ql_load1 tabOk rfl rfl rfl (fun w hs => RdI.at (h.keep hs.chg0) k hk) ?_)
    (refine ql_pure tabOk rfl rfl (q_nil (q_region (ql_pure tabOk rfl rfl (ql_pure tabOk rfl rfl (ql_ar tabOk rfl rfl rfl rfl (by omega) (by omega) (ql_pure tabOk rfl rfl (q_nil (q_blk (q_region (ql_ar tabOk rfl rfl rfl rfl (by omega) (by omega) (ql_pure tabOk rfl rfl ?_))))))))))); refine q_nil ?_)
    exact hK (k + 1) _ _ (by omega) (by omega) ⟨by rw [e]; rfl, rfl, rfl, rfl, trivial⟩ (by repeat constructor)
  · obtain rfl : k = l.length := by omega
    (refine q_exit _ rfl (q_seq (q_region (ql_pure tabOk rfl rfl (ql_pure tabOk rfl rfl (q_nil (q_ret ?_)))))))
    refine q_fin tabOk rfl (by repeat constructor) fun w hs => ?_
    exact ⟨by rw [List.take_length]; rfl, hs.chg0⟩

def pLp : Value → Bool
  | .agg cs => match cs.toList with
    | [.int _ a, .int _ b, .int _ c] => loopB ⟨a, b, c⟩
    | _ => false
  | _ => false
theorem pLp_all (l : List Lp) : (l.map lpV).all pLp = l.all loopB := by
  rw [List.all_map]
  rfl
theorem lpV_agg (l : List Lp) : ∀ i (hi : i < (l.map lpV).length), ∃ c, (l.map lpV)[i] = .agg c := fun i hi => ⟨_, by rw [List.getElem_map]⟩
theorem stad1_p (w : World) (l : List Lp) : PredAt Tryz.prog tab w (.func (.func 60) #[] #[]) (l.map lpV) pLp := by
  refine ⟨_, _, _, rfl, rfl, fun w' hw' x hx => ?_⟩
  obtain ⟨⟨a, b, c⟩, hy, rfl⟩ := List.mem_map.1 hx
  refine q_of (Sat.nil w' M0) Tryz.func60 rfl (by simp [Tryz.ntmps60]) ?_
  (refine q_seq (q_region ?_))
  refine ql_box rfl rfl (fun b1 => ?_)
  (refine ql_pure tabOk rfl rfl (q_nil (q_seq (q_region (ql_pure tabOk rfl rfl ?_)))); refine ql_loadBa tabOk rfl rfl rfl ?_)
  refine ql_callv (val := .bool (wiB a 1 20000)) tabOk rfl rfl rfl rfl (fun w hs => ?_) ?_; exact within_ca a 1 20000 w
  (refine ql_pure tabOk rfl rfl ?_)
  refine ql_split rfl rfl (fun hc => ?_) (fun hc => ?_)
  · (refine ql_gyes rfl (ql_pure tabOk rfl rfl (ql_gyes rfl ?_)); refine ql_loadBa tabOk rfl rfl rfl ?_; refine ql_gyes rfl ?_)
    refine ql_callv (val := .bool (wiB b 0 2000)) tabOk rfl rfl rfl rfl (fun w hs => ?_) ?_; exact within_ca b 0 2000 w
    (refine ql_pure tabOk rfl rfl (ql_pure tabOk rfl rfl ?_))
    refine ql_split rfl rfl (fun hc => ?_) (fun hc => ?_)
    · (refine ql_gyes rfl (ql_pure tabOk rfl rfl (ql_gyes rfl ?_)); refine ql_loadBa tabOk rfl rfl rfl ?_; refine ql_gyes rfl ?_)
      refine ql_callv (val := .bool (wiB c 1 20)) tabOk rfl rfl rfl rfl (fun w hs => ?_) ?_; exact within_ca c 1 20 w
      (refine ql_pure tabOk rfl rfl (ql_pure tabOk rfl rfl (q_nil (q_ret ?_))))
      refine q_fin tabOk rfl (by repeat constructor) fun w hs => ?_
      exact ⟨by simp [retV, pLp, loopB, *], hs.chg0⟩
    · ((iterate 3 refine ql_gno rfl rfl rfl ?_); refine ql_pure tabOk rfl rfl (ql_pure tabOk rfl rfl (q_nil (q_ret ?_))))
      refine q_fin tabOk rfl (by repeat constructor) fun w hs => ?_
      exact ⟨by simp [retV, pLp, loopB, *], hs.chg0⟩
  · ((iterate 3 refine ql_gno rfl rfl rfl ?_); refine ql_pure tabOk rfl rfl (ql_pure tabOk rfl rfl ?_); (iterate 3 refine ql_gno rfl rfl rfl ?_); refine ql_pure tabOk rfl rfl (ql_pure tabOk rfl rfl (q_nil (q_ret ?_))))
    refine q_fin tabOk rfl (by repeat constructor) fun w hs => ?_
    exact ⟨by simp [retV, pLp, loopB, *], hs.chg0⟩
theorem stadium_ca (w : World) (lo hi : Nat) (v : Value) (s : List Lp) (h : RdL w lo hi v s) (hlen : s.length ≤ 1000000) : Ca Tryz.prog 39 [v] w fun r w' => r = .int .i64 (stadV s) ∧ Chg [] w w' := by
  obtain ⟨a, ca, rfl, hsa⟩ := RdL.outI h
  refine q_of (Sat.nil w M0) Tryz.func39 rfl (by simp [Tryz.ntmps39]) ?_
  (refine q_seq (q_region (ql_pure tabOk rfl rfl (q_nil (q_seq (q_block (q_seq (q_region (ql_pure tabOk rfl rfl (ql_pure tabOk rfl rfl ?_))))))))))
  refine ql_callv (val := .bool (wiB s.length 1 12)) tabOk rfl rfl rfl rfl (fun w hs => ?_) ?_; exact within_ca s.length 1 12 w
  (refine ql_pure tabOk rfl rfl (ql_pure tabOk rfl rfl (q_nil ?_)))
  by_cases h1 : wiB s.length 1 12 = true
  · rw [h1]
    have h2 := wiB_iff.1 h1
    (refine q_cond_false rfl (q_seq (q_region (ql_pure tabOk rfl rfl ?_))))
    refine ql_callv (val := .bool (s.all loopB)) tabOk rfl rfl rfl rfl (fun w hs => ?_) ?_; exact by have := all_loop w lo hi _ _ (s.map lpV) pLp (RdE.keep h hs.chg0) (lpV_agg s) (by simp; omega) (stad1_p w s); rw [pLp_all] at this; exact this
    (refine ql_pure tabOk rfl rfl (ql_pure tabOk rfl rfl (q_nil ?_)))
    by_cases h3 : s.all loopB = true
    · rw [h3]
      (refine q_cond_false rfl (q_skip (q_blk (q_seq (q_region (ql_pure tabOk rfl rfl (q_nil (q_ret ?_))))))))
      refine q_fin tabOk rfl (by repeat constructor) fun w hs => ?_
      exact ⟨by simp only [retV, stadV, h3]; rw [if_neg (by omega)]; rfl, hs.chg0⟩
    · rw [Bool.eq_false_iff.2 h3]
      (refine q_cond_true rfl (q_seq (q_region (ql_pure tabOk rfl rfl (q_nil (q_ret ?_))))))
      refine q_fin tabOk rfl (by repeat constructor) fun w hs => ?_
      exact ⟨by simp only [retV, stadV, Bool.eq_false_iff.2 h3]; rw [if_neg (by omega)]; rfl, hs.chg0⟩
  · rw [Bool.eq_false_iff.2 h1]
    have h2 : ¬(1 ≤ s.length ∧ s.length ≤ 12) := fun h => h1 (wiB_iff.2 (by omega))
    (refine q_cond_true rfl (q_seq (q_region (ql_pure tabOk rfl rfl (q_nil (q_ret ?_))))))
    refine q_fin tabOk rfl (by repeat constructor) fun w hs => ?_
    exact ⟨by simp only [retV, stadV]; rw [if_pos h2], hs.chg0⟩

/-- Rules as cells. -/
abbrev rlC (r : Rl) : List Value := [.int .i64 r.laps, .int .i64 r.g0, .int .i64 r.g1, .int .i64 r.c0, .int .i64 r.c1, .int .i64 r.p0, .int .i64 r.p1, .int .i64 r.wide, .int .i64 r.uses]
theorem checkS_ca (w : World) (lo hi : Nat) (v : Value) (s : List Lp) (r : Rl) (h : RdL w lo hi v s) (hlen : s.length ≤ 1000000) : Ca Tryz.prog 23 [v, .agg (rlC r).toArray] w fun x w' => x = .int .i64 (checkS s r) ∧ Chg [] w w' := by
  refine q_of (Sat.nil w M0) Tryz.func23 rfl (by simp [Tryz.ntmps23]) ?_
  (refine q_seq (q_region ?_))
  refine ql_box rfl rfl (fun b3 => ?_)
  (refine ql_pure tabOk rfl rfl (q_nil (q_seq (q_seq (q_region (ql_pure tabOk rfl rfl ?_))))))
  refine ql_callv (val := .int .i64 (stadV s)) tabOk rfl rfl rfl rfl (fun w hs => ?_) ?_; exact stadium_ca w lo hi v s (RdE.keep h hs.chg0) hlen
  (refine ql_pure tabOk rfl rfl (q_nil (q_seq (q_region (ql_pure tabOk rfl rfl (ql_pure tabOk rfl rfl (q_nil ?_)))))))
  by_cases h0 : stadV s = 0
  · rw [h0]
    (refine q_cond_false rfl (q_skip (q_seq (q_seq (q_region (ql_pure tabOk rfl rfl ?_))))); refine ql_loadBa tabOk rfl rfl rfl ?_)
    refine ql_callv (val := .bool (wiB r.laps 1 6)) tabOk rfl rfl rfl rfl (fun w hs => ?_) ?_; exact within_ca _ 1 6 w
    (refine ql_pure tabOk rfl rfl (ql_pure tabOk rfl rfl ?_))
    refine ql_split rfl rfl (fun hc => ?_) (fun hc => ?_)
    · ((iterate 4 refine ql_gno rfl rfl rfl ?_); refine ql_pure tabOk rfl rfl (ql_pure tabOk rfl rfl ?_); (iterate 4 refine ql_gno rfl rfl rfl ?_); refine ql_pure tabOk rfl rfl (ql_pure tabOk rfl rfl ?_); (iterate 4 refine ql_gno rfl rfl rfl ?_); refine ql_pure tabOk rfl rfl (ql_pure tabOk rfl rfl ?_); (iterate 4 refine ql_gno rfl rfl rfl ?_); refine ql_pure tabOk rfl rfl (ql_pure tabOk rfl rfl ?_); (iterate 4 refine ql_gno rfl rfl rfl ?_); refine ql_pure tabOk rfl rfl (q_nil (q_cond_true rfl (q_seq (q_region (ql_pure tabOk rfl rfl (q_nil (q_ret ?_))))))))
      refine q_fin tabOk rfl (by repeat constructor) fun w hs => ?_
      exact ⟨by simp at hc; simp [retV, checkS, h0, rulesB, hc], hs.chg0⟩
    have h1 : wiB r.laps 1 6 = true := by simpa using hc
    clear hc
    (refine ql_gyes rfl (ql_pure tabOk rfl rfl (ql_gyes rfl ?_)); refine ql_loadABa tabOk rfl rfl rfl ?_; refine ql_gyes rfl ?_)
    refine ql_callv (val := .bool (spnB r.g0 r.g1 200000)) tabOk rfl rfl rfl rfl (fun w hs => ?_) ?_; exact spn_ca _ _ 200000 w
    (refine ql_gyes rfl ?_; (iterate 3 refine ql_pure tabOk rfl rfl ?_))
    refine ql_split rfl rfl (fun hc => ?_) (fun hc => ?_)
    · ((iterate 4 refine ql_gno rfl rfl rfl ?_); refine ql_pure tabOk rfl rfl (ql_pure tabOk rfl rfl ?_); (iterate 4 refine ql_gno rfl rfl rfl ?_); refine ql_pure tabOk rfl rfl (ql_pure tabOk rfl rfl ?_); (iterate 4 refine ql_gno rfl rfl rfl ?_); refine ql_pure tabOk rfl rfl (ql_pure tabOk rfl rfl ?_); (iterate 4 refine ql_gno rfl rfl rfl ?_); refine ql_pure tabOk rfl rfl (q_nil (q_cond_true rfl (q_seq (q_region (ql_pure tabOk rfl rfl (q_nil (q_ret ?_))))))))
      refine q_fin tabOk rfl (by repeat constructor) fun w hs => ?_
      exact ⟨by simp at hc; simp [retV, checkS, h0, rulesB, hc], hs.chg0⟩
    have h2 : spnB r.g0 r.g1 200000 = true := by simpa using hc
    clear hc
    (refine ql_gyes rfl (ql_pure tabOk rfl rfl (ql_gyes rfl ?_)); refine ql_loadABa tabOk rfl rfl rfl ?_; refine ql_gyes rfl ?_)
    refine ql_callv (val := .bool (spnB r.c0 r.c1 200000)) tabOk rfl rfl rfl rfl (fun w hs => ?_) ?_; exact spn_ca _ _ 200000 w
    (refine ql_gyes rfl ?_; (iterate 3 refine ql_pure tabOk rfl rfl ?_))
    refine ql_split rfl rfl (fun hc => ?_) (fun hc => ?_)
    · ((iterate 4 refine ql_gno rfl rfl rfl ?_); refine ql_pure tabOk rfl rfl (ql_pure tabOk rfl rfl ?_); (iterate 4 refine ql_gno rfl rfl rfl ?_); refine ql_pure tabOk rfl rfl (ql_pure tabOk rfl rfl ?_); (iterate 4 refine ql_gno rfl rfl rfl ?_); refine ql_pure tabOk rfl rfl (q_nil (q_cond_true rfl (q_seq (q_region (ql_pure tabOk rfl rfl (q_nil (q_ret ?_))))))))
      refine q_fin tabOk rfl (by repeat constructor) fun w hs => ?_
      exact ⟨by simp at hc; simp [retV, checkS, h0, rulesB, hc], hs.chg0⟩
    have h3 : spnB r.c0 r.c1 200000 = true := by simpa using hc
    clear hc
    (refine ql_gyes rfl (ql_pure tabOk rfl rfl (ql_gyes rfl ?_)); refine ql_loadABa tabOk rfl rfl rfl ?_; refine ql_gyes rfl ?_)
    refine ql_callv (val := .bool (spnB r.p0 r.p1 200000)) tabOk rfl rfl rfl rfl (fun w hs => ?_) ?_; exact spn_ca _ _ 200000 w
    (refine ql_gyes rfl ?_; (iterate 3 refine ql_pure tabOk rfl rfl ?_))
    refine ql_split rfl rfl (fun hc => ?_) (fun hc => ?_)
    · ((iterate 4 refine ql_gno rfl rfl rfl ?_); refine ql_pure tabOk rfl rfl (ql_pure tabOk rfl rfl ?_); (iterate 4 refine ql_gno rfl rfl rfl ?_); refine ql_pure tabOk rfl rfl (q_nil (q_cond_true rfl (q_seq (q_region (ql_pure tabOk rfl rfl (q_nil (q_ret ?_))))))))
      refine q_fin tabOk rfl (by repeat constructor) fun w hs => ?_
      exact ⟨by simp at hc; simp [retV, checkS, h0, rulesB, hc], hs.chg0⟩
    have h4 : spnB r.p0 r.p1 200000 = true := by simpa using hc
    clear hc
    (refine ql_gyes rfl (ql_pure tabOk rfl rfl (ql_gyes rfl ?_)); refine ql_loadBa tabOk rfl rfl rfl ?_; refine ql_gyes rfl ?_)
    refine ql_callv (val := .bool (wiB r.wide 1 20)) tabOk rfl rfl rfl rfl (fun w hs => ?_) ?_; exact within_ca _ 1 20 w
    (refine ql_gyes rfl ?_; (iterate 3 refine ql_pure tabOk rfl rfl ?_))
    refine ql_split rfl rfl (fun hc => ?_) (fun hc => ?_)
    · ((iterate 4 refine ql_gno rfl rfl rfl ?_); refine ql_pure tabOk rfl rfl (q_nil (q_cond_true rfl (q_seq (q_region (ql_pure tabOk rfl rfl (q_nil (q_ret ?_))))))))
      refine q_fin tabOk rfl (by repeat constructor) fun w hs => ?_
      exact ⟨by simp at hc; simp [retV, checkS, h0, rulesB, hc], hs.chg0⟩
    have h5 : wiB r.wide 1 20 = true := by simpa using hc
    clear hc
    (refine ql_gyes rfl (ql_pure tabOk rfl rfl (ql_gyes rfl ?_)); refine ql_loadBa tabOk rfl rfl rfl ?_; refine ql_gyes rfl ?_)
    refine ql_callv (val := .bool (wiB r.uses 1 6)) tabOk rfl rfl rfl rfl (fun w hs => ?_) ?_; exact within_ca _ 1 6 w
    (refine ql_gyes rfl (ql_pure tabOk rfl rfl (ql_pure tabOk rfl rfl (q_nil ?_))))
    refine q_cond rfl (fun hc => ?_) (fun hc => ?_)
    · (refine q_seq (q_region (ql_pure tabOk rfl rfl (q_nil (q_ret ?_)))))
      refine q_fin tabOk rfl (by repeat constructor) fun w hs => ?_
      exact ⟨by simp at hc; simp [retV, checkS, h0, rulesB, hc], hs.chg0⟩
    have h6 : wiB r.uses 1 6 = true := by simpa using hc
    clear hc
    (refine q_skip (q_seq (q_region (ql_pure tabOk rfl rfl (q_nil (q_ret ?_))))))
    refine q_fin tabOk rfl (by repeat constructor) fun w hs => ?_
    exact ⟨by simp [retV, checkS, h0, rulesB, *], hs.chg0⟩
  · rw [decide_eq_false h0]
    (refine q_cond_true rfl (q_seq (q_region (ql_pure tabOk rfl rfl (ql_pure tabOk rfl rfl (q_nil (q_ret ?_)))))))
    refine q_fin tabOk rfl (by repeat constructor) fun w hs => ?_
    exact ⟨by simp [retV, checkS, h0], hs.chg0⟩
end Go.Proofs.YtpknmgafambmbaaGreat

/- The engine, part B22: rows made, copied, cut at the front; append to a slice without room. -/
namespace Go.Eng
open Go Go.RowKit

section
variable {P : Program} {T : Tab} {ro : Cx} {n : Nat} {F : Fin} {w0 : World} {M : Nat → Prop} {k : List It} {ops : Array Oper} {rest : List Oper} {e : Env} {H Hq : List Ck}
theorem oneV_cell {v : Value} (h : oneV v = true) : v.oneCell' = true := by
  cases v <;> first | rfl | simp [oneV] at h

/-- make of rows. -/
theorem made_len (z : Array Value) (m : Nat) : (madeCells z m).size = m := by simp [madeCells]
theorem ql_makeR {d t et m size bytes : Nat} {z : Value} {x y : Operand} {ty : TypeId} {pos : String} {af : Array Edge} (hS : SlT P t et size bytes z) (hx : opv e x = some (.int .i64 m)) (hy : opv e y = some (.int .i64 m)) (hd : Nat.blt d n = true) (hm : m * size ≤ 1000000) (hm2 : m * bytes ≤ 1000000000) (hm3 : m ≤ 1000000)
    (h : ∀ b cs, cs.length = m * size → QL P ro n F w0 M k ops rest ((d, .slice (some ⟨b, 0, none⟩) m m) :: e) (.pt b cs et :: H)) :
    QL P ro n F w0 M k ops (⟨some d, .makeSlice t x y, ty, pos, af, none⟩ :: rest) e H := .mk fun w hs => by
  obtain ⟨ht, hi', hzs, hsz⟩ := hS
  cases hinf : P.info? et with
  | none => simp [hinf] at hi'
  | some i =>
    simp [hinf] at hi'
    obtain ⟨hz, hsize, hby⟩ := hi'
    subst hsize
    subst hby
    have hr := run_makeSlice (P := P) w t et i _ ht hinf hz .i64 .i64 m m (by omega) (Int.le_refl _) (by simp; omega) (by rw [Int.mul_comm]; omega) (by omega)
    refine yl_val (w' := w.alloc (.cells (madeCells z.cells (m * i.size)) et)) (by simp) hd (fun ac hf => ?_) ((h w.heap.size (madeCells z.cells (m * i.size)).toList (by simp [made_len])).h _ (hs.addPt (alloc_chg _ _) (by simp) (by have := alloc_blk w (madeCells z.cells (m * i.size)) et; simpa using this)))
    simp only [execOp, hf.op hx, hf.op hy]
    simp at hr
    simp [hr]

/-- copy of rows. -/
theorem run_copyR {w : World} {dT sT et sz m o c lo hi g : Nat} {v : Value} {cur news : List Value} {bt : TypeId} (ty : TypeId) (hu : P.underlying dT = some (.slice et)) (hsz : (P.info? et).map (·.size) = some sz)
    (hb : Blk w g cur bt) (hrd : Rd w lo hi v sz m news) (hfit : o + news.length ≤ cur.length) (h1 : ∀ x ∈ news, oneV x = true) :
    ∃ w', (Builtin.copy_ #[dT, sT] ty #[.slice (some ⟨g, o, none⟩) m c, v]).run P w = .ok (goInt m) w' ∧ Chg [g] w w' ∧ Blk w' g (cur.take o ++ news ++ cur.drop (o + news.length)) bt := by
  obtain ⟨hl, hr⟩ := hrd
  cases hq : P.info? et with
  | none => simp [hq] at hsz
  | some i =>
    have hi : i.size = sz := by simpa [hq] using hsz
    subst hi
    have key : ∀ (a : Addr) (cap : Nat), (∀ j x, news[j]? = some x → w.cell? (a.add j) = some x) → ∃ w', (Builtin.copy_ #[dT, sT] ty #[.slice (some ⟨g, o, none⟩) m c, .slice (some a) m cap]).run P w = .ok (goInt m) w' ∧ Chg [g] w w' ∧ Blk w' g (cur.take o ++ news ++ cur.drop (o + news.length)) bt := by
      intro a cap hc
      have hfc := run_firstCells_some (P := P) w i.size m a m cap news hl hc
      have hst : (storeCells ⟨g, o, none⟩ news).run P w = .ok () (w.setRow g (cur.take o ++ news ++ cur.drop (o + news.length)).toArray) := by
        have := run_storeCells_at P g o bt news 0 cur.toArray w hb (by simpa using hfit) (fun x hx => oneV_cell (h1 x hx))
        simpa using this
      refine ⟨w.setRow g (cur.take o ++ news ++ cur.drop (o + news.length)).toArray, ?_, ⟨rfl, rfl, rfl, by simp [World.setRow], fun k _ hk => setRow_other w g k _ (by simpa using hk)⟩, setRow_heap w g _ _ bt (0, 0) hb⟩
      simp [Builtin.copy_, run_underlying hu, Builtin.lenOf, sizeOf, typeInfo, hq, hfc, hst]
    rcases hr with ⟨rfl | ⟨a, cap, rfl⟩, rfl⟩ | ⟨b, off, cap, rfl, _, hc⟩
    · have hn : news = [] := List.eq_nil_of_length_eq_zero (by simpa using hl)
      subst hn
      exact ⟨w, run_copy_nil P w dT sT ty et _ _ _ hu (by simp [hq]), Chg.refl _ _, by simpa using hb⟩
    · have hn : news = [] := List.eq_nil_of_length_eq_zero (by simpa using hl)
      subst hn
      exact key a cap (by simp)
    · refine key _ _ (fun j x hj => ?_)
      have hjl := (List.getElem?_eq_some_iff.1 hj).1
      rw [Addr.add_lit, hc j hjl, hj]
theorem ql_copyR {d dT sT et sz m c o g : Nat} {x y : Operand} {v : Value} {bt : TypeId} {cur news : List Value} {H' : List Ck} {ty : TypeId} {pos : String} {af : Array Edge} (hu : P.underlying dT = some (.slice et)) (hsz : (P.info? et).map (·.size) = some sz)
    (hx : opv e x = some (.slice (some ⟨g, o, none⟩) m c)) (hy : opv e y = some v) (hd : Nat.blt d n = true) (hr : Rp H (.pt g cur bt) (.pt g (cur.take o ++ news ++ cur.drop (o + news.length)) bt) H') (hfit : o + news.length ≤ cur.length) (h1 : ∀ x ∈ news, oneV x = true)
    (hrd : ∀ w, Sat w0 M H w → ∃ lo hi, Rd w lo hi v sz m news) (h : QL P ro n F w0 M k ops rest ((d, goInt m) :: e) H') :
    QL P ro n F w0 M k ops (⟨some d, .call { callee := .builtin .copy, args := [x, y].toArray, argTypes := [dT, sT].toArray }, ty, pos, af, none⟩ :: rest) e H := .mk fun w hs => by
  obtain ⟨lo, hi, hrd⟩ := hrd w hs
  obtain ⟨w', hrun, hc, hb⟩ := run_copyR (P := P) (sT := sT) ty hu hsz (hs.blk hr.mem) hrd hfit h1 (c := c)
  refine yl_val (w' := w') (by simp) hd (fun ac hf => ?_) (h.h w' (hs.pt hr hc hb))
  simp [execOp, resolve, invoke, builtin, hf.op hx, hf.op hy, hrun]

/-- x[l:] and x[:h]. -/
theorem elem_slice {t et : Nat} (hu : P.underlying t = some (.slice et)) : P.elem t = et := by simp [Program.elem, hu]
theorem run_sliceFrom {t et sz : Nat} (hu : P.underlying t = some (.slice et)) (hsz : (P.info? et).map (·.size) = some sz) {a : Option Addr} {len cap : Nat} {kl : IntKind} {l : Int} (h0 : 0 ≤ l) (h1 : l ≤ len) (w : World) :
    (Instr.sliceAt t (.slice a len cap) (some (.int kl l)) none none).run P w = .ok (.slice (if cap = l.toNat then a else a.map (·.add (l.toNat * sz))) (len - l.toNat) (cap - l.toNat)) w := by
  have he := elem_slice hu
  cases hq : P.info? et with
  | none => simp [hq] at hsz
  | some i =>
    have hi : i.size = sz := by simpa [hq] using hsz
    subst hi
    rw [run_sliceAt_slice w t _ _ _ _ (by rw [he]; exact hu), run_slice_l w t a len cap (by rw [he]; exact hu) kl l h0 h1, he]
    simp [sizeOf, typeInfo, hq, sliced]
theorem run_sliceTo {t et sz : Nat} (hu : P.underlying t = some (.slice et)) (hsz : (P.info? et).map (·.size) = some sz) {a : Option Addr} {len cap : Nat} {kl : IntKind} {l : Int} (h0 : 0 ≤ l) (h1 : l ≤ cap) (w : World) :
    (Instr.sliceAt t (.slice a len cap) none (some (.int kl l)) none).run P w = .ok (.slice (if cap = 0 then a else a.map (·.add 0)) l.toNat cap) w := by
  have he := elem_slice hu
  cases hq : P.info? et with
  | none => simp [hq] at hsz
  | some i =>
    have hi : i.size = sz := by simpa [hq] using hsz
    subst hi
    rw [run_sliceAt_slice w t _ _ _ _ (by rw [he]; exact hu), run_slice_h w t a len cap (by rw [he]; exact hu) kl l h0 h1, he]
    simp [sizeOf, typeInfo, hq, sliced]
theorem ql_sliceFrom {d t et sz : Nat} {x lo : Operand} {a : Option Addr} {len cap : Nat} {kl : IntKind} {l : Int} {ty : TypeId} {pos : String} {af : Array Edge} (hu : P.underlying t = some (.slice et)) (hsz : (P.info? et).map (·.size) = some sz)
    (hx : opv e x = some (.slice a len cap)) (hl : opv e lo = some (.int kl l)) (hd : Nat.blt d n = true) (h0 : 0 ≤ l) (h1 : l ≤ len)
    (h : QL P ro n F w0 M k ops rest ((d, .slice (if cap = l.toNat then a else a.map (·.add (l.toNat * sz))) (len - l.toNat) (cap - l.toNat)) :: e) H) : QL P ro n F w0 M k ops (⟨some d, .slice t x (some lo) none none, ty, pos, af, none⟩ :: rest) e H := .mk fun w hw =>
  yl_val (by simp) hd (fun ac hf => by
    simp only [execOp, hf.op hx]
    simp [hf.op hl, run_sliceFrom hu hsz h0 h1 w]) (h.h w hw)
theorem qf_sliceFrom {d t et sz : Nat} {x lo : Operand} {a : Option Addr} {len cap : Nat} {kl : IntKind} {l : Int} {ty : TypeId} {pos : String} {af : Array Edge} (hu : P.underlying t = some (.slice et)) (hsz : (P.info? et).map (·.size) = some sz)
    (hx : opv e x = some (.slice a len cap)) (hl : opv e lo = some (.int kl l)) (hd : Nat.blt d n = true) (h0 : 0 ≤ l) (h1 : l ≤ len)
    (h : QF P ro n F w0 M k ops Hq rest ((d, .slice (if cap = l.toNat then a else a.map (·.add (l.toNat * sz))) (len - l.toNat) (cap - l.toNat)) :: e) H) : QF P ro n F w0 M k ops Hq (⟨some d, .slice t x (some lo) none none, ty, pos, af, none⟩ :: rest) e H := .mk fun w hw =>
  yf_quiet rfl hd (fun ac hf w' _ => by
    simp only [execOp, hf.op hx]
    simp [hf.op hl, run_sliceFrom hu hsz h0 h1 w']) (h.h w hw)
theorem qf_sliceTo {d t et sz : Nat} {x lo : Operand} {a : Option Addr} {len cap : Nat} {kl : IntKind} {l : Int} {ty : TypeId} {pos : String} {af : Array Edge} (hu : P.underlying t = some (.slice et)) (hsz : (P.info? et).map (·.size) = some sz)
    (hx : opv e x = some (.slice a len cap)) (hl : opv e lo = some (.int kl l)) (hd : Nat.blt d n = true) (h0 : 0 ≤ l) (h1 : l ≤ cap)
    (h : QF P ro n F w0 M k ops Hq rest ((d, .slice (if cap = 0 then a else a.map (·.add 0)) l.toNat cap) :: e) H) : QF P ro n F w0 M k ops Hq (⟨some d, .slice t x none (some lo) none, ty, pos, af, none⟩ :: rest) e H := .mk fun w hw =>
  yf_quiet rfl hd (fun ac hf w' _ => by
    simp only [execOp, hf.op hx]
    simp [hf.op hl, run_sliceTo hu hsz h0 h1 w']) (h.h w hw)

/-- append to a slice without room. -/
theorem run_appF {w : World} {t et size bytes : Nat} {z : Value} (hS : SlT P t et size bytes z) {a : Option Addr} {u : Value} {m q lo hi lo2 hi2 : Nat} {xs news : List Value} (ty : TypeId) (hv : Rd w lo2 hi2 (.slice a m m) size m xs) (hrd : Rd w lo hi u size q news) (h1 : ∀ c ∈ news, oneV c = true)
    (hq : 0 < q) (hm : (m + q) * bytes ≤ 140737488355328) (hm2 : m + q ≤ 140737488355328) :
    ∃ v' w', (Builtin.append_ #[t, t] ty #[.slice a m m, u]).run P w = .ok v' w' ∧ w'.ownsRow 0 et size v' (m + q) (xs ++ news) ∧ Chg [] w w' ∧ (∀ b, v'.ownBlock = some b → w.heap.size ≤ b) := by
  have hnil : a = none → m = 0 := by
    rintro rfl
    rcases hv.2 with ⟨_, h⟩ | ⟨b, off, cap, h, _⟩
    · exact h
    · cases h
  cases a with
  | none =>
    obtain rfl := hnil rfl
    obtain rfl : xs = [] := List.eq_nil_of_length_eq_zero (by simpa using hv.1)
    obtain ⟨v', w', h2, h3, h4, h5⟩ := run_app (P := P) hS ty (World.ownsRow_nil w 0 et size) hrd h1 (by simpa using hm) (by simpa using hm2)
    refine ⟨v', w', h2, h3, ?_, fun b hb => ?_⟩
    · simpa [Value.ownBlock] using h4
    · rcases h5 b hb with h6 | h6
      · simp [Value.ownBlock] at h6
      · exact h6
  | some ad =>
    obtain ⟨ht, hi', hzs, hsz⟩ := hS
    cases hinf : P.info? et with
    | none => simp [hinf] at hi'
    | some i =>
      simp [hinf] at hi'
      obtain ⟨hz, hsize, hby⟩ := hi'
      subst hsize
      subst hby
      obtain ⟨hl, hr⟩ := hrd
      obtain ⟨ad2, cap2, rfl, hc⟩ : ∃ a2 cap, u = .slice (some a2) q cap ∧ ∀ j c, news[j]? = some c → w.cell? (a2.add j) = some c := by
        rcases hr with ⟨_, rfl⟩ | ⟨b, off, cap, hu, _, hc⟩
        · omega
        · refine ⟨_, cap, hu, fun j c hj => ?_⟩
          have hjl := (List.getElem?_eq_some_iff.1 hj).1
          rw [Addr.add_lit, hc j hjl, hj]
      have holds : ∀ j c, xs[j]? = some c → w.cell? (ad.add j) = some c := by
        intro j c hj
        have hjl := (List.getElem?_eq_some_iff.1 hj).1
        rcases hv.2 with ⟨_, h⟩ | ⟨b, off, cap, h, _, hc⟩
        · rw [h] at hv
          have := hv.1
          omega
        · cases h
          rw [Addr.add_lit, hc j hjl, hj]
      have hlen : (xs ++ news).length = (m + q) * i.size := by rw [List.length_append, hv.1, hl, Nat.add_mul]
      have hrun := run_append_grow (P := P) w t ty et i z ht hinf hz ad m m xs hv.1 holds ad2 q cap2 news hl hc (by omega) (by omega) (growslice_fits (by omega) (by omega))
      have hge := grownCap_ge w (m + q) m et
      have hcm : grownCap w (m + q) m et ≤ maxLen := grownCap_le_maxLen w (m + q) m et (by simp only [maxLen]; omega)
      refine ⟨_, _, hrun, ⟨hlen, .inr ⟨w.heap.size, _, _, rfl, Nat.zero_le _, heap_alloc_new w.drew _, hge, hcm, ?_, ?_⟩⟩, (Chg.drew (N := []) w).trans (alloc_chg _ _), fun b hb => ?_⟩
      · simp only [Array.size_append, List.size_toArray, size_zeroCells, hzs, hv.1, hl, ← Nat.add_mul]
        congr 1
        omega
      · simp only [Array.toList_append, List.append_assoc]
        rw [← List.append_assoc, ← hlen]
        exact List.take_left
      · simp [Value.ownBlock] at hb
        omega
theorem ql_appendF {d t et size bytes : Nat} {z : Value} (hS : SlT P t et size bytes z) {x y : Operand} {a : Option Addr} {u : Value} {m q : Nat} {xs news : List Value} {ty : TypeId} {pos : String} {af : Array Edge}
    (hx : opv e x = some (.slice a m m)) (hy : opv e y = some u) (hd : Nat.blt d n = true) (hv : ∀ w, Sat w0 M H w → ∃ lo hi, Rd w lo hi (.slice a m m) size m xs) (hrd : ∀ w, Sat w0 M H w → ∃ lo hi, Rd w lo hi u size q news) (h1 : ∀ c ∈ news, oneV c = true)
    (hq : 0 < q) (hm : (m + q) * bytes ≤ 140737488355328) (hm2 : m + q ≤ 140737488355328)
    (h : ∀ v', QL P ro n F w0 M k ops rest ((d, v') :: e) (.ow v' et size (m + q) (xs ++ news) :: H)) :
    QL P ro n F w0 M k ops (⟨some d, .call { callee := .builtin .append, args := [x, y].toArray, argTypes := [t, t].toArray }, ty, pos, af, none⟩ :: rest) e H := .mk fun w hs => by
  obtain ⟨lo, hi, hrd⟩ := hrd w hs
  obtain ⟨lo2, hi2, hv⟩ := hv w hs
  obtain ⟨v', w', hrun, ho, hc, hn⟩ := run_appF hS ty hv hrd h1 hq hm hm2
  refine yl_val (w' := w') (by simp) hd (fun ac hf => ?_) ((h v').h w' (hs.add hc ho (fun b hb => ⟨hn b hb, ?_⟩)))
  · have e1 := hf.op hx
    have e2 := hf.op hy
    simp [execOp, resolve, invoke, builtin, e1, e2, hrun]
  · have hb' : v'.ownBlock = some b := hb
    rcases ho.2 with ⟨rfl, _⟩ | ⟨g, cap, cur, rfl, _, hg, _⟩
    · simp [Value.ownBlock] at hb'
    · simp [Value.ownBlock] at hb'
      subst hb'
      exact (Array.getElem?_eq_some_iff.1 hg).1
end
end Go.Eng

/- The engine, part B23: a region that draws, with any marks, whose first part changes pieces too. -/
namespace Go.Eng
open Go Go.RowKit

section
variable {P : Program} {ro : Cx} {n : Nat} {F : Fin} {w0 : World} {M : Nat → Prop} {k : List It} {ops : Array Oper} {l : List Oper} {e : Env} {H H1 H2 : List Ck} {bs : List Bool}
theorem q_drawB2 {id : Nat} (bs : List Bool) (Hq1 Hm1 Hq2 Hm2 : List Ck) (hH1 : Sp H (Hm1 ++ Hq1)) (hH2 : Sp Hq1 (Hm2 ++ Hq2)) (hm : P.follows .mixedOrders = true) (hB : flB l.toArray = true) (hbs : flagB l.toArray bs = true)
    (h : QB P ro n F w0 M k l.toArray Hq1 Hq2 bs l e H) : Q P ro n F w0 M (.code (.region id l.toArray true) :: k) e H := .mk fun w hs a hf hd => by
  have hs0 : Sat w0 M H { w with drawn := w.drawn + 1 } := hs.keep (Chg.drew (N := []) w)
  have hs1 : Sat w0 M Hq1 { w with drawn := w.drawn + 1 } := (hs0.sp hH1).right
  have h12 : ∀ w, Sat w0 M Hq1 w → Sat w0 M Hq2 w := fun w hw => (hw.sp hH2).right
  refine wpIn_region_fl2 hm (flB_spec hB) (K := fun a w => S P ro.ro F k .normal a w) (Cq := flagC (Sat w0 M Hq1) (Sat w0 M Hq2) bs) (Ce := flagC (Sat w0 M Hq1) (Sat w0 M Hq2) bs)
    (fun i j oi oj => flagB_spec hbs h12 i j oi oj) (fun i => ?_) (fun _ _ h => h) ?_
  · unfold flagC
    cases bs.getD i false
    · exact h12 _ hs1
    · exact hs1
  · have h2 := wpFlB_eq (P := P) (ops := l.toArray) (C1 := Sat w0 M Hq1) (C2 := Sat w0 M Hq2) (bs := bs) (K := fun a w => S P ro.ro F k .normal a w) l 0 (by simp)
    rw [show List.range l.toArray.size = List.range' 0 l.length from by simp [List.range_eq_range'], h2]
    exact h.h _ hs0 a hf hd
theorem qb_T2 (c : Nat) (Hm : List Ck) (hb : (bs.take c).all (fun x => x == true) = true) (hc : Nat.ble c bs.length = true) (hH : Sp H (Hm ++ H1))
    (h : ∀ K1 : Act → World → Prop, (∀ e' H', QB P ro n F w0 M k ops H1 H2 (bs.drop c) (l.drop c) e' H' → Q P ro n F w0 M (.k K1 :: k) e' H') → QF P ro n F w0 M (.k K1 :: k) ops H1 (l.take c) e Hm) :
    QB P ro n F w0 M k ops H1 H2 bs l e H := .mk fun w hs => by
  refine yb_seg true c hb (Nat.le_of_ble_eq_true hc) (fun K1 hK1 => ?_)
  have h3 := h K1 (fun e' H' hq => .mk fun w' hw' a' hf' hd' => hK1 e' w' (hq.h w' hw') a' hf' hd')
  exact h3.h w (hs.sp hH)
end
end Go.Eng

/- The engine, part B24: a region that draws its order, in which some operations that act may stand in any order, and what is read may change later on. -/
namespace Go.Eng
open Go Go.RowKit

section
variable {P : Program} {ops : Array Oper} {Cq Ce : Nat → World → Prop} {K : Act → World → Prop}

def wpT2 (P : Program) (ops : Array Oper) (Cq Ce : Nat → World → Prop) (K : Act → World → Prop) : OT → Act → World → Prop
  | .nil, a, w => K a w
  | .op i t, a, w => match ops[i]? with
    | none => False
    | some o => if Region.wanted o (yielded ops a.tmps) = true then
        (if eff o.op = true then effStep P o a w (fun v w' => Ce i w' ∧ wpT2 P ops Cq Ce K t (a.put o.dst v) w')
         else ∃ v, (∀ w', Cq i w' → (execOp a.eval o).run P w' = .ok (.value v) w') ∧ wpT2 P ops Cq Ce K t (a.put o.dst v) w)
      else wpT2 P ops Cq Ce K t (a.put o.dst undef) w
  | .alt t u, a, w => wpT2 P ops Cq Ce K t a w ∧ wpT2 P ops Cq Ce K u a w
theorem swapT_quiet2 (hF : FlM ops) (hH : ∀ (i j : Nat) oi oj, ops[i]? = some oi → ops[j]? = some oj → eff oi.op = false → eff oj.op = true → ((masks ops.toList).getD j 0).testBit i = false → ∀ w, Ce j w → Cq i w) {j : Nat} {oj : Oper} (hj : ops[j]? = some oj) (hne : eff oj.op = false) : ∀ (t : OT) (rem : List Nat) (a : Act) (w : World), rem.Nodup → OkT ops t rem → j ∈ rem → (∀ i ∈ rem, ((masks ops.toList).getD j 0).testBit i = false) →
    Region.wanted oj (yielded ops a.tmps) = true → Cq j w → wpT2 P ops Cq Ce K t a w → ∃ v, (∀ w', Cq j w' → (execOp a.eval oj).run P w' = .ok (.value v) w') ∧ wpT2 P ops Cq Ce K (t.del j) (a.put oj.dst v) w
  | .nil, rem, a, w, hn, hok, hjr, hm, hw, hC, h => by
    have : rem = [] := hok
    subst this
    cases hjr
  | .alt t u, rem, a, w, hn, ⟨o1, o2⟩, hjr, hm, hw, hC, ⟨h1, h2⟩ => by
    obtain ⟨v, hv, h3⟩ := swapT_quiet2 hF hH hj hne t rem a w hn o1 hjr hm hw hC h1
    obtain ⟨v', hv', h4⟩ := swapT_quiet2 hF hH hj hne u rem a w hn o2 hjr hm hw hC h2
    have e1 := hv w hC
    have e2 := hv' w hC
    rw [e1] at e2
    have : v = v' := by simpa using e2
    subst this
    exact ⟨v, hv, h3, h4⟩
  | .op i t, rem, a, w, hn, ⟨⟨oi, hi, _⟩, hir, him, hok⟩, hjr, hm, hw, hC, h => by
    by_cases hij : i = j
    · subst hij
      rw [hj] at hi
      obtain rfl := Option.some.inj hi
      simp only [wpT2, hj, hw, if_true, hne, Bool.false_eq_true, if_false] at h
      simpa [OT.del] using h
    · have hji : j ∈ rem.erase i := (List.mem_erase_of_ne (fun h => hij h.symm)).2 hjr
      have ih' := fun a w => swapT_quiet2 hF hH hj hne t (rem.erase i) a w (hn.erase i) hok hji (fun b hb => hm b (List.mem_of_mem_erase hb))
      have hap := pair_apart hF hij hi hj (hm i hir) (him j hjr)
      obtain ⟨p1, p2, p3⟩ := Oper.apart_spec hap
      have kj := hF.kind j oj hj
      have ki := hF.kind i oi hi
      have ej : ∀ (a : Act) v, execOp (a.put oi.dst v).eval oj = execOp a.eval oj := fun a v => exec_put kj a oi.dst v p1
      have ei : ∀ (a : Act) v, execOp (a.put oj.dst v).eval oi = execOp a.eval oi := fun a v => exec_put ki a oj.dst v p3
      have wj : ∀ (a : Act) v, Region.wanted oj (yielded ops (a.put oi.dst v).tmps) = Region.wanted oj (yielded ops a.tmps) := fun a v => wanted_put oj a oi.dst v p1
      have wi : ∀ (a : Act) v, Region.wanted oi (yielded ops (a.put oj.dst v).tmps) = Region.wanted oi (yielded ops a.tmps) := fun a v => wanted_put oi a oj.dst v p3
      have cm : ∀ (a : Act) u v, (a.put oi.dst u).put oj.dst v = (a.put oj.dst v).put oi.dst u := fun a u v => Act.put_comm a u v p2
      have ed : (OT.op i t).del j = .op i (t.del j) := by simp [OT.del, hij]
      rw [ed]
      simp only [wpT2, hi] at h ⊢
      by_cases hwi : Region.wanted oi (yielded ops a.tmps) = true
      · simp only [hwi, if_true] at h
        by_cases he : eff oi.op = true
        · simp only [he, if_true] at h
          obtain ⟨v0, w0, hC0, h0⟩ := h.some
          obtain ⟨v, hv, _⟩ := ih' _ w0 (by rw [wj]; exact hw) (hH j i oj oi hj hi hne he (him j hjr) w0 hC0) h0
          simp only [ej] at hv
          refine ⟨v, hv, ?_⟩
          rw [wi]
          simp only [hwi, if_true, he]
          have h1 : effStep P oi (a.put oj.dst v) w (fun u w' => Ce i w' ∧ wpT2 P ops Cq Ce K t (a.put oi.dst u) w') := by
            unfold effStep at h ⊢
            rw [ei]
            exact h
          refine h1.mono fun u w' ⟨hC', h2⟩ => ⟨hC', ?_⟩
          obtain ⟨v', hv', h3⟩ := ih' _ w' (by rw [wj]; exact hw) (hH j i oj oi hj hi hne he (him j hjr) w' hC') h2
          simp only [ej] at hv'
          have e1 := hv w hC
          have e2 := hv' w hC
          rw [e1] at e2
          have : v = v' := by simpa using e2
          subst this
          rw [cm] at h3
          exact h3
        · simp only [he] at h
          obtain ⟨u, hu, h⟩ := h
          obtain ⟨v, hv, h3⟩ := ih' _ w (by rw [wj]; exact hw) hC h
          simp only [ej] at hv
          refine ⟨v, hv, ?_⟩
          rw [wi]
          simp only [hwi, if_true, he]
          refine ⟨u, fun w' hC' => by rw [ei]; exact hu w' hC', ?_⟩
          rw [cm] at h3
          exact h3
      · simp only [hwi] at h
        obtain ⟨v, hv, h3⟩ := ih' _ w (by rw [wj]; exact hw) hC h
        simp only [ej] at hv
        refine ⟨v, hv, ?_⟩
        rw [wi]
        simp only [hwi]
        rw [cm] at h3
        exact h3

theorem swapT_skip2 (hF : FlM ops) {j : Nat} {oj : Oper} (hj : ops[j]? = some oj) : ∀ (t : OT) (rem : List Nat) (a : Act) (w : World), rem.Nodup → OkT ops t rem → j ∈ rem → (∀ i ∈ rem, ((masks ops.toList).getD j 0).testBit i = false) →
    Region.wanted oj (yielded ops a.tmps) = false → wpT2 P ops Cq Ce K t a w → wpT2 P ops Cq Ce K (t.del j) (a.put oj.dst undef) w
  | .nil, rem, a, w, hn, hok, hjr, hm, hw, h => by
    have : rem = [] := hok
    subst this
    cases hjr
  | .alt t u, rem, a, w, hn, ⟨o1, o2⟩, hjr, hm, hw, ⟨h1, h2⟩ => ⟨swapT_skip2 hF hj t rem a w hn o1 hjr hm hw h1, swapT_skip2 hF hj u rem a w hn o2 hjr hm hw h2⟩
  | .op i t, rem, a, w, hn, ⟨⟨oi, hi, _⟩, hir, him, hok⟩, hjr, hm, hw, h => by
    by_cases hij : i = j
    · subst hij
      rw [hj] at hi
      obtain rfl := Option.some.inj hi
      simp only [wpT2, hj, hw, Bool.false_eq_true, if_false] at h
      simpa [OT.del] using h
    · have hji : j ∈ rem.erase i := (List.mem_erase_of_ne (fun h => hij h.symm)).2 hjr
      have ih' := fun a w => swapT_skip2 hF hj t (rem.erase i) a w (hn.erase i) hok hji (fun b hb => hm b (List.mem_of_mem_erase hb))
      have hap := pair_apart hF hij hi hj (hm i hir) (him j hjr)
      obtain ⟨p1, p2, p3⟩ := Oper.apart_spec hap
      have ki := hF.kind i oi hi
      have ei : ∀ (a : Act) v, execOp (a.put oj.dst v).eval oi = execOp a.eval oi := fun a v => exec_put ki a oj.dst v p3
      have wj : ∀ (a : Act) v, Region.wanted oj (yielded ops (a.put oi.dst v).tmps) = Region.wanted oj (yielded ops a.tmps) := fun a v => wanted_put oj a oi.dst v p1
      have wi : ∀ (a : Act) v, Region.wanted oi (yielded ops (a.put oj.dst v).tmps) = Region.wanted oi (yielded ops a.tmps) := fun a v => wanted_put oi a oj.dst v p3
      have cm : ∀ (a : Act) u v, (a.put oi.dst u).put oj.dst v = (a.put oj.dst v).put oi.dst u := fun a u v => Act.put_comm a u v p2
      have ed : (OT.op i t).del j = .op i (t.del j) := by simp [OT.del, hij]
      rw [ed]
      simp only [wpT2, hi] at h ⊢
      rw [wi]
      by_cases hwi : Region.wanted oi (yielded ops a.tmps) = true
      · simp only [hwi, if_true] at h ⊢
        by_cases he : eff oi.op = true
        · simp only [he, if_true] at h ⊢
          have h1 : effStep P oi (a.put oj.dst undef) w (fun u w' => Ce i w' ∧ wpT2 P ops Cq Ce K t (a.put oi.dst u) w') := by
            unfold effStep at h ⊢
            rw [ei]
            exact h
          refine h1.mono fun u w' ⟨hC', h2⟩ => ⟨hC', ?_⟩
          have h3 := ih' _ w' (by rw [wj]; exact hw) h2
          rw [cm] at h3
          exact h3
        · simp only [he] at h ⊢
          obtain ⟨u, hu, h⟩ := h
          have h3 := ih' _ w (by rw [wj]; exact hw) h
          refine ⟨u, fun w' hC' => by rw [ei]; exact hu w' hC', ?_⟩
          rw [cm] at h3
          exact h3
      · simp only [hwi] at h ⊢
        have h3 := ih' _ w (by rw [wj]; exact hw) h
        rw [cm] at h3
        exact h3

theorem swapT_eff2 (hF : FlM ops) {j : Nat} {oj : Oper} (hj : ops[j]? = some oj) (he : eff oj.op = true) : ∀ (t t' : OT) (rem : List Nat) (a : Act) (w : World), rem.Nodup → OkT ops t rem → j ∈ rem → (∀ i ∈ rem, ((masks ops.toList).getD j 0).testBit i = false) →
    Region.wanted oj (yielded ops a.tmps) = true → t.take ops j = some t' → wpT2 P ops Cq Ce K t a w → effStep P oj a w (fun v w' => Ce j w' ∧ wpT2 P ops Cq Ce K t' (a.put oj.dst v) w')
  | .nil, _, _, _, _, _, _, _, _, _, ht, _ => by simp [OT.take] at ht
  | .alt t u, t', rem, a, w, hn, ⟨o1, o2⟩, hjr, hm, hw, ht, ⟨h1, h2⟩ => by
    unfold OT.take at ht
    split at ht
    · rename_i x hx
      cases ht
      exact swapT_eff2 hF hj he t _ rem a w hn o1 hjr hm hw hx h1
    · exact swapT_eff2 hF hj he u t' rem a w hn o2 hjr hm hw ht h2
  | .op i t, t', rem, a, w, hn, ⟨⟨oi, hi, _⟩, hir, him, hok⟩, hjr, hm, hw, ht, h => by
    unfold OT.take at ht
    split at ht
    · rename_i hij
      subst hij
      cases ht
      rw [hj] at hi
      obtain rfl := Option.some.inj hi
      simp only [wpT2, hj, hw, if_true, he] at h
      exact h
    · rename_i hij
      split at ht
      · cases ht
      · rename_i hei0
        have hei : eff oi.op = false := by simpa [isEff, hi] using hei0
        cases hx : t.take ops j with
        | none => rw [hx] at ht; cases ht
        | some x =>
          rw [hx] at ht
          cases ht
          have hji : j ∈ rem.erase i := (List.mem_erase_of_ne (fun h => hij h.symm)).2 hjr
          have ih' := fun a w => swapT_eff2 hF hj he t x (rem.erase i) a w (hn.erase i) hok hji (fun b hb => hm b (List.mem_of_mem_erase hb))
          have hap := pair_apart hF hij hi hj (hm i hir) (him j hjr)
          obtain ⟨p1, p2, p3⟩ := Oper.apart_spec hap
          have kj := hF.kind j oj hj
          have ki := hF.kind i oi hi
          have ej : ∀ (a : Act) v, execOp (a.put oi.dst v).eval oj = execOp a.eval oj := fun a v => exec_put kj a oi.dst v p1
          have ei : ∀ (a : Act) v, execOp (a.put oj.dst v).eval oi = execOp a.eval oi := fun a v => exec_put ki a oj.dst v p3
          have wj : ∀ (a : Act) v, Region.wanted oj (yielded ops (a.put oi.dst v).tmps) = Region.wanted oj (yielded ops a.tmps) := fun a v => wanted_put oj a oi.dst v p1
          have wi : ∀ (a : Act) v, Region.wanted oi (yielded ops (a.put oj.dst v).tmps) = Region.wanted oi (yielded ops a.tmps) := fun a v => wanted_put oi a oj.dst v p3
          have cm : ∀ (a : Act) u v, (a.put oi.dst u).put oj.dst v = (a.put oj.dst v).put oi.dst u := fun a u v => Act.put_comm a u v p2
          simp only [wpT2, hi] at h
          by_cases hwi : Region.wanted oi (yielded ops a.tmps) = true
          · simp only [hwi, if_true, hei, Bool.false_eq_true, if_false] at h
            obtain ⟨u, hu, h⟩ := h
            have h3 := ih' _ w (by rw [wj]; exact hw) hx h
            have h4 : effStep P oj a w (fun v w' => Ce j w' ∧ wpT2 P ops Cq Ce K x ((a.put oi.dst u).put oj.dst v) w') := by
              unfold effStep at h3 ⊢
              rw [ej] at h3
              exact h3
            refine h4.mono fun v w' ⟨hC', h5⟩ => ⟨hC', ?_⟩
            simp only [wpT2, hi]
            rw [wi]
            simp only [hwi, if_true, hei, Bool.false_eq_true, if_false]
            refine ⟨u, fun w' hC' => by rw [ei]; exact hu w' hC', ?_⟩
            rw [cm] at h5
            exact h5
          · simp only [hwi, Bool.false_eq_true, if_false] at h
            have h3 := ih' _ w (by rw [wj]; exact hw) hx h
            have h4 : effStep P oj a w (fun v w' => Ce j w' ∧ wpT2 P ops Cq Ce K x ((a.put oi.dst undef).put oj.dst v) w') := by
              unfold effStep at h3 ⊢
              rw [ej] at h3
              exact h3
            refine h4.mono fun v w' ⟨hC', h5⟩ => ⟨hC', ?_⟩
            simp only [wpT2, hi]
            rw [wi]
            simp only [hwi, Bool.false_eq_true, if_false]
            rw [cm] at h5
            exact h5

/-- An operation that is left out: the orders in which it stands first, without it. -/
theorem swapT_skipE2 (hF : FlM ops) {j : Nat} {oj : Oper} (hj : ops[j]? = some oj) : ∀ (t t' : OT) (rem : List Nat) (a : Act) (w : World), rem.Nodup → OkT ops t rem → j ∈ rem → (∀ i ∈ rem, ((masks ops.toList).getD j 0).testBit i = false) →
    Region.wanted oj (yielded ops a.tmps) = false → t.take ops j = some t' → wpT2 P ops Cq Ce K t a w → wpT2 P ops Cq Ce K t' (a.put oj.dst undef) w
  | .nil, _, _, _, _, _, _, _, _, _, ht, _ => by simp [OT.take] at ht
  | .alt t u, t', rem, a, w, hn, ⟨o1, o2⟩, hjr, hm, hw, ht, ⟨h1, h2⟩ => by
    unfold OT.take at ht
    split at ht
    · rename_i x hx
      cases ht
      exact swapT_skipE2 hF hj t _ rem a w hn o1 hjr hm hw hx h1
    · exact swapT_skipE2 hF hj u t' rem a w hn o2 hjr hm hw ht h2
  | .op i t, t', rem, a, w, hn, ⟨⟨oi, hi, _⟩, hir, him, hok⟩, hjr, hm, hw, ht, h => by
    unfold OT.take at ht
    split at ht
    · rename_i hij
      subst hij
      cases ht
      rw [hj] at hi
      obtain rfl := Option.some.inj hi
      simp only [wpT2, hj, hw, Bool.false_eq_true, if_false] at h
      exact h
    · rename_i hij
      split at ht
      · cases ht
      · rename_i hei0
        have hei : eff oi.op = false := by simpa [isEff, hi] using hei0
        cases hx : t.take ops j with
        | none => rw [hx] at ht; cases ht
        | some x =>
          rw [hx] at ht
          cases ht
          have hji : j ∈ rem.erase i := (List.mem_erase_of_ne (fun h => hij h.symm)).2 hjr
          have ih' := fun a w => swapT_skipE2 hF hj t x (rem.erase i) a w (hn.erase i) hok hji (fun b hb => hm b (List.mem_of_mem_erase hb))
          have hap := pair_apart hF hij hi hj (hm i hir) (him j hjr)
          obtain ⟨p1, p2, p3⟩ := Oper.apart_spec hap
          have ki := hF.kind i oi hi
          have ei : ∀ (a : Act) v, execOp (a.put oj.dst v).eval oi = execOp a.eval oi := fun a v => exec_put ki a oj.dst v p3
          have wj : ∀ (a : Act) v, Region.wanted oj (yielded ops (a.put oi.dst v).tmps) = Region.wanted oj (yielded ops a.tmps) := fun a v => wanted_put oj a oi.dst v p1
          have wi : ∀ (a : Act) v, Region.wanted oi (yielded ops (a.put oj.dst v).tmps) = Region.wanted oi (yielded ops a.tmps) := fun a v => wanted_put oi a oj.dst v p3
          have cm : ∀ (a : Act) u v, (a.put oi.dst u).put oj.dst v = (a.put oj.dst v).put oi.dst u := fun a u v => Act.put_comm a u v p2
          simp only [wpT2, hi] at h ⊢
          rw [wi]
          by_cases hwi : Region.wanted oi (yielded ops a.tmps) = true
          · simp only [hwi, if_true, hei, Bool.false_eq_true, if_false] at h ⊢
            obtain ⟨u, hu, h⟩ := h
            have h3 := ih' _ w (by rw [wj]; exact hw) hx h
            refine ⟨u, fun w' hC' => by rw [ei]; exact hu w' hC', ?_⟩
            rw [cm] at h3
            exact h3
          · simp only [hwi, Bool.false_eq_true, if_false] at h ⊢
            have h3 := ih' _ w (by rw [wj]; exact hw) hx h
            rw [cm] at h3
            exact h3

theorem okT_end2 : ∀ (t : OT) (a : Act) (w : World), OkT ops t [] → wpT2 P ops Cq Ce K t a w → K a w
  | .nil, _, _, _, h => h
  | .op i t, _, _, ⟨_, h2, _⟩, _ => by cases h2
  | .alt t _, a, w, ⟨h1, _⟩, ⟨h2, _⟩ => okT_end2 t a w h1 h2
variable {ro : Cx} {Q : Fin}
theorem any_of_T2 (hF : FlM ops) (hH : ∀ (i j : Nat) oi oj, ops[i]? = some oi → ops[j]? = some oj → eff oi.op = false → eff oj.op = true → ((masks ops.toList).getD j 0).testBit i = false → ∀ w, Ce j w → Cq i w) (hK : ∀ a w, K a w → Q .normal a w) : ∀ (fuel m : Nat) (t : OT) (rem : List Nat) (listed : Array Bool) (a : Act) (w : World),
    rem.length = fuel → rem.Nodup → listed.size = ops.size → (∀ i, i ∈ rem ↔ i < ops.size ∧ listed.getD i true = false) →
    (∀ (m : Nat) o, ops[m]? = some o → listed.getD m false = true → ∀ e ∈ o.after, Region.binds .any e = true → listed.getD e.on false = true) →
    OkT ops t rem → covT ops (masks ops.toList) m t = true → (∀ i ∈ rem, ∀ o, ops[i]? = some o → eff o.op = false → Cq i w) → wpT2 P ops Cq Ce K t a w → wpAnyIn (FR ro.ro) 0 P .any ops Q fuel listed a w := by
  intro fuel
  induction fuel with
  | zero =>
    intro m t rem listed a w hl hn hsz hmem hcl hok hcov hC h
    have : rem = [] := by simpa using hl
    subst this
    refine ⟨?_, hK _ _ (okT_end2 t a w hok h)⟩
    refine List.eq_nil_iff_forall_not_mem.2 fun i hi => ?_
    obtain ⟨h0, o, ho, _⟩ := mem_ready.1 hi
    exact absurd ((hmem i).2 ⟨(Array.getElem?_eq_some_iff.1 ho).1, h0⟩) (by simp)
  | succ fuel ih =>
    intro m t rem listed a w hl hn hsz hmem hcl hok hcov hC h
    have hlist : ∀ x, x < ops.size → x ∉ rem → listed.getD x false = true := by
      intro x hx hr
      have h3 : ¬ (x < ops.size ∧ listed.getD x true = false) := fun hx => hr ((hmem x).2 hx)
      have h4 : x < listed.size := by omega
      simp only [Array.getD_eq_getD_getElem?, Array.getElem?_eq_getElem h4, Option.getD_some] at h3 ⊢
      cases hc : listed[x] with
      | true => rfl
      | false => exact absurd ⟨hx, hc⟩ h3
    have hunl : ∀ x, listed.getD x false = true → x ∉ rem := by
      intro x hx hr
      have h0 := ((hmem x).1 hr).2
      simp only [Array.getD_eq_getD_getElem?] at hx h0
      cases hc : listed[x]? <;> simp [hc] at hx h0
      simp [hx] at h0
    refine ⟨fun h0 => ?_, fun j hj => ?_⟩
    · exfalso
      obtain ⟨i, hir, o, ho, hd⟩ := okT_first t rem hok (by rintro rfl; simp at hl)
      have hrd : i ∈ Region.ready .any ops listed := by
        refine mem_ready.2 ⟨((hmem i).1 hir).2, o, ho, fun e he hb => ?_⟩
        by_cases hes : e.on < ops.size
        · exact hlist _ hes (hd e he hb)
        · exact (hF.edge i o ho e he hb hes).elim
      rw [h0] at hrd
      cases hrd
    · obtain ⟨h0, oj, hoj, hre⟩ := mem_ready.1 hj
      have hjr : j ∈ rem := (hmem j).2 ⟨(Array.getElem?_eq_some_iff.1 hoj).1, h0⟩
      have hun : ∀ i ∈ rem, ((masks ops.toList).getD j 0).testBit i = false := fun i hi => by
        cases hb : ((masks ops.toList).getD j 0).testBit i with
        | false => rfl
        | true => exact absurd hi (hunl i (masks_spec (D := fun m => listed.getD m false = true) (fun m o hm hD e he hb => hcl m o hm hD e he hb) j oj hoj (fun e he hb => hre e he hb) i hb))
      have next : ∀ m (t' : OT) a w, OkT ops t' (rem.erase j) → covT ops (masks ops.toList) m t' = true → (∀ i ∈ rem.erase j, ∀ o, ops[i]? = some o → eff o.op = false → Cq i w) → wpT2 P ops Cq Ce K t' a w → wpAnyIn (FR ro.ro) 0 P .any ops Q fuel (listed.setIfInBounds j true) a w := by
        intro m t' a w hok hcov hC h
        refine ih m t' (rem.erase j) _ a w ?_ (hn.erase j) (by simp [hsz]) ?_ ?_ hok hcov hC h
        · rw [List.length_erase_of_mem hjr]; omega
        · intro i
          constructor
          · intro hi
            have hne : j ≠ i := fun e => by subst e; exact absurd hi (hn.not_mem_erase)
            have h1 := (hmem i).1 (List.mem_of_mem_erase hi)
            exact ⟨h1.1, by rw [getD_set_ne true hne]; exact h1.2⟩
          · rintro ⟨h1, h2⟩
            have hne : j ≠ i := fun e => by
              subst e
              simp [hsz, h1] at h2
            rw [getD_set_ne true hne] at h2
            exact (List.mem_erase_of_ne (fun h => hne h.symm)).2 ((hmem i).2 ⟨h1, h2⟩)
        · intro m o hm hD e he hb
          by_cases hmj : j = m
          · subst hmj
            rw [hoj] at hm
            obtain rfl := Option.some.inj hm
            exact getD_set_true (hre e he hb)
          · rw [getD_set_ne false hmj] at hD
            exact getD_set_true (hcl m o hm hD e he hb)
      unfold wpOpIn
      simp only [hoj]
      by_cases hw : Region.wanted oj (yielded ops a.tmps) = true
      · simp only [hw, if_true]
        cases he : eff oj.op with
        | true =>
          have hej : isEff ops j = true := by simp [isEff, hoj, he]
          have hje := (effs_rem t rem hok).2 j hjr hej
          cases m with
          | zero =>
            simp only [covT, List.isEmpty_iff] at hcov
            rw [hcov] at hje
            cases hje
          | succ m =>
            simp only [covT, List.all_eq_true] at hcov
            have h1 := hcov j hje
            rw [Bool.or_eq_true] at h1
            rcases h1 with h1 | h1
            · obtain ⟨i, hi, hb⟩ := List.any_eq_true.1 h1
              rw [hun i ((effs_rem t rem hok).1 i hi)] at hb
              cases hb
            · cases hx : t.take ops j with
              | none => rw [hx] at h1; cases h1
              | some x =>
                rw [hx] at h1
                have h2 := swapT_eff2 hF hoj he t x rem a w hn hok hjr hun hw hx h
                exact effStep.wpIn (hF.kind j oj hoj) (h2.mono fun v w' ⟨hC', h3⟩ => next m x _ _ (take_ok t x rem hn hok hjr hx) h1 (fun i hi o ho hq => hH i j o oj ho hoj hq he (hun i (List.mem_of_mem_erase hi)) w' hC') h3)
        | false =>
          have hej : isEff ops j = false := by simp [isEff, hoj, he]
          obtain ⟨v, hv, h2⟩ := swapT_quiet2 hF hH hoj he t rem a w hn hok hjr hun hw (hC j hjr oj hoj he) h
          exact upon_FR (fun c hc => by have := hF.kind j oj hoj; rw [hc] at this; cases this) (hv w (hC j hjr oj hoj he)) (next m _ _ _ (del_ok t rem hn hok hjr) (cov_del hej _ m t hcov) (fun i hi => hC i (List.mem_of_mem_erase hi)) h2)
      · have hw' : Region.wanted oj (yielded ops a.tmps) = false := by simpa using hw
        simp only [hw', Bool.false_eq_true, if_false]
        cases he : eff oj.op with
        | false =>
          have hej : isEff ops j = false := by simp [isEff, hoj, he]
          exact ⟨fun f _ => fr_fn f, next m _ _ _ (del_ok t rem hn hok hjr) (cov_del hej _ m t hcov) (fun i hi => hC i (List.mem_of_mem_erase hi)) (swapT_skip2 hF hoj t rem a w hn hok hjr hun hw' h)⟩
        | true =>
          have hej : isEff ops j = true := by simp [isEff, hoj, he]
          have hje := (effs_rem t rem hok).2 j hjr hej
          cases m with
          | zero =>
            simp only [covT, List.isEmpty_iff] at hcov
            rw [hcov] at hje
            cases hje
          | succ m =>
            simp only [covT, List.all_eq_true] at hcov
            have h1 := hcov j hje
            rw [Bool.or_eq_true] at h1
            rcases h1 with h1 | h1
            · obtain ⟨i, hi, hb⟩ := List.any_eq_true.1 h1
              rw [hun i ((effs_rem t rem hok).1 i hi)] at hb
              cases hb
            · cases hx : t.take ops j with
              | none => rw [hx] at h1; cases h1
              | some x =>
                rw [hx] at h1
                exact ⟨fun f _ => fr_fn f, next m _ _ _ (take_ok t x rem hn hok hjr hx) h1 (fun i hi => hC i (List.mem_of_mem_erase hi)) (swapT_skipE2 hF hoj t x rem a w hn hok hjr hun hw' hx h)⟩

theorem wpIn_region_T2 {id : Nat} {a : Act} {w : World} (t : OT) (hm : P.follows .mixedOrders = true) (hB : treeB ops t = true) (hH : ∀ (i j : Nat) oi oj, ops[i]? = some oi → ops[j]? = some oj → eff oi.op = false → eff oj.op = true → ((masks ops.toList).getD j 0).testBit i = false → ∀ w, Ce j w → Cq i w) (hC : ∀ i, Cq i { w with drawn := w.drawn + 1 })
    (hK : ∀ a w, K a w → Q .normal a w) (h : wpT2 P ops Cq Ce K t a { w with drawn := w.drawn + 1 }) : (Code.region id ops true).wpIn (FR ro.ro) 0 P Q a w := by
  simp only [treeB, Bool.and_eq_true] at hB
  obtain ⟨⟨h1, h2⟩, h3⟩ := hB
  refine wpIn_region_any hm (any_of_T2 (pairsB_spec h1) hH hK ops.size ops.size t (List.range ops.size) _ a _ (by simp) List.nodup_range (by simp) ?_ ?_ (okT_spec t _ h2) h3 (fun i _ _ _ _ => hC i) h)
  · intro i
    simp only [List.mem_range]
    constructor
    · intro hi
      exact ⟨hi, by simp [hi]⟩
    · exact fun hi => hi.1
  · intro m o _ hD
    simp only [Array.getD_eq_getD_getElem?, Array.getElem?_replicate] at hD
    split at hD <;> simp at hD
end
end Go.Eng

/- The engine, part B25: walks of a region by a tree of orders, in two parts: what the first part reads may change in the second. -/
namespace Go.Eng
open Go Go.RowKit

section
variable {P : Program} {ro : Cx} {n : Nat} {F : Fin} {w0 : World} {M : Nat → Prop} {k : List It} {ops : Array Oper} {e : Env} {H H1 H2 : List Ck} {bs : List Bool}
structure QX (P : Program) (ro : Cx) (n : Nat) (F : Fin) (w0 : World) (M : Nat → Prop) (k : List It) (ops : Array Oper) (H1 H2 : List Ck) (bs : List Bool) (t : OT) (e : Env) (H : List Ck) : Prop where
  h : ∀ w, Sat w0 M H w → ∀ a, Fits n e a → a.defers = ro.ds → wpT2 P ops (flagC (Sat w0 M H1) (Sat w0 M H2) bs) (flagC (Sat w0 M H1) (Sat w0 M H2) bs) (fun a w => S P ro.ro F k .normal a w) t a w
theorem q_drawX {id : Nat} {l : List Oper} (t : OT) (bs : List Bool) (Hq1 Hm1 Hq2 Hm2 : List Ck) (hH1 : Sp H (Hm1 ++ Hq1)) (hH2 : Sp Hq1 (Hm2 ++ Hq2)) (hm : P.follows .mixedOrders = true) (hB : treeB l.toArray t = true) (hbs : flagB l.toArray bs = true)
    (h : QX P ro n F w0 M k l.toArray Hq1 Hq2 bs t e H) : Q P ro n F w0 M (.code (.region id l.toArray true) :: k) e H := .mk fun w hs a hf hd => by
  have hs0 : Sat w0 M H { w with drawn := w.drawn + 1 } := hs.keep (Chg.drew (N := []) w)
  have hs1 : Sat w0 M Hq1 { w with drawn := w.drawn + 1 } := (hs0.sp hH1).right
  have h12 : ∀ w, Sat w0 M Hq1 w → Sat w0 M Hq2 w := fun w hw => (hw.sp hH2).right
  refine wpIn_region_T2 t hm hB (Cq := flagC (Sat w0 M Hq1) (Sat w0 M Hq2) bs) (Ce := flagC (Sat w0 M Hq1) (Sat w0 M Hq2) bs) (fun i j oi oj hi hj hei hej hmk w hC => flagB_spec hbs h12 i j oi oj hi hj hei hej (.inr hmk) w hC) (fun i => ?_) (fun _ _ h => h) (h.h _ hs0 a hf hd)
  unfold flagC
  cases bs.getD i false
  · exact h12 _ hs1
  · exact hs1
theorem qx_nil (h : Q P ro n F w0 M k e H) : QX P ro n F w0 M k ops H1 H2 bs .nil e H := ⟨fun w hs a hf hd => h.h w hs a hf hd⟩
theorem qx_alt {t u : OT} (h1 : QX P ro n F w0 M k ops H1 H2 bs t e H) (h2 : QX P ro n F w0 M k ops H1 H2 bs u e H) : QX P ro n F w0 M k ops H1 H2 bs (.alt t u) e H :=
  ⟨fun w hs a hf hd => ⟨h1.h w hs a hf hd, h2.h w hs a hf hd⟩⟩
theorem wpT2_chain {C1 C2 : World → Prop} {b : Bool} {K : Act → World → Prop} {t : OT} : ∀ (l : List Nat) (lo : List Oper) (a : Act) (w : World), l.map (fun i => ops[i]?) = lo.map some → l.all (fun i => bs.getD i false == b) = true →
    wpFlL P ops (bif b then C1 else C2) (wpT2 P ops (flagC C1 C2 bs) (flagC C1 C2 bs) K t) lo a w → wpT2 P ops (flagC C1 C2 bs) (flagC C1 C2 bs) K (chainT l t) a w
  | [], [], a, w, _, _, h => h
  | [], _ :: _, _, _, hl, _, _ => by cases hl
  | _ :: _, [], _, _, hl, _, _ => by cases hl
  | i :: l, o :: lo, a, w, hl, hb, h => by
    simp only [List.map_cons, List.cons.injEq] at hl
    simp only [List.all_cons, Bool.and_eq_true, beq_iff_eq] at hb
    have ih : ∀ a w, wpFlL P ops (bif b then C1 else C2) (wpT2 P ops (flagC C1 C2 bs) (flagC C1 C2 bs) K t) lo a w → wpT2 P ops (flagC C1 C2 bs) (flagC C1 C2 bs) K (chainT l t) a w := fun a w => wpT2_chain l lo a w hl.2 hb.2
    have hC : flagC C1 C2 bs i = (bif b then C1 else C2) := by
      funext w
      unfold flagC
      rw [hb.1]
      cases b <;> rfl
    simp only [chainT, wpT2, hl.1, hC]
    simp only [wpFlL] at h
    split
    · rename_i hw
      rw [if_pos hw] at h
      split
      · rename_i he
        rw [if_pos he] at h
        exact h.mono fun v w' ⟨hC, h2⟩ => ⟨hC, ih _ _ h2⟩
      · rename_i he
        rw [if_neg he] at h
        obtain ⟨v, hv, h2⟩ := h
        exact ⟨v, hv, ih _ _ h2⟩
    · rename_i hw
      rw [if_neg hw] at h
      exact ih _ _ h
/-- A piece of the first part; of the second one. -/
theorem qx_T {l : List Nat} {lo : List Oper} {t : OT} (Hm : List Ck) (hl : PickL ops l lo) (hb : l.all (fun i => bs.getD i false == true) = true) (hH : Sp H (Hm ++ H1))
    (h : ∀ K1 : Act → World → Prop, (∀ e' H', QX P ro n F w0 M k ops H1 H2 bs t e' H' → Q P ro n F w0 M (.k K1 :: k) e' H') → QF P ro n F w0 M (.k K1 :: k) ops H1 lo e Hm) : QX P ro n F w0 M k ops H1 H2 bs (chainT l t) e H :=
  ⟨fun w hs a hf hd => by
    have h1 := h (wpT2 P ops (flagC (Sat w0 M H1) (Sat w0 M H2) bs) (flagC (Sat w0 M H1) (Sat w0 M H2) bs) (fun a w => S P ro.ro F k .normal a w) t) (fun e' H' hq => .mk fun w' hs' a' hf' hd' => hq.h w' hs' a' hf' hd')
    exact wpT2_chain (b := true) l lo a w hl.map hb (h1.h w (hs.sp hH) a hf hd)⟩
theorem qx_F {l : List Nat} {lo : List Oper} {t : OT} (Hm : List Ck) (hl : PickL ops l lo) (hb : l.all (fun i => bs.getD i false == false) = true) (hH : Sp H (Hm ++ H2))
    (h : ∀ K1 : Act → World → Prop, (∀ e' H', QX P ro n F w0 M k ops H1 H2 bs t e' H' → Q P ro n F w0 M (.k K1 :: k) e' H') → QF P ro n F w0 M (.k K1 :: k) ops H2 lo e Hm) : QX P ro n F w0 M k ops H1 H2 bs (chainT l t) e H :=
  ⟨fun w hs a hf hd => by
    have h1 := h (wpT2 P ops (flagC (Sat w0 M H1) (Sat w0 M H2) bs) (flagC (Sat w0 M H1) (Sat w0 M H2) bs) (fun a w => S P ro.ro F k .normal a w) t) (fun e' H' hq => .mk fun w' hs' a' hf' hd' => hq.h w' hs' a' hf' hd')
    exact wpT2_chain (b := false) l lo a w hl.map hb (h1.h w (hs.sp hH) a hf hd)⟩
/-- What is shared by several orders. -/
theorem qx_let {σ : Type} (t : OT) {t0 : OT} (env : σ → Env) (pc : σ → List Ck) (main : ∀ s, QX P ro n F w0 M k ops H1 H2 bs t (env s) (pc s))
    (use : (∀ s e' H', Sub (env s) e' → Sp H' (pc s) → QX P ro n F w0 M k ops H1 H2 bs t e' H') → QX P ro n F w0 M k ops H1 H2 bs t0 e H) : QX P ro n F w0 M k ops H1 H2 bs t0 e H :=
  use (fun s _ _ he hH => ⟨fun w hs a hf hd => (main s).h w (hs.sp hH) a (hf.sub he) hd⟩)
end
end Go.Eng

/- Walks: the error of a winter; the worst weather and the best one. -/
namespace Go.Proofs.YtpknmgafambmbaaGreat
open Go Go.Eng

def pDy : Value → Bool
  | .agg cs => match cs.toList with
    | [.int _ a, .int _ b, .int _ c, .int _ d, .int _ e, .int _ f] => dayB ⟨a, b, c, d, e, f⟩
    | _ => false
  | _ => false
theorem pDy_all (l : List Dy) : (l.map dyV).all pDy = l.all dayB := by
  rw [List.all_map]
  rfl
theorem dyV_agg (l : List Dy) : ∀ i (hi : i < (l.map dyV).length), ∃ c, (l.map dyV)[i] = .agg c := fun i hi => ⟨_, by rw [List.getElem_map]⟩
theorem chkW1_p (w : World) (l : List Dy) : PredAt Tryz.prog tab w (.func (.func 51) #[] #[]) (l.map dyV) pDy := by
  refine ⟨_, _, _, rfl, rfl, fun w' hw' x hx => ?_⟩
  obtain ⟨⟨a, b, c, d, e, f⟩, hy, rfl⟩ := List.mem_map.1 hx
  refine q_of (Sat.nil w' M0) Tryz.func51 rfl (by simp [Tryz.ntmps51]) ?_
  (refine q_seq (q_region ?_))
  refine ql_box rfl rfl (fun b1 => ?_)
  (refine ql_pure tabOk rfl rfl (q_nil (q_seq (q_region (ql_pure tabOk rfl rfl ?_)))); refine ql_loadABa tabOk rfl rfl rfl ?_)
  refine ql_callv (val := .bool (spnB a b 100000)) tabOk rfl rfl rfl rfl (fun w hs => ?_) ?_; exact spn_ca a b 100000 w
  (refine ql_pure tabOk rfl rfl ?_)
  refine ql_split rfl rfl (fun hc => ?_) (fun hc => ?_)
  · (refine ql_gyes rfl (ql_pure tabOk rfl rfl (ql_gyes rfl ?_)); refine ql_loadABa tabOk rfl rfl rfl ?_; refine ql_gyes rfl ?_)
    refine ql_callv (val := .bool (spnB c d 100000)) tabOk rfl rfl rfl rfl (fun w hs => ?_) ?_; exact spn_ca c d 100000 w
    (refine ql_pure tabOk rfl rfl (ql_pure tabOk rfl rfl ?_))
    refine ql_split rfl rfl (fun hc => ?_) (fun hc => ?_)
    · (refine ql_gyes rfl (ql_pure tabOk rfl rfl (ql_gyes rfl ?_)); refine ql_loadABa tabOk rfl rfl rfl ?_; refine ql_gyes rfl ?_)
      refine ql_callv (val := .bool (spnB e f 100000)) tabOk rfl rfl rfl rfl (fun w hs => ?_) ?_; exact spn_ca e f 100000 w
      (refine ql_pure tabOk rfl rfl (ql_pure tabOk rfl rfl (q_nil (q_ret ?_))))
      refine q_fin tabOk rfl (by repeat constructor) fun w hs => ?_
      exact ⟨by simp [retV, pDy, dayB, *], hs.chg0⟩
    · ((iterate 3 refine ql_gno rfl rfl rfl ?_); refine ql_pure tabOk rfl rfl (ql_pure tabOk rfl rfl (q_nil (q_ret ?_))))
      refine q_fin tabOk rfl (by repeat constructor) fun w hs => ?_
      exact ⟨by simp [retV, pDy, dayB, *], hs.chg0⟩
  · ((iterate 3 refine ql_gno rfl rfl rfl ?_); refine ql_pure tabOk rfl rfl (ql_pure tabOk rfl rfl ?_); (iterate 3 refine ql_gno rfl rfl rfl ?_); refine ql_pure tabOk rfl rfl (ql_pure tabOk rfl rfl (q_nil (q_ret ?_))))
    refine q_fin tabOk rfl (by repeat constructor) fun w hs => ?_
    exact ⟨by simp [retV, pDy, dayB, *], hs.chg0⟩

/-- The cells of a winter. -/
abbrev wnC (x : Wn) (a : Option Addr) (c : Nat) : List Value := [.int .i64 x.stock, .int .i64 x.store, .slice a x.days.length c]
theorem checkW_ca (w : World) (lo hi : Nat) (x : Wn) (a : Option Addr) (c : Nat) (h : RdD w lo hi (.slice a x.days.length c) x.days) (hlen : x.days.length ≤ 1000000) : Ca Tryz.prog 31 [.agg (wnC x a c).toArray] w fun r w' => r = .int .i64 (checkW x) ∧ Chg [] w w' := by
  refine q_of (Sat.nil w M0) Tryz.func31 rfl (by simp [Tryz.ntmps31]) ?_
  (refine q_seq (q_region ?_))
  refine ql_box rfl rfl (fun b1 => ?_)
  (refine ql_pure tabOk rfl rfl (q_nil (q_seq (q_block (q_seq (q_region (ql_pure tabOk rfl rfl ?_)))))); refine ql_loadBa tabOk rfl rfl rfl ?_)
  refine ql_callv (val := .bool (wiB x.store 1 1000000)) tabOk rfl rfl rfl rfl (fun w hs => ?_) ?_; exact within_ca x.store 1 1000000 w
  (refine ql_pure tabOk rfl rfl (ql_pure tabOk rfl rfl ?_))
  refine ql_split rfl rfl (fun hc => ?_) (fun hc => ?_)
  · ((iterate 6 refine ql_gno rfl rfl rfl ?_); refine ql_pure tabOk rfl rfl (ql_pure tabOk rfl rfl (q_nil (q_cond_true rfl (q_seq (q_region (ql_pure tabOk rfl rfl (q_nil (q_ret ?_)))))))))
    refine q_fin tabOk rfl (by repeat constructor) fun w hs => ?_
    exact ⟨by simp [wiB] at hc; simp only [retV, checkW]; rw [if_pos (by omega)], hs.chg0⟩
  have h1 := wiB_iff.1 (show wiB x.store 1 1000000 = true by simpa using hc)
  clear hc
  (refine ql_gyes rfl (ql_pure tabOk rfl rfl (ql_gyes rfl ?_)); refine ql_loadBa tabOk rfl rfl rfl ?_; refine ql_gyes rfl (ql_pure tabOk rfl rfl (ql_gyes rfl ?_)); refine ql_loadBa tabOk rfl rfl rfl ?_; refine ql_gyes rfl ?_)
  refine ql_callv (val := .bool (wiB x.stock 0 x.store)) tabOk rfl rfl rfl rfl (fun w hs => ?_) ?_; exact within_ca x.stock 0 x.store w
  (refine ql_gyes rfl ?_; (iterate 3 refine ql_pure tabOk rfl rfl ?_); refine q_nil ?_)
  refine q_cond rfl (fun hc => ?_) (fun hc => ?_)
  · (refine q_seq (q_region (ql_pure tabOk rfl rfl (q_nil (q_ret ?_)))))
    refine q_fin tabOk rfl (by repeat constructor) fun w hs => ?_
    exact ⟨by simp [wiB] at hc; simp only [retV, checkW]; rw [if_pos (by omega)], hs.chg0⟩
  have h2 := wiB_iff.1 (show wiB x.stock 0 x.store = true by simpa using hc)
  clear hc
  (refine q_seq (q_region (ql_pure tabOk rfl rfl ?_)); refine ql_loadBa tabOk rfl rfl rfl ?_; refine ql_pure tabOk rfl rfl ?_)
  refine ql_callv (val := .bool (wiB x.days.length 1 60)) tabOk rfl rfl rfl rfl (fun w hs => ?_) ?_; exact within_ca x.days.length 1 60 w
  (refine ql_pure tabOk rfl rfl (ql_pure tabOk rfl rfl (q_nil ?_)))
  refine q_cond rfl (fun hc => ?_) (fun hc => ?_)
  · (refine q_seq (q_region (ql_pure tabOk rfl rfl (q_nil (q_ret ?_)))))
    refine q_fin tabOk rfl (by repeat constructor) fun w hs => ?_
    exact ⟨by simp [wiB] at hc; simp only [retV, checkW]; rw [if_neg (by omega), if_pos (by omega)], hs.chg0⟩
  have h3 := wiB_iff.1 (show wiB x.days.length 1 60 = true by simpa using hc)
  clear hc
  (refine q_seq (q_region (ql_pure tabOk rfl rfl ?_)); refine ql_loadBa tabOk rfl rfl rfl ?_)
  refine ql_callv (val := .bool (x.days.all dayB)) tabOk rfl rfl rfl rfl (fun w hs => ?_) ?_; exact by have := all_day w lo hi _ _ (x.days.map dyV) pDy (RdE.keep h hs.chg0) (dyV_agg x.days) (by simp; omega) (chkW1_p w x.days); rw [pDy_all] at this; exact this
  (refine ql_pure tabOk rfl rfl (ql_pure tabOk rfl rfl (q_nil ?_)))
  by_cases h4 : x.days.all dayB = true
  · rw [h4]
    (refine q_cond_false rfl (q_skip (q_blk (q_seq (q_region (ql_pure tabOk rfl rfl (q_nil (q_ret ?_))))))))
    refine q_fin tabOk rfl (by repeat constructor) fun w hs => ?_
    exact ⟨by simp only [retV, checkW, h4]; rw [if_neg (by omega), if_neg (by omega)]; rfl, hs.chg0⟩
  · rw [Bool.eq_false_iff.2 h4]
    (refine q_cond_true rfl (q_seq (q_region (ql_pure tabOk rfl rfl (q_nil (q_ret ?_))))))
    refine q_fin tabOk rfl (by repeat constructor) fun w hs => ?_
    exact ⟨by simp only [retV, checkW, Bool.eq_false_iff.2 h4]; rw [if_neg (by omega), if_neg (by omega)]; rfl, hs.chg0⟩

theorem greatest_ca (w : World) : Ca Tryz.prog 70 [] w fun r w' => r = .agg #[.func (.func 88) #[] #[]] ∧ Chg [] w w' := by
  refine q_of (Sat.nil w M0) Tryz.func70 rfl (by simp [Tryz.ntmps70]) ?_
  (refine q_seq (q_region ?_))
  refine ql_alloc zero151 rfl (fun b0 => ?_)
  (refine q_nil (q_seq (q_region ?_)))
  refine ql_mk #[.func (.func 88) #[] #[]] rfl (by kernel_rfl) rfl ?_
  (refine ql_setA tabOk rfl rfl rfl rfl rfl (by repeat constructor) rfl ?_; refine q_nil (q_ret ?_))
  refine q_fin tabOk rfl (by repeat constructor) fun w hs => ?_
  exact ⟨rfl, hs.chg0⟩
theorem leastE_ca (w : World) : Ca Tryz.prog 71 [] w fun r w' => r = .agg #[.func (.func 89) #[] #[]] ∧ Chg [] w w' := by
  refine q_of (Sat.nil w M0) Tryz.func71 rfl (by simp [Tryz.ntmps71]) ?_
  (refine q_seq (q_region ?_))
  refine ql_alloc zero151 rfl (fun b0 => ?_)
  (refine q_nil (q_seq (q_region ?_)))
  refine ql_mk #[.func (.func 89) #[] #[]] rfl (by kernel_rfl) rfl ?_
  (refine ql_setA tabOk rfl rfl rfl rfl rfl (by repeat constructor) rfl ?_; refine q_nil (q_ret ?_))
  refine q_fin tabOk rfl (by repeat constructor) fun w hs => ?_
  exact ⟨rfl, hs.chg0⟩
theorem greatest1_ca (w : World) (a b : Int) : Ca Tryz.prog 88 [.agg #[.int .i64 a, .int .i64 b]] w fun r w' => r = .int .i64 b ∧ Chg [] w w' := by
  refine q_of (Sat.nil w M0) Tryz.func88 rfl (by simp [Tryz.ntmps88]) ?_
  (refine q_seq (q_region ?_))
  refine ql_box rfl rfl (fun b1 => ?_)
  (refine ql_pure tabOk rfl rfl (q_nil (q_seq (q_region (ql_pure tabOk rfl rfl ?_)))); refine ql_loadBa tabOk rfl rfl rfl ?_; refine ql_pure tabOk rfl rfl (q_nil (q_ret ?_)))
  refine q_fin tabOk rfl (by repeat constructor) fun w hs => ?_
  exact ⟨rfl, hs.chg0⟩
theorem least1_ca (w : World) (a b : Int) : Ca Tryz.prog 89 [.agg #[.int .i64 a, .int .i64 b]] w fun r w' => r = .int .i64 a ∧ Chg [] w w' := by
  refine q_of (Sat.nil w M0) Tryz.func89 rfl (by simp [Tryz.ntmps89]) ?_
  (refine q_seq (q_region ?_))
  refine ql_box rfl rfl (fun b1 => ?_)
  (refine ql_pure tabOk rfl rfl (q_nil (q_seq (q_region (ql_pure tabOk rfl rfl ?_)))); refine ql_loadBa tabOk rfl rfl rfl ?_; refine ql_pure tabOk rfl rfl (q_nil (q_ret ?_)))
  refine q_fin tabOk rfl (by repeat constructor) fun w hs => ?_
  exact ⟨rfl, hs.chg0⟩
/-- One end of spans, as a function value. -/
def EndAt (f : Value) (p : Int → Int → Int) : Prop := oneV f = true ∧ ∀ w a b, CaF Tryz.prog f [.agg #[.int .i64 a, .int .i64 b]] w fun r w' => r = .int .i64 (p a b) ∧ Chg [] w w'
theorem great_at : EndAt (.func (.func 88) #[] #[]) (fun _ b => b) := ⟨rfl, fun w a b => CaF.of tabOk rfl (greatest1_ca w a b)⟩
theorem least_at : EndAt (.func (.func 89) #[] #[]) (fun a _ => a) := ⟨rfl, fun w a b => CaF.of tabOk rfl (least1_ca w a b)⟩

theorem slI : SlT Tryz.prog 46 3 1 8 (.int .i64 0) := ⟨by kernel_rfl, by kernel_rfl, by kernel_rfl, by decide⟩
/-- The pieces of a weather. -/
abbrev wtK (v1 v2 v3 : Value) (t : Wt) : List Ck := [.ow v1 3 1 t.need.length (ints t.need), .ow v2 3 1 t.make.length (ints t.make), .ow v3 3 1 t.loss.length (ints t.loss)]
def endW (pu pg : Int → Int → Int) (l : List Dy) : Wt := ⟨l.map (fun d => pu d.n0 d.n1), l.map (fun d => pg d.m0 d.m1), l.map (fun d => pu d.l0 d.l1)⟩
set_option maxHeartbeats 4000000 in
theorem weather_ca (w : World) (lo hi : Nat) (x : Wn) (a : Option Addr) (c : Nat) (fu fg : Value) (pu pg : Int → Int → Int) (h : RdD w lo hi (.slice a x.days.length c) x.days) (hlen : x.days.length ≤ 1000000) (hu : EndAt fu pu) (hg : EndAt fg pg) :
    Ca Tryz.prog 69 [.agg (wnC x a c).toArray, .agg #[fu], .agg #[fg]] w fun r w' => ∃ y : Value × Value × Value, r = .agg #[y.1, y.2.1, y.2.2] ∧ Sat w M0 (wtK y.1 y.2.1 y.2.2 (endW pu pg x.days)) w' := by
  obtain ⟨_, _, e0, hsa⟩ := RdD.outI h
  cases e0
  have ou := hu.1
  have og := hg.1
  refine q_of (Sat.nil w M0) Tryz.func69 rfl (by simp [Tryz.ntmps69]) ?_
  (refine q_seq (q_region ?_))
  refine ql_box rfl rfl (fun b3 => ?_)
  refine ql_box rfl rfl (fun b4 => ?_)
  refine ql_box rfl rfl (fun b5 => ?_)
  refine ql_alloc zero122 rfl (fun b6 => ?_)
  (refine q_nil (q_seq (q_region ?_)))
  refine ql_alloc zero122 rfl (fun b7 => ?_)
  (refine q_nil (q_seq (q_seq (q_region (ql_pure tabOk rfl rfl ?_)))); refine ql_loadBa tabOk rfl rfl rfl ?_; refine ql_pure tabOk rfl rfl (ql_pure tabOk rfl rfl (q_nil (q_block ?_))))
  refine q_conv (H' := [.pt b7 [.slice none 0 0, .slice none 0 0, .slice none 0 0] 122, .ow (.slice none 0 0) 3 1 0 (ints []), .ow (.slice none 0 0) 3 1 0 (ints []), .ow (.slice none 0 0) 3 1 0 (ints []), .pt b6 [.slice none 0 0, .slice none 0 0, .slice none 0 0] 122, .pt b5 [fg] 151, .pt b4 [fu] 151])
    (fun w' hs => (Sat.ownil (Sat.ownil (Sat.ownil hs 3 1) 3 1) 3 1).sp (by repeat constructor)) ?_
  refine q_loop (σ := Nat × Value × Value × Value) (fun s => s.1 ≤ x.days.length) (fun s => x.days.length - s.1) (fun s => [(4, .pointer (some ⟨b4, 0, none⟩)), (5, .pointer (some ⟨b5, 0, none⟩)), (6, .pointer (some ⟨b6, 0, none⟩)), (7, .pointer (some ⟨b7, 0, none⟩)), (11, .slice a x.days.length c), (12, .int .i64 x.days.length), (13, .int .i64 s.1)])
    (fun s => [.pt b7 [s.2.1, s.2.2.1, s.2.2.2] 122, .ow s.2.1 3 1 s.1 (ints (endW pu pg (x.days.take s.1)).need), .ow s.2.2.1 3 1 s.1 (ints (endW pu pg (x.days.take s.1)).make), .ow s.2.2.2 3 1 s.1 (ints (endW pu pg (x.days.take s.1)).loss), .pt b6 [.slice none 0 0, .slice none 0 0, .slice none 0 0] 122, .pt b5 [fg] 151, .pt b4 [fu] 151])
    (0, .slice none 0 0, .slice none 0 0, .slice none 0 0) (by simp) ⟨rfl, rfl, rfl, rfl, rfl, rfl, rfl, trivial⟩ (Sp.refl _) ?_
  rintro ⟨k, v1, v2, v3⟩ hk K hK
  simp only at hk
  dsimp only
  (refine q_seq (q_region (ql_pure tabOk rfl rfl (q_nil (q_seq ?_)))))
  refine q_if rfl (fun hc => ?_) (fun hc => ?_)
  · have hk2 : k < x.days.length := by omega
    clear hc
    obtain ⟨ba, oa, rfl⟩ := hsa (by omega)
    (refine q_skip (q_seq (q_block (q_seq (q_region ?_)))))
    refine ql_index tabOk rfl rfl rfl rfl rfl (by omega) (by omega) ?_
    refine ql_loadA tabOk rfl rfl rfl rfl (fun w hs => RdD.at (RdE.keep h hs.chg0) k hk2) ?_
    skip
    refine ql_alloc zero38 rfl (fun b9 => ?_)
    (refine ql_setA tabOk rfl rfl rfl rfl rfl (by repeat constructor) rfl ?_; refine q_nil ?_)
    have e0 : endW pu pg (x.days.take (k + 1)) = ⟨(endW pu pg (x.days.take k)).need ++ [pu x.days[k].n0 x.days[k].n1], (endW pu pg (x.days.take k)).make ++ [pg x.days[k].m0 x.days[k].m1], (endW pu pg (x.days.take k)).loss ++ [pu x.days[k].l0 x.days[k].l1]⟩ := by
      rw [List.take_succ_eq_append_getElem hk2]
      simp only [endW, List.map_append]
      rfl
    generalize x.days[k] = d at *
    obtain ⟨n0, n1, m0, m1, l0, l1⟩ := d
    dsimp only at e0 ⊢
    refine q_drawS2 27 [.pt b9 [.int .i64 n0, .int .i64 n1, .int .i64 m0, .int .i64 m1, .int .i64 l0, .int .i64 l1] 38, .pt b7 [v1, v2, v3] 122, .pt b6 [.slice none 0 0, .slice none 0 0, .slice none 0 0] 122, .pt b5 [fg] 151, .pt b4 [fu] 151] [.ow v1 3 1 k (ints (endW pu pg (x.days.take k)).need), .ow v2 3 1 k (ints (endW pu pg (x.days.take k)).make), .ow v3 3 1 k (ints (endW pu pg (x.days.take k)).loss)] [.pt b6 [.slice none 0 0, .slice none 0 0, .slice none 0 0] 122, .pt b5 [fg] 151, .pt b4 [fu] 151] [.pt b7 [v1, v2, v3] 122]
      (by repeat constructor) (by repeat constructor) (by kernel_rfl) (by kernel_rfl) (by kernel_rfl) fun K1 hK1 => ?_
    (refine qf_pure tabOk rfl rfl rfl ?_; refine qf_loadBa tabOk rfl rfl rfl ?_; refine qf_pure tabOk rfl rfl rfl ?_; refine qf_loadBa tabOk rfl rfl rfl ?_; refine qf_pure tabOk rfl rfl rfl ?_; refine qf_loadABa tabOk rfl rfl rfl ?_)
    refine qf_callFv rfl rfl rfl (fun w hs => hu.2 w n0 n1) ?_
    skip
    refine qf_mkS 3 [.int .i64 (pu n0 n1)] rfl (by kernel_rfl) rfl (fun c1 => ?_)
    refine qf_append (q := 1) slI rfl rfl rfl (fun v' => by repeat constructor) (fun w' hs => ⟨_, _, Blk.rd (hs.blk (b := c1) (by repeat constructor)) rfl 1⟩) (by simp [oneV]) (by omega) (by omega) (fun u1 => ?_)
    (refine qf_pure tabOk rfl rfl rfl ?_; refine qf_loadBa tabOk rfl rfl rfl ?_; refine qf_pure tabOk rfl rfl rfl ?_; refine qf_loadBa tabOk rfl rfl rfl ?_; refine qf_pure tabOk rfl rfl rfl ?_; refine qf_loadABa tabOk rfl rfl rfl ?_)
    refine qf_callFv rfl rfl rfl (fun w hs => hg.2 w m0 m1) ?_
    skip
    refine qf_mkS 3 [.int .i64 (pg m0 m1)] rfl (by kernel_rfl) rfl (fun c2 => ?_)
    refine qf_append (q := 1) slI rfl rfl rfl (fun v' => by repeat constructor) (fun w' hs => ⟨_, _, Blk.rd (hs.blk (b := c2) (by repeat constructor)) rfl 1⟩) (by simp [oneV]) (by omega) (by omega) (fun u2 => ?_)
    (refine qf_pure tabOk rfl rfl rfl ?_; refine qf_loadBa tabOk rfl rfl rfl ?_; refine qf_pure tabOk rfl rfl rfl ?_; refine qf_loadBa tabOk rfl rfl rfl ?_; refine qf_pure tabOk rfl rfl rfl ?_; refine qf_loadABa tabOk rfl rfl rfl ?_)
    refine qf_callFv rfl rfl rfl (fun w hs => hu.2 w l0 l1) ?_
    skip
    refine qf_mkS 3 [.int .i64 (pu l0 l1)] rfl (by kernel_rfl) rfl (fun c3 => ?_)
    refine qf_append (q := 1) slI rfl rfl rfl (fun v' => by repeat constructor) (fun w' hs => ⟨_, _, Blk.rd (hs.blk (b := c3) (by repeat constructor)) rfl 1⟩) (by simp [oneV]) (by omega) (by omega) (fun u3 => ?_)
    (refine qf_nil ?_)
    refine hK1 _ _ [.pt b7 [v1, v2, v3] 122, .ow u1 3 1 (k + 1) (ints (endW pu pg (x.days.take k)).need ++ [.int .i64 (pu n0 n1)]), .ow u2 3 1 (k + 1) (ints (endW pu pg (x.days.take k)).make ++ [.int .i64 (pg m0 m1)]), .ow u3 3 1 (k + 1) (ints (endW pu pg (x.days.take k)).loss ++ [.int .i64 (pu l0 l1)])] (by repeat constructor) ?_
    refine qf_fact (fun w hs => hs.slice (v := u1) (by repeat constructor)) ?_
    rintro ⟨a1, g1, d1, rfl⟩
    refine qf_fact (fun w hs => hs.slice (v := u2) (by repeat constructor)) ?_
    rintro ⟨a2, g2, d2, rfl⟩
    refine qf_fact (fun w hs => hs.slice (v := u3) (by repeat constructor)) ?_
    rintro ⟨a3, g3, d3, rfl⟩
    (refine qf_pure tabOk rfl rfl rfl ?_; refine qf_st0 tabOk rfl rfl rfl rfl (by repeat constructor) ?_; refine qf_pure tabOk rfl rfl rfl ?_; refine qf_st1 tabOk rfl rfl rfl rfl (by repeat constructor) ?_; refine qf_pure tabOk rfl rfl rfl ?_; refine qf_st2 tabOk rfl rfl rfl rfl (by repeat constructor) ?_; refine qf_nil (q_blk (q_region (ql_ar tabOk rfl rfl rfl rfl (by omega) (by omega) (ql_pure tabOk rfl rfl (q_nil ?_))))))
    have f1 : ints (endW pu pg (x.days.take (k + 1))).need = ints (endW pu pg (x.days.take k)).need ++ [.int .i64 (pu n0 n1)] := by rw [e0]; simp [ints]
    have f2 : ints (endW pu pg (x.days.take (k + 1))).make = ints (endW pu pg (x.days.take k)).make ++ [.int .i64 (pg m0 m1)] := by rw [e0]; simp [ints]
    have f3 : ints (endW pu pg (x.days.take (k + 1))).loss = ints (endW pu pg (x.days.take k)).loss ++ [.int .i64 (pu l0 l1)] := by rw [e0]; simp [ints]
    exact hK (k + 1, .slice a1 g1 d1, .slice a2 g2 d2, .slice a3 g3 d3) _ _ (by simp only; omega) (by simp only; omega) ⟨rfl, rfl, rfl, rfl, rfl, rfl, rfl, trivial⟩ (by dsimp only; rw [f1, f2, f3]; repeat constructor)
  · obtain rfl : k = x.days.length := by omega
    clear hc hK
    rw [List.take_length]
    refine q_fact (fun w hs => hs.slice (v := v1) (by repeat constructor)) ?_
    rintro ⟨a1, g1, d1, rfl⟩
    refine q_fact (fun w hs => hs.slice (v := v2) (by repeat constructor)) ?_
    rintro ⟨a2, g2, d2, rfl⟩
    refine q_fact (fun w hs => hs.slice (v := v3) (by repeat constructor)) ?_
    rintro ⟨a3, g3, d3, rfl⟩
    (refine q_exit _ rfl (q_seq (q_region ?_)); refine ql_loadABa tabOk rfl rfl rfl ?_; refine ql_setA tabOk rfl rfl rfl rfl rfl (by repeat constructor) rfl ?_; refine q_nil (q_ret ?_))
    refine q_fin tabOk rfl (by repeat constructor) fun w hs => ?_
    have z1 : (endW pu pg x.days).need.length = x.days.length := by simp [endW]
    have z2 : (endW pu pg x.days).make.length = x.days.length := by simp [endW]
    have z3 : (endW pu pg x.days).loss.length = x.days.length := by simp [endW]
    refine ⟨(_, _, _), rfl, ?_⟩
    rw [wtK, z1, z2, z3]
    exact hs.sp (by repeat constructor)

theorem worst_eq (x : Wn) : endW (fun _ b => b) (fun a _ => a) x.days = worstW x := rfl
set_option maxHeartbeats 1000000 in
theorem worst_ca (w : World) (lo hi : Nat) (x : Wn) (a : Option Addr) (c : Nat) (h : RdD w lo hi (.slice a x.days.length c) x.days) (hlen : x.days.length ≤ 1000000) :
    Ca Tryz.prog 49 [.agg (wnC x a c).toArray] w fun r w' => ∃ y : Value × Value × Value, r = .agg #[y.1, y.2.1, y.2.2] ∧ Sat w M0 (wtK y.1 y.2.1 y.2.2 (worstW x)) w' := by
  refine q_of (Sat.nil w M0) Tryz.func49 rfl (by simp [Tryz.ntmps49]) ?_
  (refine q_seq (q_region ?_))
  refine ql_box rfl rfl (fun b1 => ?_)
  refine ql_alloc zero122 rfl (fun b2 => ?_)
  (refine q_nil (q_seq ?_))
  refine q_draw _ [.pt b2 _ _] (Sp.cons (by repeat constructor) (Sp.refl _)) (by kernel_rfl) (by kernel_rfl) ?_
  (refine qf_loadABa tabOk rfl rfl rfl ?_)
  refine qf_callv tabOk rfl rfl rfl rfl (fun w hs => greatest_ca w) ?_
  skip
  refine qf_callv tabOk rfl rfl rfl rfl (fun w hs => leastE_ca w) ?_
  skip
  refine qf_call (β := Value × Value × Value) tabOk [] _ M0 rfl rfl rfl rfl (Sp.refl _) (fun _ h => h.elim) (fun w' hs => weather_ca w' lo hi x a c _ _ _ _ (RdE.keep h hs.chg0) hlen great_at least_at) ?_
  rintro ⟨v1, v2, v3⟩ _ rfl
  rw [worst_eq]
  dsimp only [wtK, List.cons_append, List.nil_append]
  refine qf_fact (fun w hs => hs.slice (v := v1) (by repeat constructor)) ?_
  rintro ⟨a1, g1, d1, rfl⟩
  refine qf_fact (fun w hs => hs.slice (v := v2) (by repeat constructor)) ?_
  rintro ⟨a2, g2, d2, rfl⟩
  refine qf_fact (fun w hs => hs.slice (v := v3) (by repeat constructor)) ?_
  rintro ⟨a3, g3, d3, rfl⟩
  (refine qf_setA tabOk rfl rfl rfl rfl rfl (by repeat constructor) rfl ?_; refine qf_nil (q_ret ?_))
  refine q_fin tabOk rfl (by repeat constructor) fun w hs => ?_
  exact ⟨(_, _, _), rfl, hs.sp (by repeat constructor)⟩
end Go.Proofs.YtpknmgafambmbaaGreat

/- Walks: piles are added and removed. -/
namespace Go.Proofs.YtpknmgafambmbaaGreat
open Go Go.Eng

/-- Piles that can be read. -/
def plK (v : Value) (l : List (Int × Int)) : Ck := .gn (fun b => ∃ off n c, v = .slice (some ⟨b, off, none⟩) n c) (fun w => Rd w 0 w.heap.size v 2 l.length (spC l)) (fun w w' N h hc hN => by
  obtain ⟨h1, h2⟩ := h
  refine ⟨h1, ?_⟩
  rcases h2 with h2 | ⟨b, off, cap, hv, hb, hcell⟩
  · exact .inl h2
  · refine .inr ⟨b, off, cap, hv, fun hp => ⟨Nat.zero_le _, Nat.lt_of_lt_of_le (hb hp).2.1 hc.size, Nat.lt_of_lt_of_le (hb hp).2.2 hc.size⟩, fun j hj => ?_⟩
    rw [← hcell j hj]
    exact World.cell?_of_block (w := w) (hc.block b (hb (by omega)).2.2 (hN b ⟨off, _, cap, hv⟩)))
theorem slPl : SlT Tryz.prog 93 168 2 16 (.agg #[.int .i64 0, .int .i64 0]) := ⟨by kernel_rfl, by kernel_rfl, by kernel_rfl, by decide⟩
/-- The cells of a run. -/
abbrev rnC (x : Wn) (a : Option Addr) (c : Nat) (fails : Int) (sv mv : Value) (full : Int) (pv : Value) : List Value := [.int .i64 x.stock, .int .i64 x.store, .slice a x.days.length c, .int .i64 fails, sv, mv, .int .i64 full, pv]
theorem spC_one (l : List (Int × Int)) : ∀ c ∈ spC l, oneV c = true := fun c hc => by obtain ⟨y, _, hy⟩ := List.mem_flatMap.1 hc; simp at hy; rcases hy with rfl | rfl <;> rfl
theorem ow_plK {w0 w : World} {M : Nat → Prop} {v : Value} {t n : Nat} {l : List (Int × Int)} {R : List Ck} (hn : n = l.length) (h : Sat w0 M (.ow v t 2 n (spC l) :: R) w) : Sat w0 M (plK v l :: R) w := by
  subst hn
  refine h.turn (fun b hb => ?_) (fun h => own_rd h)
  obtain ⟨off, n, c, rfl⟩ := hb
  obtain ⟨a, m, c', hv⟩ := h.slice (.head _)
  have hp : w.ownsRow 0 t 2 _ l.length (spC l) := h.all _ (.head _)
  rcases hp.2 with ⟨hv, _⟩ | ⟨g, cap, cur, hv, _⟩
  · cases hv
  · cases hv
    rfl

theorem Blk.rdSp {w : World} {b : Nat} {x y : Int} {t : TypeId} (h : Blk w b [.int .i64 x, .int .i64 y] t) : Rd w b (b + 1) (.slice (some ⟨b, 0, none⟩) 1 1) 2 1 (spC [(x, y)]) :=
  ⟨rfl, .inr ⟨b, 0, 1, rfl, fun _ => ⟨Nat.le_refl _, Nat.lt_succ_self _, h.lt⟩, fun j _ => by rw [Blk.cell h]; simp [spC]⟩⟩
/-- A run. -/
abbrev runK (br : Nat) (x : Wn) (a : Option Addr) (c : Nat) (fails full : Int) (sv mv pv : Value) : Ck := .pt br (rnC x a c fails sv mv full pv) 95

set_option maxHeartbeats 1000000 in
theorem addR_ca (w : World) (br : Nat) (x : Wn) (ad : Option Addr) (c : Nat) (fails full day much : Int) (sv mv : Value) (a : Option Addr) (l : List (Int × Int)) (hl : l.length ≤ 1000)
    (hs0 : Sat w (DL [runK br x ad c fails full sv mv (.slice a l.length l.length), plK (.slice a l.length l.length) l]) [runK br x ad c fails full sv mv (.slice a l.length l.length), plK (.slice a l.length l.length) l] w) :
    Ca Tryz.prog 67 [.pointer (some ⟨br, 0, none⟩), .int .i64 day, .int .i64 much] w fun r w' => ∃ pv, (∃ a' c', pv = .slice a' (addP day much l).length c') ∧ Sat w (DL [runK br x ad c fails full sv mv (.slice a l.length l.length), plK (.slice a l.length l.length) l]) [runK br x ad c fails full sv mv pv, plK pv (addP day much l)] w' := by
  refine q_of hs0 Tryz.func67 rfl (by simp [Tryz.ntmps67]) ?_
  (refine q_seq (q_region (ql_pure tabOk rfl rfl (ql_pure tabOk rfl rfl (q_nil ?_)))))
  refine q_if rfl (fun hc => ?_) (fun hc => ?_)
  · have e : addP day much l = l ++ [(day, much)] := by unfold addP; rw [if_pos hc]
    (refine q_region ?_; (iterate 4 refine ql_pure tabOk rfl rfl ?_); refine ql_loadBa tabOk rfl rfl rfl ?_; refine ql_pure tabOk rfl rfl (ql_pure tabOk rfl rfl ?_))
    refine ql_mk #[.int .i64 day, .int .i64 much] rfl (by kernel_rfl) rfl ?_
    refine ql_mkS 168 [.int .i64 day, .int .i64 much] rfl (by kernel_rfl) rfl (fun bn => ?_)
    refine ql_appendF (q := 1) (xs := spC l) (news := spC [(day, much)]) slPl rfl rfl rfl (fun w hs => ⟨_, _, hs.all (plK (.slice a l.length l.length) l) (by repeat constructor)⟩) (fun w' hs => ⟨_, _, Blk.rdSp (hs.blk (b := bn) (by repeat constructor))⟩) (spC_one _) (by omega) (by omega) (by omega) (fun v' => ?_)
    refine ql_fact (fun w hs => hs.slice2 (v := v') (by repeat constructor)) ?_
    rintro ⟨a1, c1, rfl⟩
    (refine ql_pure tabOk rfl rfl (ql_pure tabOk rfl rfl ?_); refine ql_st7 tabOk rfl rfl rfl rfl (by repeat constructor) ?_; refine q_nil ?_)
    refine q_end tabOk rfl (by repeat constructor) fun w hs => ?_
    refine ⟨.slice a1 (l.length + 1) c1, ⟨a1, c1, by rw [e]; simp⟩, ?_⟩
    have e2 : spC l ++ spC [(day, much)] = spC (addP day much l) := by rw [e]; simp [spC]
    rw [e2] at hs
    exact (ow_plK (t := 168) (n := l.length + 1) (l := addP day much l) (R := [runK br x ad c fails full sv mv (.slice a1 (l.length + 1) c1)]) (by rw [e]; simp) (hs.sp (by repeat constructor))).sp (by repeat constructor)
  · have e : addP day much l = l := by unfold addP; rw [if_neg hc]
    (refine q_skip ?_)
    refine q_end tabOk rfl (by repeat constructor) fun w hs => ?_
    exact ⟨_, ⟨_, _, by rw [e]⟩, by rw [e]; exact hs⟩

theorem spC_cons (d m : Int) (r : List (Int × Int)) : spC ((d, m) :: r) = .int .i64 d :: .int .i64 m :: spC r := rfl
theorem pt_plK {w0 w : World} {M : Nat → Prop} {b off : Nat} {t : TypeId} {pre : List Value} {l : List (Int × Int)} {c : Nat} {R : List Ck} (ho : l ≠ [] → off = pre.length) (h : Sat w0 M (.pt b (pre ++ spC l) t :: R) w) : Sat w0 M (plK (.slice (some ⟨b, off, none⟩) l.length c) l :: R) w := by
  refine h.turn (fun x hx => ?_) (fun h => ?_)
  · obtain ⟨_, _, _, hv⟩ := hx
    cases hv
    rfl
  · have hb : Blk w b (pre ++ spC l) t := h
    by_cases h0 : l = []
    · subst h0
      exact ⟨rfl, .inl ⟨.inr ⟨_, _, rfl⟩, rfl⟩⟩
    · refine ⟨spC_length l, .inr ⟨b, off, c, rfl, fun _ => ⟨Nat.zero_le _, hb.lt, hb.lt⟩, fun j hj => ?_⟩⟩
      rw [Blk.cell hb, ho h0, List.getElem?_append_right (by omega)]
      congr 1
      omega
theorem cellPl {w : World} {b : Nat} {pre : List Value} {d m : Int} {r : List (Int × Int)} {t : TypeId} (h : Blk w b (pre ++ spC ((d, m) :: r)) t) : w.cell? ⟨b, pre.length + 0 * 2 + 1, none⟩ = some (.int .i64 m) := by
  rw [Blk.cell h, List.getElem?_append_right (by omega), spC_cons]
  simp
theorem setPl (pre : List Value) (d m z : Int) (r : List (Int × Int)) : (pre ++ spC ((d, m) :: r)).set (pre.length + 0 * 2 + 1) (.int .i64 z) = pre ++ spC ((d, z) :: r) := by
  rw [List.set_append_right _ _ (by omega), spC_cons, spC_cons]
  simp
set_option maxHeartbeats 2000000 in
theorem remR_ca (w : World) (br : Nat) (x : Wn) (ad : Option Addr) (c : Nat) (fails full much : Int) (sv mv : Value) (a : Option Addr) (cp : Nat) (l : List (Int × Int)) (hl : l.length ≤ 1000) (hb : ∀ y ∈ l, 0 ≤ y.2 ∧ y.2 ≤ 10000000) (hm : 0 ≤ much ∧ much ≤ 10000000)
    (hs0 : Sat w (DL [runK br x ad c fails full sv mv (.slice a l.length cp), plK (.slice a l.length cp) l]) [runK br x ad c fails full sv mv (.slice a l.length cp), plK (.slice a l.length cp) l] w) :
    Ca Tryz.prog 68 [.pointer (some ⟨br, 0, none⟩), .int .i64 much] w fun r w' => ∃ a', Sat w (DL [runK br x ad c fails full sv mv (.slice a l.length cp), plK (.slice a l.length cp) l]) [runK br x ad c fails full sv mv (.slice a' (remP much l).length (remP much l).length), plK (.slice a' (remP much l).length (remP much l).length) (remP much l), plK (.slice a l.length cp) l] w' := by
  refine q_of hs0 Tryz.func68 rfl (by simp [Tryz.ntmps68]) ?_
  (refine q_seq (q_region ?_); (iterate 3 refine ql_pure tabOk rfl rfl ?_); refine ql_loadBa tabOk rfl rfl rfl ?_; refine ql_pure tabOk rfl rfl ?_)
  refine ql_makeR (m := l.length) slPl rfl rfl rfl (by omega) (by omega) (by omega) (fun b cs hcs => ?_)
  (refine ql_pure tabOk rfl rfl (q_nil (q_seq (q_region ?_))); (iterate 4 refine ql_pure tabOk rfl rfl ?_); refine ql_loadBa tabOk rfl rfl rfl ?_)
  refine ql_copyR (et := 168) (news := spC l) (sz := 2) (o := 0) (by kernel_rfl) (by kernel_rfl) rfl rfl rfl (by repeat constructor) (by rw [spC_length]; omega) (spC_one l) (fun w hs => ⟨_, _, hs.all (plK (.slice a l.length cp) l) (by repeat constructor)⟩) ?_
  have e1 : List.take 0 cs ++ spC l ++ List.drop (0 + (spC l).length) cs = spC l := by
    rw [List.drop_of_length_le (by rw [spC_length]; omega)]
    simp
  rw [e1]
  (refine q_nil (q_seq (q_block ?_)))
  refine q_loop (σ := Nat × List Value × List (Int × Int) × Int) (fun s => (s.2.2.1 ≠ [] → s.1 = s.2.1.length) ∧ remP s.2.2.2 s.2.2.1 = remP much l ∧ (∀ y ∈ s.2.2.1, 0 ≤ y.2 ∧ y.2 ≤ 10000000) ∧ (0 ≤ s.2.2.2 ∧ s.2.2.2 ≤ 10000000)) (fun s => 2 * s.2.2.1.length + if s.2.2.2 > 0 then 1 else 0)
    (fun s => [(0, .pointer (some ⟨br, 0, none⟩)), (1, .int .i64 s.2.2.2), (4, .slice (some ⟨b, s.1, none⟩) s.2.2.1.length s.2.2.1.length)])
    (fun s => [.pt b (s.2.1 ++ spC s.2.2.1) 168, runK br x ad c fails full sv mv (.slice a l.length cp), plK (.slice a l.length cp) l]) (0, [], l, much) ⟨fun _ => rfl, rfl, hb, hm⟩ ⟨rfl, rfl, rfl, trivial⟩ (by repeat constructor) ?_
  rintro ⟨off, pre, r, mu⟩ ⟨ho, hr, hrb, hmu⟩ K hK
  simp only at ho hr hrb hmu
  dsimp only
  cases r with
  | nil =>
    (refine q_seq (q_seq (q_region ?_)); (iterate 4 refine ql_pure tabOk rfl rfl ?_); refine ql_gno rfl rfl rfl (ql_gno rfl rfl rfl (ql_pure tabOk rfl rfl (q_nil (q_cond_false rfl (q_exit _ rfl (q_region ?_)))))); (iterate 4 refine ql_pure tabOk rfl rfl ?_); refine ql_st7 tabOk rfl rfl rfl rfl (by repeat constructor) ?_; refine q_nil ?_)
    refine q_end tabOk rfl (by repeat constructor) fun w hs => ?_
    refine ⟨some ⟨b, off, none⟩, ?_⟩
    rw [← hr]
    exact (pt_plK (off := off) (c := 0) (t := 168) (pre := pre) (l := []) (R := [runK br x ad c fails full sv mv (.slice (some ⟨b, off, none⟩) 0 0), plK (.slice a l.length cp) l]) (fun h => absurd rfl h) (hs.sp (by repeat constructor))).sp (by repeat constructor)
  | cons y r =>
    obtain ⟨d, m⟩ := y
    have ho := ho (by simp)
    subst ho
    have hmb := hrb (d, m) List.mem_cons_self
    simp only at hmb
    dsimp only [List.length_cons]
    (refine q_seq (q_seq (q_region (ql_pure tabOk rfl rfl (ql_pure tabOk rfl rfl (ql_gtrT tabOk rfl rfl rfl (by omega) (ql_pure tabOk rfl rfl (ql_gyes rfl (ql_pure tabOk rfl rfl (ql_gyes rfl (ql_pure tabOk rfl rfl (ql_pure tabOk rfl rfl ?_))))))))))); refine q_nil ?_)
    refine q_if rfl (fun hc => ?_) (fun hc => ?_)
    · have hz : ∀ T R, Rp (.pt b (pre ++ spC ((d, m) :: r)) T :: R) (.pt b (pre ++ spC ((d, m) :: r)) T) (.pt b ((pre ++ spC ((d, m) :: r)).set (pre.length + 0 * 2 + 1) (.int .i64 (m - min mu m))) T) (.pt b (pre ++ spC ((d, m - min mu m) :: r)) T :: R) := fun T R => by rw [setPl]; exact .z
      (refine q_skip (q_block (q_seq (q_region (ql_pure tabOk rfl rfl (ql_pure tabOk rfl rfl ?_))))))
      refine ql_index tabOk rfl rfl rfl rfl rfl (by omega) (by omega) ?_
      (refine ql_pure tabOk rfl rfl ?_)
      refine ql_load1 (v := .int .i64 m) tabOk rfl rfl rfl (fun w hs => cellPl (hs.blk (by repeat constructor))) ?_
      (refine ql_pure tabOk rfl rfl (ql_pure tabOk rfl rfl (q_nil (q_seq (q_region (ql_pure tabOk rfl rfl ?_))))))
      refine ql_index tabOk rfl rfl rfl rfl rfl (by omega) (by omega) ?_
      (refine ql_pure tabOk rfl rfl ?_)
      refine ql_load1 (v := .int .i64 m) tabOk rfl rfl rfl (fun w hs => cellPl (hs.blk (by repeat constructor))) ?_
      (refine ql_pure tabOk rfl rfl (ql_ar tabOk rfl rfl rfl rfl (by omega) (by omega) ?_))
      refine ql_index tabOk rfl rfl rfl rfl rfl (by omega) (by omega) ?_
      (refine ql_pure tabOk rfl rfl ?_)
      refine ql_store1 tabOk rfl rfl rfl rfl (hz _ _) (by rw [spC_cons]; simp) ?_
      (refine q_nil (q_seq (q_region (ql_pure tabOk rfl rfl (ql_pure tabOk rfl rfl (ql_ar tabOk rfl rfl rfl rfl (by omega) (by omega) (ql_pure tabOk rfl rfl (q_nil (q_seq (q_region (ql_pure tabOk rfl rfl ?_)))))))))))
      refine ql_index tabOk rfl rfl rfl rfl rfl (by omega) (by omega) ?_
      (refine ql_pure tabOk rfl rfl ?_)
      refine ql_load1 (v := .int .i64 (m - min mu m)) tabOk rfl rfl rfl (fun w hs => cellPl (hs.blk (by repeat constructor))) ?_
      (refine ql_pure tabOk rfl rfl (q_nil ?_))
      have hmu0 : mu > 0 := by assumption
      rw [remP, if_pos hmu0] at hr
      refine q_if rfl (fun hc => ?_) (fun hc => ?_)
      · have hz0 : m - min mu m = 0 := by assumption
        rw [if_pos hz0] at hr
        (refine q_region (ql_pure tabOk rfl rfl ?_))
        refine ql_sliceFrom (et := 168) (sz := 2) (by kernel_rfl) (by kernel_rfl) rfl rfl rfl (by omega) (by omega) ?_
        have hv : (Value.slice (if r.length + 1 = (1 : Int).toNat then some ⟨b, pre.length, none⟩ else (some (⟨b, pre.length, none⟩ : Addr)).map (·.add ((1 : Int).toNat * 2))) (r.length + 1 - (1 : Int).toNat) (r.length + 1 - (1 : Int).toNat)) = .slice (some ⟨b, if r.length = 0 then pre.length else pre.length + 2, none⟩) r.length r.length := by
          by_cases h0 : r.length = 0
          · simp [h0]
          · simp [h0, Addr.add_lit]
        rw [hv]
        (refine ql_pure tabOk rfl rfl (q_nil (q_blk ?_)))
        refine hK (if r.length = 0 then pre.length else pre.length + 2, pre ++ [.int .i64 d, .int .i64 (m - min mu m)], r, mu - min mu m) _ _ ⟨fun hne => ?_, hr, fun y hy => hrb y (List.mem_cons_of_mem _ hy), by simp only; omega⟩ ?_ ⟨rfl, rfl, rfl, trivial⟩ (by dsimp only; rw [List.append_assoc]; repeat constructor)
        · have : r.length ≠ 0 := fun h => hne (List.eq_nil_of_length_eq_zero h)
          simp only
          rw [if_neg this]
          simp
        · simp only [List.length_cons]
          split <;> (try split) <;> omega
      · have hz0 : ¬ m - min mu m = 0 := by assumption
        rw [if_neg hz0] at hr
        (refine q_skip (q_blk ?_))
        have e0 : mu - min mu m = 0 := by omega
        refine hK (pre.length, pre, (d, m - min mu m) :: r, mu - min mu m) _ _ ⟨fun _ => rfl, by rw [e0, remP_zero]; exact hr, fun y hy => ?_, by simp only; omega⟩ ?_ ⟨rfl, rfl, rfl, trivial⟩ (by repeat constructor)
        · rcases List.mem_cons.1 hy with rfl | hy
          · simp only; omega
          · exact hrb y (List.mem_cons_of_mem _ hy)
        · simp only [List.length_cons]
          rw [if_neg (by omega), if_pos hmu0]
          omega
    · have hmu0 : ¬ mu > 0 := by assumption
      rw [remP, if_neg hmu0] at hr
      (refine q_exit _ rfl (q_region ?_); (iterate 4 refine ql_pure tabOk rfl rfl ?_); refine ql_st7 tabOk rfl rfl rfl rfl (by repeat constructor) ?_; refine q_nil ?_)
      refine q_end tabOk rfl (by repeat constructor) fun w hs => ?_
      refine ⟨some ⟨b, pre.length, none⟩, ?_⟩
      rw [← hr]
      exact (pt_plK (off := pre.length) (c := r.length + 1) (t := 168) (pre := pre) (l := (d, m) :: r) (R := [runK br x ad c fails full sv mv (.slice (some ⟨b, pre.length, none⟩) (r.length + 1) (r.length + 1)), plK (.slice a l.length cp) l]) (fun _ => rfl) (hs.sp (by repeat constructor))).sp (by repeat constructor)
end Go.Proofs.YtpknmgafambmbaaGreat
