/- Walks: the links. -/
import Derived.Test.YtmfeegebijejjaaTab
import Derived.Test.YtmfeegebijejjaaEng8
import Derived.Test.YtmfeegebijejjaaLib2
import Derived.Test.YtmfeegebijejjaaW4
namespace Go.Proofs.Ytmfeegebijejjaa
open Go Go.Eng

/-- A link: its step, the places between which it leads, and what it counts. -/
structure Lk where
  kd : Int
  ix : Int
  fr : Int
  to : Int
  c : Int

def lkV (k : Lk) (b : Nat) : Value := .agg #[.int .i64 k.kd, .int .i64 k.ix, .int .i64 k.fr, .int .i64 k.to, .func (.func 29) #[] #[.pointer (some ⟨b, 0, none⟩)]]

/-- These values are these links; what they count lies in blocks of its own. -/
def LkC (w : World) (base : Nat) (es : List Value) (LL : List Lk) : Prop :=
  es.length = LL.length ∧ ∀ (i : Nat) (k : Lk), LL[i]? = some k → ∃ b, base ≤ b ∧ Blk w b [.int .i64 k.c] 3 ∧ es[i]? = some (lkV k b)

theorem LkC.chg {w w' : World} {base : Nat} {es : List Value} {LL : List Lk} {N : List Nat} (h : LkC w base es LL) (c : Chg N w w') (hN : ∀ b cs, Blk w b cs 3 → base ≤ b → b ∉ N) : LkC w' base es LL :=
  ⟨h.1, fun i k hk => by
    obtain ⟨b, h1, h2, h3⟩ := h.2 i k hk
    exact ⟨b, h1, h2.chg c (hN b _ h2 h1), h3⟩⟩
theorem LkC.keep {w w' : World} {base : Nat} {es : List Value} {LL : List Lk} (h : LkC w base es LL) (c : Chg [] w w') : LkC w' base es LL := h.chg c (by simp)
theorem LkC.nil (w : World) (base : Nat) : LkC w base [] [] := ⟨rfl, fun i k h => by simp at h⟩
theorem LkC.app {w : World} {base : Nat} {es es' : List Value} {LL LL' : List Lk} (h : LkC w base es LL) (h' : LkC w base es' LL') : LkC w base (es ++ es') (LL ++ LL') := by
  refine ⟨by simp [h.1, h'.1], fun i k hk => ?_⟩
  by_cases hi : i < LL.length
  · rw [List.getElem?_append_left hi] at hk
    rw [List.getElem?_append_left (by rw [h.1]; exact hi)]
    exact h.2 i k hk
  · rw [List.getElem?_append_right (by omega)] at hk
    rw [List.getElem?_append_right (by rw [h.1]; omega), h.1]
    exact h'.2 _ k hk
theorem LkC.one {w : World} {base b : Nat} (k : Lk) (hb : base ≤ b) (h : Blk w b [.int .i64 k.c] 3) : LkC w base [lkV k b] [k] := by
  refine ⟨rfl, fun i k' hk => ?_⟩
  cases i with
  | zero => simp at hk; subst hk; exact ⟨b, hb, h, rfl⟩
  | succ i => simp at hk
theorem LkC.size {w : World} {base : Nat} {es : List Value} {LL : List Lk} (h : LkC w base es LL) : ∀ e ∈ es, e.cells.size = 5 := by
  intro e he
  obtain ⟨i, hi, rfl⟩ := List.getElem_of_mem he
  obtain ⟨b, _, _, h3⟩ := h.2 i (LL[i]'(by rw [← h.1]; exact hi)) (List.getElem?_eq_getElem _)
  rw [List.getElem?_eq_getElem hi] at h3
  cases h3' : es[i] <;> rw [h3'] at h3 <;> simp [lkV] at h3
  subst h3
  rfl
theorem LkC.base {w : World} {base base' : Nat} {es : List Value} {LL : List Lk} (h : LkC w base es LL) (hb : base' ≤ base) : LkC w base' es LL :=
  ⟨h.1, fun i k hk => by
    obtain ⟨b, h1, h2, h3⟩ := h.2 i k hk
    exact ⟨b, by omega, h2, h3⟩⟩

def sPart (L : List Sh) (k : Nat) : List Lk := (List.range k).flatMap fun (i : Nat) => match L[i]? with
  | some s => [⟨0, i, s.fr, s.to + 1, s.hi⟩, ⟨1, i, s.to + 1, s.fr, -s.lo⟩]
  | none => []
def bPart (k : Nat) : List Lk := (List.range k).flatMap fun (i : Nat) => [⟨2, i, i, i + 1, 9⟩, ⟨3, i, i + 1, i, 0⟩]
def oPart (l : List Int) (k : Nat) : List Lk := (List.range k).flatMap fun (i : Nat) => match l[i]? with
  | some x => [⟨4, i, i + 1, i, -x⟩]
  | none => []
def linksOf (n : Nat) (L : List Sh) (l : List Int) : List Lk := sPart L L.length ++ bPart n ++ oPart l l.length

theorem sPart_succ (L : List Sh) (k : Nat) (hk : k < L.length) : sPart L (k + 1) = sPart L k ++ [⟨0, k, L[k].fr, L[k].to + 1, L[k].hi⟩, ⟨1, k, L[k].to + 1, L[k].fr, -L[k].lo⟩] := by
  simp only [sPart, List.range_succ, List.flatMap_append, List.flatMap_cons, List.flatMap_nil, List.getElem?_eq_getElem hk, List.append_nil]
theorem bPart_succ (k : Nat) : bPart (k + 1) = bPart k ++ [⟨2, k, k, k + 1, 9⟩, ⟨3, k, k + 1, k, 0⟩] := by
  simp only [bPart, List.range_succ, List.flatMap_append, List.flatMap_cons, List.flatMap_nil, List.append_nil]
theorem oPart_succ (l : List Int) (k : Nat) (hk : k < l.length) : oPart l (k + 1) = oPart l k ++ [⟨4, k, k + 1, k, -l[k]⟩] := by
  simp only [oPart, List.range_succ, List.flatMap_append, List.flatMap_cons, List.flatMap_nil, List.getElem?_eq_getElem hk, List.append_nil]

theorem sPart_length (L : List Sh) (k : Nat) (hk : k ≤ L.length) : (sPart L k).length = 2 * k := by
  induction k with
  | zero => rfl
  | succ k ih => rw [sPart_succ L k (by omega), List.length_append, ih (by omega)]; simp; omega
theorem bPart_length (k : Nat) : (bPart k).length = 2 * k := by
  induction k with
  | zero => rfl
  | succ k ih => rw [bPart_succ k, List.length_append, ih]; simp; omega
theorem oPart_length (l : List Int) (k : Nat) (hk : k ≤ l.length) : (oPart l k).length = k := by
  induction k with
  | zero => rfl
  | succ k ih => rw [oPart_succ l k (by omega), List.length_append, ih (by omega)]; simp

theorem sl63 : SlT Try.prog 63 72 5 40 (.agg #[.int .i64 0, .int .i64 0, .int .i64 0, .int .i64 0, Value.nilFunc]) := ⟨by kernel_rfl, by kernel_rfl, rfl, by omega⟩

theorem links1_ca (w : World) (n : Int) : Ca Try.prog 28 [.int .i64 n] w fun r w' => r = .func (.func 29) #[] #[.pointer (some ⟨w.heap.size, 0, none⟩)] ∧ Chg [] w w' ∧ w'.heap.size = w.heap.size + 1 ∧ Blk w' w.heap.size [.int .i64 n] 3 := by
  refine ca_of Try.func28 rfl (by simp [Try.ntmps28]) ?_
  repeat (first | (refine is_lv ?_; first | refine yl_pure tabOk rfl rfl ?_ | (refine yl_isload ?_; first | refine yl_loadB tabOk rfl rfl rfl (by assumption) (by rfl) ?_ | refine yl_loadAB tabOk rfl rfl rfl (by assumption) (by rfl) (by rfl) ?_)) | (refine is_c ?_; first | refine y_seq ?_ | refine y_region ?_ | refine y_skip ?_ | refine y_block ?_ | refine y_ret ?_ | (refine is_cond ?_; first | refine y_cond_true rfl ?_ | refine y_cond_false rfl ?_) | (refine is_exit ?_; refine y_exit _ rfl ?_) | refine y_label ?_) | refine yl_nil ?_ | refine y_blk ?_ | (refine is_lg ?_; first | refine yl_guard_yes rfl ?_ | refine yl_guard_no rfl rfl rfl ?_) | (refine is_fv ?_; first | refine yf_pure tabOk rfl rfl rfl ?_ | (refine yf_isload ?_; first | refine yf_loadB tabOk rfl rfl rfl (by assumption) (by first | assumption | simp) (by rfl) ?_ | refine yf_loadAB tabOk rfl rfl rfl (by assumption) (by first | assumption | simp) (by rfl) (by rfl) ?_)) | refine yf_nil ?_ | (refine is_fg ?_; first | refine yf_guard_yes rfl ?_ | refine yf_guard_no rfl rfl rfl ?_))
  refine yl_box rfl rfl (fun w1 hc1 hs1 hb1 => ?_)
  repeat (first | (refine is_lv ?_; first | refine yl_pure tabOk rfl rfl ?_ | (refine yl_isload ?_; first | refine yl_loadB tabOk rfl rfl rfl (by assumption) (by rfl) ?_ | refine yl_loadAB tabOk rfl rfl rfl (by assumption) (by rfl) (by rfl) ?_)) | (refine is_c ?_; first | refine y_seq ?_ | refine y_region ?_ | refine y_skip ?_ | refine y_block ?_ | refine y_ret ?_ | (refine is_cond ?_; first | refine y_cond_true rfl ?_ | refine y_cond_false rfl ?_) | (refine is_exit ?_; refine y_exit _ rfl ?_) | refine y_label ?_) | refine yl_nil ?_ | refine y_blk ?_ | (refine is_lg ?_; first | refine yl_guard_yes rfl ?_ | refine yl_guard_no rfl rfl rfl ?_) | (refine is_fv ?_; first | refine yf_pure tabOk rfl rfl rfl ?_ | (refine yf_isload ?_; first | refine yf_loadB tabOk rfl rfl rfl (by assumption) (by first | assumption | simp) (by rfl) ?_ | refine yf_loadAB tabOk rfl rfl rfl (by assumption) (by first | assumption | simp) (by rfl) (by rfl) ?_)) | refine yf_nil ?_ | (refine is_fg ?_; first | refine yf_guard_yes rfl ?_ | refine yf_guard_no rfl rfl rfl ?_))
  exact y_fin1 rfl rfl ⟨rfl, hc1, hs1, hb1⟩

theorem links2_ca (w : World) (b t : Nat) (n : Int) (hb : Blk w b [.int .i64 n] t) : Ca Try.prog 29 [.pointer (some ⟨b, 0, none⟩)] w fun r w' => r = .int .i64 n ∧ w' = w := by
  refine ca_of Try.func29 rfl (by simp [Try.ntmps29]) ?_
  repeat (first | (refine is_lv ?_; first | refine yl_pure tabOk rfl rfl ?_ | (refine yl_isload ?_; first | refine yl_loadB tabOk rfl rfl rfl (by assumption) (by rfl) ?_ | refine yl_loadAB tabOk rfl rfl rfl (by assumption) (by rfl) (by rfl) ?_)) | (refine is_c ?_; first | refine y_seq ?_ | refine y_region ?_ | refine y_skip ?_ | refine y_block ?_ | refine y_ret ?_ | (refine is_cond ?_; first | refine y_cond_true rfl ?_ | refine y_cond_false rfl ?_) | (refine is_exit ?_; refine y_exit _ rfl ?_) | refine y_label ?_) | refine yl_nil ?_ | refine y_blk ?_ | (refine is_lg ?_; first | refine yl_guard_yes rfl ?_ | refine yl_guard_no rfl rfl rfl ?_) | (refine is_fv ?_; first | refine yf_pure tabOk rfl rfl rfl ?_ | (refine yf_isload ?_; first | refine yf_loadB tabOk rfl rfl rfl (by assumption) (by first | assumption | simp) (by rfl) ?_ | refine yf_loadAB tabOk rfl rfl rfl (by assumption) (by first | assumption | simp) (by rfl) (by rfl) ?_)) | refine yf_nil ?_ | (refine is_fg ?_; first | refine yf_guard_yes rfl ?_ | refine yf_guard_no rfl rfl rfl ?_))
  exact y_fin1 rfl rfl ⟨rfl, rfl⟩

end Go.Proofs.Ytmfeegebijejjaa
