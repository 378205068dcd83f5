/- Walks: Few, Round, Due. -/
import Derived.Test.YtmfeegebijejjaaTab
import Derived.Test.YtmfeegebijejjaaEng9
import Derived.Test.YtmfeegebijejjaaLib2
import Derived.Test.YtmfeegebijejjaaW4
import Derived.Test.YtmfeegebijejjaaW6
import Derived.Test.YtmfeegebijejjaaW7
import Derived.Test.YtmfeegebijejjaaW9
namespace Go.Proofs.Ytmfeegebijejjaa
open Go Go.Eng

def One (L : List Sh) : Prop := ∀ s ∈ L, s.to = s.fr

theorem mem_links {n : Nat} {L : List Sh} {l : List Int} {k : Lk} (h : k ∈ linksOf n L l) :
    (∃ (i : Nat) (s : Sh), L[i]? = some s ∧ (k = ⟨0, i, s.fr, s.to + 1, s.hi⟩ ∨ k = ⟨1, i, s.to + 1, s.fr, -s.lo⟩)) ∨ (∃ i : Nat, i < n ∧ (k = ⟨2, i, i, i + 1, 9⟩ ∨ k = ⟨3, i, i + 1, i, 0⟩)) ∨ (∃ (i : Nat) (x : Int), l[i]? = some x ∧ k = ⟨4, i, i + 1, i, -x⟩) := by
  simp only [linksOf, List.mem_append, sPart, bPart, oPart, List.mem_flatMap, List.mem_range] at h
  rcases h with (⟨i, _, h⟩ | ⟨i, hi, h⟩) | ⟨i, _, h⟩
  · left
    cases hs : L[i]? with
    | none => simp [hs] at h
    | some s => simp [hs] at h; exact ⟨i, s, hs, h⟩
  · right; left
    simp at h
    exact ⟨i, hi, h⟩
  · right; right
    cases hs : l[i]? with
    | none => simp [hs] at h
    | some x => simp [hs] at h; exact ⟨i, x, hs, h⟩

theorem links_ok {l : List Int} {L : List Sh} (hr : Right l L) (l' : List Int) (hl : l' = l ∨ l' = []) : LkOk l.length (linksOf l.length L l') := by
  intro k hk
  rcases mem_links hk with ⟨i, s, hs, rfl | rfl⟩ | ⟨i, hi, rfl | rfl⟩ | ⟨i, x, hx, rfl⟩
  · have h1 := hr.place s (List.mem_of_getElem? hs)
    have h2 := hr.loops s (List.mem_of_getElem? hs)
    obtain ⟨a1, a2, a3⟩ := h1
    obtain ⟨b1, b2, b3⟩ := h2
    simp only
    omega
  · have h1 := hr.place s (List.mem_of_getElem? hs)
    have h2 := hr.loops s (List.mem_of_getElem? hs)
    obtain ⟨a1, a2, a3⟩ := h1
    obtain ⟨b1, b2, b3⟩ := h2
    simp only
    omega
  · simp only; omega
  · simp only; omega
  · rcases hl with rfl | rfl
    · have h1 := hr.owed x (List.mem_of_getElem? hx)
      have h2 := (List.getElem?_eq_some_iff.1 hx).1
      simp only
      omega
    · simp at hx

theorem links_adj {n : Nat} {l : List Int} {L : List Sh} (ho : One L) : LkAdj (linksOf n L l) := by
  intro k hk
  rcases mem_links hk with ⟨i, s, hs, rfl | rfl⟩ | ⟨i, hi, rfl | rfl⟩ | ⟨i, x, hx, rfl⟩
  · have := ho s (List.mem_of_getElem? hs); simp only; omega
  · have := ho s (List.mem_of_getElem? hs); simp only; omega
  · simp
  · simp
  · simp

theorem links_length {n : Nat} {l : List Int} {L : List Sh} : (linksOf n L l).length = 2 * L.length + 2 * n + l.length := by
  simp only [linksOf, List.length_append, sPart_length L _ (Nat.le_refl _), bPart_length, oPart_length l _ (Nat.le_refl _)]

theorem LkO.rd {w : World} {base : Nat} {v : Value} {LL : List Lk} (h : LkO w base v LL) : ∃ es, RdE w base w.heap.size v 5 es ∧ LkC w base es LL := by
  obtain ⟨es, h1, h2⟩ := h
  exact ⟨es, RdE.ofOwn (by rw [h2.1]; exact h1) h2.size, h2⟩

theorem pot_neg {n : Nat} {LL : List Lk} {p : Nat → Int} (h : Pot n LL p) : ¬ Neg2 LL := by
  rintro ⟨k1, h1, k2, h2, e1, e2, hs⟩
  have a1 := h.2 k1 h1
  have a2 := h.2 k2 h2
  rw [e1, e2] at a1
  omega

/-- Is it shown that too few loops were skied? -/
def fewB (l : List Int) (L : List Sh) : Bool := !decide (∀ a, a ≤ l.length → 0 ≤ fw l.length (linksOf l.length L l) a a)

theorem fewB_pot {l : List Int} {L : List Sh} (hr : Right l L) {p : Nat → Int} (hp : Pot l.length (linksOf l.length L l) p) : fewB l L = false := by
  have := fw_pot l.length hr.most _ p (links_ok hr l (.inl rfl)) hp
  rw [fewB, decide_eq_true this]
  rfl
theorem fewB_neg {l : List Int} {L : List Sh} (hr : Right l L) (hn : Neg2 (linksOf l.length L l)) : fewB l L = true := by
  obtain ⟨a, ha, hneg⟩ := fw_neg l.length hr.most _ (links_ok hr l (.inl rfl)) hn
  rw [fewB, decide_eq_false (fun h => by have := h a ha; omega)]
  rfl

set_option maxHeartbeats 1000000 in
theorem few_ca (w : World) (lo hi lo' hi' : Nat) (v v' : Value) (l : List Int) (L : List Sh) (h1 : RdI w lo hi v l) (h2 : RdE w lo' hi' v' 4 (shs L)) (hr : Right l L) :
    Ca Try.prog 8 [v, v'] w fun r w' => r = .tuple #[.bool (fewB l L), .int .i64 0] ∧ Chg [] w w' := by
  obtain ⟨a, cap, rfl, _⟩ := h1.outI
  have hm := hr.most
  have hsh := hr.sheets
  refine ca_of Try.func8 rfl (by simp [Try.ntmps8]) ?_
  repeat (first | (refine is_lv ?_; first | refine yl_pure tabOk rfl rfl ?_ | (refine yl_isload ?_; first | refine yl_loadB tabOk rfl rfl rfl (by assumption) (by rfl) ?_ | refine yl_loadAB tabOk rfl rfl rfl (by assumption) (by rfl) (by rfl) ?_)) | (refine is_c ?_; first | refine y_seq ?_ | refine y_region ?_ | refine y_skip ?_ | refine y_block ?_ | refine y_ret ?_ | (refine is_cond ?_; first | refine y_cond_true rfl ?_ | refine y_cond_false rfl ?_) | (refine is_exit ?_; refine y_exit _ rfl ?_) | refine y_label ?_) | refine yl_nil ?_ | refine y_blk ?_ | (refine is_lg ?_; first | refine yl_guard_yes rfl ?_ | refine yl_guard_no rfl rfl rfl ?_) | (refine is_fv ?_; first | refine yf_pure tabOk rfl rfl rfl ?_ | (refine yf_isload ?_; first | refine yf_loadB tabOk rfl rfl rfl (by assumption) (by first | assumption | simp) (by rfl) ?_ | refine yf_loadAB tabOk rfl rfl rfl (by assumption) (by first | assumption | simp) (by rfl) (by rfl) ?_)) | refine yf_nil ?_ | (refine is_fg ?_; first | refine yf_guard_yes rfl ?_ | refine yf_guard_no rfl rfl rfl ?_))
  refine yl_call tabOk rfl rfl rfl rfl (due_ca w lo hi lo' hi' _ v' l L h1 h2 hr) ?_
  rintro _ w1 ⟨rfl, hc1⟩
  repeat (first | (refine is_lv ?_; first | refine yl_pure tabOk rfl rfl ?_ | (refine yl_isload ?_; first | refine yl_loadB tabOk rfl rfl rfl (by assumption) (by rfl) ?_ | refine yl_loadAB tabOk rfl rfl rfl (by assumption) (by rfl) (by rfl) ?_)) | (refine is_c ?_; first | refine y_seq ?_ | refine y_region ?_ | refine y_skip ?_ | refine y_block ?_ | refine y_ret ?_ | (refine is_cond ?_; first | refine y_cond_true rfl ?_ | refine y_cond_false rfl ?_) | (refine is_exit ?_; refine y_exit _ rfl ?_) | refine y_label ?_) | refine yl_nil ?_ | refine y_blk ?_ | (refine is_lg ?_; first | refine yl_guard_yes rfl ?_ | refine yl_guard_no rfl rfl rfl ?_) | (refine is_fv ?_; first | refine yf_pure tabOk rfl rfl rfl ?_ | (refine yf_isload ?_; first | refine yf_loadB tabOk rfl rfl rfl (by assumption) (by first | assumption | simp) (by rfl) ?_ | refine yf_loadAB tabOk rfl rfl rfl (by assumption) (by first | assumption | simp) (by rfl) (by rfl) ?_)) | refine yf_nil ?_ | (refine is_fg ?_; first | refine yf_guard_yes rfl ?_ | refine yf_guard_no rfl rfl rfl ?_))
  refine yl_call tabOk rfl rfl rfl rfl (links_ca w1 lo' hi' lo hi v' _ l.length L l (h2.keep hc1) (h1.keep hc1) hm hsh hm hr.place hr.loops hr.owed) ?_
  rintro lv w2 ⟨hL, hc2⟩
  obtain ⟨es, hrd, hlk⟩ := hL.rd
  refine yl_call tabOk rfl rfl rfl rfl (distances_ca w2 _ _ _ lv l.length es _ hrd hlk (by rw [links_length]; omega) hm (links_ok hr l (.inl rfl))) ?_
  rintro _ w3 ⟨us, hus, hu1, rfl, hc3⟩
  repeat (first | (refine is_lv ?_; first | refine yl_pure tabOk rfl rfl ?_ | (refine yl_isload ?_; first | refine yl_loadB tabOk rfl rfl rfl (by assumption) (by rfl) ?_ | refine yl_loadAB tabOk rfl rfl rfl (by assumption) (by rfl) (by rfl) ?_)) | (refine is_c ?_; first | refine y_seq ?_ | refine y_region ?_ | refine y_skip ?_ | refine y_block ?_ | refine y_ret ?_ | (refine is_cond ?_; first | refine y_cond_true rfl ?_ | refine y_cond_false rfl ?_) | (refine is_exit ?_; refine y_exit _ rfl ?_) | refine y_label ?_) | refine yl_nil ?_ | refine y_blk ?_ | (refine is_lg ?_; first | refine yl_guard_yes rfl ?_ | refine yl_guard_no rfl rfl rfl ?_) | (refine is_fv ?_; first | refine yf_pure tabOk rfl rfl rfl ?_ | (refine yf_isload ?_; first | refine yf_loadB tabOk rfl rfl rfl (by assumption) (by first | assumption | simp) (by rfl) ?_ | refine yf_loadAB tabOk rfl rfl rfl (by assumption) (by first | assumption | simp) (by rfl) (by rfl) ?_)) | refine yf_nil ?_ | (refine is_fg ?_; first | refine yf_guard_yes rfl ?_ | refine yf_guard_no rfl rfl rfl ?_))
  refine yl_alloc (z := .agg (matL (fun _ _ => 0)).toArray) (by kernel_rfl) rfl (fun w4 hc4 hs4 hb4 => ?_)
  rw [zero60] at hb4
  refine yl_storeA tabOk (us := us) rfl rfl rfl hus hu1 hb4 (by rw [matL_length]; omega) (fun w5 hc5 hs5 hb5 => ?_)
  repeat (first | (refine is_lv ?_; first | refine yl_pure tabOk rfl rfl ?_ | (refine yl_isload ?_; first | refine yl_loadB tabOk rfl rfl rfl (by assumption) (by rfl) ?_ | refine yl_loadAB tabOk rfl rfl rfl (by assumption) (by rfl) (by rfl) ?_)) | (refine is_c ?_; first | refine y_seq ?_ | refine y_region ?_ | refine y_skip ?_ | refine y_block ?_ | refine y_ret ?_ | (refine is_cond ?_; first | refine y_cond_true rfl ?_ | refine y_cond_false rfl ?_) | (refine is_exit ?_; refine y_exit _ rfl ?_) | refine y_label ?_) | refine yl_nil ?_ | refine y_blk ?_ | (refine is_lg ?_; first | refine yl_guard_yes rfl ?_ | refine yl_guard_no rfl rfl rfl ?_) | (refine is_fv ?_; first | refine yf_pure tabOk rfl rfl rfl ?_ | (refine yf_isload ?_; first | refine yf_loadB tabOk rfl rfl rfl (by assumption) (by first | assumption | simp) (by rfl) ?_ | refine yf_loadAB tabOk rfl rfl rfl (by assumption) (by first | assumption | simp) (by rfl) (by rfl) ?_)) | refine yf_nil ?_ | (refine is_fg ?_; first | refine yf_guard_yes rfl ?_ | refine yf_guard_no rfl rfl rfl ?_))
  exact y_fin2 rfl rfl rfl ⟨rfl, (((hc1.trans hc2).trans hc3).trans hc4).up1 hc5 (by have := hc1.size; have := hc2.size; have := hc3.size; omega)⟩

set_option maxHeartbeats 1000000 in
theorem roundF_ca (w : World) (lo hi lo' hi' : Nat) (v v' : Value) (l : List Int) (L : List Sh) (h1 : RdI w lo hi v l) (h2 : RdE w lo' hi' v' 4 (shs L)) (hr : Right l L) (ho : One L) (hno : ¬ Neg2 (linksOf l.length L [])) :
    Ca Try.prog 9 [v, v'] w fun r w' => Chg [] w w' ∧
      ((r = .tuple #[.slice none 0 0, .int .i64 6] ∧ ¬ Neg2 (linksOf l.length L l)) ∨
       (∃ rv, r = .tuple #[rv, .int .i64 0] ∧ ∃ (k1 k2 : Lk), k1 ∈ linksOf l.length L l ∧ k2 ∈ linksOf l.length L l ∧ k1.fr = k2.to ∧ k1.to = k2.fr ∧ k1.c + k2.c < 0 ∧ Rd w' w.heap.size w'.heap.size rv 2 2 [.int .i64 k1.kd, .int .i64 k1.ix, .int .i64 k2.kd, .int .i64 k2.ix])) := by
  obtain ⟨a, cap, rfl, _⟩ := h1.outI
  have hm := hr.most
  have hsh := hr.sheets
  refine ca_of Try.func9 rfl (by simp [Try.ntmps9]) ?_
  repeat (first | (refine is_lv ?_; first | refine yl_pure tabOk rfl rfl ?_ | (refine yl_isload ?_; first | refine yl_loadB tabOk rfl rfl rfl (by assumption) (by rfl) ?_ | refine yl_loadAB tabOk rfl rfl rfl (by assumption) (by rfl) (by rfl) ?_)) | (refine is_c ?_; first | refine y_seq ?_ | refine y_region ?_ | refine y_skip ?_ | refine y_block ?_ | refine y_ret ?_ | (refine is_cond ?_; first | refine y_cond_true rfl ?_ | refine y_cond_false rfl ?_) | (refine is_exit ?_; refine y_exit _ rfl ?_) | refine y_label ?_) | refine yl_nil ?_ | refine y_blk ?_ | (refine is_lg ?_; first | refine yl_guard_yes rfl ?_ | refine yl_guard_no rfl rfl rfl ?_) | (refine is_fv ?_; first | refine yf_pure tabOk rfl rfl rfl ?_ | (refine yf_isload ?_; first | refine yf_loadB tabOk rfl rfl rfl (by assumption) (by first | assumption | simp) (by rfl) ?_ | refine yf_loadAB tabOk rfl rfl rfl (by assumption) (by first | assumption | simp) (by rfl) (by rfl) ?_)) | refine yf_nil ?_ | (refine is_fg ?_; first | refine yf_guard_yes rfl ?_ | refine yf_guard_no rfl rfl rfl ?_))
  refine yl_call tabOk rfl rfl rfl rfl (due_ca w lo hi lo' hi' _ v' l L h1 h2 hr) ?_
  rintro _ w1 ⟨rfl, hc1⟩
  repeat (first | (refine is_lv ?_; first | refine yl_pure tabOk rfl rfl ?_ | (refine yl_isload ?_; first | refine yl_loadB tabOk rfl rfl rfl (by assumption) (by rfl) ?_ | refine yl_loadAB tabOk rfl rfl rfl (by assumption) (by rfl) (by rfl) ?_)) | (refine is_c ?_; first | refine y_seq ?_ | refine y_region ?_ | refine y_skip ?_ | refine y_block ?_ | refine y_ret ?_ | (refine is_cond ?_; first | refine y_cond_true rfl ?_ | refine y_cond_false rfl ?_) | (refine is_exit ?_; refine y_exit _ rfl ?_) | refine y_label ?_) | refine yl_nil ?_ | refine y_blk ?_ | (refine is_lg ?_; first | refine yl_guard_yes rfl ?_ | refine yl_guard_no rfl rfl rfl ?_) | (refine is_fv ?_; first | refine yf_pure tabOk rfl rfl rfl ?_ | (refine yf_isload ?_; first | refine yf_loadB tabOk rfl rfl rfl (by assumption) (by first | assumption | simp) (by rfl) ?_ | refine yf_loadAB tabOk rfl rfl rfl (by assumption) (by first | assumption | simp) (by rfl) (by rfl) ?_)) | refine yf_nil ?_ | (refine is_fg ?_; first | refine yf_guard_yes rfl ?_ | refine yf_guard_no rfl rfl rfl ?_))
  refine yl_call tabOk rfl rfl rfl rfl (links_ca w1 lo' hi' 0 0 v' _ l.length L [] (h2.keep hc1) ⟨⟨rfl, .inl ⟨rfl, rfl⟩⟩, by simp⟩ hm hsh (by simp) hr.place hr.loops (by simp)) ?_
  rintro lv w2 ⟨hL, hc2⟩
  obtain ⟨es, hrd, hlk⟩ := hL.rd
  refine yl_call tabOk rfl rfl rfl rfl (round_ca w2 _ _ _ lv l.length es _ hrd hlk (by rw [links_length]; simp; omega) hm (links_ok hr [] (.inr rfl)) (links_adj ho)) ?_
  rintro rv w3 ⟨hc3, ⟨rfl, _⟩ | ⟨k1, k2, m1, m2, e1, e2, e3, _⟩⟩
  · have hc03 := (hc1.trans hc2).trans hc3
    repeat (first | (refine is_lv ?_; first | refine yl_pure tabOk rfl rfl ?_ | (refine yl_isload ?_; first | refine yl_loadB tabOk rfl rfl rfl (by assumption) (by rfl) ?_ | refine yl_loadAB tabOk rfl rfl rfl (by assumption) (by rfl) (by rfl) ?_)) | (refine is_c ?_; first | refine y_seq ?_ | refine y_region ?_ | refine y_skip ?_ | refine y_block ?_ | refine y_ret ?_ | (refine is_cond ?_; first | refine y_cond_true rfl ?_ | refine y_cond_false rfl ?_) | (refine is_exit ?_; refine y_exit _ rfl ?_) | refine y_label ?_) | refine yl_nil ?_ | refine y_blk ?_ | (refine is_lg ?_; first | refine yl_guard_yes rfl ?_ | refine yl_guard_no rfl rfl rfl ?_) | (refine is_fv ?_; first | refine yf_pure tabOk rfl rfl rfl ?_ | (refine yf_isload ?_; first | refine yf_loadB tabOk rfl rfl rfl (by assumption) (by first | assumption | simp) (by rfl) ?_ | refine yf_loadAB tabOk rfl rfl rfl (by assumption) (by first | assumption | simp) (by rfl) (by rfl) ?_)) | refine yf_nil ?_ | (refine is_fg ?_; first | refine yf_guard_yes rfl ?_ | refine yf_guard_no rfl rfl rfl ?_))
    refine yl_neqnil tabOk rfl rfl rfl rfl ?_
    repeat (first | (refine is_lv ?_; first | refine yl_pure tabOk rfl rfl ?_ | (refine yl_isload ?_; first | refine yl_loadB tabOk rfl rfl rfl (by assumption) (by rfl) ?_ | refine yl_loadAB tabOk rfl rfl rfl (by assumption) (by rfl) (by rfl) ?_)) | (refine is_c ?_; first | refine y_seq ?_ | refine y_region ?_ | refine y_skip ?_ | refine y_block ?_ | refine y_ret ?_ | (refine is_cond ?_; first | refine y_cond_true rfl ?_ | refine y_cond_false rfl ?_) | (refine is_exit ?_; refine y_exit _ rfl ?_) | refine y_label ?_) | refine yl_nil ?_ | refine y_blk ?_ | (refine is_lg ?_; first | refine yl_guard_yes rfl ?_ | refine yl_guard_no rfl rfl rfl ?_) | (refine is_fv ?_; first | refine yf_pure tabOk rfl rfl rfl ?_ | (refine yf_isload ?_; first | refine yf_loadB tabOk rfl rfl rfl (by assumption) (by first | assumption | simp) (by rfl) ?_ | refine yf_loadAB tabOk rfl rfl rfl (by assumption) (by first | assumption | simp) (by rfl) (by rfl) ?_)) | refine yf_nil ?_ | (refine is_fg ?_; first | refine yf_guard_yes rfl ?_ | refine yf_guard_no rfl rfl rfl ?_))
    refine yl_call tabOk rfl rfl rfl rfl (links_ca w3 lo' hi' lo hi v' _ l.length L l (h2.keep hc03) (h1.keep hc03) hm hsh hm hr.place hr.loops hr.owed) ?_
    rintro lv w4 ⟨hL, hc4⟩
    obtain ⟨es, hrd, hlk⟩ := hL.rd
    refine yl_call tabOk rfl rfl rfl rfl (round_ca w4 _ _ _ lv l.length es _ hrd hlk (by rw [links_length]; omega) hm (links_ok hr l (.inl rfl)) (links_adj ho)) ?_
    rintro rv w5 ⟨hc5, ⟨rfl, hnn⟩ | ⟨k1, k2, m1, m2, e1, e2, e3, hrd⟩⟩
    · repeat (first | (refine is_lv ?_; first | refine yl_pure tabOk rfl rfl ?_ | (refine yl_isload ?_; first | refine yl_loadB tabOk rfl rfl rfl (by assumption) (by rfl) ?_ | refine yl_loadAB tabOk rfl rfl rfl (by assumption) (by rfl) (by rfl) ?_)) | (refine is_c ?_; first | refine y_seq ?_ | refine y_region ?_ | refine y_skip ?_ | refine y_block ?_ | refine y_ret ?_ | (refine is_cond ?_; first | refine y_cond_true rfl ?_ | refine y_cond_false rfl ?_) | (refine is_exit ?_; refine y_exit _ rfl ?_) | refine y_label ?_) | refine yl_nil ?_ | refine y_blk ?_ | (refine is_lg ?_; first | refine yl_guard_yes rfl ?_ | refine yl_guard_no rfl rfl rfl ?_) | (refine is_fv ?_; first | refine yf_pure tabOk rfl rfl rfl ?_ | (refine yf_isload ?_; first | refine yf_loadB tabOk rfl rfl rfl (by assumption) (by first | assumption | simp) (by rfl) ?_ | refine yf_loadAB tabOk rfl rfl rfl (by assumption) (by first | assumption | simp) (by rfl) (by rfl) ?_)) | refine yf_nil ?_ | (refine is_fg ?_; first | refine yf_guard_yes rfl ?_ | refine yf_guard_no rfl rfl rfl ?_))
      refine yl_neqnil tabOk rfl rfl rfl rfl ?_
      repeat (first | (refine is_lv ?_; first | refine yl_pure tabOk rfl rfl ?_ | (refine yl_isload ?_; first | refine yl_loadB tabOk rfl rfl rfl (by assumption) (by rfl) ?_ | refine yl_loadAB tabOk rfl rfl rfl (by assumption) (by rfl) (by rfl) ?_)) | (refine is_c ?_; first | refine y_seq ?_ | refine y_region ?_ | refine y_skip ?_ | refine y_block ?_ | refine y_ret ?_ | (refine is_cond ?_; first | refine y_cond_true rfl ?_ | refine y_cond_false rfl ?_) | (refine is_exit ?_; refine y_exit _ rfl ?_) | refine y_label ?_) | refine yl_nil ?_ | refine y_blk ?_ | (refine is_lg ?_; first | refine yl_guard_yes rfl ?_ | refine yl_guard_no rfl rfl rfl ?_) | (refine is_fv ?_; first | refine yf_pure tabOk rfl rfl rfl ?_ | (refine yf_isload ?_; first | refine yf_loadB tabOk rfl rfl rfl (by assumption) (by first | assumption | simp) (by rfl) ?_ | refine yf_loadAB tabOk rfl rfl rfl (by assumption) (by first | assumption | simp) (by rfl) (by rfl) ?_)) | refine yf_nil ?_ | (refine is_fg ?_; first | refine yf_guard_yes rfl ?_ | refine yf_guard_no rfl rfl rfl ?_))
      exact y_fin2 rfl rfl rfl ⟨(hc03.trans hc4).trans hc5, .inl ⟨rfl, hnn⟩⟩
    · obtain ⟨ra, rcap, rfl, hra⟩ := hrd.out
      obtain ⟨rb, roff, rfl, _⟩ := hra (by omega)
      repeat (first | (refine is_lv ?_; first | refine yl_pure tabOk rfl rfl ?_ | (refine yl_isload ?_; first | refine yl_loadB tabOk rfl rfl rfl (by assumption) (by rfl) ?_ | refine yl_loadAB tabOk rfl rfl rfl (by assumption) (by rfl) (by rfl) ?_)) | (refine is_c ?_; first | refine y_seq ?_ | refine y_region ?_ | refine y_skip ?_ | refine y_block ?_ | refine y_ret ?_ | (refine is_cond ?_; first | refine y_cond_true rfl ?_ | refine y_cond_false rfl ?_) | (refine is_exit ?_; refine y_exit _ rfl ?_) | refine y_label ?_) | refine yl_nil ?_ | refine y_blk ?_ | (refine is_lg ?_; first | refine yl_guard_yes rfl ?_ | refine yl_guard_no rfl rfl rfl ?_) | (refine is_fv ?_; first | refine yf_pure tabOk rfl rfl rfl ?_ | (refine yf_isload ?_; first | refine yf_loadB tabOk rfl rfl rfl (by assumption) (by first | assumption | simp) (by rfl) ?_ | refine yf_loadAB tabOk rfl rfl rfl (by assumption) (by first | assumption | simp) (by rfl) (by rfl) ?_)) | refine yf_nil ?_ | (refine is_fg ?_; first | refine yf_guard_yes rfl ?_ | refine yf_guard_no rfl rfl rfl ?_))
      refine yl_neqnil tabOk rfl rfl rfl rfl ?_
      repeat (first | (refine is_lv ?_; first | refine yl_pure tabOk rfl rfl ?_ | (refine yl_isload ?_; first | refine yl_loadB tabOk rfl rfl rfl (by assumption) (by rfl) ?_ | refine yl_loadAB tabOk rfl rfl rfl (by assumption) (by rfl) (by rfl) ?_)) | (refine is_c ?_; first | refine y_seq ?_ | refine y_region ?_ | refine y_skip ?_ | refine y_block ?_ | refine y_ret ?_ | (refine is_cond ?_; first | refine y_cond_true rfl ?_ | refine y_cond_false rfl ?_) | (refine is_exit ?_; refine y_exit _ rfl ?_) | refine y_label ?_) | refine yl_nil ?_ | refine y_blk ?_ | (refine is_lg ?_; first | refine yl_guard_yes rfl ?_ | refine yl_guard_no rfl rfl rfl ?_) | (refine is_fv ?_; first | refine yf_pure tabOk rfl rfl rfl ?_ | (refine yf_isload ?_; first | refine yf_loadB tabOk rfl rfl rfl (by assumption) (by first | assumption | simp) (by rfl) ?_ | refine yf_loadAB tabOk rfl rfl rfl (by assumption) (by first | assumption | simp) (by rfl) (by rfl) ?_)) | refine yf_nil ?_ | (refine is_fg ?_; first | refine yf_guard_yes rfl ?_ | refine yf_guard_no rfl rfl rfl ?_))
      exact y_fin2 rfl rfl rfl ⟨(hc03.trans hc4).trans hc5, .inr ⟨_, rfl, k1, k2, m1, m2, e1, e2, e3, hrd.wide (by have := hc03.size; have := hc4.size; omega) (Nat.le_refl _)⟩⟩
  · exact (hno ⟨k1, m1, k2, m2, e1, e2, e3⟩).elim

end Go.Proofs.Ytmfeegebijejjaa
