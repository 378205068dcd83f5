/- Walks: RoundShows. -/
import Derived.Test.YtmfeegebijejjaaTab
import Derived.Test.YtmfeegebijejjaaEng10
import Derived.Test.YtmfeegebijejjaaLib2
import Derived.Test.YtmfeegebijejjaaEvery
import Derived.Test.YtmfeegebijejjaaW10
namespace Go.Proofs.Ytmfeegebijejjaa
open Go Go.Eng

theorem st68 : structIntB Try.prog 68 2 = true := by kernel_rfl

def stepIs (kd ix : Int) : Value → Bool
  | .agg c => match c.toList with
    | .int _ a :: .int _ b :: _ => decide ([a, b] = [kd, ix])
    | _ => false
  | _ => false

theorem rs1_p (w : World) (base : Nat) (es : List Value) (LL : List Lk) (b : Nat) (kd ix : Int) (hb : Blk w b [.int .i64 kd, .int .i64 ix] 68) (hlk : LkC w base es LL) :
    PredAt Try.prog tab w (.func (.func 24) #[] #[.pointer (some ⟨b, 0, none⟩)]) es (stepIs kd ix) := by
  refine ⟨_, #[], #[_], rfl, rfl, fun w' hw' x hx => ?_⟩
  obtain ⟨i, hi, rfl⟩ := List.getElem_of_mem hx
  obtain ⟨bb, _, _, h3⟩ := hlk.2 i (LL[i]'(by rw [← hlk.1]; exact hi)) (List.getElem?_eq_getElem _)
  rw [List.getElem?_eq_getElem hi] at h3
  have h4 := Option.some.inj h3
  rw [h4]
  generalize LL[i]'(by rw [← hlk.1]; exact hi) = k
  have hbw := hb.keep hw'
  refine ca_of (args := [lkV k bb, .pointer (some ⟨b, 0, none⟩)]) Try.func24 rfl (by simp [Try.ntmps24]) ?_
  repeat (first | (refine is_lv ?_; first | refine yl_pure tabOk rfl rfl ?_ | (refine yl_isload ?_; first | refine yl_loadB tabOk rfl rfl rfl (by assumption) (by rfl) ?_ | refine yl_loadAB tabOk rfl rfl rfl (by assumption) (by rfl) (by rfl) ?_)) | (refine is_c ?_; first | refine y_seq ?_ | refine y_region ?_ | refine y_skip ?_ | refine y_block ?_ | refine y_ret ?_ | (refine is_cond ?_; first | refine y_cond_true rfl ?_ | refine y_cond_false rfl ?_) | (refine is_exit ?_; refine y_exit _ rfl ?_) | refine y_label ?_) | refine yl_nil ?_ | refine y_blk ?_ | (refine is_lg ?_; first | refine yl_guard_yes rfl ?_ | refine yl_guard_no rfl rfl rfl ?_) | (refine is_fv ?_; first | refine yf_pure tabOk rfl rfl rfl ?_ | (refine yf_isload ?_; first | refine yf_loadB tabOk rfl rfl rfl (by assumption) (by first | assumption | simp) (by rfl) ?_ | refine yf_loadAB tabOk rfl rfl rfl (by assumption) (by first | assumption | simp) (by rfl) (by rfl) ?_)) | refine yf_nil ?_ | (refine is_fg ?_; first | refine yf_guard_yes rfl ?_ | refine yf_guard_no rfl rfl rfl ?_))
  refine yl_box (v := lkV k bb) rfl rfl (fun w1 hc1 hs1 hb1 => ?_)
  have hb1' : Blk w1 w'.heap.size (lkCs k bb) 72 := hb1
  have hbw1 := hbw.keep hc1
  repeat (first | (refine is_lv ?_; first | refine yl_pure tabOk rfl rfl ?_ | (refine yl_isload ?_; first | refine yl_loadB tabOk rfl rfl rfl (by assumption) (by rfl) ?_ | refine yl_loadAB tabOk rfl rfl rfl (by assumption) (by rfl) (by rfl) ?_)) | (refine is_c ?_; first | refine y_seq ?_ | refine y_region ?_ | refine y_skip ?_ | refine y_block ?_ | refine y_ret ?_ | (refine is_cond ?_; first | refine y_cond_true rfl ?_ | refine y_cond_false rfl ?_) | (refine is_exit ?_; refine y_exit _ rfl ?_) | refine y_label ?_) | refine yl_nil ?_ | refine y_blk ?_ | (refine is_lg ?_; first | refine yl_guard_yes rfl ?_ | refine yl_guard_no rfl rfl rfl ?_) | (refine is_fv ?_; first | refine yf_pure tabOk rfl rfl rfl ?_ | (refine yf_isload ?_; first | refine yf_loadB tabOk rfl rfl rfl (by assumption) (by first | assumption | simp) (by rfl) ?_ | refine yf_loadAB tabOk rfl rfl rfl (by assumption) (by first | assumption | simp) (by rfl) (by rfl) ?_)) | refine yf_nil ?_ | (refine is_fg ?_; first | refine yf_guard_yes rfl ?_ | refine yf_guard_no rfl rfl rfl ?_))
  refine yl_eqS [k.kd, k.ix] [kd, ix] st68 rfl rfl rfl rfl rfl ?_
  repeat (first | (refine is_lv ?_; first | refine yl_pure tabOk rfl rfl ?_ | (refine yl_isload ?_; first | refine yl_loadB tabOk rfl rfl rfl (by assumption) (by rfl) ?_ | refine yl_loadAB tabOk rfl rfl rfl (by assumption) (by rfl) (by rfl) ?_)) | (refine is_c ?_; first | refine y_seq ?_ | refine y_region ?_ | refine y_skip ?_ | refine y_block ?_ | refine y_ret ?_ | (refine is_cond ?_; first | refine y_cond_true rfl ?_ | refine y_cond_false rfl ?_) | (refine is_exit ?_; refine y_exit _ rfl ?_) | refine y_label ?_) | refine yl_nil ?_ | refine y_blk ?_ | (refine is_lg ?_; first | refine yl_guard_yes rfl ?_ | refine yl_guard_no rfl rfl rfl ?_) | (refine is_fv ?_; first | refine yf_pure tabOk rfl rfl rfl ?_ | (refine yf_isload ?_; first | refine yf_loadB tabOk rfl rfl rfl (by assumption) (by first | assumption | simp) (by rfl) ?_ | refine yf_loadAB tabOk rfl rfl rfl (by assumption) (by first | assumption | simp) (by rfl) (by rfl) ?_)) | refine yf_nil ?_ | (refine is_fg ?_; first | refine yf_guard_yes rfl ?_ | refine yf_guard_no rfl rfl rfl ?_))
  exact y_fin1 rfl rfl ⟨rfl, hc1⟩

theorem links_step {n : Nat} {L : List Sh} {l : List Int} {k k' : Lk} (h : k ∈ linksOf n L l) (h' : k' ∈ linksOf n L l) (e1 : k.kd = k'.kd) (e2 : k.ix = k'.ix) : k = k' := by
  rcases mem_links h with ⟨i, s, hs, rfl | rfl⟩ | ⟨i, hi, rfl | rfl⟩ | ⟨i, x, hx, rfl⟩ <;> rcases mem_links h' with ⟨i', s', hs', rfl | rfl⟩ | ⟨i', hi', rfl | rfl⟩ | ⟨i', x', hx', rfl⟩ <;> simp only at e1 e2 <;> first | omega | (obtain rfl : i = i' := by omega) <;> first | rfl | (rw [hs] at hs'; cases hs'; rfl) | (rw [hx] at hx'; cases hx'; rfl)

theorem stepIs_lk (k : Lk) (b : Nat) (kd ix : Int) : stepIs kd ix (lkV k b) = true ↔ k.kd = kd ∧ k.ix = ix := by
  simp [stepIs, lkV]

set_option maxHeartbeats 2000000 in
theorem roundShows_ca (w : World) (lo hi lo' hi' lo2 hi2 : Nat) (v v' rv : Value) (l : List Int) (L : List Sh) (h1 : RdI w lo hi v l) (h2 : RdE w lo' hi' v' 4 (shs L)) (hr : Right l L)
    (k1 k2 : Lk) (m1 : k1 ∈ linksOf l.length L l) (m2 : k2 ∈ linksOf l.length L l) (e1 : k1.fr = k2.to) (e2 : k1.to = k2.fr) (e3 : k1.c + k2.c < 0) (h3 : Rd w lo2 hi2 rv 2 2 [.int .i64 k1.kd, .int .i64 k1.ix, .int .i64 k2.kd, .int .i64 k2.ix]) :
    Ca Try.prog 12 [v, v', rv] w fun r w' => r = .tuple #[.int .i64 (k1.c + k2.c), .int .i64 0] ∧ Chg [] w w' := by
  obtain ⟨a, cap, rfl, _⟩ := h1.outI
  obtain ⟨ra, rcap, rfl, hra⟩ := h3.out
  obtain ⟨rb, roff, rfl, _⟩ := hra (by omega)
  have hE : RdE w lo2 hi2 (.slice (some ⟨rb, roff, none⟩) 2 rcap) 2 ([k1, k2].map stV) := ⟨h3, by simp [stV, Value.cells]⟩
  have hm := hr.most
  have hsh := hr.sheets
  have hok := links_ok hr l (.inl rfl)
  refine ca_of Try.func12 rfl (by simp [Try.ntmps12]) ?_
  repeat (first | (refine is_lv ?_; first | refine yl_pure tabOk rfl rfl ?_ | (refine yl_isload ?_; first | refine yl_loadB tabOk rfl rfl rfl (by assumption) (by rfl) ?_ | refine yl_loadAB tabOk rfl rfl rfl (by assumption) (by rfl) (by rfl) ?_)) | (refine is_c ?_; first | refine y_seq ?_ | refine y_region ?_ | refine y_skip ?_ | refine y_block ?_ | refine y_ret ?_ | (refine is_cond ?_; first | refine y_cond_true rfl ?_ | refine y_cond_false rfl ?_) | (refine is_exit ?_; refine y_exit _ rfl ?_) | refine y_label ?_) | refine yl_nil ?_ | refine y_blk ?_ | (refine is_lg ?_; first | refine yl_guard_yes rfl ?_ | refine yl_guard_no rfl rfl rfl ?_) | (refine is_fv ?_; first | refine yf_pure tabOk rfl rfl rfl ?_ | (refine yf_isload ?_; first | refine yf_loadB tabOk rfl rfl rfl (by assumption) (by first | assumption | simp) (by rfl) ?_ | refine yf_loadAB tabOk rfl rfl rfl (by assumption) (by first | assumption | simp) (by rfl) (by rfl) ?_)) | refine yf_nil ?_ | (refine is_fg ?_; first | refine yf_guard_yes rfl ?_ | refine yf_guard_no rfl rfl rfl ?_))
  refine yl_call tabOk rfl rfl rfl rfl (due_ca w lo hi lo' hi' _ v' l L h1 h2 hr) ?_
  rintro _ w1 ⟨rfl, hc1⟩
  repeat (first | (refine is_lv ?_; first | refine yl_pure tabOk rfl rfl ?_ | (refine yl_isload ?_; first | refine yl_loadB tabOk rfl rfl rfl (by assumption) (by rfl) ?_ | refine yl_loadAB tabOk rfl rfl rfl (by assumption) (by rfl) (by rfl) ?_)) | (refine is_c ?_; first | refine y_seq ?_ | refine y_region ?_ | refine y_skip ?_ | refine y_block ?_ | refine y_ret ?_ | (refine is_cond ?_; first | refine y_cond_true rfl ?_ | refine y_cond_false rfl ?_) | (refine is_exit ?_; refine y_exit _ rfl ?_) | refine y_label ?_) | refine yl_nil ?_ | refine y_blk ?_ | (refine is_lg ?_; first | refine yl_guard_yes rfl ?_ | refine yl_guard_no rfl rfl rfl ?_) | (refine is_fv ?_; first | refine yf_pure tabOk rfl rfl rfl ?_ | (refine yf_isload ?_; first | refine yf_loadB tabOk rfl rfl rfl (by assumption) (by first | assumption | simp) (by rfl) ?_ | refine yf_loadAB tabOk rfl rfl rfl (by assumption) (by first | assumption | simp) (by rfl) (by rfl) ?_)) | refine yf_nil ?_ | (refine is_fg ?_; first | refine yf_guard_yes rfl ?_ | refine yf_guard_no rfl rfl rfl ?_))
  refine yl_call tabOk rfl rfl rfl rfl (within_ca 2 1 40 w1) ?_
  rintro _ w2 ⟨rfl, hw⟩
  obtain rfl := hw.symm
  repeat (first | (refine is_lv ?_; first | refine yl_pure tabOk rfl rfl ?_ | (refine yl_isload ?_; first | refine yl_loadB tabOk rfl rfl rfl (by assumption) (by rfl) ?_ | refine yl_loadAB tabOk rfl rfl rfl (by assumption) (by rfl) (by rfl) ?_)) | (refine is_c ?_; first | refine y_seq ?_ | refine y_region ?_ | refine y_skip ?_ | refine y_block ?_ | refine y_ret ?_ | (refine is_cond ?_; first | refine y_cond_true rfl ?_ | refine y_cond_false rfl ?_) | (refine is_exit ?_; refine y_exit _ rfl ?_) | refine y_label ?_) | refine yl_nil ?_ | refine y_blk ?_ | (refine is_lg ?_; first | refine yl_guard_yes rfl ?_ | refine yl_guard_no rfl rfl rfl ?_) | (refine is_fv ?_; first | refine yf_pure tabOk rfl rfl rfl ?_ | (refine yf_isload ?_; first | refine yf_loadB tabOk rfl rfl rfl (by assumption) (by first | assumption | simp) (by rfl) ?_ | refine yf_loadAB tabOk rfl rfl rfl (by assumption) (by first | assumption | simp) (by rfl) (by rfl) ?_)) | refine yf_nil ?_ | (refine is_fg ?_; first | refine yf_guard_yes rfl ?_ | refine yf_guard_no rfl rfl rfl ?_))
  refine yl_call tabOk rfl rfl rfl rfl (links_ca w1 lo' hi' lo hi v' _ l.length L l (h2.keep hc1) (h1.keep hc1) hm hsh hm hr.place hr.loops hr.owed) ?_
  rintro lv w2 ⟨hL, hc2⟩
  obtain ⟨es, hrd, hlk⟩ := hL.rd
  obtain ⟨la, lcap, rfl, hls⟩ := hrd.out
  have hLpos : 0 < es.length := by rw [hlk.1]; exact List.length_pos_of_mem m1
  obtain ⟨lb, loff, rfl⟩ := hls hLpos
  have hc02 := hc1.trans hc2
  have hlk := hlk.base hc1.size
  have hel : es.length < 1000 := by rw [hlk.1, links_length]; omega
  have hagg : ∀ i (hi : i < es.length), ∃ c, es[i] = .agg c := fun i hi => by
    obtain ⟨bb, _, _, h3⟩ := hlk.2 i _ (List.getElem?_eq_getElem (by rw [← hlk.1]; exact hi))
    rw [List.getElem?_eq_getElem hi] at h3
    exact ⟨_, Option.some.inj h3⟩
  repeat (first | (refine is_lv ?_; first | refine yl_pure tabOk rfl rfl ?_ | (refine yl_isload ?_; first | refine yl_loadB tabOk rfl rfl rfl (by assumption) (by rfl) ?_ | refine yl_loadAB tabOk rfl rfl rfl (by assumption) (by rfl) (by rfl) ?_)) | (refine is_c ?_; first | refine y_seq ?_ | refine y_region ?_ | refine y_skip ?_ | refine y_block ?_ | refine y_ret ?_ | (refine is_cond ?_; first | refine y_cond_true rfl ?_ | refine y_cond_false rfl ?_) | (refine is_exit ?_; refine y_exit _ rfl ?_) | refine y_label ?_) | refine yl_nil ?_ | refine y_blk ?_ | (refine is_lg ?_; first | refine yl_guard_yes rfl ?_ | refine yl_guard_no rfl rfl rfl ?_) | (refine is_fv ?_; first | refine yf_pure tabOk rfl rfl rfl ?_ | (refine yf_isload ?_; first | refine yf_loadB tabOk rfl rfl rfl (by assumption) (by first | assumption | simp) (by rfl) ?_ | refine yf_loadAB tabOk rfl rfl rfl (by assumption) (by first | assumption | simp) (by rfl) (by rfl) ?_)) | refine yf_nil ?_ | (refine is_fg ?_; first | refine yf_guard_yes rfl ?_ | refine yf_guard_no rfl rfl rfl ?_))
  refine y_loop (fun m le wr => ∃ (j : Nat) (o : Value), j ≤ 2 ∧ m = 2 - j ∧ le = [(9, .slice (some ⟨lb, loff, none⟩) es.length lcap), (10, o), (34, .slice (some ⟨rb, roff, none⟩) 2 rcap), (35, .int .i64 2), (36, .int .i64 j)] ∧ (∃ ws, wr.ownsRow w2.heap.size 72 5 o ([k1, k2].take j).length (cellsOf ws) ∧ LkC wr w.heap.size ws ([k1, k2].take j)) ∧ Chg [] w2 wr) (m := 2)
    ⟨0, _, by omega, rfl, rfl, ⟨[], own_nil _ _ _ _, LkC.nil _ _⟩, Chg.refl _ _⟩ ⟨rfl, rfl, rfl, rfl, rfl, trivial⟩ ?_
  rintro m le wr ⟨j, o, hjl, rfl, rfl, ⟨ws, hown, hws⟩, hcw⟩ K hK
  repeat (first | (refine is_lv ?_; first | refine yl_pure tabOk rfl rfl ?_ | (refine yl_isload ?_; first | refine yl_loadB tabOk rfl rfl rfl (by assumption) (by rfl) ?_ | refine yl_loadAB tabOk rfl rfl rfl (by assumption) (by rfl) (by rfl) ?_)) | (refine is_c ?_; first | refine y_seq ?_ | refine y_region ?_ | refine y_skip ?_ | refine y_block ?_ | refine y_ret ?_ | (refine is_cond ?_; first | refine y_cond_true rfl ?_ | refine y_cond_false rfl ?_) | (refine is_exit ?_; refine y_exit _ rfl ?_) | refine y_label ?_) | refine yl_nil ?_ | refine y_blk ?_ | (refine is_lg ?_; first | refine yl_guard_yes rfl ?_ | refine yl_guard_no rfl rfl rfl ?_) | (refine is_fv ?_; first | refine yf_pure tabOk rfl rfl rfl ?_ | (refine yf_isload ?_; first | refine yf_loadB tabOk rfl rfl rfl (by assumption) (by first | assumption | simp) (by rfl) ?_ | refine yf_loadAB tabOk rfl rfl rfl (by assumption) (by first | assumption | simp) (by rfl) (by rfl) ?_)) | refine yf_nil ?_ | (refine is_fg ?_; first | refine yf_guard_yes rfl ?_ | refine yf_guard_no rfl rfl rfl ?_))
  (first | (refine is_cond ?_; first | refine y_if rfl (fun hc => ?_) (fun hc => ?_) | refine y_ifn rfl (fun hc => ?_) (fun hc => ?_) | refine y_cond rfl (fun hc => ?_) (fun hc => ?_)) | (refine is_lg ?_; refine yl_split rfl rfl (fun hc => ?_) (fun hc => ?_)) | (refine is_fg ?_; refine yf_split rfl rfl (fun hc => ?_) (fun hc => ?_)))
  · have hj : j < 2 := by omega
    have hj' : j < [k1, k2].length := hj
    have hstj : ([k1, k2].map stV)[j]'(by simpa using hj) = stV [k1, k2][j] := List.getElem_map _
    have hmem : [k1, k2][j] ∈ linksOf l.length L l := by
      have := List.getElem_mem hj'
      rcases List.mem_cons.1 this with h | h
      · rw [h]; exact m1
      · rw [List.mem_singleton.1 h]; exact m2
    have htk : [k1, k2].take (j + 1) = [k1, k2].take j ++ [[k1, k2][j]] := List.take_succ_eq_append_getElem hj'
    have htl : ([k1, k2].take j).length = j := by simp; omega
    generalize hkj : [k1, k2][j] = kj at hstj hmem htk
    repeat (first | (refine is_lv ?_; first | refine yl_pure tabOk rfl rfl ?_ | (refine yl_isload ?_; first | refine yl_loadB tabOk rfl rfl rfl (by assumption) (by rfl) ?_ | refine yl_loadAB tabOk rfl rfl rfl (by assumption) (by rfl) (by rfl) ?_)) | (refine is_c ?_; first | refine y_seq ?_ | refine y_region ?_ | refine y_skip ?_ | refine y_block ?_ | refine y_ret ?_ | (refine is_cond ?_; first | refine y_cond_true rfl ?_ | refine y_cond_false rfl ?_) | (refine is_exit ?_; refine y_exit _ rfl ?_) | refine y_label ?_) | refine yl_nil ?_ | refine y_blk ?_ | (refine is_lg ?_; first | refine yl_guard_yes rfl ?_ | refine yl_guard_no rfl rfl rfl ?_) | (refine is_fv ?_; first | refine yf_pure tabOk rfl rfl rfl ?_ | (refine yf_isload ?_; first | refine yf_loadB tabOk rfl rfl rfl (by assumption) (by first | assumption | simp) (by rfl) ?_ | refine yf_loadAB tabOk rfl rfl rfl (by assumption) (by first | assumption | simp) (by rfl) (by rfl) ?_)) | refine yf_nil ?_ | (refine is_fg ?_; first | refine yf_guard_yes rfl ?_ | refine yf_guard_no rfl rfl rfl ?_))
    refine yl_index tabOk rfl rfl rfl rfl rfl (by omega) (by omega) ?_
    refine yl_loadA tabOk rfl rfl rfl (cs := [.int .i64 kj.kd, .int .i64 kj.ix]) rfl (fun i hi => by
      have := ((hE.keep hc02).keep hcw).cell j i (by simpa using hj) hi
      rw [hstj] at this
      exact this) ?_
    refine yl_alloc (z := .agg #[.int .i64 0, .int .i64 0]) (by kernel_rfl) rfl (fun w3 hc3 hs3 hb3 => ?_)
    refine yl_storeA tabOk (us := [.int .i64 kj.kd, .int .i64 kj.ix]) rfl rfl rfl rfl (by simp [oneV]) hb3 (by simp [Value.cells]) (fun w4 hc4 hs4 hb4 => ?_)
    have hc04 := hc3.up1 hc4 (Nat.le_refl _)
    have hb4 : Blk w4 wr.heap.size [.int .i64 kj.kd, .int .i64 kj.ix] 68 := hb4
    clear hb3
    have hlk4 := (hlk.keep hcw).keep hc04
    have hrd4 := (hrd.keep hcw).keep hc04
    repeat (first | (refine is_lv ?_; first | refine yl_pure tabOk rfl rfl ?_ | (refine yl_isload ?_; first | refine yl_loadB tabOk rfl rfl rfl (by assumption) (by rfl) ?_ | refine yl_loadAB tabOk rfl rfl rfl (by assumption) (by rfl) (by rfl) ?_)) | (refine is_c ?_; first | refine y_seq ?_ | refine y_region ?_ | refine y_skip ?_ | refine y_block ?_ | refine y_ret ?_ | (refine is_cond ?_; first | refine y_cond_true rfl ?_ | refine y_cond_false rfl ?_) | (refine is_exit ?_; refine y_exit _ rfl ?_) | refine y_label ?_) | refine yl_nil ?_ | refine y_blk ?_ | (refine is_lg ?_; first | refine yl_guard_yes rfl ?_ | refine yl_guard_no rfl rfl rfl ?_) | (refine is_fv ?_; first | refine yf_pure tabOk rfl rfl rfl ?_ | (refine yf_isload ?_; first | refine yf_loadB tabOk rfl rfl rfl (by assumption) (by first | assumption | simp) (by rfl) ?_ | refine yf_loadAB tabOk rfl rfl rfl (by assumption) (by first | assumption | simp) (by rfl) (by rfl) ?_)) | refine yf_nil ?_ | (refine is_fg ?_; first | refine yf_guard_yes rfl ?_ | refine yf_guard_no rfl rfl rfl ?_))
    refine yl_call tabOk rfl rfl rfl rfl (idxF_link_ w4 _ _ _ _ es _ hrd4 hagg (by omega) (rs1_p w4 _ es _ _ kj.kd kj.ix hb4 hlk4)) ?_
    rintro r w5 ⟨hres, hc5⟩
    have hfound : ∃ i : Nat, r = .int .i64 i ∧ ∃ hi : i < es.length, stepIs kj.kd kj.ix es[i] = true := by
      rcases hres with ⟨i, h4, h5⟩ | ⟨_, hall⟩
      · exact ⟨i, h4, h5⟩
      · exfalso
        obtain ⟨i, hi⟩ := List.getElem?_of_mem hmem
        obtain ⟨bb, _, _, h6⟩ := hlk.2 i kj hi
        have h7 := hall _ (List.mem_of_getElem? h6)
        rw [(stepIs_lk kj bb kj.kd kj.ix).2 ⟨rfl, rfl⟩] at h7
        cases h7
    obtain ⟨i, rfl, hi, hst⟩ := hfound
    have hiL : i < (linksOf l.length L l).length := by rw [← hlk.1]; exact hi
    obtain ⟨bb, hbase, hcb, h6⟩ := (hlk4.keep hc5).2 i _ (List.getElem?_eq_getElem hiL)
    have h6' := h6
    rw [List.getElem?_eq_getElem hi] at h6
    have h7 := Option.some.inj h6
    rw [h7, stepIs_lk] at hst
    have hki : (linksOf l.length L l)[i] = kj := links_step (List.getElem_mem hiL) hmem hst.1 hst.2
    rw [hki] at h7 hcb
    repeat (first | (refine is_lv ?_; first | refine yl_pure tabOk rfl rfl ?_ | (refine yl_isload ?_; first | refine yl_loadB tabOk rfl rfl rfl (by assumption) (by rfl) ?_ | refine yl_loadAB tabOk rfl rfl rfl (by assumption) (by rfl) (by rfl) ?_)) | (refine is_c ?_; first | refine y_seq ?_ | refine y_region ?_ | refine y_skip ?_ | refine y_block ?_ | refine y_ret ?_ | (refine is_cond ?_; first | refine y_cond_true rfl ?_ | refine y_cond_false rfl ?_) | (refine is_exit ?_; refine y_exit _ rfl ?_) | refine y_label ?_) | refine yl_nil ?_ | refine y_blk ?_ | (refine is_lg ?_; first | refine yl_guard_yes rfl ?_ | refine yl_guard_no rfl rfl rfl ?_) | (refine is_fv ?_; first | refine yf_pure tabOk rfl rfl rfl ?_ | (refine yf_isload ?_; first | refine yf_loadB tabOk rfl rfl rfl (by assumption) (by first | assumption | simp) (by rfl) ?_ | refine yf_loadAB tabOk rfl rfl rfl (by assumption) (by first | assumption | simp) (by rfl) (by rfl) ?_)) | refine yf_nil ?_ | (refine is_fg ?_; first | refine yf_guard_yes rfl ?_ | refine yf_guard_no rfl rfl rfl ?_))
    refine yl_index tabOk rfl rfl rfl rfl rfl (by omega) (by omega) ?_
    refine yl_loadA tabOk rfl rfl rfl (cs := lkCs kj bb) rfl (fun q hq => by
      have := (hrd4.keep hc5).cell i q hi hq
      rw [h7] at this
      exact this) ?_
    refine yl_mkS 72 (cellsOf [lkV kj bb]) rfl (by kernel_rfl) rfl (fun w6 hc6 hs6 hb6 => ?_)
    have hc46 := (hc04.trans hc5).trans hc6
    have hown6 := own_chg hown hc46 (by simp)
    have hws6 := hws.keep hc46
    rw [htl] at hown6
    refine yl_append sl63 rfl rfl rfl hown6 (blk_rd hb6 (m := 1) rfl) (by simp [cellsOf, lkV, Value.cells, oneV]) (by omega) (by omega) (by have := hcw.size; have := hc46.size; omega) (fun o' w7 ho7 hc7 _ => ?_)
    have hcwN := own_chg_base hown6 (Nat.le_refl w2.heap.size)
    have hk3 : ∀ b cs, Blk w6 b cs 3 → w.heap.size ≤ b → b ∉ o.ownBlock.toList := fun b cs hb _ => own_blk_ne hown6 hb (by decide)
    have hn6 : LkC w6 w.heap.size [lkV kj bb] [kj] := LkC.one kj hbase (hcb.keep hc6)
    have hws7 := (hws6.chg hc7 hk3).app (hn6.chg hc7 hk3)
    rw [← htk] at hws7
    have hc07 := (hcw.trans hc46).up hc7 hcwN
    have hown7 : w7.ownsRow w2.heap.size 72 5 o' ([k1, k2].take (j + 1)).length (cellsOf (ws ++ [lkV kj bb])) := by
      rw [cellsOf_append, htk, List.length_append, htl]
      exact ho7
    repeat (first | (refine is_lv ?_; first | refine yl_pure tabOk rfl rfl ?_ | (refine yl_isload ?_; first | refine yl_loadB tabOk rfl rfl rfl (by assumption) (by rfl) ?_ | refine yl_loadAB tabOk rfl rfl rfl (by assumption) (by rfl) (by rfl) ?_)) | (refine is_c ?_; first | refine y_seq ?_ | refine y_region ?_ | refine y_skip ?_ | refine y_block ?_ | refine y_ret ?_ | (refine is_cond ?_; first | refine y_cond_true rfl ?_ | refine y_cond_false rfl ?_) | (refine is_exit ?_; refine y_exit _ rfl ?_) | refine y_label ?_) | refine yl_nil ?_ | refine y_blk ?_ | (refine is_lg ?_; first | refine yl_guard_yes rfl ?_ | refine yl_guard_no rfl rfl rfl ?_) | (refine is_fv ?_; first | refine yf_pure tabOk rfl rfl rfl ?_ | (refine yf_isload ?_; first | refine yf_loadB tabOk rfl rfl rfl (by assumption) (by first | assumption | simp) (by rfl) ?_ | refine yf_loadAB tabOk rfl rfl rfl (by assumption) (by first | assumption | simp) (by rfl) (by rfl) ?_)) | refine yf_nil ?_ | (refine is_fg ?_; first | refine yf_guard_yes rfl ?_ | refine yf_guard_no rfl rfl rfl ?_))
    refine y_k (hK _ _ _ _ ⟨j + 1, o', by omega, rfl, rfl, ⟨_, hown7, hws7⟩, hc07⟩ (by omega) ⟨rfl, rfl, rfl, rfl, ?_, trivial⟩)
    show some (Value.int _ (IntKind.i64.wrap (↑j + 1))) = _
    rw [w64 (by omega) (by omega)]
    rfl
  obtain rfl : j = 2 := by omega
  clear hK
  have hown : wr.ownsRow w2.heap.size 72 5 o 2 (cellsOf ws) := hown
  have hws : LkC wr w.heap.size ws [k1, k2] := hws
  have hwl : ws.length = 2 := hws.1
  have hwrd : RdE wr w2.heap.size wr.heap.size o 5 ws := RdE.ofOwn (by rw [hwl]; exact hown) hws.size
  obtain ⟨wa, wcap, rfl, hwa⟩ := hwrd.out
  rw [hwl] at hwa hwrd hown
  rw [hwl]
  obtain ⟨wb, woff, rfl⟩ := hwa (by omega)
  have hc0r := hc02.trans hcw
  have o1 := hok k1 m1
  have o2 := hok k2 m2
  repeat (first | (refine is_lv ?_; first | refine yl_pure tabOk rfl rfl ?_ | (refine yl_isload ?_; first | refine yl_loadB tabOk rfl rfl rfl (by assumption) (by rfl) ?_ | refine yl_loadAB tabOk rfl rfl rfl (by assumption) (by rfl) (by rfl) ?_)) | (refine is_c ?_; first | refine y_seq ?_ | refine y_region ?_ | refine y_skip ?_ | refine y_block ?_ | refine y_ret ?_ | (refine is_cond ?_; first | refine y_cond_true rfl ?_ | refine y_cond_false rfl ?_) | (refine is_exit ?_; refine y_exit _ rfl ?_) | refine y_label ?_) | refine yl_nil ?_ | refine y_blk ?_ | (refine is_lg ?_; first | refine yl_guard_yes rfl ?_ | refine yl_guard_no rfl rfl rfl ?_) | (refine is_fv ?_; first | refine yf_pure tabOk rfl rfl rfl ?_ | (refine yf_isload ?_; first | refine yf_loadB tabOk rfl rfl rfl (by assumption) (by first | assumption | simp) (by rfl) ?_ | refine yf_loadAB tabOk rfl rfl rfl (by assumption) (by first | assumption | simp) (by rfl) (by rfl) ?_)) | refine yf_nil ?_ | (refine is_fg ?_; first | refine yf_guard_yes rfl ?_ | refine yf_guard_no rfl rfl rfl ?_))
  refine y_loop (fun m le wq => ∃ (j : Nat), j ≤ 2 ∧ m = 2 - j ∧ le = [(10, .slice (some ⟨wb, woff, none⟩) 2 wcap), (14, .int .i64 (if j = 0 then 0 else if j = 1 then k1.c else k1.c + k2.c)), (53, .slice (some ⟨wb, woff, none⟩) 2 wcap), (54, .int .i64 2), (55, .int .i64 j)] ∧ Chg [] wr wq) (m := 2)
    ⟨0, by omega, rfl, rfl, Chg.refl _ _⟩ ⟨rfl, rfl, rfl, rfl, rfl, trivial⟩ ?_
  rintro m le wq ⟨j, hjl, rfl, rfl, hcq⟩ K hK
  repeat (first | (refine is_lv ?_; first | refine yl_pure tabOk rfl rfl ?_ | (refine yl_isload ?_; first | refine yl_loadB tabOk rfl rfl rfl (by assumption) (by rfl) ?_ | refine yl_loadAB tabOk rfl rfl rfl (by assumption) (by rfl) (by rfl) ?_)) | (refine is_c ?_; first | refine y_seq ?_ | refine y_region ?_ | refine y_skip ?_ | refine y_block ?_ | refine y_ret ?_ | (refine is_cond ?_; first | refine y_cond_true rfl ?_ | refine y_cond_false rfl ?_) | (refine is_exit ?_; refine y_exit _ rfl ?_) | refine y_label ?_) | refine yl_nil ?_ | refine y_blk ?_ | (refine is_lg ?_; first | refine yl_guard_yes rfl ?_ | refine yl_guard_no rfl rfl rfl ?_) | (refine is_fv ?_; first | refine yf_pure tabOk rfl rfl rfl ?_ | (refine yf_isload ?_; first | refine yf_loadB tabOk rfl rfl rfl (by assumption) (by first | assumption | simp) (by rfl) ?_ | refine yf_loadAB tabOk rfl rfl rfl (by assumption) (by first | assumption | simp) (by rfl) (by rfl) ?_)) | refine yf_nil ?_ | (refine is_fg ?_; first | refine yf_guard_yes rfl ?_ | refine yf_guard_no rfl rfl rfl ?_))
  (first | (refine is_cond ?_; first | refine y_if rfl (fun hc => ?_) (fun hc => ?_) | refine y_ifn rfl (fun hc => ?_) (fun hc => ?_) | refine y_cond rfl (fun hc => ?_) (fun hc => ?_)) | (refine is_lg ?_; refine yl_split rfl rfl (fun hc => ?_) (fun hc => ?_)) | (refine is_fg ?_; refine yf_split rfl rfl (fun hc => ?_) (fun hc => ?_)))
  · have hj : j < 2 := by omega
    have hj' : j < [k1, k2].length := hj
    obtain ⟨bb, hbase, hcb, hcell⟩ := lk_cell (hwrd.keep hcq) (hws.keep hcq) j hj'
    obtain ⟨bn, hbasen, hcbn, hcelln⟩ := lk_cell (hwrd.keep hcq) (hws.keep hcq) (if j = 0 then 1 else 0) (by simp; split <;> omega)
    have hto : [k1, k2][j].to = ([k1, k2][if j = 0 then 1 else 0]'(by simp; split <;> omega)).fr := by
      rcases (by omega : j = 0 ∨ j = 1) with rfl | rfl
      · exact e2
      · exact e1.symm
    have hsum : (if j = 0 then 0 else if j = 1 then k1.c else k1.c + k2.c) + [k1, k2][j].c = (if j + 1 = 0 then 0 else if j + 1 = 1 then k1.c else k1.c + k2.c) := by
      rcases (by omega : j = 0 ∨ j = 1) with rfl | rfl <;> simp
    have hsum1 : -1000 ≤ (if j + 1 = 0 then 0 else if j + 1 = 1 then k1.c else k1.c + k2.c) ∧ (if j + 1 = 0 then 0 else if j + 1 = 1 then k1.c else k1.c + k2.c) ≤ 1000 := by
      split
      · omega
      · split <;> omega
    have hrem : (IntKind.i64.wrap ((j : Int) + 1)).tmod ((2 : Nat) : Int) = ((if j = 0 then 1 else 0 : Nat) : Int) := by
      rw [w64 (by omega) (by omega)]
      rcases (by omega : j = 0 ∨ j = 1) with rfl | rfl <;> rfl
    generalize hkj : [k1, k2][j] = kj at hcb hcell hto hsum
    generalize hkn : ([k1, k2][if j = 0 then 1 else 0]'(by simp; split <;> omega)) = kn at hcbn hcelln hto
    generalize hjn : (if j = 0 then 1 else 0 : Nat) = jn at hcelln hrem
    have hjn2 : jn < 2 := by rw [← hjn]; split <;> omega
    repeat (first | (refine is_lv ?_; first | refine yl_pure tabOk rfl rfl ?_ | (refine yl_isload ?_; first | refine yl_loadB tabOk rfl rfl rfl (by assumption) (by rfl) ?_ | refine yl_loadAB tabOk rfl rfl rfl (by assumption) (by rfl) (by rfl) ?_)) | (refine is_c ?_; first | refine y_seq ?_ | refine y_region ?_ | refine y_skip ?_ | refine y_block ?_ | refine y_ret ?_ | (refine is_cond ?_; first | refine y_cond_true rfl ?_ | refine y_cond_false rfl ?_) | (refine is_exit ?_; refine y_exit _ rfl ?_) | refine y_label ?_) | refine yl_nil ?_ | refine y_blk ?_ | (refine is_lg ?_; first | refine yl_guard_yes rfl ?_ | refine yl_guard_no rfl rfl rfl ?_) | (refine is_fv ?_; first | refine yf_pure tabOk rfl rfl rfl ?_ | (refine yf_isload ?_; first | refine yf_loadB tabOk rfl rfl rfl (by assumption) (by first | assumption | simp) (by rfl) ?_ | refine yf_loadAB tabOk rfl rfl rfl (by assumption) (by first | assumption | simp) (by rfl) (by rfl) ?_)) | refine yf_nil ?_ | (refine is_fg ?_; first | refine yf_guard_yes rfl ?_ | refine yf_guard_no rfl rfl rfl ?_))
    refine yl_index tabOk rfl rfl rfl rfl rfl (by omega) (by omega) ?_
    refine yl_loadA tabOk rfl rfl rfl (cs := lkCs kj bb) rfl (fun q hq => hcell q hq) ?_
    refine yl_alloc (z := lkz) (by kernel_rfl) rfl (fun w3 hc3 hs3 hb3 => ?_)
    repeat (first | (refine is_lv ?_; first | refine yl_pure tabOk rfl rfl ?_ | (refine yl_isload ?_; first | refine yl_loadB tabOk rfl rfl rfl (by assumption) (by rfl) ?_ | refine yl_loadAB tabOk rfl rfl rfl (by assumption) (by rfl) (by rfl) ?_)) | (refine is_c ?_; first | refine y_seq ?_ | refine y_region ?_ | refine y_skip ?_ | refine y_block ?_ | refine y_ret ?_ | (refine is_cond ?_; first | refine y_cond_true rfl ?_ | refine y_cond_false rfl ?_) | (refine is_exit ?_; refine y_exit _ rfl ?_) | refine y_label ?_) | refine yl_nil ?_ | refine y_blk ?_ | (refine is_lg ?_; first | refine yl_guard_yes rfl ?_ | refine yl_guard_no rfl rfl rfl ?_) | (refine is_fv ?_; first | refine yf_pure tabOk rfl rfl rfl ?_ | (refine yf_isload ?_; first | refine yf_loadB tabOk rfl rfl rfl (by assumption) (by first | assumption | simp) (by rfl) ?_ | refine yf_loadAB tabOk rfl rfl rfl (by assumption) (by first | assumption | simp) (by rfl) (by rfl) ?_)) | refine yf_nil ?_ | (refine is_fg ?_; first | refine yf_guard_yes rfl ?_ | refine yf_guard_no rfl rfl rfl ?_))
    refine yl_storeA tabOk (us := lkCs kj bb) rfl rfl rfl rfl (by simp [oneV]) hb3 (by simp [Value.cells]) (fun w4 hc4 hs4 hb4 => ?_)
    have hc04 := hc3.up1 hc4 (Nat.le_refl _)
    have hb4 : Blk w4 wq.heap.size (lkCs kj bb) 72 := hb4
    have hcb := hcb.keep hc04
    clear hb3
    repeat (first | (refine is_lv ?_; first | refine yl_pure tabOk rfl rfl ?_ | (refine yl_isload ?_; first | refine yl_loadB tabOk rfl rfl rfl (by assumption) (by rfl) ?_ | refine yl_loadAB tabOk rfl rfl rfl (by assumption) (by rfl) (by rfl) ?_)) | (refine is_c ?_; first | refine y_seq ?_ | refine y_region ?_ | refine y_skip ?_ | refine y_block ?_ | refine y_ret ?_ | (refine is_cond ?_; first | refine y_cond_true rfl ?_ | refine y_cond_false rfl ?_) | (refine is_exit ?_; refine y_exit _ rfl ?_) | refine y_label ?_) | refine yl_nil ?_ | refine y_blk ?_ | (refine is_lg ?_; first | refine yl_guard_yes rfl ?_ | refine yl_guard_no rfl rfl rfl ?_) | (refine is_fv ?_; first | refine yf_pure tabOk rfl rfl rfl ?_ | (refine yf_isload ?_; first | refine yf_loadB tabOk rfl rfl rfl (by assumption) (by first | assumption | simp) (by rfl) ?_ | refine yf_loadAB tabOk rfl rfl rfl (by assumption) (by first | assumption | simp) (by rfl) (by rfl) ?_)) | refine yf_nil ?_ | (refine is_fg ?_; first | refine yf_guard_yes rfl ?_ | refine yf_guard_no rfl rfl rfl ?_))
    refine y_draw [] (by kernel_rfl) (by kernel_rfl) (fun w5 hc5 hs5 => ?_)
    have hb4 := hb4.keep hc5
    have hcb := hcb.keep hc5
    repeat (first | (refine is_lv ?_; first | refine yl_pure tabOk rfl rfl ?_ | (refine yl_isload ?_; first | refine yl_loadB tabOk rfl rfl rfl (by assumption) (by rfl) ?_ | refine yl_loadAB tabOk rfl rfl rfl (by assumption) (by rfl) (by rfl) ?_)) | (refine is_c ?_; first | refine y_seq ?_ | refine y_region ?_ | refine y_skip ?_ | refine y_block ?_ | refine y_ret ?_ | (refine is_cond ?_; first | refine y_cond_true rfl ?_ | refine y_cond_false rfl ?_) | (refine is_exit ?_; refine y_exit _ rfl ?_) | refine y_label ?_) | refine yl_nil ?_ | refine y_blk ?_ | (refine is_lg ?_; first | refine yl_guard_yes rfl ?_ | refine yl_guard_no rfl rfl rfl ?_) | (refine is_fv ?_; first | refine yf_pure tabOk rfl rfl rfl ?_ | (refine yf_isload ?_; first | refine yf_loadB tabOk rfl rfl rfl (by assumption) (by first | assumption | simp) (by rfl) ?_ | refine yf_loadAB tabOk rfl rfl rfl (by assumption) (by first | assumption | simp) (by rfl) (by rfl) ?_)) | refine yf_nil ?_ | (refine is_fg ?_; first | refine yf_guard_yes rfl ?_ | refine yf_guard_no rfl rfl rfl ?_))
    refine yf_rem rfl rfl (by omega) rfl ?_
    rw [hrem]
    refine yf_index tabOk rfl rfl rfl rfl rfl (by omega) (by omega) ?_
    repeat (first | (refine is_lv ?_; first | refine yl_pure tabOk rfl rfl ?_ | (refine yl_isload ?_; first | refine yl_loadB tabOk rfl rfl rfl (by assumption) (by rfl) ?_ | refine yl_loadAB tabOk rfl rfl rfl (by assumption) (by rfl) (by rfl) ?_)) | (refine is_c ?_; first | refine y_seq ?_ | refine y_region ?_ | refine y_skip ?_ | refine y_block ?_ | refine y_ret ?_ | (refine is_cond ?_; first | refine y_cond_true rfl ?_ | refine y_cond_false rfl ?_) | (refine is_exit ?_; refine y_exit _ rfl ?_) | refine y_label ?_) | refine yl_nil ?_ | refine y_blk ?_ | (refine is_lg ?_; first | refine yl_guard_yes rfl ?_ | refine yl_guard_no rfl rfl rfl ?_) | (refine is_fv ?_; first | refine yf_pure tabOk rfl rfl rfl ?_ | (refine yf_isload ?_; first | refine yf_loadB tabOk rfl rfl rfl (by assumption) (by first | assumption | simp) (by rfl) ?_ | refine yf_loadAB tabOk rfl rfl rfl (by assumption) (by first | assumption | simp) (by rfl) (by rfl) ?_)) | refine yf_nil ?_ | (refine is_fg ?_; first | refine yf_guard_yes rfl ?_ | refine yf_guard_no rfl rfl rfl ?_))
    refine yf_load1 (v := .int .i64 kn.fr) tabOk rfl rfl rfl (fun w' hw' => ?_) ?_
    · obtain ⟨bx, _, _, hx⟩ := lk_cell (((hwrd.keep hcq).keep (hc04.trans hc5)).keep hw') (((hws.keep hcq).keep (hc04.trans hc5)).keep hw') jn hjn2
      have hx2 := hx 2 (by omega)
      have : [k1, k2][jn] = kn := by
        rw [← hkn]
        congr 1
        exact hjn.symm
      rw [this] at hx2
      exact hx2
    repeat (first | (refine is_lv ?_; first | refine yl_pure tabOk rfl rfl ?_ | (refine yl_isload ?_; first | refine yl_loadB tabOk rfl rfl rfl (by assumption) (by rfl) ?_ | refine yl_loadAB tabOk rfl rfl rfl (by assumption) (by rfl) (by rfl) ?_)) | (refine is_c ?_; first | refine y_seq ?_ | refine y_region ?_ | refine y_skip ?_ | refine y_block ?_ | refine y_ret ?_ | (refine is_cond ?_; first | refine y_cond_true rfl ?_ | refine y_cond_false rfl ?_) | (refine is_exit ?_; refine y_exit _ rfl ?_) | refine y_label ?_) | refine yl_nil ?_ | refine y_blk ?_ | (refine is_lg ?_; first | refine yl_guard_yes rfl ?_ | refine yl_guard_no rfl rfl rfl ?_) | (refine is_fv ?_; first | refine yf_pure tabOk rfl rfl rfl ?_ | (refine yf_isload ?_; first | refine yf_loadB tabOk rfl rfl rfl (by assumption) (by first | assumption | simp) (by rfl) ?_ | refine yf_loadAB tabOk rfl rfl rfl (by assumption) (by first | assumption | simp) (by rfl) (by rfl) ?_)) | refine yf_nil ?_ | (refine is_fg ?_; first | refine yf_guard_yes rfl ?_ | refine yf_guard_no rfl rfl rfl ?_))
    refine y_ifn rfl (fun hne => ?_) (fun _ => ?_)
    · exact (hne hto).elim
    repeat (first | (refine is_lv ?_; first | refine yl_pure tabOk rfl rfl ?_ | (refine yl_isload ?_; first | refine yl_loadB tabOk rfl rfl rfl (by assumption) (by rfl) ?_ | refine yl_loadAB tabOk rfl rfl rfl (by assumption) (by rfl) (by rfl) ?_)) | (refine is_c ?_; first | refine y_seq ?_ | refine y_region ?_ | refine y_skip ?_ | refine y_block ?_ | refine y_ret ?_ | (refine is_cond ?_; first | refine y_cond_true rfl ?_ | refine y_cond_false rfl ?_) | (refine is_exit ?_; refine y_exit _ rfl ?_) | refine y_label ?_) | refine yl_nil ?_ | refine y_blk ?_ | (refine is_lg ?_; first | refine yl_guard_yes rfl ?_ | refine yl_guard_no rfl rfl rfl ?_) | (refine is_fv ?_; first | refine yf_pure tabOk rfl rfl rfl ?_ | (refine yf_isload ?_; first | refine yf_loadB tabOk rfl rfl rfl (by assumption) (by first | assumption | simp) (by rfl) ?_ | refine yf_loadAB tabOk rfl rfl rfl (by assumption) (by first | assumption | simp) (by rfl) (by rfl) ?_)) | refine yf_nil ?_ | (refine is_fg ?_; first | refine yf_guard_yes rfl ?_ | refine yf_guard_no rfl rfl rfl ?_))
    refine yl_call tabOk rfl rfl rfl rfl (links2_ca w5 bb _ _ hcb) ?_
    rintro _ w6 ⟨rfl, hw⟩
    obtain rfl := hw.symm
    repeat (first | (refine is_lv ?_; first | refine yl_pure tabOk rfl rfl ?_ | (refine yl_isload ?_; first | refine yl_loadB tabOk rfl rfl rfl (by assumption) (by rfl) ?_ | refine yl_loadAB tabOk rfl rfl rfl (by assumption) (by rfl) (by rfl) ?_)) | (refine is_c ?_; first | refine y_seq ?_ | refine y_region ?_ | refine y_skip ?_ | refine y_block ?_ | refine y_ret ?_ | (refine is_cond ?_; first | refine y_cond_true rfl ?_ | refine y_cond_false rfl ?_) | (refine is_exit ?_; refine y_exit _ rfl ?_) | refine y_label ?_) | refine yl_nil ?_ | refine y_blk ?_ | (refine is_lg ?_; first | refine yl_guard_yes rfl ?_ | refine yl_guard_no rfl rfl rfl ?_) | (refine is_fv ?_; first | refine yf_pure tabOk rfl rfl rfl ?_ | (refine yf_isload ?_; first | refine yf_loadB tabOk rfl rfl rfl (by assumption) (by first | assumption | simp) (by rfl) ?_ | refine yf_loadAB tabOk rfl rfl rfl (by assumption) (by first | assumption | simp) (by rfl) (by rfl) ?_)) | refine yf_nil ?_ | (refine is_fg ?_; first | refine yf_guard_yes rfl ?_ | refine yf_guard_no rfl rfl rfl ?_))
    rw [hsum, w64 (x := if j + 1 = 0 then 0 else if j + 1 = 1 then k1.c else k1.c + k2.c) (by omega) (by omega)]
    refine y_k (hK _ _ _ _ ⟨j + 1, by omega, rfl, rfl, hcq.trans (hc04.trans hc5)⟩ (by omega) ⟨rfl, rfl, rfl, rfl, ?_, trivial⟩)
    show some (Value.int _ (IntKind.i64.wrap (↑j + 1))) = _
    rw [w64 (by omega) (by omega)]
    rfl
  obtain rfl : j = 2 := by omega
  repeat (first | (refine is_lv ?_; first | refine yl_pure tabOk rfl rfl ?_ | (refine yl_isload ?_; first | refine yl_loadB tabOk rfl rfl rfl (by assumption) (by rfl) ?_ | refine yl_loadAB tabOk rfl rfl rfl (by assumption) (by rfl) (by rfl) ?_)) | (refine is_c ?_; first | refine y_seq ?_ | refine y_region ?_ | refine y_skip ?_ | refine y_block ?_ | refine y_ret ?_ | (refine is_cond ?_; first | refine y_cond_true rfl ?_ | refine y_cond_false rfl ?_) | (refine is_exit ?_; refine y_exit _ rfl ?_) | refine y_label ?_) | refine yl_nil ?_ | refine y_blk ?_ | (refine is_lg ?_; first | refine yl_guard_yes rfl ?_ | refine yl_guard_no rfl rfl rfl ?_) | (refine is_fv ?_; first | refine yf_pure tabOk rfl rfl rfl ?_ | (refine yf_isload ?_; first | refine yf_loadB tabOk rfl rfl rfl (by assumption) (by first | assumption | simp) (by rfl) ?_ | refine yf_loadAB tabOk rfl rfl rfl (by assumption) (by first | assumption | simp) (by rfl) (by rfl) ?_)) | refine yf_nil ?_ | (refine is_fg ?_; first | refine yf_guard_yes rfl ?_ | refine yf_guard_no rfl rfl rfl ?_))
  refine y_if rfl (fun hge => ?_) (fun _ => ?_)
  · simp at hge
    omega
  repeat (first | (refine is_lv ?_; first | refine yl_pure tabOk rfl rfl ?_ | (refine yl_isload ?_; first | refine yl_loadB tabOk rfl rfl rfl (by assumption) (by rfl) ?_ | refine yl_loadAB tabOk rfl rfl rfl (by assumption) (by rfl) (by rfl) ?_)) | (refine is_c ?_; first | refine y_seq ?_ | refine y_region ?_ | refine y_skip ?_ | refine y_block ?_ | refine y_ret ?_ | (refine is_cond ?_; first | refine y_cond_true rfl ?_ | refine y_cond_false rfl ?_) | (refine is_exit ?_; refine y_exit _ rfl ?_) | refine y_label ?_) | refine yl_nil ?_ | refine y_blk ?_ | (refine is_lg ?_; first | refine yl_guard_yes rfl ?_ | refine yl_guard_no rfl rfl rfl ?_) | (refine is_fv ?_; first | refine yf_pure tabOk rfl rfl rfl ?_ | (refine yf_isload ?_; first | refine yf_loadB tabOk rfl rfl rfl (by assumption) (by first | assumption | simp) (by rfl) ?_ | refine yf_loadAB tabOk rfl rfl rfl (by assumption) (by first | assumption | simp) (by rfl) (by rfl) ?_)) | refine yf_nil ?_ | (refine is_fg ?_; first | refine yf_guard_yes rfl ?_ | refine yf_guard_no rfl rfl rfl ?_))
  exact y_fin2 rfl rfl rfl ⟨rfl, hc0r.trans hcq⟩

end Go.Proofs.Ytmfeegebijejjaa
