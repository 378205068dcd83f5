/- Walks: TopOwed, the function. -/
import Derived.Test.YtmfeegebijejjaaW13
namespace Go.Proofs.Ytmfeegebijejjaa
open Go Go.Eng

theorem sl28 : SlT Try.prog 28 4 1 1 (.bool false) := ⟨by kernel_rfl, by kernel_rfl, rfl, by omega⟩

theorem shs_one (S : List Sh) : ∀ c ∈ cellsOf (shs S), oneV c = true := by
  intro c hc
  simp only [cellsOf, List.mem_flatMap] at hc
  obtain ⟨e, he, hc⟩ := hc
  obtain ⟨s, _, rfl⟩ := List.mem_map.1 he
  simp [shV, Value.cells] at hc
  rcases hc with rfl | rfl | rfl | rfl <;> rfl

theorem rdE_two {w : World} {b t : Nat} {x y : Value} (h : Blk w b [x, y] t) (hx : x.cells = #[x]) (hy : y.cells = #[y]) (cap : Nat) : RdE w b (b + 1) (.slice (some ⟨b, 0, none⟩) 2 cap) 1 [x, y] := by
  have hc : cellsOf [x, y] = [x, y] := by simp [cellsOf, hx, hy]
  refine ⟨?_, ?_⟩
  · rw [hc]
    exact blk_rd h (m := 2) rfl
  · intro e he
    simp at he
    rcases he with rfl | rfl
    · rw [hx]; rfl
    · rw [hy]; rfl

/-- The sheets before place j, without the one at place k. -/
def blind (S : List Sh) (k j : Nat) : List Sh := (S.take j).eraseIdx k
theorem blind_length (S : List Sh) (k j : Nat) : (blind S k j).length ≤ S.length ∧ (blind S k j).length ≤ j := by
  have h1 : (blind S k j).length ≤ (S.take j).length := List.length_eraseIdx_le ..
  rw [List.length_take] at h1
  omega
theorem blind_succ (S : List Sh) (k j : Nat) (hj : j < S.length) : blind S k (j + 1) = if j = k then blind S k j else blind S k j ++ [S[j]] := by
  have hlen : (S.take j).length = j := by rw [List.length_take]; omega
  rw [blind, List.take_succ_eq_append_getElem hj, blind]
  by_cases h : j = k
  · subst h
    rw [if_pos rfl, List.eraseIdx_append_of_length_le (by omega), hlen, Nat.sub_self, List.eraseIdx_of_length_le (show (S.take j).length ≤ j by omega)]
    simp
  · rw [if_neg h]
    by_cases h2 : k < j
    · rw [List.eraseIdx_append_of_lt_length (by omega)]
    · rw [List.eraseIdx_append_of_length_le (by omega), hlen, List.eraseIdx_of_length_le (show (S.take j).length ≤ k by omega), List.eraseIdx_of_length_le (by simp; omega)]

set_option maxHeartbeats 8000000 in
theorem topOwed_ca (w : World) (v : Value) (nb : Nat) (cs : List Value) (which : Int) (hrd : Rd w 0 w.heap.size v 1 nb cs) (hcs : ∀ c ∈ cs, ∃ x, c = .int .u8 x ∧ 0 ≤ x ∧ x < 256) :
    Ca Try.prog 3 [v, .int .i64 which] w fun r w' => r = .bool true ∧ Chg [] w w' := by
  have hrd0 := hrd
  obtain ⟨a, cap, rfl, _⟩ := hrd.out
  refine ca_of Try.func3 rfl (by simp [Try.ntmps3]) ?_
  repeat (first | (refine is_lv ?_; first | refine yl_pure tabOk rfl rfl ?_ | (refine yl_isload ?_; first | refine yl_loadB tabOk rfl rfl rfl (by assumption) (by rfl) ?_ | refine yl_loadAB tabOk rfl rfl rfl (by assumption) (by rfl) (by rfl) ?_)) | (refine is_c ?_; first | refine y_seq ?_ | refine y_region ?_ | refine y_skip ?_ | refine y_block ?_ | refine y_ret ?_ | (refine is_cond ?_; first | refine y_cond_true rfl ?_ | refine y_cond_false rfl ?_) | (refine is_exit ?_; refine y_exit _ rfl ?_) | refine y_label ?_) | refine yl_nil ?_ | refine y_blk ?_ | (refine is_lg ?_; first | refine yl_guard_yes rfl ?_ | refine yl_guard_no rfl rfl rfl ?_) | (refine is_fv ?_; first | refine yf_pure tabOk rfl rfl rfl ?_ | (refine yf_isload ?_; first | refine yf_loadB tabOk rfl rfl rfl (by assumption) (by first | assumption | simp) (by rfl) ?_ | refine yf_loadAB tabOk rfl rfl rfl (by assumption) (by first | assumption | simp) (by rfl) (by rfl) ?_)) | refine yf_nil ?_ | (refine is_fg ?_; first | refine yf_guard_yes rfl ?_ | refine yf_guard_no rfl rfl rfl ?_))
  refine yl_call tabOk rfl rfl rfl rfl (of_ca w _ nb cs hrd0 hcs) ?_
  rintro _ w1 ⟨rfl, hc1, hs1, hd1⟩
  generalize hBd : w.heap.size = Bd at *
  repeat (first | (refine is_lv ?_; first | refine yl_pure tabOk rfl rfl ?_ | (refine yl_isload ?_; first | refine yl_loadB tabOk rfl rfl rfl (by assumption) (by rfl) ?_ | refine yl_loadAB tabOk rfl rfl rfl (by assumption) (by rfl) (by rfl) ?_)) | (refine is_c ?_; first | refine y_seq ?_ | refine y_region ?_ | refine y_skip ?_ | refine y_block ?_ | refine y_ret ?_ | (refine is_cond ?_; first | refine y_cond_true rfl ?_ | refine y_cond_false rfl ?_) | (refine is_exit ?_; refine y_exit _ rfl ?_) | refine y_label ?_) | refine yl_nil ?_ | refine y_blk ?_ | (refine is_lg ?_; first | refine yl_guard_yes rfl ?_ | refine yl_guard_no rfl rfl rfl ?_) | (refine is_fv ?_; first | refine yf_pure tabOk rfl rfl rfl ?_ | (refine yf_isload ?_; first | refine yf_loadB tabOk rfl rfl rfl (by assumption) (by first | assumption | simp) (by rfl) ?_ | refine yf_loadAB tabOk rfl rfl rfl (by assumption) (by first | assumption | simp) (by rfl) (by rfl) ?_)) | refine yf_nil ?_ | (refine is_fg ?_; first | refine yf_guard_yes rfl ?_ | refine yf_guard_no rfl rfl rfl ?_))
  refine yl_call tabOk rfl rfl rfl rfl (between_ca 1 5 0 (by omega) (by omega) (by omega) (by omega) w1 Bd hd1) ?_
  rintro _ w2 ⟨nN, rfl, hN1, hN5, hc2, hs2, hd2⟩
  have hc02 : Chg [] w w2 := hc1.up1 hc2 (by omega)
  repeat (first | (refine is_lv ?_; first | refine yl_pure tabOk rfl rfl ?_ | (refine yl_isload ?_; first | refine yl_loadB tabOk rfl rfl rfl (by assumption) (by rfl) ?_ | refine yl_loadAB tabOk rfl rfl rfl (by assumption) (by rfl) (by rfl) ?_)) | (refine is_c ?_; first | refine y_seq ?_ | refine y_region ?_ | refine y_skip ?_ | refine y_block ?_ | refine y_ret ?_ | (refine is_cond ?_; first | refine y_cond_true rfl ?_ | refine y_cond_false rfl ?_) | (refine is_exit ?_; refine y_exit _ rfl ?_) | refine y_label ?_) | refine yl_nil ?_ | refine y_blk ?_ | (refine is_lg ?_; first | refine yl_guard_yes rfl ?_ | refine yl_guard_no rfl rfl rfl ?_) | (refine is_fv ?_; first | refine yf_pure tabOk rfl rfl rfl ?_ | (refine yf_isload ?_; first | refine yf_loadB tabOk rfl rfl rfl (by assumption) (by first | assumption | simp) (by rfl) ?_ | refine yf_loadAB tabOk rfl rfl rfl (by assumption) (by first | assumption | simp) (by rfl) (by rfl) ?_)) | refine yf_nil ?_ | (refine is_fg ?_; first | refine yf_guard_yes rfl ?_ | refine yf_guard_no rfl rfl rfl ?_))
  refine y_loop (fun m le wr => ∃ (l : List Int) (o6 o7 : Value) (q : Nat), l.length ≤ nN ∧ m = (nN - l.length).toNat ∧ le = [(0, .slice a nb cap), (1, .int .i64 which), (5, .pointer (some ⟨Bd, 0, none⟩)), (6, o6), (7, o7), (30, .int .i64 nN), (31, .int .i64 l.length)] ∧
      (∀ x ∈ l, 0 ≤ x ∧ x ≤ 5) ∧ wr.ownsRow Bd 3 1 o6 l.length (ints l) ∧ wr.ownsRow Bd 38 4 o7 l.length (cellsOf (shs (shF l))) ∧ Chg [] w wr ∧ Deck wr Bd q ∧ q ≤ 1 + 8 * l.length) (m := nN.toNat)
    ⟨[], _, _, 1, by simp; omega, by simp, rfl, by simp, own_nil _ _ _ _, own_nil _ _ _ _, hc02, hd2, by simp⟩ ⟨rfl, rfl, rfl, rfl, rfl, rfl, rfl, trivial⟩ ?_
  clear hd1 hd2 hc02 hc2 hs2 hc1 hs1 w1 w2
  rintro m le wr ⟨l, o6, o7, q, hll, rfl, rfl, hl, hown6, hown7, hcw, hd, hq⟩ K hK
  repeat (first | (refine is_lv ?_; first | refine yl_pure tabOk rfl rfl ?_ | (refine yl_isload ?_; first | refine yl_loadB tabOk rfl rfl rfl (by assumption) (by rfl) ?_ | refine yl_loadAB tabOk rfl rfl rfl (by assumption) (by rfl) (by rfl) ?_)) | (refine is_c ?_; first | refine y_seq ?_ | refine y_region ?_ | refine y_skip ?_ | refine y_block ?_ | refine y_ret ?_ | (refine is_cond ?_; first | refine y_cond_true rfl ?_ | refine y_cond_false rfl ?_) | (refine is_exit ?_; refine y_exit _ rfl ?_) | refine y_label ?_) | refine yl_nil ?_ | refine y_blk ?_ | (refine is_lg ?_; first | refine yl_guard_yes rfl ?_ | refine yl_guard_no rfl rfl rfl ?_) | (refine is_fv ?_; first | refine yf_pure tabOk rfl rfl rfl ?_ | (refine yf_isload ?_; first | refine yf_loadB tabOk rfl rfl rfl (by assumption) (by first | assumption | simp) (by rfl) ?_ | refine yf_loadAB tabOk rfl rfl rfl (by assumption) (by first | assumption | simp) (by rfl) (by rfl) ?_)) | refine yf_nil ?_ | (refine is_fg ?_; first | refine yf_guard_yes rfl ?_ | refine yf_guard_no rfl rfl rfl ?_))
  (first | (refine is_cond ?_; first | refine y_if rfl (fun hc => ?_) (fun hc => ?_) | refine y_ifn rfl (fun hc => ?_) (fun hc => ?_) | refine y_cond rfl (fun hc => ?_) (fun hc => ?_)) | (refine is_lg ?_; refine yl_split rfl rfl (fun hc => ?_) (fun hc => ?_)) | (refine is_fg ?_; refine yf_split rfl rfl (fun hc => ?_) (fun hc => ?_)))
  · have hlN : (l.length : Int) < nN := by omega
    repeat (first | (refine is_lv ?_; first | refine yl_pure tabOk rfl rfl ?_ | (refine yl_isload ?_; first | refine yl_loadB tabOk rfl rfl rfl (by assumption) (by rfl) ?_ | refine yl_loadAB tabOk rfl rfl rfl (by assumption) (by rfl) (by rfl) ?_)) | (refine is_c ?_; first | refine y_seq ?_ | refine y_region ?_ | refine y_skip ?_ | refine y_block ?_ | refine y_ret ?_ | (refine is_cond ?_; first | refine y_cond_true rfl ?_ | refine y_cond_false rfl ?_) | (refine is_exit ?_; refine y_exit _ rfl ?_) | refine y_label ?_) | refine yl_nil ?_ | refine y_blk ?_ | (refine is_lg ?_; first | refine yl_guard_yes rfl ?_ | refine yl_guard_no rfl rfl rfl ?_) | (refine is_fv ?_; first | refine yf_pure tabOk rfl rfl rfl ?_ | (refine yf_isload ?_; first | refine yf_loadB tabOk rfl rfl rfl (by assumption) (by first | assumption | simp) (by rfl) ?_ | refine yf_loadAB tabOk rfl rfl rfl (by assumption) (by first | assumption | simp) (by rfl) (by rfl) ?_)) | refine yf_nil ?_ | (refine is_fg ?_; first | refine yf_guard_yes rfl ?_ | refine yf_guard_no rfl rfl rfl ?_))
    refine y_loop (fun m le wr => ∃ (rl : List Bool) (o9 : Value) (q : Nat), rl.length ≤ 8 ∧ m = 8 - rl.length ∧ le = [(0, .slice a nb cap), (1, .int .i64 which), (5, .pointer (some ⟨Bd, 0, none⟩)), (6, o6), (7, o7), (8, .int .i64 l.length), (9, o9), (10, .int .i64 (hitsOf rl)), (30, .int .i64 nN), (31, .int .i64 l.length)] ∧
        (∀ i, i < rl.length → hitsOf (rl.take i) < 5) ∧ wr.ownsRow Bd 4 1 o9 rl.length (bools rl) ∧ wr.ownsRow Bd 3 1 o6 l.length (ints l) ∧ wr.ownsRow Bd 38 4 o7 l.length (cellsOf (shs (shF l))) ∧ Chg [] w wr ∧ Deck wr Bd q ∧ q ≤ 1 + 8 * l.length + rl.length) (m := 8)
      ⟨[], _, q, by simp, by simp, rfl, by simp, own_nil _ _ _ _, hown6, hown7, hcw, hd, by simpa using hq⟩ ⟨rfl, rfl, rfl, rfl, rfl, rfl, rfl, rfl, rfl, rfl, trivial⟩ ?_
    clear hown6 hown7 hcw hd hq q
    rintro m le wr ⟨rl, o9, q, hrl, rfl, rfl, hh, hown9, hown6, hown7, hcw, hd, hq⟩ K' hK'
    have hhits : hitsOf rl ≤ 5 := by
      by_cases h0 : rl.length = 0
      · rw [List.length_eq_zero_iff.1 h0]; simp [hitsOf]
      · have h4 := hh (rl.length - 1) (by omega)
        have h5 := hits_step rl (rl.length - 1) (by omega)
        rw [show rl.length - 1 + 1 = rl.length from by omega, List.take_length] at h5
        split at h5 <;> omega
    have ho9l : ∃ a9 cap9, o9 = .slice a9 rl.length cap9 := by
      obtain ⟨a9, cap9, h, _⟩ := (own_rd hown9).out
      exact ⟨a9, cap9, h⟩
    obtain ⟨a9, cap9, rfl⟩ := ho9l
    repeat (first | (refine is_lv ?_; first | refine yl_pure tabOk rfl rfl ?_ | (refine yl_isload ?_; first | refine yl_loadB tabOk rfl rfl rfl (by assumption) (by rfl) ?_ | refine yl_loadAB tabOk rfl rfl rfl (by assumption) (by rfl) (by rfl) ?_)) | (refine is_c ?_; first | refine y_seq ?_ | refine y_region ?_ | refine y_skip ?_ | refine y_block ?_ | refine y_ret ?_ | (refine is_cond ?_; first | refine y_cond_true rfl ?_ | refine y_cond_false rfl ?_) | (refine is_exit ?_; refine y_exit _ rfl ?_) | refine y_label ?_) | refine yl_nil ?_ | refine y_blk ?_ | (refine is_lg ?_; first | refine yl_guard_yes rfl ?_ | refine yl_guard_no rfl rfl rfl ?_) | (refine is_fv ?_; first | refine yf_pure tabOk rfl rfl rfl ?_ | (refine yf_isload ?_; first | refine yf_loadB tabOk rfl rfl rfl (by assumption) (by first | assumption | simp) (by rfl) ?_ | refine yf_loadAB tabOk rfl rfl rfl (by assumption) (by first | assumption | simp) (by rfl) (by rfl) ?_)) | refine yf_nil ?_ | (refine is_fg ?_; first | refine yf_guard_yes rfl ?_ | refine yf_guard_no rfl rfl rfl ?_))
    by_cases hgo : rl.length < 8 ∧ hitsOf rl < 5
    · obtain ⟨hgo1, hgo2⟩ := hgo
      (first | (refine is_cond ?_; first | refine y_if rfl (fun hc => ?_) (fun hc => ?_) | refine y_ifn rfl (fun hc => ?_) (fun hc => ?_) | refine y_cond rfl (fun hc => ?_) (fun hc => ?_)) | (refine is_lg ?_; refine yl_split rfl rfl (fun hc => ?_) (fun hc => ?_)) | (refine is_fg ?_; refine yf_split rfl rfl (fun hc => ?_) (fun hc => ?_)))
      · repeat (first | (refine is_lv ?_; first | refine yl_pure tabOk rfl rfl ?_ | (refine yl_isload ?_; first | refine yl_loadB tabOk rfl rfl rfl (by assumption) (by rfl) ?_ | refine yl_loadAB tabOk rfl rfl rfl (by assumption) (by rfl) (by rfl) ?_)) | (refine is_c ?_; first | refine y_seq ?_ | refine y_region ?_ | refine y_skip ?_ | refine y_block ?_ | refine y_ret ?_ | (refine is_cond ?_; first | refine y_cond_true rfl ?_ | refine y_cond_false rfl ?_) | (refine is_exit ?_; refine y_exit _ rfl ?_) | refine y_label ?_) | refine yl_nil ?_ | refine y_blk ?_ | (refine is_lg ?_; first | refine yl_guard_yes rfl ?_ | refine yl_guard_no rfl rfl rfl ?_) | (refine is_fv ?_; first | refine yf_pure tabOk rfl rfl rfl ?_ | (refine yf_isload ?_; first | refine yf_loadB tabOk rfl rfl rfl (by assumption) (by first | assumption | simp) (by rfl) ?_ | refine yf_loadAB tabOk rfl rfl rfl (by assumption) (by first | assumption | simp) (by rfl) (by rfl) ?_)) | refine yf_nil ?_ | (refine is_fg ?_; first | refine yf_guard_yes rfl ?_ | refine yf_guard_no rfl rfl rfl ?_))
        refine y_if rfl (fun _ => ?_) (fun hno => ?_)
        · repeat (first | (refine is_lv ?_; first | refine yl_pure tabOk rfl rfl ?_ | (refine yl_isload ?_; first | refine yl_loadB tabOk rfl rfl rfl (by assumption) (by rfl) ?_ | refine yl_loadAB tabOk rfl rfl rfl (by assumption) (by rfl) (by rfl) ?_)) | (refine is_c ?_; first | refine y_seq ?_ | refine y_region ?_ | refine y_skip ?_ | refine y_block ?_ | refine y_ret ?_ | (refine is_cond ?_; first | refine y_cond_true rfl ?_ | refine y_cond_false rfl ?_) | (refine is_exit ?_; refine y_exit _ rfl ?_) | refine y_label ?_) | refine yl_nil ?_ | refine y_blk ?_ | (refine is_lg ?_; first | refine yl_guard_yes rfl ?_ | refine yl_guard_no rfl rfl rfl ?_) | (refine is_fv ?_; first | refine yf_pure tabOk rfl rfl rfl ?_ | (refine yf_isload ?_; first | refine yf_loadB tabOk rfl rfl rfl (by assumption) (by first | assumption | simp) (by rfl) ?_ | refine yf_loadAB tabOk rfl rfl rfl (by assumption) (by first | assumption | simp) (by rfl) (by rfl) ?_)) | refine yf_nil ?_ | (refine is_fg ?_; first | refine yf_guard_yes rfl ?_ | refine yf_guard_no rfl rfl rfl ?_))
          refine yl_call tabOk rfl rfl rfl rfl (coin_ca 2 q (by omega) wr Bd hd) ?_
          rintro _ w3 ⟨hit, rfl, hc3, hs3, hd3⟩
          have hb3 : ∀ {base e sz n xs} {u : Value}, wr.ownsRow base e sz u n xs → e ≠ 55 → w3.ownsRow base e sz u n xs := fun {base e sz n xs u} h hne => own_chg h hc3 (by
            intro g hg hg'
            obtain ⟨bs, nb', cs', next, st, hblk, _⟩ := hd
            simp at hg'
            subst hg'
            exact own_ne h hblk (fun e => hne e.symm) hg)
          have hown9 := hb3 hown9 (by decide)
          have hown6 := hb3 hown6 (by decide)
          have hown7 := hb3 hown7 (by decide)
          have hc03 := hcw.up hc3 (by simp; omega)
          repeat (first | (refine is_lv ?_; first | refine yl_pure tabOk rfl rfl ?_ | (refine yl_isload ?_; first | refine yl_loadB tabOk rfl rfl rfl (by assumption) (by rfl) ?_ | refine yl_loadAB tabOk rfl rfl rfl (by assumption) (by rfl) (by rfl) ?_)) | (refine is_c ?_; first | refine y_seq ?_ | refine y_region ?_ | refine y_skip ?_ | refine y_block ?_ | refine y_ret ?_ | (refine is_cond ?_; first | refine y_cond_true rfl ?_ | refine y_cond_false rfl ?_) | (refine is_exit ?_; refine y_exit _ rfl ?_) | refine y_label ?_) | refine yl_nil ?_ | refine y_blk ?_ | (refine is_lg ?_; first | refine yl_guard_yes rfl ?_ | refine yl_guard_no rfl rfl rfl ?_) | (refine is_fv ?_; first | refine yf_pure tabOk rfl rfl rfl ?_ | (refine yf_isload ?_; first | refine yf_loadB tabOk rfl rfl rfl (by assumption) (by first | assumption | simp) (by rfl) ?_ | refine yf_loadAB tabOk rfl rfl rfl (by assumption) (by first | assumption | simp) (by rfl) (by rfl) ?_)) | refine yf_nil ?_ | (refine is_fg ?_; first | refine yf_guard_yes rfl ?_ | refine yf_guard_no rfl rfl rfl ?_))
          refine yl_mkS 4 [.bool hit] rfl (by kernel_rfl) rfl (fun w4 hc4 hs4 hb4 => ?_)
          have hown9 := own_chg hown9 hc4 (by simp)
          have hown6 := own_chg hown6 hc4 (by simp)
          have hown7 := own_chg hown7 hc4 (by simp)
          have hd4 := hd3.keep hc4
          refine yl_append sl28 rfl rfl rfl hown9 (blk_rd hb4 (m := 1) rfl) (by simp [oneV]) (by omega) (by omega) (by have := hc03.size; have := hc4.size; omega) (fun o' w5 ho5 hc5 _ => ?_)
          have hcN := own_chg_base hown9 (show w.heap.size ≤ Bd by omega)
          have hown6 := own_chg hown6 hc5 (own_own hown6 hown9 (by decide))
          have hown7 := own_chg hown7 hc5 (own_own hown7 hown9 (by decide))
          have hc05 := (hc03.trans hc4).up hc5 hcN
          have hd5 : Deck w5 Bd (q + 1) := by
            obtain ⟨bs, nb', cs', next, st, hblk, hrd', hrest⟩ := hd4
            exact ⟨bs, nb', cs', next, st, hblk.chg hc5 (own_blk_ne hown9 hblk (by decide)), hrd'.chg hc5 (fun k hk => .inr (by
              rcases hown9.2 with ⟨h, _⟩ | ⟨g, _, _, h, hg, _⟩
              · rw [h] at hk; simp [Value.ownBlock] at hk
              · rw [h] at hk; simp [Value.ownBlock] at hk; omega)), hrest⟩
          have hh' : ∀ i, i < (rl ++ [hit]).length → hitsOf ((rl ++ [hit]).take i) < 5 := fun i hi => by
            simp at hi
            by_cases h : i < rl.length
            · rw [List.take_append_of_le_length (by omega)]
              exact hh i h
            · obtain rfl : i = rl.length := by omega
              rw [List.take_append_of_le_length (Nat.le_refl _), List.take_length]
              exact hgo2
          have ho5' : w5.ownsRow Bd 4 1 o' (rl ++ [hit]).length (bools (rl ++ [hit])) := by
            rw [List.length_append, bools, List.map_append]
            exact ho5
          have hits' : hitsOf (rl ++ [hit]) = hitsOf rl + (if hit then 1 else 0) := by
            cases hit <;> simp [hitsOf]
          repeat (first | (refine is_lv ?_; first | refine yl_pure tabOk rfl rfl ?_ | (refine yl_isload ?_; first | refine yl_loadB tabOk rfl rfl rfl (by assumption) (by rfl) ?_ | refine yl_loadAB tabOk rfl rfl rfl (by assumption) (by rfl) (by rfl) ?_)) | (refine is_c ?_; first | refine y_seq ?_ | refine y_region ?_ | refine y_skip ?_ | refine y_block ?_ | refine y_ret ?_ | (refine is_cond ?_; first | refine y_cond_true rfl ?_ | refine y_cond_false rfl ?_) | (refine is_exit ?_; refine y_exit _ rfl ?_) | refine y_label ?_) | refine yl_nil ?_ | refine y_blk ?_ | (refine is_lg ?_; first | refine yl_guard_yes rfl ?_ | refine yl_guard_no rfl rfl rfl ?_) | (refine is_fv ?_; first | refine yf_pure tabOk rfl rfl rfl ?_ | (refine yf_isload ?_; first | refine yf_loadB tabOk rfl rfl rfl (by assumption) (by first | assumption | simp) (by rfl) ?_ | refine yf_loadAB tabOk rfl rfl rfl (by assumption) (by first | assumption | simp) (by rfl) (by rfl) ?_)) | refine yf_nil ?_ | (refine is_fg ?_; first | refine yf_guard_yes rfl ?_ | refine yf_guard_no rfl rfl rfl ?_))
          refine y_cond rfl (fun hht => ?_) (fun hht => ?_)
          · subst hht
            repeat (first | (refine is_lv ?_; first | refine yl_pure tabOk rfl rfl ?_ | (refine yl_isload ?_; first | refine yl_loadB tabOk rfl rfl rfl (by assumption) (by rfl) ?_ | refine yl_loadAB tabOk rfl rfl rfl (by assumption) (by rfl) (by rfl) ?_)) | (refine is_c ?_; first | refine y_seq ?_ | refine y_region ?_ | refine y_skip ?_ | refine y_block ?_ | refine y_ret ?_ | (refine is_cond ?_; first | refine y_cond_true rfl ?_ | refine y_cond_false rfl ?_) | (refine is_exit ?_; refine y_exit _ rfl ?_) | refine y_label ?_) | refine yl_nil ?_ | refine y_blk ?_ | (refine is_lg ?_; first | refine yl_guard_yes rfl ?_ | refine yl_guard_no rfl rfl rfl ?_) | (refine is_fv ?_; first | refine yf_pure tabOk rfl rfl rfl ?_ | (refine yf_isload ?_; first | refine yf_loadB tabOk rfl rfl rfl (by assumption) (by first | assumption | simp) (by rfl) ?_ | refine yf_loadAB tabOk rfl rfl rfl (by assumption) (by first | assumption | simp) (by rfl) (by rfl) ?_)) | refine yf_nil ?_ | (refine is_fg ?_; first | refine yf_guard_yes rfl ?_ | refine yf_guard_no rfl rfl rfl ?_))
            refine y_k (hK' _ _ _ _ ⟨rl ++ [true], o', q + 1, by simp; omega, rfl, rfl, hh', ho5', hown6, hown7, hc05, hd5, by simp; omega⟩ (by simp; omega) ⟨rfl, rfl, rfl, rfl, rfl, rfl, rfl, ?_, rfl, rfl, trivial⟩)
            show some (Value.int _ (IntKind.i64.wrap (↑(hitsOf rl) + 1))) = _
            rw [w64 (by omega) (by omega), hits']
            rfl
          · subst hht
            repeat (first | (refine is_lv ?_; first | refine yl_pure tabOk rfl rfl ?_ | (refine yl_isload ?_; first | refine yl_loadB tabOk rfl rfl rfl (by assumption) (by rfl) ?_ | refine yl_loadAB tabOk rfl rfl rfl (by assumption) (by rfl) (by rfl) ?_)) | (refine is_c ?_; first | refine y_seq ?_ | refine y_region ?_ | refine y_skip ?_ | refine y_block ?_ | refine y_ret ?_ | (refine is_cond ?_; first | refine y_cond_true rfl ?_ | refine y_cond_false rfl ?_) | (refine is_exit ?_; refine y_exit _ rfl ?_) | refine y_label ?_) | refine yl_nil ?_ | refine y_blk ?_ | (refine is_lg ?_; first | refine yl_guard_yes rfl ?_ | refine yl_guard_no rfl rfl rfl ?_) | (refine is_fv ?_; first | refine yf_pure tabOk rfl rfl rfl ?_ | (refine yf_isload ?_; first | refine yf_loadB tabOk rfl rfl rfl (by assumption) (by first | assumption | simp) (by rfl) ?_ | refine yf_loadAB tabOk rfl rfl rfl (by assumption) (by first | assumption | simp) (by rfl) (by rfl) ?_)) | refine yf_nil ?_ | (refine is_fg ?_; first | refine yf_guard_yes rfl ?_ | refine yf_guard_no rfl rfl rfl ?_))
            refine y_k (hK' _ _ _ _ ⟨rl ++ [false], o', q + 1, by simp; omega, rfl, rfl, hh', ho5', hown6, hown7, hc05, hd5, by simp; omega⟩ (by simp; omega) ⟨rfl, rfl, rfl, rfl, rfl, rfl, rfl, ?_, rfl, rfl, trivial⟩)
            show some (Value.int _ (↑(hitsOf rl))) = _
            rw [hits']
            rfl
        · omega
      · simp at hc
        omega
    · have hend : rl.length = 8 ∨ hitsOf rl = 5 := by omega
      have hle : hitsOf rl ≤ rl.length := List.count_le_length
      have hwl : Bd ≤ wr.heap.size := by have := hcw.size; omega
      clear hK'
      (first | (refine is_cond ?_; first | refine y_if rfl (fun hc => ?_) (fun hc => ?_) | refine y_ifn rfl (fun hc => ?_) (fun hc => ?_) | refine y_cond rfl (fun hc => ?_) (fun hc => ?_)) | (refine is_lg ?_; refine yl_split rfl rfl (fun hc => ?_) (fun hc => ?_)) | (refine is_fg ?_; refine yf_split rfl rfl (fun hc => ?_) (fun hc => ?_)))
      case' neg.refine_1 =>
        repeat (first | (refine is_lv ?_; first | refine yl_pure tabOk rfl rfl ?_ | (refine yl_isload ?_; first | refine yl_loadB tabOk rfl rfl rfl (by assumption) (by rfl) ?_ | refine yl_loadAB tabOk rfl rfl rfl (by assumption) (by rfl) (by rfl) ?_)) | (refine is_c ?_; first | refine y_seq ?_ | refine y_region ?_ | refine y_skip ?_ | refine y_block ?_ | refine y_ret ?_ | (refine is_cond ?_; first | refine y_cond_true rfl ?_ | refine y_cond_false rfl ?_) | (refine is_exit ?_; refine y_exit _ rfl ?_) | refine y_label ?_) | refine yl_nil ?_ | refine y_blk ?_ | (refine is_lg ?_; first | refine yl_guard_yes rfl ?_ | refine yl_guard_no rfl rfl rfl ?_) | (refine is_fv ?_; first | refine yf_pure tabOk rfl rfl rfl ?_ | (refine yf_isload ?_; first | refine yf_loadB tabOk rfl rfl rfl (by assumption) (by first | assumption | simp) (by rfl) ?_ | refine yf_loadAB tabOk rfl rfl rfl (by assumption) (by first | assumption | simp) (by rfl) (by rfl) ?_)) | refine yf_nil ?_ | (refine is_fg ?_; first | refine yf_guard_yes rfl ?_ | refine yf_guard_no rfl rfl rfl ?_))
        refine y_if rfl (fun h => ?_) (fun _ => ?_)
        · simp at hc
          omega
      all_goals
        repeat (first | (refine is_lv ?_; first | refine yl_pure tabOk rfl rfl ?_ | (refine yl_isload ?_; first | refine yl_loadB tabOk rfl rfl rfl (by assumption) (by rfl) ?_ | refine yl_loadAB tabOk rfl rfl rfl (by assumption) (by rfl) (by rfl) ?_)) | (refine is_c ?_; first | refine y_seq ?_ | refine y_region ?_ | refine y_skip ?_ | refine y_block ?_ | refine y_ret ?_ | (refine is_cond ?_; first | refine y_cond_true rfl ?_ | refine y_cond_false rfl ?_) | (refine is_exit ?_; refine y_exit _ rfl ?_) | refine y_label ?_) | refine yl_nil ?_ | refine y_blk ?_ | (refine is_lg ?_; first | refine yl_guard_yes rfl ?_ | refine yl_guard_no rfl rfl rfl ?_) | (refine is_fv ?_; first | refine yf_pure tabOk rfl rfl rfl ?_ | (refine yf_isload ?_; first | refine yf_loadB tabOk rfl rfl rfl (by assumption) (by first | assumption | simp) (by rfl) ?_ | refine yf_loadAB tabOk rfl rfl rfl (by assumption) (by first | assumption | simp) (by rfl) (by rfl) ?_)) | refine yf_nil ?_ | (refine is_fg ?_; first | refine yf_guard_yes rfl ?_ | refine yf_guard_no rfl rfl rfl ?_))
        refine y_keep [(0, .slice a nb cap), (1, .int .i64 which), (5, .pointer (some ⟨Bd, 0, none⟩)), (6, o6), (7, o7), (8, .int .i64 l.length), (9, .slice a9 rl.length cap9), (30, .int .i64 nN), (31, .int .i64 l.length), (52, .bool (decide ((rl.length : Int) < 5)))] ⟨rfl, rfl, rfl, rfl, rfl, rfl, rfl, rfl, rfl, rfl, trivial⟩ ?_
        clear hc
        refine y_if rfl (fun h => ?_) (fun _ => ?_)
        · omega
        have hun : (if hitsOf rl < 5 then (8 : Int) - rl.length else 0) = 0 := by split <;> omega
        repeat (first | (refine is_lv ?_; first | refine yl_pure tabOk rfl rfl ?_ | (refine yl_isload ?_; first | refine yl_loadB tabOk rfl rfl rfl (by assumption) (by rfl) ?_ | refine yl_loadAB tabOk rfl rfl rfl (by assumption) (by rfl) (by rfl) ?_)) | (refine is_c ?_; first | refine y_seq ?_ | refine y_region ?_ | refine y_skip ?_ | refine y_block ?_ | refine y_ret ?_ | (refine is_cond ?_; first | refine y_cond_true rfl ?_ | refine y_cond_false rfl ?_) | (refine is_exit ?_; refine y_exit _ rfl ?_) | refine y_label ?_) | refine yl_nil ?_ | refine y_blk ?_ | (refine is_lg ?_; first | refine yl_guard_yes rfl ?_ | refine yl_guard_no rfl rfl rfl ?_) | (refine is_fv ?_; first | refine yf_pure tabOk rfl rfl rfl ?_ | (refine yf_isload ?_; first | refine yf_loadB tabOk rfl rfl rfl (by assumption) (by first | assumption | simp) (by rfl) ?_ | refine yf_loadAB tabOk rfl rfl rfl (by assumption) (by first | assumption | simp) (by rfl) (by rfl) ?_)) | refine yf_nil ?_ | (refine is_fg ?_; first | refine yf_guard_yes rfl ?_ | refine yf_guard_no rfl rfl rfl ?_))
        refine yl_call tabOk rfl rfl rfl rfl (shot_ca wr Bd wr.heap.size _ rl (RdB.of (own_rd hown9)) (by omega) (by omega) hh) ?_
        rintro _ w3 ⟨rfl, hc3⟩
        rw [hun]
        repeat (first | (refine is_lv ?_; first | refine yl_pure tabOk rfl rfl ?_ | (refine yl_isload ?_; first | refine yl_loadB tabOk rfl rfl rfl (by assumption) (by rfl) ?_ | refine yl_loadAB tabOk rfl rfl rfl (by assumption) (by rfl) (by rfl) ?_)) | (refine is_c ?_; first | refine y_seq ?_ | refine y_region ?_ | refine y_skip ?_ | refine y_block ?_ | refine y_ret ?_ | (refine is_cond ?_; first | refine y_cond_true rfl ?_ | refine y_cond_false rfl ?_) | (refine is_exit ?_; refine y_exit _ rfl ?_) | refine y_label ?_) | refine yl_nil ?_ | refine y_blk ?_ | (refine is_lg ?_; first | refine yl_guard_yes rfl ?_ | refine yl_guard_no rfl rfl rfl ?_) | (refine is_fv ?_; first | refine yf_pure tabOk rfl rfl rfl ?_ | (refine yf_isload ?_; first | refine yf_loadB tabOk rfl rfl rfl (by assumption) (by first | assumption | simp) (by rfl) ?_ | refine yf_loadAB tabOk rfl rfl rfl (by assumption) (by first | assumption | simp) (by rfl) (by rfl) ?_)) | refine yf_nil ?_ | (refine is_fg ?_; first | refine yf_guard_yes rfl ?_ | refine yf_guard_no rfl rfl rfl ?_))
        refine yl_alloc (z := .agg #[.int .i64 0, .int .i64 0, .int .i64 0]) (by kernel_rfl) rfl (fun w4 hc4 hs4 hb4 => ?_)
        refine yl_storeA tabOk (us := [.int .i64 ((rl.length : Int) - 5), .int .i64 (5 - hitsOf rl), .int .i64 0]) rfl rfl rfl rfl (by simp [oneV]) hb4 (by simp [Value.cells]) (fun w5 hc5 hs5 hb5 => ?_)
        have hc05 := (hc3.trans hc4).up1 hc5 (by have := hc3.size; omega)
        have hb5 : Blk w5 w3.heap.size [.int .i64 ((rl.length : Int) - 5), .int .i64 (5 - hitsOf rl), .int .i64 0] 31 := hb5
        have hown6 := own_chg hown6 hc05 (by simp)
        have hown7 := own_chg hown7 hc05 (by simp)
        have hd5 := hd.keep hc05
        clear hb4
        repeat (first | (refine is_lv ?_; first | refine yl_pure tabOk rfl rfl ?_ | (refine yl_isload ?_; first | refine yl_loadB tabOk rfl rfl rfl (by assumption) (by rfl) ?_ | refine yl_loadAB tabOk rfl rfl rfl (by assumption) (by rfl) (by rfl) ?_)) | (refine is_c ?_; first | refine y_seq ?_ | refine y_region ?_ | refine y_skip ?_ | refine y_block ?_ | refine y_ret ?_ | (refine is_cond ?_; first | refine y_cond_true rfl ?_ | refine y_cond_false rfl ?_) | (refine is_exit ?_; refine y_exit _ rfl ?_) | refine y_label ?_) | refine yl_nil ?_ | refine y_blk ?_ | (refine is_lg ?_; first | refine yl_guard_yes rfl ?_ | refine yl_guard_no rfl rfl rfl ?_) | (refine is_fv ?_; first | refine yf_pure tabOk rfl rfl rfl ?_ | (refine yf_isload ?_; first | refine yf_loadB tabOk rfl rfl rfl (by assumption) (by first | assumption | simp) (by rfl) ?_ | refine yf_loadAB tabOk rfl rfl rfl (by assumption) (by first | assumption | simp) (by rfl) (by rfl) ?_)) | refine yf_nil ?_ | (refine is_fg ?_; first | refine yf_guard_yes rfl ?_ | refine yf_guard_no rfl rfl rfl ?_))
        generalize hx : (5 : Int) - hitsOf rl = x at hb5
        have hx0 : 0 ≤ x ∧ x ≤ 5 := by omega
        refine yl_mkS 3 [.int .i64 x] rfl (by kernel_rfl) rfl (fun w6 hc6 hs6 hb6 => ?_)
        have hown6 := own_chg hown6 hc6 (by simp)
        have hown7 := own_chg hown7 hc6 (by simp)
        have hd6 := hd5.keep hc6
        have hb56 := hb5.keep hc6
        have hc06 := hc05.trans hc6
        have hll8 : l.length < 5 := by omega
        refine yl_append sl25 rfl rfl rfl hown6 (blk_rd hb6 (m := 1) rfl) (by simp [oneV]) (by omega) (by omega) (by have := hc06.size; omega) (fun o6' w7 ho6 hc7 _ => ?_)
        have hcN6 := own_chg_base hown6 (show w.heap.size ≤ Bd by omega)
        have hown7 := own_chg hown7 hc7 (own_own hown7 hown6 (by decide))
        have hb57 := hb56.chg hc7 (own_blk_ne hown6 hb56 (by decide))
        have hd7 : Deck w7 Bd q := by
          obtain ⟨bs, nb', cs', next, st, hblk, hrd', hrest⟩ := hd6
          exact ⟨bs, nb', cs', next, st, hblk.chg hc7 (own_blk_ne hown6 hblk (by decide)), hrd'.chg hc7 (fun k hk => .inr (by
            rcases hown6.2 with ⟨h, _⟩ | ⟨g, _, _, h, hg, _⟩
            · rw [h] at hk; simp [Value.ownBlock] at hk
            · rw [h] at hk; simp [Value.ownBlock] at hk; omega)), hrest⟩
        have hc07 := (hcw.trans hc06).up hc7 hcN6
        repeat (first | (refine is_lv ?_; first | refine yl_pure tabOk rfl rfl ?_ | (refine yl_isload ?_; first | refine yl_loadB tabOk rfl rfl rfl (by assumption) (by rfl) ?_ | refine yl_loadAB tabOk rfl rfl rfl (by assumption) (by rfl) (by rfl) ?_)) | (refine is_c ?_; first | refine y_seq ?_ | refine y_region ?_ | refine y_skip ?_ | refine y_block ?_ | refine y_ret ?_ | (refine is_cond ?_; first | refine y_cond_true rfl ?_ | refine y_cond_false rfl ?_) | (refine is_exit ?_; refine y_exit _ rfl ?_) | refine y_label ?_) | refine yl_nil ?_ | refine y_blk ?_ | (refine is_lg ?_; first | refine yl_guard_yes rfl ?_ | refine yl_guard_no rfl rfl rfl ?_) | (refine is_fv ?_; first | refine yf_pure tabOk rfl rfl rfl ?_ | (refine yf_isload ?_; first | refine yf_loadB tabOk rfl rfl rfl (by assumption) (by first | assumption | simp) (by rfl) ?_ | refine yf_loadAB tabOk rfl rfl rfl (by assumption) (by first | assumption | simp) (by rfl) (by rfl) ?_)) | refine yf_nil ?_ | (refine is_fg ?_; first | refine yf_guard_yes rfl ?_ | refine yf_guard_no rfl rfl rfl ?_))
        refine yl_mk #[.int .i64 x, .int .i64 x] rfl (by kernel_rfl) rfl ?_
        refine yl_mk #[.int .i64 l.length, .int .i64 l.length, .int .i64 x, .int .i64 x] rfl (by kernel_rfl) rfl ?_
        refine yl_mkS 38 [.int .i64 l.length, .int .i64 l.length, .int .i64 x, .int .i64 x] rfl (by kernel_rfl) rfl (fun w8 hc8 hs8 hb8 => ?_)
        have ho6 := own_chg ho6 hc8 (by simp)
        have hown7 := own_chg hown7 hc8 (by simp)
        have hd8 := hd7.keep hc8
        have hc08 := hc07.trans hc8
        refine yl_append sl26 rfl rfl rfl hown7 (blk_rd hb8 (m := 1) rfl) (by simp [oneV]) (by omega) (by omega) (by have := hc08.size; omega) (fun o7' w9 ho7 hc9 _ => ?_)
        have hcN7 := own_chg_base hown7 (show w.heap.size ≤ Bd by omega)
        have ho6 := own_chg ho6 hc9 (own_own ho6 hown7 (by decide))
        have hd9 : Deck w9 Bd q := by
          obtain ⟨bs, nb', cs', next, st, hblk, hrd', hrest⟩ := hd8
          exact ⟨bs, nb', cs', next, st, hblk.chg hc9 (own_blk_ne hown7 hblk (by decide)), hrd'.chg hc9 (fun k hk => .inr (by
            rcases hown7.2 with ⟨h, _⟩ | ⟨g, _, _, h, hg, _⟩
            · rw [h] at hk; simp [Value.ownBlock] at hk
            · rw [h] at hk; simp [Value.ownBlock] at hk; omega)), hrest⟩
        have hc09 := hc08.up hc9 hcN7
        repeat (first | (refine is_lv ?_; first | refine yl_pure tabOk rfl rfl ?_ | (refine yl_isload ?_; first | refine yl_loadB tabOk rfl rfl rfl (by assumption) (by rfl) ?_ | refine yl_loadAB tabOk rfl rfl rfl (by assumption) (by rfl) (by rfl) ?_)) | (refine is_c ?_; first | refine y_seq ?_ | refine y_region ?_ | refine y_skip ?_ | refine y_block ?_ | refine y_ret ?_ | (refine is_cond ?_; first | refine y_cond_true rfl ?_ | refine y_cond_false rfl ?_) | (refine is_exit ?_; refine y_exit _ rfl ?_) | refine y_label ?_) | refine yl_nil ?_ | refine y_blk ?_ | (refine is_lg ?_; first | refine yl_guard_yes rfl ?_ | refine yl_guard_no rfl rfl rfl ?_) | (refine is_fv ?_; first | refine yf_pure tabOk rfl rfl rfl ?_ | (refine yf_isload ?_; first | refine yf_loadB tabOk rfl rfl rfl (by assumption) (by first | assumption | simp) (by rfl) ?_ | refine yf_loadAB tabOk rfl rfl rfl (by assumption) (by first | assumption | simp) (by rfl) (by rfl) ?_)) | refine yf_nil ?_ | (refine is_fg ?_; first | refine yf_guard_yes rfl ?_ | refine yf_guard_no rfl rfl rfl ?_))
        refine y_k (hK _ _ _ _ ⟨l ++ [x], o6', o7', q, by simp; omega, rfl, rfl, fun y hy => ?_, ?_, ?_, hc09, hd9, by simp; omega⟩ (by simp; omega) ⟨rfl, rfl, rfl, rfl, rfl, rfl, ?_, trivial⟩)
        · rcases List.mem_append.1 hy with h | h
          · exact hl y h
          · rw [List.mem_singleton.1 h]; exact hx0
        · rw [List.length_append, ints, List.map_append]
          exact ho6
        · rw [List.length_append, cellsOf_shs_snoc]
          exact ho7
        · show some (Value.int _ (IntKind.i64.wrap (↑l.length + 1))) = _
          rw [w64 (by omega) (by omega), List.length_append]
          rfl
  have hn1 : 1 ≤ l.length := by omega
  have hn5 : l.length ≤ 5 := by omega
  clear hK
  have hne6 : ∃ a6 c6, o6 = .slice a6 l.length c6 := by
    obtain ⟨a6, c6, h, _⟩ := (own_rd hown6).out
    exact ⟨a6, c6, h⟩
  obtain ⟨a6, c6, rfl⟩ := hne6
  have hne7 : ∃ a7 c7, o7 = .slice a7 l.length c7 := by
    obtain ⟨a7, c7, h, _⟩ := (own_rd hown7).out
    exact ⟨a7, c7, h⟩
  obtain ⟨a7, c7, rfl⟩ := hne7
  have hI : RdI wr Bd wr.heap.size (.slice a6 l.length c6) l := RdI.of (own_rd hown6)
  have hS : RdE wr Bd wr.heap.size (.slice a7 l.length c7) 4 (shs (shF l)) := own_shs (by rw [shF_length]; exact hown7)
  have hR : Right l (shF l) := right_of hn1 (by omega) hl rfl hl (shF_of l) (by rw [shF_length]; omega)
  have hpot : Pot l.length (linksOf l.length (shF l) l) (psum l) := pot_sum (by omega) hl (shF_of l) (fun i x hx => by
    obtain ⟨hi, rfl⟩ := List.getElem?_eq_some_iff.1 hx
    exact ⟨hi, Int.le_refl _⟩)
  have hpot0 : Pot l.length (linksOf l.length (shF l) []) (psum l) := pot_sum (by omega) hl (shF_of l) (fun i x hx => by simp at hx)
  clear hown6 hown7
  generalize hB1 : wr.heap.size = B1 at *
  repeat (first | (refine is_lv ?_; first | refine yl_pure tabOk rfl rfl ?_ | (refine yl_isload ?_; first | refine yl_loadB tabOk rfl rfl rfl (by assumption) (by rfl) ?_ | refine yl_loadAB tabOk rfl rfl rfl (by assumption) (by rfl) (by rfl) ?_)) | (refine is_c ?_; first | refine y_seq ?_ | refine y_region ?_ | refine y_skip ?_ | refine y_block ?_ | refine y_ret ?_ | (refine is_cond ?_; first | refine y_cond_true rfl ?_ | refine y_cond_false rfl ?_) | (refine is_exit ?_; refine y_exit _ rfl ?_) | refine y_label ?_) | refine yl_nil ?_ | refine y_blk ?_ | (refine is_lg ?_; first | refine yl_guard_yes rfl ?_ | refine yl_guard_no rfl rfl rfl ?_) | (refine is_fv ?_; first | refine yf_pure tabOk rfl rfl rfl ?_ | (refine yf_isload ?_; first | refine yf_loadB tabOk rfl rfl rfl (by assumption) (by first | assumption | simp) (by rfl) ?_ | refine yf_loadAB tabOk rfl rfl rfl (by assumption) (by first | assumption | simp) (by rfl) (by rfl) ?_)) | refine yf_nil ?_ | (refine is_fg ?_; first | refine yf_guard_yes rfl ?_ | refine yf_guard_no rfl rfl rfl ?_))
  refine yl_call tabOk rfl rfl rfl rfl (few_ca wr _ _ _ _ _ _ l (shF l) hI hS hR) ?_
  rintro _ w1 ⟨rfl, hc1⟩
  rw [fewB_pot hR hpot]
  repeat (first | (refine is_lv ?_; first | refine yl_pure tabOk rfl rfl ?_ | (refine yl_isload ?_; first | refine yl_loadB tabOk rfl rfl rfl (by assumption) (by rfl) ?_ | refine yl_loadAB tabOk rfl rfl rfl (by assumption) (by rfl) (by rfl) ?_)) | (refine is_c ?_; first | refine y_seq ?_ | refine y_region ?_ | refine y_skip ?_ | refine y_block ?_ | refine y_ret ?_ | (refine is_cond ?_; first | refine y_cond_true rfl ?_ | refine y_cond_false rfl ?_) | (refine is_exit ?_; refine y_exit _ rfl ?_) | refine y_label ?_) | refine yl_nil ?_ | refine y_blk ?_ | (refine is_lg ?_; first | refine yl_guard_yes rfl ?_ | refine yl_guard_no rfl rfl rfl ?_) | (refine is_fv ?_; first | refine yf_pure tabOk rfl rfl rfl ?_ | (refine yf_isload ?_; first | refine yf_loadB tabOk rfl rfl rfl (by assumption) (by first | assumption | simp) (by rfl) ?_ | refine yf_loadAB tabOk rfl rfl rfl (by assumption) (by first | assumption | simp) (by rfl) (by rfl) ?_)) | refine yf_nil ?_ | (refine is_fg ?_; first | refine yf_guard_yes rfl ?_ | refine yf_guard_no rfl rfl rfl ?_))
  have hc01 := hcw.trans hc1
  refine yl_call tabOk rfl rfl rfl rfl (roundF_ca w1 _ _ _ _ _ _ l (shF l) (hI.keep hc1) (hS.keep hc1) hR (shF_of l).one (pot_neg hpot0)) ?_
  rintro _ w2 ⟨hc2, ⟨rfl, _⟩ | ⟨rv, _, k1, k2, m1, m2, e1, e2, e3, _⟩⟩
  rotate_left
  · exact (pot_neg hpot ⟨k1, m1, k2, m2, e1, e2, e3⟩).elim
  have hc02 := hc01.trans hc2
  have hc12 := hc1.trans hc2
  repeat (first | (refine is_lv ?_; first | refine yl_pure tabOk rfl rfl ?_ | (refine yl_isload ?_; first | refine yl_loadB tabOk rfl rfl rfl (by assumption) (by rfl) ?_ | refine yl_loadAB tabOk rfl rfl rfl (by assumption) (by rfl) (by rfl) ?_)) | (refine is_c ?_; first | refine y_seq ?_ | refine y_region ?_ | refine y_skip ?_ | refine y_block ?_ | refine y_ret ?_ | (refine is_cond ?_; first | refine y_cond_true rfl ?_ | refine y_cond_false rfl ?_) | (refine is_exit ?_; refine y_exit _ rfl ?_) | refine y_label ?_) | refine yl_nil ?_ | refine y_blk ?_ | (refine is_lg ?_; first | refine yl_guard_yes rfl ?_ | refine yl_guard_no rfl rfl rfl ?_) | (refine is_fv ?_; first | refine yf_pure tabOk rfl rfl rfl ?_ | (refine yf_isload ?_; first | refine yf_loadB tabOk rfl rfl rfl (by assumption) (by first | assumption | simp) (by rfl) ?_ | refine yf_loadAB tabOk rfl rfl rfl (by assumption) (by first | assumption | simp) (by rfl) (by rfl) ?_)) | refine yf_nil ?_ | (refine is_fg ?_; first | refine yf_guard_yes rfl ?_ | refine yf_guard_no rfl rfl rfl ?_))
  refine yl_call tabOk rfl rfl rfl rfl (tfold_ca which l.length (by omega) (by omega) w2) ?_
  rintro _ w3 ⟨⟨k0, rfl, hk0, hk1⟩, hw⟩
  obtain rfl := hw.symm
  obtain ⟨k, rfl⟩ := Int.eq_ofNat_of_zero_le hk0
  have hk : k < l.length := by omega
  have hlk := hl l[k] (List.getElem_mem hk)
  obtain ⟨_, _, h6, hs6⟩ := RdI.outI (hI.keep hc12)
  cases h6
  obtain ⟨b6, f6, rfl⟩ := hs6 (by omega)
  repeat (first | (refine is_lv ?_; first | refine yl_pure tabOk rfl rfl ?_ | (refine yl_isload ?_; first | refine yl_loadB tabOk rfl rfl rfl (by assumption) (by rfl) ?_ | refine yl_loadAB tabOk rfl rfl rfl (by assumption) (by rfl) (by rfl) ?_)) | (refine is_c ?_; first | refine y_seq ?_ | refine y_region ?_ | refine y_skip ?_ | refine y_block ?_ | refine y_ret ?_ | (refine is_cond ?_; first | refine y_cond_true rfl ?_ | refine y_cond_false rfl ?_) | (refine is_exit ?_; refine y_exit _ rfl ?_) | refine y_label ?_) | refine yl_nil ?_ | refine y_blk ?_ | (refine is_lg ?_; first | refine yl_guard_yes rfl ?_ | refine yl_guard_no rfl rfl rfl ?_) | (refine is_fv ?_; first | refine yf_pure tabOk rfl rfl rfl ?_ | (refine yf_isload ?_; first | refine yf_loadB tabOk rfl rfl rfl (by assumption) (by first | assumption | simp) (by rfl) ?_ | refine yf_loadAB tabOk rfl rfl rfl (by assumption) (by first | assumption | simp) (by rfl) (by rfl) ?_)) | refine yf_nil ?_ | (refine is_fg ?_; first | refine yf_guard_yes rfl ?_ | refine yf_guard_no rfl rfl rfl ?_))
  refine yl_index tabOk rfl rfl rfl rfl rfl (by omega) (by omega) ?_
  refine yl_load1 tabOk rfl rfl rfl (RdI.at (hI.keep hc12) k hk) ?_
  repeat (first | (refine is_lv ?_; first | refine yl_pure tabOk rfl rfl ?_ | (refine yl_isload ?_; first | refine yl_loadB tabOk rfl rfl rfl (by assumption) (by rfl) ?_ | refine yl_loadAB tabOk rfl rfl rfl (by assumption) (by rfl) (by rfl) ?_)) | (refine is_c ?_; first | refine y_seq ?_ | refine y_region ?_ | refine y_skip ?_ | refine y_block ?_ | refine y_ret ?_ | (refine is_cond ?_; first | refine y_cond_true rfl ?_ | refine y_cond_false rfl ?_) | (refine is_exit ?_; refine y_exit _ rfl ?_) | refine y_label ?_) | refine yl_nil ?_ | refine y_blk ?_ | (refine is_lg ?_; first | refine yl_guard_yes rfl ?_ | refine yl_guard_no rfl rfl rfl ?_) | (refine is_fv ?_; first | refine yf_pure tabOk rfl rfl rfl ?_ | (refine yf_isload ?_; first | refine yf_loadB tabOk rfl rfl rfl (by assumption) (by first | assumption | simp) (by rfl) ?_ | refine yf_loadAB tabOk rfl rfl rfl (by assumption) (by first | assumption | simp) (by rfl) (by rfl) ?_)) | refine yf_nil ?_ | (refine is_fg ?_; first | refine yf_guard_yes rfl ?_ | refine yf_guard_no rfl rfl rfl ?_))
  refine y_if rfl (fun hz => ?_) (fun hz => ?_)
  · repeat (first | (refine is_lv ?_; first | refine yl_pure tabOk rfl rfl ?_ | (refine yl_isload ?_; first | refine yl_loadB tabOk rfl rfl rfl (by assumption) (by rfl) ?_ | refine yl_loadAB tabOk rfl rfl rfl (by assumption) (by rfl) (by rfl) ?_)) | (refine is_c ?_; first | refine y_seq ?_ | refine y_region ?_ | refine y_skip ?_ | refine y_block ?_ | refine y_ret ?_ | (refine is_cond ?_; first | refine y_cond_true rfl ?_ | refine y_cond_false rfl ?_) | (refine is_exit ?_; refine y_exit _ rfl ?_) | refine y_label ?_) | refine yl_nil ?_ | refine y_blk ?_ | (refine is_lg ?_; first | refine yl_guard_yes rfl ?_ | refine yl_guard_no rfl rfl rfl ?_) | (refine is_fv ?_; first | refine yf_pure tabOk rfl rfl rfl ?_ | (refine yf_isload ?_; first | refine yf_loadB tabOk rfl rfl rfl (by assumption) (by first | assumption | simp) (by rfl) ?_ | refine yf_loadAB tabOk rfl rfl rfl (by assumption) (by first | assumption | simp) (by rfl) (by rfl) ?_)) | refine yf_nil ?_ | (refine is_fg ?_; first | refine yf_guard_yes rfl ?_ | refine yf_guard_no rfl rfl rfl ?_))
    exact y_fin1 rfl rfl ⟨rfl, hc02⟩
  have hI2 := hI.keep hc12
  have hS2 := hS.keep hc12
  have hsz2 : B1 ≤ w2.heap.size := by have := hc12.size; omega
  clear hpot0 hc1 hc2 hc12 hI hS hc01
  repeat (first | (refine is_lv ?_; first | refine yl_pure tabOk rfl rfl ?_ | (refine yl_isload ?_; first | refine yl_loadB tabOk rfl rfl rfl (by assumption) (by rfl) ?_ | refine yl_loadAB tabOk rfl rfl rfl (by assumption) (by rfl) (by rfl) ?_)) | (refine is_c ?_; first | refine y_seq ?_ | refine y_region ?_ | refine y_skip ?_ | refine y_block ?_ | refine y_ret ?_ | (refine is_cond ?_; first | refine y_cond_true rfl ?_ | refine y_cond_false rfl ?_) | (refine is_exit ?_; refine y_exit _ rfl ?_) | refine y_label ?_) | refine yl_nil ?_ | refine y_blk ?_ | (refine is_lg ?_; first | refine yl_guard_yes rfl ?_ | refine yl_guard_no rfl rfl rfl ?_) | (refine is_fv ?_; first | refine yf_pure tabOk rfl rfl rfl ?_ | (refine yf_isload ?_; first | refine yf_loadB tabOk rfl rfl rfl (by assumption) (by first | assumption | simp) (by rfl) ?_ | refine yf_loadAB tabOk rfl rfl rfl (by assumption) (by first | assumption | simp) (by rfl) (by rfl) ?_)) | refine yf_nil ?_ | (refine is_fg ?_; first | refine yf_guard_yes rfl ?_ | refine yf_guard_no rfl rfl rfl ?_))
  refine yl_call tabOk rfl rfl rfl rfl (clone_ca w2 Bd B1 _ l.length (cellsOf (shs (shF l))) (by
    have h := hS2.rd
    rw [shs_len, shF_length] at h
    exact h) (shs_one _) (by omega)) ?_
  rintro r19 w3 ⟨hown, hc3⟩
  obtain ⟨_, ⟨_, h0⟩ | ⟨g, cap19, cur, rfl, hg, hh, hnc, hcm, hcs, ht⟩⟩ := hown
  · omega
  have hcur : cur.toList = cellsOf (shs (shF l)) ++ cur.toList.drop (l.length * 4) := by
    conv => lhs; rw [← List.take_append_drop (l.length * 4) cur.toList, ht]
  generalize cur.toList.drop (l.length * 4) = rest at hcur
  have hb3 : Blk w3 g (cellsOf (shs (shF l)) ++ rest) 38 := by
    rw [← hcur]
    simpa [Blk] using hh
  clear hh hnc hcm hcs ht hcur
  have hlen4 : (cellsOf (shs (shF l))).length = l.length * 4 := by rw [cellsOf_length _ (shs_sz _), shs_len, shF_length]
  repeat (first | (refine is_lv ?_; first | refine yl_pure tabOk rfl rfl ?_ | (refine yl_isload ?_; first | refine yl_loadB tabOk rfl rfl rfl (by assumption) (by rfl) ?_ | refine yl_loadAB tabOk rfl rfl rfl (by assumption) (by rfl) (by rfl) ?_)) | (refine is_c ?_; first | refine y_seq ?_ | refine y_region ?_ | refine y_skip ?_ | refine y_block ?_ | refine y_ret ?_ | (refine is_cond ?_; first | refine y_cond_true rfl ?_ | refine y_cond_false rfl ?_) | (refine is_exit ?_; refine y_exit _ rfl ?_) | refine y_label ?_) | refine yl_nil ?_ | refine y_blk ?_ | (refine is_lg ?_; first | refine yl_guard_yes rfl ?_ | refine yl_guard_no rfl rfl rfl ?_) | (refine is_fv ?_; first | refine yf_pure tabOk rfl rfl rfl ?_ | (refine yf_isload ?_; first | refine yf_loadB tabOk rfl rfl rfl (by assumption) (by first | assumption | simp) (by rfl) ?_ | refine yf_loadAB tabOk rfl rfl rfl (by assumption) (by first | assumption | simp) (by rfl) (by rfl) ?_)) | refine yf_nil ?_ | (refine is_fg ?_; first | refine yf_guard_yes rfl ?_ | refine yf_guard_no rfl rfl rfl ?_))
  refine y_draw [g] (by kernel_rfl) (by kernel_rfl) (fun w4 hc4 hs4 => ?_)
  have hI4 := (hI2.keep hc3).keep hc4
  have hb4 := hb3.keep hc4
  have hchI : ∀ w', Chg [g] w4 w' → RdI w' Bd B1 (.slice (some ⟨b6, f6, none⟩) l.length c6) l := fun w' hw' => hI4.chg hw' (by
    intro q hq
    simp at hq
    omega)
  repeat (first | (refine is_lv ?_; first | refine yl_pure tabOk rfl rfl ?_ | (refine yl_isload ?_; first | refine yl_loadB tabOk rfl rfl rfl (by assumption) (by rfl) ?_ | refine yl_loadAB tabOk rfl rfl rfl (by assumption) (by rfl) (by rfl) ?_)) | (refine is_c ?_; first | refine y_seq ?_ | refine y_region ?_ | refine y_skip ?_ | refine y_block ?_ | refine y_ret ?_ | (refine is_cond ?_; first | refine y_cond_true rfl ?_ | refine y_cond_false rfl ?_) | (refine is_exit ?_; refine y_exit _ rfl ?_) | refine y_label ?_) | refine yl_nil ?_ | refine y_blk ?_ | (refine is_lg ?_; first | refine yl_guard_yes rfl ?_ | refine yl_guard_no rfl rfl rfl ?_) | (refine is_fv ?_; first | refine yf_pure tabOk rfl rfl rfl ?_ | (refine yf_isload ?_; first | refine yf_loadB tabOk rfl rfl rfl (by assumption) (by first | assumption | simp) (by rfl) ?_ | refine yf_loadAB tabOk rfl rfl rfl (by assumption) (by first | assumption | simp) (by rfl) (by rfl) ?_)) | refine yf_nil ?_ | (refine is_fg ?_; first | refine yf_guard_yes rfl ?_ | refine yf_guard_no rfl rfl rfl ?_))
  refine yf_index tabOk rfl rfl rfl rfl rfl (by omega) (by omega) ?_
  refine yf_load1 tabOk rfl rfl rfl (fun w' hw' => RdI.at (hchI w' hw') k hk) ?_
  repeat (first | (refine is_lv ?_; first | refine yl_pure tabOk rfl rfl ?_ | (refine yl_isload ?_; first | refine yl_loadB tabOk rfl rfl rfl (by assumption) (by rfl) ?_ | refine yl_loadAB tabOk rfl rfl rfl (by assumption) (by rfl) (by rfl) ?_)) | (refine is_c ?_; first | refine y_seq ?_ | refine y_region ?_ | refine y_skip ?_ | refine y_block ?_ | refine y_ret ?_ | (refine is_cond ?_; first | refine y_cond_true rfl ?_ | refine y_cond_false rfl ?_) | (refine is_exit ?_; refine y_exit _ rfl ?_) | refine y_label ?_) | refine yl_nil ?_ | refine y_blk ?_ | (refine is_lg ?_; first | refine yl_guard_yes rfl ?_ | refine yl_guard_no rfl rfl rfl ?_) | (refine is_fv ?_; first | refine yf_pure tabOk rfl rfl rfl ?_ | (refine yf_isload ?_; first | refine yf_loadB tabOk rfl rfl rfl (by assumption) (by first | assumption | simp) (by rfl) ?_ | refine yf_loadAB tabOk rfl rfl rfl (by assumption) (by first | assumption | simp) (by rfl) (by rfl) ?_)) | refine yf_nil ?_ | (refine is_fg ?_; first | refine yf_guard_yes rfl ?_ | refine yf_guard_no rfl rfl rfl ?_))
  refine yf_index tabOk rfl rfl rfl rfl rfl (by omega) (by omega) ?_
  refine yf_load1 tabOk rfl rfl rfl (fun w' hw' => RdI.at (hchI w' hw') k hk) ?_
  repeat (first | (refine is_lv ?_; first | refine yl_pure tabOk rfl rfl ?_ | (refine yl_isload ?_; first | refine yl_loadB tabOk rfl rfl rfl (by assumption) (by rfl) ?_ | refine yl_loadAB tabOk rfl rfl rfl (by assumption) (by rfl) (by rfl) ?_)) | (refine is_c ?_; first | refine y_seq ?_ | refine y_region ?_ | refine y_skip ?_ | refine y_block ?_ | refine y_ret ?_ | (refine is_cond ?_; first | refine y_cond_true rfl ?_ | refine y_cond_false rfl ?_) | (refine is_exit ?_; refine y_exit _ rfl ?_) | refine y_label ?_) | refine yl_nil ?_ | refine y_blk ?_ | (refine is_lg ?_; first | refine yl_guard_yes rfl ?_ | refine yl_guard_no rfl rfl rfl ?_) | (refine is_fv ?_; first | refine yf_pure tabOk rfl rfl rfl ?_ | (refine yf_isload ?_; first | refine yf_loadB tabOk rfl rfl rfl (by assumption) (by first | assumption | simp) (by rfl) ?_ | refine yf_loadAB tabOk rfl rfl rfl (by assumption) (by first | assumption | simp) (by rfl) (by rfl) ?_)) | refine yf_nil ?_ | (refine is_fg ?_; first | refine yf_guard_yes rfl ?_ | refine yf_guard_no rfl rfl rfl ?_))
  rw [w64 (x := l[k] - 1) (by omega) (by omega)]
  refine yf_mk #[.int .i64 (l[k] - 1), .int .i64 (l[k] - 1)] rfl (by kernel_rfl) rfl ?_
  refine yf_index tabOk rfl rfl rfl rfl rfl (by omega) (by omega) ?_
  repeat (first | (refine is_lv ?_; first | refine yl_pure tabOk rfl rfl ?_ | (refine yl_isload ?_; first | refine yl_loadB tabOk rfl rfl rfl (by assumption) (by rfl) ?_ | refine yl_loadAB tabOk rfl rfl rfl (by assumption) (by rfl) (by rfl) ?_)) | (refine is_c ?_; first | refine y_seq ?_ | refine y_region ?_ | refine y_skip ?_ | refine y_block ?_ | refine y_ret ?_ | (refine is_cond ?_; first | refine y_cond_true rfl ?_ | refine y_cond_false rfl ?_) | (refine is_exit ?_; refine y_exit _ rfl ?_) | refine y_label ?_) | refine yl_nil ?_ | refine y_blk ?_ | (refine is_lg ?_; first | refine yl_guard_yes rfl ?_ | refine yl_guard_no rfl rfl rfl ?_) | (refine is_fv ?_; first | refine yf_pure tabOk rfl rfl rfl ?_ | (refine yf_isload ?_; first | refine yf_loadB tabOk rfl rfl rfl (by assumption) (by first | assumption | simp) (by rfl) ?_ | refine yf_loadAB tabOk rfl rfl rfl (by assumption) (by first | assumption | simp) (by rfl) (by rfl) ?_)) | refine yf_nil ?_ | (refine is_fg ?_; first | refine yf_guard_yes rfl ?_ | refine yf_guard_no rfl rfl rfl ?_))
  refine yf_storeA tabOk (us := [.int .i64 (l[k] - 1), .int .i64 (l[k] - 1)]) rfl rfl rfl rfl (by simp [oneV]) hb4 (by rw [List.length_append, hlen4]; omega) (fun w5 hc5 hs5 hb5 => ⟨hc5, ?_⟩)
  rw [show (0 : Nat) + (k : Int).toNat * 4 + 2 = 0 + k * 4 + 2 from rfl, less_cells l k (l[k] - 1) rest hk] at hb5
  have hI5 := hchI w5 hc5
  have hc05 : Chg [] w w5 := (((hc02.trans hc3).trans hc4)).up1 hc5 (by have := hc02.size; omega)
  have hsz5 : w2.heap.size ≤ w5.heap.size := by have := hc3.size; have := hc4.size; have := hc5.size; omega
  clear hchI hI4 hb4 hb3 hI2 hc02
  generalize hl' : l.set k (l[k] - 1) = l' at hb5
  have hlen' : l'.length = l.length := by rw [← hl', List.length_set]
  have hget' : ∀ i (h : i < l'.length), l'[i] = if i = k then l[k] - 1 else l[i]'(by omega) := fun i h => by
    subst hl'
    rw [List.getElem_set]
    by_cases e : i = k
    · simp [e]
    · simp [e, show ¬ k = i from fun h => e h.symm]
  have hl0' : ∀ x ∈ l', 0 ≤ x ∧ x ≤ 5 := fun x hx => by
    obtain ⟨i, hi, rfl⟩ := List.getElem_of_mem hx
    have h1 := hl (l[i]'(by omega)) (List.getElem_mem _)
    rw [hget' i hi]
    split <;> omega
  have hk' : k < l'.length := by omega
  have hlt : l'[k] < l[k] := by rw [hget' k hk', if_pos rfl]; omega
  have hR' : Right l (shF l') := right_of hn1 (by omega) hl hlen' hl0' (shF_of l') (by rw [shF_length]; omega)
  have hneg : Neg2 (linksOf l.length (shF l') l) := neg_less k hk hk' hlt (by rw [shF_at, List.getElem?_eq_getElem hk']; rfl)
  have hpot' : Pot l.length (linksOf l.length (shF l') []) (psum l') := by
    have := pot_sum (l := l') (o := []) (S := shF l') (by omega) hl0' (shF_of l') (fun i x hx => by simp at hx)
    rwa [hlen'] at this
  have hlenL : (cellsOf (shs (shF l'))).length = l.length * 4 := by rw [cellsOf_length _ (shs_sz _), shs_len, shF_length, hlen']
  have hS5 : RdE w5 g (g + 1) (.slice (some ⟨g, 0, none⟩) l.length cap19) 4 (shs (shF l')) := ⟨by
    refine ⟨by rw [hlenL, shs_len, shF_length, hlen'], .inr ⟨g, 0, cap19, by rw [shs_len, shF_length, hlen'], fun _ => ⟨Nat.le_refl _, by omega, hb5.lt⟩, fun j hj => ?_⟩⟩
    rw [Nat.zero_add, hb5.cell, List.getElem?_append_left hj], shs_sz _⟩
  clear hb5
  repeat (first | (refine is_lv ?_; first | refine yl_pure tabOk rfl rfl ?_ | (refine yl_isload ?_; first | refine yl_loadB tabOk rfl rfl rfl (by assumption) (by rfl) ?_ | refine yl_loadAB tabOk rfl rfl rfl (by assumption) (by rfl) (by rfl) ?_)) | (refine is_c ?_; first | refine y_seq ?_ | refine y_region ?_ | refine y_skip ?_ | refine y_block ?_ | refine y_ret ?_ | (refine is_cond ?_; first | refine y_cond_true rfl ?_ | refine y_cond_false rfl ?_) | (refine is_exit ?_; refine y_exit _ rfl ?_) | refine y_label ?_) | refine yl_nil ?_ | refine y_blk ?_ | (refine is_lg ?_; first | refine yl_guard_yes rfl ?_ | refine yl_guard_no rfl rfl rfl ?_) | (refine is_fv ?_; first | refine yf_pure tabOk rfl rfl rfl ?_ | (refine yf_isload ?_; first | refine yf_loadB tabOk rfl rfl rfl (by assumption) (by first | assumption | simp) (by rfl) ?_ | refine yf_loadAB tabOk rfl rfl rfl (by assumption) (by first | assumption | simp) (by rfl) (by rfl) ?_)) | refine yf_nil ?_ | (refine is_fg ?_; first | refine yf_guard_yes rfl ?_ | refine yf_guard_no rfl rfl rfl ?_))
  refine yl_call tabOk rfl rfl rfl rfl (few_ca w5 _ _ _ _ _ _ l (shF l') hI5 hS5 hR') ?_
  rintro _ w6 ⟨rfl, hc6⟩
  rw [fewB_neg hR' hneg]
  repeat (first | (refine is_lv ?_; first | refine yl_pure tabOk rfl rfl ?_ | (refine yl_isload ?_; first | refine yl_loadB tabOk rfl rfl rfl (by assumption) (by rfl) ?_ | refine yl_loadAB tabOk rfl rfl rfl (by assumption) (by rfl) (by rfl) ?_)) | (refine is_c ?_; first | refine y_seq ?_ | refine y_region ?_ | refine y_skip ?_ | refine y_block ?_ | refine y_ret ?_ | (refine is_cond ?_; first | refine y_cond_true rfl ?_ | refine y_cond_false rfl ?_) | (refine is_exit ?_; refine y_exit _ rfl ?_) | refine y_label ?_) | refine yl_nil ?_ | refine y_blk ?_ | (refine is_lg ?_; first | refine yl_guard_yes rfl ?_ | refine yl_guard_no rfl rfl rfl ?_) | (refine is_fv ?_; first | refine yf_pure tabOk rfl rfl rfl ?_ | (refine yf_isload ?_; first | refine yf_loadB tabOk rfl rfl rfl (by assumption) (by first | assumption | simp) (by rfl) ?_ | refine yf_loadAB tabOk rfl rfl rfl (by assumption) (by first | assumption | simp) (by rfl) (by rfl) ?_)) | refine yf_nil ?_ | (refine is_fg ?_; first | refine yf_guard_yes rfl ?_ | refine yf_guard_no rfl rfl rfl ?_))
  refine yl_call tabOk rfl rfl rfl rfl (roundF_ca w6 _ _ _ _ _ _ l (shF l') (hI5.keep hc6) (hS5.keep hc6) hR' (shF_of l').one (pot_neg hpot')) ?_
  rintro _ w7 ⟨hc7, ⟨rfl, hnn⟩ | ⟨rv, rfl, k1, k2, m1, m2, e1, e2, e3, hrd7⟩⟩
  · exact (hnn hneg).elim
  have hc57 := hc6.trans hc7
  repeat (first | (refine is_lv ?_; first | refine yl_pure tabOk rfl rfl ?_ | (refine yl_isload ?_; first | refine yl_loadB tabOk rfl rfl rfl (by assumption) (by rfl) ?_ | refine yl_loadAB tabOk rfl rfl rfl (by assumption) (by rfl) (by rfl) ?_)) | (refine is_c ?_; first | refine y_seq ?_ | refine y_region ?_ | refine y_skip ?_ | refine y_block ?_ | refine y_ret ?_ | (refine is_cond ?_; first | refine y_cond_true rfl ?_ | refine y_cond_false rfl ?_) | (refine is_exit ?_; refine y_exit _ rfl ?_) | refine y_label ?_) | refine yl_nil ?_ | refine y_blk ?_ | (refine is_lg ?_; first | refine yl_guard_yes rfl ?_ | refine yl_guard_no rfl rfl rfl ?_) | (refine is_fv ?_; first | refine yf_pure tabOk rfl rfl rfl ?_ | (refine yf_isload ?_; first | refine yf_loadB tabOk rfl rfl rfl (by assumption) (by first | assumption | simp) (by rfl) ?_ | refine yf_loadAB tabOk rfl rfl rfl (by assumption) (by first | assumption | simp) (by rfl) (by rfl) ?_)) | refine yf_nil ?_ | (refine is_fg ?_; first | refine yf_guard_yes rfl ?_ | refine yf_guard_no rfl rfl rfl ?_))
  refine yl_call tabOk rfl rfl rfl rfl (roundShows_ca w7 _ _ _ _ _ _ _ _ rv l (shF l') (hI5.keep hc57) (hS5.keep hc57) hR' k1 k2 m1 m2 e1 e2 e3 hrd7) ?_
  rintro _ w8 ⟨rfl, hc8⟩
  have hc58 := hc57.trans hc8
  have hI8 := hI5.keep hc58
  have hS8 := hS5.keep hc58
  have hSo8 : RdE w8 Bd B1 (.slice a7 l.length c7) 4 (shs (shF l)) := ((hS2.keep hc3).keep hc4).chg (hc5.trans hc58.nil) (by
    intro q hq
    simp at hq
    omega)
  have hc08 := hc05.trans hc58
  clear hS2
  repeat (first | (refine is_lv ?_; first | refine yl_pure tabOk rfl rfl ?_ | (refine yl_isload ?_; first | refine yl_loadB tabOk rfl rfl rfl (by assumption) (by rfl) ?_ | refine yl_loadAB tabOk rfl rfl rfl (by assumption) (by rfl) (by rfl) ?_)) | (refine is_c ?_; first | refine y_seq ?_ | refine y_region ?_ | refine y_skip ?_ | refine y_block ?_ | refine y_ret ?_ | (refine is_cond ?_; first | refine y_cond_true rfl ?_ | refine y_cond_false rfl ?_) | (refine is_exit ?_; refine y_exit _ rfl ?_) | refine y_label ?_) | refine yl_nil ?_ | refine y_blk ?_ | (refine is_lg ?_; first | refine yl_guard_yes rfl ?_ | refine yl_guard_no rfl rfl rfl ?_) | (refine is_fv ?_; first | refine yf_pure tabOk rfl rfl rfl ?_ | (refine yf_isload ?_; first | refine yf_loadB tabOk rfl rfl rfl (by assumption) (by first | assumption | simp) (by rfl) ?_ | refine yf_loadAB tabOk rfl rfl rfl (by assumption) (by first | assumption | simp) (by rfl) (by rfl) ?_)) | refine yf_nil ?_ | (refine is_fg ?_; first | refine yf_guard_yes rfl ?_ | refine yf_guard_no rfl rfl rfl ?_))
  refine y_if rfl (fun h => ?_) (fun _ => ?_)
  · omega
  repeat (first | (refine is_lv ?_; first | refine yl_pure tabOk rfl rfl ?_ | (refine yl_isload ?_; first | refine yl_loadB tabOk rfl rfl rfl (by assumption) (by rfl) ?_ | refine yl_loadAB tabOk rfl rfl rfl (by assumption) (by rfl) (by rfl) ?_)) | (refine is_c ?_; first | refine y_seq ?_ | refine y_region ?_ | refine y_skip ?_ | refine y_block ?_ | refine y_ret ?_ | (refine is_cond ?_; first | refine y_cond_true rfl ?_ | refine y_cond_false rfl ?_) | (refine is_exit ?_; refine y_exit _ rfl ?_) | refine y_label ?_) | refine yl_nil ?_ | refine y_blk ?_ | (refine is_lg ?_; first | refine yl_guard_yes rfl ?_ | refine yl_guard_no rfl rfl rfl ?_) | (refine is_fv ?_; first | refine yf_pure tabOk rfl rfl rfl ?_ | (refine yf_isload ?_; first | refine yf_loadB tabOk rfl rfl rfl (by assumption) (by first | assumption | simp) (by rfl) ?_ | refine yf_loadAB tabOk rfl rfl rfl (by assumption) (by first | assumption | simp) (by rfl) (by rfl) ?_)) | refine yf_nil ?_ | (refine is_fg ?_; first | refine yf_guard_yes rfl ?_ | refine yf_guard_no rfl rfl rfl ?_))
  refine yl_mkS 25 [.slice (some ⟨b6, f6, none⟩) l.length c6, .slice (some ⟨b6, f6, none⟩) l.length c6] rfl (by kernel_rfl) rfl (fun w9 hc9 hs9 hb9 => ?_)
  repeat (first | (refine is_lv ?_; first | refine yl_pure tabOk rfl rfl ?_ | (refine yl_isload ?_; first | refine yl_loadB tabOk rfl rfl rfl (by assumption) (by rfl) ?_ | refine yl_loadAB tabOk rfl rfl rfl (by assumption) (by rfl) (by rfl) ?_)) | (refine is_c ?_; first | refine y_seq ?_ | refine y_region ?_ | refine y_skip ?_ | refine y_block ?_ | refine y_ret ?_ | (refine is_cond ?_; first | refine y_cond_true rfl ?_ | refine y_cond_false rfl ?_) | (refine is_exit ?_; refine y_exit _ rfl ?_) | refine y_label ?_) | refine yl_nil ?_ | refine y_blk ?_ | (refine is_lg ?_; first | refine yl_guard_yes rfl ?_ | refine yl_guard_no rfl rfl rfl ?_) | (refine is_fv ?_; first | refine yf_pure tabOk rfl rfl rfl ?_ | (refine yf_isload ?_; first | refine yf_loadB tabOk rfl rfl rfl (by assumption) (by first | assumption | simp) (by rfl) ?_ | refine yf_loadAB tabOk rfl rfl rfl (by assumption) (by first | assumption | simp) (by rfl) (by rfl) ?_)) | refine yf_nil ?_ | (refine is_fg ?_; first | refine yf_guard_yes rfl ?_ | refine yf_guard_no rfl rfl rfl ?_))
  refine yl_mkS 26 [.slice a7 l.length c7, .slice (some ⟨g, 0, none⟩) l.length cap19] rfl (by kernel_rfl) rfl (fun w10 hc10 hs10 hb10 => ?_)
  have hc810 := hc9.trans hc10
  have hV := rdE_two (hb9.keep hc10) rfl rfl 2
  have hV' := rdE_two hb10 rfl rfl 2
  have hdue := due2_ca w10 _ _ _ _ _ _ _ _ _ _ _ _ _ _ _ l (shF l) (shF l') hV hV' (hI8.keep hc810) (hSo8.keep hc810) (hS8.keep hc810) hR hR' (fewB_pot hR hpot) (fewB_neg hR' hneg)
  refine yl_call tabOk rfl rfl rfl rfl hdue ?_
  rintro _ w11 ⟨hc11, rv2, rfl, hrv⟩
  repeat (first | (refine is_lv ?_; first | refine yl_pure tabOk rfl rfl ?_ | (refine yl_isload ?_; first | refine yl_loadB tabOk rfl rfl rfl (by assumption) (by rfl) ?_ | refine yl_loadAB tabOk rfl rfl rfl (by assumption) (by rfl) (by rfl) ?_)) | (refine is_c ?_; first | refine y_seq ?_ | refine y_region ?_ | refine y_skip ?_ | refine y_block ?_ | refine y_ret ?_ | (refine is_cond ?_; first | refine y_cond_true rfl ?_ | refine y_cond_false rfl ?_) | (refine is_exit ?_; refine y_exit _ rfl ?_) | refine y_label ?_) | refine yl_nil ?_ | refine y_blk ?_ | (refine is_lg ?_; first | refine yl_guard_yes rfl ?_ | refine yl_guard_no rfl rfl rfl ?_) | (refine is_fv ?_; first | refine yf_pure tabOk rfl rfl rfl ?_ | (refine yf_isload ?_; first | refine yf_loadB tabOk rfl rfl rfl (by assumption) (by first | assumption | simp) (by rfl) ?_ | refine yf_loadAB tabOk rfl rfl rfl (by assumption) (by first | assumption | simp) (by rfl) (by rfl) ?_)) | refine yf_nil ?_ | (refine is_fg ?_; first | refine yf_guard_yes rfl ?_ | refine yf_guard_no rfl rfl rfl ?_))
  refine yl_mkS 3 [.int .i64 1] rfl (by kernel_rfl) rfl (fun w12 hc12 hs12 hb12 => ?_)
  have hone : RdI w12 w11.heap.size (w11.heap.size + 1) (.slice (some ⟨w11.heap.size, 0, none⟩) 1 1) [1] := RdI.of (blk_rd hb12 (m := 1) rfl)
  have heqc := equal_ca w12 _ _ _ _ _ _ [1] [1] (hrv.keep hc12) hone (by simp) (by simp)
  rw [decide_eq_true (rfl : ([1] : List Int) = [1])] at heqc
  repeat (first | (refine is_lv ?_; first | refine yl_pure tabOk rfl rfl ?_ | (refine yl_isload ?_; first | refine yl_loadB tabOk rfl rfl rfl (by assumption) (by rfl) ?_ | refine yl_loadAB tabOk rfl rfl rfl (by assumption) (by rfl) (by rfl) ?_)) | (refine is_c ?_; first | refine y_seq ?_ | refine y_region ?_ | refine y_skip ?_ | refine y_block ?_ | refine y_ret ?_ | (refine is_cond ?_; first | refine y_cond_true rfl ?_ | refine y_cond_false rfl ?_) | (refine is_exit ?_; refine y_exit _ rfl ?_) | refine y_label ?_) | refine yl_nil ?_ | refine y_blk ?_ | (refine is_lg ?_; first | refine yl_guard_yes rfl ?_ | refine yl_guard_no rfl rfl rfl ?_) | (refine is_fv ?_; first | refine yf_pure tabOk rfl rfl rfl ?_ | (refine yf_isload ?_; first | refine yf_loadB tabOk rfl rfl rfl (by assumption) (by first | assumption | simp) (by rfl) ?_ | refine yf_loadAB tabOk rfl rfl rfl (by assumption) (by first | assumption | simp) (by rfl) (by rfl) ?_)) | refine yf_nil ?_ | (refine is_fg ?_; first | refine yf_guard_yes rfl ?_ | refine yf_guard_no rfl rfl rfl ?_))
  refine yl_call tabOk rfl rfl rfl rfl heqc ?_
  rintro _ w13 ⟨rfl, hc13⟩
  have hc813 := ((hc810.trans hc11).trans hc12).trans hc13
  have hI13 := hI8.keep hc813
  have hS13 := hS8.keep hc813
  have hc013 := hc08.trans hc813
  clear hI8 hS8 hSo8 hrv hb9 hb10 hb12 hrd7 hS5 hI5
  repeat (first | (refine is_lv ?_; first | refine yl_pure tabOk rfl rfl ?_ | (refine yl_isload ?_; first | refine yl_loadB tabOk rfl rfl rfl (by assumption) (by rfl) ?_ | refine yl_loadAB tabOk rfl rfl rfl (by assumption) (by rfl) (by rfl) ?_)) | (refine is_c ?_; first | refine y_seq ?_ | refine y_region ?_ | refine y_skip ?_ | refine y_block ?_ | refine y_ret ?_ | (refine is_cond ?_; first | refine y_cond_true rfl ?_ | refine y_cond_false rfl ?_) | (refine is_exit ?_; refine y_exit _ rfl ?_) | refine y_label ?_) | refine yl_nil ?_ | refine y_blk ?_ | (refine is_lg ?_; first | refine yl_guard_yes rfl ?_ | refine yl_guard_no rfl rfl rfl ?_) | (refine is_fv ?_; first | refine yf_pure tabOk rfl rfl rfl ?_ | (refine yf_isload ?_; first | refine yf_loadB tabOk rfl rfl rfl (by assumption) (by first | assumption | simp) (by rfl) ?_ | refine yf_loadAB tabOk rfl rfl rfl (by assumption) (by first | assumption | simp) (by rfl) (by rfl) ?_)) | refine yf_nil ?_ | (refine is_fg ?_; first | refine yf_guard_yes rfl ?_ | refine yf_guard_no rfl rfl rfl ?_))
  refine y_keep [(6, .slice (some ⟨b6, f6, none⟩) l.length c6), (18, .int .i64 k), (24, .slice none 0 0), (184, .slice (some ⟨g, 0, none⟩) l.length cap19), (185, .int .i64 l.length), (186, .int .i64 0)] ⟨rfl, rfl, rfl, rfl, rfl, rfl, trivial⟩ ?_
  refine y_loop (fun m le wr => ∃ (j : Nat) (o : Value), j ≤ l.length ∧ m = l.length - j ∧ le = [(6, .slice (some ⟨b6, f6, none⟩) l.length c6), (18, .int .i64 k), (24, o), (184, .slice (some ⟨g, 0, none⟩) l.length cap19), (185, .int .i64 l.length), (186, .int .i64 j)] ∧ wr.ownsRow w13.heap.size 38 4 o (blind (shF l') k j).length (cellsOf (shs (blind (shF l') k j))) ∧ Chg [] w13 wr) (m := l.length)
    ⟨0, _, by omega, rfl, rfl, by simpa [blind, shs, cellsOf] using own_nil _ _ _ _, Chg.refl _ _⟩ ⟨rfl, rfl, rfl, rfl, rfl, rfl, trivial⟩ ?_
  rintro m le wr ⟨j, o, hjl, rfl, rfl, hown, hcw⟩ K hK
  repeat (first | (refine is_lv ?_; first | refine yl_pure tabOk rfl rfl ?_ | (refine yl_isload ?_; first | refine yl_loadB tabOk rfl rfl rfl (by assumption) (by rfl) ?_ | refine yl_loadAB tabOk rfl rfl rfl (by assumption) (by rfl) (by rfl) ?_)) | (refine is_c ?_; first | refine y_seq ?_ | refine y_region ?_ | refine y_skip ?_ | refine y_block ?_ | refine y_ret ?_ | (refine is_cond ?_; first | refine y_cond_true rfl ?_ | refine y_cond_false rfl ?_) | (refine is_exit ?_; refine y_exit _ rfl ?_) | refine y_label ?_) | refine yl_nil ?_ | refine y_blk ?_ | (refine is_lg ?_; first | refine yl_guard_yes rfl ?_ | refine yl_guard_no rfl rfl rfl ?_) | (refine is_fv ?_; first | refine yf_pure tabOk rfl rfl rfl ?_ | (refine yf_isload ?_; first | refine yf_loadB tabOk rfl rfl rfl (by assumption) (by first | assumption | simp) (by rfl) ?_ | refine yf_loadAB tabOk rfl rfl rfl (by assumption) (by first | assumption | simp) (by rfl) (by rfl) ?_)) | refine yf_nil ?_ | (refine is_fg ?_; first | refine yf_guard_yes rfl ?_ | refine yf_guard_no rfl rfl rfl ?_))
  (first | (refine is_cond ?_; first | refine y_if rfl (fun hc => ?_) (fun hc => ?_) | refine y_ifn rfl (fun hc => ?_) (fun hc => ?_) | refine y_cond rfl (fun hc => ?_) (fun hc => ?_)) | (refine is_lg ?_; refine yl_split rfl rfl (fun hc => ?_) (fun hc => ?_)) | (refine is_fg ?_; refine yf_split rfl rfl (fun hc => ?_) (fun hc => ?_)))
  · have hj : j < l.length := by omega
    have hjF : j < (shF l').length := by rw [shF_length]; omega
    have hSr := hS13.keep hcw
    repeat (first | (refine is_lv ?_; first | refine yl_pure tabOk rfl rfl ?_ | (refine yl_isload ?_; first | refine yl_loadB tabOk rfl rfl rfl (by assumption) (by rfl) ?_ | refine yl_loadAB tabOk rfl rfl rfl (by assumption) (by rfl) (by rfl) ?_)) | (refine is_c ?_; first | refine y_seq ?_ | refine y_region ?_ | refine y_skip ?_ | refine y_block ?_ | refine y_ret ?_ | (refine is_cond ?_; first | refine y_cond_true rfl ?_ | refine y_cond_false rfl ?_) | (refine is_exit ?_; refine y_exit _ rfl ?_) | refine y_label ?_) | refine yl_nil ?_ | refine y_blk ?_ | (refine is_lg ?_; first | refine yl_guard_yes rfl ?_ | refine yl_guard_no rfl rfl rfl ?_) | (refine is_fv ?_; first | refine yf_pure tabOk rfl rfl rfl ?_ | (refine yf_isload ?_; first | refine yf_loadB tabOk rfl rfl rfl (by assumption) (by first | assumption | simp) (by rfl) ?_ | refine yf_loadAB tabOk rfl rfl rfl (by assumption) (by first | assumption | simp) (by rfl) (by rfl) ?_)) | refine yf_nil ?_ | (refine is_fg ?_; first | refine yf_guard_yes rfl ?_ | refine yf_guard_no rfl rfl rfl ?_))
    refine yl_index tabOk rfl rfl rfl rfl rfl (by omega) (by omega) ?_
    refine yl_loadA tabOk rfl rfl rfl (cs := [.int .i64 (shF l')[j].fr, .int .i64 (shF l')[j].to, .int .i64 (shF l')[j].lo, .int .i64 (shF l')[j].hi]) rfl (fun i hi => by
      have h := hSr.cell j i (by rw [shs_len]; exact hjF) hi
      have hel : (shs (shF l'))[j]'(by rw [shs_len]; exact hjF) = shV (shF l')[j] := by simp [shs]
      rw [hel] at h
      exact h) ?_
    refine yl_alloc (z := .agg #[.int .i64 0, .int .i64 0, .int .i64 0, .int .i64 0]) (by kernel_rfl) rfl (fun w14 hc14 hs14 hb14 => ?_)
    repeat (first | (refine is_lv ?_; first | refine yl_pure tabOk rfl rfl ?_ | (refine yl_isload ?_; first | refine yl_loadB tabOk rfl rfl rfl (by assumption) (by rfl) ?_ | refine yl_loadAB tabOk rfl rfl rfl (by assumption) (by rfl) (by rfl) ?_)) | (refine is_c ?_; first | refine y_seq ?_ | refine y_region ?_ | refine y_skip ?_ | refine y_block ?_ | refine y_ret ?_ | (refine is_cond ?_; first | refine y_cond_true rfl ?_ | refine y_cond_false rfl ?_) | (refine is_exit ?_; refine y_exit _ rfl ?_) | refine y_label ?_) | refine yl_nil ?_ | refine y_blk ?_ | (refine is_lg ?_; first | refine yl_guard_yes rfl ?_ | refine yl_guard_no rfl rfl rfl ?_) | (refine is_fv ?_; first | refine yf_pure tabOk rfl rfl rfl ?_ | (refine yf_isload ?_; first | refine yf_loadB tabOk rfl rfl rfl (by assumption) (by first | assumption | simp) (by rfl) ?_ | refine yf_loadAB tabOk rfl rfl rfl (by assumption) (by first | assumption | simp) (by rfl) (by rfl) ?_)) | refine yf_nil ?_ | (refine is_fg ?_; first | refine yf_guard_yes rfl ?_ | refine yf_guard_no rfl rfl rfl ?_))
    refine yl_storeA tabOk (us := [.int .i64 (shF l')[j].fr, .int .i64 (shF l')[j].to, .int .i64 (shF l')[j].lo, .int .i64 (shF l')[j].hi]) rfl rfl rfl rfl (by simp [oneV]) hb14 (by simp [Value.cells]) (fun w15 hc15 hs15 hb15 => ?_)
    have hcr15 := hc14.up1 hc15 (Nat.le_refl _)
    have hown15 := own_chg hown hcr15 (by simp)
    replace hb15 : Blk w15 wr.heap.size [.int .i64 (shF l')[j].fr, .int .i64 (shF l')[j].to, .int .i64 (shF l')[j].lo, .int .i64 (shF l')[j].hi] 38 := hb15
    clear hb14
    repeat (first | (refine is_lv ?_; first | refine yl_pure tabOk rfl rfl ?_ | (refine yl_isload ?_; first | refine yl_loadB tabOk rfl rfl rfl (by assumption) (by rfl) ?_ | refine yl_loadAB tabOk rfl rfl rfl (by assumption) (by rfl) (by rfl) ?_)) | (refine is_c ?_; first | refine y_seq ?_ | refine y_region ?_ | refine y_skip ?_ | refine y_block ?_ | refine y_ret ?_ | (refine is_cond ?_; first | refine y_cond_true rfl ?_ | refine y_cond_false rfl ?_) | (refine is_exit ?_; refine y_exit _ rfl ?_) | refine y_label ?_) | refine yl_nil ?_ | refine y_blk ?_ | (refine is_lg ?_; first | refine yl_guard_yes rfl ?_ | refine yl_guard_no rfl rfl rfl ?_) | (refine is_fv ?_; first | refine yf_pure tabOk rfl rfl rfl ?_ | (refine yf_isload ?_; first | refine yf_loadB tabOk rfl rfl rfl (by assumption) (by first | assumption | simp) (by rfl) ?_ | refine yf_loadAB tabOk rfl rfl rfl (by assumption) (by first | assumption | simp) (by rfl) (by rfl) ?_)) | refine yf_nil ?_ | (refine is_fg ?_; first | refine yf_guard_yes rfl ?_ | refine yf_guard_no rfl rfl rfl ?_))
    refine y_ifn rfl (fun hne => ?_) (fun heq => ?_)
    · have hjk : j ≠ k := by omega
      repeat (first | (refine is_lv ?_; first | refine yl_pure tabOk rfl rfl ?_ | (refine yl_isload ?_; first | refine yl_loadB tabOk rfl rfl rfl (by assumption) (by rfl) ?_ | refine yl_loadAB tabOk rfl rfl rfl (by assumption) (by rfl) (by rfl) ?_)) | (refine is_c ?_; first | refine y_seq ?_ | refine y_region ?_ | refine y_skip ?_ | refine y_block ?_ | refine y_ret ?_ | (refine is_cond ?_; first | refine y_cond_true rfl ?_ | refine y_cond_false rfl ?_) | (refine is_exit ?_; refine y_exit _ rfl ?_) | refine y_label ?_) | refine yl_nil ?_ | refine y_blk ?_ | (refine is_lg ?_; first | refine yl_guard_yes rfl ?_ | refine yl_guard_no rfl rfl rfl ?_) | (refine is_fv ?_; first | refine yf_pure tabOk rfl rfl rfl ?_ | (refine yf_isload ?_; first | refine yf_loadB tabOk rfl rfl rfl (by assumption) (by first | assumption | simp) (by rfl) ?_ | refine yf_loadAB tabOk rfl rfl rfl (by assumption) (by first | assumption | simp) (by rfl) (by rfl) ?_)) | refine yf_nil ?_ | (refine is_fg ?_; first | refine yf_guard_yes rfl ?_ | refine yf_guard_no rfl rfl rfl ?_))
      refine yl_mkS 38 [.int .i64 (shF l')[j].fr, .int .i64 (shF l')[j].to, .int .i64 (shF l')[j].lo, .int .i64 (shF l')[j].hi] rfl (by kernel_rfl) rfl (fun w16 hc16 hs16 hb16 => ?_)
      have hown16 := own_chg hown15 hc16 (by simp)
      have hbl : (blind (shF l') k j).length ≤ 5 := by
        have := blind_length (shF l') k j
        omega
      refine yl_append sl26 rfl rfl rfl hown16 (blk_rd hb16 (m := 1) rfl) (by simp [oneV]) (by omega) (by omega) (by have := hcw.size; have := hcr15.size; have := hc16.size; omega) (fun o' w17 ho hc17 _ => ?_)
      repeat (first | (refine is_lv ?_; first | refine yl_pure tabOk rfl rfl ?_ | (refine yl_isload ?_; first | refine yl_loadB tabOk rfl rfl rfl (by assumption) (by rfl) ?_ | refine yl_loadAB tabOk rfl rfl rfl (by assumption) (by rfl) (by rfl) ?_)) | (refine is_c ?_; first | refine y_seq ?_ | refine y_region ?_ | refine y_skip ?_ | refine y_block ?_ | refine y_ret ?_ | (refine is_cond ?_; first | refine y_cond_true rfl ?_ | refine y_cond_false rfl ?_) | (refine is_exit ?_; refine y_exit _ rfl ?_) | refine y_label ?_) | refine yl_nil ?_ | refine y_blk ?_ | (refine is_lg ?_; first | refine yl_guard_yes rfl ?_ | refine yl_guard_no rfl rfl rfl ?_) | (refine is_fv ?_; first | refine yf_pure tabOk rfl rfl rfl ?_ | (refine yf_isload ?_; first | refine yf_loadB tabOk rfl rfl rfl (by assumption) (by first | assumption | simp) (by rfl) ?_ | refine yf_loadAB tabOk rfl rfl rfl (by assumption) (by first | assumption | simp) (by rfl) (by rfl) ?_)) | refine yf_nil ?_ | (refine is_fg ?_; first | refine yf_guard_yes rfl ?_ | refine yf_guard_no rfl rfl rfl ?_))
      refine y_k (hK _ _ _ _ ⟨j + 1, o', by omega, rfl, rfl, ?_, ((hcw.trans hcr15).trans hc16).up hc17 (own_chg_base hown16 (Nat.le_refl _))⟩ (by omega) ⟨rfl, rfl, rfl, rfl, rfl, ?_, trivial⟩)
      · rw [blind_succ _ _ _ hjF, if_neg hjk, List.length_append, shs, List.map_append, cellsOf_append]
        exact ho
      · show some (Value.int _ (IntKind.i64.wrap (↑j + 1))) = _
        rw [w64 (by omega) (by omega)]
        rfl
    · have hjk : j = k := by omega
      repeat (first | (refine is_lv ?_; first | refine yl_pure tabOk rfl rfl ?_ | (refine yl_isload ?_; first | refine yl_loadB tabOk rfl rfl rfl (by assumption) (by rfl) ?_ | refine yl_loadAB tabOk rfl rfl rfl (by assumption) (by rfl) (by rfl) ?_)) | (refine is_c ?_; first | refine y_seq ?_ | refine y_region ?_ | refine y_skip ?_ | refine y_block ?_ | refine y_ret ?_ | (refine is_cond ?_; first | refine y_cond_true rfl ?_ | refine y_cond_false rfl ?_) | (refine is_exit ?_; refine y_exit _ rfl ?_) | refine y_label ?_) | refine yl_nil ?_ | refine y_blk ?_ | (refine is_lg ?_; first | refine yl_guard_yes rfl ?_ | refine yl_guard_no rfl rfl rfl ?_) | (refine is_fv ?_; first | refine yf_pure tabOk rfl rfl rfl ?_ | (refine yf_isload ?_; first | refine yf_loadB tabOk rfl rfl rfl (by assumption) (by first | assumption | simp) (by rfl) ?_ | refine yf_loadAB tabOk rfl rfl rfl (by assumption) (by first | assumption | simp) (by rfl) (by rfl) ?_)) | refine yf_nil ?_ | (refine is_fg ?_; first | refine yf_guard_yes rfl ?_ | refine yf_guard_no rfl rfl rfl ?_))
      refine y_k (hK _ _ _ _ ⟨j + 1, o, by omega, rfl, rfl, ?_, hcw.trans hcr15⟩ (by omega) ⟨rfl, rfl, rfl, rfl, rfl, ?_, trivial⟩)
      · rw [blind_succ _ _ _ hjF, if_pos hjk]
        exact hown15
      · show some (Value.int _ (IntKind.i64.wrap (↑j + 1))) = _
        rw [w64 (by omega) (by omega)]
        rfl
  obtain rfl : j = l.length := by omega
  have hof : Of l (blind (shF l') k l.length) := by
    intro s hs
    rw [blind, ← hlen', ← shF_length l', List.take_length] at hs
    obtain ⟨i, hi, hik, rfl⟩ := List.mem_eraseIdx_iff_getElem.1 hs
    have hi' : i < l'.length := by rw [shF_length] at hi; exact hi
    refine ⟨i, by omega, ?_⟩
    rw [shF_get l' i hi, hget' i hi', if_neg hik]
  have hRb : Right l (blind (shF l') k l.length) := right_of hn1 (by omega) hl rfl hl hof (by
    have := blind_length (shF l') k l.length
    rw [shF_length] at this
    omega)
  have hpotb : Pot l.length (linksOf l.length (blind (shF l') k l.length) l) (psum l) := pot_sum (by omega) hl hof (fun i x hx => by
    obtain ⟨hi, rfl⟩ := List.getElem?_eq_some_iff.1 hx
    exact ⟨hi, Int.le_refl _⟩)
  repeat (first | (refine is_lv ?_; first | refine yl_pure tabOk rfl rfl ?_ | (refine yl_isload ?_; first | refine yl_loadB tabOk rfl rfl rfl (by assumption) (by rfl) ?_ | refine yl_loadAB tabOk rfl rfl rfl (by assumption) (by rfl) (by rfl) ?_)) | (refine is_c ?_; first | refine y_seq ?_ | refine y_region ?_ | refine y_skip ?_ | refine y_block ?_ | refine y_ret ?_ | (refine is_cond ?_; first | refine y_cond_true rfl ?_ | refine y_cond_false rfl ?_) | (refine is_exit ?_; refine y_exit _ rfl ?_) | refine y_label ?_) | refine yl_nil ?_ | refine y_blk ?_ | (refine is_lg ?_; first | refine yl_guard_yes rfl ?_ | refine yl_guard_no rfl rfl rfl ?_) | (refine is_fv ?_; first | refine yf_pure tabOk rfl rfl rfl ?_ | (refine yf_isload ?_; first | refine yf_loadB tabOk rfl rfl rfl (by assumption) (by first | assumption | simp) (by rfl) ?_ | refine yf_loadAB tabOk rfl rfl rfl (by assumption) (by first | assumption | simp) (by rfl) (by rfl) ?_)) | refine yf_nil ?_ | (refine is_fg ?_; first | refine yf_guard_yes rfl ?_ | refine yf_guard_no rfl rfl rfl ?_))
  refine yl_call tabOk rfl rfl rfl rfl (few_ca wr _ _ _ _ _ _ l (blind (shF l') k l.length) (hI13.keep hcw) (RdE.ofOwn (by rw [shs_len]; exact hown) (shs_sz _)) hRb) ?_
  rintro _ w18 ⟨rfl, hc18⟩
  rw [fewB_pot hRb hpotb]
  repeat (first | (refine is_lv ?_; first | refine yl_pure tabOk rfl rfl ?_ | (refine yl_isload ?_; first | refine yl_loadB tabOk rfl rfl rfl (by assumption) (by rfl) ?_ | refine yl_loadAB tabOk rfl rfl rfl (by assumption) (by rfl) (by rfl) ?_)) | (refine is_c ?_; first | refine y_seq ?_ | refine y_region ?_ | refine y_skip ?_ | refine y_block ?_ | refine y_ret ?_ | (refine is_cond ?_; first | refine y_cond_true rfl ?_ | refine y_cond_false rfl ?_) | (refine is_exit ?_; refine y_exit _ rfl ?_) | refine y_label ?_) | refine yl_nil ?_ | refine y_blk ?_ | (refine is_lg ?_; first | refine yl_guard_yes rfl ?_ | refine yl_guard_no rfl rfl rfl ?_) | (refine is_fv ?_; first | refine yf_pure tabOk rfl rfl rfl ?_ | (refine yf_isload ?_; first | refine yf_loadB tabOk rfl rfl rfl (by assumption) (by first | assumption | simp) (by rfl) ?_ | refine yf_loadAB tabOk rfl rfl rfl (by assumption) (by first | assumption | simp) (by rfl) (by rfl) ?_)) | refine yf_nil ?_ | (refine is_fg ?_; first | refine yf_guard_yes rfl ?_ | refine yf_guard_no rfl rfl rfl ?_))
  exact y_fin1 rfl rfl ⟨rfl, (hc013.trans hcw).trans hc18⟩

end Go.Proofs.Ytmfeegebijejjaa
