/- My texts E15, joined: a claim takes at most 60 files. -/
import Derived.Test.YtgeajgmefokifaaJ4

/- The walk of CourseWinters. -/
namespace Go.Proofs.Ytgeajgmefokifaa
open Go Go.Eng

theorem rdI_full {w : World} {lo hi : Nat} {v : Value} {l : List Int} (h : RdI w lo hi v l) : RdI w 0 w.heap.size v l := by
  refine RdI.of ?_
  have hr : Rd w lo hi v 1 l.length (ints l) := by have := h.rd; rw [cellsOf_ints] at this; simpa using this
  obtain ⟨h1, h2⟩ := hr
  refine ⟨h1, ?_⟩
  rcases h2 with h2 | ⟨b, off, cap, hv, hb, hc⟩
  · exact .inl h2
  · exact .inr ⟨b, off, cap, hv, fun hp => ⟨Nat.zero_le _, (hb hp).2.2, (hb hp).2.2⟩, hc⟩
/-- Three lists in a slice. -/
theorem rdII_3 {w : World} {b : Nat} {v1 v2 v3 : Value} {t : Wt} {ty : TypeId} (hb : Blk w b [v1, v2, v3] ty) (h : WtR w t v1 v2 v3) : RdII w 0 w.heap.size (.slice (some ⟨b, 0, none⟩) 3 3) [t.need, t.make, t.loss] := by
  obtain ⟨p1, q1, r1⟩ := h.n
  obtain ⟨p2, q2, r2⟩ := h.m
  obtain ⟨p3, q3, r3⟩ := h.l
  refine ⟨[v1, v2, v3], ?_, rfl, fun i h1 h2 => ?_⟩
  · refine RdE.one ⟨rfl, .inr ⟨b, 0, 3, rfl, fun _ => ⟨Nat.zero_le _, hb.lt, hb.lt⟩, fun j _ => ?_⟩⟩ (fun e he => ?_)
    · rw [Nat.zero_add]
      exact hb.cell j
    · simp only [List.mem_cons, List.not_mem_nil, or_false] at he
      rcases he with rfl | rfl | rfl
      · exact RdI.one r1
      · exact RdI.one r2
      · exact RdI.one r3
  · match i, h1 with
    | 0, _ => exact rdI_full r1
    | 1, _ => exact rdI_full r2
    | 2, _ => exact rdI_full r3
theorem posP_take (l : List Int) {k : Nat} (hk : k < l.length) : posP (-1) (l.take (k + 1)) = posP (-1) (l.take k) ++ if l[k] > 0 then [((k : Int) - 1, l[k])] else [] := by
  rw [List.take_succ_eq_append_getElem hk, posP_append]
  congr 1
  simp only [posP, List.length_take]
  rw [List.append_nil]
  split
  · congr 2
    omega
  · rfl
theorem posP_len : ∀ (l : List Int) (d : Int), (posP d l).length ≤ l.length
  | [], _ => by simp [posP]
  | n :: r, d => by
    have := posP_len r (d + 1)
    simp only [posP, List.length_append, List.length_cons]
    split <;> simp <;> omega
set_option maxRecDepth 20000 in
set_option maxHeartbeats 16000000 in
theorem courseWinters_ca (w : World) (lo hi : Nat) (x : Wn) (a : Option Addr) (c : Nat) (t : Wt) (v1 v2 v3 : Value) (h : RdD w lo hi (.slice a x.days.length c) x.days) (hlen0 : x.days.length ≤ maxLen) (hw : WtR w t v1 v2 v3) (n1 : t.need.length ≤ maxLen) (n2 : t.make.length ≤ maxLen) (n3 : t.loss.length ≤ maxLen) :
    Ca Try.prog 16 [.agg (wnC x a c).toArray, .agg #[v1, v2, v3]] w fun r w' => r = .bool true ∧ Chg [] w w' := by
  obtain ⟨a1, c1, rfl, _⟩ := RdI.outI hw.n.choose_spec.choose_spec
  obtain ⟨a2, c2, rfl, _⟩ := RdI.outI hw.m.choose_spec.choose_spec
  obtain ⟨a3, c3, rfl, _⟩ := RdI.outI hw.l.choose_spec.choose_spec
  refine q_of (Sat.nil w M0) Try.func16 rfl (by simp [Try.ntmps16]) ?_
  (refine q_seq ?_; refine q_region ?_)
  refine ql_box rfl rfl (fun b2 => ?_)
  refine ql_box rfl rfl (fun b3 => ?_)
  (refine ql_pure tabOk rfl rfl ?_; refine q_nil ?_; (iterate 2 refine q_seq ?_); refine q_region ?_; refine ql_loadAB tabOk rfl rfl rfl (by repeat first | exact .head _ | refine .tail _ ?_) (by rfl) (by rfl) ?_; refine ql_pure tabOk rfl rfl ?_; refine ql_loadB tabOk rfl rfl rfl (by repeat first | exact .head _ | refine .tail _ ?_) (by rfl) ?_; refine ql_pure tabOk rfl rfl ?_; refine ql_loadB tabOk rfl rfl rfl (by repeat first | exact .head _ | refine .tail _ ?_) (by rfl) ?_; refine ql_pure tabOk rfl rfl ?_; refine ql_loadB tabOk rfl rfl rfl (by repeat first | exact .head _ | refine .tail _ ?_) (by rfl) ?_)
  refine ql_mkS 27 [.slice a1 t.need.length c1, .slice a2 t.make.length c2, .slice a3 t.loss.length c3] rfl (by kernel_rfl) rfl (fun b0 => ?_)
  skip
  refine ql_callv (val := .bool (longB x.days.length [t.need, t.make, t.loss])) tabOk rfl rfl rfl rfl (fun w hs => ?_) ?_; exact longW_ca w 0 w.heap.size x a c _ [t.need, t.make, t.loss] (rdII_3 (hs.blk (b := b0) (by repeat first | exact .head _ | refine .tail _ ?_)) (hw.keep hs.chg0)) (by simp) (by simp; omega) hlen0
  cases hlo : longB x.days.length [t.need, t.make, t.loss] with
  | true =>
    (refine q_nil ?_; refine q_cond_true rfl ?_; refine q_seq ?_; refine q_region ?_)
    refine ql_callv (val := .bool true) tabOk rfl rfl rfl rfl (fun w hs => ?_) ?_; exact awake_ca w
    (refine ql_pure tabOk rfl rfl ?_; refine q_nil ?_; refine q_ret ?_)
    refine q_fin tabOk rfl (by repeat (first | exact RVs.nil | apply RVs.tmp rfl | apply RVs.cellA rfl rfl (by repeat first | exact .head _ | refine .tail _ ?_) (by rfl) | apply RVs.cell1 rfl rfl (by repeat first | exact .head _ | refine .tail _ ?_))) fun w hs => ?_
    exact ⟨rfl, hs.chg0⟩
  | false =>
  obtain ⟨hlen, hls⟩ := longB_no hlo
  have l1 : t.need.length ≤ 70 := hls _ (by simp)
  have l2 : t.make.length ≤ 70 := hls _ (by simp)
  have l3 : t.loss.length ≤ 70 := hls _ (by simp)
  clear hlo hls hlen0 n1 n2 n3
  (refine q_nil ?_)
  refine q_cond_false rfl ?_
  skip
  refine q_skip ?_
  (refine q_seq ?_)
  refine q_conv (H' := [.pt b2 (wnC x a c) 61, .pt b3 [.slice a1 t.need.length c1, .slice a2 t.make.length c2, .slice a3 t.loss.length c3] 107]) (fun w' hs => (hs.sp (by repeat (first | exact Sp.nil | exact Sp.refl _ | refine Sp.cons (by repeat constructor) ?_)) : Sat w M0 ([.pt b0 [.slice a1 t.need.length c1, .slice a2 t.make.length c2, .slice a3 t.loss.length c3] 27] ++ [.pt b2 (wnC x a c) 61, .pt b3 [.slice a1 t.need.length c1, .slice a2 t.make.length c2, .slice a3 t.loss.length c3] 107]) w').right) ?_
  refine q_cut (σ := Option Addr × Nat × Option Addr × Nat × Option Addr × Nat × Option Addr × Nat × Option Addr × Nat × Nat × Nat × Nat) (fun ⟨ua, uc, ma1, mc1, ma2, mc2, ma3, mc3, ra, rc, b5, b6, b7⟩ => [(2, .pointer (some ⟨b2, 0, none⟩)), (3, .pointer (some ⟨b3, 0, none⟩)), (5, .pointer (some ⟨b5, 0, none⟩)), (6, .pointer (some ⟨b6, 0, none⟩)), (7, .pointer (some ⟨b7, 0, none⟩))])
    (fun ⟨ua, uc, ma1, mc1, ma2, mc2, ma3, mc3, ra, rc, b5, b6, b7⟩ => [.pt b5 (wnC x ua uc) 61, .pt b6 [.slice ma1 t.need.length mc1, .slice ma2 t.make.length mc2, .slice ma3 t.loss.length mc3] 107, .pt b7 (wnC x ra rc) 93, .ow (.slice ua x.days.length uc) 73 6 x.days.length (dyC x.days), .ow (.slice ma1 t.need.length mc1) 3 1 t.need.length (ints t.need), .ow (.slice ma2 t.make.length mc2) 3 1 t.make.length (ints t.make), .ow (.slice ma3 t.loss.length mc3) 3 1 t.loss.length (ints t.loss), .ow (.slice ra x.days.length rc) 176 6 x.days.length (dyC x.days), .pt b2 (wnC x a c) 61, .pt b3 [.slice a1 t.need.length c1, .slice a2 t.make.length c2, .slice a3 t.loss.length c3] 107]) ?_ (fun K2 hK2 => ?_)
  rotate_left
  · skip
    refine q_drawT (.alt (chainT [0, 1] (.alt (chainT [2, 3] (.alt (chainT [4, 5] (.alt (chainT [6] (.alt (chainT [7] (chainT [8] (chainT [9, 10, 11] (.nil)))) (chainT [8] (chainT [7] (chainT [9, 10, 11] (.nil)))))) (.alt (chainT [7] (.alt (chainT [6] (chainT [8] (chainT [9, 10, 11] (.nil)))) (chainT [8] (chainT [6] (chainT [9, 10, 11] (.nil)))))) (chainT [8] (.alt (chainT [6] (chainT [7] (chainT [9, 10, 11] (.nil)))) (chainT [7] (chainT [6] (chainT [9, 10, 11] (.nil))))))))) (.alt (chainT [6] (.alt (chainT [4, 5] (.alt (chainT [7] (chainT [8] (chainT [9, 10, 11] (.nil)))) (chainT [8] (chainT [7] (chainT [9, 10, 11] (.nil)))))) (.alt (chainT [7] (.alt (chainT [4, 5] (chainT [8] (chainT [9, 10, 11] (.nil)))) (chainT [8] (chainT [4, 5] (chainT [9, 10, 11] (.nil)))))) (chainT [8] (.alt (chainT [4, 5] (chainT [7] (chainT [9, 10, 11] (.nil)))) (chainT [7] (chainT [4, 5] (chainT [9, 10, 11] (.nil))))))))) (.alt (chainT [7] (.alt (chainT [4, 5] (.alt (chainT [6] (chainT [8] (chainT [9, 10, 11] (.nil)))) (chainT [8] (chainT [6] (chainT [9, 10, 11] (.nil)))))) (.alt (chainT [6] (.alt (chainT [4, 5] (chainT [8] (chainT [9, 10, 11] (.nil)))) (chainT [8] (chainT [4, 5] (chainT [9, 10, 11] (.nil)))))) (chainT [8] (.alt (chainT [4, 5] (chainT [6] (chainT [9, 10, 11] (.nil)))) (chainT [6] (chainT [4, 5] (chainT [9, 10, 11] (.nil))))))))) (chainT [8] (.alt (chainT [4, 5] (.alt (chainT [6] (chainT [7] (chainT [9, 10, 11] (.nil)))) (chainT [7] (chainT [6] (chainT [9, 10, 11] (.nil)))))) (.alt (chainT [6] (.alt (chainT [4, 5] (chainT [7] (chainT [9, 10, 11] (.nil)))) (chainT [7] (chainT [4, 5] (chainT [9, 10, 11] (.nil)))))) (chainT [7] (.alt (chainT [4, 5] (chainT [6] (chainT [9, 10, 11] (.nil)))) (chainT [6] (chainT [4, 5] (chainT [9, 10, 11] (.nil))))))))))))) (.alt (chainT [6] (.alt (chainT [2, 3] (.alt (chainT [4, 5] (.alt (chainT [7] (chainT [8] (chainT [9, 10, 11] (.nil)))) (chainT [8] (chainT [7] (chainT [9, 10, 11] (.nil)))))) (.alt (chainT [7] (.alt (chainT [4, 5] (chainT [8] (chainT [9, 10, 11] (.nil)))) (chainT [8] (chainT [4, 5] (chainT [9, 10, 11] (.nil)))))) (chainT [8] (.alt (chainT [4, 5] (chainT [7] (chainT [9, 10, 11] (.nil)))) (chainT [7] (chainT [4, 5] (chainT [9, 10, 11] (.nil))))))))) (.alt (chainT [7] (.alt (chainT [2, 3] (.alt (chainT [4, 5] (chainT [8] (chainT [9, 10, 11] (.nil)))) (chainT [8] (chainT [4, 5] (chainT [9, 10, 11] (.nil)))))) (chainT [8] (chainT [2, 3] (chainT [4, 5] (chainT [9, 10, 11] (.nil))))))) (chainT [8] (.alt (chainT [2, 3] (.alt (chainT [4, 5] (chainT [7] (chainT [9, 10, 11] (.nil)))) (chainT [7] (chainT [4, 5] (chainT [9, 10, 11] (.nil)))))) (chainT [7] (chainT [2, 3] (chainT [4, 5] (chainT [9, 10, 11] (.nil)))))))))) (.alt (chainT [7] (.alt (chainT [2, 3] (.alt (chainT [4, 5] (.alt (chainT [6] (chainT [8] (chainT [9, 10, 11] (.nil)))) (chainT [8] (chainT [6] (chainT [9, 10, 11] (.nil)))))) (.alt (chainT [6] (.alt (chainT [4, 5] (chainT [8] (chainT [9, 10, 11] (.nil)))) (chainT [8] (chainT [4, 5] (chainT [9, 10, 11] (.nil)))))) (chainT [8] (.alt (chainT [4, 5] (chainT [6] (chainT [9, 10, 11] (.nil)))) (chainT [6] (chainT [4, 5] (chainT [9, 10, 11] (.nil))))))))) (.alt (chainT [6] (.alt (chainT [2, 3] (.alt (chainT [4, 5] (chainT [8] (chainT [9, 10, 11] (.nil)))) (chainT [8] (chainT [4, 5] (chainT [9, 10, 11] (.nil)))))) (chainT [8] (chainT [2, 3] (chainT [4, 5] (chainT [9, 10, 11] (.nil))))))) (chainT [8] (.alt (chainT [2, 3] (.alt (chainT [4, 5] (chainT [6] (chainT [9, 10, 11] (.nil)))) (chainT [6] (chainT [4, 5] (chainT [9, 10, 11] (.nil)))))) (chainT [6] (chainT [2, 3] (chainT [4, 5] (chainT [9, 10, 11] (.nil)))))))))) (chainT [8] (.alt (chainT [2, 3] (.alt (chainT [4, 5] (.alt (chainT [6] (chainT [7] (chainT [9, 10, 11] (.nil)))) (chainT [7] (chainT [6] (chainT [9, 10, 11] (.nil)))))) (.alt (chainT [6] (.alt (chainT [4, 5] (chainT [7] (chainT [9, 10, 11] (.nil)))) (chainT [7] (chainT [4, 5] (chainT [9, 10, 11] (.nil)))))) (chainT [7] (.alt (chainT [4, 5] (chainT [6] (chainT [9, 10, 11] (.nil)))) (chainT [6] (chainT [4, 5] (chainT [9, 10, 11] (.nil))))))))) (.alt (chainT [6] (.alt (chainT [2, 3] (.alt (chainT [4, 5] (chainT [7] (chainT [9, 10, 11] (.nil)))) (chainT [7] (chainT [4, 5] (chainT [9, 10, 11] (.nil)))))) (chainT [7] (chainT [2, 3] (chainT [4, 5] (chainT [9, 10, 11] (.nil))))))) (chainT [7] (.alt (chainT [2, 3] (.alt (chainT [4, 5] (chainT [6] (chainT [9, 10, 11] (.nil)))) (chainT [6] (chainT [4, 5] (chainT [9, 10, 11] (.nil)))))) (chainT [6] (chainT [2, 3] (chainT [4, 5] (chainT [9, 10, 11] (.nil)))))))))))))) (.alt (chainT [6] (.alt (chainT [0, 1] (.alt (chainT [2, 3] (.alt (chainT [4, 5] (.alt (chainT [7] (chainT [8] (chainT [9, 10, 11] (.nil)))) (chainT [8] (chainT [7] (chainT [9, 10, 11] (.nil)))))) (.alt (chainT [7] (.alt (chainT [4, 5] (chainT [8] (chainT [9, 10, 11] (.nil)))) (chainT [8] (chainT [4, 5] (chainT [9, 10, 11] (.nil)))))) (chainT [8] (.alt (chainT [4, 5] (chainT [7] (chainT [9, 10, 11] (.nil)))) (chainT [7] (chainT [4, 5] (chainT [9, 10, 11] (.nil))))))))) (.alt (chainT [7] (.alt (chainT [2, 3] (.alt (chainT [4, 5] (chainT [8] (chainT [9, 10, 11] (.nil)))) (chainT [8] (chainT [4, 5] (chainT [9, 10, 11] (.nil)))))) (chainT [8] (chainT [2, 3] (chainT [4, 5] (chainT [9, 10, 11] (.nil))))))) (chainT [8] (.alt (chainT [2, 3] (.alt (chainT [4, 5] (chainT [7] (chainT [9, 10, 11] (.nil)))) (chainT [7] (chainT [4, 5] (chainT [9, 10, 11] (.nil)))))) (chainT [7] (chainT [2, 3] (chainT [4, 5] (chainT [9, 10, 11] (.nil)))))))))) (.alt (chainT [7] (.alt (chainT [0, 1] (.alt (chainT [2, 3] (.alt (chainT [4, 5] (chainT [8] (chainT [9, 10, 11] (.nil)))) (chainT [8] (chainT [4, 5] (chainT [9, 10, 11] (.nil)))))) (chainT [8] (chainT [2, 3] (chainT [4, 5] (chainT [9, 10, 11] (.nil))))))) (chainT [8] (chainT [0, 1] (chainT [2, 3] (chainT [4, 5] (chainT [9, 10, 11] (.nil)))))))) (chainT [8] (.alt (chainT [0, 1] (.alt (chainT [2, 3] (.alt (chainT [4, 5] (chainT [7] (chainT [9, 10, 11] (.nil)))) (chainT [7] (chainT [4, 5] (chainT [9, 10, 11] (.nil)))))) (chainT [7] (chainT [2, 3] (chainT [4, 5] (chainT [9, 10, 11] (.nil))))))) (chainT [7] (chainT [0, 1] (chainT [2, 3] (chainT [4, 5] (chainT [9, 10, 11] (.nil))))))))))) (.alt (chainT [7] (.alt (chainT [0, 1] (.alt (chainT [2, 3] (.alt (chainT [4, 5] (.alt (chainT [6] (chainT [8] (chainT [9, 10, 11] (.nil)))) (chainT [8] (chainT [6] (chainT [9, 10, 11] (.nil)))))) (.alt (chainT [6] (.alt (chainT [4, 5] (chainT [8] (chainT [9, 10, 11] (.nil)))) (chainT [8] (chainT [4, 5] (chainT [9, 10, 11] (.nil)))))) (chainT [8] (.alt (chainT [4, 5] (chainT [6] (chainT [9, 10, 11] (.nil)))) (chainT [6] (chainT [4, 5] (chainT [9, 10, 11] (.nil))))))))) (.alt (chainT [6] (.alt (chainT [2, 3] (.alt (chainT [4, 5] (chainT [8] (chainT [9, 10, 11] (.nil)))) (chainT [8] (chainT [4, 5] (chainT [9, 10, 11] (.nil)))))) (chainT [8] (chainT [2, 3] (chainT [4, 5] (chainT [9, 10, 11] (.nil))))))) (chainT [8] (.alt (chainT [2, 3] (.alt (chainT [4, 5] (chainT [6] (chainT [9, 10, 11] (.nil)))) (chainT [6] (chainT [4, 5] (chainT [9, 10, 11] (.nil)))))) (chainT [6] (chainT [2, 3] (chainT [4, 5] (chainT [9, 10, 11] (.nil)))))))))) (.alt (chainT [6] (.alt (chainT [0, 1] (.alt (chainT [2, 3] (.alt (chainT [4, 5] (chainT [8] (chainT [9, 10, 11] (.nil)))) (chainT [8] (chainT [4, 5] (chainT [9, 10, 11] (.nil)))))) (chainT [8] (chainT [2, 3] (chainT [4, 5] (chainT [9, 10, 11] (.nil))))))) (chainT [8] (chainT [0, 1] (chainT [2, 3] (chainT [4, 5] (chainT [9, 10, 11] (.nil)))))))) (chainT [8] (.alt (chainT [0, 1] (.alt (chainT [2, 3] (.alt (chainT [4, 5] (chainT [6] (chainT [9, 10, 11] (.nil)))) (chainT [6] (chainT [4, 5] (chainT [9, 10, 11] (.nil)))))) (chainT [6] (chainT [2, 3] (chainT [4, 5] (chainT [9, 10, 11] (.nil))))))) (chainT [6] (chainT [0, 1] (chainT [2, 3] (chainT [4, 5] (chainT [9, 10, 11] (.nil))))))))))) (chainT [8] (.alt (chainT [0, 1] (.alt (chainT [2, 3] (.alt (chainT [4, 5] (.alt (chainT [6] (chainT [7] (chainT [9, 10, 11] (.nil)))) (chainT [7] (chainT [6] (chainT [9, 10, 11] (.nil)))))) (.alt (chainT [6] (.alt (chainT [4, 5] (chainT [7] (chainT [9, 10, 11] (.nil)))) (chainT [7] (chainT [4, 5] (chainT [9, 10, 11] (.nil)))))) (chainT [7] (.alt (chainT [4, 5] (chainT [6] (chainT [9, 10, 11] (.nil)))) (chainT [6] (chainT [4, 5] (chainT [9, 10, 11] (.nil))))))))) (.alt (chainT [6] (.alt (chainT [2, 3] (.alt (chainT [4, 5] (chainT [7] (chainT [9, 10, 11] (.nil)))) (chainT [7] (chainT [4, 5] (chainT [9, 10, 11] (.nil)))))) (chainT [7] (chainT [2, 3] (chainT [4, 5] (chainT [9, 10, 11] (.nil))))))) (chainT [7] (.alt (chainT [2, 3] (.alt (chainT [4, 5] (chainT [6] (chainT [9, 10, 11] (.nil)))) (chainT [6] (chainT [4, 5] (chainT [9, 10, 11] (.nil)))))) (chainT [6] (chainT [2, 3] (chainT [4, 5] (chainT [9, 10, 11] (.nil)))))))))) (.alt (chainT [6] (.alt (chainT [0, 1] (.alt (chainT [2, 3] (.alt (chainT [4, 5] (chainT [7] (chainT [9, 10, 11] (.nil)))) (chainT [7] (chainT [4, 5] (chainT [9, 10, 11] (.nil)))))) (chainT [7] (chainT [2, 3] (chainT [4, 5] (chainT [9, 10, 11] (.nil))))))) (chainT [7] (chainT [0, 1] (chainT [2, 3] (chainT [4, 5] (chainT [9, 10, 11] (.nil)))))))) (chainT [7] (.alt (chainT [0, 1] (.alt (chainT [2, 3] (.alt (chainT [4, 5] (chainT [6] (chainT [9, 10, 11] (.nil)))) (chainT [6] (chainT [4, 5] (chainT [9, 10, 11] (.nil)))))) (chainT [6] (chainT [2, 3] (chainT [4, 5] (chainT [9, 10, 11] (.nil))))))) (chainT [6] (chainT [0, 1] (chainT [2, 3] (chainT [4, 5] (chainT [9, 10, 11] (.nil)))))))))))))) _ [] (Sp.refl _) (by kernel_rfl) (by kernel_rfl) ?_
    refine qt_let (σ := Option Addr × Nat × Option Addr × Nat × Option Addr × Nat × Option Addr × Nat × Option Addr × Nat × Nat × Nat × Nat × Unit) (.nil) (fun ⟨ua, uc, ma1, mc1, ma2, mc2, ma3, mc3, ra, rc, b5, b6, b7, ()⟩ => [(2, .pointer (some ⟨b2, 0, none⟩)), (3, .pointer (some ⟨b3, 0, none⟩)), (5, .pointer (some ⟨b5, 0, none⟩)), (6, .pointer (some ⟨b6, 0, none⟩)), (7, .pointer (some ⟨b7, 0, none⟩))]) (fun ⟨ua, uc, ma1, mc1, ma2, mc2, ma3, mc3, ra, rc, b5, b6, b7, ()⟩ => [.pt b5 (wnC x ua uc) 61, .pt b6 [.slice ma1 t.need.length mc1, .slice ma2 t.make.length mc2, .slice ma3 t.loss.length mc3] 107, .pt b7 (wnC x ra rc) 93, .ow (.slice ua x.days.length uc) 73 6 x.days.length (dyC x.days), .ow (.slice ma1 t.need.length mc1) 3 1 t.need.length (ints t.need), .ow (.slice ma2 t.make.length mc2) 3 1 t.make.length (ints t.make), .ow (.slice ma3 t.loss.length mc3) 3 1 t.loss.length (ints t.loss), .ow (.slice ra x.days.length rc) 176 6 x.days.length (dyC x.days)]) ?_ (fun hS1_3_5_6_7_8_11 => ?_)
    · rintro ⟨ua, uc, ma1, mc1, ma2, mc2, ma3, mc3, ra, rc, b5, b6, b7, _⟩
      exact qt_nil (hK2 ⟨ua, uc, ma1, mc1, ma2, mc2, ma3, mc3, ra, rc, b5, b6, b7⟩ _ _ ⟨rfl, rfl, rfl, rfl, rfl, trivial⟩ (by repeat (first | exact Sp.nil | exact Sp.refl _ | refine Sp.cons (by repeat constructor) ?_)))
    refine qt_let (σ := Option Addr × Nat × Option Addr × Nat × Option Addr × Nat × Option Addr × Nat × Option Addr × Nat × Nat × Nat × Nat × Unit) (chainT [9, 10, 11] (.nil)) (fun ⟨ua, uc, ma1, mc1, ma2, mc2, ma3, mc3, ra, rc, b5, b6, b7, ()⟩ => [(2, .pointer (some ⟨b2, 0, none⟩)), (3, .pointer (some ⟨b3, 0, none⟩)), (5, .pointer (some ⟨b5, 0, none⟩)), (6, .pointer (some ⟨b6, 0, none⟩)), (7, .pointer (some ⟨b7, 0, none⟩)), (38, .agg (wnC x ua uc).toArray), (40, .agg #[.slice ma1 t.need.length mc1, .slice ma2 t.make.length mc2, .slice ma3 t.loss.length mc3]), (42, .agg (wnC x ra rc).toArray)]) (fun ⟨ua, uc, ma1, mc1, ma2, mc2, ma3, mc3, ra, rc, b5, b6, b7, ()⟩ => [.pt b5 [.int .i64 0, .int .i64 0, .slice none 0 0] 61, .pt b6 [.slice none 0 0, .slice none 0 0, .slice none 0 0] 107, .pt b7 [.int .i64 0, .int .i64 0, .slice none 0 0] 93, .ow (.slice ua x.days.length uc) 73 6 x.days.length (dyC x.days), .ow (.slice ma1 t.need.length mc1) 3 1 t.need.length (ints t.need), .ow (.slice ma2 t.make.length mc2) 3 1 t.make.length (ints t.make), .ow (.slice ma3 t.loss.length mc3) 3 1 t.loss.length (ints t.loss), .ow (.slice ra x.days.length rc) 176 6 x.days.length (dyC x.days)]) ?_ (fun hS1_3_5_6_7_8 => ?_)
    · rintro ⟨ua, uc, ma1, mc1, ma2, mc2, ma3, mc3, ra, rc, b5, b6, b7, _⟩
      refine qt_seg (by repeat (first | exact PickL.nil | (apply PickL.cons; rfl))) fun K1 hK1 => ?_
      ((iterate 3 refine qf_setA tabOk rfl rfl rfl rfl rfl (by repeat constructor) rfl ?_); refine qf_nil ?_)
      skip
      exact hK1 _ _ (hS1_3_5_6_7_8_11 ⟨ua, uc, ma1, mc1, ma2, mc2, ma3, mc3, ra, rc, b5, b6, b7, ()⟩ _ _ ⟨rfl, rfl, rfl, rfl, rfl, trivial⟩ (by repeat (first | exact Sp.nil | exact Sp.refl _ | refine Sp.cons (by repeat constructor) ?_)))
    refine qt_let (σ := Option Addr × Nat × Option Addr × Nat × Option Addr × Nat × Option Addr × Nat × Option Addr × Nat × Nat × Nat × Unit) (chainT [8] (chainT [9, 10, 11] (.nil))) (fun ⟨ua, uc, ma1, mc1, ma2, mc2, ma3, mc3, ra, rc, b5, b6, ()⟩ => [(2, .pointer (some ⟨b2, 0, none⟩)), (3, .pointer (some ⟨b3, 0, none⟩)), (5, .pointer (some ⟨b5, 0, none⟩)), (6, .pointer (some ⟨b6, 0, none⟩)), (38, .agg (wnC x ua uc).toArray), (40, .agg #[.slice ma1 t.need.length mc1, .slice ma2 t.make.length mc2, .slice ma3 t.loss.length mc3]), (42, .agg (wnC x ra rc).toArray)]) (fun ⟨ua, uc, ma1, mc1, ma2, mc2, ma3, mc3, ra, rc, b5, b6, ()⟩ => [.pt b5 [.int .i64 0, .int .i64 0, .slice none 0 0] 61, .pt b6 [.slice none 0 0, .slice none 0 0, .slice none 0 0] 107, .ow (.slice ua x.days.length uc) 73 6 x.days.length (dyC x.days), .ow (.slice ma1 t.need.length mc1) 3 1 t.need.length (ints t.need), .ow (.slice ma2 t.make.length mc2) 3 1 t.make.length (ints t.make), .ow (.slice ma3 t.loss.length mc3) 3 1 t.loss.length (ints t.loss), .ow (.slice ra x.days.length rc) 176 6 x.days.length (dyC x.days)]) ?_ (fun hS1_3_5_6_7 => ?_)
    · rintro ⟨ua, uc, ma1, mc1, ma2, mc2, ma3, mc3, ra, rc, b5, b6, _⟩
      refine qt_seg (by repeat (first | exact PickL.nil | (apply PickL.cons; rfl))) fun K1 hK1 => ?_
      skip
      refine qf_alloc zero93 rfl (fun b7 => ?_)
      (refine qf_nil ?_)
      exact hK1 _ _ (hS1_3_5_6_7_8 ⟨ua, uc, ma1, mc1, ma2, mc2, ma3, mc3, ra, rc, b5, b6, b7, ()⟩ _ _ ⟨rfl, rfl, rfl, rfl, rfl, rfl, rfl, rfl, trivial⟩ (by repeat (first | exact Sp.nil | exact Sp.refl _ | refine Sp.cons (by repeat constructor) ?_)))
    refine qt_let (σ := Option Addr × Nat × Option Addr × Nat × Option Addr × Nat × Option Addr × Nat × Option Addr × Nat × Nat × Nat × Unit) (chainT [7] (chainT [9, 10, 11] (.nil))) (fun ⟨ua, uc, ma1, mc1, ma2, mc2, ma3, mc3, ra, rc, b5, b7, ()⟩ => [(2, .pointer (some ⟨b2, 0, none⟩)), (3, .pointer (some ⟨b3, 0, none⟩)), (5, .pointer (some ⟨b5, 0, none⟩)), (7, .pointer (some ⟨b7, 0, none⟩)), (38, .agg (wnC x ua uc).toArray), (40, .agg #[.slice ma1 t.need.length mc1, .slice ma2 t.make.length mc2, .slice ma3 t.loss.length mc3]), (42, .agg (wnC x ra rc).toArray)]) (fun ⟨ua, uc, ma1, mc1, ma2, mc2, ma3, mc3, ra, rc, b5, b7, ()⟩ => [.pt b5 [.int .i64 0, .int .i64 0, .slice none 0 0] 61, .pt b7 [.int .i64 0, .int .i64 0, .slice none 0 0] 93, .ow (.slice ua x.days.length uc) 73 6 x.days.length (dyC x.days), .ow (.slice ma1 t.need.length mc1) 3 1 t.need.length (ints t.need), .ow (.slice ma2 t.make.length mc2) 3 1 t.make.length (ints t.make), .ow (.slice ma3 t.loss.length mc3) 3 1 t.loss.length (ints t.loss), .ow (.slice ra x.days.length rc) 176 6 x.days.length (dyC x.days)]) ?_ (fun hS1_3_5_6_8 => ?_)
    · rintro ⟨ua, uc, ma1, mc1, ma2, mc2, ma3, mc3, ra, rc, b5, b7, _⟩
      refine qt_seg (by repeat (first | exact PickL.nil | (apply PickL.cons; rfl))) fun K1 hK1 => ?_
      skip
      refine qf_alloc zero107 rfl (fun b6 => ?_)
      (refine qf_nil ?_)
      exact hK1 _ _ (hS1_3_5_6_7_8 ⟨ua, uc, ma1, mc1, ma2, mc2, ma3, mc3, ra, rc, b5, b6, b7, ()⟩ _ _ ⟨rfl, rfl, rfl, rfl, rfl, rfl, rfl, rfl, trivial⟩ (by repeat (first | exact Sp.nil | exact Sp.refl _ | refine Sp.cons (by repeat constructor) ?_)))
    refine qt_let (σ := Option Addr × Nat × Option Addr × Nat × Option Addr × Nat × Option Addr × Nat × Option Addr × Nat × Nat × Nat × Unit) (chainT [6] (chainT [9, 10, 11] (.nil))) (fun ⟨ua, uc, ma1, mc1, ma2, mc2, ma3, mc3, ra, rc, b6, b7, ()⟩ => [(2, .pointer (some ⟨b2, 0, none⟩)), (3, .pointer (some ⟨b3, 0, none⟩)), (6, .pointer (some ⟨b6, 0, none⟩)), (7, .pointer (some ⟨b7, 0, none⟩)), (38, .agg (wnC x ua uc).toArray), (40, .agg #[.slice ma1 t.need.length mc1, .slice ma2 t.make.length mc2, .slice ma3 t.loss.length mc3]), (42, .agg (wnC x ra rc).toArray)]) (fun ⟨ua, uc, ma1, mc1, ma2, mc2, ma3, mc3, ra, rc, b6, b7, ()⟩ => [.pt b6 [.slice none 0 0, .slice none 0 0, .slice none 0 0] 107, .pt b7 [.int .i64 0, .int .i64 0, .slice none 0 0] 93, .ow (.slice ua x.days.length uc) 73 6 x.days.length (dyC x.days), .ow (.slice ma1 t.need.length mc1) 3 1 t.need.length (ints t.need), .ow (.slice ma2 t.make.length mc2) 3 1 t.make.length (ints t.make), .ow (.slice ma3 t.loss.length mc3) 3 1 t.loss.length (ints t.loss), .ow (.slice ra x.days.length rc) 176 6 x.days.length (dyC x.days)]) ?_ (fun hS1_3_5_7_8 => ?_)
    · rintro ⟨ua, uc, ma1, mc1, ma2, mc2, ma3, mc3, ra, rc, b6, b7, _⟩
      refine qt_seg (by repeat (first | exact PickL.nil | (apply PickL.cons; rfl))) fun K1 hK1 => ?_
      skip
      refine qf_alloc zero61 rfl (fun b5 => ?_)
      (refine qf_nil ?_)
      exact hK1 _ _ (hS1_3_5_6_7_8 ⟨ua, uc, ma1, mc1, ma2, mc2, ma3, mc3, ra, rc, b5, b6, b7, ()⟩ _ _ ⟨rfl, rfl, rfl, rfl, rfl, rfl, rfl, rfl, trivial⟩ (by repeat (first | exact Sp.nil | exact Sp.refl _ | refine Sp.cons (by repeat constructor) ?_)))
    refine qt_let (σ := Option Addr × Nat × Option Addr × Nat × Option Addr × Nat × Option Addr × Nat × Nat × Nat × Nat × Unit) (chainT [4, 5] (chainT [9, 10, 11] (.nil))) (fun ⟨ua, uc, ma1, mc1, ma2, mc2, ma3, mc3, b5, b6, b7, ()⟩ => [(2, .pointer (some ⟨b2, 0, none⟩)), (3, .pointer (some ⟨b3, 0, none⟩)), (5, .pointer (some ⟨b5, 0, none⟩)), (6, .pointer (some ⟨b6, 0, none⟩)), (7, .pointer (some ⟨b7, 0, none⟩)), (38, .agg (wnC x ua uc).toArray), (40, .agg #[.slice ma1 t.need.length mc1, .slice ma2 t.make.length mc2, .slice ma3 t.loss.length mc3])]) (fun ⟨ua, uc, ma1, mc1, ma2, mc2, ma3, mc3, b5, b6, b7, ()⟩ => [.pt b5 [.int .i64 0, .int .i64 0, .slice none 0 0] 61, .pt b6 [.slice none 0 0, .slice none 0 0, .slice none 0 0] 107, .pt b7 [.int .i64 0, .int .i64 0, .slice none 0 0] 93, .ow (.slice ua x.days.length uc) 73 6 x.days.length (dyC x.days), .ow (.slice ma1 t.need.length mc1) 3 1 t.need.length (ints t.need), .ow (.slice ma2 t.make.length mc2) 3 1 t.make.length (ints t.make), .ow (.slice ma3 t.loss.length mc3) 3 1 t.loss.length (ints t.loss)]) ?_ (fun hS1_3_6_7_8 => ?_)
    · rintro ⟨ua, uc, ma1, mc1, ma2, mc2, ma3, mc3, b5, b6, b7, _⟩
      refine qt_seg (by repeat (first | exact PickL.nil | (apply PickL.cons; rfl))) fun K1 hK1 => ?_
      (refine qf_loadAB tabOk rfl rfl rfl (by repeat first | exact .head _ | refine .tail _ ?_) (by rfl) (by rfl) ?_)
      refine qf_call (β := Option Addr × Nat) tabOk [] _ M0 rfl rfl rfl rfl (Sp.refl _) (fun _ h => h.elim) (fun w' hs => rwin_ca w' lo hi x a c (RdE.keep h hs.chg0) (by omega)) ?_
      rintro ⟨ra, rc⟩ _ rfl
      dsimp only [List.cons_append, List.nil_append]
      (refine qf_nil ?_)
      exact hK1 _ _ (hS1_3_5_6_7_8 ⟨ua, uc, ma1, mc1, ma2, mc2, ma3, mc3, ra, rc, b5, b6, b7, ()⟩ _ _ ⟨rfl, rfl, rfl, rfl, rfl, rfl, rfl, rfl, trivial⟩ (by repeat (first | exact Sp.nil | exact Sp.refl _ | refine Sp.cons (by repeat constructor) ?_)))
    refine qt_let (σ := Option Addr × Nat × Option Addr × Nat × Option Addr × Nat × Option Addr × Nat × Option Addr × Nat × Nat × Unit) (.alt (chainT [7] (chainT [8] (chainT [9, 10, 11] (.nil)))) (chainT [8] (chainT [7] (chainT [9, 10, 11] (.nil))))) (fun ⟨ua, uc, ma1, mc1, ma2, mc2, ma3, mc3, ra, rc, b5, ()⟩ => [(2, .pointer (some ⟨b2, 0, none⟩)), (3, .pointer (some ⟨b3, 0, none⟩)), (5, .pointer (some ⟨b5, 0, none⟩)), (38, .agg (wnC x ua uc).toArray), (40, .agg #[.slice ma1 t.need.length mc1, .slice ma2 t.make.length mc2, .slice ma3 t.loss.length mc3]), (42, .agg (wnC x ra rc).toArray)]) (fun ⟨ua, uc, ma1, mc1, ma2, mc2, ma3, mc3, ra, rc, b5, ()⟩ => [.pt b5 [.int .i64 0, .int .i64 0, .slice none 0 0] 61, .ow (.slice ua x.days.length uc) 73 6 x.days.length (dyC x.days), .ow (.slice ma1 t.need.length mc1) 3 1 t.need.length (ints t.need), .ow (.slice ma2 t.make.length mc2) 3 1 t.make.length (ints t.make), .ow (.slice ma3 t.loss.length mc3) 3 1 t.loss.length (ints t.loss), .ow (.slice ra x.days.length rc) 176 6 x.days.length (dyC x.days)]) ?_ (fun hS1_3_5_6 => ?_)
    · rintro ⟨ua, uc, ma1, mc1, ma2, mc2, ma3, mc3, ra, rc, b5, _⟩
      refine qt_alt ?_ ?_
      · skip
        refine qt_seg (by repeat (first | exact PickL.nil | (apply PickL.cons; rfl))) fun K1 hK1 => ?_
        skip
        refine qf_alloc zero107 rfl (fun b6 => ?_)
        (refine qf_nil ?_)
        exact hK1 _ _ (hS1_3_5_6_7 ⟨ua, uc, ma1, mc1, ma2, mc2, ma3, mc3, ra, rc, b5, b6, ()⟩ _ _ ⟨rfl, rfl, rfl, rfl, rfl, rfl, rfl, trivial⟩ (by repeat (first | exact Sp.nil | exact Sp.refl _ | refine Sp.cons (by repeat constructor) ?_)))
      · skip
        refine qt_seg (by repeat (first | exact PickL.nil | (apply PickL.cons; rfl))) fun K1 hK1 => ?_
        skip
        refine qf_alloc zero93 rfl (fun b7 => ?_)
        (refine qf_nil ?_)
        exact hK1 _ _ (hS1_3_5_6_8 ⟨ua, uc, ma1, mc1, ma2, mc2, ma3, mc3, ra, rc, b5, b7, ()⟩ _ _ ⟨rfl, rfl, rfl, rfl, rfl, rfl, rfl, trivial⟩ (by repeat (first | exact Sp.nil | exact Sp.refl _ | refine Sp.cons (by repeat constructor) ?_)))
    refine qt_let (σ := Option Addr × Nat × Option Addr × Nat × Option Addr × Nat × Option Addr × Nat × Option Addr × Nat × Nat × Unit) (.alt (chainT [6] (chainT [8] (chainT [9, 10, 11] (.nil)))) (chainT [8] (chainT [6] (chainT [9, 10, 11] (.nil))))) (fun ⟨ua, uc, ma1, mc1, ma2, mc2, ma3, mc3, ra, rc, b6, ()⟩ => [(2, .pointer (some ⟨b2, 0, none⟩)), (3, .pointer (some ⟨b3, 0, none⟩)), (6, .pointer (some ⟨b6, 0, none⟩)), (38, .agg (wnC x ua uc).toArray), (40, .agg #[.slice ma1 t.need.length mc1, .slice ma2 t.make.length mc2, .slice ma3 t.loss.length mc3]), (42, .agg (wnC x ra rc).toArray)]) (fun ⟨ua, uc, ma1, mc1, ma2, mc2, ma3, mc3, ra, rc, b6, ()⟩ => [.pt b6 [.slice none 0 0, .slice none 0 0, .slice none 0 0] 107, .ow (.slice ua x.days.length uc) 73 6 x.days.length (dyC x.days), .ow (.slice ma1 t.need.length mc1) 3 1 t.need.length (ints t.need), .ow (.slice ma2 t.make.length mc2) 3 1 t.make.length (ints t.make), .ow (.slice ma3 t.loss.length mc3) 3 1 t.loss.length (ints t.loss), .ow (.slice ra x.days.length rc) 176 6 x.days.length (dyC x.days)]) ?_ (fun hS1_3_5_7 => ?_)
    · rintro ⟨ua, uc, ma1, mc1, ma2, mc2, ma3, mc3, ra, rc, b6, _⟩
      refine qt_alt ?_ ?_
      · skip
        refine qt_seg (by repeat (first | exact PickL.nil | (apply PickL.cons; rfl))) fun K1 hK1 => ?_
        skip
        refine qf_alloc zero61 rfl (fun b5 => ?_)
        (refine qf_nil ?_)
        exact hK1 _ _ (hS1_3_5_6_7 ⟨ua, uc, ma1, mc1, ma2, mc2, ma3, mc3, ra, rc, b5, b6, ()⟩ _ _ ⟨rfl, rfl, rfl, rfl, rfl, rfl, rfl, trivial⟩ (by repeat (first | exact Sp.nil | exact Sp.refl _ | refine Sp.cons (by repeat constructor) ?_)))
      · skip
        refine qt_seg (by repeat (first | exact PickL.nil | (apply PickL.cons; rfl))) fun K1 hK1 => ?_
        skip
        refine qf_alloc zero93 rfl (fun b7 => ?_)
        (refine qf_nil ?_)
        exact hK1 _ _ (hS1_3_5_7_8 ⟨ua, uc, ma1, mc1, ma2, mc2, ma3, mc3, ra, rc, b6, b7, ()⟩ _ _ ⟨rfl, rfl, rfl, rfl, rfl, rfl, rfl, trivial⟩ (by repeat (first | exact Sp.nil | exact Sp.refl _ | refine Sp.cons (by repeat constructor) ?_)))
    refine qt_let (σ := Option Addr × Nat × Option Addr × Nat × Option Addr × Nat × Option Addr × Nat × Option Addr × Nat × Nat × Unit) (.alt (chainT [6] (chainT [7] (chainT [9, 10, 11] (.nil)))) (chainT [7] (chainT [6] (chainT [9, 10, 11] (.nil))))) (fun ⟨ua, uc, ma1, mc1, ma2, mc2, ma3, mc3, ra, rc, b7, ()⟩ => [(2, .pointer (some ⟨b2, 0, none⟩)), (3, .pointer (some ⟨b3, 0, none⟩)), (7, .pointer (some ⟨b7, 0, none⟩)), (38, .agg (wnC x ua uc).toArray), (40, .agg #[.slice ma1 t.need.length mc1, .slice ma2 t.make.length mc2, .slice ma3 t.loss.length mc3]), (42, .agg (wnC x ra rc).toArray)]) (fun ⟨ua, uc, ma1, mc1, ma2, mc2, ma3, mc3, ra, rc, b7, ()⟩ => [.pt b7 [.int .i64 0, .int .i64 0, .slice none 0 0] 93, .ow (.slice ua x.days.length uc) 73 6 x.days.length (dyC x.days), .ow (.slice ma1 t.need.length mc1) 3 1 t.need.length (ints t.need), .ow (.slice ma2 t.make.length mc2) 3 1 t.make.length (ints t.make), .ow (.slice ma3 t.loss.length mc3) 3 1 t.loss.length (ints t.loss), .ow (.slice ra x.days.length rc) 176 6 x.days.length (dyC x.days)]) ?_ (fun hS1_3_5_8 => ?_)
    · rintro ⟨ua, uc, ma1, mc1, ma2, mc2, ma3, mc3, ra, rc, b7, _⟩
      refine qt_alt ?_ ?_
      · skip
        refine qt_seg (by repeat (first | exact PickL.nil | (apply PickL.cons; rfl))) fun K1 hK1 => ?_
        skip
        refine qf_alloc zero61 rfl (fun b5 => ?_)
        (refine qf_nil ?_)
        exact hK1 _ _ (hS1_3_5_6_8 ⟨ua, uc, ma1, mc1, ma2, mc2, ma3, mc3, ra, rc, b5, b7, ()⟩ _ _ ⟨rfl, rfl, rfl, rfl, rfl, rfl, rfl, trivial⟩ (by repeat (first | exact Sp.nil | exact Sp.refl _ | refine Sp.cons (by repeat constructor) ?_)))
      · skip
        refine qt_seg (by repeat (first | exact PickL.nil | (apply PickL.cons; rfl))) fun K1 hK1 => ?_
        skip
        refine qf_alloc zero107 rfl (fun b6 => ?_)
        (refine qf_nil ?_)
        exact hK1 _ _ (hS1_3_5_7_8 ⟨ua, uc, ma1, mc1, ma2, mc2, ma3, mc3, ra, rc, b6, b7, ()⟩ _ _ ⟨rfl, rfl, rfl, rfl, rfl, rfl, rfl, trivial⟩ (by repeat (first | exact Sp.nil | exact Sp.refl _ | refine Sp.cons (by repeat constructor) ?_)))
    refine qt_let (σ := Option Addr × Nat × Option Addr × Nat × Option Addr × Nat × Option Addr × Nat × Nat × Nat × Unit) (.alt (chainT [4, 5] (chainT [8] (chainT [9, 10, 11] (.nil)))) (chainT [8] (chainT [4, 5] (chainT [9, 10, 11] (.nil))))) (fun ⟨ua, uc, ma1, mc1, ma2, mc2, ma3, mc3, b5, b6, ()⟩ => [(2, .pointer (some ⟨b2, 0, none⟩)), (3, .pointer (some ⟨b3, 0, none⟩)), (5, .pointer (some ⟨b5, 0, none⟩)), (6, .pointer (some ⟨b6, 0, none⟩)), (38, .agg (wnC x ua uc).toArray), (40, .agg #[.slice ma1 t.need.length mc1, .slice ma2 t.make.length mc2, .slice ma3 t.loss.length mc3])]) (fun ⟨ua, uc, ma1, mc1, ma2, mc2, ma3, mc3, b5, b6, ()⟩ => [.pt b5 [.int .i64 0, .int .i64 0, .slice none 0 0] 61, .pt b6 [.slice none 0 0, .slice none 0 0, .slice none 0 0] 107, .ow (.slice ua x.days.length uc) 73 6 x.days.length (dyC x.days), .ow (.slice ma1 t.need.length mc1) 3 1 t.need.length (ints t.need), .ow (.slice ma2 t.make.length mc2) 3 1 t.make.length (ints t.make), .ow (.slice ma3 t.loss.length mc3) 3 1 t.loss.length (ints t.loss)]) ?_ (fun hS1_3_6_7 => ?_)
    · rintro ⟨ua, uc, ma1, mc1, ma2, mc2, ma3, mc3, b5, b6, _⟩
      refine qt_alt ?_ ?_
      · skip
        refine qt_seg (by repeat (first | exact PickL.nil | (apply PickL.cons; rfl))) fun K1 hK1 => ?_
        (refine qf_loadAB tabOk rfl rfl rfl (by repeat first | exact .head _ | refine .tail _ ?_) (by rfl) (by rfl) ?_)
        refine qf_call (β := Option Addr × Nat) tabOk [] _ M0 rfl rfl rfl rfl (Sp.refl _) (fun _ h => h.elim) (fun w' hs => rwin_ca w' lo hi x a c (RdE.keep h hs.chg0) (by omega)) ?_
        rintro ⟨ra, rc⟩ _ rfl
        dsimp only [List.cons_append, List.nil_append]
        (refine qf_nil ?_)
        exact hK1 _ _ (hS1_3_5_6_7 ⟨ua, uc, ma1, mc1, ma2, mc2, ma3, mc3, ra, rc, b5, b6, ()⟩ _ _ ⟨rfl, rfl, rfl, rfl, rfl, rfl, rfl, trivial⟩ (by repeat (first | exact Sp.nil | exact Sp.refl _ | refine Sp.cons (by repeat constructor) ?_)))
      · skip
        refine qt_seg (by repeat (first | exact PickL.nil | (apply PickL.cons; rfl))) fun K1 hK1 => ?_
        skip
        refine qf_alloc zero93 rfl (fun b7 => ?_)
        (refine qf_nil ?_)
        exact hK1 _ _ (hS1_3_6_7_8 ⟨ua, uc, ma1, mc1, ma2, mc2, ma3, mc3, b5, b6, b7, ()⟩ _ _ ⟨rfl, rfl, rfl, rfl, rfl, rfl, rfl, trivial⟩ (by repeat (first | exact Sp.nil | exact Sp.refl _ | refine Sp.cons (by repeat constructor) ?_)))
    refine qt_let (σ := Option Addr × Nat × Option Addr × Nat × Option Addr × Nat × Option Addr × Nat × Nat × Nat × Unit) (.alt (chainT [4, 5] (chainT [7] (chainT [9, 10, 11] (.nil)))) (chainT [7] (chainT [4, 5] (chainT [9, 10, 11] (.nil))))) (fun ⟨ua, uc, ma1, mc1, ma2, mc2, ma3, mc3, b5, b7, ()⟩ => [(2, .pointer (some ⟨b2, 0, none⟩)), (3, .pointer (some ⟨b3, 0, none⟩)), (5, .pointer (some ⟨b5, 0, none⟩)), (7, .pointer (some ⟨b7, 0, none⟩)), (38, .agg (wnC x ua uc).toArray), (40, .agg #[.slice ma1 t.need.length mc1, .slice ma2 t.make.length mc2, .slice ma3 t.loss.length mc3])]) (fun ⟨ua, uc, ma1, mc1, ma2, mc2, ma3, mc3, b5, b7, ()⟩ => [.pt b5 [.int .i64 0, .int .i64 0, .slice none 0 0] 61, .pt b7 [.int .i64 0, .int .i64 0, .slice none 0 0] 93, .ow (.slice ua x.days.length uc) 73 6 x.days.length (dyC x.days), .ow (.slice ma1 t.need.length mc1) 3 1 t.need.length (ints t.need), .ow (.slice ma2 t.make.length mc2) 3 1 t.make.length (ints t.make), .ow (.slice ma3 t.loss.length mc3) 3 1 t.loss.length (ints t.loss)]) ?_ (fun hS1_3_6_8 => ?_)
    · rintro ⟨ua, uc, ma1, mc1, ma2, mc2, ma3, mc3, b5, b7, _⟩
      refine qt_alt ?_ ?_
      · skip
        refine qt_seg (by repeat (first | exact PickL.nil | (apply PickL.cons; rfl))) fun K1 hK1 => ?_
        (refine qf_loadAB tabOk rfl rfl rfl (by repeat first | exact .head _ | refine .tail _ ?_) (by rfl) (by rfl) ?_)
        refine qf_call (β := Option Addr × Nat) tabOk [] _ M0 rfl rfl rfl rfl (Sp.refl _) (fun _ h => h.elim) (fun w' hs => rwin_ca w' lo hi x a c (RdE.keep h hs.chg0) (by omega)) ?_
        rintro ⟨ra, rc⟩ _ rfl
        dsimp only [List.cons_append, List.nil_append]
        (refine qf_nil ?_)
        exact hK1 _ _ (hS1_3_5_6_8 ⟨ua, uc, ma1, mc1, ma2, mc2, ma3, mc3, ra, rc, b5, b7, ()⟩ _ _ ⟨rfl, rfl, rfl, rfl, rfl, rfl, rfl, trivial⟩ (by repeat (first | exact Sp.nil | exact Sp.refl _ | refine Sp.cons (by repeat constructor) ?_)))
      · skip
        refine qt_seg (by repeat (first | exact PickL.nil | (apply PickL.cons; rfl))) fun K1 hK1 => ?_
        skip
        refine qf_alloc zero107 rfl (fun b6 => ?_)
        (refine qf_nil ?_)
        exact hK1 _ _ (hS1_3_6_7_8 ⟨ua, uc, ma1, mc1, ma2, mc2, ma3, mc3, b5, b6, b7, ()⟩ _ _ ⟨rfl, rfl, rfl, rfl, rfl, rfl, rfl, trivial⟩ (by repeat (first | exact Sp.nil | exact Sp.refl _ | refine Sp.cons (by repeat constructor) ?_)))
    refine qt_let (σ := Option Addr × Nat × Option Addr × Nat × Option Addr × Nat × Option Addr × Nat × Nat × Nat × Unit) (.alt (chainT [4, 5] (chainT [6] (chainT [9, 10, 11] (.nil)))) (chainT [6] (chainT [4, 5] (chainT [9, 10, 11] (.nil))))) (fun ⟨ua, uc, ma1, mc1, ma2, mc2, ma3, mc3, b6, b7, ()⟩ => [(2, .pointer (some ⟨b2, 0, none⟩)), (3, .pointer (some ⟨b3, 0, none⟩)), (6, .pointer (some ⟨b6, 0, none⟩)), (7, .pointer (some ⟨b7, 0, none⟩)), (38, .agg (wnC x ua uc).toArray), (40, .agg #[.slice ma1 t.need.length mc1, .slice ma2 t.make.length mc2, .slice ma3 t.loss.length mc3])]) (fun ⟨ua, uc, ma1, mc1, ma2, mc2, ma3, mc3, b6, b7, ()⟩ => [.pt b6 [.slice none 0 0, .slice none 0 0, .slice none 0 0] 107, .pt b7 [.int .i64 0, .int .i64 0, .slice none 0 0] 93, .ow (.slice ua x.days.length uc) 73 6 x.days.length (dyC x.days), .ow (.slice ma1 t.need.length mc1) 3 1 t.need.length (ints t.need), .ow (.slice ma2 t.make.length mc2) 3 1 t.make.length (ints t.make), .ow (.slice ma3 t.loss.length mc3) 3 1 t.loss.length (ints t.loss)]) ?_ (fun hS1_3_7_8 => ?_)
    · rintro ⟨ua, uc, ma1, mc1, ma2, mc2, ma3, mc3, b6, b7, _⟩
      refine qt_alt ?_ ?_
      · skip
        refine qt_seg (by repeat (first | exact PickL.nil | (apply PickL.cons; rfl))) fun K1 hK1 => ?_
        (refine qf_loadAB tabOk rfl rfl rfl (by repeat first | exact .head _ | refine .tail _ ?_) (by rfl) (by rfl) ?_)
        refine qf_call (β := Option Addr × Nat) tabOk [] _ M0 rfl rfl rfl rfl (Sp.refl _) (fun _ h => h.elim) (fun w' hs => rwin_ca w' lo hi x a c (RdE.keep h hs.chg0) (by omega)) ?_
        rintro ⟨ra, rc⟩ _ rfl
        dsimp only [List.cons_append, List.nil_append]
        (refine qf_nil ?_)
        exact hK1 _ _ (hS1_3_5_7_8 ⟨ua, uc, ma1, mc1, ma2, mc2, ma3, mc3, ra, rc, b6, b7, ()⟩ _ _ ⟨rfl, rfl, rfl, rfl, rfl, rfl, rfl, trivial⟩ (by repeat (first | exact Sp.nil | exact Sp.refl _ | refine Sp.cons (by repeat constructor) ?_)))
      · skip
        refine qt_seg (by repeat (first | exact PickL.nil | (apply PickL.cons; rfl))) fun K1 hK1 => ?_
        skip
        refine qf_alloc zero61 rfl (fun b5 => ?_)
        (refine qf_nil ?_)
        exact hK1 _ _ (hS1_3_6_7_8 ⟨ua, uc, ma1, mc1, ma2, mc2, ma3, mc3, b5, b6, b7, ()⟩ _ _ ⟨rfl, rfl, rfl, rfl, rfl, rfl, rfl, trivial⟩ (by repeat (first | exact Sp.nil | exact Sp.refl _ | refine Sp.cons (by repeat constructor) ?_)))
    refine qt_let (σ := Option Addr × Nat × Nat × Nat × Nat × Unit) (chainT [2, 3] (chainT [4, 5] (chainT [9, 10, 11] (.nil)))) (fun ⟨ua, uc, b5, b6, b7, ()⟩ => [(2, .pointer (some ⟨b2, 0, none⟩)), (3, .pointer (some ⟨b3, 0, none⟩)), (5, .pointer (some ⟨b5, 0, none⟩)), (6, .pointer (some ⟨b6, 0, none⟩)), (7, .pointer (some ⟨b7, 0, none⟩)), (38, .agg (wnC x ua uc).toArray)]) (fun ⟨ua, uc, b5, b6, b7, ()⟩ => [.pt b5 [.int .i64 0, .int .i64 0, .slice none 0 0] 61, .pt b6 [.slice none 0 0, .slice none 0 0, .slice none 0 0] 107, .pt b7 [.int .i64 0, .int .i64 0, .slice none 0 0] 93, .ow (.slice ua x.days.length uc) 73 6 x.days.length (dyC x.days)]) ?_ (fun hS1_6_7_8 => ?_)
    · rintro ⟨ua, uc, b5, b6, b7, _⟩
      refine qt_seg (by repeat (first | exact PickL.nil | (apply PickL.cons; rfl))) fun K1 hK1 => ?_
      (refine qf_loadAB tabOk rfl rfl rfl (by repeat first | exact .head _ | refine .tail _ ?_) (by rfl) (by rfl) ?_)
      refine qf_call (β := Value × Value × Value) tabOk [] _ M0 rfl rfl rfl rfl (Sp.refl _) (fun _ h => h.elim) (fun w' hs => cloneT_ca w' t _ _ _ (hw.keep hs.chg0) (by omega) (by omega) (by omega)) ?_
      rintro ⟨z1, z2, z3⟩ _ rfl
      dsimp only [wtK, List.cons_append, List.nil_append]
      refine qf_fact (fun w hs => hs.slice2 (v := z1) (by repeat first | exact .head _ | refine .tail _ ?_)) ?_
      rintro ⟨ma1, mc1, rfl⟩
      refine qf_fact (fun w hs => hs.slice2 (v := z2) (by repeat first | exact .head _ | refine .tail _ ?_)) ?_
      rintro ⟨ma2, mc2, rfl⟩
      refine qf_fact (fun w hs => hs.slice2 (v := z3) (by repeat first | exact .head _ | refine .tail _ ?_)) ?_
      rintro ⟨ma3, mc3, rfl⟩
      (refine qf_nil ?_)
      exact hK1 _ _ (hS1_3_6_7_8 ⟨ua, uc, ma1, mc1, ma2, mc2, ma3, mc3, b5, b6, b7, ()⟩ _ _ ⟨rfl, rfl, rfl, rfl, rfl, rfl, rfl, trivial⟩ (by repeat (first | exact Sp.nil | exact Sp.refl _ | refine Sp.cons (by repeat constructor) ?_)))
    refine qt_let (σ := Option Addr × Nat × Option Addr × Nat × Option Addr × Nat × Option Addr × Nat × Option Addr × Nat × Unit) (.alt (chainT [6] (.alt (chainT [7] (chainT [8] (chainT [9, 10, 11] (.nil)))) (chainT [8] (chainT [7] (chainT [9, 10, 11] (.nil)))))) (.alt (chainT [7] (.alt (chainT [6] (chainT [8] (chainT [9, 10, 11] (.nil)))) (chainT [8] (chainT [6] (chainT [9, 10, 11] (.nil)))))) (chainT [8] (.alt (chainT [6] (chainT [7] (chainT [9, 10, 11] (.nil)))) (chainT [7] (chainT [6] (chainT [9, 10, 11] (.nil)))))))) (fun ⟨ua, uc, ma1, mc1, ma2, mc2, ma3, mc3, ra, rc, ()⟩ => [(2, .pointer (some ⟨b2, 0, none⟩)), (3, .pointer (some ⟨b3, 0, none⟩)), (38, .agg (wnC x ua uc).toArray), (40, .agg #[.slice ma1 t.need.length mc1, .slice ma2 t.make.length mc2, .slice ma3 t.loss.length mc3]), (42, .agg (wnC x ra rc).toArray)]) (fun ⟨ua, uc, ma1, mc1, ma2, mc2, ma3, mc3, ra, rc, ()⟩ => [.ow (.slice ua x.days.length uc) 73 6 x.days.length (dyC x.days), .ow (.slice ma1 t.need.length mc1) 3 1 t.need.length (ints t.need), .ow (.slice ma2 t.make.length mc2) 3 1 t.make.length (ints t.make), .ow (.slice ma3 t.loss.length mc3) 3 1 t.loss.length (ints t.loss), .ow (.slice ra x.days.length rc) 176 6 x.days.length (dyC x.days)]) ?_ (fun hS1_3_5 => ?_)
    · rintro ⟨ua, uc, ma1, mc1, ma2, mc2, ma3, mc3, ra, rc, _⟩
      refine qt_alt ?_ (qt_alt ?_ ?_)
      · skip
        refine qt_seg (by repeat (first | exact PickL.nil | (apply PickL.cons; rfl))) fun K1 hK1 => ?_
        skip
        refine qf_alloc zero61 rfl (fun b5 => ?_)
        (refine qf_nil ?_)
        exact hK1 _ _ (hS1_3_5_6 ⟨ua, uc, ma1, mc1, ma2, mc2, ma3, mc3, ra, rc, b5, ()⟩ _ _ ⟨rfl, rfl, rfl, rfl, rfl, rfl, trivial⟩ (by repeat (first | exact Sp.nil | exact Sp.refl _ | refine Sp.cons (by repeat constructor) ?_)))
      · skip
        refine qt_seg (by repeat (first | exact PickL.nil | (apply PickL.cons; rfl))) fun K1 hK1 => ?_
        skip
        refine qf_alloc zero107 rfl (fun b6 => ?_)
        (refine qf_nil ?_)
        exact hK1 _ _ (hS1_3_5_7 ⟨ua, uc, ma1, mc1, ma2, mc2, ma3, mc3, ra, rc, b6, ()⟩ _ _ ⟨rfl, rfl, rfl, rfl, rfl, rfl, trivial⟩ (by repeat (first | exact Sp.nil | exact Sp.refl _ | refine Sp.cons (by repeat constructor) ?_)))
      · skip
        refine qt_seg (by repeat (first | exact PickL.nil | (apply PickL.cons; rfl))) fun K1 hK1 => ?_
        skip
        refine qf_alloc zero93 rfl (fun b7 => ?_)
        (refine qf_nil ?_)
        exact hK1 _ _ (hS1_3_5_8 ⟨ua, uc, ma1, mc1, ma2, mc2, ma3, mc3, ra, rc, b7, ()⟩ _ _ ⟨rfl, rfl, rfl, rfl, rfl, rfl, trivial⟩ (by repeat (first | exact Sp.nil | exact Sp.refl _ | refine Sp.cons (by repeat constructor) ?_)))
    refine qt_let (σ := Option Addr × Nat × Option Addr × Nat × Option Addr × Nat × Option Addr × Nat × Nat × Unit) (.alt (chainT [4, 5] (.alt (chainT [7] (chainT [8] (chainT [9, 10, 11] (.nil)))) (chainT [8] (chainT [7] (chainT [9, 10, 11] (.nil)))))) (.alt (chainT [7] (.alt (chainT [4, 5] (chainT [8] (chainT [9, 10, 11] (.nil)))) (chainT [8] (chainT [4, 5] (chainT [9, 10, 11] (.nil)))))) (chainT [8] (.alt (chainT [4, 5] (chainT [7] (chainT [9, 10, 11] (.nil)))) (chainT [7] (chainT [4, 5] (chainT [9, 10, 11] (.nil)))))))) (fun ⟨ua, uc, ma1, mc1, ma2, mc2, ma3, mc3, b5, ()⟩ => [(2, .pointer (some ⟨b2, 0, none⟩)), (3, .pointer (some ⟨b3, 0, none⟩)), (5, .pointer (some ⟨b5, 0, none⟩)), (38, .agg (wnC x ua uc).toArray), (40, .agg #[.slice ma1 t.need.length mc1, .slice ma2 t.make.length mc2, .slice ma3 t.loss.length mc3])]) (fun ⟨ua, uc, ma1, mc1, ma2, mc2, ma3, mc3, b5, ()⟩ => [.pt b5 [.int .i64 0, .int .i64 0, .slice none 0 0] 61, .ow (.slice ua x.days.length uc) 73 6 x.days.length (dyC x.days), .ow (.slice ma1 t.need.length mc1) 3 1 t.need.length (ints t.need), .ow (.slice ma2 t.make.length mc2) 3 1 t.make.length (ints t.make), .ow (.slice ma3 t.loss.length mc3) 3 1 t.loss.length (ints t.loss)]) ?_ (fun hS1_3_6 => ?_)
    · rintro ⟨ua, uc, ma1, mc1, ma2, mc2, ma3, mc3, b5, _⟩
      refine qt_alt ?_ (qt_alt ?_ ?_)
      · skip
        refine qt_seg (by repeat (first | exact PickL.nil | (apply PickL.cons; rfl))) fun K1 hK1 => ?_
        (refine qf_loadAB tabOk rfl rfl rfl (by repeat first | exact .head _ | refine .tail _ ?_) (by rfl) (by rfl) ?_)
        refine qf_call (β := Option Addr × Nat) tabOk [] _ M0 rfl rfl rfl rfl (Sp.refl _) (fun _ h => h.elim) (fun w' hs => rwin_ca w' lo hi x a c (RdE.keep h hs.chg0) (by omega)) ?_
        rintro ⟨ra, rc⟩ _ rfl
        dsimp only [List.cons_append, List.nil_append]
        (refine qf_nil ?_)
        exact hK1 _ _ (hS1_3_5_6 ⟨ua, uc, ma1, mc1, ma2, mc2, ma3, mc3, ra, rc, b5, ()⟩ _ _ ⟨rfl, rfl, rfl, rfl, rfl, rfl, trivial⟩ (by repeat (first | exact Sp.nil | exact Sp.refl _ | refine Sp.cons (by repeat constructor) ?_)))
      · skip
        refine qt_seg (by repeat (first | exact PickL.nil | (apply PickL.cons; rfl))) fun K1 hK1 => ?_
        skip
        refine qf_alloc zero107 rfl (fun b6 => ?_)
        (refine qf_nil ?_)
        exact hK1 _ _ (hS1_3_6_7 ⟨ua, uc, ma1, mc1, ma2, mc2, ma3, mc3, b5, b6, ()⟩ _ _ ⟨rfl, rfl, rfl, rfl, rfl, rfl, trivial⟩ (by repeat (first | exact Sp.nil | exact Sp.refl _ | refine Sp.cons (by repeat constructor) ?_)))
      · skip
        refine qt_seg (by repeat (first | exact PickL.nil | (apply PickL.cons; rfl))) fun K1 hK1 => ?_
        skip
        refine qf_alloc zero93 rfl (fun b7 => ?_)
        (refine qf_nil ?_)
        exact hK1 _ _ (hS1_3_6_8 ⟨ua, uc, ma1, mc1, ma2, mc2, ma3, mc3, b5, b7, ()⟩ _ _ ⟨rfl, rfl, rfl, rfl, rfl, rfl, trivial⟩ (by repeat (first | exact Sp.nil | exact Sp.refl _ | refine Sp.cons (by repeat constructor) ?_)))
    refine qt_let (σ := Option Addr × Nat × Option Addr × Nat × Option Addr × Nat × Option Addr × Nat × Nat × Unit) (.alt (chainT [4, 5] (.alt (chainT [6] (chainT [8] (chainT [9, 10, 11] (.nil)))) (chainT [8] (chainT [6] (chainT [9, 10, 11] (.nil)))))) (.alt (chainT [6] (.alt (chainT [4, 5] (chainT [8] (chainT [9, 10, 11] (.nil)))) (chainT [8] (chainT [4, 5] (chainT [9, 10, 11] (.nil)))))) (chainT [8] (.alt (chainT [4, 5] (chainT [6] (chainT [9, 10, 11] (.nil)))) (chainT [6] (chainT [4, 5] (chainT [9, 10, 11] (.nil)))))))) (fun ⟨ua, uc, ma1, mc1, ma2, mc2, ma3, mc3, b6, ()⟩ => [(2, .pointer (some ⟨b2, 0, none⟩)), (3, .pointer (some ⟨b3, 0, none⟩)), (6, .pointer (some ⟨b6, 0, none⟩)), (38, .agg (wnC x ua uc).toArray), (40, .agg #[.slice ma1 t.need.length mc1, .slice ma2 t.make.length mc2, .slice ma3 t.loss.length mc3])]) (fun ⟨ua, uc, ma1, mc1, ma2, mc2, ma3, mc3, b6, ()⟩ => [.pt b6 [.slice none 0 0, .slice none 0 0, .slice none 0 0] 107, .ow (.slice ua x.days.length uc) 73 6 x.days.length (dyC x.days), .ow (.slice ma1 t.need.length mc1) 3 1 t.need.length (ints t.need), .ow (.slice ma2 t.make.length mc2) 3 1 t.make.length (ints t.make), .ow (.slice ma3 t.loss.length mc3) 3 1 t.loss.length (ints t.loss)]) ?_ (fun hS1_3_7 => ?_)
    · rintro ⟨ua, uc, ma1, mc1, ma2, mc2, ma3, mc3, b6, _⟩
      refine qt_alt ?_ (qt_alt ?_ ?_)
      · skip
        refine qt_seg (by repeat (first | exact PickL.nil | (apply PickL.cons; rfl))) fun K1 hK1 => ?_
        (refine qf_loadAB tabOk rfl rfl rfl (by repeat first | exact .head _ | refine .tail _ ?_) (by rfl) (by rfl) ?_)
        refine qf_call (β := Option Addr × Nat) tabOk [] _ M0 rfl rfl rfl rfl (Sp.refl _) (fun _ h => h.elim) (fun w' hs => rwin_ca w' lo hi x a c (RdE.keep h hs.chg0) (by omega)) ?_
        rintro ⟨ra, rc⟩ _ rfl
        dsimp only [List.cons_append, List.nil_append]
        (refine qf_nil ?_)
        exact hK1 _ _ (hS1_3_5_7 ⟨ua, uc, ma1, mc1, ma2, mc2, ma3, mc3, ra, rc, b6, ()⟩ _ _ ⟨rfl, rfl, rfl, rfl, rfl, rfl, trivial⟩ (by repeat (first | exact Sp.nil | exact Sp.refl _ | refine Sp.cons (by repeat constructor) ?_)))
      · skip
        refine qt_seg (by repeat (first | exact PickL.nil | (apply PickL.cons; rfl))) fun K1 hK1 => ?_
        skip
        refine qf_alloc zero61 rfl (fun b5 => ?_)
        (refine qf_nil ?_)
        exact hK1 _ _ (hS1_3_6_7 ⟨ua, uc, ma1, mc1, ma2, mc2, ma3, mc3, b5, b6, ()⟩ _ _ ⟨rfl, rfl, rfl, rfl, rfl, rfl, trivial⟩ (by repeat (first | exact Sp.nil | exact Sp.refl _ | refine Sp.cons (by repeat constructor) ?_)))
      · skip
        refine qt_seg (by repeat (first | exact PickL.nil | (apply PickL.cons; rfl))) fun K1 hK1 => ?_
        skip
        refine qf_alloc zero93 rfl (fun b7 => ?_)
        (refine qf_nil ?_)
        exact hK1 _ _ (hS1_3_7_8 ⟨ua, uc, ma1, mc1, ma2, mc2, ma3, mc3, b6, b7, ()⟩ _ _ ⟨rfl, rfl, rfl, rfl, rfl, rfl, trivial⟩ (by repeat (first | exact Sp.nil | exact Sp.refl _ | refine Sp.cons (by repeat constructor) ?_)))
    refine qt_let (σ := Option Addr × Nat × Option Addr × Nat × Option Addr × Nat × Option Addr × Nat × Nat × Unit) (.alt (chainT [4, 5] (.alt (chainT [6] (chainT [7] (chainT [9, 10, 11] (.nil)))) (chainT [7] (chainT [6] (chainT [9, 10, 11] (.nil)))))) (.alt (chainT [6] (.alt (chainT [4, 5] (chainT [7] (chainT [9, 10, 11] (.nil)))) (chainT [7] (chainT [4, 5] (chainT [9, 10, 11] (.nil)))))) (chainT [7] (.alt (chainT [4, 5] (chainT [6] (chainT [9, 10, 11] (.nil)))) (chainT [6] (chainT [4, 5] (chainT [9, 10, 11] (.nil)))))))) (fun ⟨ua, uc, ma1, mc1, ma2, mc2, ma3, mc3, b7, ()⟩ => [(2, .pointer (some ⟨b2, 0, none⟩)), (3, .pointer (some ⟨b3, 0, none⟩)), (7, .pointer (some ⟨b7, 0, none⟩)), (38, .agg (wnC x ua uc).toArray), (40, .agg #[.slice ma1 t.need.length mc1, .slice ma2 t.make.length mc2, .slice ma3 t.loss.length mc3])]) (fun ⟨ua, uc, ma1, mc1, ma2, mc2, ma3, mc3, b7, ()⟩ => [.pt b7 [.int .i64 0, .int .i64 0, .slice none 0 0] 93, .ow (.slice ua x.days.length uc) 73 6 x.days.length (dyC x.days), .ow (.slice ma1 t.need.length mc1) 3 1 t.need.length (ints t.need), .ow (.slice ma2 t.make.length mc2) 3 1 t.make.length (ints t.make), .ow (.slice ma3 t.loss.length mc3) 3 1 t.loss.length (ints t.loss)]) ?_ (fun hS1_3_8 => ?_)
    · rintro ⟨ua, uc, ma1, mc1, ma2, mc2, ma3, mc3, b7, _⟩
      refine qt_alt ?_ (qt_alt ?_ ?_)
      · skip
        refine qt_seg (by repeat (first | exact PickL.nil | (apply PickL.cons; rfl))) fun K1 hK1 => ?_
        (refine qf_loadAB tabOk rfl rfl rfl (by repeat first | exact .head _ | refine .tail _ ?_) (by rfl) (by rfl) ?_)
        refine qf_call (β := Option Addr × Nat) tabOk [] _ M0 rfl rfl rfl rfl (Sp.refl _) (fun _ h => h.elim) (fun w' hs => rwin_ca w' lo hi x a c (RdE.keep h hs.chg0) (by omega)) ?_
        rintro ⟨ra, rc⟩ _ rfl
        dsimp only [List.cons_append, List.nil_append]
        (refine qf_nil ?_)
        exact hK1 _ _ (hS1_3_5_8 ⟨ua, uc, ma1, mc1, ma2, mc2, ma3, mc3, ra, rc, b7, ()⟩ _ _ ⟨rfl, rfl, rfl, rfl, rfl, rfl, trivial⟩ (by repeat (first | exact Sp.nil | exact Sp.refl _ | refine Sp.cons (by repeat constructor) ?_)))
      · skip
        refine qt_seg (by repeat (first | exact PickL.nil | (apply PickL.cons; rfl))) fun K1 hK1 => ?_
        skip
        refine qf_alloc zero61 rfl (fun b5 => ?_)
        (refine qf_nil ?_)
        exact hK1 _ _ (hS1_3_6_8 ⟨ua, uc, ma1, mc1, ma2, mc2, ma3, mc3, b5, b7, ()⟩ _ _ ⟨rfl, rfl, rfl, rfl, rfl, rfl, trivial⟩ (by repeat (first | exact Sp.nil | exact Sp.refl _ | refine Sp.cons (by repeat constructor) ?_)))
      · skip
        refine qt_seg (by repeat (first | exact PickL.nil | (apply PickL.cons; rfl))) fun K1 hK1 => ?_
        skip
        refine qf_alloc zero107 rfl (fun b6 => ?_)
        (refine qf_nil ?_)
        exact hK1 _ _ (hS1_3_7_8 ⟨ua, uc, ma1, mc1, ma2, mc2, ma3, mc3, b6, b7, ()⟩ _ _ ⟨rfl, rfl, rfl, rfl, rfl, rfl, trivial⟩ (by repeat (first | exact Sp.nil | exact Sp.refl _ | refine Sp.cons (by repeat constructor) ?_)))
    refine qt_let (σ := Option Addr × Nat × Nat × Nat × Unit) (.alt (chainT [2, 3] (.alt (chainT [4, 5] (chainT [8] (chainT [9, 10, 11] (.nil)))) (chainT [8] (chainT [4, 5] (chainT [9, 10, 11] (.nil)))))) (chainT [8] (chainT [2, 3] (chainT [4, 5] (chainT [9, 10, 11] (.nil)))))) (fun ⟨ua, uc, b5, b6, ()⟩ => [(2, .pointer (some ⟨b2, 0, none⟩)), (3, .pointer (some ⟨b3, 0, none⟩)), (5, .pointer (some ⟨b5, 0, none⟩)), (6, .pointer (some ⟨b6, 0, none⟩)), (38, .agg (wnC x ua uc).toArray)]) (fun ⟨ua, uc, b5, b6, ()⟩ => [.pt b5 [.int .i64 0, .int .i64 0, .slice none 0 0] 61, .pt b6 [.slice none 0 0, .slice none 0 0, .slice none 0 0] 107, .ow (.slice ua x.days.length uc) 73 6 x.days.length (dyC x.days)]) ?_ (fun hS1_6_7 => ?_)
    · rintro ⟨ua, uc, b5, b6, _⟩
      refine qt_alt ?_ ?_
      · skip
        refine qt_seg (by repeat (first | exact PickL.nil | (apply PickL.cons; rfl))) fun K1 hK1 => ?_
        (refine qf_loadAB tabOk rfl rfl rfl (by repeat first | exact .head _ | refine .tail _ ?_) (by rfl) (by rfl) ?_)
        refine qf_call (β := Value × Value × Value) tabOk [] _ M0 rfl rfl rfl rfl (Sp.refl _) (fun _ h => h.elim) (fun w' hs => cloneT_ca w' t _ _ _ (hw.keep hs.chg0) (by omega) (by omega) (by omega)) ?_
        rintro ⟨z1, z2, z3⟩ _ rfl
        dsimp only [wtK, List.cons_append, List.nil_append]
        refine qf_fact (fun w hs => hs.slice2 (v := z1) (by repeat first | exact .head _ | refine .tail _ ?_)) ?_
        rintro ⟨ma1, mc1, rfl⟩
        refine qf_fact (fun w hs => hs.slice2 (v := z2) (by repeat first | exact .head _ | refine .tail _ ?_)) ?_
        rintro ⟨ma2, mc2, rfl⟩
        refine qf_fact (fun w hs => hs.slice2 (v := z3) (by repeat first | exact .head _ | refine .tail _ ?_)) ?_
        rintro ⟨ma3, mc3, rfl⟩
        (refine qf_nil ?_)
        exact hK1 _ _ (hS1_3_6_7 ⟨ua, uc, ma1, mc1, ma2, mc2, ma3, mc3, b5, b6, ()⟩ _ _ ⟨rfl, rfl, rfl, rfl, rfl, rfl, trivial⟩ (by repeat (first | exact Sp.nil | exact Sp.refl _ | refine Sp.cons (by repeat constructor) ?_)))
      · skip
        refine qt_seg (by repeat (first | exact PickL.nil | (apply PickL.cons; rfl))) fun K1 hK1 => ?_
        skip
        refine qf_alloc zero93 rfl (fun b7 => ?_)
        (refine qf_nil ?_)
        exact hK1 _ _ (hS1_6_7_8 ⟨ua, uc, b5, b6, b7, ()⟩ _ _ ⟨rfl, rfl, rfl, rfl, rfl, rfl, trivial⟩ (by repeat (first | exact Sp.nil | exact Sp.refl _ | refine Sp.cons (by repeat constructor) ?_)))
    refine qt_let (σ := Option Addr × Nat × Nat × Nat × Unit) (.alt (chainT [2, 3] (.alt (chainT [4, 5] (chainT [7] (chainT [9, 10, 11] (.nil)))) (chainT [7] (chainT [4, 5] (chainT [9, 10, 11] (.nil)))))) (chainT [7] (chainT [2, 3] (chainT [4, 5] (chainT [9, 10, 11] (.nil)))))) (fun ⟨ua, uc, b5, b7, ()⟩ => [(2, .pointer (some ⟨b2, 0, none⟩)), (3, .pointer (some ⟨b3, 0, none⟩)), (5, .pointer (some ⟨b5, 0, none⟩)), (7, .pointer (some ⟨b7, 0, none⟩)), (38, .agg (wnC x ua uc).toArray)]) (fun ⟨ua, uc, b5, b7, ()⟩ => [.pt b5 [.int .i64 0, .int .i64 0, .slice none 0 0] 61, .pt b7 [.int .i64 0, .int .i64 0, .slice none 0 0] 93, .ow (.slice ua x.days.length uc) 73 6 x.days.length (dyC x.days)]) ?_ (fun hS1_6_8 => ?_)
    · rintro ⟨ua, uc, b5, b7, _⟩
      refine qt_alt ?_ ?_
      · skip
        refine qt_seg (by repeat (first | exact PickL.nil | (apply PickL.cons; rfl))) fun K1 hK1 => ?_
        (refine qf_loadAB tabOk rfl rfl rfl (by repeat first | exact .head _ | refine .tail _ ?_) (by rfl) (by rfl) ?_)
        refine qf_call (β := Value × Value × Value) tabOk [] _ M0 rfl rfl rfl rfl (Sp.refl _) (fun _ h => h.elim) (fun w' hs => cloneT_ca w' t _ _ _ (hw.keep hs.chg0) (by omega) (by omega) (by omega)) ?_
        rintro ⟨z1, z2, z3⟩ _ rfl
        dsimp only [wtK, List.cons_append, List.nil_append]
        refine qf_fact (fun w hs => hs.slice2 (v := z1) (by repeat first | exact .head _ | refine .tail _ ?_)) ?_
        rintro ⟨ma1, mc1, rfl⟩
        refine qf_fact (fun w hs => hs.slice2 (v := z2) (by repeat first | exact .head _ | refine .tail _ ?_)) ?_
        rintro ⟨ma2, mc2, rfl⟩
        refine qf_fact (fun w hs => hs.slice2 (v := z3) (by repeat first | exact .head _ | refine .tail _ ?_)) ?_
        rintro ⟨ma3, mc3, rfl⟩
        (refine qf_nil ?_)
        exact hK1 _ _ (hS1_3_6_8 ⟨ua, uc, ma1, mc1, ma2, mc2, ma3, mc3, b5, b7, ()⟩ _ _ ⟨rfl, rfl, rfl, rfl, rfl, rfl, trivial⟩ (by repeat (first | exact Sp.nil | exact Sp.refl _ | refine Sp.cons (by repeat constructor) ?_)))
      · skip
        refine qt_seg (by repeat (first | exact PickL.nil | (apply PickL.cons; rfl))) fun K1 hK1 => ?_
        skip
        refine qf_alloc zero107 rfl (fun b6 => ?_)
        (refine qf_nil ?_)
        exact hK1 _ _ (hS1_6_7_8 ⟨ua, uc, b5, b6, b7, ()⟩ _ _ ⟨rfl, rfl, rfl, rfl, rfl, rfl, trivial⟩ (by repeat (first | exact Sp.nil | exact Sp.refl _ | refine Sp.cons (by repeat constructor) ?_)))
    refine qt_let (σ := Option Addr × Nat × Nat × Nat × Unit) (.alt (chainT [2, 3] (.alt (chainT [4, 5] (chainT [6] (chainT [9, 10, 11] (.nil)))) (chainT [6] (chainT [4, 5] (chainT [9, 10, 11] (.nil)))))) (chainT [6] (chainT [2, 3] (chainT [4, 5] (chainT [9, 10, 11] (.nil)))))) (fun ⟨ua, uc, b6, b7, ()⟩ => [(2, .pointer (some ⟨b2, 0, none⟩)), (3, .pointer (some ⟨b3, 0, none⟩)), (6, .pointer (some ⟨b6, 0, none⟩)), (7, .pointer (some ⟨b7, 0, none⟩)), (38, .agg (wnC x ua uc).toArray)]) (fun ⟨ua, uc, b6, b7, ()⟩ => [.pt b6 [.slice none 0 0, .slice none 0 0, .slice none 0 0] 107, .pt b7 [.int .i64 0, .int .i64 0, .slice none 0 0] 93, .ow (.slice ua x.days.length uc) 73 6 x.days.length (dyC x.days)]) ?_ (fun hS1_7_8 => ?_)
    · rintro ⟨ua, uc, b6, b7, _⟩
      refine qt_alt ?_ ?_
      · skip
        refine qt_seg (by repeat (first | exact PickL.nil | (apply PickL.cons; rfl))) fun K1 hK1 => ?_
        (refine qf_loadAB tabOk rfl rfl rfl (by repeat first | exact .head _ | refine .tail _ ?_) (by rfl) (by rfl) ?_)
        refine qf_call (β := Value × Value × Value) tabOk [] _ M0 rfl rfl rfl rfl (Sp.refl _) (fun _ h => h.elim) (fun w' hs => cloneT_ca w' t _ _ _ (hw.keep hs.chg0) (by omega) (by omega) (by omega)) ?_
        rintro ⟨z1, z2, z3⟩ _ rfl
        dsimp only [wtK, List.cons_append, List.nil_append]
        refine qf_fact (fun w hs => hs.slice2 (v := z1) (by repeat first | exact .head _ | refine .tail _ ?_)) ?_
        rintro ⟨ma1, mc1, rfl⟩
        refine qf_fact (fun w hs => hs.slice2 (v := z2) (by repeat first | exact .head _ | refine .tail _ ?_)) ?_
        rintro ⟨ma2, mc2, rfl⟩
        refine qf_fact (fun w hs => hs.slice2 (v := z3) (by repeat first | exact .head _ | refine .tail _ ?_)) ?_
        rintro ⟨ma3, mc3, rfl⟩
        (refine qf_nil ?_)
        exact hK1 _ _ (hS1_3_7_8 ⟨ua, uc, ma1, mc1, ma2, mc2, ma3, mc3, b6, b7, ()⟩ _ _ ⟨rfl, rfl, rfl, rfl, rfl, rfl, trivial⟩ (by repeat (first | exact Sp.nil | exact Sp.refl _ | refine Sp.cons (by repeat constructor) ?_)))
      · skip
        refine qt_seg (by repeat (first | exact PickL.nil | (apply PickL.cons; rfl))) fun K1 hK1 => ?_
        skip
        refine qf_alloc zero61 rfl (fun b5 => ?_)
        (refine qf_nil ?_)
        exact hK1 _ _ (hS1_6_7_8 ⟨ua, uc, b5, b6, b7, ()⟩ _ _ ⟨rfl, rfl, rfl, rfl, rfl, rfl, trivial⟩ (by repeat (first | exact Sp.nil | exact Sp.refl _ | refine Sp.cons (by repeat constructor) ?_)))
    refine qt_let (σ := Nat × Nat × Nat × Unit) (chainT [0, 1] (chainT [2, 3] (chainT [4, 5] (chainT [9, 10, 11] (.nil))))) (fun ⟨b5, b6, b7, ()⟩ => [(2, .pointer (some ⟨b2, 0, none⟩)), (3, .pointer (some ⟨b3, 0, none⟩)), (5, .pointer (some ⟨b5, 0, none⟩)), (6, .pointer (some ⟨b6, 0, none⟩)), (7, .pointer (some ⟨b7, 0, none⟩))]) (fun ⟨b5, b6, b7, ()⟩ => [.pt b5 [.int .i64 0, .int .i64 0, .slice none 0 0] 61, .pt b6 [.slice none 0 0, .slice none 0 0, .slice none 0 0] 107, .pt b7 [.int .i64 0, .int .i64 0, .slice none 0 0] 93]) ?_ (fun hS6_7_8 => ?_)
    · rintro ⟨b5, b6, b7, _⟩
      refine qt_seg (by repeat (first | exact PickL.nil | (apply PickL.cons; rfl))) fun K1 hK1 => ?_
      (refine qf_loadAB tabOk rfl rfl rfl (by repeat first | exact .head _ | refine .tail _ ?_) (by rfl) (by rfl) ?_)
      refine qf_call (β := Option Addr × Nat) tabOk [] _ M0 rfl rfl rfl rfl (Sp.refl _) (fun _ h => h.elim) (fun w' hs => cloneW_ca w' lo hi x a c (RdE.keep h hs.chg0) (by omega)) ?_
      rintro ⟨ua, uc⟩ _ rfl
      dsimp only [List.cons_append, List.nil_append]
      (refine qf_nil ?_)
      exact hK1 _ _ (hS1_6_7_8 ⟨ua, uc, b5, b6, b7, ()⟩ _ _ ⟨rfl, rfl, rfl, rfl, rfl, rfl, trivial⟩ (by repeat (first | exact Sp.nil | exact Sp.refl _ | refine Sp.cons (by repeat constructor) ?_)))
    refine qt_let (σ := Option Addr × Nat × Option Addr × Nat × Option Addr × Nat × Option Addr × Nat × Unit) (.alt (chainT [4, 5] (.alt (chainT [6] (.alt (chainT [7] (chainT [8] (chainT [9, 10, 11] (.nil)))) (chainT [8] (chainT [7] (chainT [9, 10, 11] (.nil)))))) (.alt (chainT [7] (.alt (chainT [6] (chainT [8] (chainT [9, 10, 11] (.nil)))) (chainT [8] (chainT [6] (chainT [9, 10, 11] (.nil)))))) (chainT [8] (.alt (chainT [6] (chainT [7] (chainT [9, 10, 11] (.nil)))) (chainT [7] (chainT [6] (chainT [9, 10, 11] (.nil))))))))) (.alt (chainT [6] (.alt (chainT [4, 5] (.alt (chainT [7] (chainT [8] (chainT [9, 10, 11] (.nil)))) (chainT [8] (chainT [7] (chainT [9, 10, 11] (.nil)))))) (.alt (chainT [7] (.alt (chainT [4, 5] (chainT [8] (chainT [9, 10, 11] (.nil)))) (chainT [8] (chainT [4, 5] (chainT [9, 10, 11] (.nil)))))) (chainT [8] (.alt (chainT [4, 5] (chainT [7] (chainT [9, 10, 11] (.nil)))) (chainT [7] (chainT [4, 5] (chainT [9, 10, 11] (.nil))))))))) (.alt (chainT [7] (.alt (chainT [4, 5] (.alt (chainT [6] (chainT [8] (chainT [9, 10, 11] (.nil)))) (chainT [8] (chainT [6] (chainT [9, 10, 11] (.nil)))))) (.alt (chainT [6] (.alt (chainT [4, 5] (chainT [8] (chainT [9, 10, 11] (.nil)))) (chainT [8] (chainT [4, 5] (chainT [9, 10, 11] (.nil)))))) (chainT [8] (.alt (chainT [4, 5] (chainT [6] (chainT [9, 10, 11] (.nil)))) (chainT [6] (chainT [4, 5] (chainT [9, 10, 11] (.nil))))))))) (chainT [8] (.alt (chainT [4, 5] (.alt (chainT [6] (chainT [7] (chainT [9, 10, 11] (.nil)))) (chainT [7] (chainT [6] (chainT [9, 10, 11] (.nil)))))) (.alt (chainT [6] (.alt (chainT [4, 5] (chainT [7] (chainT [9, 10, 11] (.nil)))) (chainT [7] (chainT [4, 5] (chainT [9, 10, 11] (.nil)))))) (chainT [7] (.alt (chainT [4, 5] (chainT [6] (chainT [9, 10, 11] (.nil)))) (chainT [6] (chainT [4, 5] (chainT [9, 10, 11] (.nil)))))))))))) (fun ⟨ua, uc, ma1, mc1, ma2, mc2, ma3, mc3, ()⟩ => [(2, .pointer (some ⟨b2, 0, none⟩)), (3, .pointer (some ⟨b3, 0, none⟩)), (38, .agg (wnC x ua uc).toArray), (40, .agg #[.slice ma1 t.need.length mc1, .slice ma2 t.make.length mc2, .slice ma3 t.loss.length mc3])]) (fun ⟨ua, uc, ma1, mc1, ma2, mc2, ma3, mc3, ()⟩ => [.ow (.slice ua x.days.length uc) 73 6 x.days.length (dyC x.days), .ow (.slice ma1 t.need.length mc1) 3 1 t.need.length (ints t.need), .ow (.slice ma2 t.make.length mc2) 3 1 t.make.length (ints t.make), .ow (.slice ma3 t.loss.length mc3) 3 1 t.loss.length (ints t.loss)]) ?_ (fun hS1_3 => ?_)
    · rintro ⟨ua, uc, ma1, mc1, ma2, mc2, ma3, mc3, _⟩
      refine qt_alt ?_ (qt_alt ?_ (qt_alt ?_ ?_))
      · skip
        refine qt_seg (by repeat (first | exact PickL.nil | (apply PickL.cons; rfl))) fun K1 hK1 => ?_
        (refine qf_loadAB tabOk rfl rfl rfl (by repeat first | exact .head _ | refine .tail _ ?_) (by rfl) (by rfl) ?_)
        refine qf_call (β := Option Addr × Nat) tabOk [] _ M0 rfl rfl rfl rfl (Sp.refl _) (fun _ h => h.elim) (fun w' hs => rwin_ca w' lo hi x a c (RdE.keep h hs.chg0) (by omega)) ?_
        rintro ⟨ra, rc⟩ _ rfl
        dsimp only [List.cons_append, List.nil_append]
        (refine qf_nil ?_)
        exact hK1 _ _ (hS1_3_5 ⟨ua, uc, ma1, mc1, ma2, mc2, ma3, mc3, ra, rc, ()⟩ _ _ ⟨rfl, rfl, rfl, rfl, rfl, trivial⟩ (by repeat (first | exact Sp.nil | exact Sp.refl _ | refine Sp.cons (by repeat constructor) ?_)))
      · skip
        refine qt_seg (by repeat (first | exact PickL.nil | (apply PickL.cons; rfl))) fun K1 hK1 => ?_
        skip
        refine qf_alloc zero61 rfl (fun b5 => ?_)
        (refine qf_nil ?_)
        exact hK1 _ _ (hS1_3_6 ⟨ua, uc, ma1, mc1, ma2, mc2, ma3, mc3, b5, ()⟩ _ _ ⟨rfl, rfl, rfl, rfl, rfl, trivial⟩ (by repeat (first | exact Sp.nil | exact Sp.refl _ | refine Sp.cons (by repeat constructor) ?_)))
      · skip
        refine qt_seg (by repeat (first | exact PickL.nil | (apply PickL.cons; rfl))) fun K1 hK1 => ?_
        skip
        refine qf_alloc zero107 rfl (fun b6 => ?_)
        (refine qf_nil ?_)
        exact hK1 _ _ (hS1_3_7 ⟨ua, uc, ma1, mc1, ma2, mc2, ma3, mc3, b6, ()⟩ _ _ ⟨rfl, rfl, rfl, rfl, rfl, trivial⟩ (by repeat (first | exact Sp.nil | exact Sp.refl _ | refine Sp.cons (by repeat constructor) ?_)))
      · skip
        refine qt_seg (by repeat (first | exact PickL.nil | (apply PickL.cons; rfl))) fun K1 hK1 => ?_
        skip
        refine qf_alloc zero93 rfl (fun b7 => ?_)
        (refine qf_nil ?_)
        exact hK1 _ _ (hS1_3_8 ⟨ua, uc, ma1, mc1, ma2, mc2, ma3, mc3, b7, ()⟩ _ _ ⟨rfl, rfl, rfl, rfl, rfl, trivial⟩ (by repeat (first | exact Sp.nil | exact Sp.refl _ | refine Sp.cons (by repeat constructor) ?_)))
    refine qt_let (σ := Option Addr × Nat × Nat × Unit) (.alt (chainT [2, 3] (.alt (chainT [4, 5] (.alt (chainT [7] (chainT [8] (chainT [9, 10, 11] (.nil)))) (chainT [8] (chainT [7] (chainT [9, 10, 11] (.nil)))))) (.alt (chainT [7] (.alt (chainT [4, 5] (chainT [8] (chainT [9, 10, 11] (.nil)))) (chainT [8] (chainT [4, 5] (chainT [9, 10, 11] (.nil)))))) (chainT [8] (.alt (chainT [4, 5] (chainT [7] (chainT [9, 10, 11] (.nil)))) (chainT [7] (chainT [4, 5] (chainT [9, 10, 11] (.nil))))))))) (.alt (chainT [7] (.alt (chainT [2, 3] (.alt (chainT [4, 5] (chainT [8] (chainT [9, 10, 11] (.nil)))) (chainT [8] (chainT [4, 5] (chainT [9, 10, 11] (.nil)))))) (chainT [8] (chainT [2, 3] (chainT [4, 5] (chainT [9, 10, 11] (.nil))))))) (chainT [8] (.alt (chainT [2, 3] (.alt (chainT [4, 5] (chainT [7] (chainT [9, 10, 11] (.nil)))) (chainT [7] (chainT [4, 5] (chainT [9, 10, 11] (.nil)))))) (chainT [7] (chainT [2, 3] (chainT [4, 5] (chainT [9, 10, 11] (.nil))))))))) (fun ⟨ua, uc, b5, ()⟩ => [(2, .pointer (some ⟨b2, 0, none⟩)), (3, .pointer (some ⟨b3, 0, none⟩)), (5, .pointer (some ⟨b5, 0, none⟩)), (38, .agg (wnC x ua uc).toArray)]) (fun ⟨ua, uc, b5, ()⟩ => [.pt b5 [.int .i64 0, .int .i64 0, .slice none 0 0] 61, .ow (.slice ua x.days.length uc) 73 6 x.days.length (dyC x.days)]) ?_ (fun hS1_6 => ?_)
    · rintro ⟨ua, uc, b5, _⟩
      refine qt_alt ?_ (qt_alt ?_ ?_)
      · skip
        refine qt_seg (by repeat (first | exact PickL.nil | (apply PickL.cons; rfl))) fun K1 hK1 => ?_
        (refine qf_loadAB tabOk rfl rfl rfl (by repeat first | exact .head _ | refine .tail _ ?_) (by rfl) (by rfl) ?_)
        refine qf_call (β := Value × Value × Value) tabOk [] _ M0 rfl rfl rfl rfl (Sp.refl _) (fun _ h => h.elim) (fun w' hs => cloneT_ca w' t _ _ _ (hw.keep hs.chg0) (by omega) (by omega) (by omega)) ?_
        rintro ⟨z1, z2, z3⟩ _ rfl
        dsimp only [wtK, List.cons_append, List.nil_append]
        refine qf_fact (fun w hs => hs.slice2 (v := z1) (by repeat first | exact .head _ | refine .tail _ ?_)) ?_
        rintro ⟨ma1, mc1, rfl⟩
        refine qf_fact (fun w hs => hs.slice2 (v := z2) (by repeat first | exact .head _ | refine .tail _ ?_)) ?_
        rintro ⟨ma2, mc2, rfl⟩
        refine qf_fact (fun w hs => hs.slice2 (v := z3) (by repeat first | exact .head _ | refine .tail _ ?_)) ?_
        rintro ⟨ma3, mc3, rfl⟩
        (refine qf_nil ?_)
        exact hK1 _ _ (hS1_3_6 ⟨ua, uc, ma1, mc1, ma2, mc2, ma3, mc3, b5, ()⟩ _ _ ⟨rfl, rfl, rfl, rfl, rfl, trivial⟩ (by repeat (first | exact Sp.nil | exact Sp.refl _ | refine Sp.cons (by repeat constructor) ?_)))
      · skip
        refine qt_seg (by repeat (first | exact PickL.nil | (apply PickL.cons; rfl))) fun K1 hK1 => ?_
        skip
        refine qf_alloc zero107 rfl (fun b6 => ?_)
        (refine qf_nil ?_)
        exact hK1 _ _ (hS1_6_7 ⟨ua, uc, b5, b6, ()⟩ _ _ ⟨rfl, rfl, rfl, rfl, rfl, trivial⟩ (by repeat (first | exact Sp.nil | exact Sp.refl _ | refine Sp.cons (by repeat constructor) ?_)))
      · skip
        refine qt_seg (by repeat (first | exact PickL.nil | (apply PickL.cons; rfl))) fun K1 hK1 => ?_
        skip
        refine qf_alloc zero93 rfl (fun b7 => ?_)
        (refine qf_nil ?_)
        exact hK1 _ _ (hS1_6_8 ⟨ua, uc, b5, b7, ()⟩ _ _ ⟨rfl, rfl, rfl, rfl, rfl, trivial⟩ (by repeat (first | exact Sp.nil | exact Sp.refl _ | refine Sp.cons (by repeat constructor) ?_)))
    refine qt_let (σ := Option Addr × Nat × Nat × Unit) (.alt (chainT [2, 3] (.alt (chainT [4, 5] (.alt (chainT [6] (chainT [8] (chainT [9, 10, 11] (.nil)))) (chainT [8] (chainT [6] (chainT [9, 10, 11] (.nil)))))) (.alt (chainT [6] (.alt (chainT [4, 5] (chainT [8] (chainT [9, 10, 11] (.nil)))) (chainT [8] (chainT [4, 5] (chainT [9, 10, 11] (.nil)))))) (chainT [8] (.alt (chainT [4, 5] (chainT [6] (chainT [9, 10, 11] (.nil)))) (chainT [6] (chainT [4, 5] (chainT [9, 10, 11] (.nil))))))))) (.alt (chainT [6] (.alt (chainT [2, 3] (.alt (chainT [4, 5] (chainT [8] (chainT [9, 10, 11] (.nil)))) (chainT [8] (chainT [4, 5] (chainT [9, 10, 11] (.nil)))))) (chainT [8] (chainT [2, 3] (chainT [4, 5] (chainT [9, 10, 11] (.nil))))))) (chainT [8] (.alt (chainT [2, 3] (.alt (chainT [4, 5] (chainT [6] (chainT [9, 10, 11] (.nil)))) (chainT [6] (chainT [4, 5] (chainT [9, 10, 11] (.nil)))))) (chainT [6] (chainT [2, 3] (chainT [4, 5] (chainT [9, 10, 11] (.nil))))))))) (fun ⟨ua, uc, b6, ()⟩ => [(2, .pointer (some ⟨b2, 0, none⟩)), (3, .pointer (some ⟨b3, 0, none⟩)), (6, .pointer (some ⟨b6, 0, none⟩)), (38, .agg (wnC x ua uc).toArray)]) (fun ⟨ua, uc, b6, ()⟩ => [.pt b6 [.slice none 0 0, .slice none 0 0, .slice none 0 0] 107, .ow (.slice ua x.days.length uc) 73 6 x.days.length (dyC x.days)]) ?_ (fun hS1_7 => ?_)
    · rintro ⟨ua, uc, b6, _⟩
      refine qt_alt ?_ (qt_alt ?_ ?_)
      · skip
        refine qt_seg (by repeat (first | exact PickL.nil | (apply PickL.cons; rfl))) fun K1 hK1 => ?_
        (refine qf_loadAB tabOk rfl rfl rfl (by repeat first | exact .head _ | refine .tail _ ?_) (by rfl) (by rfl) ?_)
        refine qf_call (β := Value × Value × Value) tabOk [] _ M0 rfl rfl rfl rfl (Sp.refl _) (fun _ h => h.elim) (fun w' hs => cloneT_ca w' t _ _ _ (hw.keep hs.chg0) (by omega) (by omega) (by omega)) ?_
        rintro ⟨z1, z2, z3⟩ _ rfl
        dsimp only [wtK, List.cons_append, List.nil_append]
        refine qf_fact (fun w hs => hs.slice2 (v := z1) (by repeat first | exact .head _ | refine .tail _ ?_)) ?_
        rintro ⟨ma1, mc1, rfl⟩
        refine qf_fact (fun w hs => hs.slice2 (v := z2) (by repeat first | exact .head _ | refine .tail _ ?_)) ?_
        rintro ⟨ma2, mc2, rfl⟩
        refine qf_fact (fun w hs => hs.slice2 (v := z3) (by repeat first | exact .head _ | refine .tail _ ?_)) ?_
        rintro ⟨ma3, mc3, rfl⟩
        (refine qf_nil ?_)
        exact hK1 _ _ (hS1_3_7 ⟨ua, uc, ma1, mc1, ma2, mc2, ma3, mc3, b6, ()⟩ _ _ ⟨rfl, rfl, rfl, rfl, rfl, trivial⟩ (by repeat (first | exact Sp.nil | exact Sp.refl _ | refine Sp.cons (by repeat constructor) ?_)))
      · skip
        refine qt_seg (by repeat (first | exact PickL.nil | (apply PickL.cons; rfl))) fun K1 hK1 => ?_
        skip
        refine qf_alloc zero61 rfl (fun b5 => ?_)
        (refine qf_nil ?_)
        exact hK1 _ _ (hS1_6_7 ⟨ua, uc, b5, b6, ()⟩ _ _ ⟨rfl, rfl, rfl, rfl, rfl, trivial⟩ (by repeat (first | exact Sp.nil | exact Sp.refl _ | refine Sp.cons (by repeat constructor) ?_)))
      · skip
        refine qt_seg (by repeat (first | exact PickL.nil | (apply PickL.cons; rfl))) fun K1 hK1 => ?_
        skip
        refine qf_alloc zero93 rfl (fun b7 => ?_)
        (refine qf_nil ?_)
        exact hK1 _ _ (hS1_7_8 ⟨ua, uc, b6, b7, ()⟩ _ _ ⟨rfl, rfl, rfl, rfl, rfl, trivial⟩ (by repeat (first | exact Sp.nil | exact Sp.refl _ | refine Sp.cons (by repeat constructor) ?_)))
    refine qt_let (σ := Option Addr × Nat × Nat × Unit) (.alt (chainT [2, 3] (.alt (chainT [4, 5] (.alt (chainT [6] (chainT [7] (chainT [9, 10, 11] (.nil)))) (chainT [7] (chainT [6] (chainT [9, 10, 11] (.nil)))))) (.alt (chainT [6] (.alt (chainT [4, 5] (chainT [7] (chainT [9, 10, 11] (.nil)))) (chainT [7] (chainT [4, 5] (chainT [9, 10, 11] (.nil)))))) (chainT [7] (.alt (chainT [4, 5] (chainT [6] (chainT [9, 10, 11] (.nil)))) (chainT [6] (chainT [4, 5] (chainT [9, 10, 11] (.nil))))))))) (.alt (chainT [6] (.alt (chainT [2, 3] (.alt (chainT [4, 5] (chainT [7] (chainT [9, 10, 11] (.nil)))) (chainT [7] (chainT [4, 5] (chainT [9, 10, 11] (.nil)))))) (chainT [7] (chainT [2, 3] (chainT [4, 5] (chainT [9, 10, 11] (.nil))))))) (chainT [7] (.alt (chainT [2, 3] (.alt (chainT [4, 5] (chainT [6] (chainT [9, 10, 11] (.nil)))) (chainT [6] (chainT [4, 5] (chainT [9, 10, 11] (.nil)))))) (chainT [6] (chainT [2, 3] (chainT [4, 5] (chainT [9, 10, 11] (.nil))))))))) (fun ⟨ua, uc, b7, ()⟩ => [(2, .pointer (some ⟨b2, 0, none⟩)), (3, .pointer (some ⟨b3, 0, none⟩)), (7, .pointer (some ⟨b7, 0, none⟩)), (38, .agg (wnC x ua uc).toArray)]) (fun ⟨ua, uc, b7, ()⟩ => [.pt b7 [.int .i64 0, .int .i64 0, .slice none 0 0] 93, .ow (.slice ua x.days.length uc) 73 6 x.days.length (dyC x.days)]) ?_ (fun hS1_8 => ?_)
    · rintro ⟨ua, uc, b7, _⟩
      refine qt_alt ?_ (qt_alt ?_ ?_)
      · skip
        refine qt_seg (by repeat (first | exact PickL.nil | (apply PickL.cons; rfl))) fun K1 hK1 => ?_
        (refine qf_loadAB tabOk rfl rfl rfl (by repeat first | exact .head _ | refine .tail _ ?_) (by rfl) (by rfl) ?_)
        refine qf_call (β := Value × Value × Value) tabOk [] _ M0 rfl rfl rfl rfl (Sp.refl _) (fun _ h => h.elim) (fun w' hs => cloneT_ca w' t _ _ _ (hw.keep hs.chg0) (by omega) (by omega) (by omega)) ?_
        rintro ⟨z1, z2, z3⟩ _ rfl
        dsimp only [wtK, List.cons_append, List.nil_append]
        refine qf_fact (fun w hs => hs.slice2 (v := z1) (by repeat first | exact .head _ | refine .tail _ ?_)) ?_
        rintro ⟨ma1, mc1, rfl⟩
        refine qf_fact (fun w hs => hs.slice2 (v := z2) (by repeat first | exact .head _ | refine .tail _ ?_)) ?_
        rintro ⟨ma2, mc2, rfl⟩
        refine qf_fact (fun w hs => hs.slice2 (v := z3) (by repeat first | exact .head _ | refine .tail _ ?_)) ?_
        rintro ⟨ma3, mc3, rfl⟩
        (refine qf_nil ?_)
        exact hK1 _ _ (hS1_3_8 ⟨ua, uc, ma1, mc1, ma2, mc2, ma3, mc3, b7, ()⟩ _ _ ⟨rfl, rfl, rfl, rfl, rfl, trivial⟩ (by repeat (first | exact Sp.nil | exact Sp.refl _ | refine Sp.cons (by repeat constructor) ?_)))
      · skip
        refine qt_seg (by repeat (first | exact PickL.nil | (apply PickL.cons; rfl))) fun K1 hK1 => ?_
        skip
        refine qf_alloc zero61 rfl (fun b5 => ?_)
        (refine qf_nil ?_)
        exact hK1 _ _ (hS1_6_8 ⟨ua, uc, b5, b7, ()⟩ _ _ ⟨rfl, rfl, rfl, rfl, rfl, trivial⟩ (by repeat (first | exact Sp.nil | exact Sp.refl _ | refine Sp.cons (by repeat constructor) ?_)))
      · skip
        refine qt_seg (by repeat (first | exact PickL.nil | (apply PickL.cons; rfl))) fun K1 hK1 => ?_
        skip
        refine qf_alloc zero107 rfl (fun b6 => ?_)
        (refine qf_nil ?_)
        exact hK1 _ _ (hS1_7_8 ⟨ua, uc, b6, b7, ()⟩ _ _ ⟨rfl, rfl, rfl, rfl, rfl, trivial⟩ (by repeat (first | exact Sp.nil | exact Sp.refl _ | refine Sp.cons (by repeat constructor) ?_)))
    refine qt_let (σ := Nat × Nat × Unit) (.alt (chainT [0, 1] (.alt (chainT [2, 3] (.alt (chainT [4, 5] (chainT [8] (chainT [9, 10, 11] (.nil)))) (chainT [8] (chainT [4, 5] (chainT [9, 10, 11] (.nil)))))) (chainT [8] (chainT [2, 3] (chainT [4, 5] (chainT [9, 10, 11] (.nil))))))) (chainT [8] (chainT [0, 1] (chainT [2, 3] (chainT [4, 5] (chainT [9, 10, 11] (.nil))))))) (fun ⟨b5, b6, ()⟩ => [(2, .pointer (some ⟨b2, 0, none⟩)), (3, .pointer (some ⟨b3, 0, none⟩)), (5, .pointer (some ⟨b5, 0, none⟩)), (6, .pointer (some ⟨b6, 0, none⟩))]) (fun ⟨b5, b6, ()⟩ => [.pt b5 [.int .i64 0, .int .i64 0, .slice none 0 0] 61, .pt b6 [.slice none 0 0, .slice none 0 0, .slice none 0 0] 107]) ?_ (fun hS6_7 => ?_)
    · rintro ⟨b5, b6, _⟩
      refine qt_alt ?_ ?_
      · skip
        refine qt_seg (by repeat (first | exact PickL.nil | (apply PickL.cons; rfl))) fun K1 hK1 => ?_
        (refine qf_loadAB tabOk rfl rfl rfl (by repeat first | exact .head _ | refine .tail _ ?_) (by rfl) (by rfl) ?_)
        refine qf_call (β := Option Addr × Nat) tabOk [] _ M0 rfl rfl rfl rfl (Sp.refl _) (fun _ h => h.elim) (fun w' hs => cloneW_ca w' lo hi x a c (RdE.keep h hs.chg0) (by omega)) ?_
        rintro ⟨ua, uc⟩ _ rfl
        dsimp only [List.cons_append, List.nil_append]
        (refine qf_nil ?_)
        exact hK1 _ _ (hS1_6_7 ⟨ua, uc, b5, b6, ()⟩ _ _ ⟨rfl, rfl, rfl, rfl, rfl, trivial⟩ (by repeat (first | exact Sp.nil | exact Sp.refl _ | refine Sp.cons (by repeat constructor) ?_)))
      · skip
        refine qt_seg (by repeat (first | exact PickL.nil | (apply PickL.cons; rfl))) fun K1 hK1 => ?_
        skip
        refine qf_alloc zero93 rfl (fun b7 => ?_)
        (refine qf_nil ?_)
        exact hK1 _ _ (hS6_7_8 ⟨b5, b6, b7, ()⟩ _ _ ⟨rfl, rfl, rfl, rfl, rfl, trivial⟩ (by repeat (first | exact Sp.nil | exact Sp.refl _ | refine Sp.cons (by repeat constructor) ?_)))
    refine qt_let (σ := Nat × Nat × Unit) (.alt (chainT [0, 1] (.alt (chainT [2, 3] (.alt (chainT [4, 5] (chainT [7] (chainT [9, 10, 11] (.nil)))) (chainT [7] (chainT [4, 5] (chainT [9, 10, 11] (.nil)))))) (chainT [7] (chainT [2, 3] (chainT [4, 5] (chainT [9, 10, 11] (.nil))))))) (chainT [7] (chainT [0, 1] (chainT [2, 3] (chainT [4, 5] (chainT [9, 10, 11] (.nil))))))) (fun ⟨b5, b7, ()⟩ => [(2, .pointer (some ⟨b2, 0, none⟩)), (3, .pointer (some ⟨b3, 0, none⟩)), (5, .pointer (some ⟨b5, 0, none⟩)), (7, .pointer (some ⟨b7, 0, none⟩))]) (fun ⟨b5, b7, ()⟩ => [.pt b5 [.int .i64 0, .int .i64 0, .slice none 0 0] 61, .pt b7 [.int .i64 0, .int .i64 0, .slice none 0 0] 93]) ?_ (fun hS6_8 => ?_)
    · rintro ⟨b5, b7, _⟩
      refine qt_alt ?_ ?_
      · skip
        refine qt_seg (by repeat (first | exact PickL.nil | (apply PickL.cons; rfl))) fun K1 hK1 => ?_
        (refine qf_loadAB tabOk rfl rfl rfl (by repeat first | exact .head _ | refine .tail _ ?_) (by rfl) (by rfl) ?_)
        refine qf_call (β := Option Addr × Nat) tabOk [] _ M0 rfl rfl rfl rfl (Sp.refl _) (fun _ h => h.elim) (fun w' hs => cloneW_ca w' lo hi x a c (RdE.keep h hs.chg0) (by omega)) ?_
        rintro ⟨ua, uc⟩ _ rfl
        dsimp only [List.cons_append, List.nil_append]
        (refine qf_nil ?_)
        exact hK1 _ _ (hS1_6_8 ⟨ua, uc, b5, b7, ()⟩ _ _ ⟨rfl, rfl, rfl, rfl, rfl, trivial⟩ (by repeat (first | exact Sp.nil | exact Sp.refl _ | refine Sp.cons (by repeat constructor) ?_)))
      · skip
        refine qt_seg (by repeat (first | exact PickL.nil | (apply PickL.cons; rfl))) fun K1 hK1 => ?_
        skip
        refine qf_alloc zero107 rfl (fun b6 => ?_)
        (refine qf_nil ?_)
        exact hK1 _ _ (hS6_7_8 ⟨b5, b6, b7, ()⟩ _ _ ⟨rfl, rfl, rfl, rfl, rfl, trivial⟩ (by repeat (first | exact Sp.nil | exact Sp.refl _ | refine Sp.cons (by repeat constructor) ?_)))
    refine qt_let (σ := Nat × Nat × Unit) (.alt (chainT [0, 1] (.alt (chainT [2, 3] (.alt (chainT [4, 5] (chainT [6] (chainT [9, 10, 11] (.nil)))) (chainT [6] (chainT [4, 5] (chainT [9, 10, 11] (.nil)))))) (chainT [6] (chainT [2, 3] (chainT [4, 5] (chainT [9, 10, 11] (.nil))))))) (chainT [6] (chainT [0, 1] (chainT [2, 3] (chainT [4, 5] (chainT [9, 10, 11] (.nil))))))) (fun ⟨b6, b7, ()⟩ => [(2, .pointer (some ⟨b2, 0, none⟩)), (3, .pointer (some ⟨b3, 0, none⟩)), (6, .pointer (some ⟨b6, 0, none⟩)), (7, .pointer (some ⟨b7, 0, none⟩))]) (fun ⟨b6, b7, ()⟩ => [.pt b6 [.slice none 0 0, .slice none 0 0, .slice none 0 0] 107, .pt b7 [.int .i64 0, .int .i64 0, .slice none 0 0] 93]) ?_ (fun hS7_8 => ?_)
    · rintro ⟨b6, b7, _⟩
      refine qt_alt ?_ ?_
      · skip
        refine qt_seg (by repeat (first | exact PickL.nil | (apply PickL.cons; rfl))) fun K1 hK1 => ?_
        (refine qf_loadAB tabOk rfl rfl rfl (by repeat first | exact .head _ | refine .tail _ ?_) (by rfl) (by rfl) ?_)
        refine qf_call (β := Option Addr × Nat) tabOk [] _ M0 rfl rfl rfl rfl (Sp.refl _) (fun _ h => h.elim) (fun w' hs => cloneW_ca w' lo hi x a c (RdE.keep h hs.chg0) (by omega)) ?_
        rintro ⟨ua, uc⟩ _ rfl
        dsimp only [List.cons_append, List.nil_append]
        (refine qf_nil ?_)
        exact hK1 _ _ (hS1_7_8 ⟨ua, uc, b6, b7, ()⟩ _ _ ⟨rfl, rfl, rfl, rfl, rfl, trivial⟩ (by repeat (first | exact Sp.nil | exact Sp.refl _ | refine Sp.cons (by repeat constructor) ?_)))
      · skip
        refine qt_seg (by repeat (first | exact PickL.nil | (apply PickL.cons; rfl))) fun K1 hK1 => ?_
        skip
        refine qf_alloc zero61 rfl (fun b5 => ?_)
        (refine qf_nil ?_)
        exact hK1 _ _ (hS6_7_8 ⟨b5, b6, b7, ()⟩ _ _ ⟨rfl, rfl, rfl, rfl, rfl, trivial⟩ (by repeat (first | exact Sp.nil | exact Sp.refl _ | refine Sp.cons (by repeat constructor) ?_)))
    refine qt_let (σ := Option Addr × Nat × Unit) (.alt (chainT [2, 3] (.alt (chainT [4, 5] (.alt (chainT [6] (.alt (chainT [7] (chainT [8] (chainT [9, 10, 11] (.nil)))) (chainT [8] (chainT [7] (chainT [9, 10, 11] (.nil)))))) (.alt (chainT [7] (.alt (chainT [6] (chainT [8] (chainT [9, 10, 11] (.nil)))) (chainT [8] (chainT [6] (chainT [9, 10, 11] (.nil)))))) (chainT [8] (.alt (chainT [6] (chainT [7] (chainT [9, 10, 11] (.nil)))) (chainT [7] (chainT [6] (chainT [9, 10, 11] (.nil))))))))) (.alt (chainT [6] (.alt (chainT [4, 5] (.alt (chainT [7] (chainT [8] (chainT [9, 10, 11] (.nil)))) (chainT [8] (chainT [7] (chainT [9, 10, 11] (.nil)))))) (.alt (chainT [7] (.alt (chainT [4, 5] (chainT [8] (chainT [9, 10, 11] (.nil)))) (chainT [8] (chainT [4, 5] (chainT [9, 10, 11] (.nil)))))) (chainT [8] (.alt (chainT [4, 5] (chainT [7] (chainT [9, 10, 11] (.nil)))) (chainT [7] (chainT [4, 5] (chainT [9, 10, 11] (.nil))))))))) (.alt (chainT [7] (.alt (chainT [4, 5] (.alt (chainT [6] (chainT [8] (chainT [9, 10, 11] (.nil)))) (chainT [8] (chainT [6] (chainT [9, 10, 11] (.nil)))))) (.alt (chainT [6] (.alt (chainT [4, 5] (chainT [8] (chainT [9, 10, 11] (.nil)))) (chainT [8] (chainT [4, 5] (chainT [9, 10, 11] (.nil)))))) (chainT [8] (.alt (chainT [4, 5] (chainT [6] (chainT [9, 10, 11] (.nil)))) (chainT [6] (chainT [4, 5] (chainT [9, 10, 11] (.nil))))))))) (chainT [8] (.alt (chainT [4, 5] (.alt (chainT [6] (chainT [7] (chainT [9, 10, 11] (.nil)))) (chainT [7] (chainT [6] (chainT [9, 10, 11] (.nil)))))) (.alt (chainT [6] (.alt (chainT [4, 5] (chainT [7] (chainT [9, 10, 11] (.nil)))) (chainT [7] (chainT [4, 5] (chainT [9, 10, 11] (.nil)))))) (chainT [7] (.alt (chainT [4, 5] (chainT [6] (chainT [9, 10, 11] (.nil)))) (chainT [6] (chainT [4, 5] (chainT [9, 10, 11] (.nil))))))))))))) (.alt (chainT [6] (.alt (chainT [2, 3] (.alt (chainT [4, 5] (.alt (chainT [7] (chainT [8] (chainT [9, 10, 11] (.nil)))) (chainT [8] (chainT [7] (chainT [9, 10, 11] (.nil)))))) (.alt (chainT [7] (.alt (chainT [4, 5] (chainT [8] (chainT [9, 10, 11] (.nil)))) (chainT [8] (chainT [4, 5] (chainT [9, 10, 11] (.nil)))))) (chainT [8] (.alt (chainT [4, 5] (chainT [7] (chainT [9, 10, 11] (.nil)))) (chainT [7] (chainT [4, 5] (chainT [9, 10, 11] (.nil))))))))) (.alt (chainT [7] (.alt (chainT [2, 3] (.alt (chainT [4, 5] (chainT [8] (chainT [9, 10, 11] (.nil)))) (chainT [8] (chainT [4, 5] (chainT [9, 10, 11] (.nil)))))) (chainT [8] (chainT [2, 3] (chainT [4, 5] (chainT [9, 10, 11] (.nil))))))) (chainT [8] (.alt (chainT [2, 3] (.alt (chainT [4, 5] (chainT [7] (chainT [9, 10, 11] (.nil)))) (chainT [7] (chainT [4, 5] (chainT [9, 10, 11] (.nil)))))) (chainT [7] (chainT [2, 3] (chainT [4, 5] (chainT [9, 10, 11] (.nil)))))))))) (.alt (chainT [7] (.alt (chainT [2, 3] (.alt (chainT [4, 5] (.alt (chainT [6] (chainT [8] (chainT [9, 10, 11] (.nil)))) (chainT [8] (chainT [6] (chainT [9, 10, 11] (.nil)))))) (.alt (chainT [6] (.alt (chainT [4, 5] (chainT [8] (chainT [9, 10, 11] (.nil)))) (chainT [8] (chainT [4, 5] (chainT [9, 10, 11] (.nil)))))) (chainT [8] (.alt (chainT [4, 5] (chainT [6] (chainT [9, 10, 11] (.nil)))) (chainT [6] (chainT [4, 5] (chainT [9, 10, 11] (.nil))))))))) (.alt (chainT [6] (.alt (chainT [2, 3] (.alt (chainT [4, 5] (chainT [8] (chainT [9, 10, 11] (.nil)))) (chainT [8] (chainT [4, 5] (chainT [9, 10, 11] (.nil)))))) (chainT [8] (chainT [2, 3] (chainT [4, 5] (chainT [9, 10, 11] (.nil))))))) (chainT [8] (.alt (chainT [2, 3] (.alt (chainT [4, 5] (chainT [6] (chainT [9, 10, 11] (.nil)))) (chainT [6] (chainT [4, 5] (chainT [9, 10, 11] (.nil)))))) (chainT [6] (chainT [2, 3] (chainT [4, 5] (chainT [9, 10, 11] (.nil)))))))))) (chainT [8] (.alt (chainT [2, 3] (.alt (chainT [4, 5] (.alt (chainT [6] (chainT [7] (chainT [9, 10, 11] (.nil)))) (chainT [7] (chainT [6] (chainT [9, 10, 11] (.nil)))))) (.alt (chainT [6] (.alt (chainT [4, 5] (chainT [7] (chainT [9, 10, 11] (.nil)))) (chainT [7] (chainT [4, 5] (chainT [9, 10, 11] (.nil)))))) (chainT [7] (.alt (chainT [4, 5] (chainT [6] (chainT [9, 10, 11] (.nil)))) (chainT [6] (chainT [4, 5] (chainT [9, 10, 11] (.nil))))))))) (.alt (chainT [6] (.alt (chainT [2, 3] (.alt (chainT [4, 5] (chainT [7] (chainT [9, 10, 11] (.nil)))) (chainT [7] (chainT [4, 5] (chainT [9, 10, 11] (.nil)))))) (chainT [7] (chainT [2, 3] (chainT [4, 5] (chainT [9, 10, 11] (.nil))))))) (chainT [7] (.alt (chainT [2, 3] (.alt (chainT [4, 5] (chainT [6] (chainT [9, 10, 11] (.nil)))) (chainT [6] (chainT [4, 5] (chainT [9, 10, 11] (.nil)))))) (chainT [6] (chainT [2, 3] (chainT [4, 5] (chainT [9, 10, 11] (.nil))))))))))))) (fun ⟨ua, uc, ()⟩ => [(2, .pointer (some ⟨b2, 0, none⟩)), (3, .pointer (some ⟨b3, 0, none⟩)), (38, .agg (wnC x ua uc).toArray)]) (fun ⟨ua, uc, ()⟩ => [.ow (.slice ua x.days.length uc) 73 6 x.days.length (dyC x.days)]) ?_ (fun hS1 => ?_)
    · rintro ⟨ua, uc, _⟩
      refine qt_alt ?_ (qt_alt ?_ (qt_alt ?_ ?_))
      · skip
        refine qt_seg (by repeat (first | exact PickL.nil | (apply PickL.cons; rfl))) fun K1 hK1 => ?_
        (refine qf_loadAB tabOk rfl rfl rfl (by repeat first | exact .head _ | refine .tail _ ?_) (by rfl) (by rfl) ?_)
        refine qf_call (β := Value × Value × Value) tabOk [] _ M0 rfl rfl rfl rfl (Sp.refl _) (fun _ h => h.elim) (fun w' hs => cloneT_ca w' t _ _ _ (hw.keep hs.chg0) (by omega) (by omega) (by omega)) ?_
        rintro ⟨z1, z2, z3⟩ _ rfl
        dsimp only [wtK, List.cons_append, List.nil_append]
        refine qf_fact (fun w hs => hs.slice2 (v := z1) (by repeat first | exact .head _ | refine .tail _ ?_)) ?_
        rintro ⟨ma1, mc1, rfl⟩
        refine qf_fact (fun w hs => hs.slice2 (v := z2) (by repeat first | exact .head _ | refine .tail _ ?_)) ?_
        rintro ⟨ma2, mc2, rfl⟩
        refine qf_fact (fun w hs => hs.slice2 (v := z3) (by repeat first | exact .head _ | refine .tail _ ?_)) ?_
        rintro ⟨ma3, mc3, rfl⟩
        (refine qf_nil ?_)
        exact hK1 _ _ (hS1_3 ⟨ua, uc, ma1, mc1, ma2, mc2, ma3, mc3, ()⟩ _ _ ⟨rfl, rfl, rfl, rfl, trivial⟩ (by repeat (first | exact Sp.nil | exact Sp.refl _ | refine Sp.cons (by repeat constructor) ?_)))
      · skip
        refine qt_seg (by repeat (first | exact PickL.nil | (apply PickL.cons; rfl))) fun K1 hK1 => ?_
        skip
        refine qf_alloc zero61 rfl (fun b5 => ?_)
        (refine qf_nil ?_)
        exact hK1 _ _ (hS1_6 ⟨ua, uc, b5, ()⟩ _ _ ⟨rfl, rfl, rfl, rfl, trivial⟩ (by repeat (first | exact Sp.nil | exact Sp.refl _ | refine Sp.cons (by repeat constructor) ?_)))
      · skip
        refine qt_seg (by repeat (first | exact PickL.nil | (apply PickL.cons; rfl))) fun K1 hK1 => ?_
        skip
        refine qf_alloc zero107 rfl (fun b6 => ?_)
        (refine qf_nil ?_)
        exact hK1 _ _ (hS1_7 ⟨ua, uc, b6, ()⟩ _ _ ⟨rfl, rfl, rfl, rfl, trivial⟩ (by repeat (first | exact Sp.nil | exact Sp.refl _ | refine Sp.cons (by repeat constructor) ?_)))
      · skip
        refine qt_seg (by repeat (first | exact PickL.nil | (apply PickL.cons; rfl))) fun K1 hK1 => ?_
        skip
        refine qf_alloc zero93 rfl (fun b7 => ?_)
        (refine qf_nil ?_)
        exact hK1 _ _ (hS1_8 ⟨ua, uc, b7, ()⟩ _ _ ⟨rfl, rfl, rfl, rfl, trivial⟩ (by repeat (first | exact Sp.nil | exact Sp.refl _ | refine Sp.cons (by repeat constructor) ?_)))
    refine qt_let (σ := Nat × Unit) (.alt (chainT [0, 1] (.alt (chainT [2, 3] (.alt (chainT [4, 5] (.alt (chainT [7] (chainT [8] (chainT [9, 10, 11] (.nil)))) (chainT [8] (chainT [7] (chainT [9, 10, 11] (.nil)))))) (.alt (chainT [7] (.alt (chainT [4, 5] (chainT [8] (chainT [9, 10, 11] (.nil)))) (chainT [8] (chainT [4, 5] (chainT [9, 10, 11] (.nil)))))) (chainT [8] (.alt (chainT [4, 5] (chainT [7] (chainT [9, 10, 11] (.nil)))) (chainT [7] (chainT [4, 5] (chainT [9, 10, 11] (.nil))))))))) (.alt (chainT [7] (.alt (chainT [2, 3] (.alt (chainT [4, 5] (chainT [8] (chainT [9, 10, 11] (.nil)))) (chainT [8] (chainT [4, 5] (chainT [9, 10, 11] (.nil)))))) (chainT [8] (chainT [2, 3] (chainT [4, 5] (chainT [9, 10, 11] (.nil))))))) (chainT [8] (.alt (chainT [2, 3] (.alt (chainT [4, 5] (chainT [7] (chainT [9, 10, 11] (.nil)))) (chainT [7] (chainT [4, 5] (chainT [9, 10, 11] (.nil)))))) (chainT [7] (chainT [2, 3] (chainT [4, 5] (chainT [9, 10, 11] (.nil)))))))))) (.alt (chainT [7] (.alt (chainT [0, 1] (.alt (chainT [2, 3] (.alt (chainT [4, 5] (chainT [8] (chainT [9, 10, 11] (.nil)))) (chainT [8] (chainT [4, 5] (chainT [9, 10, 11] (.nil)))))) (chainT [8] (chainT [2, 3] (chainT [4, 5] (chainT [9, 10, 11] (.nil))))))) (chainT [8] (chainT [0, 1] (chainT [2, 3] (chainT [4, 5] (chainT [9, 10, 11] (.nil)))))))) (chainT [8] (.alt (chainT [0, 1] (.alt (chainT [2, 3] (.alt (chainT [4, 5] (chainT [7] (chainT [9, 10, 11] (.nil)))) (chainT [7] (chainT [4, 5] (chainT [9, 10, 11] (.nil)))))) (chainT [7] (chainT [2, 3] (chainT [4, 5] (chainT [9, 10, 11] (.nil))))))) (chainT [7] (chainT [0, 1] (chainT [2, 3] (chainT [4, 5] (chainT [9, 10, 11] (.nil)))))))))) (fun ⟨b5, ()⟩ => [(2, .pointer (some ⟨b2, 0, none⟩)), (3, .pointer (some ⟨b3, 0, none⟩)), (5, .pointer (some ⟨b5, 0, none⟩))]) (fun ⟨b5, ()⟩ => [.pt b5 [.int .i64 0, .int .i64 0, .slice none 0 0] 61]) ?_ (fun hS6 => ?_)
    · rintro ⟨b5, _⟩
      refine qt_alt ?_ (qt_alt ?_ ?_)
      · skip
        refine qt_seg (by repeat (first | exact PickL.nil | (apply PickL.cons; rfl))) fun K1 hK1 => ?_
        (refine qf_loadAB tabOk rfl rfl rfl (by repeat first | exact .head _ | refine .tail _ ?_) (by rfl) (by rfl) ?_)
        refine qf_call (β := Option Addr × Nat) tabOk [] _ M0 rfl rfl rfl rfl (Sp.refl _) (fun _ h => h.elim) (fun w' hs => cloneW_ca w' lo hi x a c (RdE.keep h hs.chg0) (by omega)) ?_
        rintro ⟨ua, uc⟩ _ rfl
        dsimp only [List.cons_append, List.nil_append]
        (refine qf_nil ?_)
        exact hK1 _ _ (hS1_6 ⟨ua, uc, b5, ()⟩ _ _ ⟨rfl, rfl, rfl, rfl, trivial⟩ (by repeat (first | exact Sp.nil | exact Sp.refl _ | refine Sp.cons (by repeat constructor) ?_)))
      · skip
        refine qt_seg (by repeat (first | exact PickL.nil | (apply PickL.cons; rfl))) fun K1 hK1 => ?_
        skip
        refine qf_alloc zero107 rfl (fun b6 => ?_)
        (refine qf_nil ?_)
        exact hK1 _ _ (hS6_7 ⟨b5, b6, ()⟩ _ _ ⟨rfl, rfl, rfl, rfl, trivial⟩ (by repeat (first | exact Sp.nil | exact Sp.refl _ | refine Sp.cons (by repeat constructor) ?_)))
      · skip
        refine qt_seg (by repeat (first | exact PickL.nil | (apply PickL.cons; rfl))) fun K1 hK1 => ?_
        skip
        refine qf_alloc zero93 rfl (fun b7 => ?_)
        (refine qf_nil ?_)
        exact hK1 _ _ (hS6_8 ⟨b5, b7, ()⟩ _ _ ⟨rfl, rfl, rfl, rfl, trivial⟩ (by repeat (first | exact Sp.nil | exact Sp.refl _ | refine Sp.cons (by repeat constructor) ?_)))
    refine qt_let (σ := Nat × Unit) (.alt (chainT [0, 1] (.alt (chainT [2, 3] (.alt (chainT [4, 5] (.alt (chainT [6] (chainT [8] (chainT [9, 10, 11] (.nil)))) (chainT [8] (chainT [6] (chainT [9, 10, 11] (.nil)))))) (.alt (chainT [6] (.alt (chainT [4, 5] (chainT [8] (chainT [9, 10, 11] (.nil)))) (chainT [8] (chainT [4, 5] (chainT [9, 10, 11] (.nil)))))) (chainT [8] (.alt (chainT [4, 5] (chainT [6] (chainT [9, 10, 11] (.nil)))) (chainT [6] (chainT [4, 5] (chainT [9, 10, 11] (.nil))))))))) (.alt (chainT [6] (.alt (chainT [2, 3] (.alt (chainT [4, 5] (chainT [8] (chainT [9, 10, 11] (.nil)))) (chainT [8] (chainT [4, 5] (chainT [9, 10, 11] (.nil)))))) (chainT [8] (chainT [2, 3] (chainT [4, 5] (chainT [9, 10, 11] (.nil))))))) (chainT [8] (.alt (chainT [2, 3] (.alt (chainT [4, 5] (chainT [6] (chainT [9, 10, 11] (.nil)))) (chainT [6] (chainT [4, 5] (chainT [9, 10, 11] (.nil)))))) (chainT [6] (chainT [2, 3] (chainT [4, 5] (chainT [9, 10, 11] (.nil)))))))))) (.alt (chainT [6] (.alt (chainT [0, 1] (.alt (chainT [2, 3] (.alt (chainT [4, 5] (chainT [8] (chainT [9, 10, 11] (.nil)))) (chainT [8] (chainT [4, 5] (chainT [9, 10, 11] (.nil)))))) (chainT [8] (chainT [2, 3] (chainT [4, 5] (chainT [9, 10, 11] (.nil))))))) (chainT [8] (chainT [0, 1] (chainT [2, 3] (chainT [4, 5] (chainT [9, 10, 11] (.nil)))))))) (chainT [8] (.alt (chainT [0, 1] (.alt (chainT [2, 3] (.alt (chainT [4, 5] (chainT [6] (chainT [9, 10, 11] (.nil)))) (chainT [6] (chainT [4, 5] (chainT [9, 10, 11] (.nil)))))) (chainT [6] (chainT [2, 3] (chainT [4, 5] (chainT [9, 10, 11] (.nil))))))) (chainT [6] (chainT [0, 1] (chainT [2, 3] (chainT [4, 5] (chainT [9, 10, 11] (.nil)))))))))) (fun ⟨b6, ()⟩ => [(2, .pointer (some ⟨b2, 0, none⟩)), (3, .pointer (some ⟨b3, 0, none⟩)), (6, .pointer (some ⟨b6, 0, none⟩))]) (fun ⟨b6, ()⟩ => [.pt b6 [.slice none 0 0, .slice none 0 0, .slice none 0 0] 107]) ?_ (fun hS7 => ?_)
    · rintro ⟨b6, _⟩
      refine qt_alt ?_ (qt_alt ?_ ?_)
      · skip
        refine qt_seg (by repeat (first | exact PickL.nil | (apply PickL.cons; rfl))) fun K1 hK1 => ?_
        (refine qf_loadAB tabOk rfl rfl rfl (by repeat first | exact .head _ | refine .tail _ ?_) (by rfl) (by rfl) ?_)
        refine qf_call (β := Option Addr × Nat) tabOk [] _ M0 rfl rfl rfl rfl (Sp.refl _) (fun _ h => h.elim) (fun w' hs => cloneW_ca w' lo hi x a c (RdE.keep h hs.chg0) (by omega)) ?_
        rintro ⟨ua, uc⟩ _ rfl
        dsimp only [List.cons_append, List.nil_append]
        (refine qf_nil ?_)
        exact hK1 _ _ (hS1_7 ⟨ua, uc, b6, ()⟩ _ _ ⟨rfl, rfl, rfl, rfl, trivial⟩ (by repeat (first | exact Sp.nil | exact Sp.refl _ | refine Sp.cons (by repeat constructor) ?_)))
      · skip
        refine qt_seg (by repeat (first | exact PickL.nil | (apply PickL.cons; rfl))) fun K1 hK1 => ?_
        skip
        refine qf_alloc zero61 rfl (fun b5 => ?_)
        (refine qf_nil ?_)
        exact hK1 _ _ (hS6_7 ⟨b5, b6, ()⟩ _ _ ⟨rfl, rfl, rfl, rfl, trivial⟩ (by repeat (first | exact Sp.nil | exact Sp.refl _ | refine Sp.cons (by repeat constructor) ?_)))
      · skip
        refine qt_seg (by repeat (first | exact PickL.nil | (apply PickL.cons; rfl))) fun K1 hK1 => ?_
        skip
        refine qf_alloc zero93 rfl (fun b7 => ?_)
        (refine qf_nil ?_)
        exact hK1 _ _ (hS7_8 ⟨b6, b7, ()⟩ _ _ ⟨rfl, rfl, rfl, rfl, trivial⟩ (by repeat (first | exact Sp.nil | exact Sp.refl _ | refine Sp.cons (by repeat constructor) ?_)))
    refine qt_let (σ := Nat × Unit) (.alt (chainT [0, 1] (.alt (chainT [2, 3] (.alt (chainT [4, 5] (.alt (chainT [6] (chainT [7] (chainT [9, 10, 11] (.nil)))) (chainT [7] (chainT [6] (chainT [9, 10, 11] (.nil)))))) (.alt (chainT [6] (.alt (chainT [4, 5] (chainT [7] (chainT [9, 10, 11] (.nil)))) (chainT [7] (chainT [4, 5] (chainT [9, 10, 11] (.nil)))))) (chainT [7] (.alt (chainT [4, 5] (chainT [6] (chainT [9, 10, 11] (.nil)))) (chainT [6] (chainT [4, 5] (chainT [9, 10, 11] (.nil))))))))) (.alt (chainT [6] (.alt (chainT [2, 3] (.alt (chainT [4, 5] (chainT [7] (chainT [9, 10, 11] (.nil)))) (chainT [7] (chainT [4, 5] (chainT [9, 10, 11] (.nil)))))) (chainT [7] (chainT [2, 3] (chainT [4, 5] (chainT [9, 10, 11] (.nil))))))) (chainT [7] (.alt (chainT [2, 3] (.alt (chainT [4, 5] (chainT [6] (chainT [9, 10, 11] (.nil)))) (chainT [6] (chainT [4, 5] (chainT [9, 10, 11] (.nil)))))) (chainT [6] (chainT [2, 3] (chainT [4, 5] (chainT [9, 10, 11] (.nil)))))))))) (.alt (chainT [6] (.alt (chainT [0, 1] (.alt (chainT [2, 3] (.alt (chainT [4, 5] (chainT [7] (chainT [9, 10, 11] (.nil)))) (chainT [7] (chainT [4, 5] (chainT [9, 10, 11] (.nil)))))) (chainT [7] (chainT [2, 3] (chainT [4, 5] (chainT [9, 10, 11] (.nil))))))) (chainT [7] (chainT [0, 1] (chainT [2, 3] (chainT [4, 5] (chainT [9, 10, 11] (.nil)))))))) (chainT [7] (.alt (chainT [0, 1] (.alt (chainT [2, 3] (.alt (chainT [4, 5] (chainT [6] (chainT [9, 10, 11] (.nil)))) (chainT [6] (chainT [4, 5] (chainT [9, 10, 11] (.nil)))))) (chainT [6] (chainT [2, 3] (chainT [4, 5] (chainT [9, 10, 11] (.nil))))))) (chainT [6] (chainT [0, 1] (chainT [2, 3] (chainT [4, 5] (chainT [9, 10, 11] (.nil)))))))))) (fun ⟨b7, ()⟩ => [(2, .pointer (some ⟨b2, 0, none⟩)), (3, .pointer (some ⟨b3, 0, none⟩)), (7, .pointer (some ⟨b7, 0, none⟩))]) (fun ⟨b7, ()⟩ => [.pt b7 [.int .i64 0, .int .i64 0, .slice none 0 0] 93]) ?_ (fun hS8 => ?_)
    · rintro ⟨b7, _⟩
      refine qt_alt ?_ (qt_alt ?_ ?_)
      · skip
        refine qt_seg (by repeat (first | exact PickL.nil | (apply PickL.cons; rfl))) fun K1 hK1 => ?_
        (refine qf_loadAB tabOk rfl rfl rfl (by repeat first | exact .head _ | refine .tail _ ?_) (by rfl) (by rfl) ?_)
        refine qf_call (β := Option Addr × Nat) tabOk [] _ M0 rfl rfl rfl rfl (Sp.refl _) (fun _ h => h.elim) (fun w' hs => cloneW_ca w' lo hi x a c (RdE.keep h hs.chg0) (by omega)) ?_
        rintro ⟨ua, uc⟩ _ rfl
        dsimp only [List.cons_append, List.nil_append]
        (refine qf_nil ?_)
        exact hK1 _ _ (hS1_8 ⟨ua, uc, b7, ()⟩ _ _ ⟨rfl, rfl, rfl, rfl, trivial⟩ (by repeat (first | exact Sp.nil | exact Sp.refl _ | refine Sp.cons (by repeat constructor) ?_)))
      · skip
        refine qt_seg (by repeat (first | exact PickL.nil | (apply PickL.cons; rfl))) fun K1 hK1 => ?_
        skip
        refine qf_alloc zero61 rfl (fun b5 => ?_)
        (refine qf_nil ?_)
        exact hK1 _ _ (hS6_8 ⟨b5, b7, ()⟩ _ _ ⟨rfl, rfl, rfl, rfl, trivial⟩ (by repeat (first | exact Sp.nil | exact Sp.refl _ | refine Sp.cons (by repeat constructor) ?_)))
      · skip
        refine qt_seg (by repeat (first | exact PickL.nil | (apply PickL.cons; rfl))) fun K1 hK1 => ?_
        skip
        refine qf_alloc zero107 rfl (fun b6 => ?_)
        (refine qf_nil ?_)
        exact hK1 _ _ (hS7_8 ⟨b6, b7, ()⟩ _ _ ⟨rfl, rfl, rfl, rfl, trivial⟩ (by repeat (first | exact Sp.nil | exact Sp.refl _ | refine Sp.cons (by repeat constructor) ?_)))
    refine qt_alt ?_ (qt_alt ?_ (qt_alt ?_ ?_))
    · skip
      refine qt_seg (by repeat (first | exact PickL.nil | (apply PickL.cons; rfl))) fun K1 hK1 => ?_
      (refine qf_loadAB tabOk rfl rfl rfl (by repeat first | exact .head _ | refine .tail _ ?_) (by rfl) (by rfl) ?_)
      refine qf_call (β := Option Addr × Nat) tabOk [] _ M0 rfl rfl rfl rfl (Sp.refl _) (fun _ h => h.elim) (fun w' hs => cloneW_ca w' lo hi x a c (RdE.keep h hs.chg0) (by omega)) ?_
      rintro ⟨ua, uc⟩ _ rfl
      dsimp only [List.cons_append, List.nil_append]
      (refine qf_nil ?_)
      exact hK1 _ _ (hS1 ⟨ua, uc, ()⟩ _ _ ⟨rfl, rfl, rfl, trivial⟩ (by repeat (first | exact Sp.nil | exact Sp.refl _ | refine Sp.cons (by repeat constructor) ?_)))
    · skip
      refine qt_seg (by repeat (first | exact PickL.nil | (apply PickL.cons; rfl))) fun K1 hK1 => ?_
      skip
      refine qf_alloc zero61 rfl (fun b5 => ?_)
      (refine qf_nil ?_)
      exact hK1 _ _ (hS6 ⟨b5, ()⟩ _ _ ⟨rfl, rfl, rfl, trivial⟩ (by repeat (first | exact Sp.nil | exact Sp.refl _ | refine Sp.cons (by repeat constructor) ?_)))
    · skip
      refine qt_seg (by repeat (first | exact PickL.nil | (apply PickL.cons; rfl))) fun K1 hK1 => ?_
      skip
      refine qf_alloc zero107 rfl (fun b6 => ?_)
      (refine qf_nil ?_)
      exact hK1 _ _ (hS7 ⟨b6, ()⟩ _ _ ⟨rfl, rfl, rfl, trivial⟩ (by repeat (first | exact Sp.nil | exact Sp.refl _ | refine Sp.cons (by repeat constructor) ?_)))
    · skip
      refine qt_seg (by repeat (first | exact PickL.nil | (apply PickL.cons; rfl))) fun K1 hK1 => ?_
      skip
      refine qf_alloc zero93 rfl (fun b7 => ?_)
      (refine qf_nil ?_)
      exact hK1 _ _ (hS8 ⟨b7, ()⟩ _ _ ⟨rfl, rfl, rfl, trivial⟩ (by repeat (first | exact Sp.nil | exact Sp.refl _ | refine Sp.cons (by repeat constructor) ?_)))
  rintro ⟨ua, uc, ma1, mc1, ma2, mc2, ma3, mc3, ra, rc, b5, b6, b7⟩
  dsimp only
  (refine q_seq ?_; refine q_region ?_; refine ql_loadAB tabOk rfl rfl rfl (by repeat first | exact .head _ | refine .tail _ ?_) (by rfl) (by rfl) ?_)
  refine ql_callv (val := .int .i64 (checkW x)) tabOk rfl rfl rfl rfl (fun w hs => ?_) ?_; exact rcheckW_ca w 0 w.heap.size x ra rc (sat_rdD hs (by repeat first | exact .head _ | refine .tail _ ?_) rfl) (by omega)
  (refine ql_pure tabOk rfl rfl ?_; refine q_nil ?_; (iterate 2 refine q_seq ?_); refine q_region ?_; refine ql_loadAB tabOk rfl rfl rfl (by repeat first | exact .head _ | refine .tail _ ?_) (by rfl) (by rfl) ?_)
  refine ql_callv (val := .int .i64 (checkW x)) tabOk rfl rfl rfl rfl (fun w hs => ?_) ?_; exact checkW_ca w 0 w.heap.size x ua uc (sat_rdD hs (by repeat first | exact .head _ | refine .tail _ ?_) rfl) (by omega)
  (refine ql_pure tabOk rfl rfl ?_; refine ql_neqF tabOk rfl rfl rfl (by omega) ?_; refine q_nil ?_; refine q_cond_false rfl ?_; refine q_skip ?_; refine q_seq ?_; refine q_region ?_; refine ql_loadAB tabOk rfl rfl rfl (by repeat first | exact .head _ | refine .tail _ ?_) (by rfl) (by rfl) ?_)
  by_cases h0 : checkW x ≠ 0
  · have hwe : weatV x t ≠ 0 := by unfold weatV; rw [if_pos h0]; exact h0
    refine ql_callv (val := .tuple #[.agg #[.slice none 0 0, .slice none 0 0, .slice none 0 0], .int .i64 (checkW x)]) tabOk rfl rfl rfl rfl (fun w hs => ?_) ?_; exact worstE_no w 0 w.heap.size x ua uc (sat_rdD hs (by repeat first | exact .head _ | refine .tail _ ?_) rfl) (by omega) h0
    (refine ql_pure tabOk rfl rfl ?_; (iterate 2 refine ql_ext tabOk rfl rfl rfl ?_))
    refine ql_alloc zero107 rfl (fun b9 => ?_)
    (refine ql_setA tabOk rfl rfl rfl rfl rfl (by repeat constructor) rfl ?_; refine ql_pure tabOk rfl rfl ?_; refine q_nil ?_; (iterate 2 refine q_seq ?_); refine q_region ?_; (iterate 2 refine ql_pure tabOk rfl rfl ?_); refine ql_neqF tabOk rfl rfl rfl (by omega) ?_; refine ql_pure tabOk rfl rfl ?_; refine ql_gyes rfl ?_; refine ql_pure tabOk rfl rfl ?_; refine ql_gyes rfl ?_; refine ql_neqT tabOk rfl rfl rfl (by omega) ?_; refine ql_gyes rfl ?_; refine ql_pure tabOk rfl rfl ?_; refine ql_gyes rfl ?_; refine ql_pure tabOk rfl rfl ?_; refine ql_gyes rfl ?_; refine ql_loadB tabOk rfl rfl rfl (by repeat first | exact .head _ | refine .tail _ ?_) (by rfl) ?_; refine ql_gyes rfl ?_; refine ql_pure tabOk rfl rfl ?_; refine ql_gyes rfl ?_; refine ql_pure tabOk rfl rfl ?_; refine ql_gyes rfl ?_; refine ql_loadB tabOk rfl rfl rfl (by repeat first | exact .head _ | refine .tail _ ?_) (by rfl) ?_; refine ql_gyes rfl ?_; refine ql_pure tabOk rfl rfl ?_; refine ql_gyes rfl ?_; refine ql_ar tabOk rfl rfl rfl rfl (by omega) (by omega) ?_; refine ql_gyes rfl ?_; refine ql_pure tabOk rfl rfl ?_; refine ql_gyes rfl ?_; refine ql_loadB tabOk rfl rfl rfl (by repeat first | exact .head _ | refine .tail _ ?_) (by rfl) ?_; refine ql_gyes rfl ?_; refine ql_pure tabOk rfl rfl ?_; refine ql_gyes rfl ?_; refine ql_ar tabOk rfl rfl rfl rfl (by omega) (by omega) ?_; refine ql_gyes rfl ?_; refine ql_gtrF tabOk rfl rfl rfl (by omega) ?_; refine ql_gyes rfl ?_; (iterate 2 refine ql_pure tabOk rfl rfl ?_); refine q_nil ?_; refine q_cond_false rfl ?_; refine q_skip ?_; (iterate 2 refine q_seq ?_); refine q_region ?_; refine ql_pure tabOk rfl rfl ?_; refine ql_eqlF tabOk rfl rfl rfl (by omega) ?_; refine q_nil ?_; refine q_cond_false rfl ?_; refine q_skip ?_; refine q_seq ?_; refine q_region ?_; refine ql_loadAB tabOk rfl rfl rfl (by repeat first | exact .head _ | refine .tail _ ?_) (by rfl) (by rfl) ?_; refine ql_pure tabOk rfl rfl ?_; refine ql_loadB tabOk rfl rfl rfl (by repeat first | exact .head _ | refine .tail _ ?_) (by rfl) ?_; refine ql_pure tabOk rfl rfl ?_; refine ql_loadB tabOk rfl rfl rfl (by repeat first | exact .head _ | refine .tail _ ?_) (by rfl) ?_; refine ql_pure tabOk rfl rfl ?_; refine ql_loadB tabOk rfl rfl rfl (by repeat first | exact .head _ | refine .tail _ ?_) (by rfl) ?_)
    refine ql_callv (val := .int .i64 (weatV x t)) tabOk rfl rfl rfl rfl (fun w hs => ?_) ?_; exact rweath_ca w 0 w.heap.size x ra rc t _ _ _ (sat_rdD hs (by repeat first | exact .head _ | refine .tail _ ?_) rfl) (by omega) (hw.keep hs.chg0) (by omega) (by omega) (by omega)
    (refine ql_pure tabOk rfl rfl ?_; refine q_nil ?_; refine q_seq ?_; refine q_region ?_; (iterate 2 refine ql_loadAB tabOk rfl rfl rfl (by repeat first | exact .head _ | refine .tail _ ?_) (by rfl) (by rfl) ?_))
    refine ql_callv (val := .tuple #[.int .i64 0, .int .i64 (weatV x t)]) tabOk rfl rfl rfl rfl (fun w hs => ?_) ?_; exact fails_no w 0 w.heap.size x ua uc t _ _ _ (sat_rdD hs (by repeat first | exact .head _ | refine .tail _ ?_) rfl) (by omega) (wtK_R hs (by repeat first | exact .head _ | refine .tail _ ?_) (by repeat first | exact .head _ | refine .tail _ ?_) (by repeat first | exact .head _ | refine .tail _ ?_)) (by omega) (by omega) (by omega) hwe
    (refine ql_pure tabOk rfl rfl ?_; (iterate 2 refine ql_ext tabOk rfl rfl rfl ?_); (iterate 2 refine ql_pure tabOk rfl rfl ?_); refine q_nil ?_; refine q_seq ?_; refine q_region ?_; (iterate 2 refine ql_loadAB tabOk rfl rfl rfl (by repeat first | exact .head _ | refine .tail _ ?_) (by rfl) (by rfl) ?_))
    refine ql_callv (val := .tuple #[.slice none 0 0, .int .i64 (weatV x t)]) tabOk rfl rfl rfl rfl (fun w hs => ?_) ?_; exact stocks_no w 0 w.heap.size x ua uc t _ _ _ (sat_rdD hs (by repeat first | exact .head _ | refine .tail _ ?_) rfl) (by omega) (wtK_R hs (by repeat first | exact .head _ | refine .tail _ ?_) (by repeat first | exact .head _ | refine .tail _ ?_) (by repeat first | exact .head _ | refine .tail _ ?_)) (by omega) (by omega) (by omega) hwe
    (refine ql_pure tabOk rfl rfl ?_; (iterate 2 refine ql_ext tabOk rfl rfl rfl ?_); (iterate 2 refine ql_pure tabOk rfl rfl ?_); refine q_nil ?_; refine q_seq ?_; refine q_region ?_; (iterate 2 refine ql_loadAB tabOk rfl rfl rfl (by repeat first | exact .head _ | refine .tail _ ?_) (by rfl) (by rfl) ?_))
    refine ql_callv (val := .tuple #[.slice none 0 0, .int .i64 (weatV x t)]) tabOk rfl rfl rfl rfl (fun w hs => ?_) ?_; exact made_no w 0 w.heap.size x ua uc t _ _ _ (sat_rdD hs (by repeat first | exact .head _ | refine .tail _ ?_) rfl) (by omega) (wtK_R hs (by repeat first | exact .head _ | refine .tail _ ?_) (by repeat first | exact .head _ | refine .tail _ ?_) (by repeat first | exact .head _ | refine .tail _ ?_)) (by omega) (by omega) (by omega) hwe
    (refine ql_pure tabOk rfl rfl ?_; (iterate 2 refine ql_ext tabOk rfl rfl rfl ?_); (iterate 2 refine ql_pure tabOk rfl rfl ?_); refine q_nil ?_; refine q_seq ?_; refine q_region ?_; (iterate 2 refine ql_loadAB tabOk rfl rfl rfl (by repeat first | exact .head _ | refine .tail _ ?_) (by rfl) (by rfl) ?_))
    refine ql_callv (val := .tuple #[.slice none 0 0, .int .i64 (weatV x t)]) tabOk rfl rfl rfl rfl (fun w hs => ?_) ?_; exact piles_no w 0 w.heap.size x ua uc t _ _ _ (sat_rdD hs (by repeat first | exact .head _ | refine .tail _ ?_) rfl) (by omega) (wtK_R hs (by repeat first | exact .head _ | refine .tail _ ?_) (by repeat first | exact .head _ | refine .tail _ ?_) (by repeat first | exact .head _ | refine .tail _ ?_)) (by omega) (by omega) (by omega) hwe
    (refine ql_pure tabOk rfl rfl ?_; (iterate 2 refine ql_ext tabOk rfl rfl rfl ?_); (iterate 2 refine ql_pure tabOk rfl rfl ?_); refine q_nil ?_; (iterate 2 refine q_seq ?_); refine q_region ?_; (iterate 2 refine ql_pure tabOk rfl rfl ?_); refine ql_neqF tabOk rfl rfl rfl (by omega) ?_; refine ql_pure tabOk rfl rfl ?_; refine ql_gyes rfl ?_; refine ql_pure tabOk rfl rfl ?_; refine ql_gyes rfl ?_; refine ql_pure tabOk rfl rfl ?_; refine ql_gyes rfl ?_; refine ql_neqF tabOk rfl rfl rfl (by omega) ?_; (iterate 2 refine ql_pure tabOk rfl rfl ?_); refine ql_gyes rfl ?_; refine ql_pure tabOk rfl rfl ?_; refine ql_gyes rfl ?_; refine ql_pure tabOk rfl rfl ?_; refine ql_gyes rfl ?_; refine ql_neqF tabOk rfl rfl rfl (by omega) ?_; (iterate 2 refine ql_pure tabOk rfl rfl ?_); refine ql_gyes rfl ?_; refine ql_pure tabOk rfl rfl ?_; refine ql_gyes rfl ?_; refine ql_pure tabOk rfl rfl ?_; refine ql_gyes rfl ?_; refine ql_neqF tabOk rfl rfl rfl (by omega) ?_; refine ql_pure tabOk rfl rfl ?_; refine q_nil ?_; refine q_cond_false rfl ?_; refine q_skip ?_; (iterate 2 refine q_seq ?_); refine q_region ?_; refine ql_pure tabOk rfl rfl ?_; refine ql_neqT tabOk rfl rfl rfl (by omega) ?_; refine q_nil ?_; refine q_cond_true rfl ?_; refine q_seq ?_; refine q_region ?_; refine ql_pure tabOk rfl rfl ?_; refine ql_eqlT tabOk rfl rfl rfl (by omega) ?_; refine ql_pure tabOk rfl rfl ?_; refine ql_gyes rfl ?_; refine ql_pure tabOk rfl rfl ?_; refine ql_gyes rfl ?_; refine ql_pure tabOk rfl rfl ?_; refine ql_gyes rfl ?_; refine ql_pure tabOk rfl rfl ?_; refine ql_gyes rfl ?_; refine ql_pure tabOk rfl rfl ?_; refine ql_gyes rfl ?_; refine ql_ar tabOk rfl rfl rfl rfl (by omega) (by omega) ?_; refine ql_gyes rfl ?_; refine ql_pure tabOk rfl rfl ?_; refine ql_gyes rfl ?_; refine ql_pure tabOk rfl rfl ?_; refine ql_gyes rfl ?_; refine ql_ar tabOk rfl rfl rfl rfl (by omega) (by omega) ?_; refine ql_gyes rfl ?_; refine ql_eqlT tabOk rfl rfl rfl (by omega) ?_; (iterate 2 refine ql_pure tabOk rfl rfl ?_); refine ql_gyes rfl ?_; refine ql_loadAB tabOk rfl rfl rfl (by repeat first | exact .head _ | refine .tail _ ?_) (by rfl) (by rfl) ?_; refine ql_gyes rfl ?_; refine ql_loadAB tabOk rfl rfl rfl (by repeat first | exact .head _ | refine .tail _ ?_) (by rfl) (by rfl) ?_; refine ql_gyes rfl ?_)
    refine ql_callv (val := .bool true) tabOk rfl rfl rfl rfl (fun w hs => ?_) ?_; exact sameW_ca w 0 w.heap.size lo hi x ua a uc c (sat_rdD hs (by repeat first | exact .head _ | refine .tail _ ?_) rfl) (RdE.keep h hs.chg0) (by omega)
    ((iterate 2 refine ql_pure tabOk rfl rfl ?_); refine ql_gyes rfl ?_; refine ql_loadAB tabOk rfl rfl rfl (by repeat first | exact .head _ | refine .tail _ ?_) (by rfl) (by rfl) ?_; refine ql_gyes rfl ?_; refine ql_loadAB tabOk rfl rfl rfl (by repeat first | exact .head _ | refine .tail _ ?_) (by rfl) (by rfl) ?_; refine ql_gyes rfl ?_)
    refine ql_callv (val := .bool true) tabOk rfl rfl rfl rfl (fun w hs => ?_) ?_; exact alikeW_ca w t _ _ _ _ _ _ (wtK_R hs (by repeat first | exact .head _ | refine .tail _ ?_) (by repeat first | exact .head _ | refine .tail _ ?_) (by repeat first | exact .head _ | refine .tail _ ?_)) (hw.keep hs.chg0) (by omega) (by omega) (by omega)
    ((iterate 2 refine ql_pure tabOk rfl rfl ?_); refine ql_gyes rfl ?_)
    refine ql_callv (val := .bool true) tabOk rfl rfl rfl rfl (fun w hs => ?_) ?_; exact awake_ca w
    ((iterate 2 refine ql_pure tabOk rfl rfl ?_); refine q_nil ?_; refine q_ret ?_)
    refine q_fin tabOk rfl (by repeat (first | exact RVs.nil | apply RVs.tmp rfl | apply RVs.cellA rfl rfl (by repeat first | exact .head _ | refine .tail _ ?_) (by rfl) | apply RVs.cell1 rfl rfl (by repeat first | exact .head _ | refine .tail _ ?_))) fun w hs => ?_
    exact ⟨rfl, hs.chg0⟩
  have h0 : checkW x = 0 := by omega
  have hx := checkW_iff.1 h0
  rw [h0]
  refine ql_call (β := Value × Value × Value) tabOk [] _ M0 rfl rfl rfl rfl (Sp.refl _) (fun _ h => h.elim) (fun w' hs => worstE_ok w' 0 w'.heap.size x ua uc (sat_rdD hs (by repeat first | exact .head _ | refine .tail _ ?_) rfl) hx) ?_
  rintro ⟨z1, z2, z3⟩ _ rfl
  dsimp only [wtK, List.cons_append, List.nil_append]
  refine ql_fact (fun w hs => hs.slice2 (v := z1) (by repeat first | exact .head _ | refine .tail _ ?_)) ?_
  rintro ⟨za1, zc1, rfl⟩
  refine ql_fact (fun w hs => hs.slice2 (v := z2) (by repeat first | exact .head _ | refine .tail _ ?_)) ?_
  rintro ⟨za2, zc2, rfl⟩
  refine ql_fact (fun w hs => hs.slice2 (v := z3) (by repeat first | exact .head _ | refine .tail _ ?_)) ?_
  rintro ⟨za3, zc3, rfl⟩
  (refine ql_pure tabOk rfl rfl ?_; (iterate 2 refine ql_ext tabOk rfl rfl rfl ?_))
  refine ql_alloc zero107 rfl (fun b9 => ?_)
  (refine ql_setA tabOk rfl rfl rfl rfl rfl (by repeat constructor) rfl ?_; refine ql_pure tabOk rfl rfl ?_; refine q_nil ?_; (iterate 2 refine q_seq ?_); refine q_region ?_; (iterate 2 refine ql_pure tabOk rfl rfl ?_); refine ql_neqF tabOk rfl rfl rfl (by omega) ?_; refine ql_pure tabOk rfl rfl ?_; refine ql_gyes rfl ?_; refine ql_pure tabOk rfl rfl ?_; refine ql_gyes rfl ?_; refine ql_neqF tabOk rfl rfl rfl (by omega) ?_; refine ql_gyes rfl ?_; refine ql_pure tabOk rfl rfl ?_; (iterate 12 refine ql_gno rfl rfl rfl ?_); refine ql_gyes rfl ?_; (iterate 2 refine ql_pure tabOk rfl rfl ?_); refine q_nil ?_; refine q_cond_false rfl ?_; refine q_skip ?_; (iterate 2 refine q_seq ?_); refine q_region ?_; refine ql_pure tabOk rfl rfl ?_; refine ql_eqlT tabOk rfl rfl rfl (by omega) ?_; refine q_nil ?_; refine q_cond_true rfl ?_; refine q_seq ?_; refine q_region ?_; refine ql_loadAB tabOk rfl rfl rfl (by repeat first | exact .head _ | refine .tail _ ?_) (by rfl) (by rfl) ?_)
  refine ql_call (β := Value × Value × Value) tabOk [] _ M0 rfl rfl rfl rfl (Sp.refl _) (fun _ h => h.elim) (fun w' hs => rworst_ca w' 0 w'.heap.size x ra rc (sat_rdD hs (by repeat first | exact .head _ | refine .tail _ ?_) rfl) (by omega)) ?_
  rintro ⟨y1, y2, y3⟩ _ rfl
  dsimp only [List.cons_append, List.nil_append]
  have hwf := worst_fine hx
  refine ql_fact (fun w hs => hs.slice2 (v := y1) (by repeat first | exact .head _ | refine .tail _ ?_)) ?_
  rintro ⟨ya1, yc1, rfl⟩
  refine ql_fact (fun w hs => hs.slice2 (v := y2) (by repeat first | exact .head _ | refine .tail _ ?_)) ?_
  rintro ⟨ya2, yc2, rfl⟩
  refine ql_fact (fun w hs => hs.slice2 (v := y3) (by repeat first | exact .head _ | refine .tail _ ?_)) ?_
  rintro ⟨ya3, yc3, rfl⟩
  (refine ql_pure tabOk rfl rfl ?_; (iterate 3 refine ql_ext tabOk rfl rfl rfl ?_); (iterate 3 refine ql_pure tabOk rfl rfl ?_); refine q_nil ?_; refine q_seq ?_; refine q_region ?_; refine ql_loadAB tabOk rfl rfl rfl (by repeat first | exact .head _ | refine .tail _ ?_) (by rfl) (by rfl) ?_; (iterate 3 refine ql_pure tabOk rfl rfl ?_))
  refine ql_mk #[.slice ya1 x.days.length yc1, .slice ya2 x.days.length yc2, .slice ya3 x.days.length yc3] rfl (by kernel_rfl) rfl ?_
  skip
  refine ql_callv (val := .bool true) tabOk rfl rfl rfl rfl (fun w hs => ?_) ?_; exact alikeW_ca w (worstW x) _ _ _ _ _ _ (wtK_R hs (by repeat first | exact .head _ | refine .tail _ ?_) (by repeat first | exact .head _ | refine .tail _ ?_) (by repeat first | exact .head _ | refine .tail _ ?_)) (wtN_R hs hwf (by repeat first | exact .head _ | refine .tail _ ?_) (by repeat first | exact .head _ | refine .tail _ ?_) (by repeat first | exact .head _ | refine .tail _ ?_)) (by rw [hwf.need]; omega) (by rw [hwf.make]; omega) (by rw [hwf.loss]; omega)
  (refine ql_pure tabOk rfl rfl ?_; refine q_nil ?_; refine q_cond_false rfl ?_; refine q_skip ?_; refine q_seq ?_; refine q_region ?_; refine ql_loadAB tabOk rfl rfl rfl (by repeat first | exact .head _ | refine .tail _ ?_) (by rfl) (by rfl) ?_; refine ql_pure tabOk rfl rfl ?_; refine ql_loadB tabOk rfl rfl rfl (by repeat first | exact .head _ | refine .tail _ ?_) (by rfl) ?_; refine ql_pure tabOk rfl rfl ?_; refine ql_loadB tabOk rfl rfl rfl (by repeat first | exact .head _ | refine .tail _ ?_) (by rfl) ?_; refine ql_pure tabOk rfl rfl ?_; refine ql_loadB tabOk rfl rfl rfl (by repeat first | exact .head _ | refine .tail _ ?_) (by rfl) ?_)
  refine ql_callv (val := .int .i64 (weatV x t)) tabOk rfl rfl rfl rfl (fun w hs => ?_) ?_; exact rweath_ca w 0 w.heap.size x ra rc t _ _ _ (sat_rdD hs (by repeat first | exact .head _ | refine .tail _ ?_) rfl) (by omega) (hw.keep hs.chg0) (by omega) (by omega) (by omega)
  (refine ql_pure tabOk rfl rfl ?_; refine q_nil ?_; refine q_seq ?_; refine q_region ?_; (iterate 2 refine ql_loadAB tabOk rfl rfl rfl (by repeat first | exact .head _ | refine .tail _ ?_) (by rfl) (by rfl) ?_))
  by_cases hwe : weatV x t ≠ 0
  · skip
    refine ql_callv (val := .tuple #[.int .i64 0, .int .i64 (weatV x t)]) tabOk rfl rfl rfl rfl (fun w hs => ?_) ?_; exact fails_no w 0 w.heap.size x ua uc t _ _ _ (sat_rdD hs (by repeat first | exact .head _ | refine .tail _ ?_) rfl) (by omega) (wtK_R hs (by repeat first | exact .head _ | refine .tail _ ?_) (by repeat first | exact .head _ | refine .tail _ ?_) (by repeat first | exact .head _ | refine .tail _ ?_)) (by omega) (by omega) (by omega) hwe
    (refine ql_pure tabOk rfl rfl ?_; (iterate 2 refine ql_ext tabOk rfl rfl rfl ?_); (iterate 2 refine ql_pure tabOk rfl rfl ?_); refine q_nil ?_; refine q_seq ?_; refine q_region ?_; (iterate 2 refine ql_loadAB tabOk rfl rfl rfl (by repeat first | exact .head _ | refine .tail _ ?_) (by rfl) (by rfl) ?_))
    refine ql_callv (val := .tuple #[.slice none 0 0, .int .i64 (weatV x t)]) tabOk rfl rfl rfl rfl (fun w hs => ?_) ?_; exact stocks_no w 0 w.heap.size x ua uc t _ _ _ (sat_rdD hs (by repeat first | exact .head _ | refine .tail _ ?_) rfl) (by omega) (wtK_R hs (by repeat first | exact .head _ | refine .tail _ ?_) (by repeat first | exact .head _ | refine .tail _ ?_) (by repeat first | exact .head _ | refine .tail _ ?_)) (by omega) (by omega) (by omega) hwe
    (refine ql_pure tabOk rfl rfl ?_; (iterate 2 refine ql_ext tabOk rfl rfl rfl ?_); (iterate 2 refine ql_pure tabOk rfl rfl ?_); refine q_nil ?_; refine q_seq ?_; refine q_region ?_; (iterate 2 refine ql_loadAB tabOk rfl rfl rfl (by repeat first | exact .head _ | refine .tail _ ?_) (by rfl) (by rfl) ?_))
    refine ql_callv (val := .tuple #[.slice none 0 0, .int .i64 (weatV x t)]) tabOk rfl rfl rfl rfl (fun w hs => ?_) ?_; exact made_no w 0 w.heap.size x ua uc t _ _ _ (sat_rdD hs (by repeat first | exact .head _ | refine .tail _ ?_) rfl) (by omega) (wtK_R hs (by repeat first | exact .head _ | refine .tail _ ?_) (by repeat first | exact .head _ | refine .tail _ ?_) (by repeat first | exact .head _ | refine .tail _ ?_)) (by omega) (by omega) (by omega) hwe
    (refine ql_pure tabOk rfl rfl ?_; (iterate 2 refine ql_ext tabOk rfl rfl rfl ?_); (iterate 2 refine ql_pure tabOk rfl rfl ?_); refine q_nil ?_; refine q_seq ?_; refine q_region ?_; (iterate 2 refine ql_loadAB tabOk rfl rfl rfl (by repeat first | exact .head _ | refine .tail _ ?_) (by rfl) (by rfl) ?_))
    refine ql_callv (val := .tuple #[.slice none 0 0, .int .i64 (weatV x t)]) tabOk rfl rfl rfl rfl (fun w hs => ?_) ?_; exact piles_no w 0 w.heap.size x ua uc t _ _ _ (sat_rdD hs (by repeat first | exact .head _ | refine .tail _ ?_) rfl) (by omega) (wtK_R hs (by repeat first | exact .head _ | refine .tail _ ?_) (by repeat first | exact .head _ | refine .tail _ ?_) (by repeat first | exact .head _ | refine .tail _ ?_)) (by omega) (by omega) (by omega) hwe
    (refine ql_pure tabOk rfl rfl ?_; (iterate 2 refine ql_ext tabOk rfl rfl rfl ?_); (iterate 2 refine ql_pure tabOk rfl rfl ?_); refine q_nil ?_; (iterate 2 refine q_seq ?_); refine q_region ?_; (iterate 2 refine ql_pure tabOk rfl rfl ?_); refine ql_neqF tabOk rfl rfl rfl (by omega) ?_; refine ql_pure tabOk rfl rfl ?_; refine ql_gyes rfl ?_; refine ql_pure tabOk rfl rfl ?_; refine ql_gyes rfl ?_; refine ql_pure tabOk rfl rfl ?_; refine ql_gyes rfl ?_; refine ql_neqF tabOk rfl rfl rfl (by omega) ?_; (iterate 2 refine ql_pure tabOk rfl rfl ?_); refine ql_gyes rfl ?_; refine ql_pure tabOk rfl rfl ?_; refine ql_gyes rfl ?_; refine ql_pure tabOk rfl rfl ?_; refine ql_gyes rfl ?_; refine ql_neqF tabOk rfl rfl rfl (by omega) ?_; (iterate 2 refine ql_pure tabOk rfl rfl ?_); refine ql_gyes rfl ?_; refine ql_pure tabOk rfl rfl ?_; refine ql_gyes rfl ?_; refine ql_pure tabOk rfl rfl ?_; refine ql_gyes rfl ?_; refine ql_neqF tabOk rfl rfl rfl (by omega) ?_; refine ql_pure tabOk rfl rfl ?_; refine q_nil ?_; refine q_cond_false rfl ?_; refine q_skip ?_; (iterate 2 refine q_seq ?_); refine q_region ?_; refine ql_pure tabOk rfl rfl ?_; refine ql_neqT tabOk rfl rfl rfl (by omega) ?_; refine q_nil ?_; refine q_cond_true rfl ?_; refine q_seq ?_; refine q_region ?_; refine ql_pure tabOk rfl rfl ?_; refine ql_eqlT tabOk rfl rfl rfl (by omega) ?_; refine ql_pure tabOk rfl rfl ?_; refine ql_gyes rfl ?_; refine ql_pure tabOk rfl rfl ?_; refine ql_gyes rfl ?_; refine ql_pure tabOk rfl rfl ?_; refine ql_gyes rfl ?_; refine ql_pure tabOk rfl rfl ?_; refine ql_gyes rfl ?_; refine ql_pure tabOk rfl rfl ?_; refine ql_gyes rfl ?_; refine ql_ar tabOk rfl rfl rfl rfl (by omega) (by omega) ?_; refine ql_gyes rfl ?_; refine ql_pure tabOk rfl rfl ?_; refine ql_gyes rfl ?_; refine ql_pure tabOk rfl rfl ?_; refine ql_gyes rfl ?_; refine ql_ar tabOk rfl rfl rfl rfl (by omega) (by omega) ?_; refine ql_gyes rfl ?_; refine ql_eqlT tabOk rfl rfl rfl (by omega) ?_; (iterate 2 refine ql_pure tabOk rfl rfl ?_); refine ql_gyes rfl ?_; refine ql_loadAB tabOk rfl rfl rfl (by repeat first | exact .head _ | refine .tail _ ?_) (by rfl) (by rfl) ?_; refine ql_gyes rfl ?_; refine ql_loadAB tabOk rfl rfl rfl (by repeat first | exact .head _ | refine .tail _ ?_) (by rfl) (by rfl) ?_; refine ql_gyes rfl ?_)
    refine ql_callv (val := .bool true) tabOk rfl rfl rfl rfl (fun w hs => ?_) ?_; exact sameW_ca w 0 w.heap.size lo hi x ua a uc c (sat_rdD hs (by repeat first | exact .head _ | refine .tail _ ?_) rfl) (RdE.keep h hs.chg0) (by omega)
    ((iterate 2 refine ql_pure tabOk rfl rfl ?_); refine ql_gyes rfl ?_; refine ql_loadAB tabOk rfl rfl rfl (by repeat first | exact .head _ | refine .tail _ ?_) (by rfl) (by rfl) ?_; refine ql_gyes rfl ?_; refine ql_loadAB tabOk rfl rfl rfl (by repeat first | exact .head _ | refine .tail _ ?_) (by rfl) (by rfl) ?_; refine ql_gyes rfl ?_)
    refine ql_callv (val := .bool true) tabOk rfl rfl rfl rfl (fun w hs => ?_) ?_; exact alikeW_ca w t _ _ _ _ _ _ (wtK_R hs (by repeat first | exact .head _ | refine .tail _ ?_) (by repeat first | exact .head _ | refine .tail _ ?_) (by repeat first | exact .head _ | refine .tail _ ?_)) (hw.keep hs.chg0) (by omega) (by omega) (by omega)
    ((iterate 2 refine ql_pure tabOk rfl rfl ?_); refine ql_gyes rfl ?_)
    refine ql_callv (val := .bool true) tabOk rfl rfl rfl rfl (fun w hs => ?_) ?_; exact awake_ca w
    ((iterate 2 refine ql_pure tabOk rfl rfl ?_); refine q_nil ?_; refine q_ret ?_)
    refine q_fin tabOk rfl (by repeat (first | exact RVs.nil | apply RVs.tmp rfl | apply RVs.cellA rfl rfl (by repeat first | exact .head _ | refine .tail _ ?_) (by rfl) | apply RVs.cell1 rfl rfl (by repeat first | exact .head _ | refine .tail _ ?_))) fun w hs => ?_
    exact ⟨rfl, hs.chg0⟩
  have hwe : weatV x t = 0 := by omega
  have hti := (weatV_iff.1 hwe).2
  have htf := in_fine hx hti
  have hfb := hap_fails_bd x t hx.stock htf.need0 x.days.length
  change (hapV x t).fails = -1 ∨ ∃ f : Nat, f < x.days.length ∧ (hapV x t).fails = f at hfb
  obtain ⟨n, en, hn, _, eM, _, _, _, eP, _⟩ := hap_count hx htf
  have enM : (hapV x t).made.length = n := by rw [eM]; simp
  have hpl := posP_len (rpP x t n) (-1)
  have hrl := rpP_length x t n
  rw [← eP] at hpl
  rw [hwe]
  refine ql_callv (val := .tuple #[.int .i64 (hapV x t).fails, .int .i64 0]) tabOk rfl rfl rfl rfl (fun w hs => ?_) ?_; exact fails_in hx hti w 0 w.heap.size ua uc _ _ _ (sat_rdD hs (by repeat first | exact .head _ | refine .tail _ ?_) rfl) (wtK_R hs (by repeat first | exact .head _ | refine .tail _ ?_) (by repeat first | exact .head _ | refine .tail _ ?_) (by repeat first | exact .head _ | refine .tail _ ?_))
  (refine ql_pure tabOk rfl rfl ?_; (iterate 2 refine ql_ext tabOk rfl rfl rfl ?_); (iterate 2 refine ql_pure tabOk rfl rfl ?_); refine q_nil ?_; refine q_seq ?_; refine q_region ?_; (iterate 2 refine ql_loadAB tabOk rfl rfl rfl (by repeat first | exact .head _ | refine .tail _ ?_) (by rfl) (by rfl) ?_))
  refine ql_call (β := Value) tabOk [] _ M0 rfl rfl rfl rfl (Sp.refl _) (fun _ h => h.elim) (fun w' hs => stocks_ok w' 0 w'.heap.size x ua uc t _ _ _ (sat_rdD hs (by repeat first | exact .head _ | refine .tail _ ?_) rfl) (by omega) (wtK_R hs (by repeat first | exact .head _ | refine .tail _ ?_) (by repeat first | exact .head _ | refine .tail _ ?_) (by repeat first | exact .head _ | refine .tail _ ?_)) (by omega) (by omega) (by omega) hwe) ?_
  rintro sv _ rfl
  dsimp only [List.cons_append, List.nil_append]
  (refine ql_pure tabOk rfl rfl ?_; (iterate 2 refine ql_ext tabOk rfl rfl rfl ?_); (iterate 2 refine ql_pure tabOk rfl rfl ?_); refine q_nil ?_; refine q_seq ?_; refine q_region ?_; (iterate 2 refine ql_loadAB tabOk rfl rfl rfl (by repeat first | exact .head _ | refine .tail _ ?_) (by rfl) (by rfl) ?_))
  refine ql_call (β := Value) tabOk [] _ M0 rfl rfl rfl rfl (Sp.refl _) (fun _ h => h.elim) (fun w' hs => made_ok w' 0 w'.heap.size x ua uc t _ _ _ (sat_rdD hs (by repeat first | exact .head _ | refine .tail _ ?_) rfl) (by omega) (wtK_R hs (by repeat first | exact .head _ | refine .tail _ ?_) (by repeat first | exact .head _ | refine .tail _ ?_) (by repeat first | exact .head _ | refine .tail _ ?_)) (by omega) (by omega) (by omega) hwe) ?_
  rintro mv _ rfl
  dsimp only [List.cons_append, List.nil_append]
  (refine ql_pure tabOk rfl rfl ?_; (iterate 2 refine ql_ext tabOk rfl rfl rfl ?_); (iterate 2 refine ql_pure tabOk rfl rfl ?_); refine q_nil ?_; refine q_seq ?_; refine q_region ?_; (iterate 2 refine ql_loadAB tabOk rfl rfl rfl (by repeat first | exact .head _ | refine .tail _ ?_) (by rfl) (by rfl) ?_))
  refine ql_call (β := Value) tabOk [] _ M0 rfl rfl rfl rfl (Sp.refl _) (fun _ h => h.elim) (fun w' hs => piles_ok w' 0 w'.heap.size x ua uc t _ _ _ (sat_rdD hs (by repeat first | exact .head _ | refine .tail _ ?_) rfl) (by omega) (wtK_R hs (by repeat first | exact .head _ | refine .tail _ ?_) (by repeat first | exact .head _ | refine .tail _ ?_) (by repeat first | exact .head _ | refine .tail _ ?_)) (by omega) (by omega) (by omega) hwe) ?_
  rintro pv _ rfl
  dsimp only [List.cons_append, List.nil_append]
  (refine ql_pure tabOk rfl rfl ?_; (iterate 2 refine ql_ext tabOk rfl rfl rfl ?_); (iterate 2 refine ql_pure tabOk rfl rfl ?_); refine q_nil ?_; (iterate 2 refine q_seq ?_); refine q_region ?_; (iterate 2 refine ql_pure tabOk rfl rfl ?_); refine ql_neqF tabOk rfl rfl rfl (by omega) ?_; refine ql_pure tabOk rfl rfl ?_; refine ql_gyes rfl ?_; refine ql_pure tabOk rfl rfl ?_; refine ql_gyes rfl ?_; refine ql_pure tabOk rfl rfl ?_; refine ql_gyes rfl ?_; refine ql_neqF tabOk rfl rfl rfl (by omega) ?_; (iterate 2 refine ql_pure tabOk rfl rfl ?_); refine ql_gyes rfl ?_; refine ql_pure tabOk rfl rfl ?_; refine ql_gyes rfl ?_; refine ql_pure tabOk rfl rfl ?_; refine ql_gyes rfl ?_; refine ql_neqF tabOk rfl rfl rfl (by omega) ?_; (iterate 2 refine ql_pure tabOk rfl rfl ?_); refine ql_gyes rfl ?_; refine ql_pure tabOk rfl rfl ?_; refine ql_gyes rfl ?_; refine ql_pure tabOk rfl rfl ?_; refine ql_gyes rfl ?_; refine ql_neqF tabOk rfl rfl rfl (by omega) ?_; refine ql_pure tabOk rfl rfl ?_; refine q_nil ?_; refine q_cond_false rfl ?_; refine q_skip ?_; (iterate 2 refine q_seq ?_); refine q_region ?_; refine ql_pure tabOk rfl rfl ?_; refine ql_neqF tabOk rfl rfl rfl (by omega) ?_; refine q_nil ?_; refine q_cond_false rfl ?_; refine q_skip ?_; refine q_seq ?_; refine q_region ?_; refine ql_loadAB tabOk rfl rfl rfl (by repeat first | exact .head _ | refine .tail _ ?_) (by rfl) (by rfl) ?_; refine ql_pure tabOk rfl rfl ?_; refine ql_loadB tabOk rfl rfl rfl (by repeat first | exact .head _ | refine .tail _ ?_) (by rfl) ?_; refine ql_pure tabOk rfl rfl ?_; refine ql_loadB tabOk rfl rfl rfl (by repeat first | exact .head _ | refine .tail _ ?_) (by rfl) ?_; refine ql_pure tabOk rfl rfl ?_; refine ql_loadB tabOk rfl rfl rfl (by repeat first | exact .head _ | refine .tail _ ?_) (by rfl) ?_)
  refine ql_call (β := Value × Value) tabOk [] _ M0 rfl rfl rfl rfl (Sp.refl _) (fun _ h => h.elim) (fun w' hs => rhap_ca w' 0 w'.heap.size x ra rc t _ _ _ (sat_rdD hs (by repeat first | exact .head _ | refine .tail _ ?_) rfl) hx htf (hw.keep hs.chg0)) ?_
  rintro ⟨s2, m2⟩ _ rfl
  dsimp only [List.cons_append, List.nil_append]
  (refine ql_pure tabOk rfl rfl ?_; (iterate 3 refine ql_ext tabOk rfl rfl rfl ?_); (iterate 3 refine ql_pure tabOk rfl rfl ?_); refine q_nil ?_; refine q_seq ?_; refine q_region ?_; refine ql_pure tabOk rfl rfl ?_; refine q_nil ?_; (iterate 2 refine q_seq ?_); refine q_region ?_; refine ql_loadAB tabOk rfl rfl rfl (by repeat first | exact .head _ | refine .tail _ ?_) (by rfl) (by rfl) ?_; refine ql_pure tabOk rfl rfl ?_; refine ql_loadB tabOk rfl rfl rfl (by repeat first | exact .head _ | refine .tail _ ?_) (by rfl) ?_; refine ql_pure tabOk rfl rfl ?_; refine ql_loadB tabOk rfl rfl rfl (by repeat first | exact .head _ | refine .tail _ ?_) (by rfl) ?_; refine ql_pure tabOk rfl rfl ?_; refine ql_loadB tabOk rfl rfl rfl (by repeat first | exact .head _ | refine .tail _ ?_) (by rfl) ?_)
  refine ql_call (β := Value) tabOk [] _ M0 rfl rfl rfl rfl (Sp.refl _) (fun _ h => h.elim) (fun w' hs => rpiles_ca w' 0 w'.heap.size x ra rc t _ _ _ (sat_rdD hs (by repeat first | exact .head _ | refine .tail _ ?_) rfl) hx htf (hw.keep hs.chg0)) ?_
  rintro _ p2 rfl
  dsimp only [List.cons_append, List.nil_append]
  rw [en, enM, eP]
  generalize rpP x t n = Q at *
  clear eM
  refine ql_fact (fun w hs => hs.slice2 (v := p2) (by repeat first | exact .head _ | refine .tail _ ?_)) ?_
  rintro ⟨pa, pc, rfl⟩
  ((iterate 2 refine ql_pure tabOk rfl rfl ?_); refine q_nil ?_; refine q_block ?_)
  refine q_conv (H' := [.ow (.slice none 0 0) 117 2 (posP (-1) (Q.take 0)).length (spC (posP (-1) (Q.take 0))), .pt b5 (wnC x ua uc) 61, .pt b6 [.slice ma1 t.need.length mc1, .slice ma2 t.make.length mc2, .slice ma3 t.loss.length mc3] 107, .pt b7 (wnC x ra rc) 93, .ow (.slice ua x.days.length uc) 73 6 x.days.length (dyC x.days), .ow (.slice ma1 t.need.length mc1) 3 1 t.need.length (ints t.need), .ow (.slice ma2 t.make.length mc2) 3 1 t.make.length (ints t.make), .ow (.slice ma3 t.loss.length mc3) 3 1 t.loss.length (ints t.loss), .ow (.slice ra x.days.length rc) 176 6 x.days.length (dyC x.days), .pt b2 (wnC x a c) 61, .pt b3 [.slice a1 t.need.length c1, .slice a2 t.make.length c2, .slice a3 t.loss.length c3] 107, .ow sv 3 1 n (ints (hapV x t).stocks), .ow mv 3 1 n (ints (hapV x t).made), plK pv (posP (-1) Q), .ow s2 3 1 n (ints (hapV x t).stocks), .ow m2 3 1 n (ints (hapV x t).made), .ow (.slice pa (n + 1) pc) 3 1 (n + 1) (ints Q), .pt b9 [.slice za1 (worstW x).need.length zc1, .slice za2 (worstW x).make.length zc2, .slice za3 (worstW x).loss.length zc3] 107, .ow (.slice za1 (worstW x).need.length zc1) 3 1 (worstW x).need.length (ints (worstW x).need), .ow (.slice za2 (worstW x).make.length zc2) 3 1 (worstW x).make.length (ints (worstW x).make), .ow (.slice za3 (worstW x).loss.length zc3) 3 1 (worstW x).loss.length (ints (worstW x).loss), .ow (.slice ya1 x.days.length yc1) 3 1 x.days.length (ints (worstW x).need), .ow (.slice ya2 x.days.length yc2) 3 1 x.days.length (ints (worstW x).make), .ow (.slice ya3 x.days.length yc3) 3 1 x.days.length (ints (worstW x).loss)]) (fun w' hs => (Sat.ownil hs 117 2).sp (by repeat (first | exact Sp.nil | exact Sp.refl _ | refine Sp.cons (by repeat constructor) ?_))) ?_
  refine q_loop (σ := Nat × Value) (fun s => s.1 ≤ n + 1) (fun s => n + 1 - s.1) (fun s => [(2, .pointer (some ⟨b2, 0, none⟩)), (3, .pointer (some ⟨b3, 0, none⟩)), (5, .pointer (some ⟨b5, 0, none⟩)), (6, .pointer (some ⟨b6, 0, none⟩)), (7, .pointer (some ⟨b7, 0, none⟩)), (14, .int .i64 (hapV x t).fails), (15, sv), (17, mv), (19, pv), (21, s2), (22, m2), (23, .int .i64 (hapV x t).fails), (24, s.2), (187, .slice pa (n + 1) pc), (188, .int .i64 ((n + 1 : Nat) : Int)), (189, .int .i64 s.1)])
    (fun s => [.ow s.2 117 2 (posP (-1) (Q.take s.1)).length (spC (posP (-1) (Q.take s.1))), .pt b5 (wnC x ua uc) 61, .pt b6 [.slice ma1 t.need.length mc1, .slice ma2 t.make.length mc2, .slice ma3 t.loss.length mc3] 107, .pt b7 (wnC x ra rc) 93, .ow (.slice ua x.days.length uc) 73 6 x.days.length (dyC x.days), .ow (.slice ma1 t.need.length mc1) 3 1 t.need.length (ints t.need), .ow (.slice ma2 t.make.length mc2) 3 1 t.make.length (ints t.make), .ow (.slice ma3 t.loss.length mc3) 3 1 t.loss.length (ints t.loss), .ow (.slice ra x.days.length rc) 176 6 x.days.length (dyC x.days), .pt b2 (wnC x a c) 61, .pt b3 [.slice a1 t.need.length c1, .slice a2 t.make.length c2, .slice a3 t.loss.length c3] 107, .ow sv 3 1 n (ints (hapV x t).stocks), .ow mv 3 1 n (ints (hapV x t).made), plK pv (posP (-1) Q), .ow s2 3 1 n (ints (hapV x t).stocks), .ow m2 3 1 n (ints (hapV x t).made), .ow (.slice pa (n + 1) pc) 3 1 (n + 1) (ints Q), .pt b9 [.slice za1 (worstW x).need.length zc1, .slice za2 (worstW x).make.length zc2, .slice za3 (worstW x).loss.length zc3] 107, .ow (.slice za1 (worstW x).need.length zc1) 3 1 (worstW x).need.length (ints (worstW x).need), .ow (.slice za2 (worstW x).make.length zc2) 3 1 (worstW x).make.length (ints (worstW x).make), .ow (.slice za3 (worstW x).loss.length zc3) 3 1 (worstW x).loss.length (ints (worstW x).loss), .ow (.slice ya1 x.days.length yc1) 3 1 x.days.length (ints (worstW x).need), .ow (.slice ya2 x.days.length yc2) 3 1 x.days.length (ints (worstW x).make), .ow (.slice ya3 x.days.length yc3) 3 1 x.days.length (ints (worstW x).loss)]) (0, .slice none 0 0) (by simp) ⟨rfl, rfl, rfl, rfl, rfl, rfl, rfl, rfl, rfl, rfl, rfl, rfl, rfl, rfl, rfl, rfl, trivial⟩ (by repeat (first | exact Sp.nil | exact Sp.refl _ | refine Sp.cons (by repeat constructor) ?_)) ?_
  rintro ⟨k, v⟩ hk K hK
  simp only at hk
  dsimp only
  (refine q_seq ?_; refine q_region ?_; refine ql_pure tabOk rfl rfl ?_; refine q_nil ?_; refine q_seq ?_)
  refine q_if rfl (fun hc => ?_) (fun hc => ?_)
  · have hk2 : k < n + 1 := by omega
    have hk3 : k < Q.length := by omega
    clear hc
    refine q_fact (fun w hs => hs.ownSome (v := .slice pa (n + 1) pc) (by repeat first | exact .head _ | refine .tail _ ?_) (by omega)) ?_
    rintro ⟨e1, f1, e⟩
    cases e
    have eT := posP_take Q hk3
    have hpl2 := posP_len (Q.take k) (-1)
    rw [List.length_take] at hpl2
    (refine q_skip ?_; refine q_seq ?_; refine q_block ?_; refine q_seq ?_; refine q_region ?_; refine ql_pure tabOk rfl rfl ?_)
    (refine ql_index tabOk rfl rfl rfl rfl rfl (by omega) (by omega) ?_; refine ql_load1 tabOk rfl rfl rfl (fun w hs => RdI.at (hs.rdI (v := .slice (some ⟨e1, 0, none⟩) (n + 1) pc) (l := Q) (by repeat first | exact .head _ | refine .tail _ ?_) (by omega)) k hk3) ?_)
    ((iterate 2 refine ql_pure tabOk rfl rfl ?_); refine q_nil ?_; refine q_seq ?_; refine q_region ?_; (iterate 2 refine ql_pure tabOk rfl rfl ?_); refine q_nil ?_)
    generalize Q[k] = q at *
    refine q_if rfl (fun hc => ?_) (fun hc => ?_)
    · rw [if_pos hc] at eT
      (refine q_region ?_; (iterate 2 refine ql_pure tabOk rfl rfl ?_); refine ql_ar tabOk rfl rfl rfl rfl (by omega) (by omega) ?_; refine ql_pure tabOk rfl rfl ?_)
      refine ql_mk #[.int .i64 ((k : Int) - 1), .int .i64 q] rfl (by kernel_rfl) rfl ?_
      refine ql_mkS 117 [.int .i64 ((k : Int) - 1), .int .i64 q] rfl (by kernel_rfl) rfl (fun bn => ?_)
      refine ql_append (q := 1) slPl rfl rfl rfl (fun v' => by repeat constructor) (fun w' hs => ⟨_, _, Blk.rdSp (hs.blk (b := bn) (by repeat first | exact .head _ | refine .tail _ ?_))⟩) (spC_one _) (by omega) (by omega) (fun u => ?_)
      (refine ql_pure tabOk rfl rfl ?_; refine q_nil ?_; refine q_blk ?_; refine q_region ?_; refine ql_ar tabOk rfl rfl rfl rfl (by omega) (by omega) ?_; refine ql_pure tabOk rfl rfl ?_; refine q_nil ?_)
      exact hK (k + 1, u) _ _ (by simp only; omega) (by simp only; omega) ⟨rfl, rfl, rfl, rfl, rfl, rfl, rfl, rfl, rfl, rfl, rfl, rfl, rfl, rfl, rfl, rfl, trivial⟩ (by dsimp only; rw [eT, List.length_append, show spC (posP (-1) (Q.take k) ++ [((k : Int) - 1, q)]) = spC (posP (-1) (Q.take k)) ++ spC [((k : Int) - 1, q)] by simp [spC]]; repeat (first | exact Sp.nil | exact Sp.refl _ | refine Sp.cons (by repeat constructor) ?_))
    · rw [if_neg hc, List.append_nil] at eT
      (refine q_skip ?_; refine q_blk ?_; refine q_region ?_; refine ql_ar tabOk rfl rfl rfl rfl (by omega) (by omega) ?_; refine ql_pure tabOk rfl rfl ?_; refine q_nil ?_)
      exact hK (k + 1, v) _ _ (by simp only; omega) (by simp only; omega) ⟨rfl, rfl, rfl, rfl, rfl, rfl, rfl, rfl, rfl, rfl, rfl, rfl, rfl, rfl, rfl, rfl, trivial⟩ (by dsimp only; rw [eT]; repeat (first | exact Sp.nil | exact Sp.refl _ | refine Sp.cons (by repeat constructor) ?_))
  · obtain rfl : k = n + 1 := by omega
    rw [List.take_of_length_le (by omega)]
    clear hc hK
    have hS : (hapV x t).stocks.length ≤ 1000000 := by omega
    have hM : (hapV x t).made.length ≤ 1000000 := by omega
    have hP : (posP (-1) Q).length ≤ 1000000 := by rw [eP] at hpl; omega
    generalize (hapV x t).stocks = S at *
    generalize (hapV x t).made = M at *
    (refine q_exit _ rfl ?_; refine q_seq ?_; refine q_region ?_; (iterate 2 refine ql_pure tabOk rfl rfl ?_); refine ql_eqlT tabOk rfl rfl rfl (by omega) ?_; refine ql_pure tabOk rfl rfl ?_; refine ql_gyes rfl ?_; refine ql_pure tabOk rfl rfl ?_; refine ql_gyes rfl ?_; refine ql_pure tabOk rfl rfl ?_; refine ql_gyes rfl ?_)
    refine ql_callv (val := .bool true) tabOk rfl rfl rfl rfl (fun w hs => ?_) ?_; exact eqI_ca w 0 w.heap.size 0 w.heap.size sv s2 S (hs.rdI (by repeat first | exact .head _ | refine .tail _ ?_) en.symm) (hs.rdI (by repeat first | exact .head _ | refine .tail _ ?_) en.symm) hS
    ((iterate 2 refine ql_pure tabOk rfl rfl ?_); refine ql_gyes rfl ?_; refine ql_pure tabOk rfl rfl ?_; refine ql_gyes rfl ?_; refine ql_pure tabOk rfl rfl ?_; refine ql_gyes rfl ?_)
    refine ql_callv (val := .bool true) tabOk rfl rfl rfl rfl (fun w hs => ?_) ?_; exact eqI_ca w 0 w.heap.size 0 w.heap.size mv m2 M (hs.rdI (by repeat first | exact .head _ | refine .tail _ ?_) enM.symm) (hs.rdI (by repeat first | exact .head _ | refine .tail _ ?_) enM.symm) hM
    ((iterate 2 refine ql_pure tabOk rfl rfl ?_); refine ql_gyes rfl ?_; refine ql_pure tabOk rfl rfl ?_; refine ql_gyes rfl ?_; refine ql_pure tabOk rfl rfl ?_; refine ql_gyes rfl ?_)
    refine ql_callv (val := .bool true) tabOk rfl rfl rfl rfl (fun w hs => ?_) ?_; exact eqP_ca w 0 w.heap.size 0 w.heap.size pv v (posP (-1) Q) (RdS.of (hs.all (plK pv (posP (-1) Q)) (by repeat first | exact .head _ | refine .tail _ ?_))) (sat_rdS hs (by repeat first | exact .head _ | refine .tail _ ?_) rfl) hP
    ((iterate 2 refine ql_pure tabOk rfl rfl ?_); refine ql_gyes rfl ?_; refine ql_loadAB tabOk rfl rfl rfl (by repeat first | exact .head _ | refine .tail _ ?_) (by rfl) (by rfl) ?_; refine ql_gyes rfl ?_; refine ql_loadAB tabOk rfl rfl rfl (by repeat first | exact .head _ | refine .tail _ ?_) (by rfl) (by rfl) ?_; refine ql_gyes rfl ?_)
    refine ql_callv (val := .bool true) tabOk rfl rfl rfl rfl (fun w hs => ?_) ?_; exact sameW_ca w 0 w.heap.size lo hi x ua a uc c (sat_rdD hs (by repeat first | exact .head _ | refine .tail _ ?_) rfl) (RdE.keep h hs.chg0) (by omega)
    ((iterate 2 refine ql_pure tabOk rfl rfl ?_); refine ql_gyes rfl ?_; refine ql_loadAB tabOk rfl rfl rfl (by repeat first | exact .head _ | refine .tail _ ?_) (by rfl) (by rfl) ?_; refine ql_gyes rfl ?_; refine ql_loadAB tabOk rfl rfl rfl (by repeat first | exact .head _ | refine .tail _ ?_) (by rfl) (by rfl) ?_; refine ql_gyes rfl ?_)
    refine ql_callv (val := .bool true) tabOk rfl rfl rfl rfl (fun w hs => ?_) ?_; exact alikeW_ca w t _ _ _ _ _ _ (wtK_R hs (by repeat first | exact .head _ | refine .tail _ ?_) (by repeat first | exact .head _ | refine .tail _ ?_) (by repeat first | exact .head _ | refine .tail _ ?_)) (hw.keep hs.chg0) (by omega) (by omega) (by omega)
    ((iterate 2 refine ql_pure tabOk rfl rfl ?_); refine ql_gyes rfl ?_)
    refine ql_callv (val := .bool true) tabOk rfl rfl rfl rfl (fun w hs => ?_) ?_; exact awake_ca w
    ((iterate 2 refine ql_pure tabOk rfl rfl ?_); refine q_nil ?_; refine q_ret ?_)
    refine q_fin tabOk rfl (by repeat (first | exact RVs.nil | apply RVs.tmp rfl | apply RVs.cellA rfl rfl (by repeat first | exact .head _ | refine .tail _ ?_) (by rfl) | apply RVs.cell1 rfl rfl (by repeat first | exact .head _ | refine .tail _ ?_))) fun w hs => ?_
    exact ⟨rfl, hs.chg0⟩
end Go.Proofs.Ytgeajgmefokifaa
