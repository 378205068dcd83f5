/- My texts E15, E23, E24, E25, E26, joined: a claim takes at most 60 files. -/
import Derived.Test.YtgeajgmefokifaaGreatJ5

/- The walk of CourseWinters. -/
namespace Go.Proofs.YtgeajgmefokifaaGreat
open Go Go.Eng

theorem rdI_full {w : World} {lo hi : Nat} {v : Value} {l : List Int} (h : RdI w lo hi v l) : RdI w 0 w.heap.size v l := by
 refine RdI.of ?_
 have hr : Rd w lo hi v 1 l.length (aP l) := by have := h.rd; rw [jS] at this; simpa using this
 obtain ⟨h1, h2⟩ := hr
 refine ⟨h1, ?_⟩
 rcases h2 with h2 | ⟨b, off, cap, hv, hb, hc⟩
 ·exact .inl h2
 ·exact .inr ⟨b, off, cap, hv, fun hp => ⟨Nat.zero_le _, (hb hp).2.2, (hb hp).2.2⟩, hc⟩
/-- Three lists in a slice. -/
theorem rdII_3 {w : World} {b : Nat} {v1 v2 v3 : Value} {t : Wt} {ty : TypeId} (hb : Blk w b [v1, v2, v3] ty) (h : WtR w t v1 v2 v3) : RdII w 0 w.heap.size (.slice (some ⟨b, 0, none⟩) 3 3) [t.need, t.make, t.loss] := by
 obtain ⟨p1, q1, r1⟩ := h.n
 obtain ⟨p2, q2, r2⟩ := h.m
 obtain ⟨p3, q3, r3⟩ := h.l
 refine ⟨[v1, v2, v3], ?_, rfl, fun i h1 h2 => ?_⟩
 ·refine RdE.one ⟨rfl, .inr ⟨b, 0, 3, rfl, fun _ => ⟨Nat.zero_le _, hb.lt, hb.lt⟩, fun j _ => ?_⟩⟩ (fun e he => ?_)
  ·rw [Nat.zero_add]
   exact hb.cell j
  ·simp only [List.mem_cons, List.not_mem_nil, or_false] at he
   rcases he with rfl | rfl | rfl
   ·exact RdI.one r1
   ·exact RdI.one r2
   ·exact RdI.one r3
 ·match i, h1 with
  | 0, _ => exact rdI_full r1
  | 1, _ => exact rdI_full r2
  | 2, _ => exact rdI_full r3
theorem posP_take (l : List Int) {k : Nat} (hk : k < l.length) : jC (-1) (l.take (k + 1)) = jC (-1) (l.take k) ++ if l[k] > 0 then [((k : Int) - 1, l[k])] else [] := by
 rw [List.take_succ_eq_append_getElem hk, lB]
 congr 1
 simp only [jC, List.length_take]
 rw [List.append_nil]
 split
 ·congr 2
  omega
 ·rfl
theorem posP_len : ∀ (l : List Int) (d : Int), (jC d l).length ≤ l.length
 | [], _ => by simp [jC]
 | n :: r, d => by
  have := posP_len r (d + 1)
  simp only [jC, List.length_append, List.length_cons]
  split <;> simp <;> omega
set_option maxRecDepth 20000 in
set_option maxHeartbeats 16000000 in
theorem fJ (w : World) (lo hi : Nat) (x : Wn) (a : Option Addr) (c : Nat) (t : Wt) (v1 v2 v3 : Value) (h : RdD w lo hi (.slice a x.days.length c) x.days) (hlen0 : x.days.length ≤ maxLen) (hw : WtR w t v1 v2 v3) (n1 : t.need.length ≤ maxLen) (n2 : t.make.length ≤ maxLen) (n3 : t.loss.length ≤ maxLen) :
  Ca Tryz.prog 11 [.agg (wnC x a c).toArray, .agg #[v1, v2, v3]] w fun r w' => r = .bool true ∧ Chg [] w w' := by
 obtain ⟨a1, c1, rfl, _⟩ := RdI.outI hw.n.choose_spec.choose_spec
 obtain ⟨a2, c2, rfl, _⟩ := RdI.outI hw.m.choose_spec.choose_spec
 obtain ⟨a3, c3, rfl, _⟩ := RdI.outI hw.l.choose_spec.choose_spec
 refine cS (Sat.nil w M0) Tryz.func11 rfl (by simp [Tryz.ntmps11]) ?_
 (refine aD (aB ?_))
 refine bD Z Z (fun b2 => ?_)
 refine bD Z Z (fun b3 => ?_)
 (refine aA V Z Z (aF (aD (aD (aB ?_)))); refine aJ V Z Z Z ?_; refine aA V Z Z ?_; refine aI V Z Z Z ?_; refine aA V Z Z ?_; refine aI V Z Z Z ?_; refine aA V Z Z ?_; refine aI V Z Z Z ?_)
 refine cJ 22 [.slice a1 t.need.length c1, .slice a2 t.make.length c2, .slice a3 t.loss.length c3] rfl (by kernel_rfl) rfl (fun b0 => ?_)
 skip
 refine aK (val := .bool (longB x.days.length [t.need, t.make, t.loss])) V rfl rfl rfl rfl (fun w hs => ?_) ?_; exact longW_ca w 0 w.heap.size x a c _ [t.need, t.make, t.loss] (rdII_3 (hs.blk (b := b0) (by repeat constructor)) (hw.keep hs.chg0)) (by simp) (by simp; omega) hlen0
 cases hlo : longB x.days.length [t.need, t.make, t.loss] with
 | true =>
  (refine aF (aL Z (aD (aB ?_))))
  refine aK (val := .bool true) V rfl rfl rfl rfl (fun w hs => ?_) ?_; exact dS w
  (refine aA V Z Z (aF (aS ?_)))
  refine aU V Z (by repeat constructor) fun w hs => ?_
  exact ⟨rfl, hs.chg0⟩
 | false =>
 obtain ⟨hlen, hls⟩ := longB_no hlo
 have l1 : t.need.length ≤ 70 := hls _ (by simp)
 have l2 : t.make.length ≤ 70 := hls _ (by simp)
 have l3 : t.loss.length ≤ 70 := hls _ (by simp)
 clear hlo hls hlen0 n1 n2 n3
 (refine aF ?_)
 refine aH Z ?_
 skip
 refine aM ?_
 (refine aD ?_)
 refine eD (H' := [.pt b2 (wnC x a c) 39, .pt b3 [.slice a1 t.need.length c1, .slice a2 t.make.length c2, .slice a3 t.loss.length c3] 44]) (fun w' hs => (hs.sp (by repeat constructor) : Sat w M0 ([.pt b0 [.slice a1 t.need.length c1, .slice a2 t.make.length c2, .slice a3 t.loss.length c3] 22] ++ [.pt b2 (wnC x a c) 39, .pt b3 [.slice a1 t.need.length c1, .slice a2 t.make.length c2, .slice a3 t.loss.length c3] 44]) w').right) ?_
 refine jP (σ := Option Addr × Nat × Option Addr × Nat × Option Addr × Nat × Option Addr × Nat × Option Addr × Nat × Nat × Nat × Nat) (fun ⟨ua, uc, ma1, mc1, ma2, mc2, ma3, mc3, ra, rc, b5, b6, b7⟩ => [(2, .pointer (some ⟨b2, 0, none⟩)), (3, .pointer (some ⟨b3, 0, none⟩)), (5, .pointer (some ⟨b5, 0, none⟩)), (6, .pointer (some ⟨b6, 0, none⟩)), (7, .pointer (some ⟨b7, 0, none⟩))])
  (fun ⟨ua, uc, ma1, mc1, ma2, mc2, ma3, mc3, ra, rc, b5, b6, b7⟩ => [.pt b5 (wnC x ua uc) 39, .pt b6 [.slice ma1 t.need.length mc1, .slice ma2 t.make.length mc2, .slice ma3 t.loss.length mc3] 44, .pt b7 (wnC x ra rc) 108, .ow (.slice ua x.days.length uc) 46 6 x.days.length (dyC x.days), .ow (.slice ma1 t.need.length mc1) 3 1 t.need.length (aP t.need), .ow (.slice ma2 t.make.length mc2) 3 1 t.make.length (aP t.make), .ow (.slice ma3 t.loss.length mc3) 3 1 t.loss.length (aP t.loss), .ow (.slice ra x.days.length rc) 175 6 x.days.length (dyC x.days), .pt b2 (wnC x a c) 39, .pt b3 [.slice a1 t.need.length c1, .slice a2 t.make.length c2, .slice a3 t.loss.length c3] 44]) ?_ (fun K2 hK2 => ?_)
 rotate_left
 ·skip
  refine iN (.alt (aC [0, 1] (.alt (aC [2, 3] (.alt (aC [4, 5] (.alt (aC [6] (.alt (aC [7] (aC [8] (aC [9, 10, 11] (.nil)))) (aC [8] (aC [7] (aC [9, 10, 11] (.nil)))))) (.alt (aC [7] (.alt (aC [6] (aC [8] (aC [9, 10, 11] (.nil)))) (aC [8] (aC [6] (aC [9, 10, 11] (.nil)))))) (aC [8] (.alt (aC [6] (aC [7] (aC [9, 10, 11] (.nil)))) (aC [7] (aC [6] (aC [9, 10, 11] (.nil))))))))) (.alt (aC [6] (.alt (aC [4, 5] (.alt (aC [7] (aC [8] (aC [9, 10, 11] (.nil)))) (aC [8] (aC [7] (aC [9, 10, 11] (.nil)))))) (.alt (aC [7] (.alt (aC [4, 5] (aC [8] (aC [9, 10, 11] (.nil)))) (aC [8] (aC [4, 5] (aC [9, 10, 11] (.nil)))))) (aC [8] (.alt (aC [4, 5] (aC [7] (aC [9, 10, 11] (.nil)))) (aC [7] (aC [4, 5] (aC [9, 10, 11] (.nil))))))))) (.alt (aC [7] (.alt (aC [4, 5] (.alt (aC [6] (aC [8] (aC [9, 10, 11] (.nil)))) (aC [8] (aC [6] (aC [9, 10, 11] (.nil)))))) (.alt (aC [6] (.alt (aC [4, 5] (aC [8] (aC [9, 10, 11] (.nil)))) (aC [8] (aC [4, 5] (aC [9, 10, 11] (.nil)))))) (aC [8] (.alt (aC [4, 5] (aC [6] (aC [9, 10, 11] (.nil)))) (aC [6] (aC [4, 5] (aC [9, 10, 11] (.nil))))))))) (aC [8] (.alt (aC [4, 5] (.alt (aC [6] (aC [7] (aC [9, 10, 11] (.nil)))) (aC [7] (aC [6] (aC [9, 10, 11] (.nil)))))) (.alt (aC [6] (.alt (aC [4, 5] (aC [7] (aC [9, 10, 11] (.nil)))) (aC [7] (aC [4, 5] (aC [9, 10, 11] (.nil)))))) (aC [7] (.alt (aC [4, 5] (aC [6] (aC [9, 10, 11] (.nil)))) (aC [6] (aC [4, 5] (aC [9, 10, 11] (.nil))))))))))))) (.alt (aC [6] (.alt (aC [2, 3] (.alt (aC [4, 5] (.alt (aC [7] (aC [8] (aC [9, 10, 11] (.nil)))) (aC [8] (aC [7] (aC [9, 10, 11] (.nil)))))) (.alt (aC [7] (.alt (aC [4, 5] (aC [8] (aC [9, 10, 11] (.nil)))) (aC [8] (aC [4, 5] (aC [9, 10, 11] (.nil)))))) (aC [8] (.alt (aC [4, 5] (aC [7] (aC [9, 10, 11] (.nil)))) (aC [7] (aC [4, 5] (aC [9, 10, 11] (.nil))))))))) (.alt (aC [7] (.alt (aC [2, 3] (.alt (aC [4, 5] (aC [8] (aC [9, 10, 11] (.nil)))) (aC [8] (aC [4, 5] (aC [9, 10, 11] (.nil)))))) (aC [8] (aC [2, 3] (aC [4, 5] (aC [9, 10, 11] (.nil))))))) (aC [8] (.alt (aC [2, 3] (.alt (aC [4, 5] (aC [7] (aC [9, 10, 11] (.nil)))) (aC [7] (aC [4, 5] (aC [9, 10, 11] (.nil)))))) (aC [7] (aC [2, 3] (aC [4, 5] (aC [9, 10, 11] (.nil)))))))))) (.alt (aC [7] (.alt (aC [2, 3] (.alt (aC [4, 5] (.alt (aC [6] (aC [8] (aC [9, 10, 11] (.nil)))) (aC [8] (aC [6] (aC [9, 10, 11] (.nil)))))) (.alt (aC [6] (.alt (aC [4, 5] (aC [8] (aC [9, 10, 11] (.nil)))) (aC [8] (aC [4, 5] (aC [9, 10, 11] (.nil)))))) (aC [8] (.alt (aC [4, 5] (aC [6] (aC [9, 10, 11] (.nil)))) (aC [6] (aC [4, 5] (aC [9, 10, 11] (.nil))))))))) (.alt (aC [6] (.alt (aC [2, 3] (.alt (aC [4, 5] (aC [8] (aC [9, 10, 11] (.nil)))) (aC [8] (aC [4, 5] (aC [9, 10, 11] (.nil)))))) (aC [8] (aC [2, 3] (aC [4, 5] (aC [9, 10, 11] (.nil))))))) (aC [8] (.alt (aC [2, 3] (.alt (aC [4, 5] (aC [6] (aC [9, 10, 11] (.nil)))) (aC [6] (aC [4, 5] (aC [9, 10, 11] (.nil)))))) (aC [6] (aC [2, 3] (aC [4, 5] (aC [9, 10, 11] (.nil)))))))))) (aC [8] (.alt (aC [2, 3] (.alt (aC [4, 5] (.alt (aC [6] (aC [7] (aC [9, 10, 11] (.nil)))) (aC [7] (aC [6] (aC [9, 10, 11] (.nil)))))) (.alt (aC [6] (.alt (aC [4, 5] (aC [7] (aC [9, 10, 11] (.nil)))) (aC [7] (aC [4, 5] (aC [9, 10, 11] (.nil)))))) (aC [7] (.alt (aC [4, 5] (aC [6] (aC [9, 10, 11] (.nil)))) (aC [6] (aC [4, 5] (aC [9, 10, 11] (.nil))))))))) (.alt (aC [6] (.alt (aC [2, 3] (.alt (aC [4, 5] (aC [7] (aC [9, 10, 11] (.nil)))) (aC [7] (aC [4, 5] (aC [9, 10, 11] (.nil)))))) (aC [7] (aC [2, 3] (aC [4, 5] (aC [9, 10, 11] (.nil))))))) (aC [7] (.alt (aC [2, 3] (.alt (aC [4, 5] (aC [6] (aC [9, 10, 11] (.nil)))) (aC [6] (aC [4, 5] (aC [9, 10, 11] (.nil)))))) (aC [6] (aC [2, 3] (aC [4, 5] (aC [9, 10, 11] (.nil)))))))))))))) (.alt (aC [6] (.alt (aC [0, 1] (.alt (aC [2, 3] (.alt (aC [4, 5] (.alt (aC [7] (aC [8] (aC [9, 10, 11] (.nil)))) (aC [8] (aC [7] (aC [9, 10, 11] (.nil)))))) (.alt (aC [7] (.alt (aC [4, 5] (aC [8] (aC [9, 10, 11] (.nil)))) (aC [8] (aC [4, 5] (aC [9, 10, 11] (.nil)))))) (aC [8] (.alt (aC [4, 5] (aC [7] (aC [9, 10, 11] (.nil)))) (aC [7] (aC [4, 5] (aC [9, 10, 11] (.nil))))))))) (.alt (aC [7] (.alt (aC [2, 3] (.alt (aC [4, 5] (aC [8] (aC [9, 10, 11] (.nil)))) (aC [8] (aC [4, 5] (aC [9, 10, 11] (.nil)))))) (aC [8] (aC [2, 3] (aC [4, 5] (aC [9, 10, 11] (.nil))))))) (aC [8] (.alt (aC [2, 3] (.alt (aC [4, 5] (aC [7] (aC [9, 10, 11] (.nil)))) (aC [7] (aC [4, 5] (aC [9, 10, 11] (.nil)))))) (aC [7] (aC [2, 3] (aC [4, 5] (aC [9, 10, 11] (.nil)))))))))) (.alt (aC [7] (.alt (aC [0, 1] (.alt (aC [2, 3] (.alt (aC [4, 5] (aC [8] (aC [9, 10, 11] (.nil)))) (aC [8] (aC [4, 5] (aC [9, 10, 11] (.nil)))))) (aC [8] (aC [2, 3] (aC [4, 5] (aC [9, 10, 11] (.nil))))))) (aC [8] (aC [0, 1] (aC [2, 3] (aC [4, 5] (aC [9, 10, 11] (.nil)))))))) (aC [8] (.alt (aC [0, 1] (.alt (aC [2, 3] (.alt (aC [4, 5] (aC [7] (aC [9, 10, 11] (.nil)))) (aC [7] (aC [4, 5] (aC [9, 10, 11] (.nil)))))) (aC [7] (aC [2, 3] (aC [4, 5] (aC [9, 10, 11] (.nil))))))) (aC [7] (aC [0, 1] (aC [2, 3] (aC [4, 5] (aC [9, 10, 11] (.nil))))))))))) (.alt (aC [7] (.alt (aC [0, 1] (.alt (aC [2, 3] (.alt (aC [4, 5] (.alt (aC [6] (aC [8] (aC [9, 10, 11] (.nil)))) (aC [8] (aC [6] (aC [9, 10, 11] (.nil)))))) (.alt (aC [6] (.alt (aC [4, 5] (aC [8] (aC [9, 10, 11] (.nil)))) (aC [8] (aC [4, 5] (aC [9, 10, 11] (.nil)))))) (aC [8] (.alt (aC [4, 5] (aC [6] (aC [9, 10, 11] (.nil)))) (aC [6] (aC [4, 5] (aC [9, 10, 11] (.nil))))))))) (.alt (aC [6] (.alt (aC [2, 3] (.alt (aC [4, 5] (aC [8] (aC [9, 10, 11] (.nil)))) (aC [8] (aC [4, 5] (aC [9, 10, 11] (.nil)))))) (aC [8] (aC [2, 3] (aC [4, 5] (aC [9, 10, 11] (.nil))))))) (aC [8] (.alt (aC [2, 3] (.alt (aC [4, 5] (aC [6] (aC [9, 10, 11] (.nil)))) (aC [6] (aC [4, 5] (aC [9, 10, 11] (.nil)))))) (aC [6] (aC [2, 3] (aC [4, 5] (aC [9, 10, 11] (.nil)))))))))) (.alt (aC [6] (.alt (aC [0, 1] (.alt (aC [2, 3] (.alt (aC [4, 5] (aC [8] (aC [9, 10, 11] (.nil)))) (aC [8] (aC [4, 5] (aC [9, 10, 11] (.nil)))))) (aC [8] (aC [2, 3] (aC [4, 5] (aC [9, 10, 11] (.nil))))))) (aC [8] (aC [0, 1] (aC [2, 3] (aC [4, 5] (aC [9, 10, 11] (.nil)))))))) (aC [8] (.alt (aC [0, 1] (.alt (aC [2, 3] (.alt (aC [4, 5] (aC [6] (aC [9, 10, 11] (.nil)))) (aC [6] (aC [4, 5] (aC [9, 10, 11] (.nil)))))) (aC [6] (aC [2, 3] (aC [4, 5] (aC [9, 10, 11] (.nil))))))) (aC [6] (aC [0, 1] (aC [2, 3] (aC [4, 5] (aC [9, 10, 11] (.nil))))))))))) (aC [8] (.alt (aC [0, 1] (.alt (aC [2, 3] (.alt (aC [4, 5] (.alt (aC [6] (aC [7] (aC [9, 10, 11] (.nil)))) (aC [7] (aC [6] (aC [9, 10, 11] (.nil)))))) (.alt (aC [6] (.alt (aC [4, 5] (aC [7] (aC [9, 10, 11] (.nil)))) (aC [7] (aC [4, 5] (aC [9, 10, 11] (.nil)))))) (aC [7] (.alt (aC [4, 5] (aC [6] (aC [9, 10, 11] (.nil)))) (aC [6] (aC [4, 5] (aC [9, 10, 11] (.nil))))))))) (.alt (aC [6] (.alt (aC [2, 3] (.alt (aC [4, 5] (aC [7] (aC [9, 10, 11] (.nil)))) (aC [7] (aC [4, 5] (aC [9, 10, 11] (.nil)))))) (aC [7] (aC [2, 3] (aC [4, 5] (aC [9, 10, 11] (.nil))))))) (aC [7] (.alt (aC [2, 3] (.alt (aC [4, 5] (aC [6] (aC [9, 10, 11] (.nil)))) (aC [6] (aC [4, 5] (aC [9, 10, 11] (.nil)))))) (aC [6] (aC [2, 3] (aC [4, 5] (aC [9, 10, 11] (.nil)))))))))) (.alt (aC [6] (.alt (aC [0, 1] (.alt (aC [2, 3] (.alt (aC [4, 5] (aC [7] (aC [9, 10, 11] (.nil)))) (aC [7] (aC [4, 5] (aC [9, 10, 11] (.nil)))))) (aC [7] (aC [2, 3] (aC [4, 5] (aC [9, 10, 11] (.nil))))))) (aC [7] (aC [0, 1] (aC [2, 3] (aC [4, 5] (aC [9, 10, 11] (.nil)))))))) (aC [7] (.alt (aC [0, 1] (.alt (aC [2, 3] (.alt (aC [4, 5] (aC [6] (aC [9, 10, 11] (.nil)))) (aC [6] (aC [4, 5] (aC [9, 10, 11] (.nil)))))) (aC [6] (aC [2, 3] (aC [4, 5] (aC [9, 10, 11] (.nil))))))) (aC [6] (aC [0, 1] (aC [2, 3] (aC [4, 5] (aC [9, 10, 11] (.nil)))))))))))))) _ [] (Sp.refl _) (by kernel_rfl) (by kernel_rfl) ?_
  refine cE (σ := Option Addr × Nat × Option Addr × Nat × Option Addr × Nat × Option Addr × Nat × Option Addr × Nat × Nat × Nat × Nat × Unit) (.nil) (fun ⟨ua, uc, ma1, mc1, ma2, mc2, ma3, mc3, ra, rc, b5, b6, b7, ()⟩ => [(2, .pointer (some ⟨b2, 0, none⟩)), (3, .pointer (some ⟨b3, 0, none⟩)), (5, .pointer (some ⟨b5, 0, none⟩)), (6, .pointer (some ⟨b6, 0, none⟩)), (7, .pointer (some ⟨b7, 0, none⟩))]) (fun ⟨ua, uc, ma1, mc1, ma2, mc2, ma3, mc3, ra, rc, b5, b6, b7, ()⟩ => [.pt b5 (wnC x ua uc) 39, .pt b6 [.slice ma1 t.need.length mc1, .slice ma2 t.make.length mc2, .slice ma3 t.loss.length mc3] 44, .pt b7 (wnC x ra rc) 108, .ow (.slice ua x.days.length uc) 46 6 x.days.length (dyC x.days), .ow (.slice ma1 t.need.length mc1) 3 1 t.need.length (aP t.need), .ow (.slice ma2 t.make.length mc2) 3 1 t.make.length (aP t.make), .ow (.slice ma3 t.loss.length mc3) 3 1 t.loss.length (aP t.loss), .ow (.slice ra x.days.length rc) 175 6 x.days.length (dyC x.days)]) ?_ (fun hS1_3_5_6_7_8_11 => ?_)
  ·rintro ⟨ua, uc, ma1, mc1, ma2, mc2, ma3, mc3, ra, rc, b5, b6, b7, _⟩
   exact dO (hK2 ⟨ua, uc, ma1, mc1, ma2, mc2, ma3, mc3, ra, rc, b5, b6, b7⟩ _ _ ⟨rfl, rfl, rfl, rfl, rfl, trivial⟩ (by repeat constructor))
  refine cE (σ := Option Addr × Nat × Option Addr × Nat × Option Addr × Nat × Option Addr × Nat × Option Addr × Nat × Nat × Nat × Nat × Unit) (aC [9, 10, 11] (.nil)) (fun ⟨ua, uc, ma1, mc1, ma2, mc2, ma3, mc3, ra, rc, b5, b6, b7, ()⟩ => [(2, .pointer (some ⟨b2, 0, none⟩)), (3, .pointer (some ⟨b3, 0, none⟩)), (5, .pointer (some ⟨b5, 0, none⟩)), (6, .pointer (some ⟨b6, 0, none⟩)), (7, .pointer (some ⟨b7, 0, none⟩)), (38, .agg (wnC x ua uc).toArray), (40, .agg #[.slice ma1 t.need.length mc1, .slice ma2 t.make.length mc2, .slice ma3 t.loss.length mc3]), (42, .agg (wnC x ra rc).toArray)]) (fun ⟨ua, uc, ma1, mc1, ma2, mc2, ma3, mc3, ra, rc, b5, b6, b7, ()⟩ => [.pt b5 [.int .i64 0, .int .i64 0, .slice none 0 0] 39, .pt b6 [.slice none 0 0, .slice none 0 0, .slice none 0 0] 44, .pt b7 [.int .i64 0, .int .i64 0, .slice none 0 0] 108, .ow (.slice ua x.days.length uc) 46 6 x.days.length (dyC x.days), .ow (.slice ma1 t.need.length mc1) 3 1 t.need.length (aP t.need), .ow (.slice ma2 t.make.length mc2) 3 1 t.make.length (aP t.make), .ow (.slice ma3 t.loss.length mc3) 3 1 t.loss.length (aP t.loss), .ow (.slice ra x.days.length rc) 175 6 x.days.length (dyC x.days)]) ?_ (fun hS1_3_5_6_7_8 => ?_)
  ·rintro ⟨ua, uc, ma1, mc1, ma2, mc2, ma3, mc3, ra, rc, b5, b6, b7, _⟩
   refine aY (by repeat (first | exact PickL.nil | (apply PickL.cons; rfl))) fun K1 hK1 => ?_
   ((iterate 3 refine cZ V Z Z Z Z Z (by repeat constructor) rfl ?_); refine aO ?_)
   skip
   exact hK1 _ _ (hS1_3_5_6_7_8_11 ⟨ua, uc, ma1, mc1, ma2, mc2, ma3, mc3, ra, rc, b5, b6, b7, ()⟩ _ _ ⟨rfl, rfl, rfl, rfl, rfl, trivial⟩ (by repeat constructor))
  refine cE (σ := Option Addr × Nat × Option Addr × Nat × Option Addr × Nat × Option Addr × Nat × Option Addr × Nat × Nat × Nat × Unit) (aC [8] (aC [9, 10, 11] (.nil))) (fun ⟨ua, uc, ma1, mc1, ma2, mc2, ma3, mc3, ra, rc, b5, b6, ()⟩ => [(2, .pointer (some ⟨b2, 0, none⟩)), (3, .pointer (some ⟨b3, 0, none⟩)), (5, .pointer (some ⟨b5, 0, none⟩)), (6, .pointer (some ⟨b6, 0, none⟩)), (38, .agg (wnC x ua uc).toArray), (40, .agg #[.slice ma1 t.need.length mc1, .slice ma2 t.make.length mc2, .slice ma3 t.loss.length mc3]), (42, .agg (wnC x ra rc).toArray)]) (fun ⟨ua, uc, ma1, mc1, ma2, mc2, ma3, mc3, ra, rc, b5, b6, ()⟩ => [.pt b5 [.int .i64 0, .int .i64 0, .slice none 0 0] 39, .pt b6 [.slice none 0 0, .slice none 0 0, .slice none 0 0] 44, .ow (.slice ua x.days.length uc) 46 6 x.days.length (dyC x.days), .ow (.slice ma1 t.need.length mc1) 3 1 t.need.length (aP t.need), .ow (.slice ma2 t.make.length mc2) 3 1 t.make.length (aP t.make), .ow (.slice ma3 t.loss.length mc3) 3 1 t.loss.length (aP t.loss), .ow (.slice ra x.days.length rc) 175 6 x.days.length (dyC x.days)]) ?_ (fun hS1_3_5_6_7 => ?_)
  ·rintro ⟨ua, uc, ma1, mc1, ma2, mc2, ma3, mc3, ra, rc, b5, b6, _⟩
   refine aY (by repeat (first | exact PickL.nil | (apply PickL.cons; rfl))) fun K1 hK1 => ?_
   skip
   refine bC dB rfl (fun b7 => ?_)
   (refine aO ?_)
   exact hK1 _ _ (hS1_3_5_6_7_8 ⟨ua, uc, ma1, mc1, ma2, mc2, ma3, mc3, ra, rc, b5, b6, b7, ()⟩ _ _ ⟨rfl, rfl, rfl, rfl, rfl, rfl, rfl, rfl, trivial⟩ (by repeat constructor))
  refine cE (σ := Option Addr × Nat × Option Addr × Nat × Option Addr × Nat × Option Addr × Nat × Option Addr × Nat × Nat × Nat × Unit) (aC [7] (aC [9, 10, 11] (.nil))) (fun ⟨ua, uc, ma1, mc1, ma2, mc2, ma3, mc3, ra, rc, b5, b7, ()⟩ => [(2, .pointer (some ⟨b2, 0, none⟩)), (3, .pointer (some ⟨b3, 0, none⟩)), (5, .pointer (some ⟨b5, 0, none⟩)), (7, .pointer (some ⟨b7, 0, none⟩)), (38, .agg (wnC x ua uc).toArray), (40, .agg #[.slice ma1 t.need.length mc1, .slice ma2 t.make.length mc2, .slice ma3 t.loss.length mc3]), (42, .agg (wnC x ra rc).toArray)]) (fun ⟨ua, uc, ma1, mc1, ma2, mc2, ma3, mc3, ra, rc, b5, b7, ()⟩ => [.pt b5 [.int .i64 0, .int .i64 0, .slice none 0 0] 39, .pt b7 [.int .i64 0, .int .i64 0, .slice none 0 0] 108, .ow (.slice ua x.days.length uc) 46 6 x.days.length (dyC x.days), .ow (.slice ma1 t.need.length mc1) 3 1 t.need.length (aP t.need), .ow (.slice ma2 t.make.length mc2) 3 1 t.make.length (aP t.make), .ow (.slice ma3 t.loss.length mc3) 3 1 t.loss.length (aP t.loss), .ow (.slice ra x.days.length rc) 175 6 x.days.length (dyC x.days)]) ?_ (fun hS1_3_5_6_8 => ?_)
  ·rintro ⟨ua, uc, ma1, mc1, ma2, mc2, ma3, mc3, ra, rc, b5, b7, _⟩
   refine aY (by repeat (first | exact PickL.nil | (apply PickL.cons; rfl))) fun K1 hK1 => ?_
   skip
   refine bC dR rfl (fun b6 => ?_)
   (refine aO ?_)
   exact hK1 _ _ (hS1_3_5_6_7_8 ⟨ua, uc, ma1, mc1, ma2, mc2, ma3, mc3, ra, rc, b5, b6, b7, ()⟩ _ _ ⟨rfl, rfl, rfl, rfl, rfl, rfl, rfl, rfl, trivial⟩ (by repeat constructor))
  refine cE (σ := Option Addr × Nat × Option Addr × Nat × Option Addr × Nat × Option Addr × Nat × Option Addr × Nat × Nat × Nat × Unit) (aC [6] (aC [9, 10, 11] (.nil))) (fun ⟨ua, uc, ma1, mc1, ma2, mc2, ma3, mc3, ra, rc, b6, b7, ()⟩ => [(2, .pointer (some ⟨b2, 0, none⟩)), (3, .pointer (some ⟨b3, 0, none⟩)), (6, .pointer (some ⟨b6, 0, none⟩)), (7, .pointer (some ⟨b7, 0, none⟩)), (38, .agg (wnC x ua uc).toArray), (40, .agg #[.slice ma1 t.need.length mc1, .slice ma2 t.make.length mc2, .slice ma3 t.loss.length mc3]), (42, .agg (wnC x ra rc).toArray)]) (fun ⟨ua, uc, ma1, mc1, ma2, mc2, ma3, mc3, ra, rc, b6, b7, ()⟩ => [.pt b6 [.slice none 0 0, .slice none 0 0, .slice none 0 0] 44, .pt b7 [.int .i64 0, .int .i64 0, .slice none 0 0] 108, .ow (.slice ua x.days.length uc) 46 6 x.days.length (dyC x.days), .ow (.slice ma1 t.need.length mc1) 3 1 t.need.length (aP t.need), .ow (.slice ma2 t.make.length mc2) 3 1 t.make.length (aP t.make), .ow (.slice ma3 t.loss.length mc3) 3 1 t.loss.length (aP t.loss), .ow (.slice ra x.days.length rc) 175 6 x.days.length (dyC x.days)]) ?_ (fun hS1_3_5_7_8 => ?_)
  ·rintro ⟨ua, uc, ma1, mc1, ma2, mc2, ma3, mc3, ra, rc, b6, b7, _⟩
   refine aY (by repeat (first | exact PickL.nil | (apply PickL.cons; rfl))) fun K1 hK1 => ?_
   skip
   refine bC dQ rfl (fun b5 => ?_)
   (refine aO ?_)
   exact hK1 _ _ (hS1_3_5_6_7_8 ⟨ua, uc, ma1, mc1, ma2, mc2, ma3, mc3, ra, rc, b5, b6, b7, ()⟩ _ _ ⟨rfl, rfl, rfl, rfl, rfl, rfl, rfl, rfl, trivial⟩ (by repeat constructor))
  refine cE (σ := Option Addr × Nat × Option Addr × Nat × Option Addr × Nat × Option Addr × Nat × Nat × Nat × Nat × Unit) (aC [4, 5] (aC [9, 10, 11] (.nil))) (fun ⟨ua, uc, ma1, mc1, ma2, mc2, ma3, mc3, b5, b6, b7, ()⟩ => [(2, .pointer (some ⟨b2, 0, none⟩)), (3, .pointer (some ⟨b3, 0, none⟩)), (5, .pointer (some ⟨b5, 0, none⟩)), (6, .pointer (some ⟨b6, 0, none⟩)), (7, .pointer (some ⟨b7, 0, none⟩)), (38, .agg (wnC x ua uc).toArray), (40, .agg #[.slice ma1 t.need.length mc1, .slice ma2 t.make.length mc2, .slice ma3 t.loss.length mc3])]) (fun ⟨ua, uc, ma1, mc1, ma2, mc2, ma3, mc3, b5, b6, b7, ()⟩ => [.pt b5 [.int .i64 0, .int .i64 0, .slice none 0 0] 39, .pt b6 [.slice none 0 0, .slice none 0 0, .slice none 0 0] 44, .pt b7 [.int .i64 0, .int .i64 0, .slice none 0 0] 108, .ow (.slice ua x.days.length uc) 46 6 x.days.length (dyC x.days), .ow (.slice ma1 t.need.length mc1) 3 1 t.need.length (aP t.need), .ow (.slice ma2 t.make.length mc2) 3 1 t.make.length (aP t.make), .ow (.slice ma3 t.loss.length mc3) 3 1 t.loss.length (aP t.loss)]) ?_ (fun hS1_3_6_7_8 => ?_)
  ·rintro ⟨ua, uc, ma1, mc1, ma2, mc2, ma3, mc3, b5, b6, b7, _⟩
   refine aY (by repeat (first | exact PickL.nil | (apply PickL.cons; rfl))) fun K1 hK1 => ?_
   (refine aZ V Z Z Z ?_)
   refine bH (β := Option Addr × Nat) V [] _ M0 rfl rfl rfl rfl (Sp.refl _) (fun _ h => h.elim) (fun w' hs => eG w' lo hi x a c (RdE.keep h hs.chg0) (by omega)) ?_
   rintro ⟨ra, rc⟩ _ rfl
   dsimp only [List.cons_append, List.nil_append]
   (refine aO ?_)
   exact hK1 _ _ (hS1_3_5_6_7_8 ⟨ua, uc, ma1, mc1, ma2, mc2, ma3, mc3, ra, rc, b5, b6, b7, ()⟩ _ _ ⟨rfl, rfl, rfl, rfl, rfl, rfl, rfl, rfl, trivial⟩ (by repeat constructor))
  refine cE (σ := Option Addr × Nat × Option Addr × Nat × Option Addr × Nat × Option Addr × Nat × Option Addr × Nat × Nat × Unit) (.alt (aC [7] (aC [8] (aC [9, 10, 11] (.nil)))) (aC [8] (aC [7] (aC [9, 10, 11] (.nil))))) (fun ⟨ua, uc, ma1, mc1, ma2, mc2, ma3, mc3, ra, rc, b5, ()⟩ => [(2, .pointer (some ⟨b2, 0, none⟩)), (3, .pointer (some ⟨b3, 0, none⟩)), (5, .pointer (some ⟨b5, 0, none⟩)), (38, .agg (wnC x ua uc).toArray), (40, .agg #[.slice ma1 t.need.length mc1, .slice ma2 t.make.length mc2, .slice ma3 t.loss.length mc3]), (42, .agg (wnC x ra rc).toArray)]) (fun ⟨ua, uc, ma1, mc1, ma2, mc2, ma3, mc3, ra, rc, b5, ()⟩ => [.pt b5 [.int .i64 0, .int .i64 0, .slice none 0 0] 39, .ow (.slice ua x.days.length uc) 46 6 x.days.length (dyC x.days), .ow (.slice ma1 t.need.length mc1) 3 1 t.need.length (aP t.need), .ow (.slice ma2 t.make.length mc2) 3 1 t.make.length (aP t.make), .ow (.slice ma3 t.loss.length mc3) 3 1 t.loss.length (aP t.loss), .ow (.slice ra x.days.length rc) 175 6 x.days.length (dyC x.days)]) ?_ (fun hS1_3_5_6 => ?_)
  ·rintro ⟨ua, uc, ma1, mc1, ma2, mc2, ma3, mc3, ra, rc, b5, _⟩
   refine bM ?_ ?_
   ·skip
    refine aY (by repeat (first | exact PickL.nil | (apply PickL.cons; rfl))) fun K1 hK1 => ?_
    skip
    refine bC dR rfl (fun b6 => ?_)
    (refine aO ?_)
    exact hK1 _ _ (hS1_3_5_6_7 ⟨ua, uc, ma1, mc1, ma2, mc2, ma3, mc3, ra, rc, b5, b6, ()⟩ _ _ ⟨rfl, rfl, rfl, rfl, rfl, rfl, rfl, trivial⟩ (by repeat constructor))
   ·skip
    refine aY (by repeat (first | exact PickL.nil | (apply PickL.cons; rfl))) fun K1 hK1 => ?_
    skip
    refine bC dB rfl (fun b7 => ?_)
    (refine aO ?_)
    exact hK1 _ _ (hS1_3_5_6_8 ⟨ua, uc, ma1, mc1, ma2, mc2, ma3, mc3, ra, rc, b5, b7, ()⟩ _ _ ⟨rfl, rfl, rfl, rfl, rfl, rfl, rfl, trivial⟩ (by repeat constructor))
  refine cE (σ := Option Addr × Nat × Option Addr × Nat × Option Addr × Nat × Option Addr × Nat × Option Addr × Nat × Nat × Unit) (.alt (aC [6] (aC [8] (aC [9, 10, 11] (.nil)))) (aC [8] (aC [6] (aC [9, 10, 11] (.nil))))) (fun ⟨ua, uc, ma1, mc1, ma2, mc2, ma3, mc3, ra, rc, b6, ()⟩ => [(2, .pointer (some ⟨b2, 0, none⟩)), (3, .pointer (some ⟨b3, 0, none⟩)), (6, .pointer (some ⟨b6, 0, none⟩)), (38, .agg (wnC x ua uc).toArray), (40, .agg #[.slice ma1 t.need.length mc1, .slice ma2 t.make.length mc2, .slice ma3 t.loss.length mc3]), (42, .agg (wnC x ra rc).toArray)]) (fun ⟨ua, uc, ma1, mc1, ma2, mc2, ma3, mc3, ra, rc, b6, ()⟩ => [.pt b6 [.slice none 0 0, .slice none 0 0, .slice none 0 0] 44, .ow (.slice ua x.days.length uc) 46 6 x.days.length (dyC x.days), .ow (.slice ma1 t.need.length mc1) 3 1 t.need.length (aP t.need), .ow (.slice ma2 t.make.length mc2) 3 1 t.make.length (aP t.make), .ow (.slice ma3 t.loss.length mc3) 3 1 t.loss.length (aP t.loss), .ow (.slice ra x.days.length rc) 175 6 x.days.length (dyC x.days)]) ?_ (fun hS1_3_5_7 => ?_)
  ·rintro ⟨ua, uc, ma1, mc1, ma2, mc2, ma3, mc3, ra, rc, b6, _⟩
   refine bM ?_ ?_
   ·skip
    refine aY (by repeat (first | exact PickL.nil | (apply PickL.cons; rfl))) fun K1 hK1 => ?_
    skip
    refine bC dQ rfl (fun b5 => ?_)
    (refine aO ?_)
    exact hK1 _ _ (hS1_3_5_6_7 ⟨ua, uc, ma1, mc1, ma2, mc2, ma3, mc3, ra, rc, b5, b6, ()⟩ _ _ ⟨rfl, rfl, rfl, rfl, rfl, rfl, rfl, trivial⟩ (by repeat constructor))
   ·skip
    refine aY (by repeat (first | exact PickL.nil | (apply PickL.cons; rfl))) fun K1 hK1 => ?_
    skip
    refine bC dB rfl (fun b7 => ?_)
    (refine aO ?_)
    exact hK1 _ _ (hS1_3_5_7_8 ⟨ua, uc, ma1, mc1, ma2, mc2, ma3, mc3, ra, rc, b6, b7, ()⟩ _ _ ⟨rfl, rfl, rfl, rfl, rfl, rfl, rfl, trivial⟩ (by repeat constructor))
  refine cE (σ := Option Addr × Nat × Option Addr × Nat × Option Addr × Nat × Option Addr × Nat × Option Addr × Nat × Nat × Unit) (.alt (aC [6] (aC [7] (aC [9, 10, 11] (.nil)))) (aC [7] (aC [6] (aC [9, 10, 11] (.nil))))) (fun ⟨ua, uc, ma1, mc1, ma2, mc2, ma3, mc3, ra, rc, b7, ()⟩ => [(2, .pointer (some ⟨b2, 0, none⟩)), (3, .pointer (some ⟨b3, 0, none⟩)), (7, .pointer (some ⟨b7, 0, none⟩)), (38, .agg (wnC x ua uc).toArray), (40, .agg #[.slice ma1 t.need.length mc1, .slice ma2 t.make.length mc2, .slice ma3 t.loss.length mc3]), (42, .agg (wnC x ra rc).toArray)]) (fun ⟨ua, uc, ma1, mc1, ma2, mc2, ma3, mc3, ra, rc, b7, ()⟩ => [.pt b7 [.int .i64 0, .int .i64 0, .slice none 0 0] 108, .ow (.slice ua x.days.length uc) 46 6 x.days.length (dyC x.days), .ow (.slice ma1 t.need.length mc1) 3 1 t.need.length (aP t.need), .ow (.slice ma2 t.make.length mc2) 3 1 t.make.length (aP t.make), .ow (.slice ma3 t.loss.length mc3) 3 1 t.loss.length (aP t.loss), .ow (.slice ra x.days.length rc) 175 6 x.days.length (dyC x.days)]) ?_ (fun hS1_3_5_8 => ?_)
  ·rintro ⟨ua, uc, ma1, mc1, ma2, mc2, ma3, mc3, ra, rc, b7, _⟩
   refine bM ?_ ?_
   ·skip
    refine aY (by repeat (first | exact PickL.nil | (apply PickL.cons; rfl))) fun K1 hK1 => ?_
    skip
    refine bC dQ rfl (fun b5 => ?_)
    (refine aO ?_)
    exact hK1 _ _ (hS1_3_5_6_8 ⟨ua, uc, ma1, mc1, ma2, mc2, ma3, mc3, ra, rc, b5, b7, ()⟩ _ _ ⟨rfl, rfl, rfl, rfl, rfl, rfl, rfl, trivial⟩ (by repeat constructor))
   ·skip
    refine aY (by repeat (first | exact PickL.nil | (apply PickL.cons; rfl))) fun K1 hK1 => ?_
    skip
    refine bC dR rfl (fun b6 => ?_)
    (refine aO ?_)
    exact hK1 _ _ (hS1_3_5_7_8 ⟨ua, uc, ma1, mc1, ma2, mc2, ma3, mc3, ra, rc, b6, b7, ()⟩ _ _ ⟨rfl, rfl, rfl, rfl, rfl, rfl, rfl, trivial⟩ (by repeat constructor))
  refine cE (σ := Option Addr × Nat × Option Addr × Nat × Option Addr × Nat × Option Addr × Nat × Nat × Nat × Unit) (.alt (aC [4, 5] (aC [8] (aC [9, 10, 11] (.nil)))) (aC [8] (aC [4, 5] (aC [9, 10, 11] (.nil))))) (fun ⟨ua, uc, ma1, mc1, ma2, mc2, ma3, mc3, b5, b6, ()⟩ => [(2, .pointer (some ⟨b2, 0, none⟩)), (3, .pointer (some ⟨b3, 0, none⟩)), (5, .pointer (some ⟨b5, 0, none⟩)), (6, .pointer (some ⟨b6, 0, none⟩)), (38, .agg (wnC x ua uc).toArray), (40, .agg #[.slice ma1 t.need.length mc1, .slice ma2 t.make.length mc2, .slice ma3 t.loss.length mc3])]) (fun ⟨ua, uc, ma1, mc1, ma2, mc2, ma3, mc3, b5, b6, ()⟩ => [.pt b5 [.int .i64 0, .int .i64 0, .slice none 0 0] 39, .pt b6 [.slice none 0 0, .slice none 0 0, .slice none 0 0] 44, .ow (.slice ua x.days.length uc) 46 6 x.days.length (dyC x.days), .ow (.slice ma1 t.need.length mc1) 3 1 t.need.length (aP t.need), .ow (.slice ma2 t.make.length mc2) 3 1 t.make.length (aP t.make), .ow (.slice ma3 t.loss.length mc3) 3 1 t.loss.length (aP t.loss)]) ?_ (fun hS1_3_6_7 => ?_)
  ·rintro ⟨ua, uc, ma1, mc1, ma2, mc2, ma3, mc3, b5, b6, _⟩
   refine bM ?_ ?_
   ·skip
    refine aY (by repeat (first | exact PickL.nil | (apply PickL.cons; rfl))) fun K1 hK1 => ?_
    (refine aZ V Z Z Z ?_)
    refine bH (β := Option Addr × Nat) V [] _ M0 rfl rfl rfl rfl (Sp.refl _) (fun _ h => h.elim) (fun w' hs => eG w' lo hi x a c (RdE.keep h hs.chg0) (by omega)) ?_
    rintro ⟨ra, rc⟩ _ rfl
    dsimp only [List.cons_append, List.nil_append]
    (refine aO ?_)
    exact hK1 _ _ (hS1_3_5_6_7 ⟨ua, uc, ma1, mc1, ma2, mc2, ma3, mc3, ra, rc, b5, b6, ()⟩ _ _ ⟨rfl, rfl, rfl, rfl, rfl, rfl, rfl, trivial⟩ (by repeat constructor))
   ·skip
    refine aY (by repeat (first | exact PickL.nil | (apply PickL.cons; rfl))) fun K1 hK1 => ?_
    skip
    refine bC dB rfl (fun b7 => ?_)
    (refine aO ?_)
    exact hK1 _ _ (hS1_3_6_7_8 ⟨ua, uc, ma1, mc1, ma2, mc2, ma3, mc3, b5, b6, b7, ()⟩ _ _ ⟨rfl, rfl, rfl, rfl, rfl, rfl, rfl, trivial⟩ (by repeat constructor))
  refine cE (σ := Option Addr × Nat × Option Addr × Nat × Option Addr × Nat × Option Addr × Nat × Nat × Nat × Unit) (.alt (aC [4, 5] (aC [7] (aC [9, 10, 11] (.nil)))) (aC [7] (aC [4, 5] (aC [9, 10, 11] (.nil))))) (fun ⟨ua, uc, ma1, mc1, ma2, mc2, ma3, mc3, b5, b7, ()⟩ => [(2, .pointer (some ⟨b2, 0, none⟩)), (3, .pointer (some ⟨b3, 0, none⟩)), (5, .pointer (some ⟨b5, 0, none⟩)), (7, .pointer (some ⟨b7, 0, none⟩)), (38, .agg (wnC x ua uc).toArray), (40, .agg #[.slice ma1 t.need.length mc1, .slice ma2 t.make.length mc2, .slice ma3 t.loss.length mc3])]) (fun ⟨ua, uc, ma1, mc1, ma2, mc2, ma3, mc3, b5, b7, ()⟩ => [.pt b5 [.int .i64 0, .int .i64 0, .slice none 0 0] 39, .pt b7 [.int .i64 0, .int .i64 0, .slice none 0 0] 108, .ow (.slice ua x.days.length uc) 46 6 x.days.length (dyC x.days), .ow (.slice ma1 t.need.length mc1) 3 1 t.need.length (aP t.need), .ow (.slice ma2 t.make.length mc2) 3 1 t.make.length (aP t.make), .ow (.slice ma3 t.loss.length mc3) 3 1 t.loss.length (aP t.loss)]) ?_ (fun hS1_3_6_8 => ?_)
  ·rintro ⟨ua, uc, ma1, mc1, ma2, mc2, ma3, mc3, b5, b7, _⟩
   refine bM ?_ ?_
   ·skip
    refine aY (by repeat (first | exact PickL.nil | (apply PickL.cons; rfl))) fun K1 hK1 => ?_
    (refine aZ V Z Z Z ?_)
    refine bH (β := Option Addr × Nat) V [] _ M0 rfl rfl rfl rfl (Sp.refl _) (fun _ h => h.elim) (fun w' hs => eG w' lo hi x a c (RdE.keep h hs.chg0) (by omega)) ?_
    rintro ⟨ra, rc⟩ _ rfl
    dsimp only [List.cons_append, List.nil_append]
    (refine aO ?_)
    exact hK1 _ _ (hS1_3_5_6_8 ⟨ua, uc, ma1, mc1, ma2, mc2, ma3, mc3, ra, rc, b5, b7, ()⟩ _ _ ⟨rfl, rfl, rfl, rfl, rfl, rfl, rfl, trivial⟩ (by repeat constructor))
   ·skip
    refine aY (by repeat (first | exact PickL.nil | (apply PickL.cons; rfl))) fun K1 hK1 => ?_
    skip
    refine bC dR rfl (fun b6 => ?_)
    (refine aO ?_)
    exact hK1 _ _ (hS1_3_6_7_8 ⟨ua, uc, ma1, mc1, ma2, mc2, ma3, mc3, b5, b6, b7, ()⟩ _ _ ⟨rfl, rfl, rfl, rfl, rfl, rfl, rfl, trivial⟩ (by repeat constructor))
  refine cE (σ := Option Addr × Nat × Option Addr × Nat × Option Addr × Nat × Option Addr × Nat × Nat × Nat × Unit) (.alt (aC [4, 5] (aC [6] (aC [9, 10, 11] (.nil)))) (aC [6] (aC [4, 5] (aC [9, 10, 11] (.nil))))) (fun ⟨ua, uc, ma1, mc1, ma2, mc2, ma3, mc3, b6, b7, ()⟩ => [(2, .pointer (some ⟨b2, 0, none⟩)), (3, .pointer (some ⟨b3, 0, none⟩)), (6, .pointer (some ⟨b6, 0, none⟩)), (7, .pointer (some ⟨b7, 0, none⟩)), (38, .agg (wnC x ua uc).toArray), (40, .agg #[.slice ma1 t.need.length mc1, .slice ma2 t.make.length mc2, .slice ma3 t.loss.length mc3])]) (fun ⟨ua, uc, ma1, mc1, ma2, mc2, ma3, mc3, b6, b7, ()⟩ => [.pt b6 [.slice none 0 0, .slice none 0 0, .slice none 0 0] 44, .pt b7 [.int .i64 0, .int .i64 0, .slice none 0 0] 108, .ow (.slice ua x.days.length uc) 46 6 x.days.length (dyC x.days), .ow (.slice ma1 t.need.length mc1) 3 1 t.need.length (aP t.need), .ow (.slice ma2 t.make.length mc2) 3 1 t.make.length (aP t.make), .ow (.slice ma3 t.loss.length mc3) 3 1 t.loss.length (aP t.loss)]) ?_ (fun hS1_3_7_8 => ?_)
  ·rintro ⟨ua, uc, ma1, mc1, ma2, mc2, ma3, mc3, b6, b7, _⟩
   refine bM ?_ ?_
   ·skip
    refine aY (by repeat (first | exact PickL.nil | (apply PickL.cons; rfl))) fun K1 hK1 => ?_
    (refine aZ V Z Z Z ?_)
    refine bH (β := Option Addr × Nat) V [] _ M0 rfl rfl rfl rfl (Sp.refl _) (fun _ h => h.elim) (fun w' hs => eG w' lo hi x a c (RdE.keep h hs.chg0) (by omega)) ?_
    rintro ⟨ra, rc⟩ _ rfl
    dsimp only [List.cons_append, List.nil_append]
    (refine aO ?_)
    exact hK1 _ _ (hS1_3_5_7_8 ⟨ua, uc, ma1, mc1, ma2, mc2, ma3, mc3, ra, rc, b6, b7, ()⟩ _ _ ⟨rfl, rfl, rfl, rfl, rfl, rfl, rfl, trivial⟩ (by repeat constructor))
   ·skip
    refine aY (by repeat (first | exact PickL.nil | (apply PickL.cons; rfl))) fun K1 hK1 => ?_
    skip
    refine bC dQ rfl (fun b5 => ?_)
    (refine aO ?_)
    exact hK1 _ _ (hS1_3_6_7_8 ⟨ua, uc, ma1, mc1, ma2, mc2, ma3, mc3, b5, b6, b7, ()⟩ _ _ ⟨rfl, rfl, rfl, rfl, rfl, rfl, rfl, trivial⟩ (by repeat constructor))
  refine cE (σ := Option Addr × Nat × Nat × Nat × Nat × Unit) (aC [2, 3] (aC [4, 5] (aC [9, 10, 11] (.nil)))) (fun ⟨ua, uc, b5, b6, b7, ()⟩ => [(2, .pointer (some ⟨b2, 0, none⟩)), (3, .pointer (some ⟨b3, 0, none⟩)), (5, .pointer (some ⟨b5, 0, none⟩)), (6, .pointer (some ⟨b6, 0, none⟩)), (7, .pointer (some ⟨b7, 0, none⟩)), (38, .agg (wnC x ua uc).toArray)]) (fun ⟨ua, uc, b5, b6, b7, ()⟩ => [.pt b5 [.int .i64 0, .int .i64 0, .slice none 0 0] 39, .pt b6 [.slice none 0 0, .slice none 0 0, .slice none 0 0] 44, .pt b7 [.int .i64 0, .int .i64 0, .slice none 0 0] 108, .ow (.slice ua x.days.length uc) 46 6 x.days.length (dyC x.days)]) ?_ (fun hS1_6_7_8 => ?_)
  ·rintro ⟨ua, uc, b5, b6, b7, _⟩
   refine aY (by repeat (first | exact PickL.nil | (apply PickL.cons; rfl))) fun K1 hK1 => ?_
   (refine aZ V Z Z Z ?_)
   refine bH (β := Value × Value × Value) V [] _ M0 rfl rfl rfl rfl (Sp.refl _) (fun _ h => h.elim) (fun w' hs => gA w' t _ _ _ (hw.keep hs.chg0) (by omega) (by omega) (by omega)) ?_
   rintro ⟨z1, z2, z3⟩ _ rfl
   dsimp only [wtK, List.cons_append, List.nil_append]
   refine bX (fun w hs => hs.slice2 (v := z1) (by repeat constructor)) ?_
   rintro ⟨ma1, mc1, rfl⟩
   refine bX (fun w hs => hs.slice2 (v := z2) (by repeat constructor)) ?_
   rintro ⟨ma2, mc2, rfl⟩
   refine bX (fun w hs => hs.slice2 (v := z3) (by repeat constructor)) ?_
   rintro ⟨ma3, mc3, rfl⟩
   (refine aO ?_)
   exact hK1 _ _ (hS1_3_6_7_8 ⟨ua, uc, ma1, mc1, ma2, mc2, ma3, mc3, b5, b6, b7, ()⟩ _ _ ⟨rfl, rfl, rfl, rfl, rfl, rfl, rfl, trivial⟩ (by repeat constructor))
  refine cE (σ := Option Addr × Nat × Option Addr × Nat × Option Addr × Nat × Option Addr × Nat × Option Addr × Nat × Unit) (.alt (aC [6] (.alt (aC [7] (aC [8] (aC [9, 10, 11] (.nil)))) (aC [8] (aC [7] (aC [9, 10, 11] (.nil)))))) (.alt (aC [7] (.alt (aC [6] (aC [8] (aC [9, 10, 11] (.nil)))) (aC [8] (aC [6] (aC [9, 10, 11] (.nil)))))) (aC [8] (.alt (aC [6] (aC [7] (aC [9, 10, 11] (.nil)))) (aC [7] (aC [6] (aC [9, 10, 11] (.nil)))))))) (fun ⟨ua, uc, ma1, mc1, ma2, mc2, ma3, mc3, ra, rc, ()⟩ => [(2, .pointer (some ⟨b2, 0, none⟩)), (3, .pointer (some ⟨b3, 0, none⟩)), (38, .agg (wnC x ua uc).toArray), (40, .agg #[.slice ma1 t.need.length mc1, .slice ma2 t.make.length mc2, .slice ma3 t.loss.length mc3]), (42, .agg (wnC x ra rc).toArray)]) (fun ⟨ua, uc, ma1, mc1, ma2, mc2, ma3, mc3, ra, rc, ()⟩ => [.ow (.slice ua x.days.length uc) 46 6 x.days.length (dyC x.days), .ow (.slice ma1 t.need.length mc1) 3 1 t.need.length (aP t.need), .ow (.slice ma2 t.make.length mc2) 3 1 t.make.length (aP t.make), .ow (.slice ma3 t.loss.length mc3) 3 1 t.loss.length (aP t.loss), .ow (.slice ra x.days.length rc) 175 6 x.days.length (dyC x.days)]) ?_ (fun hS1_3_5 => ?_)
  ·rintro ⟨ua, uc, ma1, mc1, ma2, mc2, ma3, mc3, ra, rc, _⟩
   refine bM ?_ (bM ?_ ?_)
   ·skip
    refine aY (by repeat (first | exact PickL.nil | (apply PickL.cons; rfl))) fun K1 hK1 => ?_
    skip
    refine bC dQ rfl (fun b5 => ?_)
    (refine aO ?_)
    exact hK1 _ _ (hS1_3_5_6 ⟨ua, uc, ma1, mc1, ma2, mc2, ma3, mc3, ra, rc, b5, ()⟩ _ _ ⟨rfl, rfl, rfl, rfl, rfl, rfl, trivial⟩ (by repeat constructor))
   ·skip
    refine aY (by repeat (first | exact PickL.nil | (apply PickL.cons; rfl))) fun K1 hK1 => ?_
    skip
    refine bC dR rfl (fun b6 => ?_)
    (refine aO ?_)
    exact hK1 _ _ (hS1_3_5_7 ⟨ua, uc, ma1, mc1, ma2, mc2, ma3, mc3, ra, rc, b6, ()⟩ _ _ ⟨rfl, rfl, rfl, rfl, rfl, rfl, trivial⟩ (by repeat constructor))
   ·skip
    refine aY (by repeat (first | exact PickL.nil | (apply PickL.cons; rfl))) fun K1 hK1 => ?_
    skip
    refine bC dB rfl (fun b7 => ?_)
    (refine aO ?_)
    exact hK1 _ _ (hS1_3_5_8 ⟨ua, uc, ma1, mc1, ma2, mc2, ma3, mc3, ra, rc, b7, ()⟩ _ _ ⟨rfl, rfl, rfl, rfl, rfl, rfl, trivial⟩ (by repeat constructor))
  refine cE (σ := Option Addr × Nat × Option Addr × Nat × Option Addr × Nat × Option Addr × Nat × Nat × Unit) (.alt (aC [4, 5] (.alt (aC [7] (aC [8] (aC [9, 10, 11] (.nil)))) (aC [8] (aC [7] (aC [9, 10, 11] (.nil)))))) (.alt (aC [7] (.alt (aC [4, 5] (aC [8] (aC [9, 10, 11] (.nil)))) (aC [8] (aC [4, 5] (aC [9, 10, 11] (.nil)))))) (aC [8] (.alt (aC [4, 5] (aC [7] (aC [9, 10, 11] (.nil)))) (aC [7] (aC [4, 5] (aC [9, 10, 11] (.nil)))))))) (fun ⟨ua, uc, ma1, mc1, ma2, mc2, ma3, mc3, b5, ()⟩ => [(2, .pointer (some ⟨b2, 0, none⟩)), (3, .pointer (some ⟨b3, 0, none⟩)), (5, .pointer (some ⟨b5, 0, none⟩)), (38, .agg (wnC x ua uc).toArray), (40, .agg #[.slice ma1 t.need.length mc1, .slice ma2 t.make.length mc2, .slice ma3 t.loss.length mc3])]) (fun ⟨ua, uc, ma1, mc1, ma2, mc2, ma3, mc3, b5, ()⟩ => [.pt b5 [.int .i64 0, .int .i64 0, .slice none 0 0] 39, .ow (.slice ua x.days.length uc) 46 6 x.days.length (dyC x.days), .ow (.slice ma1 t.need.length mc1) 3 1 t.need.length (aP t.need), .ow (.slice ma2 t.make.length mc2) 3 1 t.make.length (aP t.make), .ow (.slice ma3 t.loss.length mc3) 3 1 t.loss.length (aP t.loss)]) ?_ (fun hS1_3_6 => ?_)
  ·rintro ⟨ua, uc, ma1, mc1, ma2, mc2, ma3, mc3, b5, _⟩
   refine bM ?_ (bM ?_ ?_)
   ·skip
    refine aY (by repeat (first | exact PickL.nil | (apply PickL.cons; rfl))) fun K1 hK1 => ?_
    (refine aZ V Z Z Z ?_)
    refine bH (β := Option Addr × Nat) V [] _ M0 rfl rfl rfl rfl (Sp.refl _) (fun _ h => h.elim) (fun w' hs => eG w' lo hi x a c (RdE.keep h hs.chg0) (by omega)) ?_
    rintro ⟨ra, rc⟩ _ rfl
    dsimp only [List.cons_append, List.nil_append]
    (refine aO ?_)
    exact hK1 _ _ (hS1_3_5_6 ⟨ua, uc, ma1, mc1, ma2, mc2, ma3, mc3, ra, rc, b5, ()⟩ _ _ ⟨rfl, rfl, rfl, rfl, rfl, rfl, trivial⟩ (by repeat constructor))
   ·skip
    refine aY (by repeat (first | exact PickL.nil | (apply PickL.cons; rfl))) fun K1 hK1 => ?_
    skip
    refine bC dR rfl (fun b6 => ?_)
    (refine aO ?_)
    exact hK1 _ _ (hS1_3_6_7 ⟨ua, uc, ma1, mc1, ma2, mc2, ma3, mc3, b5, b6, ()⟩ _ _ ⟨rfl, rfl, rfl, rfl, rfl, rfl, trivial⟩ (by repeat constructor))
   ·skip
    refine aY (by repeat (first | exact PickL.nil | (apply PickL.cons; rfl))) fun K1 hK1 => ?_
    skip
    refine bC dB rfl (fun b7 => ?_)
    (refine aO ?_)
    exact hK1 _ _ (hS1_3_6_8 ⟨ua, uc, ma1, mc1, ma2, mc2, ma3, mc3, b5, b7, ()⟩ _ _ ⟨rfl, rfl, rfl, rfl, rfl, rfl, trivial⟩ (by repeat constructor))
  refine cE (σ := Option Addr × Nat × Option Addr × Nat × Option Addr × Nat × Option Addr × Nat × Nat × Unit) (.alt (aC [4, 5] (.alt (aC [6] (aC [8] (aC [9, 10, 11] (.nil)))) (aC [8] (aC [6] (aC [9, 10, 11] (.nil)))))) (.alt (aC [6] (.alt (aC [4, 5] (aC [8] (aC [9, 10, 11] (.nil)))) (aC [8] (aC [4, 5] (aC [9, 10, 11] (.nil)))))) (aC [8] (.alt (aC [4, 5] (aC [6] (aC [9, 10, 11] (.nil)))) (aC [6] (aC [4, 5] (aC [9, 10, 11] (.nil)))))))) (fun ⟨ua, uc, ma1, mc1, ma2, mc2, ma3, mc3, b6, ()⟩ => [(2, .pointer (some ⟨b2, 0, none⟩)), (3, .pointer (some ⟨b3, 0, none⟩)), (6, .pointer (some ⟨b6, 0, none⟩)), (38, .agg (wnC x ua uc).toArray), (40, .agg #[.slice ma1 t.need.length mc1, .slice ma2 t.make.length mc2, .slice ma3 t.loss.length mc3])]) (fun ⟨ua, uc, ma1, mc1, ma2, mc2, ma3, mc3, b6, ()⟩ => [.pt b6 [.slice none 0 0, .slice none 0 0, .slice none 0 0] 44, .ow (.slice ua x.days.length uc) 46 6 x.days.length (dyC x.days), .ow (.slice ma1 t.need.length mc1) 3 1 t.need.length (aP t.need), .ow (.slice ma2 t.make.length mc2) 3 1 t.make.length (aP t.make), .ow (.slice ma3 t.loss.length mc3) 3 1 t.loss.length (aP t.loss)]) ?_ (fun hS1_3_7 => ?_)
  ·rintro ⟨ua, uc, ma1, mc1, ma2, mc2, ma3, mc3, b6, _⟩
   refine bM ?_ (bM ?_ ?_)
   ·skip
    refine aY (by repeat (first | exact PickL.nil | (apply PickL.cons; rfl))) fun K1 hK1 => ?_
    (refine aZ V Z Z Z ?_)
    refine bH (β := Option Addr × Nat) V [] _ M0 rfl rfl rfl rfl (Sp.refl _) (fun _ h => h.elim) (fun w' hs => eG w' lo hi x a c (RdE.keep h hs.chg0) (by omega)) ?_
    rintro ⟨ra, rc⟩ _ rfl
    dsimp only [List.cons_append, List.nil_append]
    (refine aO ?_)
    exact hK1 _ _ (hS1_3_5_7 ⟨ua, uc, ma1, mc1, ma2, mc2, ma3, mc3, ra, rc, b6, ()⟩ _ _ ⟨rfl, rfl, rfl, rfl, rfl, rfl, trivial⟩ (by repeat constructor))
   ·skip
    refine aY (by repeat (first | exact PickL.nil | (apply PickL.cons; rfl))) fun K1 hK1 => ?_
    skip
    refine bC dQ rfl (fun b5 => ?_)
    (refine aO ?_)
    exact hK1 _ _ (hS1_3_6_7 ⟨ua, uc, ma1, mc1, ma2, mc2, ma3, mc3, b5, b6, ()⟩ _ _ ⟨rfl, rfl, rfl, rfl, rfl, rfl, trivial⟩ (by repeat constructor))
   ·skip
    refine aY (by repeat (first | exact PickL.nil | (apply PickL.cons; rfl))) fun K1 hK1 => ?_
    skip
    refine bC dB rfl (fun b7 => ?_)
    (refine aO ?_)
    exact hK1 _ _ (hS1_3_7_8 ⟨ua, uc, ma1, mc1, ma2, mc2, ma3, mc3, b6, b7, ()⟩ _ _ ⟨rfl, rfl, rfl, rfl, rfl, rfl, trivial⟩ (by repeat constructor))
  refine cE (σ := Option Addr × Nat × Option Addr × Nat × Option Addr × Nat × Option Addr × Nat × Nat × Unit) (.alt (aC [4, 5] (.alt (aC [6] (aC [7] (aC [9, 10, 11] (.nil)))) (aC [7] (aC [6] (aC [9, 10, 11] (.nil)))))) (.alt (aC [6] (.alt (aC [4, 5] (aC [7] (aC [9, 10, 11] (.nil)))) (aC [7] (aC [4, 5] (aC [9, 10, 11] (.nil)))))) (aC [7] (.alt (aC [4, 5] (aC [6] (aC [9, 10, 11] (.nil)))) (aC [6] (aC [4, 5] (aC [9, 10, 11] (.nil)))))))) (fun ⟨ua, uc, ma1, mc1, ma2, mc2, ma3, mc3, b7, ()⟩ => [(2, .pointer (some ⟨b2, 0, none⟩)), (3, .pointer (some ⟨b3, 0, none⟩)), (7, .pointer (some ⟨b7, 0, none⟩)), (38, .agg (wnC x ua uc).toArray), (40, .agg #[.slice ma1 t.need.length mc1, .slice ma2 t.make.length mc2, .slice ma3 t.loss.length mc3])]) (fun ⟨ua, uc, ma1, mc1, ma2, mc2, ma3, mc3, b7, ()⟩ => [.pt b7 [.int .i64 0, .int .i64 0, .slice none 0 0] 108, .ow (.slice ua x.days.length uc) 46 6 x.days.length (dyC x.days), .ow (.slice ma1 t.need.length mc1) 3 1 t.need.length (aP t.need), .ow (.slice ma2 t.make.length mc2) 3 1 t.make.length (aP t.make), .ow (.slice ma3 t.loss.length mc3) 3 1 t.loss.length (aP t.loss)]) ?_ (fun hS1_3_8 => ?_)
  ·rintro ⟨ua, uc, ma1, mc1, ma2, mc2, ma3, mc3, b7, _⟩
   refine bM ?_ (bM ?_ ?_)
   ·skip
    refine aY (by repeat (first | exact PickL.nil | (apply PickL.cons; rfl))) fun K1 hK1 => ?_
    (refine aZ V Z Z Z ?_)
    refine bH (β := Option Addr × Nat) V [] _ M0 rfl rfl rfl rfl (Sp.refl _) (fun _ h => h.elim) (fun w' hs => eG w' lo hi x a c (RdE.keep h hs.chg0) (by omega)) ?_
    rintro ⟨ra, rc⟩ _ rfl
    dsimp only [List.cons_append, List.nil_append]
    (refine aO ?_)
    exact hK1 _ _ (hS1_3_5_8 ⟨ua, uc, ma1, mc1, ma2, mc2, ma3, mc3, ra, rc, b7, ()⟩ _ _ ⟨rfl, rfl, rfl, rfl, rfl, rfl, trivial⟩ (by repeat constructor))
   ·skip
    refine aY (by repeat (first | exact PickL.nil | (apply PickL.cons; rfl))) fun K1 hK1 => ?_
    skip
    refine bC dQ rfl (fun b5 => ?_)
    (refine aO ?_)
    exact hK1 _ _ (hS1_3_6_8 ⟨ua, uc, ma1, mc1, ma2, mc2, ma3, mc3, b5, b7, ()⟩ _ _ ⟨rfl, rfl, rfl, rfl, rfl, rfl, trivial⟩ (by repeat constructor))
   ·skip
    refine aY (by repeat (first | exact PickL.nil | (apply PickL.cons; rfl))) fun K1 hK1 => ?_
    skip
    refine bC dR rfl (fun b6 => ?_)
    (refine aO ?_)
    exact hK1 _ _ (hS1_3_7_8 ⟨ua, uc, ma1, mc1, ma2, mc2, ma3, mc3, b6, b7, ()⟩ _ _ ⟨rfl, rfl, rfl, rfl, rfl, rfl, trivial⟩ (by repeat constructor))
  refine cE (σ := Option Addr × Nat × Nat × Nat × Unit) (.alt (aC [2, 3] (.alt (aC [4, 5] (aC [8] (aC [9, 10, 11] (.nil)))) (aC [8] (aC [4, 5] (aC [9, 10, 11] (.nil)))))) (aC [8] (aC [2, 3] (aC [4, 5] (aC [9, 10, 11] (.nil)))))) (fun ⟨ua, uc, b5, b6, ()⟩ => [(2, .pointer (some ⟨b2, 0, none⟩)), (3, .pointer (some ⟨b3, 0, none⟩)), (5, .pointer (some ⟨b5, 0, none⟩)), (6, .pointer (some ⟨b6, 0, none⟩)), (38, .agg (wnC x ua uc).toArray)]) (fun ⟨ua, uc, b5, b6, ()⟩ => [.pt b5 [.int .i64 0, .int .i64 0, .slice none 0 0] 39, .pt b6 [.slice none 0 0, .slice none 0 0, .slice none 0 0] 44, .ow (.slice ua x.days.length uc) 46 6 x.days.length (dyC x.days)]) ?_ (fun hS1_6_7 => ?_)
  ·rintro ⟨ua, uc, b5, b6, _⟩
   refine bM ?_ ?_
   ·skip
    refine aY (by repeat (first | exact PickL.nil | (apply PickL.cons; rfl))) fun K1 hK1 => ?_
    (refine aZ V Z Z Z ?_)
    refine bH (β := Value × Value × Value) V [] _ M0 rfl rfl rfl rfl (Sp.refl _) (fun _ h => h.elim) (fun w' hs => gA w' t _ _ _ (hw.keep hs.chg0) (by omega) (by omega) (by omega)) ?_
    rintro ⟨z1, z2, z3⟩ _ rfl
    dsimp only [wtK, List.cons_append, List.nil_append]
    refine bX (fun w hs => hs.slice2 (v := z1) (by repeat constructor)) ?_
    rintro ⟨ma1, mc1, rfl⟩
    refine bX (fun w hs => hs.slice2 (v := z2) (by repeat constructor)) ?_
    rintro ⟨ma2, mc2, rfl⟩
    refine bX (fun w hs => hs.slice2 (v := z3) (by repeat constructor)) ?_
    rintro ⟨ma3, mc3, rfl⟩
    (refine aO ?_)
    exact hK1 _ _ (hS1_3_6_7 ⟨ua, uc, ma1, mc1, ma2, mc2, ma3, mc3, b5, b6, ()⟩ _ _ ⟨rfl, rfl, rfl, rfl, rfl, rfl, trivial⟩ (by repeat constructor))
   ·skip
    refine aY (by repeat (first | exact PickL.nil | (apply PickL.cons; rfl))) fun K1 hK1 => ?_
    skip
    refine bC dB rfl (fun b7 => ?_)
    (refine aO ?_)
    exact hK1 _ _ (hS1_6_7_8 ⟨ua, uc, b5, b6, b7, ()⟩ _ _ ⟨rfl, rfl, rfl, rfl, rfl, rfl, trivial⟩ (by repeat constructor))
  refine cE (σ := Option Addr × Nat × Nat × Nat × Unit) (.alt (aC [2, 3] (.alt (aC [4, 5] (aC [7] (aC [9, 10, 11] (.nil)))) (aC [7] (aC [4, 5] (aC [9, 10, 11] (.nil)))))) (aC [7] (aC [2, 3] (aC [4, 5] (aC [9, 10, 11] (.nil)))))) (fun ⟨ua, uc, b5, b7, ()⟩ => [(2, .pointer (some ⟨b2, 0, none⟩)), (3, .pointer (some ⟨b3, 0, none⟩)), (5, .pointer (some ⟨b5, 0, none⟩)), (7, .pointer (some ⟨b7, 0, none⟩)), (38, .agg (wnC x ua uc).toArray)]) (fun ⟨ua, uc, b5, b7, ()⟩ => [.pt b5 [.int .i64 0, .int .i64 0, .slice none 0 0] 39, .pt b7 [.int .i64 0, .int .i64 0, .slice none 0 0] 108, .ow (.slice ua x.days.length uc) 46 6 x.days.length (dyC x.days)]) ?_ (fun hS1_6_8 => ?_)
  ·rintro ⟨ua, uc, b5, b7, _⟩
   refine bM ?_ ?_
   ·skip
    refine aY (by repeat (first | exact PickL.nil | (apply PickL.cons; rfl))) fun K1 hK1 => ?_
    (refine aZ V Z Z Z ?_)
    refine bH (β := Value × Value × Value) V [] _ M0 rfl rfl rfl rfl (Sp.refl _) (fun _ h => h.elim) (fun w' hs => gA w' t _ _ _ (hw.keep hs.chg0) (by omega) (by omega) (by omega)) ?_
    rintro ⟨z1, z2, z3⟩ _ rfl
    dsimp only [wtK, List.cons_append, List.nil_append]
    refine bX (fun w hs => hs.slice2 (v := z1) (by repeat constructor)) ?_
    rintro ⟨ma1, mc1, rfl⟩
    refine bX (fun w hs => hs.slice2 (v := z2) (by repeat constructor)) ?_
    rintro ⟨ma2, mc2, rfl⟩
    refine bX (fun w hs => hs.slice2 (v := z3) (by repeat constructor)) ?_
    rintro ⟨ma3, mc3, rfl⟩
    (refine aO ?_)
    exact hK1 _ _ (hS1_3_6_8 ⟨ua, uc, ma1, mc1, ma2, mc2, ma3, mc3, b5, b7, ()⟩ _ _ ⟨rfl, rfl, rfl, rfl, rfl, rfl, trivial⟩ (by repeat constructor))
   ·skip
    refine aY (by repeat (first | exact PickL.nil | (apply PickL.cons; rfl))) fun K1 hK1 => ?_
    skip
    refine bC dR rfl (fun b6 => ?_)
    (refine aO ?_)
    exact hK1 _ _ (hS1_6_7_8 ⟨ua, uc, b5, b6, b7, ()⟩ _ _ ⟨rfl, rfl, rfl, rfl, rfl, rfl, trivial⟩ (by repeat constructor))
  refine cE (σ := Option Addr × Nat × Nat × Nat × Unit) (.alt (aC [2, 3] (.alt (aC [4, 5] (aC [6] (aC [9, 10, 11] (.nil)))) (aC [6] (aC [4, 5] (aC [9, 10, 11] (.nil)))))) (aC [6] (aC [2, 3] (aC [4, 5] (aC [9, 10, 11] (.nil)))))) (fun ⟨ua, uc, b6, b7, ()⟩ => [(2, .pointer (some ⟨b2, 0, none⟩)), (3, .pointer (some ⟨b3, 0, none⟩)), (6, .pointer (some ⟨b6, 0, none⟩)), (7, .pointer (some ⟨b7, 0, none⟩)), (38, .agg (wnC x ua uc).toArray)]) (fun ⟨ua, uc, b6, b7, ()⟩ => [.pt b6 [.slice none 0 0, .slice none 0 0, .slice none 0 0] 44, .pt b7 [.int .i64 0, .int .i64 0, .slice none 0 0] 108, .ow (.slice ua x.days.length uc) 46 6 x.days.length (dyC x.days)]) ?_ (fun hS1_7_8 => ?_)
  ·rintro ⟨ua, uc, b6, b7, _⟩
   refine bM ?_ ?_
   ·skip
    refine aY (by repeat (first | exact PickL.nil | (apply PickL.cons; rfl))) fun K1 hK1 => ?_
    (refine aZ V Z Z Z ?_)
    refine bH (β := Value × Value × Value) V [] _ M0 rfl rfl rfl rfl (Sp.refl _) (fun _ h => h.elim) (fun w' hs => gA w' t _ _ _ (hw.keep hs.chg0) (by omega) (by omega) (by omega)) ?_
    rintro ⟨z1, z2, z3⟩ _ rfl
    dsimp only [wtK, List.cons_append, List.nil_append]
    refine bX (fun w hs => hs.slice2 (v := z1) (by repeat constructor)) ?_
    rintro ⟨ma1, mc1, rfl⟩
    refine bX (fun w hs => hs.slice2 (v := z2) (by repeat constructor)) ?_
    rintro ⟨ma2, mc2, rfl⟩
    refine bX (fun w hs => hs.slice2 (v := z3) (by repeat constructor)) ?_
    rintro ⟨ma3, mc3, rfl⟩
    (refine aO ?_)
    exact hK1 _ _ (hS1_3_7_8 ⟨ua, uc, ma1, mc1, ma2, mc2, ma3, mc3, b6, b7, ()⟩ _ _ ⟨rfl, rfl, rfl, rfl, rfl, rfl, trivial⟩ (by repeat constructor))
   ·skip
    refine aY (by repeat (first | exact PickL.nil | (apply PickL.cons; rfl))) fun K1 hK1 => ?_
    skip
    refine bC dQ rfl (fun b5 => ?_)
    (refine aO ?_)
    exact hK1 _ _ (hS1_6_7_8 ⟨ua, uc, b5, b6, b7, ()⟩ _ _ ⟨rfl, rfl, rfl, rfl, rfl, rfl, trivial⟩ (by repeat constructor))
  refine cE (σ := Nat × Nat × Nat × Unit) (aC [0, 1] (aC [2, 3] (aC [4, 5] (aC [9, 10, 11] (.nil))))) (fun ⟨b5, b6, b7, ()⟩ => [(2, .pointer (some ⟨b2, 0, none⟩)), (3, .pointer (some ⟨b3, 0, none⟩)), (5, .pointer (some ⟨b5, 0, none⟩)), (6, .pointer (some ⟨b6, 0, none⟩)), (7, .pointer (some ⟨b7, 0, none⟩))]) (fun ⟨b5, b6, b7, ()⟩ => [.pt b5 [.int .i64 0, .int .i64 0, .slice none 0 0] 39, .pt b6 [.slice none 0 0, .slice none 0 0, .slice none 0 0] 44, .pt b7 [.int .i64 0, .int .i64 0, .slice none 0 0] 108]) ?_ (fun hS6_7_8 => ?_)
  ·rintro ⟨b5, b6, b7, _⟩
   refine aY (by repeat (first | exact PickL.nil | (apply PickL.cons; rfl))) fun K1 hK1 => ?_
   (refine aZ V Z Z Z ?_)
   refine bH (β := Option Addr × Nat) V [] _ M0 rfl rfl rfl rfl (Sp.refl _) (fun _ h => h.elim) (fun w' hs => dY w' lo hi x a c (RdE.keep h hs.chg0) (by omega)) ?_
   rintro ⟨ua, uc⟩ _ rfl
   dsimp only [List.cons_append, List.nil_append]
   (refine aO ?_)
   exact hK1 _ _ (hS1_6_7_8 ⟨ua, uc, b5, b6, b7, ()⟩ _ _ ⟨rfl, rfl, rfl, rfl, rfl, rfl, trivial⟩ (by repeat constructor))
  refine cE (σ := Option Addr × Nat × Option Addr × Nat × Option Addr × Nat × Option Addr × Nat × Unit) (.alt (aC [4, 5] (.alt (aC [6] (.alt (aC [7] (aC [8] (aC [9, 10, 11] (.nil)))) (aC [8] (aC [7] (aC [9, 10, 11] (.nil)))))) (.alt (aC [7] (.alt (aC [6] (aC [8] (aC [9, 10, 11] (.nil)))) (aC [8] (aC [6] (aC [9, 10, 11] (.nil)))))) (aC [8] (.alt (aC [6] (aC [7] (aC [9, 10, 11] (.nil)))) (aC [7] (aC [6] (aC [9, 10, 11] (.nil))))))))) (.alt (aC [6] (.alt (aC [4, 5] (.alt (aC [7] (aC [8] (aC [9, 10, 11] (.nil)))) (aC [8] (aC [7] (aC [9, 10, 11] (.nil)))))) (.alt (aC [7] (.alt (aC [4, 5] (aC [8] (aC [9, 10, 11] (.nil)))) (aC [8] (aC [4, 5] (aC [9, 10, 11] (.nil)))))) (aC [8] (.alt (aC [4, 5] (aC [7] (aC [9, 10, 11] (.nil)))) (aC [7] (aC [4, 5] (aC [9, 10, 11] (.nil))))))))) (.alt (aC [7] (.alt (aC [4, 5] (.alt (aC [6] (aC [8] (aC [9, 10, 11] (.nil)))) (aC [8] (aC [6] (aC [9, 10, 11] (.nil)))))) (.alt (aC [6] (.alt (aC [4, 5] (aC [8] (aC [9, 10, 11] (.nil)))) (aC [8] (aC [4, 5] (aC [9, 10, 11] (.nil)))))) (aC [8] (.alt (aC [4, 5] (aC [6] (aC [9, 10, 11] (.nil)))) (aC [6] (aC [4, 5] (aC [9, 10, 11] (.nil))))))))) (aC [8] (.alt (aC [4, 5] (.alt (aC [6] (aC [7] (aC [9, 10, 11] (.nil)))) (aC [7] (aC [6] (aC [9, 10, 11] (.nil)))))) (.alt (aC [6] (.alt (aC [4, 5] (aC [7] (aC [9, 10, 11] (.nil)))) (aC [7] (aC [4, 5] (aC [9, 10, 11] (.nil)))))) (aC [7] (.alt (aC [4, 5] (aC [6] (aC [9, 10, 11] (.nil)))) (aC [6] (aC [4, 5] (aC [9, 10, 11] (.nil)))))))))))) (fun ⟨ua, uc, ma1, mc1, ma2, mc2, ma3, mc3, ()⟩ => [(2, .pointer (some ⟨b2, 0, none⟩)), (3, .pointer (some ⟨b3, 0, none⟩)), (38, .agg (wnC x ua uc).toArray), (40, .agg #[.slice ma1 t.need.length mc1, .slice ma2 t.make.length mc2, .slice ma3 t.loss.length mc3])]) (fun ⟨ua, uc, ma1, mc1, ma2, mc2, ma3, mc3, ()⟩ => [.ow (.slice ua x.days.length uc) 46 6 x.days.length (dyC x.days), .ow (.slice ma1 t.need.length mc1) 3 1 t.need.length (aP t.need), .ow (.slice ma2 t.make.length mc2) 3 1 t.make.length (aP t.make), .ow (.slice ma3 t.loss.length mc3) 3 1 t.loss.length (aP t.loss)]) ?_ (fun hS1_3 => ?_)
  ·rintro ⟨ua, uc, ma1, mc1, ma2, mc2, ma3, mc3, _⟩
   refine bM ?_ (bM ?_ (bM ?_ ?_))
   ·skip
    refine aY (by repeat (first | exact PickL.nil | (apply PickL.cons; rfl))) fun K1 hK1 => ?_
    (refine aZ V Z Z Z ?_)
    refine bH (β := Option Addr × Nat) V [] _ M0 rfl rfl rfl rfl (Sp.refl _) (fun _ h => h.elim) (fun w' hs => eG w' lo hi x a c (RdE.keep h hs.chg0) (by omega)) ?_
    rintro ⟨ra, rc⟩ _ rfl
    dsimp only [List.cons_append, List.nil_append]
    (refine aO ?_)
    exact hK1 _ _ (hS1_3_5 ⟨ua, uc, ma1, mc1, ma2, mc2, ma3, mc3, ra, rc, ()⟩ _ _ ⟨rfl, rfl, rfl, rfl, rfl, trivial⟩ (by repeat constructor))
   ·skip
    refine aY (by repeat (first | exact PickL.nil | (apply PickL.cons; rfl))) fun K1 hK1 => ?_
    skip
    refine bC dQ rfl (fun b5 => ?_)
    (refine aO ?_)
    exact hK1 _ _ (hS1_3_6 ⟨ua, uc, ma1, mc1, ma2, mc2, ma3, mc3, b5, ()⟩ _ _ ⟨rfl, rfl, rfl, rfl, rfl, trivial⟩ (by repeat constructor))
   ·skip
    refine aY (by repeat (first | exact PickL.nil | (apply PickL.cons; rfl))) fun K1 hK1 => ?_
    skip
    refine bC dR rfl (fun b6 => ?_)
    (refine aO ?_)
    exact hK1 _ _ (hS1_3_7 ⟨ua, uc, ma1, mc1, ma2, mc2, ma3, mc3, b6, ()⟩ _ _ ⟨rfl, rfl, rfl, rfl, rfl, trivial⟩ (by repeat constructor))
   ·skip
    refine aY (by repeat (first | exact PickL.nil | (apply PickL.cons; rfl))) fun K1 hK1 => ?_
    skip
    refine bC dB rfl (fun b7 => ?_)
    (refine aO ?_)
    exact hK1 _ _ (hS1_3_8 ⟨ua, uc, ma1, mc1, ma2, mc2, ma3, mc3, b7, ()⟩ _ _ ⟨rfl, rfl, rfl, rfl, rfl, trivial⟩ (by repeat constructor))
  refine cE (σ := Option Addr × Nat × Nat × Unit) (.alt (aC [2, 3] (.alt (aC [4, 5] (.alt (aC [7] (aC [8] (aC [9, 10, 11] (.nil)))) (aC [8] (aC [7] (aC [9, 10, 11] (.nil)))))) (.alt (aC [7] (.alt (aC [4, 5] (aC [8] (aC [9, 10, 11] (.nil)))) (aC [8] (aC [4, 5] (aC [9, 10, 11] (.nil)))))) (aC [8] (.alt (aC [4, 5] (aC [7] (aC [9, 10, 11] (.nil)))) (aC [7] (aC [4, 5] (aC [9, 10, 11] (.nil))))))))) (.alt (aC [7] (.alt (aC [2, 3] (.alt (aC [4, 5] (aC [8] (aC [9, 10, 11] (.nil)))) (aC [8] (aC [4, 5] (aC [9, 10, 11] (.nil)))))) (aC [8] (aC [2, 3] (aC [4, 5] (aC [9, 10, 11] (.nil))))))) (aC [8] (.alt (aC [2, 3] (.alt (aC [4, 5] (aC [7] (aC [9, 10, 11] (.nil)))) (aC [7] (aC [4, 5] (aC [9, 10, 11] (.nil)))))) (aC [7] (aC [2, 3] (aC [4, 5] (aC [9, 10, 11] (.nil))))))))) (fun ⟨ua, uc, b5, ()⟩ => [(2, .pointer (some ⟨b2, 0, none⟩)), (3, .pointer (some ⟨b3, 0, none⟩)), (5, .pointer (some ⟨b5, 0, none⟩)), (38, .agg (wnC x ua uc).toArray)]) (fun ⟨ua, uc, b5, ()⟩ => [.pt b5 [.int .i64 0, .int .i64 0, .slice none 0 0] 39, .ow (.slice ua x.days.length uc) 46 6 x.days.length (dyC x.days)]) ?_ (fun hS1_6 => ?_)
  ·rintro ⟨ua, uc, b5, _⟩
   refine bM ?_ (bM ?_ ?_)
   ·skip
    refine aY (by repeat (first | exact PickL.nil | (apply PickL.cons; rfl))) fun K1 hK1 => ?_
    (refine aZ V Z Z Z ?_)
    refine bH (β := Value × Value × Value) V [] _ M0 rfl rfl rfl rfl (Sp.refl _) (fun _ h => h.elim) (fun w' hs => gA w' t _ _ _ (hw.keep hs.chg0) (by omega) (by omega) (by omega)) ?_
    rintro ⟨z1, z2, z3⟩ _ rfl
    dsimp only [wtK, List.cons_append, List.nil_append]
    refine bX (fun w hs => hs.slice2 (v := z1) (by repeat constructor)) ?_
    rintro ⟨ma1, mc1, rfl⟩
    refine bX (fun w hs => hs.slice2 (v := z2) (by repeat constructor)) ?_
    rintro ⟨ma2, mc2, rfl⟩
    refine bX (fun w hs => hs.slice2 (v := z3) (by repeat constructor)) ?_
    rintro ⟨ma3, mc3, rfl⟩
    (refine aO ?_)
    exact hK1 _ _ (hS1_3_6 ⟨ua, uc, ma1, mc1, ma2, mc2, ma3, mc3, b5, ()⟩ _ _ ⟨rfl, rfl, rfl, rfl, rfl, trivial⟩ (by repeat constructor))
   ·skip
    refine aY (by repeat (first | exact PickL.nil | (apply PickL.cons; rfl))) fun K1 hK1 => ?_
    skip
    refine bC dR rfl (fun b6 => ?_)
    (refine aO ?_)
    exact hK1 _ _ (hS1_6_7 ⟨ua, uc, b5, b6, ()⟩ _ _ ⟨rfl, rfl, rfl, rfl, rfl, trivial⟩ (by repeat constructor))
   ·skip
    refine aY (by repeat (first | exact PickL.nil | (apply PickL.cons; rfl))) fun K1 hK1 => ?_
    skip
    refine bC dB rfl (fun b7 => ?_)
    (refine aO ?_)
    exact hK1 _ _ (hS1_6_8 ⟨ua, uc, b5, b7, ()⟩ _ _ ⟨rfl, rfl, rfl, rfl, rfl, trivial⟩ (by repeat constructor))
  refine cE (σ := Option Addr × Nat × Nat × Unit) (.alt (aC [2, 3] (.alt (aC [4, 5] (.alt (aC [6] (aC [8] (aC [9, 10, 11] (.nil)))) (aC [8] (aC [6] (aC [9, 10, 11] (.nil)))))) (.alt (aC [6] (.alt (aC [4, 5] (aC [8] (aC [9, 10, 11] (.nil)))) (aC [8] (aC [4, 5] (aC [9, 10, 11] (.nil)))))) (aC [8] (.alt (aC [4, 5] (aC [6] (aC [9, 10, 11] (.nil)))) (aC [6] (aC [4, 5] (aC [9, 10, 11] (.nil))))))))) (.alt (aC [6] (.alt (aC [2, 3] (.alt (aC [4, 5] (aC [8] (aC [9, 10, 11] (.nil)))) (aC [8] (aC [4, 5] (aC [9, 10, 11] (.nil)))))) (aC [8] (aC [2, 3] (aC [4, 5] (aC [9, 10, 11] (.nil))))))) (aC [8] (.alt (aC [2, 3] (.alt (aC [4, 5] (aC [6] (aC [9, 10, 11] (.nil)))) (aC [6] (aC [4, 5] (aC [9, 10, 11] (.nil)))))) (aC [6] (aC [2, 3] (aC [4, 5] (aC [9, 10, 11] (.nil))))))))) (fun ⟨ua, uc, b6, ()⟩ => [(2, .pointer (some ⟨b2, 0, none⟩)), (3, .pointer (some ⟨b3, 0, none⟩)), (6, .pointer (some ⟨b6, 0, none⟩)), (38, .agg (wnC x ua uc).toArray)]) (fun ⟨ua, uc, b6, ()⟩ => [.pt b6 [.slice none 0 0, .slice none 0 0, .slice none 0 0] 44, .ow (.slice ua x.days.length uc) 46 6 x.days.length (dyC x.days)]) ?_ (fun hS1_7 => ?_)
  ·rintro ⟨ua, uc, b6, _⟩
   refine bM ?_ (bM ?_ ?_)
   ·skip
    refine aY (by repeat (first | exact PickL.nil | (apply PickL.cons; rfl))) fun K1 hK1 => ?_
    (refine aZ V Z Z Z ?_)
    refine bH (β := Value × Value × Value) V [] _ M0 rfl rfl rfl rfl (Sp.refl _) (fun _ h => h.elim) (fun w' hs => gA w' t _ _ _ (hw.keep hs.chg0) (by omega) (by omega) (by omega)) ?_
    rintro ⟨z1, z2, z3⟩ _ rfl
    dsimp only [wtK, List.cons_append, List.nil_append]
    refine bX (fun w hs => hs.slice2 (v := z1) (by repeat constructor)) ?_
    rintro ⟨ma1, mc1, rfl⟩
    refine bX (fun w hs => hs.slice2 (v := z2) (by repeat constructor)) ?_
    rintro ⟨ma2, mc2, rfl⟩
    refine bX (fun w hs => hs.slice2 (v := z3) (by repeat constructor)) ?_
    rintro ⟨ma3, mc3, rfl⟩
    (refine aO ?_)
    exact hK1 _ _ (hS1_3_7 ⟨ua, uc, ma1, mc1, ma2, mc2, ma3, mc3, b6, ()⟩ _ _ ⟨rfl, rfl, rfl, rfl, rfl, trivial⟩ (by repeat constructor))
   ·skip
    refine aY (by repeat (first | exact PickL.nil | (apply PickL.cons; rfl))) fun K1 hK1 => ?_
    skip
    refine bC dQ rfl (fun b5 => ?_)
    (refine aO ?_)
    exact hK1 _ _ (hS1_6_7 ⟨ua, uc, b5, b6, ()⟩ _ _ ⟨rfl, rfl, rfl, rfl, rfl, trivial⟩ (by repeat constructor))
   ·skip
    refine aY (by repeat (first | exact PickL.nil | (apply PickL.cons; rfl))) fun K1 hK1 => ?_
    skip
    refine bC dB rfl (fun b7 => ?_)
    (refine aO ?_)
    exact hK1 _ _ (hS1_7_8 ⟨ua, uc, b6, b7, ()⟩ _ _ ⟨rfl, rfl, rfl, rfl, rfl, trivial⟩ (by repeat constructor))
  refine cE (σ := Option Addr × Nat × Nat × Unit) (.alt (aC [2, 3] (.alt (aC [4, 5] (.alt (aC [6] (aC [7] (aC [9, 10, 11] (.nil)))) (aC [7] (aC [6] (aC [9, 10, 11] (.nil)))))) (.alt (aC [6] (.alt (aC [4, 5] (aC [7] (aC [9, 10, 11] (.nil)))) (aC [7] (aC [4, 5] (aC [9, 10, 11] (.nil)))))) (aC [7] (.alt (aC [4, 5] (aC [6] (aC [9, 10, 11] (.nil)))) (aC [6] (aC [4, 5] (aC [9, 10, 11] (.nil))))))))) (.alt (aC [6] (.alt (aC [2, 3] (.alt (aC [4, 5] (aC [7] (aC [9, 10, 11] (.nil)))) (aC [7] (aC [4, 5] (aC [9, 10, 11] (.nil)))))) (aC [7] (aC [2, 3] (aC [4, 5] (aC [9, 10, 11] (.nil))))))) (aC [7] (.alt (aC [2, 3] (.alt (aC [4, 5] (aC [6] (aC [9, 10, 11] (.nil)))) (aC [6] (aC [4, 5] (aC [9, 10, 11] (.nil)))))) (aC [6] (aC [2, 3] (aC [4, 5] (aC [9, 10, 11] (.nil))))))))) (fun ⟨ua, uc, b7, ()⟩ => [(2, .pointer (some ⟨b2, 0, none⟩)), (3, .pointer (some ⟨b3, 0, none⟩)), (7, .pointer (some ⟨b7, 0, none⟩)), (38, .agg (wnC x ua uc).toArray)]) (fun ⟨ua, uc, b7, ()⟩ => [.pt b7 [.int .i64 0, .int .i64 0, .slice none 0 0] 108, .ow (.slice ua x.days.length uc) 46 6 x.days.length (dyC x.days)]) ?_ (fun hS1_8 => ?_)
  ·rintro ⟨ua, uc, b7, _⟩
   refine bM ?_ (bM ?_ ?_)
   ·skip
    refine aY (by repeat (first | exact PickL.nil | (apply PickL.cons; rfl))) fun K1 hK1 => ?_
    (refine aZ V Z Z Z ?_)
    refine bH (β := Value × Value × Value) V [] _ M0 rfl rfl rfl rfl (Sp.refl _) (fun _ h => h.elim) (fun w' hs => gA w' t _ _ _ (hw.keep hs.chg0) (by omega) (by omega) (by omega)) ?_
    rintro ⟨z1, z2, z3⟩ _ rfl
    dsimp only [wtK, List.cons_append, List.nil_append]
    refine bX (fun w hs => hs.slice2 (v := z1) (by repeat constructor)) ?_
    rintro ⟨ma1, mc1, rfl⟩
    refine bX (fun w hs => hs.slice2 (v := z2) (by repeat constructor)) ?_
    rintro ⟨ma2, mc2, rfl⟩
    refine bX (fun w hs => hs.slice2 (v := z3) (by repeat constructor)) ?_
    rintro ⟨ma3, mc3, rfl⟩
    (refine aO ?_)
    exact hK1 _ _ (hS1_3_8 ⟨ua, uc, ma1, mc1, ma2, mc2, ma3, mc3, b7, ()⟩ _ _ ⟨rfl, rfl, rfl, rfl, rfl, trivial⟩ (by repeat constructor))
   ·skip
    refine aY (by repeat (first | exact PickL.nil | (apply PickL.cons; rfl))) fun K1 hK1 => ?_
    skip
    refine bC dQ rfl (fun b5 => ?_)
    (refine aO ?_)
    exact hK1 _ _ (hS1_6_8 ⟨ua, uc, b5, b7, ()⟩ _ _ ⟨rfl, rfl, rfl, rfl, rfl, trivial⟩ (by repeat constructor))
   ·skip
    refine aY (by repeat (first | exact PickL.nil | (apply PickL.cons; rfl))) fun K1 hK1 => ?_
    skip
    refine bC dR rfl (fun b6 => ?_)
    (refine aO ?_)
    exact hK1 _ _ (hS1_7_8 ⟨ua, uc, b6, b7, ()⟩ _ _ ⟨rfl, rfl, rfl, rfl, rfl, trivial⟩ (by repeat constructor))
  refine cE (σ := Nat × Nat × Unit) (.alt (aC [0, 1] (.alt (aC [2, 3] (.alt (aC [4, 5] (aC [8] (aC [9, 10, 11] (.nil)))) (aC [8] (aC [4, 5] (aC [9, 10, 11] (.nil)))))) (aC [8] (aC [2, 3] (aC [4, 5] (aC [9, 10, 11] (.nil))))))) (aC [8] (aC [0, 1] (aC [2, 3] (aC [4, 5] (aC [9, 10, 11] (.nil))))))) (fun ⟨b5, b6, ()⟩ => [(2, .pointer (some ⟨b2, 0, none⟩)), (3, .pointer (some ⟨b3, 0, none⟩)), (5, .pointer (some ⟨b5, 0, none⟩)), (6, .pointer (some ⟨b6, 0, none⟩))]) (fun ⟨b5, b6, ()⟩ => [.pt b5 [.int .i64 0, .int .i64 0, .slice none 0 0] 39, .pt b6 [.slice none 0 0, .slice none 0 0, .slice none 0 0] 44]) ?_ (fun hS6_7 => ?_)
  ·rintro ⟨b5, b6, _⟩
   refine bM ?_ ?_
   ·skip
    refine aY (by repeat (first | exact PickL.nil | (apply PickL.cons; rfl))) fun K1 hK1 => ?_
    (refine aZ V Z Z Z ?_)
    refine bH (β := Option Addr × Nat) V [] _ M0 rfl rfl rfl rfl (Sp.refl _) (fun _ h => h.elim) (fun w' hs => dY w' lo hi x a c (RdE.keep h hs.chg0) (by omega)) ?_
    rintro ⟨ua, uc⟩ _ rfl
    dsimp only [List.cons_append, List.nil_append]
    (refine aO ?_)
    exact hK1 _ _ (hS1_6_7 ⟨ua, uc, b5, b6, ()⟩ _ _ ⟨rfl, rfl, rfl, rfl, rfl, trivial⟩ (by repeat constructor))
   ·skip
    refine aY (by repeat (first | exact PickL.nil | (apply PickL.cons; rfl))) fun K1 hK1 => ?_
    skip
    refine bC dB rfl (fun b7 => ?_)
    (refine aO ?_)
    exact hK1 _ _ (hS6_7_8 ⟨b5, b6, b7, ()⟩ _ _ ⟨rfl, rfl, rfl, rfl, rfl, trivial⟩ (by repeat constructor))
  refine cE (σ := Nat × Nat × Unit) (.alt (aC [0, 1] (.alt (aC [2, 3] (.alt (aC [4, 5] (aC [7] (aC [9, 10, 11] (.nil)))) (aC [7] (aC [4, 5] (aC [9, 10, 11] (.nil)))))) (aC [7] (aC [2, 3] (aC [4, 5] (aC [9, 10, 11] (.nil))))))) (aC [7] (aC [0, 1] (aC [2, 3] (aC [4, 5] (aC [9, 10, 11] (.nil))))))) (fun ⟨b5, b7, ()⟩ => [(2, .pointer (some ⟨b2, 0, none⟩)), (3, .pointer (some ⟨b3, 0, none⟩)), (5, .pointer (some ⟨b5, 0, none⟩)), (7, .pointer (some ⟨b7, 0, none⟩))]) (fun ⟨b5, b7, ()⟩ => [.pt b5 [.int .i64 0, .int .i64 0, .slice none 0 0] 39, .pt b7 [.int .i64 0, .int .i64 0, .slice none 0 0] 108]) ?_ (fun hS6_8 => ?_)
  ·rintro ⟨b5, b7, _⟩
   refine bM ?_ ?_
   ·skip
    refine aY (by repeat (first | exact PickL.nil | (apply PickL.cons; rfl))) fun K1 hK1 => ?_
    (refine aZ V Z Z Z ?_)
    refine bH (β := Option Addr × Nat) V [] _ M0 rfl rfl rfl rfl (Sp.refl _) (fun _ h => h.elim) (fun w' hs => dY w' lo hi x a c (RdE.keep h hs.chg0) (by omega)) ?_
    rintro ⟨ua, uc⟩ _ rfl
    dsimp only [List.cons_append, List.nil_append]
    (refine aO ?_)
    exact hK1 _ _ (hS1_6_8 ⟨ua, uc, b5, b7, ()⟩ _ _ ⟨rfl, rfl, rfl, rfl, rfl, trivial⟩ (by repeat constructor))
   ·skip
    refine aY (by repeat (first | exact PickL.nil | (apply PickL.cons; rfl))) fun K1 hK1 => ?_
    skip
    refine bC dR rfl (fun b6 => ?_)
    (refine aO ?_)
    exact hK1 _ _ (hS6_7_8 ⟨b5, b6, b7, ()⟩ _ _ ⟨rfl, rfl, rfl, rfl, rfl, trivial⟩ (by repeat constructor))
  refine cE (σ := Nat × Nat × Unit) (.alt (aC [0, 1] (.alt (aC [2, 3] (.alt (aC [4, 5] (aC [6] (aC [9, 10, 11] (.nil)))) (aC [6] (aC [4, 5] (aC [9, 10, 11] (.nil)))))) (aC [6] (aC [2, 3] (aC [4, 5] (aC [9, 10, 11] (.nil))))))) (aC [6] (aC [0, 1] (aC [2, 3] (aC [4, 5] (aC [9, 10, 11] (.nil))))))) (fun ⟨b6, b7, ()⟩ => [(2, .pointer (some ⟨b2, 0, none⟩)), (3, .pointer (some ⟨b3, 0, none⟩)), (6, .pointer (some ⟨b6, 0, none⟩)), (7, .pointer (some ⟨b7, 0, none⟩))]) (fun ⟨b6, b7, ()⟩ => [.pt b6 [.slice none 0 0, .slice none 0 0, .slice none 0 0] 44, .pt b7 [.int .i64 0, .int .i64 0, .slice none 0 0] 108]) ?_ (fun hS7_8 => ?_)
  ·rintro ⟨b6, b7, _⟩
   refine bM ?_ ?_
   ·skip
    refine aY (by repeat (first | exact PickL.nil | (apply PickL.cons; rfl))) fun K1 hK1 => ?_
    (refine aZ V Z Z Z ?_)
    refine bH (β := Option Addr × Nat) V [] _ M0 rfl rfl rfl rfl (Sp.refl _) (fun _ h => h.elim) (fun w' hs => dY w' lo hi x a c (RdE.keep h hs.chg0) (by omega)) ?_
    rintro ⟨ua, uc⟩ _ rfl
    dsimp only [List.cons_append, List.nil_append]
    (refine aO ?_)
    exact hK1 _ _ (hS1_7_8 ⟨ua, uc, b6, b7, ()⟩ _ _ ⟨rfl, rfl, rfl, rfl, rfl, trivial⟩ (by repeat constructor))
   ·skip
    refine aY (by repeat (first | exact PickL.nil | (apply PickL.cons; rfl))) fun K1 hK1 => ?_
    skip
    refine bC dQ rfl (fun b5 => ?_)
    (refine aO ?_)
    exact hK1 _ _ (hS6_7_8 ⟨b5, b6, b7, ()⟩ _ _ ⟨rfl, rfl, rfl, rfl, rfl, trivial⟩ (by repeat constructor))
  refine cE (σ := Option Addr × Nat × Unit) (.alt (aC [2, 3] (.alt (aC [4, 5] (.alt (aC [6] (.alt (aC [7] (aC [8] (aC [9, 10, 11] (.nil)))) (aC [8] (aC [7] (aC [9, 10, 11] (.nil)))))) (.alt (aC [7] (.alt (aC [6] (aC [8] (aC [9, 10, 11] (.nil)))) (aC [8] (aC [6] (aC [9, 10, 11] (.nil)))))) (aC [8] (.alt (aC [6] (aC [7] (aC [9, 10, 11] (.nil)))) (aC [7] (aC [6] (aC [9, 10, 11] (.nil))))))))) (.alt (aC [6] (.alt (aC [4, 5] (.alt (aC [7] (aC [8] (aC [9, 10, 11] (.nil)))) (aC [8] (aC [7] (aC [9, 10, 11] (.nil)))))) (.alt (aC [7] (.alt (aC [4, 5] (aC [8] (aC [9, 10, 11] (.nil)))) (aC [8] (aC [4, 5] (aC [9, 10, 11] (.nil)))))) (aC [8] (.alt (aC [4, 5] (aC [7] (aC [9, 10, 11] (.nil)))) (aC [7] (aC [4, 5] (aC [9, 10, 11] (.nil))))))))) (.alt (aC [7] (.alt (aC [4, 5] (.alt (aC [6] (aC [8] (aC [9, 10, 11] (.nil)))) (aC [8] (aC [6] (aC [9, 10, 11] (.nil)))))) (.alt (aC [6] (.alt (aC [4, 5] (aC [8] (aC [9, 10, 11] (.nil)))) (aC [8] (aC [4, 5] (aC [9, 10, 11] (.nil)))))) (aC [8] (.alt (aC [4, 5] (aC [6] (aC [9, 10, 11] (.nil)))) (aC [6] (aC [4, 5] (aC [9, 10, 11] (.nil))))))))) (aC [8] (.alt (aC [4, 5] (.alt (aC [6] (aC [7] (aC [9, 10, 11] (.nil)))) (aC [7] (aC [6] (aC [9, 10, 11] (.nil)))))) (.alt (aC [6] (.alt (aC [4, 5] (aC [7] (aC [9, 10, 11] (.nil)))) (aC [7] (aC [4, 5] (aC [9, 10, 11] (.nil)))))) (aC [7] (.alt (aC [4, 5] (aC [6] (aC [9, 10, 11] (.nil)))) (aC [6] (aC [4, 5] (aC [9, 10, 11] (.nil))))))))))))) (.alt (aC [6] (.alt (aC [2, 3] (.alt (aC [4, 5] (.alt (aC [7] (aC [8] (aC [9, 10, 11] (.nil)))) (aC [8] (aC [7] (aC [9, 10, 11] (.nil)))))) (.alt (aC [7] (.alt (aC [4, 5] (aC [8] (aC [9, 10, 11] (.nil)))) (aC [8] (aC [4, 5] (aC [9, 10, 11] (.nil)))))) (aC [8] (.alt (aC [4, 5] (aC [7] (aC [9, 10, 11] (.nil)))) (aC [7] (aC [4, 5] (aC [9, 10, 11] (.nil))))))))) (.alt (aC [7] (.alt (aC [2, 3] (.alt (aC [4, 5] (aC [8] (aC [9, 10, 11] (.nil)))) (aC [8] (aC [4, 5] (aC [9, 10, 11] (.nil)))))) (aC [8] (aC [2, 3] (aC [4, 5] (aC [9, 10, 11] (.nil))))))) (aC [8] (.alt (aC [2, 3] (.alt (aC [4, 5] (aC [7] (aC [9, 10, 11] (.nil)))) (aC [7] (aC [4, 5] (aC [9, 10, 11] (.nil)))))) (aC [7] (aC [2, 3] (aC [4, 5] (aC [9, 10, 11] (.nil)))))))))) (.alt (aC [7] (.alt (aC [2, 3] (.alt (aC [4, 5] (.alt (aC [6] (aC [8] (aC [9, 10, 11] (.nil)))) (aC [8] (aC [6] (aC [9, 10, 11] (.nil)))))) (.alt (aC [6] (.alt (aC [4, 5] (aC [8] (aC [9, 10, 11] (.nil)))) (aC [8] (aC [4, 5] (aC [9, 10, 11] (.nil)))))) (aC [8] (.alt (aC [4, 5] (aC [6] (aC [9, 10, 11] (.nil)))) (aC [6] (aC [4, 5] (aC [9, 10, 11] (.nil))))))))) (.alt (aC [6] (.alt (aC [2, 3] (.alt (aC [4, 5] (aC [8] (aC [9, 10, 11] (.nil)))) (aC [8] (aC [4, 5] (aC [9, 10, 11] (.nil)))))) (aC [8] (aC [2, 3] (aC [4, 5] (aC [9, 10, 11] (.nil))))))) (aC [8] (.alt (aC [2, 3] (.alt (aC [4, 5] (aC [6] (aC [9, 10, 11] (.nil)))) (aC [6] (aC [4, 5] (aC [9, 10, 11] (.nil)))))) (aC [6] (aC [2, 3] (aC [4, 5] (aC [9, 10, 11] (.nil)))))))))) (aC [8] (.alt (aC [2, 3] (.alt (aC [4, 5] (.alt (aC [6] (aC [7] (aC [9, 10, 11] (.nil)))) (aC [7] (aC [6] (aC [9, 10, 11] (.nil)))))) (.alt (aC [6] (.alt (aC [4, 5] (aC [7] (aC [9, 10, 11] (.nil)))) (aC [7] (aC [4, 5] (aC [9, 10, 11] (.nil)))))) (aC [7] (.alt (aC [4, 5] (aC [6] (aC [9, 10, 11] (.nil)))) (aC [6] (aC [4, 5] (aC [9, 10, 11] (.nil))))))))) (.alt (aC [6] (.alt (aC [2, 3] (.alt (aC [4, 5] (aC [7] (aC [9, 10, 11] (.nil)))) (aC [7] (aC [4, 5] (aC [9, 10, 11] (.nil)))))) (aC [7] (aC [2, 3] (aC [4, 5] (aC [9, 10, 11] (.nil))))))) (aC [7] (.alt (aC [2, 3] (.alt (aC [4, 5] (aC [6] (aC [9, 10, 11] (.nil)))) (aC [6] (aC [4, 5] (aC [9, 10, 11] (.nil)))))) (aC [6] (aC [2, 3] (aC [4, 5] (aC [9, 10, 11] (.nil))))))))))))) (fun ⟨ua, uc, ()⟩ => [(2, .pointer (some ⟨b2, 0, none⟩)), (3, .pointer (some ⟨b3, 0, none⟩)), (38, .agg (wnC x ua uc).toArray)]) (fun ⟨ua, uc, ()⟩ => [.ow (.slice ua x.days.length uc) 46 6 x.days.length (dyC x.days)]) ?_ (fun hS1 => ?_)
  ·rintro ⟨ua, uc, _⟩
   refine bM ?_ (bM ?_ (bM ?_ ?_))
   ·skip
    refine aY (by repeat (first | exact PickL.nil | (apply PickL.cons; rfl))) fun K1 hK1 => ?_
    (refine aZ V Z Z Z ?_)
    refine bH (β := Value × Value × Value) V [] _ M0 rfl rfl rfl rfl (Sp.refl _) (fun _ h => h.elim) (fun w' hs => gA w' t _ _ _ (hw.keep hs.chg0) (by omega) (by omega) (by omega)) ?_
    rintro ⟨z1, z2, z3⟩ _ rfl
    dsimp only [wtK, List.cons_append, List.nil_append]
    refine bX (fun w hs => hs.slice2 (v := z1) (by repeat constructor)) ?_
    rintro ⟨ma1, mc1, rfl⟩
    refine bX (fun w hs => hs.slice2 (v := z2) (by repeat constructor)) ?_
    rintro ⟨ma2, mc2, rfl⟩
    refine bX (fun w hs => hs.slice2 (v := z3) (by repeat constructor)) ?_
    rintro ⟨ma3, mc3, rfl⟩
    (refine aO ?_)
    exact hK1 _ _ (hS1_3 ⟨ua, uc, ma1, mc1, ma2, mc2, ma3, mc3, ()⟩ _ _ ⟨rfl, rfl, rfl, rfl, trivial⟩ (by repeat constructor))
   ·skip
    refine aY (by repeat (first | exact PickL.nil | (apply PickL.cons; rfl))) fun K1 hK1 => ?_
    skip
    refine bC dQ rfl (fun b5 => ?_)
    (refine aO ?_)
    exact hK1 _ _ (hS1_6 ⟨ua, uc, b5, ()⟩ _ _ ⟨rfl, rfl, rfl, rfl, trivial⟩ (by repeat constructor))
   ·skip
    refine aY (by repeat (first | exact PickL.nil | (apply PickL.cons; rfl))) fun K1 hK1 => ?_
    skip
    refine bC dR rfl (fun b6 => ?_)
    (refine aO ?_)
    exact hK1 _ _ (hS1_7 ⟨ua, uc, b6, ()⟩ _ _ ⟨rfl, rfl, rfl, rfl, trivial⟩ (by repeat constructor))
   ·skip
    refine aY (by repeat (first | exact PickL.nil | (apply PickL.cons; rfl))) fun K1 hK1 => ?_
    skip
    refine bC dB rfl (fun b7 => ?_)
    (refine aO ?_)
    exact hK1 _ _ (hS1_8 ⟨ua, uc, b7, ()⟩ _ _ ⟨rfl, rfl, rfl, rfl, trivial⟩ (by repeat constructor))
  refine cE (σ := Nat × Unit) (.alt (aC [0, 1] (.alt (aC [2, 3] (.alt (aC [4, 5] (.alt (aC [7] (aC [8] (aC [9, 10, 11] (.nil)))) (aC [8] (aC [7] (aC [9, 10, 11] (.nil)))))) (.alt (aC [7] (.alt (aC [4, 5] (aC [8] (aC [9, 10, 11] (.nil)))) (aC [8] (aC [4, 5] (aC [9, 10, 11] (.nil)))))) (aC [8] (.alt (aC [4, 5] (aC [7] (aC [9, 10, 11] (.nil)))) (aC [7] (aC [4, 5] (aC [9, 10, 11] (.nil))))))))) (.alt (aC [7] (.alt (aC [2, 3] (.alt (aC [4, 5] (aC [8] (aC [9, 10, 11] (.nil)))) (aC [8] (aC [4, 5] (aC [9, 10, 11] (.nil)))))) (aC [8] (aC [2, 3] (aC [4, 5] (aC [9, 10, 11] (.nil))))))) (aC [8] (.alt (aC [2, 3] (.alt (aC [4, 5] (aC [7] (aC [9, 10, 11] (.nil)))) (aC [7] (aC [4, 5] (aC [9, 10, 11] (.nil)))))) (aC [7] (aC [2, 3] (aC [4, 5] (aC [9, 10, 11] (.nil)))))))))) (.alt (aC [7] (.alt (aC [0, 1] (.alt (aC [2, 3] (.alt (aC [4, 5] (aC [8] (aC [9, 10, 11] (.nil)))) (aC [8] (aC [4, 5] (aC [9, 10, 11] (.nil)))))) (aC [8] (aC [2, 3] (aC [4, 5] (aC [9, 10, 11] (.nil))))))) (aC [8] (aC [0, 1] (aC [2, 3] (aC [4, 5] (aC [9, 10, 11] (.nil)))))))) (aC [8] (.alt (aC [0, 1] (.alt (aC [2, 3] (.alt (aC [4, 5] (aC [7] (aC [9, 10, 11] (.nil)))) (aC [7] (aC [4, 5] (aC [9, 10, 11] (.nil)))))) (aC [7] (aC [2, 3] (aC [4, 5] (aC [9, 10, 11] (.nil))))))) (aC [7] (aC [0, 1] (aC [2, 3] (aC [4, 5] (aC [9, 10, 11] (.nil)))))))))) (fun ⟨b5, ()⟩ => [(2, .pointer (some ⟨b2, 0, none⟩)), (3, .pointer (some ⟨b3, 0, none⟩)), (5, .pointer (some ⟨b5, 0, none⟩))]) (fun ⟨b5, ()⟩ => [.pt b5 [.int .i64 0, .int .i64 0, .slice none 0 0] 39]) ?_ (fun hS6 => ?_)
  ·rintro ⟨b5, _⟩
   refine bM ?_ (bM ?_ ?_)
   ·skip
    refine aY (by repeat (first | exact PickL.nil | (apply PickL.cons; rfl))) fun K1 hK1 => ?_
    (refine aZ V Z Z Z ?_)
    refine bH (β := Option Addr × Nat) V [] _ M0 rfl rfl rfl rfl (Sp.refl _) (fun _ h => h.elim) (fun w' hs => dY w' lo hi x a c (RdE.keep h hs.chg0) (by omega)) ?_
    rintro ⟨ua, uc⟩ _ rfl
    dsimp only [List.cons_append, List.nil_append]
    (refine aO ?_)
    exact hK1 _ _ (hS1_6 ⟨ua, uc, b5, ()⟩ _ _ ⟨rfl, rfl, rfl, rfl, trivial⟩ (by repeat constructor))
   ·skip
    refine aY (by repeat (first | exact PickL.nil | (apply PickL.cons; rfl))) fun K1 hK1 => ?_
    skip
    refine bC dR rfl (fun b6 => ?_)
    (refine aO ?_)
    exact hK1 _ _ (hS6_7 ⟨b5, b6, ()⟩ _ _ ⟨rfl, rfl, rfl, rfl, trivial⟩ (by repeat constructor))
   ·skip
    refine aY (by repeat (first | exact PickL.nil | (apply PickL.cons; rfl))) fun K1 hK1 => ?_
    skip
    refine bC dB rfl (fun b7 => ?_)
    (refine aO ?_)
    exact hK1 _ _ (hS6_8 ⟨b5, b7, ()⟩ _ _ ⟨rfl, rfl, rfl, rfl, trivial⟩ (by repeat constructor))
  refine cE (σ := Nat × Unit) (.alt (aC [0, 1] (.alt (aC [2, 3] (.alt (aC [4, 5] (.alt (aC [6] (aC [8] (aC [9, 10, 11] (.nil)))) (aC [8] (aC [6] (aC [9, 10, 11] (.nil)))))) (.alt (aC [6] (.alt (aC [4, 5] (aC [8] (aC [9, 10, 11] (.nil)))) (aC [8] (aC [4, 5] (aC [9, 10, 11] (.nil)))))) (aC [8] (.alt (aC [4, 5] (aC [6] (aC [9, 10, 11] (.nil)))) (aC [6] (aC [4, 5] (aC [9, 10, 11] (.nil))))))))) (.alt (aC [6] (.alt (aC [2, 3] (.alt (aC [4, 5] (aC [8] (aC [9, 10, 11] (.nil)))) (aC [8] (aC [4, 5] (aC [9, 10, 11] (.nil)))))) (aC [8] (aC [2, 3] (aC [4, 5] (aC [9, 10, 11] (.nil))))))) (aC [8] (.alt (aC [2, 3] (.alt (aC [4, 5] (aC [6] (aC [9, 10, 11] (.nil)))) (aC [6] (aC [4, 5] (aC [9, 10, 11] (.nil)))))) (aC [6] (aC [2, 3] (aC [4, 5] (aC [9, 10, 11] (.nil)))))))))) (.alt (aC [6] (.alt (aC [0, 1] (.alt (aC [2, 3] (.alt (aC [4, 5] (aC [8] (aC [9, 10, 11] (.nil)))) (aC [8] (aC [4, 5] (aC [9, 10, 11] (.nil)))))) (aC [8] (aC [2, 3] (aC [4, 5] (aC [9, 10, 11] (.nil))))))) (aC [8] (aC [0, 1] (aC [2, 3] (aC [4, 5] (aC [9, 10, 11] (.nil)))))))) (aC [8] (.alt (aC [0, 1] (.alt (aC [2, 3] (.alt (aC [4, 5] (aC [6] (aC [9, 10, 11] (.nil)))) (aC [6] (aC [4, 5] (aC [9, 10, 11] (.nil)))))) (aC [6] (aC [2, 3] (aC [4, 5] (aC [9, 10, 11] (.nil))))))) (aC [6] (aC [0, 1] (aC [2, 3] (aC [4, 5] (aC [9, 10, 11] (.nil)))))))))) (fun ⟨b6, ()⟩ => [(2, .pointer (some ⟨b2, 0, none⟩)), (3, .pointer (some ⟨b3, 0, none⟩)), (6, .pointer (some ⟨b6, 0, none⟩))]) (fun ⟨b6, ()⟩ => [.pt b6 [.slice none 0 0, .slice none 0 0, .slice none 0 0] 44]) ?_ (fun hS7 => ?_)
  ·rintro ⟨b6, _⟩
   refine bM ?_ (bM ?_ ?_)
   ·skip
    refine aY (by repeat (first | exact PickL.nil | (apply PickL.cons; rfl))) fun K1 hK1 => ?_
    (refine aZ V Z Z Z ?_)
    refine bH (β := Option Addr × Nat) V [] _ M0 rfl rfl rfl rfl (Sp.refl _) (fun _ h => h.elim) (fun w' hs => dY w' lo hi x a c (RdE.keep h hs.chg0) (by omega)) ?_
    rintro ⟨ua, uc⟩ _ rfl
    dsimp only [List.cons_append, List.nil_append]
    (refine aO ?_)
    exact hK1 _ _ (hS1_7 ⟨ua, uc, b6, ()⟩ _ _ ⟨rfl, rfl, rfl, rfl, trivial⟩ (by repeat constructor))
   ·skip
    refine aY (by repeat (first | exact PickL.nil | (apply PickL.cons; rfl))) fun K1 hK1 => ?_
    skip
    refine bC dQ rfl (fun b5 => ?_)
    (refine aO ?_)
    exact hK1 _ _ (hS6_7 ⟨b5, b6, ()⟩ _ _ ⟨rfl, rfl, rfl, rfl, trivial⟩ (by repeat constructor))
   ·skip
    refine aY (by repeat (first | exact PickL.nil | (apply PickL.cons; rfl))) fun K1 hK1 => ?_
    skip
    refine bC dB rfl (fun b7 => ?_)
    (refine aO ?_)
    exact hK1 _ _ (hS7_8 ⟨b6, b7, ()⟩ _ _ ⟨rfl, rfl, rfl, rfl, trivial⟩ (by repeat constructor))
  refine cE (σ := Nat × Unit) (.alt (aC [0, 1] (.alt (aC [2, 3] (.alt (aC [4, 5] (.alt (aC [6] (aC [7] (aC [9, 10, 11] (.nil)))) (aC [7] (aC [6] (aC [9, 10, 11] (.nil)))))) (.alt (aC [6] (.alt (aC [4, 5] (aC [7] (aC [9, 10, 11] (.nil)))) (aC [7] (aC [4, 5] (aC [9, 10, 11] (.nil)))))) (aC [7] (.alt (aC [4, 5] (aC [6] (aC [9, 10, 11] (.nil)))) (aC [6] (aC [4, 5] (aC [9, 10, 11] (.nil))))))))) (.alt (aC [6] (.alt (aC [2, 3] (.alt (aC [4, 5] (aC [7] (aC [9, 10, 11] (.nil)))) (aC [7] (aC [4, 5] (aC [9, 10, 11] (.nil)))))) (aC [7] (aC [2, 3] (aC [4, 5] (aC [9, 10, 11] (.nil))))))) (aC [7] (.alt (aC [2, 3] (.alt (aC [4, 5] (aC [6] (aC [9, 10, 11] (.nil)))) (aC [6] (aC [4, 5] (aC [9, 10, 11] (.nil)))))) (aC [6] (aC [2, 3] (aC [4, 5] (aC [9, 10, 11] (.nil)))))))))) (.alt (aC [6] (.alt (aC [0, 1] (.alt (aC [2, 3] (.alt (aC [4, 5] (aC [7] (aC [9, 10, 11] (.nil)))) (aC [7] (aC [4, 5] (aC [9, 10, 11] (.nil)))))) (aC [7] (aC [2, 3] (aC [4, 5] (aC [9, 10, 11] (.nil))))))) (aC [7] (aC [0, 1] (aC [2, 3] (aC [4, 5] (aC [9, 10, 11] (.nil)))))))) (aC [7] (.alt (aC [0, 1] (.alt (aC [2, 3] (.alt (aC [4, 5] (aC [6] (aC [9, 10, 11] (.nil)))) (aC [6] (aC [4, 5] (aC [9, 10, 11] (.nil)))))) (aC [6] (aC [2, 3] (aC [4, 5] (aC [9, 10, 11] (.nil))))))) (aC [6] (aC [0, 1] (aC [2, 3] (aC [4, 5] (aC [9, 10, 11] (.nil)))))))))) (fun ⟨b7, ()⟩ => [(2, .pointer (some ⟨b2, 0, none⟩)), (3, .pointer (some ⟨b3, 0, none⟩)), (7, .pointer (some ⟨b7, 0, none⟩))]) (fun ⟨b7, ()⟩ => [.pt b7 [.int .i64 0, .int .i64 0, .slice none 0 0] 108]) ?_ (fun hS8 => ?_)
  ·rintro ⟨b7, _⟩
   refine bM ?_ (bM ?_ ?_)
   ·skip
    refine aY (by repeat (first | exact PickL.nil | (apply PickL.cons; rfl))) fun K1 hK1 => ?_
    (refine aZ V Z Z Z ?_)
    refine bH (β := Option Addr × Nat) V [] _ M0 rfl rfl rfl rfl (Sp.refl _) (fun _ h => h.elim) (fun w' hs => dY w' lo hi x a c (RdE.keep h hs.chg0) (by omega)) ?_
    rintro ⟨ua, uc⟩ _ rfl
    dsimp only [List.cons_append, List.nil_append]
    (refine aO ?_)
    exact hK1 _ _ (hS1_8 ⟨ua, uc, b7, ()⟩ _ _ ⟨rfl, rfl, rfl, rfl, trivial⟩ (by repeat constructor))
   ·skip
    refine aY (by repeat (first | exact PickL.nil | (apply PickL.cons; rfl))) fun K1 hK1 => ?_
    skip
    refine bC dQ rfl (fun b5 => ?_)
    (refine aO ?_)
    exact hK1 _ _ (hS6_8 ⟨b5, b7, ()⟩ _ _ ⟨rfl, rfl, rfl, rfl, trivial⟩ (by repeat constructor))
   ·skip
    refine aY (by repeat (first | exact PickL.nil | (apply PickL.cons; rfl))) fun K1 hK1 => ?_
    skip
    refine bC dR rfl (fun b6 => ?_)
    (refine aO ?_)
    exact hK1 _ _ (hS7_8 ⟨b6, b7, ()⟩ _ _ ⟨rfl, rfl, rfl, rfl, trivial⟩ (by repeat constructor))
  refine bM ?_ (bM ?_ (bM ?_ ?_))
  ·skip
   refine aY (by repeat (first | exact PickL.nil | (apply PickL.cons; rfl))) fun K1 hK1 => ?_
   (refine aZ V Z Z Z ?_)
   refine bH (β := Option Addr × Nat) V [] _ M0 rfl rfl rfl rfl (Sp.refl _) (fun _ h => h.elim) (fun w' hs => dY w' lo hi x a c (RdE.keep h hs.chg0) (by omega)) ?_
   rintro ⟨ua, uc⟩ _ rfl
   dsimp only [List.cons_append, List.nil_append]
   (refine aO ?_)
   exact hK1 _ _ (hS1 ⟨ua, uc, ()⟩ _ _ ⟨rfl, rfl, rfl, trivial⟩ (by repeat constructor))
  ·skip
   refine aY (by repeat (first | exact PickL.nil | (apply PickL.cons; rfl))) fun K1 hK1 => ?_
   skip
   refine bC dQ rfl (fun b5 => ?_)
   (refine aO ?_)
   exact hK1 _ _ (hS6 ⟨b5, ()⟩ _ _ ⟨rfl, rfl, rfl, trivial⟩ (by repeat constructor))
  ·skip
   refine aY (by repeat (first | exact PickL.nil | (apply PickL.cons; rfl))) fun K1 hK1 => ?_
   skip
   refine bC dR rfl (fun b6 => ?_)
   (refine aO ?_)
   exact hK1 _ _ (hS7 ⟨b6, ()⟩ _ _ ⟨rfl, rfl, rfl, trivial⟩ (by repeat constructor))
  ·skip
   refine aY (by repeat (first | exact PickL.nil | (apply PickL.cons; rfl))) fun K1 hK1 => ?_
   skip
   refine bC dB rfl (fun b7 => ?_)
   (refine aO ?_)
   exact hK1 _ _ (hS8 ⟨b7, ()⟩ _ _ ⟨rfl, rfl, rfl, trivial⟩ (by repeat constructor))
 rintro ⟨ua, uc, ma1, mc1, ma2, mc2, ma3, mc3, ra, rc, b5, b6, b7⟩
 dsimp only
 (refine aD (aB ?_); refine aJ V Z Z Z ?_)
 refine aK (val := .int .i64 (checkW x)) V rfl rfl rfl rfl (fun w hs => ?_) ?_; exact fM w 0 w.heap.size x ra rc (bV hs (by repeat constructor) rfl) (by omega)
 (refine aA V Z Z (aF (aD (aD (aB ?_)))); refine aJ V Z Z Z ?_)
 refine aK (val := .int .i64 (checkW x)) V rfl rfl rfl rfl (fun w hs => ?_) ?_; exact eK w 0 w.heap.size x ua uc (bV hs (by repeat constructor) rfl) (by omega)
 (refine aA V Z Z (aW V Z Z Z (by omega) (aF (aH Z (aM (aD (aB ?_)))))); refine aJ V Z Z Z ?_)
 by_cases h0 : checkW x ≠ 0
 ·have hwe : weatV x t ≠ 0 := by unfold weatV; rw [if_pos h0]; exact h0
  refine aK (val := .tuple #[.agg #[.slice none 0 0, .slice none 0 0, .slice none 0 0], .int .i64 (checkW x)]) V rfl rfl rfl rfl (fun w hs => ?_) ?_; exact worstE_no w 0 w.heap.size x ua uc (bV hs (by repeat constructor) rfl) (by omega) h0
  (refine aA V Z Z (aT V Z Z Z (aT V Z Z Z ?_)))
  refine bI dR rfl (fun b9 => ?_)
  (refine bS V Z Z Z Z Z (by repeat constructor) rfl ?_; refine aA V Z Z (aF (aD (aD (aB (aA V Z Z (aA V Z Z (aW V Z Z Z (by omega) (aA V Z Z (aE Z (aA V Z Z (aE Z ?_))))))))))); refine bW V Z Z Z (by omega) (aE Z (aA V Z Z (aE Z (aA V Z Z (aE Z ?_))))); refine aI V Z Z Z ?_; refine aE Z (aA V Z Z (aE Z (aA V Z Z (aE Z ?_)))); refine aI V Z Z Z ?_; refine aE Z (aA V Z Z (aE Z (bA V Z Z Z Z (by omega) (by omega) (aE Z (aA V Z Z (aE Z ?_)))))); refine aI V Z Z Z ?_; refine aE Z (aA V Z Z (aE Z (bA V Z Z Z Z (by omega) (by omega) (aE Z (cT V Z Z Z (by omega) (aE Z (aA V Z Z (aA V Z Z (aF (aH Z (aM ?_))))))))))); refine aD (aD (aB (aA V Z Z (fP V Z Z Z (by omega) (aF (aH Z (aM (aD (aB ?_))))))))); refine aJ V Z Z Z ?_; refine aA V Z Z ?_; refine aI V Z Z Z ?_; refine aA V Z Z ?_; refine aI V Z Z Z ?_; refine aA V Z Z ?_; refine aI V Z Z Z ?_)
  refine aK (val := .int .i64 (weatV x t)) V rfl rfl rfl rfl (fun w hs => ?_) ?_; exact rweath_ca w 0 w.heap.size x ra rc t _ _ _ (bV hs (by repeat constructor) rfl) (by omega) (hw.keep hs.chg0) (by omega) (by omega) (by omega)
  (refine aA V Z Z (aF (aD (aB ?_))); (iterate 2 refine aJ V Z Z Z ?_))
  refine aK (val := .tuple #[.int .i64 0, .int .i64 (weatV x t)]) V rfl rfl rfl rfl (fun w hs => ?_) ?_; exact fails_no w 0 w.heap.size x ua uc t _ _ _ (bV hs (by repeat constructor) rfl) (by omega) (hX hs (by repeat constructor) (by repeat constructor) (by repeat constructor)) (by omega) (by omega) (by omega) hwe
  (refine aA V Z Z (aT V Z Z Z (aT V Z Z Z (aA V Z Z (aA V Z Z (aF (aD (aB ?_))))))); (iterate 2 refine aJ V Z Z Z ?_))
  refine aK (val := .tuple #[.slice none 0 0, .int .i64 (weatV x t)]) V rfl rfl rfl rfl (fun w hs => ?_) ?_; exact stocks_no w 0 w.heap.size x ua uc t _ _ _ (bV hs (by repeat constructor) rfl) (by omega) (hX hs (by repeat constructor) (by repeat constructor) (by repeat constructor)) (by omega) (by omega) (by omega) hwe
  (refine aA V Z Z (aT V Z Z Z (aT V Z Z Z (aA V Z Z (aA V Z Z (aF (aD (aB ?_))))))); (iterate 2 refine aJ V Z Z Z ?_))
  refine aK (val := .tuple #[.slice none 0 0, .int .i64 (weatV x t)]) V rfl rfl rfl rfl (fun w hs => ?_) ?_; exact made_no w 0 w.heap.size x ua uc t _ _ _ (bV hs (by repeat constructor) rfl) (by omega) (hX hs (by repeat constructor) (by repeat constructor) (by repeat constructor)) (by omega) (by omega) (by omega) hwe
  (refine aA V Z Z (aT V Z Z Z (aT V Z Z Z (aA V Z Z (aA V Z Z (aF (aD (aB ?_))))))); (iterate 2 refine aJ V Z Z Z ?_))
  refine aK (val := .tuple #[.slice none 0 0, .int .i64 (weatV x t)]) V rfl rfl rfl rfl (fun w hs => ?_) ?_; exact piles_no w 0 w.heap.size x ua uc t _ _ _ (bV hs (by repeat constructor) rfl) (by omega) (hX hs (by repeat constructor) (by repeat constructor) (by repeat constructor)) (by omega) (by omega) (by omega) hwe
  (refine aA V Z Z (aT V Z Z Z (aT V Z Z Z (aA V Z Z (aA V Z Z (aF (aD (aD (aB (aA V Z Z (aA V Z Z (aW V Z Z Z (by omega) ?_))))))))))); refine aA V Z Z (aE Z (aA V Z Z (aE Z (aA V Z Z (aE Z (aW V Z Z Z (by omega) (aA V Z Z (aA V Z Z (aE Z (aA V Z Z (aE Z ?_))))))))))); refine aA V Z Z (aE Z (aW V Z Z Z (by omega) (aA V Z Z (aA V Z Z (aE Z (aA V Z Z (aE Z (aA V Z Z (aE Z (aW V Z Z Z (by omega) (aA V Z Z ?_))))))))))); refine aF (aH Z (aM (aD (aD (aB (aA V Z Z (bW V Z Z Z (by omega) (aF (aL Z (aD (aB ?_))))))))))); refine aA V Z Z (cO V Z Z Z (by omega) (aA V Z Z (aE Z (aA V Z Z (aE Z (aA V Z Z (aE Z (aA V Z Z (aE Z (aA V Z Z (aE Z ?_))))))))))); refine bA V Z Z Z Z (by omega) (by omega) (aE Z (aA V Z Z (aE Z (aA V Z Z (aE Z (bA V Z Z Z Z (by omega) (by omega) (aE Z (cO V Z Z Z (by omega) (aA V Z Z (aA V Z Z (aE Z ?_))))))))))); refine aJ V Z Z Z ?_; refine aE Z ?_; refine aJ V Z Z Z ?_; refine aE Z ?_)
  refine aK (val := .bool true) V rfl rfl rfl rfl (fun w hs => ?_) ?_; exact jZ w 0 w.heap.size lo hi x ua a uc c (bV hs (by repeat constructor) rfl) (RdE.keep h hs.chg0) (by omega)
  (refine aA V Z Z (aA V Z Z (aE Z ?_)); refine aJ V Z Z Z ?_; refine aE Z ?_; refine aJ V Z Z Z ?_; refine aE Z ?_)
  refine aK (val := .bool true) V rfl rfl rfl rfl (fun w hs => ?_) ?_; exact mC w t _ _ _ _ _ _ (hX hs (by repeat constructor) (by repeat constructor) (by repeat constructor)) (hw.keep hs.chg0) (by omega) (by omega) (by omega)
  (refine aA V Z Z (aA V Z Z (aE Z ?_)))
  refine aK (val := .bool true) V rfl rfl rfl rfl (fun w hs => ?_) ?_; exact dS w
  (refine aA V Z Z (aA V Z Z (aF (aS ?_))))
  refine aU V Z (by repeat constructor) fun w hs => ?_
  exact ⟨rfl, hs.chg0⟩
 have h0 : checkW x = 0 := by omega
 have hx := bU.1 h0
 rw [h0]
 refine bG (β := Value × Value × Value) V [] _ M0 rfl rfl rfl rfl (Sp.refl _) (fun _ h => h.elim) (fun w' hs => worstE_ok w' 0 w'.heap.size x ua uc (bV hs (by repeat constructor) rfl) hx) ?_
 rintro ⟨z1, z2, z3⟩ _ rfl
 dsimp only [wtK, List.cons_append, List.nil_append]
 refine bL (fun w hs => hs.slice2 (v := z1) (by repeat constructor)) ?_
 rintro ⟨za1, zc1, rfl⟩
 refine bL (fun w hs => hs.slice2 (v := z2) (by repeat constructor)) ?_
 rintro ⟨za2, zc2, rfl⟩
 refine bL (fun w hs => hs.slice2 (v := z3) (by repeat constructor)) ?_
 rintro ⟨za3, zc3, rfl⟩
 (refine aA V Z Z (aT V Z Z Z (aT V Z Z Z ?_)))
 refine bI dR rfl (fun b9 => ?_)
 (refine bS V Z Z Z Z Z (by repeat constructor) rfl ?_; refine aA V Z Z (aF (aD (aD (aB (aA V Z Z (aA V Z Z (aW V Z Z Z (by omega) (aA V Z Z (aE Z (aA V Z Z (aE Z ?_))))))))))); refine aW V Z Z Z (by omega) (aE Z (aA V Z Z ?_)); (iterate 12 refine bE Z Z Z ?_); refine aE Z (aA V Z Z (aA V Z Z (aF (aH Z (aM (aD (aD (aB (aA V Z Z (cO V Z Z Z (by omega) (aF ?_))))))))))); refine aL Z (aD (aB ?_)); refine aJ V Z Z Z ?_)
 refine bG (β := Value × Value × Value) V [] _ M0 rfl rfl rfl rfl (Sp.refl _) (fun _ h => h.elim) (fun w' hs => rworst_ca w' 0 w'.heap.size x ra rc (bV hs (by repeat constructor) rfl) (by omega)) ?_
 rintro ⟨y1, y2, y3⟩ _ rfl
 dsimp only [List.cons_append, List.nil_append]
 have hwf := bN hx
 refine bL (fun w hs => hs.slice2 (v := y1) (by repeat constructor)) ?_
 rintro ⟨ya1, yc1, rfl⟩
 refine bL (fun w hs => hs.slice2 (v := y2) (by repeat constructor)) ?_
 rintro ⟨ya2, yc2, rfl⟩
 refine bL (fun w hs => hs.slice2 (v := y3) (by repeat constructor)) ?_
 rintro ⟨ya3, yc3, rfl⟩
 (refine aA V Z Z ?_; (iterate 3 refine aT V Z Z Z ?_); (iterate 3 refine aA V Z Z ?_); refine aF (aD (aB ?_)); refine aJ V Z Z Z ?_; (iterate 3 refine aA V Z Z ?_))
 refine dJ #[.slice ya1 x.days.length yc1, .slice ya2 x.days.length yc2, .slice ya3 x.days.length yc3] rfl (by kernel_rfl) rfl ?_
 skip
 refine aK (val := .bool true) V rfl rfl rfl rfl (fun w hs => ?_) ?_; exact mC w (aR x) _ _ _ _ _ _ (hX hs (by repeat constructor) (by repeat constructor) (by repeat constructor)) (wtN_R hs hwf (by repeat constructor) (by repeat constructor) (by repeat constructor)) (by rw [hwf.need]; omega) (by rw [hwf.make]; omega) (by rw [hwf.loss]; omega)
 (refine aA V Z Z (aF (aH Z (aM (aD (aB ?_))))); refine aJ V Z Z Z ?_; refine aA V Z Z ?_; refine aI V Z Z Z ?_; refine aA V Z Z ?_; refine aI V Z Z Z ?_; refine aA V Z Z ?_; refine aI V Z Z Z ?_)
 refine aK (val := .int .i64 (weatV x t)) V rfl rfl rfl rfl (fun w hs => ?_) ?_; exact rweath_ca w 0 w.heap.size x ra rc t _ _ _ (bV hs (by repeat constructor) rfl) (by omega) (hw.keep hs.chg0) (by omega) (by omega) (by omega)
 (refine aA V Z Z (aF (aD (aB ?_))); (iterate 2 refine aJ V Z Z Z ?_))
 by_cases hwe : weatV x t ≠ 0
 ·skip
  refine aK (val := .tuple #[.int .i64 0, .int .i64 (weatV x t)]) V rfl rfl rfl rfl (fun w hs => ?_) ?_; exact fails_no w 0 w.heap.size x ua uc t _ _ _ (bV hs (by repeat constructor) rfl) (by omega) (hX hs (by repeat constructor) (by repeat constructor) (by repeat constructor)) (by omega) (by omega) (by omega) hwe
  (refine aA V Z Z (aT V Z Z Z (aT V Z Z Z (aA V Z Z (aA V Z Z (aF (aD (aB ?_))))))); (iterate 2 refine aJ V Z Z Z ?_))
  refine aK (val := .tuple #[.slice none 0 0, .int .i64 (weatV x t)]) V rfl rfl rfl rfl (fun w hs => ?_) ?_; exact stocks_no w 0 w.heap.size x ua uc t _ _ _ (bV hs (by repeat constructor) rfl) (by omega) (hX hs (by repeat constructor) (by repeat constructor) (by repeat constructor)) (by omega) (by omega) (by omega) hwe
  (refine aA V Z Z (aT V Z Z Z (aT V Z Z Z (aA V Z Z (aA V Z Z (aF (aD (aB ?_))))))); (iterate 2 refine aJ V Z Z Z ?_))
  refine aK (val := .tuple #[.slice none 0 0, .int .i64 (weatV x t)]) V rfl rfl rfl rfl (fun w hs => ?_) ?_; exact made_no w 0 w.heap.size x ua uc t _ _ _ (bV hs (by repeat constructor) rfl) (by omega) (hX hs (by repeat constructor) (by repeat constructor) (by repeat constructor)) (by omega) (by omega) (by omega) hwe
  (refine aA V Z Z (aT V Z Z Z (aT V Z Z Z (aA V Z Z (aA V Z Z (aF (aD (aB ?_))))))); (iterate 2 refine aJ V Z Z Z ?_))
  refine aK (val := .tuple #[.slice none 0 0, .int .i64 (weatV x t)]) V rfl rfl rfl rfl (fun w hs => ?_) ?_; exact piles_no w 0 w.heap.size x ua uc t _ _ _ (bV hs (by repeat constructor) rfl) (by omega) (hX hs (by repeat constructor) (by repeat constructor) (by repeat constructor)) (by omega) (by omega) (by omega) hwe
  (refine aA V Z Z (aT V Z Z Z (aT V Z Z Z (aA V Z Z (aA V Z Z (aF (aD (aD (aB (aA V Z Z (aA V Z Z (aW V Z Z Z (by omega) ?_))))))))))); refine aA V Z Z (aE Z (aA V Z Z (aE Z (aA V Z Z (aE Z (aW V Z Z Z (by omega) (aA V Z Z (aA V Z Z (aE Z (aA V Z Z (aE Z ?_))))))))))); refine aA V Z Z (aE Z (aW V Z Z Z (by omega) (aA V Z Z (aA V Z Z (aE Z (aA V Z Z (aE Z (aA V Z Z (aE Z (aW V Z Z Z (by omega) (aA V Z Z ?_))))))))))); refine aF (aH Z (aM (aD (aD (aB (aA V Z Z (bW V Z Z Z (by omega) (aF (aL Z (aD (aB ?_))))))))))); refine aA V Z Z (cO V Z Z Z (by omega) (aA V Z Z (aE Z (aA V Z Z (aE Z (aA V Z Z (aE Z (aA V Z Z (aE Z (aA V Z Z (aE Z ?_))))))))))); refine bA V Z Z Z Z (by omega) (by omega) (aE Z (aA V Z Z (aE Z (aA V Z Z (aE Z (bA V Z Z Z Z (by omega) (by omega) (aE Z (cO V Z Z Z (by omega) (aA V Z Z (aA V Z Z (aE Z ?_))))))))))); refine aJ V Z Z Z ?_; refine aE Z ?_; refine aJ V Z Z Z ?_; refine aE Z ?_)
  refine aK (val := .bool true) V rfl rfl rfl rfl (fun w hs => ?_) ?_; exact jZ w 0 w.heap.size lo hi x ua a uc c (bV hs (by repeat constructor) rfl) (RdE.keep h hs.chg0) (by omega)
  (refine aA V Z Z (aA V Z Z (aE Z ?_)); refine aJ V Z Z Z ?_; refine aE Z ?_; refine aJ V Z Z Z ?_; refine aE Z ?_)
  refine aK (val := .bool true) V rfl rfl rfl rfl (fun w hs => ?_) ?_; exact mC w t _ _ _ _ _ _ (hX hs (by repeat constructor) (by repeat constructor) (by repeat constructor)) (hw.keep hs.chg0) (by omega) (by omega) (by omega)
  (refine aA V Z Z (aA V Z Z (aE Z ?_)))
  refine aK (val := .bool true) V rfl rfl rfl rfl (fun w hs => ?_) ?_; exact dS w
  (refine aA V Z Z (aA V Z Z (aF (aS ?_))))
  refine aU V Z (by repeat constructor) fun w hs => ?_
  exact ⟨rfl, hs.chg0⟩
 have hwe : weatV x t = 0 := by omega
 have hti := (weatV_iff.1 hwe).2
 have htf := in_fine hx hti
 have hfb := jH x t hx.stock htf.need0 x.days.length
 change (hapV x t).fails = -1 ∨ ∃ f : Nat, f < x.days.length ∧ (hapV x t).fails = f at hfb
 obtain ⟨n, en, hn, _, eM, _, _, _, eP, _⟩ := lU hx htf
 have enM : (hapV x t).made.length = n := by rw [eM]; simp
 have hpl := posP_len (rpP x t n) (-1)
 have hrl := kE x t n
 rw [← eP] at hpl
 rw [hwe]
 refine aK (val := .tuple #[.int .i64 (hapV x t).fails, .int .i64 0]) V rfl rfl rfl rfl (fun w hs => ?_) ?_; exact fails_in hx hti w 0 w.heap.size ua uc _ _ _ (bV hs (by repeat constructor) rfl) (hX hs (by repeat constructor) (by repeat constructor) (by repeat constructor))
 (refine aA V Z Z (aT V Z Z Z (aT V Z Z Z (aA V Z Z (aA V Z Z (aF (aD (aB ?_))))))); (iterate 2 refine aJ V Z Z Z ?_))
 refine bG (β := Value) V [] _ M0 rfl rfl rfl rfl (Sp.refl _) (fun _ h => h.elim) (fun w' hs => stocks_ok w' 0 w'.heap.size x ua uc t _ _ _ (bV hs (by repeat constructor) rfl) (by omega) (hX hs (by repeat constructor) (by repeat constructor) (by repeat constructor)) (by omega) (by omega) (by omega) hwe) ?_
 rintro sv _ rfl
 dsimp only [List.cons_append, List.nil_append]
 (refine aA V Z Z (aT V Z Z Z (aT V Z Z Z (aA V Z Z (aA V Z Z (aF (aD (aB ?_))))))); (iterate 2 refine aJ V Z Z Z ?_))
 refine bG (β := Value) V [] _ M0 rfl rfl rfl rfl (Sp.refl _) (fun _ h => h.elim) (fun w' hs => made_ok w' 0 w'.heap.size x ua uc t _ _ _ (bV hs (by repeat constructor) rfl) (by omega) (hX hs (by repeat constructor) (by repeat constructor) (by repeat constructor)) (by omega) (by omega) (by omega) hwe) ?_
 rintro mv _ rfl
 dsimp only [List.cons_append, List.nil_append]
 (refine aA V Z Z (aT V Z Z Z (aT V Z Z Z (aA V Z Z (aA V Z Z (aF (aD (aB ?_))))))); (iterate 2 refine aJ V Z Z Z ?_))
 refine bG (β := Value) V [] _ M0 rfl rfl rfl rfl (Sp.refl _) (fun _ h => h.elim) (fun w' hs => piles_ok w' 0 w'.heap.size x ua uc t _ _ _ (bV hs (by repeat constructor) rfl) (by omega) (hX hs (by repeat constructor) (by repeat constructor) (by repeat constructor)) (by omega) (by omega) (by omega) hwe) ?_
 rintro pv _ rfl
 dsimp only [List.cons_append, List.nil_append]
 (refine aA V Z Z (aT V Z Z Z (aT V Z Z Z (aA V Z Z (aA V Z Z (aF (aD (aD (aB (aA V Z Z (aA V Z Z (aW V Z Z Z (by omega) ?_))))))))))); refine aA V Z Z (aE Z (aA V Z Z (aE Z (aA V Z Z (aE Z (aW V Z Z Z (by omega) (aA V Z Z (aA V Z Z (aE Z (aA V Z Z (aE Z ?_))))))))))); refine aA V Z Z (aE Z (aW V Z Z Z (by omega) (aA V Z Z (aA V Z Z (aE Z (aA V Z Z (aE Z (aA V Z Z (aE Z (aW V Z Z Z (by omega) (aA V Z Z ?_))))))))))); refine aF (aH Z (aM (aD (aD (aB (aA V Z Z (aW V Z Z Z (by omega) (aF (aH Z (aM (aD ?_))))))))))); refine aB ?_; refine aJ V Z Z Z ?_; refine aA V Z Z ?_; refine aI V Z Z Z ?_; refine aA V Z Z ?_; refine aI V Z Z Z ?_; refine aA V Z Z ?_; refine aI V Z Z Z ?_)
 refine bG (β := Value × Value) V [] _ M0 rfl rfl rfl rfl (Sp.refl _) (fun _ h => h.elim) (fun w' hs => rhap_ca w' 0 w'.heap.size x ra rc t _ _ _ (bV hs (by repeat constructor) rfl) hx htf (hw.keep hs.chg0)) ?_
 rintro ⟨s2, m2⟩ _ rfl
 dsimp only [List.cons_append, List.nil_append]
 (refine aA V Z Z ?_; (iterate 3 refine aT V Z Z Z ?_); (iterate 3 refine aA V Z Z ?_); refine aF (aD (aB (aA V Z Z (aF (aD (aD (aB ?_))))))); refine aJ V Z Z Z ?_; refine aA V Z Z ?_; refine aI V Z Z Z ?_; refine aA V Z Z ?_; refine aI V Z Z Z ?_; refine aA V Z Z ?_; refine aI V Z Z Z ?_)
 refine bG (β := Value) V [] _ M0 rfl rfl rfl rfl (Sp.refl _) (fun _ h => h.elim) (fun w' hs => rpiles_ca w' 0 w'.heap.size x ra rc t _ _ _ (bV hs (by repeat constructor) rfl) hx htf (hw.keep hs.chg0)) ?_
 rintro _ p2 rfl
 dsimp only [List.cons_append, List.nil_append]
 rw [en, enM, eP]
 generalize rpP x t n = Q at *
 clear eM
 refine bL (fun w hs => hs.slice2 (v := p2) (by repeat constructor)) ?_
 rintro ⟨pa, pc, rfl⟩
 (refine aA V Z Z (aA V Z Z (aF (aQ ?_))))
 refine eD (H' := [.ow (.slice none 0 0) 127 2 (jC (-1) (Q.take 0)).length (spC (jC (-1) (Q.take 0))), .pt b5 (wnC x ua uc) 39, .pt b6 [.slice ma1 t.need.length mc1, .slice ma2 t.make.length mc2, .slice ma3 t.loss.length mc3] 44, .pt b7 (wnC x ra rc) 108, .ow (.slice ua x.days.length uc) 46 6 x.days.length (dyC x.days), .ow (.slice ma1 t.need.length mc1) 3 1 t.need.length (aP t.need), .ow (.slice ma2 t.make.length mc2) 3 1 t.make.length (aP t.make), .ow (.slice ma3 t.loss.length mc3) 3 1 t.loss.length (aP t.loss), .ow (.slice ra x.days.length rc) 175 6 x.days.length (dyC x.days), .pt b2 (wnC x a c) 39, .pt b3 [.slice a1 t.need.length c1, .slice a2 t.make.length c2, .slice a3 t.loss.length c3] 44, .ow sv 3 1 n (aP (hapV x t).stocks), .ow mv 3 1 n (aP (hapV x t).made), plK pv (jC (-1) Q), .ow s2 3 1 n (aP (hapV x t).stocks), .ow m2 3 1 n (aP (hapV x t).made), .ow (.slice pa (n + 1) pc) 3 1 (n + 1) (aP Q), .pt b9 [.slice za1 (aR x).need.length zc1, .slice za2 (aR x).make.length zc2, .slice za3 (aR x).loss.length zc3] 44, .ow (.slice za1 (aR x).need.length zc1) 3 1 (aR x).need.length (aP (aR x).need), .ow (.slice za2 (aR x).make.length zc2) 3 1 (aR x).make.length (aP (aR x).make), .ow (.slice za3 (aR x).loss.length zc3) 3 1 (aR x).loss.length (aP (aR x).loss), .ow (.slice ya1 x.days.length yc1) 3 1 x.days.length (aP (aR x).need), .ow (.slice ya2 x.days.length yc2) 3 1 x.days.length (aP (aR x).make), .ow (.slice ya3 x.days.length yc3) 3 1 x.days.length (aP (aR x).loss)]) (fun w' hs => (Sat.ownil hs 127 2).sp (by repeat constructor)) ?_
 refine cB (σ := Nat × Value) (fun s => s.1 ≤ n + 1) (fun s => n + 1 - s.1) (fun s => [(2, .pointer (some ⟨b2, 0, none⟩)), (3, .pointer (some ⟨b3, 0, none⟩)), (5, .pointer (some ⟨b5, 0, none⟩)), (6, .pointer (some ⟨b6, 0, none⟩)), (7, .pointer (some ⟨b7, 0, none⟩)), (14, .int .i64 (hapV x t).fails), (15, sv), (17, mv), (19, pv), (21, s2), (22, m2), (23, .int .i64 (hapV x t).fails), (24, s.2), (187, .slice pa (n + 1) pc), (188, .int .i64 ((n + 1 : Nat) : Int)), (189, .int .i64 s.1)])
  (fun s => [.ow s.2 127 2 (jC (-1) (Q.take s.1)).length (spC (jC (-1) (Q.take s.1))), .pt b5 (wnC x ua uc) 39, .pt b6 [.slice ma1 t.need.length mc1, .slice ma2 t.make.length mc2, .slice ma3 t.loss.length mc3] 44, .pt b7 (wnC x ra rc) 108, .ow (.slice ua x.days.length uc) 46 6 x.days.length (dyC x.days), .ow (.slice ma1 t.need.length mc1) 3 1 t.need.length (aP t.need), .ow (.slice ma2 t.make.length mc2) 3 1 t.make.length (aP t.make), .ow (.slice ma3 t.loss.length mc3) 3 1 t.loss.length (aP t.loss), .ow (.slice ra x.days.length rc) 175 6 x.days.length (dyC x.days), .pt b2 (wnC x a c) 39, .pt b3 [.slice a1 t.need.length c1, .slice a2 t.make.length c2, .slice a3 t.loss.length c3] 44, .ow sv 3 1 n (aP (hapV x t).stocks), .ow mv 3 1 n (aP (hapV x t).made), plK pv (jC (-1) Q), .ow s2 3 1 n (aP (hapV x t).stocks), .ow m2 3 1 n (aP (hapV x t).made), .ow (.slice pa (n + 1) pc) 3 1 (n + 1) (aP Q), .pt b9 [.slice za1 (aR x).need.length zc1, .slice za2 (aR x).make.length zc2, .slice za3 (aR x).loss.length zc3] 44, .ow (.slice za1 (aR x).need.length zc1) 3 1 (aR x).need.length (aP (aR x).need), .ow (.slice za2 (aR x).make.length zc2) 3 1 (aR x).make.length (aP (aR x).make), .ow (.slice za3 (aR x).loss.length zc3) 3 1 (aR x).loss.length (aP (aR x).loss), .ow (.slice ya1 x.days.length yc1) 3 1 x.days.length (aP (aR x).need), .ow (.slice ya2 x.days.length yc2) 3 1 x.days.length (aP (aR x).make), .ow (.slice ya3 x.days.length yc3) 3 1 x.days.length (aP (aR x).loss)]) (0, .slice none 0 0) (by simp) ⟨rfl, rfl, rfl, rfl, rfl, rfl, rfl, rfl, rfl, rfl, rfl, rfl, rfl, rfl, rfl, rfl, trivial⟩ (by repeat constructor) ?_
 rintro ⟨k, v⟩ hk K hK
 simp only at hk
 dsimp only
 (refine aD (aB (aA V Z Z (aF (aD ?_)))))
 refine dL Z (fun hc => ?_) (fun hc => ?_)
 ·have hk2 : k < n + 1 := by omega
  have hk3 : k < Q.length := by omega
  clear hc
  refine cX (fun w hs => hs.ownSome (v := .slice pa (n + 1) pc) (by repeat constructor) (by omega)) ?_
  rintro ⟨e1, f1, e⟩
  cases e
  have eT := posP_take Q hk3
  have hpl2 := posP_len (Q.take k) (-1)
  rw [List.length_take] at hpl2
  (refine aM (aD (aQ (aD (aB (aA V Z Z ?_))))))
  (refine aV V Z Z Z Z Z (by omega) (by omega) ?_; refine bB V Z Z Z (fun w hs => RdI.at (hs.rdI (v := .slice (some ⟨e1, 0, none⟩) (n + 1) pc) (l := Q) (by repeat constructor) (by omega)) k hk3) ?_)
  (refine aA V Z Z (aA V Z Z (aF (aD (aB (aA V Z Z (aA V Z Z (aF ?_))))))))
  generalize Q[k] = q at *
  refine dL Z (fun hc => ?_) (fun hc => ?_)
  ·rw [if_pos hc] at eT
   (refine aB (aA V Z Z (aA V Z Z (bA V Z Z Z Z (by omega) (by omega) (aA V Z Z ?_)))))
   refine dJ #[.int .i64 ((k : Int) - 1), .int .i64 q] rfl (by kernel_rfl) rfl ?_
   refine cJ 127 [.int .i64 ((k : Int) - 1), .int .i64 q] rfl (by kernel_rfl) rfl (fun bn => ?_)
   refine bZ (q := 1) slPl rfl rfl rfl (fun v' => by repeat constructor) (fun w' hs => ⟨_, _, Blk.rdSp (hs.blk (b := bn) (by repeat constructor))⟩) (spC_one _) (by omega) (by omega) (fun u => ?_)
   (refine aA V Z Z (aF (bJ (aB (bA V Z Z Z Z (by omega) (by omega) (aA V Z Z (aF ?_)))))))
   exact hK (k + 1, u) _ _ (by simp only; omega) (by simp only; omega) ⟨rfl, rfl, rfl, rfl, rfl, rfl, rfl, rfl, rfl, rfl, rfl, rfl, rfl, rfl, rfl, rfl, trivial⟩ (by dsimp only; rw [eT, List.length_append, show spC (jC (-1) (Q.take k) ++ [((k : Int) - 1, q)]) = spC (jC (-1) (Q.take k)) ++ spC [((k : Int) - 1, q)] by simp [spC]]; repeat constructor)
  ·rw [if_neg hc, List.append_nil] at eT
   (refine aM (bJ (aB (bA V Z Z Z Z (by omega) (by omega) (aA V Z Z (aF ?_))))))
   exact hK (k + 1, v) _ _ (by simp only; omega) (by simp only; omega) ⟨rfl, rfl, rfl, rfl, rfl, rfl, rfl, rfl, rfl, rfl, rfl, rfl, rfl, rfl, rfl, rfl, trivial⟩ (by dsimp only; rw [eT]; repeat constructor)
 ·obtain rfl : k = n + 1 := by omega
  rw [List.take_of_length_le (by omega)]
  clear hc hK
  have hS : (hapV x t).stocks.length ≤ 1000000 := by omega
  have hM : (hapV x t).made.length ≤ 1000000 := by omega
  have hP : (jC (-1) Q).length ≤ 1000000 := by rw [eP] at hpl; omega
  generalize (hapV x t).stocks = S at *
  generalize (hapV x t).made = M at *
  (refine bO _ rfl (aD (aB (aA V Z Z (aA V Z Z (cO V Z Z Z (by omega) (aA V Z Z (aE Z (aA V Z Z (aE Z (aA V Z Z (aE Z ?_))))))))))))
  refine aK (val := .bool true) V rfl rfl rfl rfl (fun w hs => ?_) ?_; exact hJ w 0 w.heap.size 0 w.heap.size sv s2 S (hs.rdI (by repeat constructor) en.symm) (hs.rdI (by repeat constructor) en.symm) hS
  (refine aA V Z Z (aA V Z Z (aE Z (aA V Z Z (aE Z (aA V Z Z (aE Z ?_)))))))
  refine aK (val := .bool true) V rfl rfl rfl rfl (fun w hs => ?_) ?_; exact hJ w 0 w.heap.size 0 w.heap.size mv m2 M (hs.rdI (by repeat constructor) enM.symm) (hs.rdI (by repeat constructor) enM.symm) hM
  (refine aA V Z Z (aA V Z Z (aE Z (aA V Z Z (aE Z (aA V Z Z (aE Z ?_)))))))
  refine aK (val := .bool true) V rfl rfl rfl rfl (fun w hs => ?_) ?_; exact eqP_ca w 0 w.heap.size 0 w.heap.size pv v (jC (-1) Q) (RdS.of (hs.all (plK pv (jC (-1) Q)) (by repeat constructor))) (sat_rdS hs (by repeat constructor) rfl) hP
  (refine aA V Z Z (aA V Z Z (aE Z ?_)); refine aJ V Z Z Z ?_; refine aE Z ?_; refine aJ V Z Z Z ?_; refine aE Z ?_)
  refine aK (val := .bool true) V rfl rfl rfl rfl (fun w hs => ?_) ?_; exact jZ w 0 w.heap.size lo hi x ua a uc c (bV hs (by repeat constructor) rfl) (RdE.keep h hs.chg0) (by omega)
  (refine aA V Z Z (aA V Z Z (aE Z ?_)); refine aJ V Z Z Z ?_; refine aE Z ?_; refine aJ V Z Z Z ?_; refine aE Z ?_)
  refine aK (val := .bool true) V rfl rfl rfl rfl (fun w hs => ?_) ?_; exact mC w t _ _ _ _ _ _ (hX hs (by repeat constructor) (by repeat constructor) (by repeat constructor)) (hw.keep hs.chg0) (by omega) (by omega) (by omega)
  (refine aA V Z Z (aA V Z Z (aE Z ?_)))
  refine aK (val := .bool true) V rfl rfl rfl rfl (fun w hs => ?_) ?_; exact dS w
  (refine aA V Z Z (aA V Z Z (aF (aS ?_))))
  refine aU V Z (by repeat constructor) fun w hs => ?_
  exact ⟨rfl, hs.chg0⟩
end Go.Proofs.YtgeajgmefokifaaGreat

/- Walks: loops copied and turned, rules as numbers, whether there are too many lists; contracts in one piece. -/
namespace Go.Proofs.YtgeajgmefokifaaGreat
open Go Go.Eng

theorem slLp : SlT Tryz.prog 23 32 3 24 (.agg #[.int .i64 0, .int .i64 0, .int .i64 0]) := ⟨by kernel_rfl, by kernel_rfl, by kernel_rfl, by decide⟩
theorem slLr : SlT Tryz.prog 86 167 3 24 (.agg #[.int .i64 0, .int .i64 0, .int .i64 0]) := ⟨by kernel_rfl, by kernel_rfl, by kernel_rfl, by decide⟩
theorem lpC_snoc (l : List Lp) (d : Lp) : lpC (l ++ [d]) = lpC l ++ lpC [d] := by simp [lpC]
theorem lpC_take (l : List Lp) {k : Nat} (h : k < l.length) : lpC (l.take (k + 1)) = lpC (l.take k) ++ lpC [l[k]] := by
 rw [List.take_succ_eq_append_getElem h]
 exact lpC_snoc _ _
theorem lpC_one (l : List Lp) : ∀ c ∈ lpC l, cU c = true := fun c hc => by obtain ⟨y, _, hy⟩ := List.mem_flatMap.1 hc; simp at hy; rcases hy with rfl | rfl | rfl <;> rfl
theorem Blk.rdLp {w : World} {b : Nat} {d : Lp} {t : TypeId} (h : Blk w b (lpC [d]) t) : Rd w b (b + 1) (.slice (some ⟨b, 0, none⟩) 1 1) 3 1 (lpC [d]) :=
 ⟨rfl, .inr ⟨b, 0, 1, rfl, fun _ => ⟨Nat.le_refl _, Nat.lt_succ_self _, h.lt⟩, fun j _ => by rw [Nat.zero_add]; exact Blk.cell h j⟩⟩
theorem eH {w0 w : World} {M : Nat → Prop} {H : List Ck} {v : Value} {t n : Nat} {l : List Lp} (hs : Sat w0 M H w) (hm : .ow v t 3 n (lpC l) ∈ H) (hn : n = l.length) : RdL w 0 w.heap.size v l := own_rdL (hs.mem hm) hn
theorem jA (w : World) (lo hi : Nat) (v : Value) (l : List Lp) (h : RdL w lo hi v l) (hlen : l.length ≤ 1000000) : Ca Tryz.prog 36 [v] w fun r w' => ∃ u : Value, r = u ∧ Sat w M0 [.ow u 32 3 l.length (lpC l)] w' := by
 obtain ⟨a, ca, rfl, _⟩ := RdL.outI h
 refine cS (Sat.nil w M0) Tryz.func36 rfl (by simp [Tryz.ntmps36]) ?_
 (refine aD (aB (aA V Z Z (aF (aD (aB (aA V Z Z ?_)))))))
 refine lD (H' := [.ow (.slice none 0 0) 32 3 0 []]) (fun w' hs => Sat.ownil hs 32 3) ?_
 refine bZ (q := l.length) slLp rfl rfl rfl (fun v' => by repeat constructor) (fun w' hs => ⟨lo, hi, RdL.row (RdE.keep h hs.chg0)⟩) (lpC_one l) (by omega) (by omega) (fun u => ?_)
 (refine aA V Z Z (aF (aS ?_)))
 refine aU V Z (by repeat constructor) fun w hs => ?_
 exact ⟨u, rfl, by simpa using hs⟩
set_option maxHeartbeats 2000000 in
theorem fR (w : World) (lo hi : Nat) (v : Value) (s : List Lp) (h : RdL w lo hi v s) (hlen : s.length ≤ 1000000) :
  Ca Tryz.prog 38 [v] w fun r w' => ∃ y : Option Addr × Nat, r = .slice y.1 s.length y.2 ∧ Sat w M0 [.ow (.slice y.1 s.length y.2) 167 3 s.length (lpC s)] w' := by
 obtain ⟨a, c, rfl, hsa⟩ := RdL.outI h
 refine cS (Sat.nil w M0) Tryz.func38 rfl (by simp [Tryz.ntmps38]) ?_
 (refine aD (aB (aA V Z Z (aF (aD (aB (aA V Z Z (aF (aD (aD (aB ?_)))))))))); (iterate 3 refine aA V Z Z ?_); refine aF (aQ ?_))
 refine eD (H' := [.ow (.slice none 0 0) 167 3 0 (lpC [])]) (fun w' hs => (Sat.ownil hs 167 3).sp (by repeat constructor)) ?_
 refine cB (σ := Nat × Value) (fun q => q.1 ≤ s.length) (fun q => s.length - q.1) (fun q => [(3, q.2), (6, .slice a s.length c), (7, .int .i64 s.length), (8, .int .i64 q.1)])
  (fun q => [.ow q.2 167 3 q.1 (lpC (s.take q.1))]) (0, .slice none 0 0) (by simp) ⟨rfl, rfl, rfl, rfl, trivial⟩ (by repeat constructor) ?_
 rintro ⟨k, dv⟩ hk K hK
 simp only at hk
 dsimp only
 (refine aD (aB (aA V Z Z (aF (aD ?_)))))
 refine dL Z (fun hc => ?_) (fun hc => ?_)
 ·have hk2 : k < s.length := by first | omega | (simp at hc; omega)
  clear hc
  obtain ⟨b, off, rfl⟩ := hsa (by omega)
  have e1 := lpC_take s hk2
  (refine aM (aD (aQ (aD (aB ?_)))))
  refine aV V Z Z Z Z Z (by omega) (by omega) ?_
  skip
  refine dU V Z Z Z Z (fun w hs => RdL.at (RdE.keep h hs.chg0) k hk2) ?_
  skip
  refine bI zero32 rfl (fun b5 => ?_)
  (refine bS V Z Z Z Z Z (by repeat constructor) rfl ?_; refine aF (aB (aA V Z Z (aJ V Z Z Z ?_))))
  generalize s[k] = d at *
  obtain ⟨n0, n1, n2⟩ := d
  dsimp only at e1 ⊢
  refine cJ 167 (lpC [⟨n0, n1, n2⟩]) rfl (by kernel_rfl) rfl (fun bn => ?_)
  refine bZ (q := 1) slLr rfl rfl rfl (fun v' => by repeat constructor) (fun w' hs => ⟨_, _, Blk.rdLp (hs.blk (b := bn) (by repeat constructor))⟩) (lpC_one _) (by omega) (by omega) (fun u => ?_)
  (refine aA V Z Z (aF (bJ (aB (bA V Z Z Z Z (by omega) (by omega) (aA V Z Z (aF ?_)))))))
  exact hK (k + 1, u) _ _ (by simp only; omega) (by simp only; omega) ⟨rfl, rfl, rfl, rfl, trivial⟩ (by dsimp only; rw [e1]; repeat constructor)
 ·obtain rfl : k = s.length := by omega
  clear hc hK
  rw [List.take_length]
  refine cX (fun w hs => hs.slice2 (v := dv) (by repeat constructor)) ?_
  rintro ⟨ua, uc, rfl⟩
  (refine bO _ rfl (aD (aB (aA V Z Z (aA V Z Z (aF (aS ?_)))))))
  refine aU V Z (by repeat constructor) fun w hs => ?_
  exact ⟨(ua, uc), rfl, hs.sp (by repeat constructor)⟩
theorem ints_take (l : List Int) {k : Nat} (h : k < l.length) : aP (l.take (k + 1)) = aP (l.take k) ++ [.int .i64 l[k]] := by
 unfold aP
 rw [List.take_succ_eq_append_getElem h, List.map_append]
 rfl
set_option maxHeartbeats 2000000 in
theorem numbers_ca (w : World) (lo hi : Nat) (v : Value) (l : List Int) (h : RdI w lo hi v l) (hlen : l.length ≤ 1000000) :
  Ca Tryz.prog 40 [v] w fun r w' => ∃ u : Value, r = u ∧ Sat w M0 [.ow u 3 1 l.length (aP l)] w' := by
 obtain ⟨a, c, rfl, hsa⟩ := RdI.outI h
 refine cS (Sat.nil w M0) Tryz.func40 rfl (by simp [Tryz.ntmps40]) ?_
 (refine aD (aB (aA V Z Z (aF (aD (aB (aA V Z Z (aF (aD (aD (aB ?_)))))))))); (iterate 3 refine aA V Z Z ?_); refine aF (aQ ?_))
 refine eD (H' := [.ow (.slice none 0 0) 3 1 0 (aP [])]) (fun w' hs => (Sat.ownil hs 3 1).sp (by repeat constructor)) ?_
 refine cB (σ := Nat × Value) (fun q => q.1 ≤ l.length) (fun q => l.length - q.1) (fun q => [(3, q.2), (6, .slice a l.length c), (7, .int .i64 l.length), (8, .int .i64 q.1)])
  (fun q => [.ow q.2 3 1 q.1 (aP (l.take q.1))]) (0, .slice none 0 0) (by simp) ⟨rfl, rfl, rfl, rfl, trivial⟩ (by repeat constructor) ?_
 rintro ⟨k, dv⟩ hk K hK
 simp only at hk
 dsimp only
 (refine aD (aB (aA V Z Z (aF (aD ?_)))))
 refine dL Z (fun hc => ?_) (fun hc => ?_)
 ·have hk2 : k < l.length := by first | omega | (simp at hc; omega)
  clear hc
  obtain ⟨b, off, rfl⟩ := hsa (by omega)
  have e1 := ints_take l hk2
  (refine aM (aD (aQ (aD (aB ?_)))))
  (refine aV V Z Z Z Z Z (by omega) (by omega) ?_; refine bB V Z Z Z (fun w hs => RdI.at (RdE.keep h hs.chg0) k hk2) ?_)
  (refine aA V Z Z (aF (aB (aA V Z Z (aA V Z Z ?_)))))
  refine cJ 3 [.int .i64 l[k]] rfl (by kernel_rfl) rfl (fun bn => ?_)
  refine bZ (q := 1) slI rfl rfl rfl (fun v' => by repeat constructor) (fun w' hs => ⟨_, _, Blk.rd (hs.blk (b := bn) (by repeat constructor)) rfl 1⟩) (by simp [cU]) (by omega) (by omega) (fun u => ?_)
  (refine aA V Z Z (aF (bJ (aB (bA V Z Z Z Z (by omega) (by omega) (aA V Z Z (aF ?_)))))))
  exact hK (k + 1, u) _ _ (by simp only; omega) (by simp only; omega) ⟨rfl, rfl, rfl, rfl, trivial⟩ (by dsimp only; rw [e1]; repeat constructor)
 ·obtain rfl : k = l.length := by omega
  clear hc hK
  rw [List.take_length]
  (refine bO _ rfl (aD (aB (aA V Z Z (aA V Z Z (aF (aS ?_)))))))
  refine aU V Z (by repeat constructor) fun w hs => ?_
  exact ⟨dv, rfl, hs.sp (by repeat constructor)⟩
set_option maxHeartbeats 2000000 in
theorem many_ca (w : World) (a : Option Addr) (n c : Nat) (r : Rl) (hn : n ≤ maxLen) :
  Ca Tryz.prog 42 [.slice a n c, .agg (rlC r).toArray] w fun v w' => ∃ b : Bool, (v = .bool b ∧ (b = false → n ≤ 15)) ∧ Sat w M0 [] w' := by
 simp only [maxLen] at hn
 refine cS (Sat.nil w M0) Tryz.func42 rfl (by simp [Tryz.ntmps42]) ?_
 (refine aD (aB ?_))
 refine bD Z Z (fun b3 => ?_)
 by_cases h15 : n > 15
 ·(refine aA V Z Z (aF (aD (aD (aB (aA V Z Z (aA V Z Z (cP V Z Z Z (by omega) (aF (aL Z (aD (aB ?_))))))))))); refine aA V Z Z (aF (aS ?_)))
  refine aU V Z (by repeat constructor) fun w hs => ?_
  exact ⟨true, ⟨rfl, by simp⟩, hs.sp (by repeat constructor)⟩
 (refine aA V Z Z (aF (aD (aD (aB (aA V Z Z (aA V Z Z (cT V Z Z Z (by omega) (aF (aH Z (aM (aD ?_))))))))))); refine aB (aA V Z Z (aF (aD (aD (aB (aA V Z Z (aI V Z Z Z ?_))))))); (iterate 3 refine aA V Z Z ?_); refine aF (aQ ?_))
 obtain ⟨T, hT, hT7⟩ : ∃ T : Nat, (T : Int) = min (max 0 r.laps) 7 ∧ T ≤ 7 := ⟨(min (max 0 r.laps) 7).toNat, by omega, by omega⟩
 obtain ⟨m, hm, hm1, hm2⟩ : ∃ m : Nat, (m : Int) = max 1 (n : Int) ∧ 1 ≤ m ∧ m ≤ 15 := ⟨max 1 n, by omega, by omega, by omega⟩
 refine cB (σ := Nat × Nat) (fun q => q.1 ≤ T ∧ q.2 ≤ 15 ^ q.1) (fun q => T - q.1) (fun q => [(0, .slice a n c), (3, .pointer (some ⟨b3, 0, none⟩)), (5, .int .i64 q.2), (12, .int .i64 T), (13, .int .i64 q.1)]) (fun _ => [.pt b3 (rlC r) 27]) (0, 1) ⟨by simp, by simp⟩ ⟨rfl, rfl, rfl, cM rfl hT.symm, rfl, trivial⟩ (by repeat constructor) ?_
 rintro ⟨k, A⟩ ⟨hk, hA⟩ K hK
 simp only at hk hA
 dsimp only
 have hA7 : A ≤ 170859375 := Nat.le_trans hA (Nat.pow_le_pow_right (by omega) (by omega) : 15 ^ k ≤ 15 ^ 7)
 (refine aD (aB (aA V Z Z (aF (aD ?_)))))
 refine dL Z (fun hc => ?_) (fun hc => ?_)
 ·have hk2 : k < T := by first | omega | (simp at hc; omega)
  clear hc
  have hAm : A * m ≤ 15 ^ (k + 1) := by rw [Nat.pow_succ]; exact Nat.mul_le_mul hA hm2
  have hAm2 : A * m ≤ 170859375 * 15 := Nat.mul_le_mul hA7 hm2
  have hc1 : (A : Int) * (m : Int) = ((A * m : Nat) : Int) := by simp
  have hc2 : 0 ≤ (A : Int) * (m : Int) ∧ (A : Int) * (m : Int) ≤ 170859375 * 15 := by rw [hc1]; omega
  rw [hm] at hc1 hc2
  (refine aM (aD (aQ (aB ?_))); (iterate 4 refine aA V Z Z ?_); refine bA V Z Z Z Z (by omega) (by omega) (aA V Z Z (aF (bJ (aB (bA V Z Z Z Z (by omega) (by omega) (aA V Z Z (aF ?_))))))))
  exact hK (k + 1, A * m) _ _ ⟨by simp only; omega, hAm⟩ (by simp only; omega) ⟨rfl, rfl, cM rfl hc1, rfl, rfl, trivial⟩ (by repeat constructor)
 ·by_cases h41 : (A : Int) > 4100
  ·by_cases h6 : r.laps ≤ 6
   ·(refine bO _ rfl (aD (aB (aA V Z Z (cP V Z Z Z (by omega) (aA V Z Z (aE Z (aA V Z Z (aE Z (aI V Z Z Z (aE Z (ql_leqT V Z Z Z (by omega) ?_))))))))))); refine aA V Z Z (aA V Z Z (aF (aS ?_))))
    refine aU V Z (by repeat constructor) fun w hs => ?_
    exact ⟨true, ⟨rfl, by simp⟩, hs.sp (by repeat constructor)⟩
   ·(refine bO _ rfl (aD (aB (aA V Z Z (cP V Z Z Z (by omega) (aA V Z Z (aE Z (aA V Z Z (aE Z (aI V Z Z Z (aE Z (ql_leqF V Z Z Z (by omega) ?_))))))))))); refine aA V Z Z (aA V Z Z (aF (aS ?_))))
    refine aU V Z (by repeat constructor) fun w hs => ?_
    exact ⟨false, ⟨rfl, fun _ => by omega⟩, hs.sp (by repeat constructor)⟩
  ·(refine bO _ rfl (aD (aB (aA V Z Z (cT V Z Z Z (by omega) (aA V Z Z ?_))))); (iterate 3 refine bE Z Z Z ?_); refine aA V Z Z (aA V Z Z (aF (aS ?_))))
   refine aU V Z (by repeat constructor) fun w hs => ?_
   exact ⟨false, ⟨rfl, fun _ => by omega⟩, hs.sp (by repeat constructor)⟩

/-! Contracts in one piece -/
theorem brok_fst {s : List Lp} {r : Rl} {c : List Int} : (brokenV s r c).1 = if (brokenV s r c).2 = 0 then eZ s r c else [] := by
 unfold brokenV
 split
 ·rename_i h
  simp [h]
 split
 ·rename_i h
  simp [h]
 split <;> simp
theorem kC (s : List Lp) (r : Rl) : ((allV s r).2 = 0 ∧ (allV s r).1 = jY s r ∧ CR s r ∧ (jY s r).length ≤ 300) ∨ ((allV s r).2 ≠ 0 ∧ (allV s r).1 = []) := by
 unfold allV
 split
 ·rename_i h
  exact .inr ⟨h, rfl⟩
 split
 ·exact .inr ⟨by simp, rfl⟩
 ·rename_i h1 h2
  exact .inl ⟨rfl, rfl, cA.1 (by omega), by omega⟩
theorem covV_cases (s : List Lp) (r : Rl) (depth volume : Int) : ((coveredV s r depth volume).2 = 0 ∧ (coveredV s r depth volume).1 = covL s r depth volume ∧ (covL s r depth volume).length ≤ 300) ∨ ((coveredV s r depth volume).2 ≠ 0 ∧ (coveredV s r depth volume).1 = []) := by
 unfold coveredV
 split
 ·rename_i h
  exact .inr ⟨h, rfl⟩
 split
 ·exact .inr ⟨by simp, rfl⟩
 split
 ·exact .inr ⟨by simp, rfl⟩
 ·rename_i h2
  exact .inl ⟨rfl, rfl, by omega⟩
theorem jO (s : List Lp) (r : Rl) (depth : Int) : (∃ b, (cheapV s r depth) = (b, snowV s b depth, 0) ∧ CR s r ∧ (1 ≤ depth ∧ depth ≤ 200) ∧ eQ s r depth (coursesL s.length (nL r)) = some b) ∨ ((cheapV s r depth).2.2 ≠ 0 ∧ (cheapV s r depth).1 = [] ∧ (cheapV s r depth).2.1 = 0) := by
 unfold cheapV
 split
 ·rename_i h
  exact .inr ⟨h, rfl, rfl⟩
 rename_i h0
 split
 ·exact .inr ⟨by simp, rfl, rfl⟩
 rename_i h1
 split
 ·exact .inr ⟨by simp, rfl, rfl⟩
 ·rename_i b hb
  exact .inl ⟨b, rfl, cA.1 (by omega), cD.1 (by simpa using h1), hb⟩
theorem gR {w w' : World} (t sz : Nat) (h : Chg [] w w') : Sat w M0 [.ow (.slice none 0 0) t sz 0 []] w' := Sat.ownil ((Sat.nil w M0).keep h) t sz
theorem mF {w w' : World} (h : Chg [] w w') : Sat w M0 (lsK (.slice none 0 0) []) w' := (Sat.un_nil (gR 22 1 h)).sp (by repeat constructor)
section
variable (w : World) (lo hi : Nat) (a : Option Addr) (cp : Nat) (s : List Lp) (r : Rl) (h : RdL w lo hi (.slice a s.length cp) s) (hlen : s.length ≤ 1000000)
include h hlen
theorem brok_u (lo2 hi9 : Nat) (v : Value) (c : List Int) (hv : RdI w lo2 hi9 v c) (hlc : c.length ≤ 1000000) :
  Ca Tryz.prog 20 [.slice a s.length cp, .agg (rlC r).toArray, v] w fun x w' => ∃ u : Value, x = .tuple #[u, .int .i64 (brokenV s r c).2] ∧ Sat w M0 [.ow u 154 1 (brokenV s r c).1.length (aP (brokenV s r c).1)] w' := by
 rw [brok_fst]
 by_cases e : (brokenV s r c).2 = 0
 ·rw [if_pos e, e]
  exact brok_ok w lo hi lo2 hi9 a cp v s r c h hlen hv hlc e
 ·rw [if_neg e]
  exact (brok_no w lo hi lo2 hi9 a cp v s r c h hlen hv hlc e).mono fun x w' ⟨h1, h2⟩ => ⟨_, h1, gR _ _ h2⟩
theorem rbrok_u (lo2 hi9 : Nat) (v : Value) (c : List Int) (hv : RdI w lo2 hi9 v c) (hlc : c.length ≤ 1000000) :
  Ca Tryz.prog 39 [.slice a s.length cp, .agg (rlC r).toArray, v] w fun x w' => ∃ u : Value, x = .tuple #[u, .int .i64 (brokenV s r c).2] ∧ Sat w M0 [.ow u 3 1 (brokenV s r c).1.length (aP (brokenV s r c).1)] w' := by
 rw [brok_fst]
 by_cases e : (brokenV s r c).2 = 0
 ·rw [if_pos e, e]
  exact rbrok_ok w lo hi lo2 hi9 a cp v s r c h hlen hv hlc e
 ·rw [if_neg e]
  exact (rbrok_no w lo hi lo2 hi9 a cp v s r c h hlen hv hlc e).mono fun x w' ⟨h1, h2⟩ => ⟨_, h1, gR _ _ h2⟩
theorem all_u : Ca Tryz.prog 16 [.slice a s.length cp, .agg (rlC r).toArray] w fun x w' => ∃ y : Value × List (Value × List Int), (x = .tuple #[y.1, .int .i64 (allV s r).2] ∧ y.2.map (·.2) = (allV s r).1) ∧ Sat w M0 (lsK y.1 y.2) w' := by
 rcases kC s r with ⟨e, e2, hcr, h3⟩ | ⟨e, e2⟩
 ·rw [e, e2]
  exact all_ok w lo hi a cp s r h hcr h3
 ·rw [e2]
  exact (all_no w lo hi a cp s r h hlen e).mono fun x w' ⟨h1, h2⟩ => ⟨(_, []), ⟨h1, rfl⟩, mF h2⟩
theorem rall_u : Ca Tryz.prog 43 [.slice a s.length cp, .agg (rlC r).toArray] w fun x w' => ∃ y : Value × List (Value × List Int), (x = .tuple #[y.1, .int .i64 (allV s r).2] ∧ y.2.map (·.2) = (allV s r).1) ∧ Sat w M0 (lsK y.1 y.2) w' := by
 rcases kC s r with ⟨e, e2, hcr, h3⟩ | ⟨e, e2⟩
 ·rw [e, e2]
  exact rall_ok w lo hi a cp s r h hcr h3
 ·rw [e2]
  exact (rall_no w lo hi a cp s r h hlen e).mono fun x w' ⟨h1, h2⟩ => ⟨(_, []), ⟨h1, rfl⟩, mF h2⟩
end
/-- The fewest rules, with the first course. -/
def yldV (s : List Lp) (r : Rl) : (List Int × List Int) × Int := if checkS s r ≠ 0 then (([], []), checkS s r) else ((eZ s r ((fN s r (coursesL s.length (nL r))).getD []), (fN s r (coursesL s.length (nL r))).getD []), 0)
section
variable (w : World) (lo hi : Nat) (a : Option Addr) (cp : Nat) (s : List Lp) (r : Rl) (h : RdL w lo hi (.slice a s.length cp) s) (hlen : s.length ≤ 1000000)
include h hlen
theorem yield_u : Ca Tryz.prog 45 [.slice a s.length cp, .agg (rlC r).toArray] w fun x w' => ∃ y : Value × Value, x = .tuple #[y.1, y.2, .int .i64 (yldV s r).2] ∧ Sat w M0 [.ow y.1 154 1 (yldV s r).1.1.length (aP (yldV s r).1.1), .ow y.2 3 1 (yldV s r).1.2.length (aP (yldV s r).1.2)] w' := by
 by_cases e : checkS s r = 0
 ·have hcr := cA.1 e
  obtain ⟨R, hR, _⟩ := yield_best (s := s) r hcr.s.n1
  have ev : yldV s r = ((eZ s r R, R), 0) := by unfold yldV; rw [if_neg (by omega), hR]; rfl
  rw [ev]
  exact yield_ok w lo hi a cp s r R h hcr hR
 ·have ev : yldV s r = (([], []), checkS s r) := by unfold yldV; rw [if_pos e]
  rw [ev]
  exact (yield_no w lo hi a cp s r h hlen e).mono fun x w' ⟨h1, h2⟩ => ⟨(_, _), h1, Sat.ownil (gR 3 1 h2) _ _⟩
theorem ryield_u : Ca Tryz.prog 46 [.slice a s.length cp, .agg (rlC r).toArray] w fun x w' => ∃ y : Value × Value, x = .tuple #[y.1, y.2, .int .i64 (yldV s r).2] ∧ Sat w M0 [.ow y.1 3 1 (yldV s r).1.1.length (aP (yldV s r).1.1), .ow y.2 3 1 (yldV s r).1.2.length (aP (yldV s r).1.2)] w' := by
 by_cases e : checkS s r = 0
 ·have hcr := cA.1 e
  obtain ⟨R, hR, _⟩ := yield_best (s := s) r hcr.s.n1
  have ev : yldV s r = ((eZ s r R, R), 0) := by unfold yldV; rw [if_neg (by omega), hR]; rfl
  rw [ev]
  exact ryield_ok w lo hi a cp s r R h hcr hR
 ·have ev : yldV s r = (([], []), checkS s r) := by unfold yldV; rw [if_pos e]
  rw [ev]
  exact (ryield_no w lo hi a cp s r h hlen e).mono fun x w' ⟨h1, h2⟩ => ⟨(_, _), h1, Sat.ownil (gR 3 1 h2) _ _⟩
theorem cov_u (depth volume : Int) : Ca Tryz.prog 34 [.slice a s.length cp, .agg (rlC r).toArray, .int .i64 depth, .int .i64 volume] w fun x w' => ∃ y : Value × List (Value × List Int), (x = .tuple #[y.1, .int .i64 (coveredV s r depth volume).2] ∧ y.2.map (·.2) = (coveredV s r depth volume).1) ∧ Sat w M0 (lsK y.1 y.2) w' := by
 rcases covV_cases s r depth volume with ⟨e, e2, _⟩ | ⟨e, e2⟩
 ·rw [e2]
  have := cov_ok w lo hi a cp s r depth volume h hlen e
  rw [e]
  exact this
 ·rw [e2]
  exact (cov_no w lo hi a cp s r depth volume h hlen e).mono fun x w' ⟨h1, h2⟩ => ⟨(_, []), ⟨h1, rfl⟩, mF h2⟩
theorem rcov_u (depth volume : Int) : Ca Tryz.prog 49 [.slice a s.length cp, .agg (rlC r).toArray, .int .i64 depth, .int .i64 volume] w fun x w' => ∃ y : Value × List (Value × List Int), (x = .tuple #[y.1, .int .i64 (coveredV s r depth volume).2] ∧ y.2.map (·.2) = (coveredV s r depth volume).1) ∧ Sat w M0 (lsK y.1 y.2) w' := by
 rcases covV_cases s r depth volume with ⟨e, e2, _⟩ | ⟨e, e2⟩
 ·rw [e2]
  have := rcov_ok w lo hi a cp s r depth volume h hlen e
  rw [e]
  exact this
 ·rw [e2]
  exact (rcov_no w lo hi a cp s r depth volume h hlen e).mono fun x w' ⟨h1, h2⟩ => ⟨(_, []), ⟨h1, rfl⟩, mF h2⟩
theorem cheap_u (depth : Int) : Ca Tryz.prog 33 [.slice a s.length cp, .agg (rlC r).toArray, .int .i64 depth] w fun x w' => ∃ v : Value, x = .tuple #[v, .int .i64 (cheapV s r depth).2.1, .int .i64 (cheapV s r depth).2.2] ∧ Sat w M0 [.ow v 3 1 (cheapV s r depth).1.length (aP (cheapV s r depth).1)] w' := by
 rcases jO s r depth with ⟨b, e, hcr, hd, ho⟩ | ⟨e, e2, e3⟩
 ·rw [e]
  exact cheap_ok w lo hi a cp s r depth b h hcr hd ho
 ·rw [e2, e3]
  exact (cheap_no w lo hi a cp s r depth h hlen e).mono fun x w' ⟨h1, h2⟩ => ⟨_, h1, gR _ _ h2⟩
theorem rcheap_u (depth : Int) : Ca Tryz.prog 50 [.slice a s.length cp, .agg (rlC r).toArray, .int .i64 depth] w fun x w' => ∃ v : Value, x = .tuple #[v, .int .i64 (cheapV s r depth).2.1, .int .i64 (cheapV s r depth).2.2] ∧ Sat w M0 [.ow v 3 1 (cheapV s r depth).1.length (aP (cheapV s r depth).1)] w' := by
 rcases jO s r depth with ⟨b, e, hcr, hd, ho⟩ | ⟨e, e2, e3⟩
 ·rw [e]
  exact rcheap_ok w lo hi a cp s r depth b h hcr hd ho
 ·rw [e2, e3]
  exact (rcheap_no w lo hi a cp s r depth h hlen e).mono fun x w' ⟨h1, h2⟩ => ⟨_, h1, gR _ _ h2⟩
end
end Go.Proofs.YtgeajgmefokifaaGreat

/- The walk of CourseRules. -/
namespace Go.Proofs.YtgeajgmefokifaaGreat
open Go Go.Eng

theorem brkV_len (s : List Lp) (r : Rl) (c : List Int) : (brokenV s r c).1.length ≤ 5 := by
 rw [brok_fst]
 split
 ·exact brk_len s r c
 ·simp
set_option maxRecDepth 20000 in
set_option maxHeartbeats 8000000 in
theorem iB (w : World) (lo hi lo2 hi9 : Nat) (v u : Value) (s : List Lp) (r : Rl) (c : List Int) (h : RdL w lo hi v s) (n1 : s.length ≤ maxLen) (hv : RdI w lo2 hi9 u c) (n2 : c.length ≤ maxLen) :
  Ca Tryz.prog 7 [v, .agg (rlC r).toArray, u] w fun x w' => x = .bool true ∧ Chg [] w w' := by
 obtain ⟨a, cp, rfl, _⟩ := RdL.outI h
 obtain ⟨ua, uc, rfl, _⟩ := RdI.outI hv
 simp only [maxLen] at n1 n2
 refine cS (Sat.nil w M0) Tryz.func7 rfl (by simp [Tryz.ntmps7]) ?_
 (refine aD (aB ?_))
 refine bD Z Z (fun b4 => ?_)
 by_cases h15 : s.length > 15
 ·skip
  (refine aA V Z Z (aF (aD (aD (aB (aA V Z Z (aA V Z Z (cP V Z Z Z (by omega) (aA V Z Z ?_)))))))); (iterate 3 refine bE Z Z Z ?_); refine aA V Z Z (aF (aL Z (aD (aB ?_)))))
  refine aK (val := .bool true) V rfl rfl rfl rfl (fun w hs => ?_) ?_; exact dS w
  (refine aA V Z Z (aF (aS ?_)))
  refine aU V Z (by repeat constructor) fun w hs => ?_
  exact ⟨rfl, hs.chg0⟩
 by_cases h10 : c.length > 10
 ·skip
  (refine aA V Z Z (aF (aD (aD (aB (aA V Z Z (aA V Z Z (cT V Z Z Z (by omega) (aA V Z Z (aE Z (aA V Z Z (aE Z ?_))))))))))); refine aA V Z Z (aE Z (cP V Z Z Z (by omega) (aA V Z Z (aF (aL Z (aD (aB ?_))))))))
  refine aK (val := .bool true) V rfl rfl rfl rfl (fun w hs => ?_) ?_; exact dS w
  (refine aA V Z Z (aF (aS ?_)))
  refine aU V Z (by repeat constructor) fun w hs => ?_
  exact ⟨rfl, hs.chg0⟩
 (refine aA V Z Z (aF (aD (aD (aB (aA V Z Z (aA V Z Z (cT V Z Z Z (by omega) (aA V Z Z (aE Z (aA V Z Z (aE Z ?_))))))))))); refine aA V Z Z (aE Z (cT V Z Z Z (by omega) (aA V Z Z (aF (aH Z (aM (aD (aB (aA V Z Z ?_))))))))))
 refine bG (β := Value) V [] _ M0 rfl rfl rfl rfl (Sp.refl _) (fun _ h => h.elim) (fun w' hs => jA w' lo hi _ s (RdE.keep h hs.chg0) (by omega)) ?_
 rintro _ z1 rfl
 dsimp only [List.cons_append, List.nil_append]
 refine bL (fun w hs => hs.slice2 (v := z1) (by repeat constructor)) ?_
 rintro ⟨oa, oc, rfl⟩
 (refine aA V Z Z ?_)
 refine bG (β := Value) V [] _ M0 rfl rfl rfl rfl (Sp.refl _) (fun _ h => h.elim) (fun w' hs => gV w' lo2 hi9 _ c (RdE.keep hv hs.chg0) (by omega)) ?_
 rintro _ z2 rfl
 dsimp only [List.cons_append, List.nil_append]
 refine bL (fun w hs => hs.slice2 (v := z2) (by repeat constructor)) ?_
 rintro ⟨ma, mc, rfl⟩
 (refine aA V Z Z (aA V Z Z (aF (aD (aD ?_)))))
 refine cQ _ [] (Sp.refl _) (by kernel_rfl) (by kernel_rfl) ?_
 (refine aG V Z Z Z (aZ V Z Z Z ?_))
 refine bT (val := .int .i64 (checkS s r)) V rfl rfl rfl rfl (fun w hs => ?_) ?_; exact dH w 0 w.heap.size _ s r (eH hs (by repeat constructor) rfl) (by omega)
 (refine aG V Z Z Z ?_)
 refine bH (β := Option Addr × Nat) V [] _ M0 rfl rfl rfl rfl (Sp.refl _) (fun _ h => h.elim) (fun w' hs => fR w' lo hi _ s (RdE.keep h hs.chg0) (by omega)) ?_
 rintro ⟨ra, rc⟩ _ rfl
 dsimp only [List.cons_append, List.nil_append]
 (refine aZ V Z Z Z ?_)
 refine bT (val := .int .i64 (checkS s r)) V rfl rfl rfl rfl (fun w hs => ?_) ?_; exact dK w 0 w.heap.size ra rc s r (eH (t := 167) hs (by repeat constructor) rfl) (by omega)
 (refine qf_neqF V Z Z Z (by omega) (aO (aH Z (aM (aD (aB (aA V Z Z (aJ V Z Z Z (aA V Z Z ?_)))))))))
 refine bG (β := Value) V [] _ M0 rfl rfl rfl rfl (Sp.refl _) (fun _ h => h.elim) (fun w' hs => brok_u w' 0 w'.heap.size oa oc s r (eH (t := 32) hs (by repeat constructor) rfl) (by omega) 0 w'.heap.size (.slice ma c.length mc) c (hs.rdI (by repeat constructor) rfl) (by omega)) ?_
 rintro z3 _ rfl
 dsimp only [List.cons_append, List.nil_append]
 (refine aA V Z Z (aT V Z Z Z (aT V Z Z Z (aA V Z Z (aA V Z Z (aF (aD ?_)))))))
 refine cQ _ [] (Sp.refl _) (by kernel_rfl) (by kernel_rfl) ?_
 (refine aG V Z Z Z ?_)
 refine bH (β := Option Addr × Nat) V [] _ M0 rfl rfl rfl rfl (Sp.refl _) (fun _ h => h.elim) (fun w' hs => fR w' lo hi _ s (RdE.keep h hs.chg0) (by omega)) ?_
 rintro ⟨qa, qc⟩ _ rfl
 dsimp only [List.cons_append, List.nil_append]
 (refine aZ V Z Z Z (aG V Z Z Z ?_))
 refine bH (β := Value) V [] _ M0 rfl rfl rfl rfl (Sp.refl _) (fun _ h => h.elim) (fun w' hs => rbrok_u w' 0 w'.heap.size qa qc s r (eH (t := 167) hs (by repeat constructor) rfl) (by omega) lo2 hi9 _ c (RdE.keep hv hs.chg0) (by omega)) ?_
 rintro z4 _ rfl
 dsimp only [List.cons_append, List.nil_append]
 have hbl := brkV_len s r c
 generalize brokenV s r c = B at *
 (refine aG V Z Z Z (qf_ext V Z Z Z (qf_ext V Z Z Z (aG V Z Z Z (aG V Z Z Z (aO (aD (aB (aA V Z Z (aA V Z Z (cO V Z Z Z (by omega) (aA V Z Z ?_))))))))))); refine aE Z (aA V Z Z (aE Z ?_)))
 refine bG (β := Value) V [] _ M0 rfl rfl rfl rfl (Sp.refl _) (fun _ h => h.elim) (fun w' hs => numbers_ca w' 0 w'.heap.size z3 B.1 (hs.rdI (by repeat constructor) rfl) (by omega)) ?_
 rintro _ z5 rfl
 dsimp only [List.cons_append, List.nil_append]
 (refine aE Z (aA V Z Z (aE Z ?_)))
 refine aK (val := .bool true) V rfl rfl rfl rfl (fun w hs => ?_) ?_; exact hJ w 0 w.heap.size 0 w.heap.size z5 z4 B.1 (hs.rdI (t := 3) (by repeat constructor) rfl) (hs.rdI (t := 3) (by repeat constructor) rfl) (by omega)
 (refine aA V Z Z (aA V Z Z (aE Z (aA V Z Z (aE Z (aA V Z Z (aE Z ?_)))))))
 refine aK (val := .bool true) V rfl rfl rfl rfl (fun w hs => ?_) ?_; exact eqL_ca w 0 w.heap.size lo hi _ _ s (eH hs (by repeat constructor) rfl) (RdE.keep h hs.chg0) (by omega)
 (refine aA V Z Z (aA V Z Z (aE Z (aA V Z Z (aE Z (aA V Z Z (aE Z ?_)))))))
 refine aK (val := .bool true) V rfl rfl rfl rfl (fun w hs => ?_) ?_; exact hJ w 0 w.heap.size lo2 hi9 _ _ c (hs.rdI (by repeat constructor) rfl) (RdE.keep hv hs.chg0) (by omega)
 (refine aA V Z Z (aA V Z Z (aE Z ?_)))
 refine aK (val := .bool true) V rfl rfl rfl rfl (fun w hs => ?_) ?_; exact dS w
 (refine aA V Z Z (aA V Z Z (aF (aS ?_))))
 refine aU V Z (by repeat constructor) fun w hs => ?_
 exact ⟨rfl, hs.chg0⟩
end Go.Proofs.YtgeajgmefokifaaGreat

/- The walk of CourseLists. -/
namespace Go.Proofs.YtgeajgmefokifaaGreat
open Go Go.Eng

theorem allV_len (s : List Lp) (r : Rl) : (allV s r).1.length ≤ 300 := by
 rcases kC s r with ⟨_, e, _, h⟩ | ⟨_, e⟩
 ·rw [e]; exact h
 ·rw [e]; simp
theorem allV_row {s : List Lp} {r : Rl} {c : List Int} (hc : c ∈ (allV s r).1) : c.length ≤ 1000000 := by
 rcases kC s r with ⟨_, e, hcr, h⟩ | ⟨_, e⟩
 ·rw [e] at hc; have := mG hcr hc; omega
 ·rw [e] at hc; simp at hc
theorem covV_len (s : List Lp) (r : Rl) (depth volume : Int) : (coveredV s r depth volume).1.length ≤ 300 := by
 rcases covV_cases s r depth volume with ⟨_, e, h⟩ | ⟨_, e⟩
 ·rw [e]; exact h
 ·rw [e]; simp
theorem covV_row {s : List Lp} {r : Rl} {depth volume : Int} {c : List Int} (hc : c ∈ (coveredV s r depth volume).1) : c.length ≤ 1000000 := by
 unfold coveredV at hc
 split at hc
 ·simp at hc
 rename_i h0
 split at hc
 ·simp at hc
 split at hc
 ·simp at hc
 have hcr := cA.1 (show checkS s r = 0 by omega)
 have hm := (List.mem_filter.1 hc)
 have h2 : c ∈ jY s r := List.mem_filter.2 ⟨hm.1, by have := hm.2; simp at this; exact this.1⟩
 have := mG hcr h2
 omega
theorem yldV_len (s : List Lp) (r : Rl) : (yldV s r).1.1.length ≤ 5 ∧ (yldV s r).1.2.length ≤ 1000000 := by
 unfold yldV
 split
 ·simp
 ·rename_i h
  have hcr := cA.1 (show checkS s r = 0 by omega)
  obtain ⟨R, hR, hm, _⟩ := yield_best (s := s) r hcr.s.n1
  have hla := hcr.r.laps
  refine ⟨brk_len s r _, ?_⟩
  rw [hR]
  have := (eU.1 hm).1
  simp only [Option.getD_some, this]
  unfold nL
  omega
set_option maxRecDepth 20000 in
set_option maxHeartbeats 8000000 in
theorem fF (w : World) (lo hi : Nat) (v : Value) (s : List Lp) (r : Rl) (h : RdL w lo hi v s) (n1 : s.length ≤ maxLen) :
  Ca Tryz.prog 8 [v, .agg (rlC r).toArray] w fun x w' => x = .bool true ∧ Chg [] w w' := by
 obtain ⟨a, cp, rfl, _⟩ := RdL.outI h
 refine cS (Sat.nil w M0) Tryz.func8 rfl (by simp [Tryz.ntmps8]) ?_
 (refine aD (aB ?_))
 refine bD Z Z (fun b3 => ?_)
 (refine aA V Z Z (aF (aD (aD (aB (aA V Z Z (aJ V Z Z Z ?_)))))))
 refine bG (β := Bool) V [] _ M0 rfl rfl rfl rfl (Sp.refl _) (fun _ h => h.elim) (fun w' hs => many_ca w' a s.length cp r n1) ?_
 rintro bm _ ⟨rfl, hbm⟩
 dsimp only [List.cons_append, List.nil_append]
 cases bm with
 | true =>
  (refine aF (aL Z (aD (aB ?_))))
  refine aK (val := .bool true) V rfl rfl rfl rfl (fun w hs => ?_) ?_; exact dS w
  (refine aA V Z Z (aF (aS ?_)))
  refine aU V Z (by repeat constructor) fun w hs => ?_
  exact ⟨rfl, hs.chg0⟩
 | false =>
 have hlen := hbm rfl
 clear hbm n1
 (refine aF ?_)
 refine aH Z ?_
 skip
 refine aM ?_
 (refine aD ?_)
 refine jP (σ := Nat × (Option Addr × Nat) × (Option Addr × Nat)) (fun y => [(0, .slice a s.length cp), (3, .pointer (some ⟨b3, 0, none⟩)), (5, .slice y.2.1.1 s.length y.2.1.2), (6, .slice y.2.2.1 s.length y.2.2.2), (7, .pointer (some ⟨y.1, 0, none⟩))])
  (fun y => [.pt y.1 (rlC r) 88, .ow (.slice y.2.1.1 s.length y.2.1.2) 32 3 s.length (lpC s), .ow (.slice y.2.2.1 s.length y.2.2.2) 167 3 s.length (lpC s), .pt b3 (rlC r) 27]) ?_ (fun K2 hK2 => ?_)
 rotate_left
 ·skip
  refine iN (.alt (aC [0, 1] (.alt (aC [2, 3, 5, 4, 6, 7, 8] (.nil)) (aC [5, 2, 3, 4, 6, 7, 8] (.nil)))) (aC [5, 0, 1, 2, 3, 4, 6, 7, 8] (.nil))) _ [] (Sp.refl _) (by kernel_rfl) (by kernel_rfl) ?_
  refine bM ?_ ?_
  ·skip
   refine aY (by repeat (first | exact PickL.nil | (apply PickL.cons; rfl))) fun K1 hK1 => ?_
   (refine aG V Z Z Z ?_)
   refine bH (β := Value) V [] _ M0 rfl rfl rfl rfl (Sp.refl _) (fun _ h => h.elim) (fun w' hs => jA w' lo hi _ s (RdE.keep h hs.chg0) (by omega)) ?_
   rintro _ z1 rfl
   dsimp only [List.cons_append, List.nil_append]
   refine bX (fun w hs => hs.slice2 (v := z1) (by repeat constructor)) ?_
   rintro ⟨oa, oc, rfl⟩
   (refine aO ?_)
   refine hK1 _ _ ?_
   refine bM ?_ ?_
   ·skip
    refine aY (by repeat (first | exact PickL.nil | (apply PickL.cons; rfl))) fun K1 hK1 => ?_
    (refine aG V Z Z Z ?_)
    refine bH (β := Option Addr × Nat) V [] _ M0 rfl rfl rfl rfl (Sp.refl _) (fun _ h => h.elim) (fun w' hs => fR w' lo hi _ s (RdE.keep h hs.chg0) (by omega)) ?_
    rintro ⟨ra, rc⟩ _ rfl
    dsimp only [List.cons_append, List.nil_append]
    skip
    refine bC zero88 rfl (fun b7 => ?_)
    (refine aZ V Z Z Z (aG V Z Z Z (aG V Z Z Z ?_)); refine cZ V Z Z Z Z Z (by repeat constructor) rfl ?_; refine aO ?_)
    skip
    exact hK1 _ _ (dO (hK2 ⟨b7, (oa, oc), (ra, rc)⟩ _ _ ⟨rfl, rfl, rfl, rfl, rfl, trivial⟩ (by repeat constructor)))
   ·skip
    refine aY (by repeat (first | exact PickL.nil | (apply PickL.cons; rfl))) fun K1 hK1 => ?_
    skip
    refine bC zero88 rfl (fun b7 => ?_)
    (refine aG V Z Z Z ?_)
    refine bH (β := Option Addr × Nat) V [] _ M0 rfl rfl rfl rfl (Sp.refl _) (fun _ h => h.elim) (fun w' hs => fR w' lo hi _ s (RdE.keep h hs.chg0) (by omega)) ?_
    rintro ⟨ra, rc⟩ _ rfl
    dsimp only [List.cons_append, List.nil_append]
    (refine aZ V Z Z Z (aG V Z Z Z (aG V Z Z Z ?_)); refine cZ V Z Z Z Z Z (by repeat constructor) rfl ?_; refine aO ?_)
    skip
    exact hK1 _ _ (dO (hK2 ⟨b7, (oa, oc), (ra, rc)⟩ _ _ ⟨rfl, rfl, rfl, rfl, rfl, trivial⟩ (by repeat constructor)))
  ·skip
   refine aY (by repeat (first | exact PickL.nil | (apply PickL.cons; rfl))) fun K1 hK1 => ?_
   skip
   refine bC zero88 rfl (fun b7 => ?_)
   (refine aG V Z Z Z ?_)
   refine bH (β := Value) V [] _ M0 rfl rfl rfl rfl (Sp.refl _) (fun _ h => h.elim) (fun w' hs => jA w' lo hi _ s (RdE.keep h hs.chg0) (by omega)) ?_
   rintro _ z1 rfl
   dsimp only [List.cons_append, List.nil_append]
   refine bX (fun w hs => hs.slice2 (v := z1) (by repeat constructor)) ?_
   rintro ⟨oa, oc, rfl⟩
   (refine aG V Z Z Z ?_)
   refine bH (β := Option Addr × Nat) V [] _ M0 rfl rfl rfl rfl (Sp.refl _) (fun _ h => h.elim) (fun w' hs => fR w' lo hi _ s (RdE.keep h hs.chg0) (by omega)) ?_
   rintro ⟨ra, rc⟩ _ rfl
   dsimp only [List.cons_append, List.nil_append]
   (refine aZ V Z Z Z (aG V Z Z Z (aG V Z Z Z ?_)); refine cZ V Z Z Z Z Z (by repeat constructor) rfl ?_; refine aO ?_)
   skip
   exact hK1 _ _ (dO (hK2 ⟨b7, (oa, oc), (ra, rc)⟩ _ _ ⟨rfl, rfl, rfl, rfl, rfl, trivial⟩ (by repeat constructor)))
 rintro ⟨b7, ⟨oa, oc⟩, ⟨ra, rc⟩⟩
 dsimp only
 have hl1 := allV_len s r
 have hl2 := fun c hc => allV_row (s := s) (r := r) (c := c) hc
 have hl3 := yldV_len s r
 (refine aD (aB (aA V Z Z (aJ V Z Z Z ?_))))
 refine bG (β := Value × List (Value × List Int)) V [] _ M0 rfl rfl rfl rfl (Sp.refl _) (fun _ h => h.elim) (fun w' hs => all_u w' 0 w'.heap.size oa oc s r (eH hs (by repeat constructor) rfl) (by omega)) ?_
 rintro ⟨z1, xs⟩ _ ⟨rfl, hx⟩
 dsimp only [lsK, List.cons_append, List.nil_append] at hx ⊢
 (refine aA V Z Z (aT V Z Z Z (aT V Z Z Z (aA V Z Z (aA V Z Z (aF (aD (aB (aA V Z Z (aJ V Z Z Z ?_))))))))))
 refine bG (β := Value × List (Value × List Int)) V [] _ M0 rfl rfl rfl rfl (Sp.refl _) (fun _ h => h.elim) (fun w' hs => rall_u w' 0 w'.heap.size ra rc s r (eH (t := 167) hs (by repeat constructor) rfl) (by omega)) ?_
 rintro ⟨z2, ys⟩ _ ⟨rfl, hy⟩
 dsimp only [lsK, List.cons_append, List.nil_append] at hy ⊢
 generalize allV s r = A at *
 (refine aA V Z Z (aT V Z Z Z (aT V Z Z Z (aA V Z Z (aA V Z Z (aF (aD (aD (aB (aA V Z Z (aA V Z Z (aW V Z Z Z (by omega) ?_))))))))))); refine aA V Z Z (aE Z (aA V Z Z (aE Z (aA V Z Z (aE Z ?_))))))
 refine aK (val := .bool true) V rfl rfl rfl rfl (fun w hs => ?_) ?_; exact eqII_ca w 0 w.heap.size 0 w.heap.size z1 z2 A.1 (hx ▸ ls_rdII hs (xs := xs) (t := 3) (t2 := 22) (n := xs.length) (by repeat constructor) (by repeat constructor)) (hy ▸ ls_rdII hs (xs := ys) (t := 3) (t2 := 22) (n := ys.length) (by repeat constructor) (by repeat constructor)) (by omega) hl2
 (refine aE Z (aA V Z Z (aA V Z Z (aF (aH Z (aM (aD (aB (aA V Z Z (aJ V Z Z Z ?_))))))))))
 refine bG (β := Value × Value) V [] _ M0 rfl rfl rfl rfl (Sp.refl _) (fun _ h => h.elim) (fun w' hs => yield_u w' 0 w'.heap.size oa oc s r (eH hs (by repeat constructor) rfl) (by omega)) ?_
 rintro ⟨z3, z4⟩ _ rfl
 dsimp only [List.cons_append, List.nil_append]
 (refine aA V Z Z ?_; (iterate 3 refine aT V Z Z Z ?_); (iterate 3 refine aA V Z Z ?_); refine aF (aD (aB (aA V Z Z (aJ V Z Z Z ?_)))))
 refine bG (β := Value × Value) V [] _ M0 rfl rfl rfl rfl (Sp.refl _) (fun _ h => h.elim) (fun w' hs => ryield_u w' 0 w'.heap.size ra rc s r (eH (t := 167) hs (by repeat constructor) rfl) (by omega)) ?_
 rintro ⟨z5, z6⟩ _ rfl
 dsimp only [List.cons_append, List.nil_append]
 generalize yldV s r = Y at *
 obtain ⟨l3, l4⟩ := hl3
 (refine aA V Z Z ?_; (iterate 3 refine aT V Z Z Z ?_); (iterate 3 refine aA V Z Z ?_); refine aF (aD (aB (aA V Z Z (aA V Z Z (cO V Z Z Z (by omega) (aA V Z Z (aE Z (aA V Z Z (aE Z ?_))))))))))
 refine bG (β := Value) V [] _ M0 rfl rfl rfl rfl (Sp.refl _) (fun _ h => h.elim) (fun w' hs => numbers_ca w' 0 w'.heap.size z3 Y.1.1 (hs.rdI (by repeat constructor) rfl) (by omega)) ?_
 rintro _ z7 rfl
 dsimp only [List.cons_append, List.nil_append]
 (refine aE Z (aA V Z Z (aE Z ?_)))
 refine aK (val := .bool true) V rfl rfl rfl rfl (fun w hs => ?_) ?_; exact hJ w 0 w.heap.size 0 w.heap.size z7 z5 Y.1.1 (hs.rdI (t := 3) (by repeat constructor) rfl) (hs.rdI (t := 3) (by repeat constructor) rfl) (by omega)
 (refine aA V Z Z (aA V Z Z (aE Z (aA V Z Z (aE Z (aA V Z Z (aE Z ?_)))))))
 refine aK (val := .bool true) V rfl rfl rfl rfl (fun w hs => ?_) ?_; exact hJ w 0 w.heap.size 0 w.heap.size z4 z6 Y.1.2 (hs.rdI (t := 3) (by repeat constructor) rfl) (hs.rdI (t := 3) (by repeat constructor) rfl) l4
 (refine aA V Z Z (aA V Z Z (aE Z (aA V Z Z (aE Z (aA V Z Z (aE Z ?_)))))))
 refine aK (val := .bool true) V rfl rfl rfl rfl (fun w hs => ?_) ?_; exact eqL_ca w 0 w.heap.size lo hi _ _ s (eH hs (by repeat constructor) rfl) (RdE.keep h hs.chg0) (by omega)
 (refine aA V Z Z (aA V Z Z (aE Z ?_)))
 refine aK (val := .bool true) V rfl rfl rfl rfl (fun w hs => ?_) ?_; exact dS w
 (refine aA V Z Z (aA V Z Z (aF (aS ?_))))
 refine aU V Z (by repeat constructor) fun w hs => ?_
 exact ⟨rfl, hs.chg0⟩
end Go.Proofs.YtgeajgmefokifaaGreat

/- The walk of CourseSnow. -/
namespace Go.Proofs.YtgeajgmefokifaaGreat
open Go Go.Eng

theorem cheapV_len (s : List Lp) (r : Rl) (depth : Int) : (cheapV s r depth).1.length ≤ 1000000 := by
 rcases jO s r depth with ⟨b, e, hcr, hd, ho⟩ | ⟨_, e, _⟩
 ·rw [e]
  rcases cheap_best s r depth with ⟨h1, _⟩ | ⟨R, h1, h2, _⟩
  ·rw [h1] at ho; cases ho
  ·rw [h1] at ho
   cases ho
   have := mG hcr h2
   simp only
   omega
 ·rw [e]; simp
set_option maxRecDepth 20000 in
set_option maxHeartbeats 8000000 in
theorem eW (w : World) (lo hi lo2 hi9 : Nat) (v u : Value) (s : List Lp) (r : Rl) (c : List Int) (depth volume : Int) (h : RdL w lo hi v s) (n1 : s.length ≤ maxLen) (hv : RdI w lo2 hi9 u c) (n2 : c.length ≤ maxLen) :
  Ca Tryz.prog 9 [v, .agg (rlC r).toArray, u, .int .i64 depth, .int .i64 volume] w fun x w' => x = .bool true ∧ Chg [] w w' := by
 obtain ⟨a, cp, rfl, _⟩ := RdL.outI h
 obtain ⟨ua, uc, rfl, _⟩ := RdI.outI hv
 refine cS (Sat.nil w M0) Tryz.func9 rfl (by simp [Tryz.ntmps9]) ?_
 (refine aD (aB ?_))
 refine bD Z Z (fun b6 => ?_)
 (refine aA V Z Z (aF (aD (aD (aB (aA V Z Z (aJ V Z Z Z ?_)))))))
 refine bG (β := Bool) V [] _ M0 rfl rfl rfl rfl (Sp.refl _) (fun _ h => h.elim) (fun w' hs => many_ca w' a s.length cp r n1) ?_
 rintro bm _ ⟨rfl, hbm⟩
 dsimp only [List.cons_append, List.nil_append]
 simp only [maxLen] at n2
 cases bm with
 | true =>
  (refine aA V Z Z ?_; (iterate 3 refine bE Z Z Z ?_); refine aA V Z Z (aF (aL Z (aD (aB ?_)))))
  refine aK (val := .bool true) V rfl rfl rfl rfl (fun w hs => ?_) ?_; exact dS w
  (refine aA V Z Z (aF (aS ?_)))
  refine aU V Z (by repeat constructor) fun w hs => ?_
  exact ⟨rfl, hs.chg0⟩
 | false =>
 have hlen := hbm rfl
 clear hbm n1
 by_cases h10 : c.length > 10
 ·skip
  (refine aA V Z Z (aE Z (aA V Z Z (aE Z (aA V Z Z (aE Z (cP V Z Z Z (by omega) (aA V Z Z (aF (aL Z (aD (aB ?_))))))))))))
  refine aK (val := .bool true) V rfl rfl rfl rfl (fun w hs => ?_) ?_; exact dS w
  (refine aA V Z Z (aF (aS ?_)))
  refine aU V Z (by repeat constructor) fun w hs => ?_
  exact ⟨rfl, hs.chg0⟩
 (refine aA V Z Z (aE Z (aA V Z Z (aE Z (aA V Z Z (aE Z (cT V Z Z Z (by omega) (aA V Z Z (aF ?_)))))))))
 refine aH Z ?_
 skip
 refine aM ?_
 (refine aD ?_)
 refine jP (σ := Nat × (Option Addr × Nat) × (Option Addr × Nat) × (Option Addr × Nat)) (fun y => [(0, .slice a s.length cp), (2, .slice ua c.length uc), (3, .int .i64 depth), (4, .int .i64 volume), (6, .pointer (some ⟨b6, 0, none⟩)), (11, .slice y.2.1.1 s.length y.2.1.2), (12, .slice y.2.2.1.1 c.length y.2.2.1.2), (13, .slice y.2.2.2.1 s.length y.2.2.2.2), (14, .pointer (some ⟨y.1, 0, none⟩))])
  (fun y => [.pt y.1 (rlC r) 88, .ow (.slice y.2.1.1 s.length y.2.1.2) 32 3 s.length (lpC s), .ow (.slice y.2.2.1.1 c.length y.2.2.1.2) 3 1 c.length (aP c), .ow (.slice y.2.2.2.1 s.length y.2.2.2.2) 167 3 s.length (lpC s), .pt b6 (rlC r) 27]) ?_ (fun K2 hK2 => ?_)
 rotate_left
 ·skip
  refine iN (.alt (aC [0, 1] (.alt (aC [2, 3] (.alt (aC [4, 5, 7, 6, 8, 9, 10, 11] (.nil)) (aC [7, 4, 5, 6, 8, 9, 10, 11] (.nil)))) (aC [7, 2, 3, 4, 5, 6, 8, 9, 10, 11] (.nil)))) (aC [7, 0, 1, 2, 3, 4, 5, 6, 8, 9, 10, 11] (.nil))) _ [] (Sp.refl _) (by kernel_rfl) (by kernel_rfl) ?_
  refine bM ?_ ?_
  ·skip
   refine aY (by repeat (first | exact PickL.nil | (apply PickL.cons; rfl))) fun K1 hK1 => ?_
   (refine aG V Z Z Z ?_)
   refine bH (β := Value) V [] _ M0 rfl rfl rfl rfl (Sp.refl _) (fun _ h => h.elim) (fun w' hs => jA w' lo hi _ s (RdE.keep h hs.chg0) (by omega)) ?_
   rintro _ z1 rfl
   dsimp only [List.cons_append, List.nil_append]
   refine bX (fun w hs => hs.slice2 (v := z1) (by repeat constructor)) ?_
   rintro ⟨oa, oc, rfl⟩
   (refine aO ?_)
   refine hK1 _ _ ?_
   refine bM ?_ ?_
   ·skip
    refine aY (by repeat (first | exact PickL.nil | (apply PickL.cons; rfl))) fun K1 hK1 => ?_
    (refine aG V Z Z Z ?_)
    refine bH (β := Value) V [] _ M0 rfl rfl rfl rfl (Sp.refl _) (fun _ h => h.elim) (fun w' hs => gV w' lo2 hi9 _ c (RdE.keep hv hs.chg0) (by omega)) ?_
    rintro _ z2 rfl
    dsimp only [List.cons_append, List.nil_append]
    refine bX (fun w hs => hs.slice2 (v := z2) (by repeat constructor)) ?_
    rintro ⟨ma, mc, rfl⟩
    (refine aO ?_)
    refine hK1 _ _ ?_
    refine bM ?_ ?_
    ·skip
     refine aY (by repeat (first | exact PickL.nil | (apply PickL.cons; rfl))) fun K1 hK1 => ?_
     (refine aG V Z Z Z ?_)
     refine bH (β := Option Addr × Nat) V [] _ M0 rfl rfl rfl rfl (Sp.refl _) (fun _ h => h.elim) (fun w' hs => fR w' lo hi _ s (RdE.keep h hs.chg0) (by omega)) ?_
     rintro ⟨ra, rc⟩ _ rfl
     dsimp only [List.cons_append, List.nil_append]
     skip
     refine bC zero88 rfl (fun b14 => ?_)
     (refine aZ V Z Z Z ?_; (iterate 3 refine aG V Z Z Z ?_); refine cZ V Z Z Z Z Z (by repeat constructor) rfl ?_; refine aO ?_)
     skip
     exact hK1 _ _ (dO (hK2 ⟨b14, (oa, oc), (ma, mc), (ra, rc)⟩ _ _ ⟨rfl, rfl, rfl, rfl, rfl, rfl, rfl, rfl, rfl, trivial⟩ (by repeat constructor)))
    ·skip
     refine aY (by repeat (first | exact PickL.nil | (apply PickL.cons; rfl))) fun K1 hK1 => ?_
     skip
     refine bC zero88 rfl (fun b14 => ?_)
     (refine aG V Z Z Z ?_)
     refine bH (β := Option Addr × Nat) V [] _ M0 rfl rfl rfl rfl (Sp.refl _) (fun _ h => h.elim) (fun w' hs => fR w' lo hi _ s (RdE.keep h hs.chg0) (by omega)) ?_
     rintro ⟨ra, rc⟩ _ rfl
     dsimp only [List.cons_append, List.nil_append]
     (refine aZ V Z Z Z ?_; (iterate 3 refine aG V Z Z Z ?_); refine cZ V Z Z Z Z Z (by repeat constructor) rfl ?_; refine aO ?_)
     skip
     exact hK1 _ _ (dO (hK2 ⟨b14, (oa, oc), (ma, mc), (ra, rc)⟩ _ _ ⟨rfl, rfl, rfl, rfl, rfl, rfl, rfl, rfl, rfl, trivial⟩ (by repeat constructor)))
   ·skip
    refine aY (by repeat (first | exact PickL.nil | (apply PickL.cons; rfl))) fun K1 hK1 => ?_
    skip
    refine bC zero88 rfl (fun b14 => ?_)
    (refine aG V Z Z Z ?_)
    refine bH (β := Value) V [] _ M0 rfl rfl rfl rfl (Sp.refl _) (fun _ h => h.elim) (fun w' hs => gV w' lo2 hi9 _ c (RdE.keep hv hs.chg0) (by omega)) ?_
    rintro _ z2 rfl
    dsimp only [List.cons_append, List.nil_append]
    refine bX (fun w hs => hs.slice2 (v := z2) (by repeat constructor)) ?_
    rintro ⟨ma, mc, rfl⟩
    (refine aG V Z Z Z ?_)
    refine bH (β := Option Addr × Nat) V [] _ M0 rfl rfl rfl rfl (Sp.refl _) (fun _ h => h.elim) (fun w' hs => fR w' lo hi _ s (RdE.keep h hs.chg0) (by omega)) ?_
    rintro ⟨ra, rc⟩ _ rfl
    dsimp only [List.cons_append, List.nil_append]
    (refine aZ V Z Z Z ?_; (iterate 3 refine aG V Z Z Z ?_); refine cZ V Z Z Z Z Z (by repeat constructor) rfl ?_; refine aO ?_)
    skip
    exact hK1 _ _ (dO (hK2 ⟨b14, (oa, oc), (ma, mc), (ra, rc)⟩ _ _ ⟨rfl, rfl, rfl, rfl, rfl, rfl, rfl, rfl, rfl, trivial⟩ (by repeat constructor)))
  ·skip
   refine aY (by repeat (first | exact PickL.nil | (apply PickL.cons; rfl))) fun K1 hK1 => ?_
   skip
   refine bC zero88 rfl (fun b14 => ?_)
   (refine aG V Z Z Z ?_)
   refine bH (β := Value) V [] _ M0 rfl rfl rfl rfl (Sp.refl _) (fun _ h => h.elim) (fun w' hs => jA w' lo hi _ s (RdE.keep h hs.chg0) (by omega)) ?_
   rintro _ z1 rfl
   dsimp only [List.cons_append, List.nil_append]
   refine bX (fun w hs => hs.slice2 (v := z1) (by repeat constructor)) ?_
   rintro ⟨oa, oc, rfl⟩
   (refine aG V Z Z Z ?_)
   refine bH (β := Value) V [] _ M0 rfl rfl rfl rfl (Sp.refl _) (fun _ h => h.elim) (fun w' hs => gV w' lo2 hi9 _ c (RdE.keep hv hs.chg0) (by omega)) ?_
   rintro _ z2 rfl
   dsimp only [List.cons_append, List.nil_append]
   refine bX (fun w hs => hs.slice2 (v := z2) (by repeat constructor)) ?_
   rintro ⟨ma, mc, rfl⟩
   (refine aG V Z Z Z ?_)
   refine bH (β := Option Addr × Nat) V [] _ M0 rfl rfl rfl rfl (Sp.refl _) (fun _ h => h.elim) (fun w' hs => fR w' lo hi _ s (RdE.keep h hs.chg0) (by omega)) ?_
   rintro ⟨ra, rc⟩ _ rfl
   dsimp only [List.cons_append, List.nil_append]
   (refine aZ V Z Z Z ?_; (iterate 3 refine aG V Z Z Z ?_); refine cZ V Z Z Z Z Z (by repeat constructor) rfl ?_; refine aO ?_)
   skip
   exact hK1 _ _ (dO (hK2 ⟨b14, (oa, oc), (ma, mc), (ra, rc)⟩ _ _ ⟨rfl, rfl, rfl, rfl, rfl, rfl, rfl, rfl, rfl, trivial⟩ (by repeat constructor)))
 rintro ⟨b14, ⟨oa, oc⟩, ⟨ma, mc⟩, ⟨ra, rc⟩⟩
 dsimp only
 have hl1 := covV_len s r depth volume
 have hl2 := fun c hc => covV_row (s := s) (r := r) (depth := depth) (volume := volume) (c := c) hc
 have hl3 := cheapV_len s r depth
 (refine aD (aB (aA V Z Z (aA V Z Z ?_))))
 refine aK (val := .tuple #[.int .i64 (gH s c).1, .int .i64 (gH s c).2]) V rfl rfl rfl rfl (fun w hs => ?_) ?_; exact areaE_ca w 0 w.heap.size 0 w.heap.size oa oc _ s c (eH hs (by repeat constructor) rfl) (by omega) (hs.rdI (by repeat constructor) rfl) (by omega)
 (refine aA V Z Z (aT V Z Z Z (aT V Z Z Z (aA V Z Z (aA V Z Z (aF (aD (aB (aA V Z Z (aA V Z Z ?_))))))))))
 refine aK (val := .tuple #[.int .i64 (gH s c).1, .int .i64 (gH s c).2]) V rfl rfl rfl rfl (fun w hs => ?_) ?_; exact rarea_ca w 0 w.heap.size lo2 hi9 ra rc _ s c (eH hs (by repeat constructor) rfl) (by omega) (RdE.keep hv hs.chg0) (by omega)
 (refine aA V Z Z (aT V Z Z Z (aT V Z Z Z (aA V Z Z (aA V Z Z (aF (aD (aD (aB (aA V Z Z (aA V Z Z (aW V Z Z Z (by omega) ?_))))))))))); refine aA V Z Z (aE Z (aA V Z Z (aE Z (aA V Z Z (aE Z (aW V Z Z Z (by omega) (aA V Z Z (aF (aH Z (aM (aD ?_))))))))))); refine aB ?_; (iterate 3 refine aA V Z Z ?_))
 refine aK (val := .tuple #[.int .i64 (gN s c depth).1, .int .i64 (gN s c depth).2]) V rfl rfl rfl rfl (fun w hs => ?_) ?_; exact snowE_ca w 0 w.heap.size 0 w.heap.size oa oc _ s c depth (eH hs (by repeat constructor) rfl) (by omega) (hs.rdI (by repeat constructor) rfl) (by omega)
 (refine aA V Z Z (aT V Z Z Z (aT V Z Z Z (aA V Z Z (aA V Z Z (aF (aD (aB ?_))))))); (iterate 3 refine aA V Z Z ?_))
 refine aK (val := .tuple #[.int .i64 (gN s c depth).1, .int .i64 (gN s c depth).2]) V rfl rfl rfl rfl (fun w hs => ?_) ?_; exact lN w 0 w.heap.size lo2 hi9 ra rc _ s c depth (eH hs (by repeat constructor) rfl) (by omega) (RdE.keep hv hs.chg0) (by omega)
 (refine aA V Z Z (aT V Z Z Z (aT V Z Z Z (aA V Z Z (aA V Z Z (aF (aD (aD (aB (aA V Z Z (aA V Z Z (aW V Z Z Z (by omega) ?_))))))))))); refine aA V Z Z (aE Z (aA V Z Z (aE Z (aA V Z Z (aE Z (aW V Z Z Z (by omega) (aA V Z Z (aF (aH Z (aM (aD ?_))))))))))); refine aB (aA V Z Z (aJ V Z Z Z (aA V Z Z (aA V Z Z ?_)))))
 refine bG (β := Value × List (Value × List Int)) V [] _ M0 rfl rfl rfl rfl (Sp.refl _) (fun _ h => h.elim) (fun w' hs => cov_u w' 0 w'.heap.size oa oc s r (eH hs (by repeat constructor) rfl) (by omega) depth volume) ?_
 rintro ⟨z1, xs⟩ _ ⟨rfl, hx⟩
 dsimp only [lsK, List.cons_append, List.nil_append] at hx ⊢
 (refine aA V Z Z (aT V Z Z Z (aT V Z Z Z (aA V Z Z (aA V Z Z (aF (aD (aB (aA V Z Z (aJ V Z Z Z (aA V Z Z (aA V Z Z ?_))))))))))))
 refine bG (β := Value × List (Value × List Int)) V [] _ M0 rfl rfl rfl rfl (Sp.refl _) (fun _ h => h.elim) (fun w' hs => rcov_u w' 0 w'.heap.size ra rc s r (eH (t := 167) hs (by repeat constructor) rfl) (by omega) depth volume) ?_
 rintro ⟨z2, ys⟩ _ ⟨rfl, hy⟩
 dsimp only [lsK, List.cons_append, List.nil_append] at hy ⊢
 generalize coveredV s r depth volume = A at *
 (refine aA V Z Z (aT V Z Z Z (aT V Z Z Z (aA V Z Z (aA V Z Z (aF (aD (aD (aB (aA V Z Z (aA V Z Z (aW V Z Z Z (by omega) ?_))))))))))); refine aA V Z Z (aE Z (aA V Z Z (aE Z (aA V Z Z (aE Z ?_))))))
 refine aK (val := .bool true) V rfl rfl rfl rfl (fun w hs => ?_) ?_; exact eqII_ca w 0 w.heap.size 0 w.heap.size z1 z2 A.1 (hx ▸ ls_rdII hs (xs := xs) (t := 3) (t2 := 22) (n := xs.length) (by repeat constructor) (by repeat constructor)) (hy ▸ ls_rdII hs (xs := ys) (t := 3) (t2 := 22) (n := ys.length) (by repeat constructor) (by repeat constructor)) (by omega) hl2
 (refine aE Z (aA V Z Z (aA V Z Z (aF (aH Z (aM (aD (aB (aA V Z Z (aJ V Z Z Z (aA V Z Z ?_)))))))))))
 refine bG (β := Value) V [] _ M0 rfl rfl rfl rfl (Sp.refl _) (fun _ h => h.elim) (fun w' hs => cheap_u w' 0 w'.heap.size oa oc s r (eH hs (by repeat constructor) rfl) (by omega) depth) ?_
 rintro z3 _ rfl
 dsimp only [List.cons_append, List.nil_append]
 (refine aA V Z Z ?_; (iterate 3 refine aT V Z Z Z ?_); (iterate 3 refine aA V Z Z ?_); refine aF (aD (aB (aA V Z Z (aJ V Z Z Z (aA V Z Z ?_))))))
 refine bG (β := Value) V [] _ M0 rfl rfl rfl rfl (Sp.refl _) (fun _ h => h.elim) (fun w' hs => rcheap_u w' 0 w'.heap.size ra rc s r (eH (t := 167) hs (by repeat constructor) rfl) (by omega) depth) ?_
 rintro z4 _ rfl
 dsimp only [List.cons_append, List.nil_append]
 generalize cheapV s r depth = Y at *
 (refine aA V Z Z ?_; (iterate 3 refine aT V Z Z Z ?_); (iterate 3 refine aA V Z Z ?_); refine aF (aD (aB (aA V Z Z (aA V Z Z (cO V Z Z Z (by omega) (aA V Z Z (aE Z (aA V Z Z (aE Z (aA V Z Z (aE Z ?_))))))))))); refine cO V Z Z Z (by omega) (aA V Z Z (aA V Z Z (aE Z (aA V Z Z (aE Z (aA V Z Z (aE Z ?_))))))))
 refine aK (val := .bool true) V rfl rfl rfl rfl (fun w hs => ?_) ?_; exact hJ w 0 w.heap.size 0 w.heap.size z3 z4 Y.1 (hs.rdI (t := 3) (by repeat constructor) rfl) (hs.rdI (t := 3) (by repeat constructor) rfl) hl3
 (refine aA V Z Z (aA V Z Z (aE Z (aA V Z Z (aE Z (aA V Z Z (aE Z ?_)))))))
 refine aK (val := .bool true) V rfl rfl rfl rfl (fun w hs => ?_) ?_; exact eqL_ca w 0 w.heap.size lo hi _ _ s (eH hs (by repeat constructor) rfl) (RdE.keep h hs.chg0) (by omega)
 (refine aA V Z Z (aA V Z Z (aE Z (aA V Z Z (aE Z (aA V Z Z (aE Z ?_)))))))
 refine aK (val := .bool true) V rfl rfl rfl rfl (fun w hs => ?_) ?_; exact hJ w 0 w.heap.size lo2 hi9 _ _ c (hs.rdI (by repeat constructor) rfl) (RdE.keep hv hs.chg0) (by omega)
 (refine aA V Z Z (aA V Z Z (aE Z ?_)))
 refine aK (val := .bool true) V rfl rfl rfl rfl (fun w hs => ?_) ?_; exact dS w
 (refine aA V Z Z (aA V Z Z (aF (aS ?_))))
 refine aU V Z (by repeat constructor) fun w hs => ?_
 exact ⟨rfl, hs.chg0⟩
end Go.Proofs.YtgeajgmefokifaaGreat
