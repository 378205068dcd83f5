/- The walk of TopCalm. -/
import Derived.Test.YtmbifbippnncoaaL1
import Derived.Test.YtmbifbippnncoaaB6
namespace Go.Proofs.Ytmbifbippnncoaa
open Go Go.Eng

theorem slII : SlT Try.prog 28 27 1 24 (.slice none 0 0) := ⟨by kernel_rfl, by kernel_rfl, by kernel_rfl, by decide⟩
abbrev sl1 (b : Nat) : Value := .slice (some ⟨b, 0, none⟩) 1 1
abbrev rowP (x : Int) (b : Nat) : Ck := .pt b [.int .i64 x] 3

theorem aim1_wt (x : Int) : WtOk (aim1 x) (List.replicate 5 0) := ⟨by simp [aim1], fun i h h2 => by simp only [aim1, List.getElem_replicate]; simp⟩

set_option maxHeartbeats 8000000 in
theorem topCalm_ca (w : World) (a : Option Addr) (n c : Nat) (click : Int) (hby : DkB w 0 w.heap.size (.slice a n c)) :
    Ca Try.prog 3 [.slice a n c, .int .i64 click] w fun r w' => r = .bool true ∧ Chg [] w w' := by
  refine q_of (Sat.nil w M0) Try.func3 rfl (by simp [Try.ntmps3]) ?_
  (refine q_seq ?_; refine q_region ?_; refine ql_pure tabOk rfl rfl ?_; refine q_nil ?_; refine q_seq ?_; refine q_region ?_; refine ql_pure tabOk rfl rfl ?_)
  refine ql_call (β := Nat) tabOk [] _ M0 rfl rfl rfl rfl (Sp.refl _) (fun _ h => h.elim) (fun w' hs => of_ca w' a n c) ?_
  rintro b _ rfl
  (refine ql_pure tabOk rfl rfl ?_; refine q_nil ?_; refine q_seq ?_; refine q_region ?_; refine ql_pure tabOk rfl rfl ?_)
  refine ql_call (β := Int) (ψ := fun x v => v = .int .i64 x ∧ 1 ≤ x ∧ x ≤ 9) (L' := fun _ => [dkP (.slice a n c) b 1]) tabOk [dkP (.slice a n c) b 0] [] (fun x => x = b) rfl rfl rfl rfl (by repeat (first | exact Sp.nil | exact Sp.refl _ | refine Sp.cons (by repeat constructor) ?_)) (fun x hx => ⟨_, .head _, hx⟩) (fun w' hs => between_ca 1 9 (by omega) (by omega) (by omega) 0 (by omega) w' b 0 w.heap.size _ (hby.keep hs.chg0) ((hs.bd _ (.head _) b rfl).2.resolve_left (fun h => h)) (hs.all _ (.head _))) ?_
  rintro radius _ ⟨rfl, hr1, hr2⟩
  (refine ql_pure tabOk rfl rfl ?_)
  refine ql_call (β := Int) (ψ := fun x v => v = .int .i64 x ∧ 1 ≤ x ∧ x ≤ 5) (L' := fun _ => [dkP (.slice a n c) b 2]) tabOk [dkP (.slice a n c) b 1] [] (fun x => x = b) rfl rfl rfl rfl (by repeat (first | exact Sp.nil | exact Sp.refl _ | refine Sp.cons (by repeat constructor) ?_)) (fun x hx => ⟨_, .head _, hx⟩) (fun w' hs => between_ca (1) 5 (by omega) (by omega) (by omega) 1 (by omega) w' b 0 w.heap.size _ (hby.keep hs.chg0) ((hs.bd _ (.head _) b rfl).2.resolve_left (fun h => h)) (hs.all _ (.head _))) ?_
  rintro unit _ ⟨rfl, hunit1, hunit2⟩
  (refine ql_pure tabOk rfl rfl ?_)
  refine ql_call (β := Int) (ψ := fun x v => v = .int .i64 x ∧ 0 ≤ x ∧ (x < 4 ∨ x = 0)) (L' := fun _ => [dkP (.slice a n c) b 3]) tabOk [dkP (.slice a n c) b 2] [] (fun x => x = b) rfl rfl rfl rfl (by repeat (first | exact Sp.nil | exact Sp.refl _ | refine Sp.cons (by repeat constructor) ?_)) (fun x hx => ⟨_, .head _, hx⟩) (fun w' hs => drawP_ca 4 2 (by omega) w' b 0 w.heap.size _ (hby.keep hs.chg0) ((hs.bd _ (.head _) b rfl).2.resolve_left (fun h => h)) (hs.all _ (.head _))) ?_
  rintro clicks _ ⟨rfl, hc1, hc2⟩
  (refine ql_pure tabOk rfl rfl ?_)
  refine ql_call (β := Int) (ψ := fun x v => v = .int .i64 x ∧ -9 ≤ x ∧ x ≤ 9) (L' := fun _ => [dkP (.slice a n c) b 4]) tabOk [dkP (.slice a n c) b 3] [] (fun x => x = b) rfl rfl rfl rfl (by repeat (first | exact Sp.nil | exact Sp.refl _ | refine Sp.cons (by repeat constructor) ?_)) (fun x hx => ⟨_, .head _, hx⟩) (fun w' hs => between_ca (-9) 9 (by omega) (by omega) (by omega) 3 (by omega) w' b 0 w.heap.size _ (hby.keep hs.chg0) ((hs.bd _ (.head _) b rfl).2.resolve_left (fun h => h)) (hs.all _ (.head _))) ?_
  rintro drift _ ⟨rfl, hdrift1, hdrift2⟩
  skip
  refine ql_mkS 3 [.int .i64 drift] rfl (by kernel_rfl) rfl (fun b1 => ?_)
  skip
  refine ql_mkS 3 [.int .i64 1] rfl (by kernel_rfl) rfl (fun b2 => ?_)
  skip
  refine ql_mkS 3 [.int .i64 1] rfl (by kernel_rfl) rfl (fun b3 => ?_)
  skip
  refine ql_mkS 27 [.slice (some ⟨b3, 0, none⟩) 1 1] rfl (by kernel_rfl) rfl (fun b4 => ?_)
  (refine ql_pure tabOk rfl rfl ?_)
  refine ql_call (β := Nat × List Int) (ψ := fun x v => v = .slice (some ⟨x.1, 0, none⟩) 5 5 ∧ x.2.length = 5 ∧ (∀ y ∈ x.2, 0 ≤ y) ∧ x.2.sum = 10) (L' := fun x => [.pt x.1 (ints x.2) 3, dkP (.slice a n c) b 14]) tabOk [dkP (.slice a n c) b 4] [.pt b4 [.slice (some ⟨b3, 0, none⟩) 1 1] 27, .pt b3 [.int .i64 1] 3, .pt b2 [.int .i64 1] 3, .pt b1 [.int .i64 drift] 3] (fun x => x = b) rfl rfl rfl rfl (by repeat (first | exact Sp.nil | exact Sp.refl _ | refine Sp.cons (by repeat constructor) ?_)) (fun x hx => ⟨_, .head _, hx⟩) (fun w' hs => shares_ca 5 10 (by omega) (by omega) (by omega) 4 (by omega) w' b 0 w.heap.size _ (hby.keep hs.chg0) ((hs.bd _ (.head _) b rfl).2.resolve_left (fun h => h)) (hs.all _ (.head _))) ?_
  rintro ⟨b5, g⟩ _ ⟨rfl, hg1, hg2, hg3⟩
  simp only at hg1 hg2 hg3
  skip
  refine ql_mk (calmC radius unit clicks b1 b2 b4 b5).toArray rfl (by kernel_rfl) rfl ?_
  refine ql_alloc zero31 rfl (fun b6 => ?_)
  (refine ql_setA tabOk rfl rfl rfl rfl rfl (by repeat constructor) rfl ?_; refine q_nil ?_; refine q_seq ?_)
  refine q_draw _ [] (Sp.refl _) (by kernel_rfl) (by kernel_rfl) ?_
  ((iterate 2 refine qf_pure tabOk rfl rfl rfl ?_); refine qf_loadB tabOk rfl rfl rfl (by repeat first | exact .head _ | refine .tail _ ?_) (by rfl) ?_; (iterate 2 refine qf_ar tabOk rfl rfl rfl rfl (by omega) (by omega) ?_))
  refine qf_call (β := Int) (ψ := fun x v => v = .int .i64 x ∧ 0 ≤ x ∧ x < 2 * clicks + 1) (L' := fun _ => []) tabOk [] _ M0 rfl rfl rfl rfl (Sp.refl _) (fun _ h => h.elim) (fun w' hs => foldP_ca click (2 * clicks + 1) (by omega) (by omega) w') ?_
  rintro cc _ ⟨rfl, hcc1, hcc2⟩
  have hR := calm_right (drift := drift) ⟨hr1, hr2⟩ ⟨hunit1, hunit2⟩ ⟨hc1, by omega⟩ ⟨hdrift1, hdrift2⟩ hg1 hg2 hg3
  have hsm := calm_small (radius := radius) (unit := unit) (clicks := clicks) (drift := drift) hg1 hg2 hg3
  obtain ⟨bc, hb1, hb2, hb3⟩ := calm_best hR hg3
  have hC : -clicks ≤ cc - clicks ∧ cc - clicks ≤ clicks := by omega
  have hv1 := calm_expd hR hg3 hC
  have hv2 := calm_hit hR hg3 hC
  have hb4 := hb3 _ hC
  have hm1 := calm_miss hR hg3 (cc - clicks)
  have hm2 := calm_miss hR hg3 bc
  have hb5 : cc - clicks = bc → missS (calmR radius unit clicks drift g) drift bc = missS (calmR radius unit clicks drift g) drift (cc - clicks) := fun h => by rw [h]
  generalize missS (calmR radius unit clicks drift g) drift bc = m' at *
  generalize missS (calmR radius unit clicks drift g) drift (cc - clicks) = m at *
  have hn1 := exp_nums m hm1
  have hn2 := hit_nums m hm1
  have hn3 := exp_nums m' hm2
  obtain ⟨p1, p2, hp⟩ : ∃ p1 p2, ratioV (5 * m) 10 = (p1, p2) := ⟨_, _, rfl⟩
  obtain ⟨h1, h2, hh⟩ : ∃ h1 h2, ratioV (10 - m) 10 = (h1, h2) := ⟨_, _, rfl⟩
  obtain ⟨q1, q2, hq⟩ : ∃ q1 q2, ratioV (5 * m') 10 = (q1, q2) := ⟨_, _, rfl⟩
  rw [hp] at hv1 hn1
  rw [hh] at hv2 hn2
  rw [hq] at hb1 hn3
  simp only at hn1 hn2 hn3
  have ht1 : (1000 : Int) % h2 = 0 := by rw [← Int.tmod_eq_emod_of_nonneg (by omega)]; exact hn2.2.2.1
  have ht2 : 1000 - h1 * (1000 / h2) = 100 * m := by rw [← Int.tdiv_eq_ediv_of_nonneg (by omega)]; exact hn2.2.2.2.1
  (refine qf_pure tabOk rfl rfl rfl ?_; refine qf_loadB tabOk rfl rfl rfl (by repeat first | exact .head _ | refine .tail _ ?_) (by rfl) ?_; refine qf_ar tabOk rfl rfl rfl rfl (by omega) (by omega) ?_; refine qf_pure tabOk rfl rfl rfl ?_; refine qf_nil ?_; refine q_seq ?_; refine q_region ?_; refine ql_loadAB tabOk rfl rfl rfl (by repeat first | exact .head _ | refine .tail _ ?_) (by rfl) (by rfl) ?_; refine ql_pure tabOk rfl rfl ?_)
  refine ql_callv (val := .tuple #[.agg #[.int .i64 p1, .int .i64 p2], .int .i64 0]) tabOk rfl rfl rfl rfl (fun w hs => ?_) ?_; exact by have := expectedF_ca w (calmC radius unit clicks b1 b2 b4 b5) _ (cc - clicks) (calm_rgc hg1 (hs.blk (by repeat first | exact .head _ | refine .tail _ ?_)) (hs.blk (by repeat first | exact .head _ | refine .tail _ ?_)) (hs.blk (by repeat first | exact .head _ | refine .tail _ ?_)) (hs.blk (by repeat first | exact .head _ | refine .tail _ ?_)) (hs.blk (by repeat first | exact .head _ | refine .tail _ ?_))) hsm; rw [hv1] at this; exact this
  (refine ql_pure tabOk rfl rfl ?_; (iterate 2 refine ql_ext tabOk rfl rfl rfl ?_))
  refine ql_alloc zero33 rfl (fun b8 => ?_)
  (refine ql_setA tabOk rfl rfl rfl rfl rfl (by repeat constructor) rfl ?_; refine ql_pure tabOk rfl rfl ?_; refine q_nil ?_; refine q_seq ?_; refine q_region ?_; refine ql_loadAB tabOk rfl rfl rfl (by repeat first | exact .head _ | refine .tail _ ?_) (by rfl) (by rfl) ?_; refine ql_pure tabOk rfl rfl ?_)
  refine ql_callv (val := .tuple #[.agg #[.int .i64 h1, .int .i64 h2], .int .i64 0]) tabOk rfl rfl rfl rfl (fun w hs => ?_) ?_; exact by have := hit_ca w (calmC radius unit clicks b1 b2 b4 b5) _ 0 (cc - clicks) (calm_rgc hg1 (hs.blk (by repeat first | exact .head _ | refine .tail _ ?_)) (hs.blk (by repeat first | exact .head _ | refine .tail _ ?_)) (hs.blk (by repeat first | exact .head _ | refine .tail _ ?_)) (hs.blk (by repeat first | exact .head _ | refine .tail _ ?_)) (hs.blk (by repeat first | exact .head _ | refine .tail _ ?_))) hsm; rw [hv2] at this; exact this
  (refine ql_pure tabOk rfl rfl ?_; (iterate 2 refine ql_ext tabOk rfl rfl rfl ?_))
  refine ql_alloc zero33 rfl (fun b10 => ?_)
  (refine ql_setA tabOk rfl rfl rfl rfl rfl (by repeat constructor) rfl ?_; refine ql_pure tabOk rfl rfl ?_; refine q_nil ?_; refine q_seq ?_; refine q_region ?_; refine ql_loadAB tabOk rfl rfl rfl (by repeat first | exact .head _ | refine .tail _ ?_) (by rfl) (by rfl) ?_)
  refine ql_callv (val := .tuple #[.int .i64 bc, .agg #[.int .i64 q1, .int .i64 q2], .int .i64 0]) tabOk rfl rfl rfl rfl (fun w hs => ?_) ?_; exact by have := bestF_ca w (calmC radius unit clicks b1 b2 b4 b5) _ (calm_rgc hg1 (hs.blk (by repeat first | exact .head _ | refine .tail _ ?_)) (hs.blk (by repeat first | exact .head _ | refine .tail _ ?_)) (hs.blk (by repeat first | exact .head _ | refine .tail _ ?_)) (hs.blk (by repeat first | exact .head _ | refine .tail _ ?_)) (hs.blk (by repeat first | exact .head _ | refine .tail _ ?_))) hsm; rw [hb1] at this; exact this
  (refine ql_pure tabOk rfl rfl ?_; (iterate 3 refine ql_ext tabOk rfl rfl rfl ?_))
  refine ql_alloc zero33 rfl (fun b13 => ?_)
  (refine ql_pure tabOk rfl rfl ?_; refine ql_setA tabOk rfl rfl rfl rfl rfl (by repeat constructor) rfl ?_; refine ql_pure tabOk rfl rfl ?_; refine q_nil ?_; (iterate 2 refine q_seq ?_); refine q_region ?_; (iterate 3 refine ql_pure tabOk rfl rfl ?_); refine ql_gyes rfl ?_; refine ql_pure tabOk rfl rfl ?_; refine ql_gyes rfl ?_; (iterate 3 refine ql_pure tabOk rfl rfl ?_); refine ql_gyes rfl ?_; refine ql_pure tabOk rfl rfl ?_; refine ql_gyes rfl ?_; (iterate 3 refine ql_pure tabOk rfl rfl ?_); refine ql_gyes rfl ?_; refine ql_pure tabOk rfl rfl ?_; refine ql_gyes rfl ?_; refine ql_loadB tabOk rfl rfl rfl (by repeat first | exact .head _ | refine .tail _ ?_) (by rfl) ?_; refine ql_gyes rfl ?_; (iterate 3 refine ql_pure tabOk rfl rfl ?_))
  rw [decide_eq_false (show ¬ p2 < 1 by omega)]
  (refine ql_gyes rfl ?_; refine ql_pure tabOk rfl rfl ?_; refine ql_gyes rfl ?_; refine ql_loadB tabOk rfl rfl rfl (by repeat first | exact .head _ | refine .tail _ ?_) (by rfl) ?_; refine ql_gyes rfl ?_; (iterate 3 refine ql_pure tabOk rfl rfl ?_))
  rw [decide_eq_false (show ¬ p2 > 100 by omega)]
  (refine ql_gyes rfl ?_; refine ql_pure tabOk rfl rfl ?_; refine ql_gyes rfl ?_; refine ql_loadB tabOk rfl rfl rfl (by repeat first | exact .head _ | refine .tail _ ?_) (by rfl) ?_; refine ql_gyes rfl ?_; (iterate 3 refine ql_pure tabOk rfl rfl ?_))
  rw [decide_eq_false (show ¬ h2 < 1 by omega)]
  (refine ql_gyes rfl ?_; refine ql_pure tabOk rfl rfl ?_; refine ql_gyes rfl ?_; refine ql_loadB tabOk rfl rfl rfl (by repeat first | exact .head _ | refine .tail _ ?_) (by rfl) ?_; refine ql_gyes rfl ?_; (iterate 3 refine ql_pure tabOk rfl rfl ?_))
  rw [decide_eq_false (show ¬ h2 > 100 by omega)]
  (refine ql_gyes rfl ?_; refine ql_pure tabOk rfl rfl ?_; refine ql_gyes rfl ?_; refine ql_loadB tabOk rfl rfl rfl (by repeat first | exact .head _ | refine .tail _ ?_) (by rfl) ?_; refine ql_gyes rfl ?_; (iterate 3 refine ql_pure tabOk rfl rfl ?_))
  rw [decide_eq_false (show ¬ q2 < 1 by omega)]
  (refine ql_gyes rfl ?_; refine ql_pure tabOk rfl rfl ?_; refine ql_gyes rfl ?_; refine ql_loadB tabOk rfl rfl rfl (by repeat first | exact .head _ | refine .tail _ ?_) (by rfl) ?_; refine ql_gyes rfl ?_; (iterate 3 refine ql_pure tabOk rfl rfl ?_))
  rw [decide_eq_false (show ¬ q2 > 100 by omega)]
  (refine ql_gyes rfl ?_; refine ql_pure tabOk rfl rfl ?_; refine ql_gyes rfl ?_; refine ql_loadB tabOk rfl rfl rfl (by repeat first | exact .head _ | refine .tail _ ?_) (by rfl) ?_; refine ql_gyes rfl ?_; refine ql_remN rfl rfl rfl (by omega) (by omega) ?_; refine ql_gyes rfl ?_; (iterate 3 refine ql_pure tabOk rfl rfl ?_))
  rw [ht1]
  (refine ql_gyes rfl ?_; refine ql_pure tabOk rfl rfl ?_; refine ql_gyes rfl ?_; refine ql_pure tabOk rfl rfl ?_; refine ql_gyes rfl ?_; refine ql_loadB tabOk rfl rfl rfl (by repeat first | exact .head _ | refine .tail _ ?_) (by rfl) ?_; refine ql_gyes rfl ?_; refine ql_neg tabOk rfl rfl (by omega) (by omega) ?_; refine ql_gyes rfl ?_; (iterate 3 refine ql_pure tabOk rfl rfl ?_))
  rw [decide_eq_false (show ¬ bc < -clicks by omega)]
  (refine ql_gyes rfl ?_; refine ql_pure tabOk rfl rfl ?_; refine ql_gyes rfl ?_; refine ql_pure tabOk rfl rfl ?_; refine ql_gyes rfl ?_; refine ql_loadB tabOk rfl rfl rfl (by repeat first | exact .head _ | refine .tail _ ?_) (by rfl) ?_; refine ql_gyes rfl ?_; (iterate 2 refine ql_pure tabOk rfl rfl ?_); refine q_nil ?_)
  rw [decide_eq_false (show ¬ bc > clicks by omega)]
  (refine q_cond_false rfl ?_; refine q_skip ?_; refine q_seq ?_)
  refine q_draw _ [] (Sp.refl _) (by kernel_rfl) (by kernel_rfl) ?_
  (refine qf_pure tabOk rfl rfl rfl ?_; refine qf_loadB tabOk rfl rfl rfl (by repeat first | exact .head _ | refine .tail _ ?_) (by rfl) ?_; refine qf_pure tabOk rfl rfl rfl ?_; refine qf_loadB tabOk rfl rfl rfl (by repeat first | exact .head _ | refine .tail _ ?_) (by rfl) ?_; refine qf_quoN rfl rfl rfl (by omega) (by omega) (by omega) ?_; (iterate 2 refine qf_ar tabOk rfl rfl rfl rfl (by omega) (by omega) ?_); refine qf_pure tabOk rfl rfl rfl ?_; refine qf_nil ?_; refine q_seq ?_; refine q_region ?_; refine ql_pure tabOk rfl rfl ?_; refine q_nil ?_; refine q_seq ?_; refine q_region ?_; refine ql_pure tabOk rfl rfl ?_; refine q_nil ?_; (iterate 2 refine q_seq ?_); refine q_region ?_; refine ql_pure tabOk rfl rfl ?_; refine q_nil ?_; refine q_block ?_)
  rw [ht2]
  refine q_conv (H' := [un ([].map (rowP (100 * m))), .ow (.slice none 0 0) 27 1 0 (([] : List Nat).reverse.map sl1), .ow (.slice none 0 0) 3 1 0 (ints (List.replicate 0 0)), .pt b13 [.int .i64 q1, .int .i64 q2] 33, .pt b8 [.int .i64 p1, .int .i64 p2] 33]) (fun w' hs => Sat.un_nil (Sat.ownil (Sat.ownil (hs.sp (by repeat (first | exact Sp.nil | exact Sp.refl _ | refine Sp.cons (by repeat constructor) ?_))) _ _) _ _)) ?_
  refine q_loop (σ := Nat × List Nat × Value × Value) (fun s => s.1 ≤ 5 ∧ s.2.1.length = s.1) (fun s => 5 - s.1) (fun s => [(7, .int .i64 (cc - clicks)), (8, .pointer (some ⟨b8, 0, none⟩)), (12, .int .i64 bc), (13, .pointer (some ⟨b13, 0, none⟩)), (15, .int .i64 (100 * m)), (16, s.2.2.1), (17, s.2.2.2), (134, .int .i64 s.1)])
    (fun s => [un (s.2.1.map (rowP (100 * m))), .ow s.2.2.1 27 1 s.1 (s.2.1.reverse.map sl1), .ow s.2.2.2 3 1 s.1 (ints (List.replicate s.1 0)), .pt b13 [.int .i64 q1, .int .i64 q2] 33, .pt b8 [.int .i64 p1, .int .i64 p2] 33])
    (0, [], .slice none 0 0, .slice none 0 0) ⟨by omega, rfl⟩ ⟨rfl, rfl, rfl, rfl, rfl, rfl, rfl, rfl, trivial⟩ (Sp.refl _) ?_
  rintro ⟨k, bs, va, vw⟩ ⟨hk, hbs⟩ K hK
  simp only at hk hbs
  (refine q_seq ?_; refine q_region ?_; refine ql_pure tabOk rfl rfl ?_; refine q_nil ?_; refine q_seq ?_)
  refine q_if rfl (fun hc => ?_) (fun hc => ?_)
  · have hk : k < 5 := by simp only at hc; omega
    (refine q_skip ?_; refine q_seq ?_; refine q_block ?_; refine q_region ?_; (iterate 2 refine ql_pure tabOk rfl rfl ?_))
    refine ql_mkS 3 [.int .i64 (100 * m)] rfl (by kernel_rfl) rfl (fun b' => ?_)
    skip
    refine ql_mkS 27 [sl1 b'] rfl (by kernel_rfl) rfl (fun b'' => ?_)
    skip
    refine ql_append (q := 1) slII rfl rfl rfl (fun v' => by repeat constructor) (fun w' hs => ⟨_, _, Blk.rd (hs.blk (b := b'') (by repeat first | exact .head _ | refine .tail _ ?_)) rfl 1⟩) (by simp [oneV]) (by omega) (by omega) (fun va' => ?_)
    (refine ql_pure tabOk rfl rfl ?_)
    refine ql_mkS 3 [.int .i64 0] rfl (by kernel_rfl) rfl (fun b0 => ?_)
    skip
    refine ql_append (q := 1) slI rfl rfl rfl (fun v' => by repeat constructor) (fun w' hs => ⟨_, _, Blk.rd (hs.blk (b := b0) (by repeat first | exact .head _ | refine .tail _ ?_)) rfl 1⟩) (by simp [oneV]) (by omega) (by omega) (fun vw' => ?_)
    ((iterate 2 refine ql_pure tabOk rfl rfl ?_); refine q_nil ?_; refine q_blk ?_; refine q_region ?_; refine ql_ar tabOk rfl rfl rfl rfl (by omega) (by omega) ?_; refine ql_pure tabOk rfl rfl ?_; refine q_nil ?_)
    have e1 : (b' :: bs).reverse.map sl1 = bs.reverse.map sl1 ++ [sl1 b'] := by simp
    have e2 : ints (List.replicate (k + 1) 0) = ints (List.replicate k 0) ++ [.int .i64 0] := by simp [List.replicate_succ']
    refine q_conv (H' := [un ((b' :: bs).map (rowP (100 * m))), .ow va' 27 1 (k + 1) (bs.reverse.map sl1 ++ [sl1 b']), .ow vw' 3 1 (k + 1) (ints (List.replicate k 0) ++ [.int .i64 0]), .pt b13 [.int .i64 q1, .int .i64 q2] 33, .pt b8 [.int .i64 p1, .int .i64 p2] 33]) (fun w' hs => Sat.un_in (hs.sp (by repeat (first | exact Sp.nil | exact Sp.refl _ | refine Sp.cons (by repeat constructor) ?_)))) ?_
    exact hK (k + 1, b' :: bs, va', vw') _ _ ⟨by simp only; omega, by simp [hbs]⟩ (by simp only; omega) ⟨rfl, rfl, rfl, rfl, rfl, rfl, rfl, rfl, trivial⟩ (by simp only [e1, e2]; exact Sp.refl _)
  obtain rfl : k = 5 := by simp only at hc; omega
  refine q_conv (H' := [.ow va 27 1 5 (bs.reverse.map sl1), un (bs.map (rowP (100 * m))), .ow vw 3 1 5 (ints (List.replicate 5 0)), .pt b13 [.int .i64 q1, .int .i64 q2] 33, .pt b8 [.int .i64 p1, .int .i64 p2] 33]) (fun w' hs => hs.sp (by repeat (first | exact Sp.nil | exact Sp.refl _ | refine Sp.cons (by repeat constructor) ?_))) ?_
  refine q_ow (by omega) (fun ga cap spare hva => ?_)
  subst hva
  have hrb : ∀ w', Sat w M0 [.pt ga (bs.reverse.map sl1 ++ spare) 27, un (bs.map (rowP (100 * m))), .ow vw 3 1 5 (ints (List.replicate 5 0)), .pt b13 [.int .i64 q1, .int .i64 q2] 33, .pt b8 [.int .i64 p1, .int .i64 p2] 33] w' → RdII w' 0 w'.heap.size (.slice (some ⟨ga, 0, none⟩) 5 cap) (aim1 (100 * m)) := fun w' hs => by
    have h1 : Blk w' ga (bs.reverse.map sl1 ++ spare) 27 := hs.all _ (.head _)
    refine ⟨bs.reverse.map sl1, RdE.one (by rw [show (bs.reverse.map sl1).length = 5 by simp [hbs]]; exact (h1.rdP (by simp [hbs]) cap).wide (Nat.zero_le _) h1.lt) (by simp [oneV]), by simp [hbs, aim1], fun i hi hi' => ?_⟩
    have hi2 : i < bs.length := by simpa using hi
    have h2 : Blk w' (bs.reverse[i]'(by simpa using hi)) [.int .i64 (100 * m)] 3 := hs.un_mem (.tail _ (.head _)) (List.mem_map.2 ⟨_, List.mem_reverse.1 (List.getElem_mem (by simpa using hi)), rfl⟩)
    simp only [List.getElem_map, aim1, List.getElem_replicate]
    exact RdE.wide (RdI.blk (l := [100 * m]) h2 1) (Nat.zero_le _) h2.lt
  have hrw : ∀ w', Sat w M0 [.pt ga (bs.reverse.map sl1 ++ spare) 27, un (bs.map (rowP (100 * m))), .ow vw 3 1 5 (ints (List.replicate 5 0)), .pt b13 [.int .i64 q1, .int .i64 q2] 33, .pt b8 [.int .i64 p1, .int .i64 p2] 33] w' → RdI w' 0 w'.heap.size vw (List.replicate 5 0) := fun w' hs => by
    have h1 : w'.ownsRow 0 3 1 vw 5 (ints (List.replicate 5 0)) := hs.all _ (.tail _ (.tail _ (.head _)))
    exact RdI.of (own_rd h1)
  have hsum := aim_nums m hm1
  have hmul1 : 0 ≤ m * p2 ∧ m * p2 ≤ 10 * 100 := mul_bd0 hm1 (by omega)
  have hmul2 : 0 ≤ m * q2 ∧ m * q2 ≤ 10 * 100 := mul_bd0 hm1 (by omega)
  have hmul3 : 0 ≤ (m - m') * q2 := Int.mul_nonneg (by omega) (by omega)
  rw [Int.sub_mul] at hmul3
  have ea1 : 500 * m * p2 = 500 * (m * p2) := Int.mul_assoc _ _ _
  have ea2 : 500 * m * q2 = 500 * (m * q2) := Int.mul_assoc _ _ _
  have ea3 : 500 * m' * q2 = 500 * (m' * q2) := Int.mul_assoc _ _ _
  have heq : cc - clicks = bc → m * q2 = m' * q2 := fun h => by rw [hb5 h]
  (refine q_exit _ rfl ?_; refine q_seq ?_; refine q_region ?_; (iterate 2 refine ql_pure tabOk rfl rfl ?_))
  refine ql_callv (val := .tuple #[.int .i64 (500 * m), .int .i64 0]) tabOk rfl rfl rfl rfl (fun w hs => ?_) ?_; exact by have := misses_ca w 0 w.heap.size 0 w.heap.size (.slice (some ⟨ga, 0, none⟩) 5 cap) vw (aim1 (100 * m)) (List.replicate 5 0) (hrb w hs) (aim1_ok m hm1) (hrw w hs) (aim1_wt _); rw [show (List.replicate 5 (0 : Int)).length = 5 from rfl, hsum.1] at this; exact this
  (refine ql_pure tabOk rfl rfl ?_; (iterate 2 refine ql_ext tabOk rfl rfl rfl ?_); (iterate 2 refine ql_pure tabOk rfl rfl ?_); refine q_nil ?_; (iterate 2 refine q_seq ?_); refine q_region ?_; (iterate 3 refine ql_pure tabOk rfl rfl ?_); refine ql_gyes rfl ?_; refine ql_pure tabOk rfl rfl ?_; refine ql_gyes rfl ?_; refine ql_pure tabOk rfl rfl ?_; refine ql_gyes rfl ?_; refine ql_loadB tabOk rfl rfl rfl (by repeat first | exact .head _ | refine .tail _ ?_) (by rfl) ?_; refine ql_gyes rfl ?_; refine ql_ar tabOk rfl rfl rfl rfl (by omega) (by omega) ?_; refine ql_gyes rfl ?_; refine ql_pure tabOk rfl rfl ?_; refine ql_gyes rfl ?_; refine ql_loadB tabOk rfl rfl rfl (by repeat first | exact .head _ | refine .tail _ ?_) (by rfl) ?_; refine ql_gyes rfl ?_; refine ql_ar tabOk rfl rfl rfl rfl (by omega) (by omega) ?_; refine ql_gyes rfl ?_; (iterate 3 refine ql_pure tabOk rfl rfl ?_))
  rw [decide_eq_true (show 500 * m * p2 = 1000 * p1 by omega)]
  (refine ql_gyes rfl ?_; refine ql_pure tabOk rfl rfl ?_; refine ql_gyes rfl ?_; refine ql_pure tabOk rfl rfl ?_; refine ql_gyes rfl ?_; refine ql_loadB tabOk rfl rfl rfl (by repeat first | exact .head _ | refine .tail _ ?_) (by rfl) ?_; refine ql_gyes rfl ?_; refine ql_ar tabOk rfl rfl rfl rfl (by omega) (by omega) ?_; refine ql_gyes rfl ?_; refine ql_pure tabOk rfl rfl ?_; refine ql_gyes rfl ?_; refine ql_loadB tabOk rfl rfl rfl (by repeat first | exact .head _ | refine .tail _ ?_) (by rfl) ?_; refine ql_gyes rfl ?_; refine ql_ar tabOk rfl rfl rfl rfl (by omega) (by omega) ?_; refine ql_gyes rfl ?_; (iterate 3 refine ql_pure tabOk rfl rfl ?_))
  rw [decide_eq_false (show ¬ 500 * m * q2 < 1000 * q1 by omega)]
  (refine ql_gyes rfl ?_; refine ql_pure tabOk rfl rfl ?_; refine ql_gyes rfl ?_; refine ql_pure tabOk rfl rfl ?_; refine ql_gyes rfl ?_; refine ql_pure tabOk rfl rfl ?_; refine ql_gyes rfl ?_; refine ql_pure tabOk rfl rfl ?_)
  have e5 : 100 * m - 100 * m / 2 = 50 * m := by omega
  obtain ⟨rs, hrs⟩ : ∃ rs, rs = bs.reverse := ⟨_, rfl⟩
  have hrl : rs.length = 5 := by rw [hrs]; simp [hbs]
  by_cases hcb : cc - clicks = bc
  all_goals first
    | (rw [decide_eq_true hcb]
       (refine ql_gyes rfl ?_; refine ql_pure tabOk rfl rfl ?_; refine ql_gyes rfl ?_; refine ql_pure tabOk rfl rfl ?_; refine ql_gyes rfl ?_; refine ql_loadB tabOk rfl rfl rfl (by repeat first | exact .head _ | refine .tail _ ?_) (by rfl) ?_; refine ql_gyes rfl ?_; refine ql_ar tabOk rfl rfl rfl rfl (by omega) (by omega) ?_; refine ql_gyes rfl ?_; refine ql_pure tabOk rfl rfl ?_; refine ql_gyes rfl ?_; refine ql_loadB tabOk rfl rfl rfl (by repeat first | exact .head _ | refine .tail _ ?_) (by rfl) ?_; refine ql_gyes rfl ?_; refine ql_ar tabOk rfl rfl rfl rfl (by omega) (by omega) ?_; refine ql_gyes rfl ?_; refine ql_pure tabOk rfl rfl ?_; refine ql_gyes rfl ?_; (iterate 2 refine ql_pure tabOk rfl rfl ?_); refine q_nil ?_)
       rw [decide_eq_true (show 500 * m * q2 = 1000 * q1 by have := heq hcb; omega)]
       (refine q_cond_false rfl ?_; refine q_skip ?_; (iterate 2 refine q_seq ?_); refine q_region ?_; (iterate 3 refine ql_pure tabOk rfl rfl ?_); refine q_nil ?_; refine q_block ?_))
    | (rw [decide_eq_false hcb]
       ((iterate 8 refine ql_gno rfl rfl rfl ?_); refine ql_gyes rfl ?_; (iterate 2 refine ql_pure tabOk rfl rfl ?_); refine q_nil ?_; refine q_cond_false rfl ?_; refine q_skip ?_; (iterate 2 refine q_seq ?_); refine q_region ?_; (iterate 3 refine ql_pure tabOk rfl rfl ?_); refine q_nil ?_; refine q_block ?_))
  all_goals
    refine q_conv (H' := [un (([] : List Value).map (fun v => Ck.ow v 3 1 2 [.int .i64 (100 * m), .int .i64 (50 * m)]) ++ (rs.drop 0).map (rowP (100 * m))), .pt ga (([] : List Value) ++ ((rs.drop 0).map sl1 ++ spare)) 27]) (fun w' hs => by
      have h1 : Sat w M0 [un (bs.map (rowP (100 * m))), .pt ga (bs.reverse.map sl1 ++ spare) 27] w' := hs.sp (by repeat (first | exact Sp.nil | exact Sp.refl _ | refine Sp.cons (by repeat constructor) ?_))
      simp only [List.drop_zero, List.map_nil, List.nil_append, hrs]
      exact h1.un_perm (by rw [List.map_reverse]; exact (List.reverse_perm _).symm)) ?_
    refine q_loop (σ := Nat × List Value) (fun s => s.1 ≤ 5 ∧ s.2.length = s.1) (fun s => 5 - s.1) (fun s => [(15, .int .i64 (100 * m)), (16, .slice (some ⟨ga, 0, none⟩) 5 cap), (18, .int .i64 (500 * m)), (189, .int .i64 5), (190, .int .i64 s.1)])
      (fun s => [un (s.2.map (fun v => Ck.ow v 3 1 2 [.int .i64 (100 * m), .int .i64 (50 * m)]) ++ (rs.drop s.1).map (rowP (100 * m))), .pt ga (s.2 ++ ((rs.drop s.1).map sl1 ++ spare)) 27])
      (0, []) ⟨by omega, rfl⟩ ⟨rfl, rfl, rfl, rfl, rfl, trivial⟩ (Sp.refl _) ?_
    rintro ⟨k, vs⟩ ⟨hk2, hvs⟩ K2 hK2
    simp only at hk2 hvs
    (refine q_seq ?_; refine q_region ?_; refine ql_pure tabOk rfl rfl ?_; refine q_nil ?_; refine q_seq ?_)
    refine q_if rfl (fun hc => ?_) (fun hc => ?_)
    · have hk : k < 5 := by simp only at hc; omega
      have hkr : k < rs.length := by omega
      (refine q_skip ?_; refine q_seq ?_; refine q_block ?_; refine q_seq ?_; refine q_region ?_; (iterate 2 refine ql_pure tabOk rfl rfl ?_); refine q_nil ?_; refine q_region ?_; (iterate 4 refine ql_pure tabOk rfl rfl ?_))
      refine ql_index tabOk rfl rfl rfl rfl rfl (by omega) (by omega) ?_
      refine ql_load1 (v := sl1 rs[k]) tabOk rfl rfl rfl (fun w' hs => by
        have h1 := Blk.cell (hs.blk (b := ga) (by repeat first | exact .head _ | refine .tail _ ?_)) k
        rw [show 0 + ((k : Nat) : Int).toNat * 1 = k by omega, h1]
        simp only
        rw [List.getElem?_append_right (by omega), hvs, Nat.sub_self, List.drop_eq_getElem_cons hkr]
        rfl) ?_
      have edk : rs.drop k = rs[k] :: rs.drop (k + 1) := List.drop_eq_getElem_cons hkr
      ((iterate 2 refine ql_pure tabOk rfl rfl ?_); refine ql_quoN rfl rfl rfl (by omega) (by omega) (by omega) ?_; refine ql_ar tabOk rfl rfl rfl rfl (by omega) (by omega) ?_)
      rw [e5]
      refine ql_mkS 3 [.int .i64 (50 * m)] rfl (by kernel_rfl) rfl (fun bn => ?_)
      skip
      refine ql_conv (H' := [.ow (sl1 rs[k]) 3 1 1 [.int .i64 (100 * m)], .pt bn [.int .i64 (50 * m)] 3, un (vs.map (fun v => Ck.ow v 3 1 2 [.int .i64 (100 * m), .int .i64 (50 * m)]) ++ (rs.drop (k + 1)).map (rowP (100 * m))), .pt ga (vs ++ ((rs.drop k).map sl1 ++ spare)) 27]) (fun w' hs => by
        have h1 : Sat w M0 [un (vs.map (fun v => Ck.ow v 3 1 2 [.int .i64 (100 * m), .int .i64 (50 * m)]) ++ (rs.drop k).map (rowP (100 * m))), .pt bn [.int .i64 (50 * m)] 3, .pt ga (vs ++ ((rs.drop k).map sl1 ++ spare)) 27] w' := hs.sp (by repeat (first | exact Sp.nil | exact Sp.refl _ | refine Sp.cons (by repeat constructor) ?_))
        have h2 : Sat w M0 [un (rowP (100 * m) rs[k] :: (vs.map (fun v => Ck.ow v 3 1 2 [.int .i64 (100 * m), .int .i64 (50 * m)]) ++ (rs.drop (k + 1)).map (rowP (100 * m)))), .pt bn [.int .i64 (50 * m)] 3, .pt ga (vs ++ ((rs.drop k).map sl1 ++ spare)) 27] w' := h1.un_perm (by rw [edk, List.map_cons]; exact List.perm_middle)
        exact (Sat.pt_ow (m := 1) rfl (by omega) h2.un_out).sp (by repeat (first | exact Sp.nil | exact Sp.refl _ | refine Sp.cons (by repeat constructor) ?_))) ?_
      refine ql_append (q := 1) slI rfl rfl rfl (fun v' => by repeat constructor) (fun w' hs => ⟨_, _, Blk.rd (hs.blk (b := bn) (by repeat first | exact .head _ | refine .tail _ ?_)) rfl 1⟩) (by simp [oneV]) (by omega) (by omega) (fun v' => ?_)
      skip
      refine ql_index tabOk rfl rfl rfl rfl rfl (by omega) (by omega) ?_
      refine ql_fact (fun w' hs => hs.own_one (.head _)) (fun hone => ?_)
      refine ql_store1 tabOk rfl rfl rfl hone (by repeat constructor) (by simp [hvs, hrl]; omega) ?_
      (refine q_nil ?_; refine q_blk ?_; refine q_region ?_; refine ql_ar tabOk rfl rfl rfl rfl (by omega) (by omega) ?_; refine ql_pure tabOk rfl rfl ?_; refine q_nil ?_)
      have eset : (vs ++ ((rs.drop k).map sl1 ++ spare)).set (0 + ((k : Nat) : Int).toNat * 1) v' = (vs ++ [v']) ++ ((rs.drop (k + 1)).map sl1 ++ spare) := by
        rw [show 0 + ((k : Nat) : Int).toNat * 1 = k by omega, List.set_append_right _ _ (by omega), hvs, Nat.sub_self, edk]
        simp only [List.map_cons, List.cons_append, List.set_cons_zero, List.append_assoc, List.nil_append]
      refine q_conv (H' := [un ((vs ++ [v']).map (fun v => Ck.ow v 3 1 2 [.int .i64 (100 * m), .int .i64 (50 * m)]) ++ (rs.drop (k + 1)).map (rowP (100 * m))), .pt ga ((vs ++ [v']) ++ ((rs.drop (k + 1)).map sl1 ++ spare)) 27]) (fun w' hs => by
        have h1 : Sat w M0 [.ow v' 3 1 2 [.int .i64 (100 * m), .int .i64 (50 * m)], un (vs.map (fun v => Ck.ow v 3 1 2 [.int .i64 (100 * m), .int .i64 (50 * m)]) ++ (rs.drop (k + 1)).map (rowP (100 * m))), .pt ga ((vs ++ ((rs.drop k).map sl1 ++ spare)).set (0 + ((k : Nat) : Int).toNat * 1) v') 27] w' := hs.sp (by repeat (first | exact Sp.nil | exact Sp.refl _ | refine Sp.cons (by repeat constructor) ?_))
        rw [eset] at h1
        refine h1.un_in.un_perm ?_
        rw [List.map_append, List.append_assoc]
        exact List.perm_middle.symm) ?_
      exact hK2 (k + 1, vs ++ [v']) _ _ ⟨by simp only; omega, by simp [hvs]⟩ (by simp only; omega) ⟨rfl, rfl, rfl, rfl, rfl, trivial⟩ (Sp.refl _)
    · obtain rfl : k = 5 := by simp only at hc; omega
      have ed5 : rs.drop 5 = [] := List.drop_eq_nil_of_le (by omega)
      refine q_conv (H' := [un (vs.map (fun v => Ck.ow v 3 1 2 [.int .i64 (100 * m), .int .i64 (50 * m)])), .pt ga (vs ++ spare) 27]) (fun w' hs => by simpa [ed5] using hs) ?_
      have hra : ∀ w' R, Sat w M0 (R ++ [un (vs.map (fun v => Ck.ow v 3 1 2 [.int .i64 (100 * m), .int .i64 (50 * m)])), .pt ga (vs ++ spare) 27]) w' → RdII w' 0 w'.heap.size (.slice (some ⟨ga, 0, none⟩) 5 cap) (aim2 (100 * m)) := fun w' R hs => by
        have h1 : Blk w' ga (vs ++ spare) 27 := hs.all (.pt ga (vs ++ spare) 27) (List.mem_append_right _ (.tail _ (.head _)))
        have hv : ∀ v ∈ vs, w'.ownsRow 0 3 1 v 2 [.int .i64 (100 * m), .int .i64 (50 * m)] := fun v hv => hs.un_mem (c := .ow v 3 1 2 [.int .i64 (100 * m), .int .i64 (50 * m)]) (L := vs.map (fun v => Ck.ow v 3 1 2 [.int .i64 (100 * m), .int .i64 (50 * m)])) (List.mem_append_right _ (.head _)) (List.mem_map.2 ⟨v, hv, rfl⟩)
        refine ⟨vs, RdE.one (by rw [hvs]; exact (h1.rdP hvs cap).wide (Nat.zero_le _) h1.lt) (fun v h => ?_), by simp [hvs, aim2], fun i hi hi2 => ?_⟩
        · rcases (hv v h).2 with ⟨rfl, _⟩ | ⟨g, cap, cur, rfl, _⟩ <;> rfl
        · have h2 := own_rd (hv _ (List.getElem_mem hi))
          have h3 : (100 * m - (100 * m).tdiv 2) = 50 * m := by rw [Int.tdiv_eq_ediv_of_nonneg (by omega)]; omega
          simp only [aim2, List.getElem_replicate, h3]
          exact RdI.of (l := [100 * m, 50 * m]) h2
      (refine q_exit _ rfl ?_; refine q_seq ?_; refine q_region ?_; refine ql_pure tabOk rfl rfl ?_)
      refine ql_call (β := Nat) tabOk [] _ M0 rfl rfl rfl rfl (Sp.refl _) (fun _ h => h.elim) (fun w' hs => bestA_ca w' 0 w'.heap.size _ (aim2 (100 * m)) 5 (hra w' [] hs) (aim2_ok m hm1) (by omega)) ?_
      rintro x1 _ rfl
      (refine ql_pure tabOk rfl rfl ?_; (iterate 3 refine ql_ext tabOk rfl rfl rfl ?_); (iterate 3 refine ql_pure tabOk rfl rfl ?_); refine q_nil ?_; refine q_seq ?_; refine q_region ?_; refine ql_pure tabOk rfl rfl ?_)
      refine ql_call (β := Nat) tabOk [] _ M0 rfl rfl rfl rfl (Sp.refl _) (fun _ h => h.elim) (fun w' hs => bestA_ca w' 0 w'.heap.size _ (aim2 (100 * m)) 0 (hra w' [_] hs) (aim2_ok m hm1) (by omega)) ?_
      rintro x2 _ rfl
      (refine ql_pure tabOk rfl rfl ?_; (iterate 3 refine ql_ext tabOk rfl rfl rfl ?_); (iterate 3 refine ql_pure tabOk rfl rfl ?_); refine q_nil ?_; refine q_seq ?_; refine q_region ?_; (iterate 3 refine ql_pure tabOk rfl rfl ?_); refine ql_gyes rfl ?_; refine ql_pure tabOk rfl rfl ?_; refine ql_gyes rfl ?_; (iterate 3 refine ql_pure tabOk rfl rfl ?_); refine ql_gyes rfl ?_; refine ql_pure tabOk rfl rfl ?_; refine ql_gyes rfl ?_; refine ql_pure tabOk rfl rfl ?_; refine ql_gyes rfl ?_; (iterate 3 refine ql_pure tabOk rfl rfl ?_))
      have en0 : mssS (aim2 (100 * m)) (wtsP (aim2 (100 * m)) 0) (aim2 (100 * m)).length = 500 * m := hsum.2.1
      have en5 : mssS (aim2 (100 * m)) (wtsP (aim2 (100 * m)) 5) (aim2 (100 * m)).length = 250 * m := by
        refine hsum.2.2.trans ?_
        rw [Int.tdiv_eq_ediv_of_nonneg (by omega)]
        omega
      rw [en0, en5, decide_eq_true (show 500 * m = 500 * m from rfl)]
      (refine ql_gyes rfl ?_; refine ql_pure tabOk rfl rfl ?_; refine ql_gyes rfl ?_; refine ql_pure tabOk rfl rfl ?_; refine ql_gyes rfl ?_; refine ql_pure tabOk rfl rfl ?_; refine ql_gyes rfl ?_; refine ql_quoN rfl rfl rfl (by omega) (by omega) (by omega) ?_; refine ql_gyes rfl ?_; refine ql_ar tabOk rfl rfl rfl rfl (by omega) (by omega) ?_; refine ql_gyes rfl ?_; refine ql_ar tabOk rfl rfl rfl rfl (by omega) (by omega) ?_; refine ql_gyes rfl ?_; (iterate 3 refine ql_pure tabOk rfl rfl ?_); refine q_nil ?_; refine q_ret ?_)
      rw [decide_eq_true (show 250 * m = 5 * (100 * m - 100 * m / 2) by omega)]
      refine q_fin tabOk rfl (by repeat (first | exact RVs.nil | apply RVs.tmp rfl | apply RVs.cellA rfl rfl (by repeat first | exact .head _ | refine .tail _ ?_) (by rfl) | apply RVs.cell1 rfl rfl (by repeat first | exact .head _ | refine .tail _ ?_))) fun w hs => ?_
      exact ⟨rfl, hs.chg0⟩

end Go.Proofs.Ytmbifbippnncoaa
