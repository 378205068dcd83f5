/- My texts F10, F11, F12, F13, F14, F15, F16, F17, F18, F19, F20, Wn0, Wn1, D3, D4, K29, W12, D5, F21, F22, F23, F24, F25, F26, F27, F28, F29, joined: a claim takes at most 60 files. -/
import Derived.Test.YtopdmadgkjdgcaaGreatJ3

/- Walks of rifle: what is known after a check. Printed by gen_F10.py. -/
namespace Go.Proofs.YtopdmadgkjdgcaaGreat
set_option maxRecDepth 4000
open Go Go.Eng
theorem lit8 {l : List Bool} (h : l.length = 8) : ∃ a b c d e f g h : Bool, l = [a, b, c, d, e, f, g, h] := by
  match l, h with
  | [a, b, c, d, e, f, g, h], _ => exact ⟨a, b, c, d, e, f, g, h, rfl⟩
theorem bool_b : boolB Tryz.prog 4 = true := by kernel_rfl
theorem b8_arr : arrB Tryz.prog 180 8 4 1 = true := by kernel_rfl
set_option maxHeartbeats 4000000 in
theorem after0_ca (w : World) (lo hi bd : Nat) (s : Sc) (tv rv : Value) (k0 : Kn) (lo' hi' : Int) (p0 p1 p2 p3 p4 p5 p6 p7 f0 f1 f2 f3 f4 f5 f6 f7 : Bool) (h : ScR w lo hi tv rv s) (hb : Blk w bd (dskC s tv rv k0) 184) (hs0 : s.Ok) (hlo : -100000 ≤ lo' ∧ lo' ≤ 100000) (hhi : -100000 ≤ hi' ∧ hi' ≤ 100000) (hi2 : 0 < s.rifles.length) (b : Bool) : Ca Tryz.prog 131 [.pointer (some ⟨bd, 0, none⟩), knV ⟨lo', hi', [p0, p1, p2, p3, p4, p5, p6, p7], [f0, f1, f2, f3, f4, f5, f6, f7]⟩, .int .i64 0, .bool b] w fun x w' => x = .tuple #[knV (afterV s ⟨lo', hi', [p0, p1, p2, p3, p4, p5, p6, p7], [f0, f1, f2, f3, f4, f5, f6, f7]⟩ 0 b).1, .bool (afterV s ⟨lo', hi', [p0, p1, p2, p3, p4, p5, p6, p7], [f0, f1, f2, f3, f4, f5, f6, f7]⟩ 0 b).2] ∧ Chg [] w w' := by
  have he := hs0.err
  have hle := hs0.least
  have hrn := hs0.rn8
  have hri := hs0.rif hi2
  obtain ⟨ra, rc, rfl, hra⟩ := RdI.outI h.r
  obtain ⟨rb, ro, rfl⟩ := hra (by omega)
  have er : s.rifles[0] = s.rif 0 := by unfold Sc.rif; rw [getI hi2]
  have hcell : ∀ w', Chg [] w w' → w'.cell? ⟨rb, ro + (0 : Int).toNat * 1, none⟩ = some (.int .i64 (s.rif 0)) := fun w' hs => by have := RdI.at (RdE.keep h.r hs) 0 hi2; rw [er] at this; exact this
  refine q_of (Sat.nil w M0) Tryz.func131 rfl (by simp [Tryz.ntmps131]) ?_
  (refine q_seq (q_region ?_))
  refine ql_box rfl rfl (fun b5 => ?_)
  rw [agg_cells]
  dsimp only [knC, bools, List.map_cons, List.map_nil, List.cons_append, List.nil_append]
  skip
  refine ql_alloc zero182 rfl (fun b8 => ?_)
  (refine ql_pure tabOk rfl rfl (q_nil (q_seq (q_seq (q_region (ql_pure tabOk rfl rfl (ql_pure tabOk rfl rfl ?_)))))))
  refine ql_indexA (len := 8) b8_arr rfl rfl rfl (by omega) (by omega) ?_
  (refine ql_loadBa tabOk rfl rfl rfl ?_; refine ql_pure tabOk rfl rfl ?_)
  cases p0 with
  | true =>
    ((iterate 4 refine ql_gno rfl rfl rfl ?_); refine ql_pure tabOk rfl rfl (q_nil (q_cond_true rfl (q_seq ?_))))
    refine q_draw _ [.pt b8 _ _] (Sp.cons (by repeat constructor) (Sp.refl _)) (by kernel_rfl) (by kernel_rfl) ?_
    (refine qf_loadABa tabOk rfl rfl rfl ?_; refine qf_pure tabOk rfl rfl rfl (qf_pure tabOk rfl rfl rfl ?_))
    refine qf_indexA (len := 8) b8_arr rfl rfl rfl (by omega) (by omega) ?_
    (refine qf_loadBa tabOk rfl rfl rfl ?_; refine qf_pure tabOk rfl rfl rfl ?_)
    refine qf_eqb bool_b rfl rfl rfl ?_
    (refine qf_setA tabOk rfl rfl rfl rfl rfl (by repeat constructor) rfl ?_; refine qf_pure tabOk rfl rfl rfl (qf_nil (q_ret ?_)))
    refine q_fin tabOk rfl (by repeat constructor) fun w hs => ?_
    exact ⟨rfl, hs.chg0⟩
  | false =>
    (refine ql_gyes rfl (ql_pure tabOk rfl rfl (ql_gyes rfl (ql_pure tabOk rfl rfl (ql_gyes rfl ?_)))))
    refine ql_indexA (len := 8) b8_arr rfl rfl rfl (by omega) (by omega) ?_
    (refine ql_gyes rfl ?_; refine ql_loadBa tabOk rfl rfl rfl ?_; refine ql_pure tabOk rfl rfl (q_nil ?_))
    cases f0 with
    | true =>
      (refine q_cond_true rfl (q_seq ?_))
      refine q_draw _ [.pt b8 _ _] (Sp.cons (by repeat constructor) (Sp.refl _)) (by kernel_rfl) (by kernel_rfl) ?_
      (refine qf_loadABa tabOk rfl rfl rfl ?_; refine qf_pure tabOk rfl rfl rfl (qf_pure tabOk rfl rfl rfl ?_))
      refine qf_indexA (len := 8) b8_arr rfl rfl rfl (by omega) (by omega) ?_
      (refine qf_loadBa tabOk rfl rfl rfl ?_; refine qf_pure tabOk rfl rfl rfl ?_)
      refine qf_eqb bool_b rfl rfl rfl ?_
      (refine qf_setA tabOk rfl rfl rfl rfl rfl (by repeat constructor) rfl ?_; refine qf_pure tabOk rfl rfl rfl (qf_nil (q_ret ?_)))
      refine q_fin tabOk rfl (by repeat constructor) fun w hs => ?_
      exact ⟨rfl, hs.chg0⟩
    | false =>
      (refine q_cond_false rfl (q_skip (q_seq ?_)))
      refine q_draw _ [] (Sp.refl _) (by kernel_rfl) (by kernel_rfl) ?_
      ((iterate 4 refine qf_pure tabOk rfl rfl rfl ?_); refine qf_loadP tabOk rfl rfl rfl (by assumption) (by rfl) ?_; refine qf_pure tabOk rfl rfl rfl ?_)
      refine qf_index tabOk rfl rfl rfl rfl rfl (by omega) (by omega) ?_
      skip
      refine qf_load1 (v := .int .i64 (s.rif 0)) tabOk rfl rfl rfl (fun w hs => hcell _ hs.chg0) ?_
      ((iterate 4 refine qf_pure tabOk rfl rfl rfl ?_); refine qf_loadP tabOk rfl rfl rfl (by assumption) (by rfl) ?_; refine qf_ar tabOk rfl rfl rfl rfl (by omega) (by omega) (qf_pure tabOk rfl rfl rfl (qf_nil (q_seq (q_seq (q_region (ql_pure tabOk rfl rfl (q_nil ?_))))))))
      cases b with
      | true =>
        have e1 : afterV s ⟨lo', hi', [false, p1, p2, p3, p4, p5, p6, p7], [false, f1, f2, f3, f4, f5, f6, f7]⟩ 0 true = (⟨max lo' (-1000), min hi' (s.rif 0 - s.least + s.err), [true, p1, p2, p3, p4, p5, p6, p7], [false, f1, f2, f3, f4, f5, f6, f7]⟩, decide (max lo' (-1000) ≤ min hi' (s.rif 0 - s.least + s.err))) := by
          show ((passK s ⟨lo', hi', [false, p1, p2, p3, p4, p5, p6, p7], [false, f1, f2, f3, f4, f5, f6, f7]⟩ 0, decide _ && true) : Kn × Bool) = _
          rw [Bool.and_true]
          rfl
        rw [e1]
        (refine q_cond_true rfl (q_seq (q_region (ql_pure tabOk rfl rfl (ql_pure tabOk rfl rfl ?_)))))
        refine ql_indexA (len := 8) b8_arr rfl rfl rfl (by omega) (by omega) ?_
        refine ql_stN [.int .i64 lo', .int .i64 hi', .bool true, .bool p1, .bool p2, .bool p3, .bool p4, .bool p5, .bool p6, .bool p7, .bool false, .bool f1, .bool f2, .bool f3, .bool f4, .bool f5, .bool f6, .bool f7] tabOk rfl rfl rfl rfl (by repeat constructor) rfl rfl ?_
        (refine q_nil ?_)
        refine q_drawS 12 _ [.pt b5 _ _] (Sp.cons (by repeat constructor) (Sp.refl _)) (by kernel_rfl) (by kernel_rfl) (by kernel_rfl) fun K1 hK1 => ?_
        (refine qf_pure tabOk rfl rfl rfl ?_; refine qf_loadABa tabOk rfl rfl rfl ?_; (iterate 5 refine qf_pure tabOk rfl rfl rfl ?_); refine qf_loadP tabOk rfl rfl rfl (by assumption) (by rfl) ?_; refine qf_ar tabOk rfl rfl rfl rfl (by omega) (by omega) ?_)
        refine qf_mk #[.int .i64 (-1000), .int .i64 (s.rif 0 - s.least + s.err)] rfl (by kernel_rfl) rfl ?_
        skip
        refine qf_callv (val := spV2 (max lo' (-1000), min hi' (s.rif 0 - s.least + s.err))) tabOk rfl rfl rfl rfl (fun w hs => ?_) ?_; exact common_ca (lo', hi') (-1000, s.rif 0 - s.least + s.err) w
        (refine qf_pure tabOk rfl rfl rfl (qf_nil ?_))
        refine hK1 _ _ [.pt b5 _ _] (Sp.cons (by repeat constructor) ((by repeat constructor))) ?_
        skip
        refine qf_stA [.int .i64 (max lo' (-1000)), .int .i64 (min hi' (s.rif 0 - s.least + s.err)), .bool true, .bool p1, .bool p2, .bool p3, .bool p4, .bool p5, .bool p6, .bool p7, .bool false, .bool f1, .bool f2, .bool f3, .bool f4, .bool f5, .bool f6, .bool f7] tabOk rfl rfl rfl rfl rfl (by repeat constructor) rfl rfl ?_
        (refine qf_nil (q_seq ?_))
        refine q_draw _ [.pt b8 _ _] (Sp.cons (by repeat constructor) (Sp.refl _)) (by kernel_rfl) (by kernel_rfl) ?_
        (refine qf_loadABa tabOk rfl rfl rfl ?_; refine qf_pure tabOk rfl rfl rfl (qf_pure tabOk rfl rfl rfl ?_); refine qf_loadBa tabOk rfl rfl rfl ?_; refine qf_pure tabOk rfl rfl rfl (qf_pure tabOk rfl rfl rfl ?_); refine qf_loadBa tabOk rfl rfl rfl ?_; refine qf_pure tabOk rfl rfl rfl ?_; refine qf_setA tabOk rfl rfl rfl rfl rfl (by repeat constructor) rfl ?_; refine qf_pure tabOk rfl rfl rfl (qf_nil (q_ret ?_)))
        refine q_fin tabOk rfl (by repeat constructor) fun w hs => ?_
        exact ⟨rfl, hs.chg0⟩
      | false =>
        have e1 : afterV s ⟨lo', hi', [false, p1, p2, p3, p4, p5, p6, p7], [false, f1, f2, f3, f4, f5, f6, f7]⟩ 0 false = (⟨max lo' (s.rif 0 - s.least + 1 - s.err), min hi' 1000, [false, p1, p2, p3, p4, p5, p6, p7], [true, f1, f2, f3, f4, f5, f6, f7]⟩, decide (max lo' (s.rif 0 - s.least + 1 - s.err) ≤ min hi' 1000)) := by
          show ((failK s ⟨lo', hi', [false, p1, p2, p3, p4, p5, p6, p7], [false, f1, f2, f3, f4, f5, f6, f7]⟩ 0, decide _ && true) : Kn × Bool) = _
          rw [Bool.and_true]
          rfl
        rw [e1]
        (refine q_cond_false rfl (q_seq (q_region (ql_pure tabOk rfl rfl (ql_pure tabOk rfl rfl ?_)))))
        refine ql_indexA (len := 8) b8_arr rfl rfl rfl (by omega) (by omega) ?_
        refine ql_stN [.int .i64 lo', .int .i64 hi', .bool false, .bool p1, .bool p2, .bool p3, .bool p4, .bool p5, .bool p6, .bool p7, .bool true, .bool f1, .bool f2, .bool f3, .bool f4, .bool f5, .bool f6, .bool f7] tabOk rfl rfl rfl rfl (by repeat constructor) rfl rfl ?_
        (refine q_nil ?_)
        refine q_drawS 13 _ [.pt b5 _ _] (Sp.cons (by repeat constructor) (Sp.refl _)) (by kernel_rfl) (by kernel_rfl) (by kernel_rfl) fun K1 hK1 => ?_
        (refine qf_pure tabOk rfl rfl rfl ?_; refine qf_loadABa tabOk rfl rfl rfl ?_; refine qf_pure tabOk rfl rfl rfl (qf_ar tabOk rfl rfl rfl rfl (by omega) (by omega) ?_); (iterate 4 refine qf_pure tabOk rfl rfl rfl ?_); refine qf_loadP tabOk rfl rfl rfl (by assumption) (by rfl) ?_; refine qf_ar tabOk rfl rfl rfl rfl (by omega) (by omega) ?_)
        refine qf_mk #[.int .i64 (s.rif 0 - s.least + 1 - s.err), .int .i64 1000] rfl (by kernel_rfl) rfl ?_
        skip
        refine qf_callv (val := spV2 (max lo' (s.rif 0 - s.least + 1 - s.err), min hi' 1000)) tabOk rfl rfl rfl rfl (fun w hs => ?_) ?_; exact common_ca (lo', hi') (s.rif 0 - s.least + 1 - s.err, 1000) w
        (refine qf_pure tabOk rfl rfl rfl (qf_nil ?_))
        refine hK1 _ _ [.pt b5 _ _] (Sp.cons (by repeat constructor) ((by repeat constructor))) ?_
        skip
        refine qf_stA [.int .i64 (max lo' (s.rif 0 - s.least + 1 - s.err)), .int .i64 (min hi' 1000), .bool false, .bool p1, .bool p2, .bool p3, .bool p4, .bool p5, .bool p6, .bool p7, .bool true, .bool f1, .bool f2, .bool f3, .bool f4, .bool f5, .bool f6, .bool f7] tabOk rfl rfl rfl rfl rfl (by repeat constructor) rfl rfl ?_
        (refine qf_nil (q_seq ?_))
        refine q_draw _ [.pt b8 _ _] (Sp.cons (by repeat constructor) (Sp.refl _)) (by kernel_rfl) (by kernel_rfl) ?_
        (refine qf_loadABa tabOk rfl rfl rfl ?_; refine qf_pure tabOk rfl rfl rfl (qf_pure tabOk rfl rfl rfl ?_); refine qf_loadBa tabOk rfl rfl rfl ?_; refine qf_pure tabOk rfl rfl rfl (qf_pure tabOk rfl rfl rfl ?_); refine qf_loadBa tabOk rfl rfl rfl ?_; refine qf_pure tabOk rfl rfl rfl ?_; refine qf_setA tabOk rfl rfl rfl rfl rfl (by repeat constructor) rfl ?_; refine qf_pure tabOk rfl rfl rfl (qf_nil (q_ret ?_)))
        refine q_fin tabOk rfl (by repeat constructor) fun w hs => ?_
        exact ⟨rfl, hs.chg0⟩
set_option maxHeartbeats 4000000 in
theorem after1_ca (w : World) (lo hi bd : Nat) (s : Sc) (tv rv : Value) (k0 : Kn) (lo' hi' : Int) (p0 p1 p2 p3 p4 p5 p6 p7 f0 f1 f2 f3 f4 f5 f6 f7 : Bool) (h : ScR w lo hi tv rv s) (hb : Blk w bd (dskC s tv rv k0) 184) (hs0 : s.Ok) (hlo : -100000 ≤ lo' ∧ lo' ≤ 100000) (hhi : -100000 ≤ hi' ∧ hi' ≤ 100000) (hi2 : 1 < s.rifles.length) (b : Bool) : Ca Tryz.prog 131 [.pointer (some ⟨bd, 0, none⟩), knV ⟨lo', hi', [p0, p1, p2, p3, p4, p5, p6, p7], [f0, f1, f2, f3, f4, f5, f6, f7]⟩, .int .i64 1, .bool b] w fun x w' => x = .tuple #[knV (afterV s ⟨lo', hi', [p0, p1, p2, p3, p4, p5, p6, p7], [f0, f1, f2, f3, f4, f5, f6, f7]⟩ 1 b).1, .bool (afterV s ⟨lo', hi', [p0, p1, p2, p3, p4, p5, p6, p7], [f0, f1, f2, f3, f4, f5, f6, f7]⟩ 1 b).2] ∧ Chg [] w w' := by
  have he := hs0.err
  have hle := hs0.least
  have hrn := hs0.rn8
  have hri := hs0.rif hi2
  obtain ⟨ra, rc, rfl, hra⟩ := RdI.outI h.r
  obtain ⟨rb, ro, rfl⟩ := hra (by omega)
  have er : s.rifles[1] = s.rif 1 := by unfold Sc.rif; rw [getI hi2]
  have hcell : ∀ w', Chg [] w w' → w'.cell? ⟨rb, ro + (1 : Int).toNat * 1, none⟩ = some (.int .i64 (s.rif 1)) := fun w' hs => by have := RdI.at (RdE.keep h.r hs) 1 hi2; rw [er] at this; exact this
  refine q_of (Sat.nil w M0) Tryz.func131 rfl (by simp [Tryz.ntmps131]) ?_
  (refine q_seq (q_region ?_))
  refine ql_box rfl rfl (fun b5 => ?_)
  rw [agg_cells]
  dsimp only [knC, bools, List.map_cons, List.map_nil, List.cons_append, List.nil_append]
  skip
  refine ql_alloc zero182 rfl (fun b8 => ?_)
  (refine ql_pure tabOk rfl rfl (q_nil (q_seq (q_seq (q_region (ql_pure tabOk rfl rfl (ql_pure tabOk rfl rfl ?_)))))))
  refine ql_indexA (len := 8) b8_arr rfl rfl rfl (by omega) (by omega) ?_
  (refine ql_loadBa tabOk rfl rfl rfl ?_; refine ql_pure tabOk rfl rfl ?_)
  cases p1 with
  | true =>
    ((iterate 4 refine ql_gno rfl rfl rfl ?_); refine ql_pure tabOk rfl rfl (q_nil (q_cond_true rfl (q_seq ?_))))
    refine q_draw _ [.pt b8 _ _] (Sp.cons (by repeat constructor) (Sp.refl _)) (by kernel_rfl) (by kernel_rfl) ?_
    (refine qf_loadABa tabOk rfl rfl rfl ?_; refine qf_pure tabOk rfl rfl rfl (qf_pure tabOk rfl rfl rfl ?_))
    refine qf_indexA (len := 8) b8_arr rfl rfl rfl (by omega) (by omega) ?_
    (refine qf_loadBa tabOk rfl rfl rfl ?_; refine qf_pure tabOk rfl rfl rfl ?_)
    refine qf_eqb bool_b rfl rfl rfl ?_
    (refine qf_setA tabOk rfl rfl rfl rfl rfl (by repeat constructor) rfl ?_; refine qf_pure tabOk rfl rfl rfl (qf_nil (q_ret ?_)))
    refine q_fin tabOk rfl (by repeat constructor) fun w hs => ?_
    exact ⟨rfl, hs.chg0⟩
  | false =>
    (refine ql_gyes rfl (ql_pure tabOk rfl rfl (ql_gyes rfl (ql_pure tabOk rfl rfl (ql_gyes rfl ?_)))))
    refine ql_indexA (len := 8) b8_arr rfl rfl rfl (by omega) (by omega) ?_
    (refine ql_gyes rfl ?_; refine ql_loadBa tabOk rfl rfl rfl ?_; refine ql_pure tabOk rfl rfl (q_nil ?_))
    cases f1 with
    | true =>
      (refine q_cond_true rfl (q_seq ?_))
      refine q_draw _ [.pt b8 _ _] (Sp.cons (by repeat constructor) (Sp.refl _)) (by kernel_rfl) (by kernel_rfl) ?_
      (refine qf_loadABa tabOk rfl rfl rfl ?_; refine qf_pure tabOk rfl rfl rfl (qf_pure tabOk rfl rfl rfl ?_))
      refine qf_indexA (len := 8) b8_arr rfl rfl rfl (by omega) (by omega) ?_
      (refine qf_loadBa tabOk rfl rfl rfl ?_; refine qf_pure tabOk rfl rfl rfl ?_)
      refine qf_eqb bool_b rfl rfl rfl ?_
      (refine qf_setA tabOk rfl rfl rfl rfl rfl (by repeat constructor) rfl ?_; refine qf_pure tabOk rfl rfl rfl (qf_nil (q_ret ?_)))
      refine q_fin tabOk rfl (by repeat constructor) fun w hs => ?_
      exact ⟨rfl, hs.chg0⟩
    | false =>
      (refine q_cond_false rfl (q_skip (q_seq ?_)))
      refine q_draw _ [] (Sp.refl _) (by kernel_rfl) (by kernel_rfl) ?_
      ((iterate 4 refine qf_pure tabOk rfl rfl rfl ?_); refine qf_loadP tabOk rfl rfl rfl (by assumption) (by rfl) ?_; refine qf_pure tabOk rfl rfl rfl ?_)
      refine qf_index tabOk rfl rfl rfl rfl rfl (by omega) (by omega) ?_
      skip
      refine qf_load1 (v := .int .i64 (s.rif 1)) tabOk rfl rfl rfl (fun w hs => hcell _ hs.chg0) ?_
      ((iterate 4 refine qf_pure tabOk rfl rfl rfl ?_); refine qf_loadP tabOk rfl rfl rfl (by assumption) (by rfl) ?_; refine qf_ar tabOk rfl rfl rfl rfl (by omega) (by omega) (qf_pure tabOk rfl rfl rfl (qf_nil (q_seq (q_seq (q_region (ql_pure tabOk rfl rfl (q_nil ?_))))))))
      cases b with
      | true =>
        have e1 : afterV s ⟨lo', hi', [p0, false, p2, p3, p4, p5, p6, p7], [f0, false, f2, f3, f4, f5, f6, f7]⟩ 1 true = (⟨max lo' (-1000), min hi' (s.rif 1 - s.least + s.err), [p0, true, p2, p3, p4, p5, p6, p7], [f0, false, f2, f3, f4, f5, f6, f7]⟩, decide (max lo' (-1000) ≤ min hi' (s.rif 1 - s.least + s.err))) := by
          show ((passK s ⟨lo', hi', [p0, false, p2, p3, p4, p5, p6, p7], [f0, false, f2, f3, f4, f5, f6, f7]⟩ 1, decide _ && true) : Kn × Bool) = _
          rw [Bool.and_true]
          rfl
        rw [e1]
        (refine q_cond_true rfl (q_seq (q_region (ql_pure tabOk rfl rfl (ql_pure tabOk rfl rfl ?_)))))
        refine ql_indexA (len := 8) b8_arr rfl rfl rfl (by omega) (by omega) ?_
        refine ql_stN [.int .i64 lo', .int .i64 hi', .bool p0, .bool true, .bool p2, .bool p3, .bool p4, .bool p5, .bool p6, .bool p7, .bool f0, .bool false, .bool f2, .bool f3, .bool f4, .bool f5, .bool f6, .bool f7] tabOk rfl rfl rfl rfl (by repeat constructor) rfl rfl ?_
        (refine q_nil ?_)
        refine q_drawS 12 _ [.pt b5 _ _] (Sp.cons (by repeat constructor) (Sp.refl _)) (by kernel_rfl) (by kernel_rfl) (by kernel_rfl) fun K1 hK1 => ?_
        (refine qf_pure tabOk rfl rfl rfl ?_; refine qf_loadABa tabOk rfl rfl rfl ?_; (iterate 5 refine qf_pure tabOk rfl rfl rfl ?_); refine qf_loadP tabOk rfl rfl rfl (by assumption) (by rfl) ?_; refine qf_ar tabOk rfl rfl rfl rfl (by omega) (by omega) ?_)
        refine qf_mk #[.int .i64 (-1000), .int .i64 (s.rif 1 - s.least + s.err)] rfl (by kernel_rfl) rfl ?_
        skip
        refine qf_callv (val := spV2 (max lo' (-1000), min hi' (s.rif 1 - s.least + s.err))) tabOk rfl rfl rfl rfl (fun w hs => ?_) ?_; exact common_ca (lo', hi') (-1000, s.rif 1 - s.least + s.err) w
        (refine qf_pure tabOk rfl rfl rfl (qf_nil ?_))
        refine hK1 _ _ [.pt b5 _ _] (Sp.cons (by repeat constructor) ((by repeat constructor))) ?_
        skip
        refine qf_stA [.int .i64 (max lo' (-1000)), .int .i64 (min hi' (s.rif 1 - s.least + s.err)), .bool p0, .bool true, .bool p2, .bool p3, .bool p4, .bool p5, .bool p6, .bool p7, .bool f0, .bool false, .bool f2, .bool f3, .bool f4, .bool f5, .bool f6, .bool f7] tabOk rfl rfl rfl rfl rfl (by repeat constructor) rfl rfl ?_
        (refine qf_nil (q_seq ?_))
        refine q_draw _ [.pt b8 _ _] (Sp.cons (by repeat constructor) (Sp.refl _)) (by kernel_rfl) (by kernel_rfl) ?_
        (refine qf_loadABa tabOk rfl rfl rfl ?_; refine qf_pure tabOk rfl rfl rfl (qf_pure tabOk rfl rfl rfl ?_); refine qf_loadBa tabOk rfl rfl rfl ?_; refine qf_pure tabOk rfl rfl rfl (qf_pure tabOk rfl rfl rfl ?_); refine qf_loadBa tabOk rfl rfl rfl ?_; refine qf_pure tabOk rfl rfl rfl ?_; refine qf_setA tabOk rfl rfl rfl rfl rfl (by repeat constructor) rfl ?_; refine qf_pure tabOk rfl rfl rfl (qf_nil (q_ret ?_)))
        refine q_fin tabOk rfl (by repeat constructor) fun w hs => ?_
        exact ⟨rfl, hs.chg0⟩
      | false =>
        have e1 : afterV s ⟨lo', hi', [p0, false, p2, p3, p4, p5, p6, p7], [f0, false, f2, f3, f4, f5, f6, f7]⟩ 1 false = (⟨max lo' (s.rif 1 - s.least + 1 - s.err), min hi' 1000, [p0, false, p2, p3, p4, p5, p6, p7], [f0, true, f2, f3, f4, f5, f6, f7]⟩, decide (max lo' (s.rif 1 - s.least + 1 - s.err) ≤ min hi' 1000)) := by
          show ((failK s ⟨lo', hi', [p0, false, p2, p3, p4, p5, p6, p7], [f0, false, f2, f3, f4, f5, f6, f7]⟩ 1, decide _ && true) : Kn × Bool) = _
          rw [Bool.and_true]
          rfl
        rw [e1]
        (refine q_cond_false rfl (q_seq (q_region (ql_pure tabOk rfl rfl (ql_pure tabOk rfl rfl ?_)))))
        refine ql_indexA (len := 8) b8_arr rfl rfl rfl (by omega) (by omega) ?_
        refine ql_stN [.int .i64 lo', .int .i64 hi', .bool p0, .bool false, .bool p2, .bool p3, .bool p4, .bool p5, .bool p6, .bool p7, .bool f0, .bool true, .bool f2, .bool f3, .bool f4, .bool f5, .bool f6, .bool f7] tabOk rfl rfl rfl rfl (by repeat constructor) rfl rfl ?_
        (refine q_nil ?_)
        refine q_drawS 13 _ [.pt b5 _ _] (Sp.cons (by repeat constructor) (Sp.refl _)) (by kernel_rfl) (by kernel_rfl) (by kernel_rfl) fun K1 hK1 => ?_
        (refine qf_pure tabOk rfl rfl rfl ?_; refine qf_loadABa tabOk rfl rfl rfl ?_; refine qf_pure tabOk rfl rfl rfl (qf_ar tabOk rfl rfl rfl rfl (by omega) (by omega) ?_); (iterate 4 refine qf_pure tabOk rfl rfl rfl ?_); refine qf_loadP tabOk rfl rfl rfl (by assumption) (by rfl) ?_; refine qf_ar tabOk rfl rfl rfl rfl (by omega) (by omega) ?_)
        refine qf_mk #[.int .i64 (s.rif 1 - s.least + 1 - s.err), .int .i64 1000] rfl (by kernel_rfl) rfl ?_
        skip
        refine qf_callv (val := spV2 (max lo' (s.rif 1 - s.least + 1 - s.err), min hi' 1000)) tabOk rfl rfl rfl rfl (fun w hs => ?_) ?_; exact common_ca (lo', hi') (s.rif 1 - s.least + 1 - s.err, 1000) w
        (refine qf_pure tabOk rfl rfl rfl (qf_nil ?_))
        refine hK1 _ _ [.pt b5 _ _] (Sp.cons (by repeat constructor) ((by repeat constructor))) ?_
        skip
        refine qf_stA [.int .i64 (max lo' (s.rif 1 - s.least + 1 - s.err)), .int .i64 (min hi' 1000), .bool p0, .bool false, .bool p2, .bool p3, .bool p4, .bool p5, .bool p6, .bool p7, .bool f0, .bool true, .bool f2, .bool f3, .bool f4, .bool f5, .bool f6, .bool f7] tabOk rfl rfl rfl rfl rfl (by repeat constructor) rfl rfl ?_
        (refine qf_nil (q_seq ?_))
        refine q_draw _ [.pt b8 _ _] (Sp.cons (by repeat constructor) (Sp.refl _)) (by kernel_rfl) (by kernel_rfl) ?_
        (refine qf_loadABa tabOk rfl rfl rfl ?_; refine qf_pure tabOk rfl rfl rfl (qf_pure tabOk rfl rfl rfl ?_); refine qf_loadBa tabOk rfl rfl rfl ?_; refine qf_pure tabOk rfl rfl rfl (qf_pure tabOk rfl rfl rfl ?_); refine qf_loadBa tabOk rfl rfl rfl ?_; refine qf_pure tabOk rfl rfl rfl ?_; refine qf_setA tabOk rfl rfl rfl rfl rfl (by repeat constructor) rfl ?_; refine qf_pure tabOk rfl rfl rfl (qf_nil (q_ret ?_)))
        refine q_fin tabOk rfl (by repeat constructor) fun w hs => ?_
        exact ⟨rfl, hs.chg0⟩
set_option maxHeartbeats 4000000 in
theorem after2_ca (w : World) (lo hi bd : Nat) (s : Sc) (tv rv : Value) (k0 : Kn) (lo' hi' : Int) (p0 p1 p2 p3 p4 p5 p6 p7 f0 f1 f2 f3 f4 f5 f6 f7 : Bool) (h : ScR w lo hi tv rv s) (hb : Blk w bd (dskC s tv rv k0) 184) (hs0 : s.Ok) (hlo : -100000 ≤ lo' ∧ lo' ≤ 100000) (hhi : -100000 ≤ hi' ∧ hi' ≤ 100000) (hi2 : 2 < s.rifles.length) (b : Bool) : Ca Tryz.prog 131 [.pointer (some ⟨bd, 0, none⟩), knV ⟨lo', hi', [p0, p1, p2, p3, p4, p5, p6, p7], [f0, f1, f2, f3, f4, f5, f6, f7]⟩, .int .i64 2, .bool b] w fun x w' => x = .tuple #[knV (afterV s ⟨lo', hi', [p0, p1, p2, p3, p4, p5, p6, p7], [f0, f1, f2, f3, f4, f5, f6, f7]⟩ 2 b).1, .bool (afterV s ⟨lo', hi', [p0, p1, p2, p3, p4, p5, p6, p7], [f0, f1, f2, f3, f4, f5, f6, f7]⟩ 2 b).2] ∧ Chg [] w w' := by
  have he := hs0.err
  have hle := hs0.least
  have hrn := hs0.rn8
  have hri := hs0.rif hi2
  obtain ⟨ra, rc, rfl, hra⟩ := RdI.outI h.r
  obtain ⟨rb, ro, rfl⟩ := hra (by omega)
  have er : s.rifles[2] = s.rif 2 := by unfold Sc.rif; rw [getI hi2]
  have hcell : ∀ w', Chg [] w w' → w'.cell? ⟨rb, ro + (2 : Int).toNat * 1, none⟩ = some (.int .i64 (s.rif 2)) := fun w' hs => by have := RdI.at (RdE.keep h.r hs) 2 hi2; rw [er] at this; exact this
  refine q_of (Sat.nil w M0) Tryz.func131 rfl (by simp [Tryz.ntmps131]) ?_
  (refine q_seq (q_region ?_))
  refine ql_box rfl rfl (fun b5 => ?_)
  rw [agg_cells]
  dsimp only [knC, bools, List.map_cons, List.map_nil, List.cons_append, List.nil_append]
  skip
  refine ql_alloc zero182 rfl (fun b8 => ?_)
  (refine ql_pure tabOk rfl rfl (q_nil (q_seq (q_seq (q_region (ql_pure tabOk rfl rfl (ql_pure tabOk rfl rfl ?_)))))))
  refine ql_indexA (len := 8) b8_arr rfl rfl rfl (by omega) (by omega) ?_
  (refine ql_loadBa tabOk rfl rfl rfl ?_; refine ql_pure tabOk rfl rfl ?_)
  cases p2 with
  | true =>
    ((iterate 4 refine ql_gno rfl rfl rfl ?_); refine ql_pure tabOk rfl rfl (q_nil (q_cond_true rfl (q_seq ?_))))
    refine q_draw _ [.pt b8 _ _] (Sp.cons (by repeat constructor) (Sp.refl _)) (by kernel_rfl) (by kernel_rfl) ?_
    (refine qf_loadABa tabOk rfl rfl rfl ?_; refine qf_pure tabOk rfl rfl rfl (qf_pure tabOk rfl rfl rfl ?_))
    refine qf_indexA (len := 8) b8_arr rfl rfl rfl (by omega) (by omega) ?_
    (refine qf_loadBa tabOk rfl rfl rfl ?_; refine qf_pure tabOk rfl rfl rfl ?_)
    refine qf_eqb bool_b rfl rfl rfl ?_
    (refine qf_setA tabOk rfl rfl rfl rfl rfl (by repeat constructor) rfl ?_; refine qf_pure tabOk rfl rfl rfl (qf_nil (q_ret ?_)))
    refine q_fin tabOk rfl (by repeat constructor) fun w hs => ?_
    exact ⟨rfl, hs.chg0⟩
  | false =>
    (refine ql_gyes rfl (ql_pure tabOk rfl rfl (ql_gyes rfl (ql_pure tabOk rfl rfl (ql_gyes rfl ?_)))))
    refine ql_indexA (len := 8) b8_arr rfl rfl rfl (by omega) (by omega) ?_
    (refine ql_gyes rfl ?_; refine ql_loadBa tabOk rfl rfl rfl ?_; refine ql_pure tabOk rfl rfl (q_nil ?_))
    cases f2 with
    | true =>
      (refine q_cond_true rfl (q_seq ?_))
      refine q_draw _ [.pt b8 _ _] (Sp.cons (by repeat constructor) (Sp.refl _)) (by kernel_rfl) (by kernel_rfl) ?_
      (refine qf_loadABa tabOk rfl rfl rfl ?_; refine qf_pure tabOk rfl rfl rfl (qf_pure tabOk rfl rfl rfl ?_))
      refine qf_indexA (len := 8) b8_arr rfl rfl rfl (by omega) (by omega) ?_
      (refine qf_loadBa tabOk rfl rfl rfl ?_; refine qf_pure tabOk rfl rfl rfl ?_)
      refine qf_eqb bool_b rfl rfl rfl ?_
      (refine qf_setA tabOk rfl rfl rfl rfl rfl (by repeat constructor) rfl ?_; refine qf_pure tabOk rfl rfl rfl (qf_nil (q_ret ?_)))
      refine q_fin tabOk rfl (by repeat constructor) fun w hs => ?_
      exact ⟨rfl, hs.chg0⟩
    | false =>
      (refine q_cond_false rfl (q_skip (q_seq ?_)))
      refine q_draw _ [] (Sp.refl _) (by kernel_rfl) (by kernel_rfl) ?_
      ((iterate 4 refine qf_pure tabOk rfl rfl rfl ?_); refine qf_loadP tabOk rfl rfl rfl (by assumption) (by rfl) ?_; refine qf_pure tabOk rfl rfl rfl ?_)
      refine qf_index tabOk rfl rfl rfl rfl rfl (by omega) (by omega) ?_
      skip
      refine qf_load1 (v := .int .i64 (s.rif 2)) tabOk rfl rfl rfl (fun w hs => hcell _ hs.chg0) ?_
      ((iterate 4 refine qf_pure tabOk rfl rfl rfl ?_); refine qf_loadP tabOk rfl rfl rfl (by assumption) (by rfl) ?_; refine qf_ar tabOk rfl rfl rfl rfl (by omega) (by omega) (qf_pure tabOk rfl rfl rfl (qf_nil (q_seq (q_seq (q_region (ql_pure tabOk rfl rfl (q_nil ?_))))))))
      cases b with
      | true =>
        have e1 : afterV s ⟨lo', hi', [p0, p1, false, p3, p4, p5, p6, p7], [f0, f1, false, f3, f4, f5, f6, f7]⟩ 2 true = (⟨max lo' (-1000), min hi' (s.rif 2 - s.least + s.err), [p0, p1, true, p3, p4, p5, p6, p7], [f0, f1, false, f3, f4, f5, f6, f7]⟩, decide (max lo' (-1000) ≤ min hi' (s.rif 2 - s.least + s.err))) := by
          show ((passK s ⟨lo', hi', [p0, p1, false, p3, p4, p5, p6, p7], [f0, f1, false, f3, f4, f5, f6, f7]⟩ 2, decide _ && true) : Kn × Bool) = _
          rw [Bool.and_true]
          rfl
        rw [e1]
        (refine q_cond_true rfl (q_seq (q_region (ql_pure tabOk rfl rfl (ql_pure tabOk rfl rfl ?_)))))
        refine ql_indexA (len := 8) b8_arr rfl rfl rfl (by omega) (by omega) ?_
        refine ql_stN [.int .i64 lo', .int .i64 hi', .bool p0, .bool p1, .bool true, .bool p3, .bool p4, .bool p5, .bool p6, .bool p7, .bool f0, .bool f1, .bool false, .bool f3, .bool f4, .bool f5, .bool f6, .bool f7] tabOk rfl rfl rfl rfl (by repeat constructor) rfl rfl ?_
        (refine q_nil ?_)
        refine q_drawS 12 _ [.pt b5 _ _] (Sp.cons (by repeat constructor) (Sp.refl _)) (by kernel_rfl) (by kernel_rfl) (by kernel_rfl) fun K1 hK1 => ?_
        (refine qf_pure tabOk rfl rfl rfl ?_; refine qf_loadABa tabOk rfl rfl rfl ?_; (iterate 5 refine qf_pure tabOk rfl rfl rfl ?_); refine qf_loadP tabOk rfl rfl rfl (by assumption) (by rfl) ?_; refine qf_ar tabOk rfl rfl rfl rfl (by omega) (by omega) ?_)
        refine qf_mk #[.int .i64 (-1000), .int .i64 (s.rif 2 - s.least + s.err)] rfl (by kernel_rfl) rfl ?_
        skip
        refine qf_callv (val := spV2 (max lo' (-1000), min hi' (s.rif 2 - s.least + s.err))) tabOk rfl rfl rfl rfl (fun w hs => ?_) ?_; exact common_ca (lo', hi') (-1000, s.rif 2 - s.least + s.err) w
        (refine qf_pure tabOk rfl rfl rfl (qf_nil ?_))
        refine hK1 _ _ [.pt b5 _ _] (Sp.cons (by repeat constructor) ((by repeat constructor))) ?_
        skip
        refine qf_stA [.int .i64 (max lo' (-1000)), .int .i64 (min hi' (s.rif 2 - s.least + s.err)), .bool p0, .bool p1, .bool true, .bool p3, .bool p4, .bool p5, .bool p6, .bool p7, .bool f0, .bool f1, .bool false, .bool f3, .bool f4, .bool f5, .bool f6, .bool f7] tabOk rfl rfl rfl rfl rfl (by repeat constructor) rfl rfl ?_
        (refine qf_nil (q_seq ?_))
        refine q_draw _ [.pt b8 _ _] (Sp.cons (by repeat constructor) (Sp.refl _)) (by kernel_rfl) (by kernel_rfl) ?_
        (refine qf_loadABa tabOk rfl rfl rfl ?_; refine qf_pure tabOk rfl rfl rfl (qf_pure tabOk rfl rfl rfl ?_); refine qf_loadBa tabOk rfl rfl rfl ?_; refine qf_pure tabOk rfl rfl rfl (qf_pure tabOk rfl rfl rfl ?_); refine qf_loadBa tabOk rfl rfl rfl ?_; refine qf_pure tabOk rfl rfl rfl ?_; refine qf_setA tabOk rfl rfl rfl rfl rfl (by repeat constructor) rfl ?_; refine qf_pure tabOk rfl rfl rfl (qf_nil (q_ret ?_)))
        refine q_fin tabOk rfl (by repeat constructor) fun w hs => ?_
        exact ⟨rfl, hs.chg0⟩
      | false =>
        have e1 : afterV s ⟨lo', hi', [p0, p1, false, p3, p4, p5, p6, p7], [f0, f1, false, f3, f4, f5, f6, f7]⟩ 2 false = (⟨max lo' (s.rif 2 - s.least + 1 - s.err), min hi' 1000, [p0, p1, false, p3, p4, p5, p6, p7], [f0, f1, true, f3, f4, f5, f6, f7]⟩, decide (max lo' (s.rif 2 - s.least + 1 - s.err) ≤ min hi' 1000)) := by
          show ((failK s ⟨lo', hi', [p0, p1, false, p3, p4, p5, p6, p7], [f0, f1, false, f3, f4, f5, f6, f7]⟩ 2, decide _ && true) : Kn × Bool) = _
          rw [Bool.and_true]
          rfl
        rw [e1]
        (refine q_cond_false rfl (q_seq (q_region (ql_pure tabOk rfl rfl (ql_pure tabOk rfl rfl ?_)))))
        refine ql_indexA (len := 8) b8_arr rfl rfl rfl (by omega) (by omega) ?_
        refine ql_stN [.int .i64 lo', .int .i64 hi', .bool p0, .bool p1, .bool false, .bool p3, .bool p4, .bool p5, .bool p6, .bool p7, .bool f0, .bool f1, .bool true, .bool f3, .bool f4, .bool f5, .bool f6, .bool f7] tabOk rfl rfl rfl rfl (by repeat constructor) rfl rfl ?_
        (refine q_nil ?_)
        refine q_drawS 13 _ [.pt b5 _ _] (Sp.cons (by repeat constructor) (Sp.refl _)) (by kernel_rfl) (by kernel_rfl) (by kernel_rfl) fun K1 hK1 => ?_
        (refine qf_pure tabOk rfl rfl rfl ?_; refine qf_loadABa tabOk rfl rfl rfl ?_; refine qf_pure tabOk rfl rfl rfl (qf_ar tabOk rfl rfl rfl rfl (by omega) (by omega) ?_); (iterate 4 refine qf_pure tabOk rfl rfl rfl ?_); refine qf_loadP tabOk rfl rfl rfl (by assumption) (by rfl) ?_; refine qf_ar tabOk rfl rfl rfl rfl (by omega) (by omega) ?_)
        refine qf_mk #[.int .i64 (s.rif 2 - s.least + 1 - s.err), .int .i64 1000] rfl (by kernel_rfl) rfl ?_
        skip
        refine qf_callv (val := spV2 (max lo' (s.rif 2 - s.least + 1 - s.err), min hi' 1000)) tabOk rfl rfl rfl rfl (fun w hs => ?_) ?_; exact common_ca (lo', hi') (s.rif 2 - s.least + 1 - s.err, 1000) w
        (refine qf_pure tabOk rfl rfl rfl (qf_nil ?_))
        refine hK1 _ _ [.pt b5 _ _] (Sp.cons (by repeat constructor) ((by repeat constructor))) ?_
        skip
        refine qf_stA [.int .i64 (max lo' (s.rif 2 - s.least + 1 - s.err)), .int .i64 (min hi' 1000), .bool p0, .bool p1, .bool false, .bool p3, .bool p4, .bool p5, .bool p6, .bool p7, .bool f0, .bool f1, .bool true, .bool f3, .bool f4, .bool f5, .bool f6, .bool f7] tabOk rfl rfl rfl rfl rfl (by repeat constructor) rfl rfl ?_
        (refine qf_nil (q_seq ?_))
        refine q_draw _ [.pt b8 _ _] (Sp.cons (by repeat constructor) (Sp.refl _)) (by kernel_rfl) (by kernel_rfl) ?_
        (refine qf_loadABa tabOk rfl rfl rfl ?_; refine qf_pure tabOk rfl rfl rfl (qf_pure tabOk rfl rfl rfl ?_); refine qf_loadBa tabOk rfl rfl rfl ?_; refine qf_pure tabOk rfl rfl rfl (qf_pure tabOk rfl rfl rfl ?_); refine qf_loadBa tabOk rfl rfl rfl ?_; refine qf_pure tabOk rfl rfl rfl ?_; refine qf_setA tabOk rfl rfl rfl rfl rfl (by repeat constructor) rfl ?_; refine qf_pure tabOk rfl rfl rfl (qf_nil (q_ret ?_)))
        refine q_fin tabOk rfl (by repeat constructor) fun w hs => ?_
        exact ⟨rfl, hs.chg0⟩
set_option maxHeartbeats 4000000 in
theorem after3_ca (w : World) (lo hi bd : Nat) (s : Sc) (tv rv : Value) (k0 : Kn) (lo' hi' : Int) (p0 p1 p2 p3 p4 p5 p6 p7 f0 f1 f2 f3 f4 f5 f6 f7 : Bool) (h : ScR w lo hi tv rv s) (hb : Blk w bd (dskC s tv rv k0) 184) (hs0 : s.Ok) (hlo : -100000 ≤ lo' ∧ lo' ≤ 100000) (hhi : -100000 ≤ hi' ∧ hi' ≤ 100000) (hi2 : 3 < s.rifles.length) (b : Bool) : Ca Tryz.prog 131 [.pointer (some ⟨bd, 0, none⟩), knV ⟨lo', hi', [p0, p1, p2, p3, p4, p5, p6, p7], [f0, f1, f2, f3, f4, f5, f6, f7]⟩, .int .i64 3, .bool b] w fun x w' => x = .tuple #[knV (afterV s ⟨lo', hi', [p0, p1, p2, p3, p4, p5, p6, p7], [f0, f1, f2, f3, f4, f5, f6, f7]⟩ 3 b).1, .bool (afterV s ⟨lo', hi', [p0, p1, p2, p3, p4, p5, p6, p7], [f0, f1, f2, f3, f4, f5, f6, f7]⟩ 3 b).2] ∧ Chg [] w w' := by
  have he := hs0.err
  have hle := hs0.least
  have hrn := hs0.rn8
  have hri := hs0.rif hi2
  obtain ⟨ra, rc, rfl, hra⟩ := RdI.outI h.r
  obtain ⟨rb, ro, rfl⟩ := hra (by omega)
  have er : s.rifles[3] = s.rif 3 := by unfold Sc.rif; rw [getI hi2]
  have hcell : ∀ w', Chg [] w w' → w'.cell? ⟨rb, ro + (3 : Int).toNat * 1, none⟩ = some (.int .i64 (s.rif 3)) := fun w' hs => by have := RdI.at (RdE.keep h.r hs) 3 hi2; rw [er] at this; exact this
  refine q_of (Sat.nil w M0) Tryz.func131 rfl (by simp [Tryz.ntmps131]) ?_
  (refine q_seq (q_region ?_))
  refine ql_box rfl rfl (fun b5 => ?_)
  rw [agg_cells]
  dsimp only [knC, bools, List.map_cons, List.map_nil, List.cons_append, List.nil_append]
  skip
  refine ql_alloc zero182 rfl (fun b8 => ?_)
  (refine ql_pure tabOk rfl rfl (q_nil (q_seq (q_seq (q_region (ql_pure tabOk rfl rfl (ql_pure tabOk rfl rfl ?_)))))))
  refine ql_indexA (len := 8) b8_arr rfl rfl rfl (by omega) (by omega) ?_
  (refine ql_loadBa tabOk rfl rfl rfl ?_; refine ql_pure tabOk rfl rfl ?_)
  cases p3 with
  | true =>
    ((iterate 4 refine ql_gno rfl rfl rfl ?_); refine ql_pure tabOk rfl rfl (q_nil (q_cond_true rfl (q_seq ?_))))
    refine q_draw _ [.pt b8 _ _] (Sp.cons (by repeat constructor) (Sp.refl _)) (by kernel_rfl) (by kernel_rfl) ?_
    (refine qf_loadABa tabOk rfl rfl rfl ?_; refine qf_pure tabOk rfl rfl rfl (qf_pure tabOk rfl rfl rfl ?_))
    refine qf_indexA (len := 8) b8_arr rfl rfl rfl (by omega) (by omega) ?_
    (refine qf_loadBa tabOk rfl rfl rfl ?_; refine qf_pure tabOk rfl rfl rfl ?_)
    refine qf_eqb bool_b rfl rfl rfl ?_
    (refine qf_setA tabOk rfl rfl rfl rfl rfl (by repeat constructor) rfl ?_; refine qf_pure tabOk rfl rfl rfl (qf_nil (q_ret ?_)))
    refine q_fin tabOk rfl (by repeat constructor) fun w hs => ?_
    exact ⟨rfl, hs.chg0⟩
  | false =>
    (refine ql_gyes rfl (ql_pure tabOk rfl rfl (ql_gyes rfl (ql_pure tabOk rfl rfl (ql_gyes rfl ?_)))))
    refine ql_indexA (len := 8) b8_arr rfl rfl rfl (by omega) (by omega) ?_
    (refine ql_gyes rfl ?_; refine ql_loadBa tabOk rfl rfl rfl ?_; refine ql_pure tabOk rfl rfl (q_nil ?_))
    cases f3 with
    | true =>
      (refine q_cond_true rfl (q_seq ?_))
      refine q_draw _ [.pt b8 _ _] (Sp.cons (by repeat constructor) (Sp.refl _)) (by kernel_rfl) (by kernel_rfl) ?_
      (refine qf_loadABa tabOk rfl rfl rfl ?_; refine qf_pure tabOk rfl rfl rfl (qf_pure tabOk rfl rfl rfl ?_))
      refine qf_indexA (len := 8) b8_arr rfl rfl rfl (by omega) (by omega) ?_
      (refine qf_loadBa tabOk rfl rfl rfl ?_; refine qf_pure tabOk rfl rfl rfl ?_)
      refine qf_eqb bool_b rfl rfl rfl ?_
      (refine qf_setA tabOk rfl rfl rfl rfl rfl (by repeat constructor) rfl ?_; refine qf_pure tabOk rfl rfl rfl (qf_nil (q_ret ?_)))
      refine q_fin tabOk rfl (by repeat constructor) fun w hs => ?_
      exact ⟨rfl, hs.chg0⟩
    | false =>
      (refine q_cond_false rfl (q_skip (q_seq ?_)))
      refine q_draw _ [] (Sp.refl _) (by kernel_rfl) (by kernel_rfl) ?_
      ((iterate 4 refine qf_pure tabOk rfl rfl rfl ?_); refine qf_loadP tabOk rfl rfl rfl (by assumption) (by rfl) ?_; refine qf_pure tabOk rfl rfl rfl ?_)
      refine qf_index tabOk rfl rfl rfl rfl rfl (by omega) (by omega) ?_
      skip
      refine qf_load1 (v := .int .i64 (s.rif 3)) tabOk rfl rfl rfl (fun w hs => hcell _ hs.chg0) ?_
      ((iterate 4 refine qf_pure tabOk rfl rfl rfl ?_); refine qf_loadP tabOk rfl rfl rfl (by assumption) (by rfl) ?_; refine qf_ar tabOk rfl rfl rfl rfl (by omega) (by omega) (qf_pure tabOk rfl rfl rfl (qf_nil (q_seq (q_seq (q_region (ql_pure tabOk rfl rfl (q_nil ?_))))))))
      cases b with
      | true =>
        have e1 : afterV s ⟨lo', hi', [p0, p1, p2, false, p4, p5, p6, p7], [f0, f1, f2, false, f4, f5, f6, f7]⟩ 3 true = (⟨max lo' (-1000), min hi' (s.rif 3 - s.least + s.err), [p0, p1, p2, true, p4, p5, p6, p7], [f0, f1, f2, false, f4, f5, f6, f7]⟩, decide (max lo' (-1000) ≤ min hi' (s.rif 3 - s.least + s.err))) := by
          show ((passK s ⟨lo', hi', [p0, p1, p2, false, p4, p5, p6, p7], [f0, f1, f2, false, f4, f5, f6, f7]⟩ 3, decide _ && true) : Kn × Bool) = _
          rw [Bool.and_true]
          rfl
        rw [e1]
        (refine q_cond_true rfl (q_seq (q_region (ql_pure tabOk rfl rfl (ql_pure tabOk rfl rfl ?_)))))
        refine ql_indexA (len := 8) b8_arr rfl rfl rfl (by omega) (by omega) ?_
        refine ql_stN [.int .i64 lo', .int .i64 hi', .bool p0, .bool p1, .bool p2, .bool true, .bool p4, .bool p5, .bool p6, .bool p7, .bool f0, .bool f1, .bool f2, .bool false, .bool f4, .bool f5, .bool f6, .bool f7] tabOk rfl rfl rfl rfl (by repeat constructor) rfl rfl ?_
        (refine q_nil ?_)
        refine q_drawS 12 _ [.pt b5 _ _] (Sp.cons (by repeat constructor) (Sp.refl _)) (by kernel_rfl) (by kernel_rfl) (by kernel_rfl) fun K1 hK1 => ?_
        (refine qf_pure tabOk rfl rfl rfl ?_; refine qf_loadABa tabOk rfl rfl rfl ?_; (iterate 5 refine qf_pure tabOk rfl rfl rfl ?_); refine qf_loadP tabOk rfl rfl rfl (by assumption) (by rfl) ?_; refine qf_ar tabOk rfl rfl rfl rfl (by omega) (by omega) ?_)
        refine qf_mk #[.int .i64 (-1000), .int .i64 (s.rif 3 - s.least + s.err)] rfl (by kernel_rfl) rfl ?_
        skip
        refine qf_callv (val := spV2 (max lo' (-1000), min hi' (s.rif 3 - s.least + s.err))) tabOk rfl rfl rfl rfl (fun w hs => ?_) ?_; exact common_ca (lo', hi') (-1000, s.rif 3 - s.least + s.err) w
        (refine qf_pure tabOk rfl rfl rfl (qf_nil ?_))
        refine hK1 _ _ [.pt b5 _ _] (Sp.cons (by repeat constructor) ((by repeat constructor))) ?_
        skip
        refine qf_stA [.int .i64 (max lo' (-1000)), .int .i64 (min hi' (s.rif 3 - s.least + s.err)), .bool p0, .bool p1, .bool p2, .bool true, .bool p4, .bool p5, .bool p6, .bool p7, .bool f0, .bool f1, .bool f2, .bool false, .bool f4, .bool f5, .bool f6, .bool f7] tabOk rfl rfl rfl rfl rfl (by repeat constructor) rfl rfl ?_
        (refine qf_nil (q_seq ?_))
        refine q_draw _ [.pt b8 _ _] (Sp.cons (by repeat constructor) (Sp.refl _)) (by kernel_rfl) (by kernel_rfl) ?_
        (refine qf_loadABa tabOk rfl rfl rfl ?_; refine qf_pure tabOk rfl rfl rfl (qf_pure tabOk rfl rfl rfl ?_); refine qf_loadBa tabOk rfl rfl rfl ?_; refine qf_pure tabOk rfl rfl rfl (qf_pure tabOk rfl rfl rfl ?_); refine qf_loadBa tabOk rfl rfl rfl ?_; refine qf_pure tabOk rfl rfl rfl ?_; refine qf_setA tabOk rfl rfl rfl rfl rfl (by repeat constructor) rfl ?_; refine qf_pure tabOk rfl rfl rfl (qf_nil (q_ret ?_)))
        refine q_fin tabOk rfl (by repeat constructor) fun w hs => ?_
        exact ⟨rfl, hs.chg0⟩
      | false =>
        have e1 : afterV s ⟨lo', hi', [p0, p1, p2, false, p4, p5, p6, p7], [f0, f1, f2, false, f4, f5, f6, f7]⟩ 3 false = (⟨max lo' (s.rif 3 - s.least + 1 - s.err), min hi' 1000, [p0, p1, p2, false, p4, p5, p6, p7], [f0, f1, f2, true, f4, f5, f6, f7]⟩, decide (max lo' (s.rif 3 - s.least + 1 - s.err) ≤ min hi' 1000)) := by
          show ((failK s ⟨lo', hi', [p0, p1, p2, false, p4, p5, p6, p7], [f0, f1, f2, false, f4, f5, f6, f7]⟩ 3, decide _ && true) : Kn × Bool) = _
          rw [Bool.and_true]
          rfl
        rw [e1]
        (refine q_cond_false rfl (q_seq (q_region (ql_pure tabOk rfl rfl (ql_pure tabOk rfl rfl ?_)))))
        refine ql_indexA (len := 8) b8_arr rfl rfl rfl (by omega) (by omega) ?_
        refine ql_stN [.int .i64 lo', .int .i64 hi', .bool p0, .bool p1, .bool p2, .bool false, .bool p4, .bool p5, .bool p6, .bool p7, .bool f0, .bool f1, .bool f2, .bool true, .bool f4, .bool f5, .bool f6, .bool f7] tabOk rfl rfl rfl rfl (by repeat constructor) rfl rfl ?_
        (refine q_nil ?_)
        refine q_drawS 13 _ [.pt b5 _ _] (Sp.cons (by repeat constructor) (Sp.refl _)) (by kernel_rfl) (by kernel_rfl) (by kernel_rfl) fun K1 hK1 => ?_
        (refine qf_pure tabOk rfl rfl rfl ?_; refine qf_loadABa tabOk rfl rfl rfl ?_; refine qf_pure tabOk rfl rfl rfl (qf_ar tabOk rfl rfl rfl rfl (by omega) (by omega) ?_); (iterate 4 refine qf_pure tabOk rfl rfl rfl ?_); refine qf_loadP tabOk rfl rfl rfl (by assumption) (by rfl) ?_; refine qf_ar tabOk rfl rfl rfl rfl (by omega) (by omega) ?_)
        refine qf_mk #[.int .i64 (s.rif 3 - s.least + 1 - s.err), .int .i64 1000] rfl (by kernel_rfl) rfl ?_
        skip
        refine qf_callv (val := spV2 (max lo' (s.rif 3 - s.least + 1 - s.err), min hi' 1000)) tabOk rfl rfl rfl rfl (fun w hs => ?_) ?_; exact common_ca (lo', hi') (s.rif 3 - s.least + 1 - s.err, 1000) w
        (refine qf_pure tabOk rfl rfl rfl (qf_nil ?_))
        refine hK1 _ _ [.pt b5 _ _] (Sp.cons (by repeat constructor) ((by repeat constructor))) ?_
        skip
        refine qf_stA [.int .i64 (max lo' (s.rif 3 - s.least + 1 - s.err)), .int .i64 (min hi' 1000), .bool p0, .bool p1, .bool p2, .bool false, .bool p4, .bool p5, .bool p6, .bool p7, .bool f0, .bool f1, .bool f2, .bool true, .bool f4, .bool f5, .bool f6, .bool f7] tabOk rfl rfl rfl rfl rfl (by repeat constructor) rfl rfl ?_
        (refine qf_nil (q_seq ?_))
        refine q_draw _ [.pt b8 _ _] (Sp.cons (by repeat constructor) (Sp.refl _)) (by kernel_rfl) (by kernel_rfl) ?_
        (refine qf_loadABa tabOk rfl rfl rfl ?_; refine qf_pure tabOk rfl rfl rfl (qf_pure tabOk rfl rfl rfl ?_); refine qf_loadBa tabOk rfl rfl rfl ?_; refine qf_pure tabOk rfl rfl rfl (qf_pure tabOk rfl rfl rfl ?_); refine qf_loadBa tabOk rfl rfl rfl ?_; refine qf_pure tabOk rfl rfl rfl ?_; refine qf_setA tabOk rfl rfl rfl rfl rfl (by repeat constructor) rfl ?_; refine qf_pure tabOk rfl rfl rfl (qf_nil (q_ret ?_)))
        refine q_fin tabOk rfl (by repeat constructor) fun w hs => ?_
        exact ⟨rfl, hs.chg0⟩
set_option maxHeartbeats 4000000 in
theorem after4_ca (w : World) (lo hi bd : Nat) (s : Sc) (tv rv : Value) (k0 : Kn) (lo' hi' : Int) (p0 p1 p2 p3 p4 p5 p6 p7 f0 f1 f2 f3 f4 f5 f6 f7 : Bool) (h : ScR w lo hi tv rv s) (hb : Blk w bd (dskC s tv rv k0) 184) (hs0 : s.Ok) (hlo : -100000 ≤ lo' ∧ lo' ≤ 100000) (hhi : -100000 ≤ hi' ∧ hi' ≤ 100000) (hi2 : 4 < s.rifles.length) (b : Bool) : Ca Tryz.prog 131 [.pointer (some ⟨bd, 0, none⟩), knV ⟨lo', hi', [p0, p1, p2, p3, p4, p5, p6, p7], [f0, f1, f2, f3, f4, f5, f6, f7]⟩, .int .i64 4, .bool b] w fun x w' => x = .tuple #[knV (afterV s ⟨lo', hi', [p0, p1, p2, p3, p4, p5, p6, p7], [f0, f1, f2, f3, f4, f5, f6, f7]⟩ 4 b).1, .bool (afterV s ⟨lo', hi', [p0, p1, p2, p3, p4, p5, p6, p7], [f0, f1, f2, f3, f4, f5, f6, f7]⟩ 4 b).2] ∧ Chg [] w w' := by
  have he := hs0.err
  have hle := hs0.least
  have hrn := hs0.rn8
  have hri := hs0.rif hi2
  obtain ⟨ra, rc, rfl, hra⟩ := RdI.outI h.r
  obtain ⟨rb, ro, rfl⟩ := hra (by omega)
  have er : s.rifles[4] = s.rif 4 := by unfold Sc.rif; rw [getI hi2]
  have hcell : ∀ w', Chg [] w w' → w'.cell? ⟨rb, ro + (4 : Int).toNat * 1, none⟩ = some (.int .i64 (s.rif 4)) := fun w' hs => by have := RdI.at (RdE.keep h.r hs) 4 hi2; rw [er] at this; exact this
  refine q_of (Sat.nil w M0) Tryz.func131 rfl (by simp [Tryz.ntmps131]) ?_
  (refine q_seq (q_region ?_))
  refine ql_box rfl rfl (fun b5 => ?_)
  rw [agg_cells]
  dsimp only [knC, bools, List.map_cons, List.map_nil, List.cons_append, List.nil_append]
  skip
  refine ql_alloc zero182 rfl (fun b8 => ?_)
  (refine ql_pure tabOk rfl rfl (q_nil (q_seq (q_seq (q_region (ql_pure tabOk rfl rfl (ql_pure tabOk rfl rfl ?_)))))))
  refine ql_indexA (len := 8) b8_arr rfl rfl rfl (by omega) (by omega) ?_
  (refine ql_loadBa tabOk rfl rfl rfl ?_; refine ql_pure tabOk rfl rfl ?_)
  cases p4 with
  | true =>
    ((iterate 4 refine ql_gno rfl rfl rfl ?_); refine ql_pure tabOk rfl rfl (q_nil (q_cond_true rfl (q_seq ?_))))
    refine q_draw _ [.pt b8 _ _] (Sp.cons (by repeat constructor) (Sp.refl _)) (by kernel_rfl) (by kernel_rfl) ?_
    (refine qf_loadABa tabOk rfl rfl rfl ?_; refine qf_pure tabOk rfl rfl rfl (qf_pure tabOk rfl rfl rfl ?_))
    refine qf_indexA (len := 8) b8_arr rfl rfl rfl (by omega) (by omega) ?_
    (refine qf_loadBa tabOk rfl rfl rfl ?_; refine qf_pure tabOk rfl rfl rfl ?_)
    refine qf_eqb bool_b rfl rfl rfl ?_
    (refine qf_setA tabOk rfl rfl rfl rfl rfl (by repeat constructor) rfl ?_; refine qf_pure tabOk rfl rfl rfl (qf_nil (q_ret ?_)))
    refine q_fin tabOk rfl (by repeat constructor) fun w hs => ?_
    exact ⟨rfl, hs.chg0⟩
  | false =>
    (refine ql_gyes rfl (ql_pure tabOk rfl rfl (ql_gyes rfl (ql_pure tabOk rfl rfl (ql_gyes rfl ?_)))))
    refine ql_indexA (len := 8) b8_arr rfl rfl rfl (by omega) (by omega) ?_
    (refine ql_gyes rfl ?_; refine ql_loadBa tabOk rfl rfl rfl ?_; refine ql_pure tabOk rfl rfl (q_nil ?_))
    cases f4 with
    | true =>
      (refine q_cond_true rfl (q_seq ?_))
      refine q_draw _ [.pt b8 _ _] (Sp.cons (by repeat constructor) (Sp.refl _)) (by kernel_rfl) (by kernel_rfl) ?_
      (refine qf_loadABa tabOk rfl rfl rfl ?_; refine qf_pure tabOk rfl rfl rfl (qf_pure tabOk rfl rfl rfl ?_))
      refine qf_indexA (len := 8) b8_arr rfl rfl rfl (by omega) (by omega) ?_
      (refine qf_loadBa tabOk rfl rfl rfl ?_; refine qf_pure tabOk rfl rfl rfl ?_)
      refine qf_eqb bool_b rfl rfl rfl ?_
      (refine qf_setA tabOk rfl rfl rfl rfl rfl (by repeat constructor) rfl ?_; refine qf_pure tabOk rfl rfl rfl (qf_nil (q_ret ?_)))
      refine q_fin tabOk rfl (by repeat constructor) fun w hs => ?_
      exact ⟨rfl, hs.chg0⟩
    | false =>
      (refine q_cond_false rfl (q_skip (q_seq ?_)))
      refine q_draw _ [] (Sp.refl _) (by kernel_rfl) (by kernel_rfl) ?_
      ((iterate 4 refine qf_pure tabOk rfl rfl rfl ?_); refine qf_loadP tabOk rfl rfl rfl (by assumption) (by rfl) ?_; refine qf_pure tabOk rfl rfl rfl ?_)
      refine qf_index tabOk rfl rfl rfl rfl rfl (by omega) (by omega) ?_
      skip
      refine qf_load1 (v := .int .i64 (s.rif 4)) tabOk rfl rfl rfl (fun w hs => hcell _ hs.chg0) ?_
      ((iterate 4 refine qf_pure tabOk rfl rfl rfl ?_); refine qf_loadP tabOk rfl rfl rfl (by assumption) (by rfl) ?_; refine qf_ar tabOk rfl rfl rfl rfl (by omega) (by omega) (qf_pure tabOk rfl rfl rfl (qf_nil (q_seq (q_seq (q_region (ql_pure tabOk rfl rfl (q_nil ?_))))))))
      cases b with
      | true =>
        have e1 : afterV s ⟨lo', hi', [p0, p1, p2, p3, false, p5, p6, p7], [f0, f1, f2, f3, false, f5, f6, f7]⟩ 4 true = (⟨max lo' (-1000), min hi' (s.rif 4 - s.least + s.err), [p0, p1, p2, p3, true, p5, p6, p7], [f0, f1, f2, f3, false, f5, f6, f7]⟩, decide (max lo' (-1000) ≤ min hi' (s.rif 4 - s.least + s.err))) := by
          show ((passK s ⟨lo', hi', [p0, p1, p2, p3, false, p5, p6, p7], [f0, f1, f2, f3, false, f5, f6, f7]⟩ 4, decide _ && true) : Kn × Bool) = _
          rw [Bool.and_true]
          rfl
        rw [e1]
        (refine q_cond_true rfl (q_seq (q_region (ql_pure tabOk rfl rfl (ql_pure tabOk rfl rfl ?_)))))
        refine ql_indexA (len := 8) b8_arr rfl rfl rfl (by omega) (by omega) ?_
        refine ql_stN [.int .i64 lo', .int .i64 hi', .bool p0, .bool p1, .bool p2, .bool p3, .bool true, .bool p5, .bool p6, .bool p7, .bool f0, .bool f1, .bool f2, .bool f3, .bool false, .bool f5, .bool f6, .bool f7] tabOk rfl rfl rfl rfl (by repeat constructor) rfl rfl ?_
        (refine q_nil ?_)
        refine q_drawS 12 _ [.pt b5 _ _] (Sp.cons (by repeat constructor) (Sp.refl _)) (by kernel_rfl) (by kernel_rfl) (by kernel_rfl) fun K1 hK1 => ?_
        (refine qf_pure tabOk rfl rfl rfl ?_; refine qf_loadABa tabOk rfl rfl rfl ?_; (iterate 5 refine qf_pure tabOk rfl rfl rfl ?_); refine qf_loadP tabOk rfl rfl rfl (by assumption) (by rfl) ?_; refine qf_ar tabOk rfl rfl rfl rfl (by omega) (by omega) ?_)
        refine qf_mk #[.int .i64 (-1000), .int .i64 (s.rif 4 - s.least + s.err)] rfl (by kernel_rfl) rfl ?_
        skip
        refine qf_callv (val := spV2 (max lo' (-1000), min hi' (s.rif 4 - s.least + s.err))) tabOk rfl rfl rfl rfl (fun w hs => ?_) ?_; exact common_ca (lo', hi') (-1000, s.rif 4 - s.least + s.err) w
        (refine qf_pure tabOk rfl rfl rfl (qf_nil ?_))
        refine hK1 _ _ [.pt b5 _ _] (Sp.cons (by repeat constructor) ((by repeat constructor))) ?_
        skip
        refine qf_stA [.int .i64 (max lo' (-1000)), .int .i64 (min hi' (s.rif 4 - s.least + s.err)), .bool p0, .bool p1, .bool p2, .bool p3, .bool true, .bool p5, .bool p6, .bool p7, .bool f0, .bool f1, .bool f2, .bool f3, .bool false, .bool f5, .bool f6, .bool f7] tabOk rfl rfl rfl rfl rfl (by repeat constructor) rfl rfl ?_
        (refine qf_nil (q_seq ?_))
        refine q_draw _ [.pt b8 _ _] (Sp.cons (by repeat constructor) (Sp.refl _)) (by kernel_rfl) (by kernel_rfl) ?_
        (refine qf_loadABa tabOk rfl rfl rfl ?_; refine qf_pure tabOk rfl rfl rfl (qf_pure tabOk rfl rfl rfl ?_); refine qf_loadBa tabOk rfl rfl rfl ?_; refine qf_pure tabOk rfl rfl rfl (qf_pure tabOk rfl rfl rfl ?_); refine qf_loadBa tabOk rfl rfl rfl ?_; refine qf_pure tabOk rfl rfl rfl ?_; refine qf_setA tabOk rfl rfl rfl rfl rfl (by repeat constructor) rfl ?_; refine qf_pure tabOk rfl rfl rfl (qf_nil (q_ret ?_)))
        refine q_fin tabOk rfl (by repeat constructor) fun w hs => ?_
        exact ⟨rfl, hs.chg0⟩
      | false =>
        have e1 : afterV s ⟨lo', hi', [p0, p1, p2, p3, false, p5, p6, p7], [f0, f1, f2, f3, false, f5, f6, f7]⟩ 4 false = (⟨max lo' (s.rif 4 - s.least + 1 - s.err), min hi' 1000, [p0, p1, p2, p3, false, p5, p6, p7], [f0, f1, f2, f3, true, f5, f6, f7]⟩, decide (max lo' (s.rif 4 - s.least + 1 - s.err) ≤ min hi' 1000)) := by
          show ((failK s ⟨lo', hi', [p0, p1, p2, p3, false, p5, p6, p7], [f0, f1, f2, f3, false, f5, f6, f7]⟩ 4, decide _ && true) : Kn × Bool) = _
          rw [Bool.and_true]
          rfl
        rw [e1]
        (refine q_cond_false rfl (q_seq (q_region (ql_pure tabOk rfl rfl (ql_pure tabOk rfl rfl ?_)))))
        refine ql_indexA (len := 8) b8_arr rfl rfl rfl (by omega) (by omega) ?_
        refine ql_stN [.int .i64 lo', .int .i64 hi', .bool p0, .bool p1, .bool p2, .bool p3, .bool false, .bool p5, .bool p6, .bool p7, .bool f0, .bool f1, .bool f2, .bool f3, .bool true, .bool f5, .bool f6, .bool f7] tabOk rfl rfl rfl rfl (by repeat constructor) rfl rfl ?_
        (refine q_nil ?_)
        refine q_drawS 13 _ [.pt b5 _ _] (Sp.cons (by repeat constructor) (Sp.refl _)) (by kernel_rfl) (by kernel_rfl) (by kernel_rfl) fun K1 hK1 => ?_
        (refine qf_pure tabOk rfl rfl rfl ?_; refine qf_loadABa tabOk rfl rfl rfl ?_; refine qf_pure tabOk rfl rfl rfl (qf_ar tabOk rfl rfl rfl rfl (by omega) (by omega) ?_); (iterate 4 refine qf_pure tabOk rfl rfl rfl ?_); refine qf_loadP tabOk rfl rfl rfl (by assumption) (by rfl) ?_; refine qf_ar tabOk rfl rfl rfl rfl (by omega) (by omega) ?_)
        refine qf_mk #[.int .i64 (s.rif 4 - s.least + 1 - s.err), .int .i64 1000] rfl (by kernel_rfl) rfl ?_
        skip
        refine qf_callv (val := spV2 (max lo' (s.rif 4 - s.least + 1 - s.err), min hi' 1000)) tabOk rfl rfl rfl rfl (fun w hs => ?_) ?_; exact common_ca (lo', hi') (s.rif 4 - s.least + 1 - s.err, 1000) w
        (refine qf_pure tabOk rfl rfl rfl (qf_nil ?_))
        refine hK1 _ _ [.pt b5 _ _] (Sp.cons (by repeat constructor) ((by repeat constructor))) ?_
        skip
        refine qf_stA [.int .i64 (max lo' (s.rif 4 - s.least + 1 - s.err)), .int .i64 (min hi' 1000), .bool p0, .bool p1, .bool p2, .bool p3, .bool false, .bool p5, .bool p6, .bool p7, .bool f0, .bool f1, .bool f2, .bool f3, .bool true, .bool f5, .bool f6, .bool f7] tabOk rfl rfl rfl rfl rfl (by repeat constructor) rfl rfl ?_
        (refine qf_nil (q_seq ?_))
        refine q_draw _ [.pt b8 _ _] (Sp.cons (by repeat constructor) (Sp.refl _)) (by kernel_rfl) (by kernel_rfl) ?_
        (refine qf_loadABa tabOk rfl rfl rfl ?_; refine qf_pure tabOk rfl rfl rfl (qf_pure tabOk rfl rfl rfl ?_); refine qf_loadBa tabOk rfl rfl rfl ?_; refine qf_pure tabOk rfl rfl rfl (qf_pure tabOk rfl rfl rfl ?_); refine qf_loadBa tabOk rfl rfl rfl ?_; refine qf_pure tabOk rfl rfl rfl ?_; refine qf_setA tabOk rfl rfl rfl rfl rfl (by repeat constructor) rfl ?_; refine qf_pure tabOk rfl rfl rfl (qf_nil (q_ret ?_)))
        refine q_fin tabOk rfl (by repeat constructor) fun w hs => ?_
        exact ⟨rfl, hs.chg0⟩
set_option maxHeartbeats 4000000 in
theorem after5_ca (w : World) (lo hi bd : Nat) (s : Sc) (tv rv : Value) (k0 : Kn) (lo' hi' : Int) (p0 p1 p2 p3 p4 p5 p6 p7 f0 f1 f2 f3 f4 f5 f6 f7 : Bool) (h : ScR w lo hi tv rv s) (hb : Blk w bd (dskC s tv rv k0) 184) (hs0 : s.Ok) (hlo : -100000 ≤ lo' ∧ lo' ≤ 100000) (hhi : -100000 ≤ hi' ∧ hi' ≤ 100000) (hi2 : 5 < s.rifles.length) (b : Bool) : Ca Tryz.prog 131 [.pointer (some ⟨bd, 0, none⟩), knV ⟨lo', hi', [p0, p1, p2, p3, p4, p5, p6, p7], [f0, f1, f2, f3, f4, f5, f6, f7]⟩, .int .i64 5, .bool b] w fun x w' => x = .tuple #[knV (afterV s ⟨lo', hi', [p0, p1, p2, p3, p4, p5, p6, p7], [f0, f1, f2, f3, f4, f5, f6, f7]⟩ 5 b).1, .bool (afterV s ⟨lo', hi', [p0, p1, p2, p3, p4, p5, p6, p7], [f0, f1, f2, f3, f4, f5, f6, f7]⟩ 5 b).2] ∧ Chg [] w w' := by
  have he := hs0.err
  have hle := hs0.least
  have hrn := hs0.rn8
  have hri := hs0.rif hi2
  obtain ⟨ra, rc, rfl, hra⟩ := RdI.outI h.r
  obtain ⟨rb, ro, rfl⟩ := hra (by omega)
  have er : s.rifles[5] = s.rif 5 := by unfold Sc.rif; rw [getI hi2]
  have hcell : ∀ w', Chg [] w w' → w'.cell? ⟨rb, ro + (5 : Int).toNat * 1, none⟩ = some (.int .i64 (s.rif 5)) := fun w' hs => by have := RdI.at (RdE.keep h.r hs) 5 hi2; rw [er] at this; exact this
  refine q_of (Sat.nil w M0) Tryz.func131 rfl (by simp [Tryz.ntmps131]) ?_
  (refine q_seq (q_region ?_))
  refine ql_box rfl rfl (fun b5 => ?_)
  rw [agg_cells]
  dsimp only [knC, bools, List.map_cons, List.map_nil, List.cons_append, List.nil_append]
  skip
  refine ql_alloc zero182 rfl (fun b8 => ?_)
  (refine ql_pure tabOk rfl rfl (q_nil (q_seq (q_seq (q_region (ql_pure tabOk rfl rfl (ql_pure tabOk rfl rfl ?_)))))))
  refine ql_indexA (len := 8) b8_arr rfl rfl rfl (by omega) (by omega) ?_
  (refine ql_loadBa tabOk rfl rfl rfl ?_; refine ql_pure tabOk rfl rfl ?_)
  cases p5 with
  | true =>
    ((iterate 4 refine ql_gno rfl rfl rfl ?_); refine ql_pure tabOk rfl rfl (q_nil (q_cond_true rfl (q_seq ?_))))
    refine q_draw _ [.pt b8 _ _] (Sp.cons (by repeat constructor) (Sp.refl _)) (by kernel_rfl) (by kernel_rfl) ?_
    (refine qf_loadABa tabOk rfl rfl rfl ?_; refine qf_pure tabOk rfl rfl rfl (qf_pure tabOk rfl rfl rfl ?_))
    refine qf_indexA (len := 8) b8_arr rfl rfl rfl (by omega) (by omega) ?_
    (refine qf_loadBa tabOk rfl rfl rfl ?_; refine qf_pure tabOk rfl rfl rfl ?_)
    refine qf_eqb bool_b rfl rfl rfl ?_
    (refine qf_setA tabOk rfl rfl rfl rfl rfl (by repeat constructor) rfl ?_; refine qf_pure tabOk rfl rfl rfl (qf_nil (q_ret ?_)))
    refine q_fin tabOk rfl (by repeat constructor) fun w hs => ?_
    exact ⟨rfl, hs.chg0⟩
  | false =>
    (refine ql_gyes rfl (ql_pure tabOk rfl rfl (ql_gyes rfl (ql_pure tabOk rfl rfl (ql_gyes rfl ?_)))))
    refine ql_indexA (len := 8) b8_arr rfl rfl rfl (by omega) (by omega) ?_
    (refine ql_gyes rfl ?_; refine ql_loadBa tabOk rfl rfl rfl ?_; refine ql_pure tabOk rfl rfl (q_nil ?_))
    cases f5 with
    | true =>
      (refine q_cond_true rfl (q_seq ?_))
      refine q_draw _ [.pt b8 _ _] (Sp.cons (by repeat constructor) (Sp.refl _)) (by kernel_rfl) (by kernel_rfl) ?_
      (refine qf_loadABa tabOk rfl rfl rfl ?_; refine qf_pure tabOk rfl rfl rfl (qf_pure tabOk rfl rfl rfl ?_))
      refine qf_indexA (len := 8) b8_arr rfl rfl rfl (by omega) (by omega) ?_
      (refine qf_loadBa tabOk rfl rfl rfl ?_; refine qf_pure tabOk rfl rfl rfl ?_)
      refine qf_eqb bool_b rfl rfl rfl ?_
      (refine qf_setA tabOk rfl rfl rfl rfl rfl (by repeat constructor) rfl ?_; refine qf_pure tabOk rfl rfl rfl (qf_nil (q_ret ?_)))
      refine q_fin tabOk rfl (by repeat constructor) fun w hs => ?_
      exact ⟨rfl, hs.chg0⟩
    | false =>
      (refine q_cond_false rfl (q_skip (q_seq ?_)))
      refine q_draw _ [] (Sp.refl _) (by kernel_rfl) (by kernel_rfl) ?_
      ((iterate 4 refine qf_pure tabOk rfl rfl rfl ?_); refine qf_loadP tabOk rfl rfl rfl (by assumption) (by rfl) ?_; refine qf_pure tabOk rfl rfl rfl ?_)
      refine qf_index tabOk rfl rfl rfl rfl rfl (by omega) (by omega) ?_
      skip
      refine qf_load1 (v := .int .i64 (s.rif 5)) tabOk rfl rfl rfl (fun w hs => hcell _ hs.chg0) ?_
      ((iterate 4 refine qf_pure tabOk rfl rfl rfl ?_); refine qf_loadP tabOk rfl rfl rfl (by assumption) (by rfl) ?_; refine qf_ar tabOk rfl rfl rfl rfl (by omega) (by omega) (qf_pure tabOk rfl rfl rfl (qf_nil (q_seq (q_seq (q_region (ql_pure tabOk rfl rfl (q_nil ?_))))))))
      cases b with
      | true =>
        have e1 : afterV s ⟨lo', hi', [p0, p1, p2, p3, p4, false, p6, p7], [f0, f1, f2, f3, f4, false, f6, f7]⟩ 5 true = (⟨max lo' (-1000), min hi' (s.rif 5 - s.least + s.err), [p0, p1, p2, p3, p4, true, p6, p7], [f0, f1, f2, f3, f4, false, f6, f7]⟩, decide (max lo' (-1000) ≤ min hi' (s.rif 5 - s.least + s.err))) := by
          show ((passK s ⟨lo', hi', [p0, p1, p2, p3, p4, false, p6, p7], [f0, f1, f2, f3, f4, false, f6, f7]⟩ 5, decide _ && true) : Kn × Bool) = _
          rw [Bool.and_true]
          rfl
        rw [e1]
        (refine q_cond_true rfl (q_seq (q_region (ql_pure tabOk rfl rfl (ql_pure tabOk rfl rfl ?_)))))
        refine ql_indexA (len := 8) b8_arr rfl rfl rfl (by omega) (by omega) ?_
        refine ql_stN [.int .i64 lo', .int .i64 hi', .bool p0, .bool p1, .bool p2, .bool p3, .bool p4, .bool true, .bool p6, .bool p7, .bool f0, .bool f1, .bool f2, .bool f3, .bool f4, .bool false, .bool f6, .bool f7] tabOk rfl rfl rfl rfl (by repeat constructor) rfl rfl ?_
        (refine q_nil ?_)
        refine q_drawS 12 _ [.pt b5 _ _] (Sp.cons (by repeat constructor) (Sp.refl _)) (by kernel_rfl) (by kernel_rfl) (by kernel_rfl) fun K1 hK1 => ?_
        (refine qf_pure tabOk rfl rfl rfl ?_; refine qf_loadABa tabOk rfl rfl rfl ?_; (iterate 5 refine qf_pure tabOk rfl rfl rfl ?_); refine qf_loadP tabOk rfl rfl rfl (by assumption) (by rfl) ?_; refine qf_ar tabOk rfl rfl rfl rfl (by omega) (by omega) ?_)
        refine qf_mk #[.int .i64 (-1000), .int .i64 (s.rif 5 - s.least + s.err)] rfl (by kernel_rfl) rfl ?_
        skip
        refine qf_callv (val := spV2 (max lo' (-1000), min hi' (s.rif 5 - s.least + s.err))) tabOk rfl rfl rfl rfl (fun w hs => ?_) ?_; exact common_ca (lo', hi') (-1000, s.rif 5 - s.least + s.err) w
        (refine qf_pure tabOk rfl rfl rfl (qf_nil ?_))
        refine hK1 _ _ [.pt b5 _ _] (Sp.cons (by repeat constructor) ((by repeat constructor))) ?_
        skip
        refine qf_stA [.int .i64 (max lo' (-1000)), .int .i64 (min hi' (s.rif 5 - s.least + s.err)), .bool p0, .bool p1, .bool p2, .bool p3, .bool p4, .bool true, .bool p6, .bool p7, .bool f0, .bool f1, .bool f2, .bool f3, .bool f4, .bool false, .bool f6, .bool f7] tabOk rfl rfl rfl rfl rfl (by repeat constructor) rfl rfl ?_
        (refine qf_nil (q_seq ?_))
        refine q_draw _ [.pt b8 _ _] (Sp.cons (by repeat constructor) (Sp.refl _)) (by kernel_rfl) (by kernel_rfl) ?_
        (refine qf_loadABa tabOk rfl rfl rfl ?_; refine qf_pure tabOk rfl rfl rfl (qf_pure tabOk rfl rfl rfl ?_); refine qf_loadBa tabOk rfl rfl rfl ?_; refine qf_pure tabOk rfl rfl rfl (qf_pure tabOk rfl rfl rfl ?_); refine qf_loadBa tabOk rfl rfl rfl ?_; refine qf_pure tabOk rfl rfl rfl ?_; refine qf_setA tabOk rfl rfl rfl rfl rfl (by repeat constructor) rfl ?_; refine qf_pure tabOk rfl rfl rfl (qf_nil (q_ret ?_)))
        refine q_fin tabOk rfl (by repeat constructor) fun w hs => ?_
        exact ⟨rfl, hs.chg0⟩
      | false =>
        have e1 : afterV s ⟨lo', hi', [p0, p1, p2, p3, p4, false, p6, p7], [f0, f1, f2, f3, f4, false, f6, f7]⟩ 5 false = (⟨max lo' (s.rif 5 - s.least + 1 - s.err), min hi' 1000, [p0, p1, p2, p3, p4, false, p6, p7], [f0, f1, f2, f3, f4, true, f6, f7]⟩, decide (max lo' (s.rif 5 - s.least + 1 - s.err) ≤ min hi' 1000)) := by
          show ((failK s ⟨lo', hi', [p0, p1, p2, p3, p4, false, p6, p7], [f0, f1, f2, f3, f4, false, f6, f7]⟩ 5, decide _ && true) : Kn × Bool) = _
          rw [Bool.and_true]
          rfl
        rw [e1]
        (refine q_cond_false rfl (q_seq (q_region (ql_pure tabOk rfl rfl (ql_pure tabOk rfl rfl ?_)))))
        refine ql_indexA (len := 8) b8_arr rfl rfl rfl (by omega) (by omega) ?_
        refine ql_stN [.int .i64 lo', .int .i64 hi', .bool p0, .bool p1, .bool p2, .bool p3, .bool p4, .bool false, .bool p6, .bool p7, .bool f0, .bool f1, .bool f2, .bool f3, .bool f4, .bool true, .bool f6, .bool f7] tabOk rfl rfl rfl rfl (by repeat constructor) rfl rfl ?_
        (refine q_nil ?_)
        refine q_drawS 13 _ [.pt b5 _ _] (Sp.cons (by repeat constructor) (Sp.refl _)) (by kernel_rfl) (by kernel_rfl) (by kernel_rfl) fun K1 hK1 => ?_
        (refine qf_pure tabOk rfl rfl rfl ?_; refine qf_loadABa tabOk rfl rfl rfl ?_; refine qf_pure tabOk rfl rfl rfl (qf_ar tabOk rfl rfl rfl rfl (by omega) (by omega) ?_); (iterate 4 refine qf_pure tabOk rfl rfl rfl ?_); refine qf_loadP tabOk rfl rfl rfl (by assumption) (by rfl) ?_; refine qf_ar tabOk rfl rfl rfl rfl (by omega) (by omega) ?_)
        refine qf_mk #[.int .i64 (s.rif 5 - s.least + 1 - s.err), .int .i64 1000] rfl (by kernel_rfl) rfl ?_
        skip
        refine qf_callv (val := spV2 (max lo' (s.rif 5 - s.least + 1 - s.err), min hi' 1000)) tabOk rfl rfl rfl rfl (fun w hs => ?_) ?_; exact common_ca (lo', hi') (s.rif 5 - s.least + 1 - s.err, 1000) w
        (refine qf_pure tabOk rfl rfl rfl (qf_nil ?_))
        refine hK1 _ _ [.pt b5 _ _] (Sp.cons (by repeat constructor) ((by repeat constructor))) ?_
        skip
        refine qf_stA [.int .i64 (max lo' (s.rif 5 - s.least + 1 - s.err)), .int .i64 (min hi' 1000), .bool p0, .bool p1, .bool p2, .bool p3, .bool p4, .bool false, .bool p6, .bool p7, .bool f0, .bool f1, .bool f2, .bool f3, .bool f4, .bool true, .bool f6, .bool f7] tabOk rfl rfl rfl rfl rfl (by repeat constructor) rfl rfl ?_
        (refine qf_nil (q_seq ?_))
        refine q_draw _ [.pt b8 _ _] (Sp.cons (by repeat constructor) (Sp.refl _)) (by kernel_rfl) (by kernel_rfl) ?_
        (refine qf_loadABa tabOk rfl rfl rfl ?_; refine qf_pure tabOk rfl rfl rfl (qf_pure tabOk rfl rfl rfl ?_); refine qf_loadBa tabOk rfl rfl rfl ?_; refine qf_pure tabOk rfl rfl rfl (qf_pure tabOk rfl rfl rfl ?_); refine qf_loadBa tabOk rfl rfl rfl ?_; refine qf_pure tabOk rfl rfl rfl ?_; refine qf_setA tabOk rfl rfl rfl rfl rfl (by repeat constructor) rfl ?_; refine qf_pure tabOk rfl rfl rfl (qf_nil (q_ret ?_)))
        refine q_fin tabOk rfl (by repeat constructor) fun w hs => ?_
        exact ⟨rfl, hs.chg0⟩
set_option maxHeartbeats 4000000 in
theorem after6_ca (w : World) (lo hi bd : Nat) (s : Sc) (tv rv : Value) (k0 : Kn) (lo' hi' : Int) (p0 p1 p2 p3 p4 p5 p6 p7 f0 f1 f2 f3 f4 f5 f6 f7 : Bool) (h : ScR w lo hi tv rv s) (hb : Blk w bd (dskC s tv rv k0) 184) (hs0 : s.Ok) (hlo : -100000 ≤ lo' ∧ lo' ≤ 100000) (hhi : -100000 ≤ hi' ∧ hi' ≤ 100000) (hi2 : 6 < s.rifles.length) (b : Bool) : Ca Tryz.prog 131 [.pointer (some ⟨bd, 0, none⟩), knV ⟨lo', hi', [p0, p1, p2, p3, p4, p5, p6, p7], [f0, f1, f2, f3, f4, f5, f6, f7]⟩, .int .i64 6, .bool b] w fun x w' => x = .tuple #[knV (afterV s ⟨lo', hi', [p0, p1, p2, p3, p4, p5, p6, p7], [f0, f1, f2, f3, f4, f5, f6, f7]⟩ 6 b).1, .bool (afterV s ⟨lo', hi', [p0, p1, p2, p3, p4, p5, p6, p7], [f0, f1, f2, f3, f4, f5, f6, f7]⟩ 6 b).2] ∧ Chg [] w w' := by
  have he := hs0.err
  have hle := hs0.least
  have hrn := hs0.rn8
  have hri := hs0.rif hi2
  obtain ⟨ra, rc, rfl, hra⟩ := RdI.outI h.r
  obtain ⟨rb, ro, rfl⟩ := hra (by omega)
  have er : s.rifles[6] = s.rif 6 := by unfold Sc.rif; rw [getI hi2]
  have hcell : ∀ w', Chg [] w w' → w'.cell? ⟨rb, ro + (6 : Int).toNat * 1, none⟩ = some (.int .i64 (s.rif 6)) := fun w' hs => by have := RdI.at (RdE.keep h.r hs) 6 hi2; rw [er] at this; exact this
  refine q_of (Sat.nil w M0) Tryz.func131 rfl (by simp [Tryz.ntmps131]) ?_
  (refine q_seq (q_region ?_))
  refine ql_box rfl rfl (fun b5 => ?_)
  rw [agg_cells]
  dsimp only [knC, bools, List.map_cons, List.map_nil, List.cons_append, List.nil_append]
  skip
  refine ql_alloc zero182 rfl (fun b8 => ?_)
  (refine ql_pure tabOk rfl rfl (q_nil (q_seq (q_seq (q_region (ql_pure tabOk rfl rfl (ql_pure tabOk rfl rfl ?_)))))))
  refine ql_indexA (len := 8) b8_arr rfl rfl rfl (by omega) (by omega) ?_
  (refine ql_loadBa tabOk rfl rfl rfl ?_; refine ql_pure tabOk rfl rfl ?_)
  cases p6 with
  | true =>
    ((iterate 4 refine ql_gno rfl rfl rfl ?_); refine ql_pure tabOk rfl rfl (q_nil (q_cond_true rfl (q_seq ?_))))
    refine q_draw _ [.pt b8 _ _] (Sp.cons (by repeat constructor) (Sp.refl _)) (by kernel_rfl) (by kernel_rfl) ?_
    (refine qf_loadABa tabOk rfl rfl rfl ?_; refine qf_pure tabOk rfl rfl rfl (qf_pure tabOk rfl rfl rfl ?_))
    refine qf_indexA (len := 8) b8_arr rfl rfl rfl (by omega) (by omega) ?_
    (refine qf_loadBa tabOk rfl rfl rfl ?_; refine qf_pure tabOk rfl rfl rfl ?_)
    refine qf_eqb bool_b rfl rfl rfl ?_
    (refine qf_setA tabOk rfl rfl rfl rfl rfl (by repeat constructor) rfl ?_; refine qf_pure tabOk rfl rfl rfl (qf_nil (q_ret ?_)))
    refine q_fin tabOk rfl (by repeat constructor) fun w hs => ?_
    exact ⟨rfl, hs.chg0⟩
  | false =>
    (refine ql_gyes rfl (ql_pure tabOk rfl rfl (ql_gyes rfl (ql_pure tabOk rfl rfl (ql_gyes rfl ?_)))))
    refine ql_indexA (len := 8) b8_arr rfl rfl rfl (by omega) (by omega) ?_
    (refine ql_gyes rfl ?_; refine ql_loadBa tabOk rfl rfl rfl ?_; refine ql_pure tabOk rfl rfl (q_nil ?_))
    cases f6 with
    | true =>
      (refine q_cond_true rfl (q_seq ?_))
      refine q_draw _ [.pt b8 _ _] (Sp.cons (by repeat constructor) (Sp.refl _)) (by kernel_rfl) (by kernel_rfl) ?_
      (refine qf_loadABa tabOk rfl rfl rfl ?_; refine qf_pure tabOk rfl rfl rfl (qf_pure tabOk rfl rfl rfl ?_))
      refine qf_indexA (len := 8) b8_arr rfl rfl rfl (by omega) (by omega) ?_
      (refine qf_loadBa tabOk rfl rfl rfl ?_; refine qf_pure tabOk rfl rfl rfl ?_)
      refine qf_eqb bool_b rfl rfl rfl ?_
      (refine qf_setA tabOk rfl rfl rfl rfl rfl (by repeat constructor) rfl ?_; refine qf_pure tabOk rfl rfl rfl (qf_nil (q_ret ?_)))
      refine q_fin tabOk rfl (by repeat constructor) fun w hs => ?_
      exact ⟨rfl, hs.chg0⟩
    | false =>
      (refine q_cond_false rfl (q_skip (q_seq ?_)))
      refine q_draw _ [] (Sp.refl _) (by kernel_rfl) (by kernel_rfl) ?_
      ((iterate 4 refine qf_pure tabOk rfl rfl rfl ?_); refine qf_loadP tabOk rfl rfl rfl (by assumption) (by rfl) ?_; refine qf_pure tabOk rfl rfl rfl ?_)
      refine qf_index tabOk rfl rfl rfl rfl rfl (by omega) (by omega) ?_
      skip
      refine qf_load1 (v := .int .i64 (s.rif 6)) tabOk rfl rfl rfl (fun w hs => hcell _ hs.chg0) ?_
      ((iterate 4 refine qf_pure tabOk rfl rfl rfl ?_); refine qf_loadP tabOk rfl rfl rfl (by assumption) (by rfl) ?_; refine qf_ar tabOk rfl rfl rfl rfl (by omega) (by omega) (qf_pure tabOk rfl rfl rfl (qf_nil (q_seq (q_seq (q_region (ql_pure tabOk rfl rfl (q_nil ?_))))))))
      cases b with
      | true =>
        have e1 : afterV s ⟨lo', hi', [p0, p1, p2, p3, p4, p5, false, p7], [f0, f1, f2, f3, f4, f5, false, f7]⟩ 6 true = (⟨max lo' (-1000), min hi' (s.rif 6 - s.least + s.err), [p0, p1, p2, p3, p4, p5, true, p7], [f0, f1, f2, f3, f4, f5, false, f7]⟩, decide (max lo' (-1000) ≤ min hi' (s.rif 6 - s.least + s.err))) := by
          show ((passK s ⟨lo', hi', [p0, p1, p2, p3, p4, p5, false, p7], [f0, f1, f2, f3, f4, f5, false, f7]⟩ 6, decide _ && true) : Kn × Bool) = _
          rw [Bool.and_true]
          rfl
        rw [e1]
        (refine q_cond_true rfl (q_seq (q_region (ql_pure tabOk rfl rfl (ql_pure tabOk rfl rfl ?_)))))
        refine ql_indexA (len := 8) b8_arr rfl rfl rfl (by omega) (by omega) ?_
        refine ql_stN [.int .i64 lo', .int .i64 hi', .bool p0, .bool p1, .bool p2, .bool p3, .bool p4, .bool p5, .bool true, .bool p7, .bool f0, .bool f1, .bool f2, .bool f3, .bool f4, .bool f5, .bool false, .bool f7] tabOk rfl rfl rfl rfl (by repeat constructor) rfl rfl ?_
        (refine q_nil ?_)
        refine q_drawS 12 _ [.pt b5 _ _] (Sp.cons (by repeat constructor) (Sp.refl _)) (by kernel_rfl) (by kernel_rfl) (by kernel_rfl) fun K1 hK1 => ?_
        (refine qf_pure tabOk rfl rfl rfl ?_; refine qf_loadABa tabOk rfl rfl rfl ?_; (iterate 5 refine qf_pure tabOk rfl rfl rfl ?_); refine qf_loadP tabOk rfl rfl rfl (by assumption) (by rfl) ?_; refine qf_ar tabOk rfl rfl rfl rfl (by omega) (by omega) ?_)
        refine qf_mk #[.int .i64 (-1000), .int .i64 (s.rif 6 - s.least + s.err)] rfl (by kernel_rfl) rfl ?_
        skip
        refine qf_callv (val := spV2 (max lo' (-1000), min hi' (s.rif 6 - s.least + s.err))) tabOk rfl rfl rfl rfl (fun w hs => ?_) ?_; exact common_ca (lo', hi') (-1000, s.rif 6 - s.least + s.err) w
        (refine qf_pure tabOk rfl rfl rfl (qf_nil ?_))
        refine hK1 _ _ [.pt b5 _ _] (Sp.cons (by repeat constructor) ((by repeat constructor))) ?_
        skip
        refine qf_stA [.int .i64 (max lo' (-1000)), .int .i64 (min hi' (s.rif 6 - s.least + s.err)), .bool p0, .bool p1, .bool p2, .bool p3, .bool p4, .bool p5, .bool true, .bool p7, .bool f0, .bool f1, .bool f2, .bool f3, .bool f4, .bool f5, .bool false, .bool f7] tabOk rfl rfl rfl rfl rfl (by repeat constructor) rfl rfl ?_
        (refine qf_nil (q_seq ?_))
        refine q_draw _ [.pt b8 _ _] (Sp.cons (by repeat constructor) (Sp.refl _)) (by kernel_rfl) (by kernel_rfl) ?_
        (refine qf_loadABa tabOk rfl rfl rfl ?_; refine qf_pure tabOk rfl rfl rfl (qf_pure tabOk rfl rfl rfl ?_); refine qf_loadBa tabOk rfl rfl rfl ?_; refine qf_pure tabOk rfl rfl rfl (qf_pure tabOk rfl rfl rfl ?_); refine qf_loadBa tabOk rfl rfl rfl ?_; refine qf_pure tabOk rfl rfl rfl ?_; refine qf_setA tabOk rfl rfl rfl rfl rfl (by repeat constructor) rfl ?_; refine qf_pure tabOk rfl rfl rfl (qf_nil (q_ret ?_)))
        refine q_fin tabOk rfl (by repeat constructor) fun w hs => ?_
        exact ⟨rfl, hs.chg0⟩
      | false =>
        have e1 : afterV s ⟨lo', hi', [p0, p1, p2, p3, p4, p5, false, p7], [f0, f1, f2, f3, f4, f5, false, f7]⟩ 6 false = (⟨max lo' (s.rif 6 - s.least + 1 - s.err), min hi' 1000, [p0, p1, p2, p3, p4, p5, false, p7], [f0, f1, f2, f3, f4, f5, true, f7]⟩, decide (max lo' (s.rif 6 - s.least + 1 - s.err) ≤ min hi' 1000)) := by
          show ((failK s ⟨lo', hi', [p0, p1, p2, p3, p4, p5, false, p7], [f0, f1, f2, f3, f4, f5, false, f7]⟩ 6, decide _ && true) : Kn × Bool) = _
          rw [Bool.and_true]
          rfl
        rw [e1]
        (refine q_cond_false rfl (q_seq (q_region (ql_pure tabOk rfl rfl (ql_pure tabOk rfl rfl ?_)))))
        refine ql_indexA (len := 8) b8_arr rfl rfl rfl (by omega) (by omega) ?_
        refine ql_stN [.int .i64 lo', .int .i64 hi', .bool p0, .bool p1, .bool p2, .bool p3, .bool p4, .bool p5, .bool false, .bool p7, .bool f0, .bool f1, .bool f2, .bool f3, .bool f4, .bool f5, .bool true, .bool f7] tabOk rfl rfl rfl rfl (by repeat constructor) rfl rfl ?_
        (refine q_nil ?_)
        refine q_drawS 13 _ [.pt b5 _ _] (Sp.cons (by repeat constructor) (Sp.refl _)) (by kernel_rfl) (by kernel_rfl) (by kernel_rfl) fun K1 hK1 => ?_
        (refine qf_pure tabOk rfl rfl rfl ?_; refine qf_loadABa tabOk rfl rfl rfl ?_; refine qf_pure tabOk rfl rfl rfl (qf_ar tabOk rfl rfl rfl rfl (by omega) (by omega) ?_); (iterate 4 refine qf_pure tabOk rfl rfl rfl ?_); refine qf_loadP tabOk rfl rfl rfl (by assumption) (by rfl) ?_; refine qf_ar tabOk rfl rfl rfl rfl (by omega) (by omega) ?_)
        refine qf_mk #[.int .i64 (s.rif 6 - s.least + 1 - s.err), .int .i64 1000] rfl (by kernel_rfl) rfl ?_
        skip
        refine qf_callv (val := spV2 (max lo' (s.rif 6 - s.least + 1 - s.err), min hi' 1000)) tabOk rfl rfl rfl rfl (fun w hs => ?_) ?_; exact common_ca (lo', hi') (s.rif 6 - s.least + 1 - s.err, 1000) w
        (refine qf_pure tabOk rfl rfl rfl (qf_nil ?_))
        refine hK1 _ _ [.pt b5 _ _] (Sp.cons (by repeat constructor) ((by repeat constructor))) ?_
        skip
        refine qf_stA [.int .i64 (max lo' (s.rif 6 - s.least + 1 - s.err)), .int .i64 (min hi' 1000), .bool p0, .bool p1, .bool p2, .bool p3, .bool p4, .bool p5, .bool false, .bool p7, .bool f0, .bool f1, .bool f2, .bool f3, .bool f4, .bool f5, .bool true, .bool f7] tabOk rfl rfl rfl rfl rfl (by repeat constructor) rfl rfl ?_
        (refine qf_nil (q_seq ?_))
        refine q_draw _ [.pt b8 _ _] (Sp.cons (by repeat constructor) (Sp.refl _)) (by kernel_rfl) (by kernel_rfl) ?_
        (refine qf_loadABa tabOk rfl rfl rfl ?_; refine qf_pure tabOk rfl rfl rfl (qf_pure tabOk rfl rfl rfl ?_); refine qf_loadBa tabOk rfl rfl rfl ?_; refine qf_pure tabOk rfl rfl rfl (qf_pure tabOk rfl rfl rfl ?_); refine qf_loadBa tabOk rfl rfl rfl ?_; refine qf_pure tabOk rfl rfl rfl ?_; refine qf_setA tabOk rfl rfl rfl rfl rfl (by repeat constructor) rfl ?_; refine qf_pure tabOk rfl rfl rfl (qf_nil (q_ret ?_)))
        refine q_fin tabOk rfl (by repeat constructor) fun w hs => ?_
        exact ⟨rfl, hs.chg0⟩
set_option maxHeartbeats 4000000 in
theorem after7_ca (w : World) (lo hi bd : Nat) (s : Sc) (tv rv : Value) (k0 : Kn) (lo' hi' : Int) (p0 p1 p2 p3 p4 p5 p6 p7 f0 f1 f2 f3 f4 f5 f6 f7 : Bool) (h : ScR w lo hi tv rv s) (hb : Blk w bd (dskC s tv rv k0) 184) (hs0 : s.Ok) (hlo : -100000 ≤ lo' ∧ lo' ≤ 100000) (hhi : -100000 ≤ hi' ∧ hi' ≤ 100000) (hi2 : 7 < s.rifles.length) (b : Bool) : Ca Tryz.prog 131 [.pointer (some ⟨bd, 0, none⟩), knV ⟨lo', hi', [p0, p1, p2, p3, p4, p5, p6, p7], [f0, f1, f2, f3, f4, f5, f6, f7]⟩, .int .i64 7, .bool b] w fun x w' => x = .tuple #[knV (afterV s ⟨lo', hi', [p0, p1, p2, p3, p4, p5, p6, p7], [f0, f1, f2, f3, f4, f5, f6, f7]⟩ 7 b).1, .bool (afterV s ⟨lo', hi', [p0, p1, p2, p3, p4, p5, p6, p7], [f0, f1, f2, f3, f4, f5, f6, f7]⟩ 7 b).2] ∧ Chg [] w w' := by
  have he := hs0.err
  have hle := hs0.least
  have hrn := hs0.rn8
  have hri := hs0.rif hi2
  obtain ⟨ra, rc, rfl, hra⟩ := RdI.outI h.r
  obtain ⟨rb, ro, rfl⟩ := hra (by omega)
  have er : s.rifles[7] = s.rif 7 := by unfold Sc.rif; rw [getI hi2]
  have hcell : ∀ w', Chg [] w w' → w'.cell? ⟨rb, ro + (7 : Int).toNat * 1, none⟩ = some (.int .i64 (s.rif 7)) := fun w' hs => by have := RdI.at (RdE.keep h.r hs) 7 hi2; rw [er] at this; exact this
  refine q_of (Sat.nil w M0) Tryz.func131 rfl (by simp [Tryz.ntmps131]) ?_
  (refine q_seq (q_region ?_))
  refine ql_box rfl rfl (fun b5 => ?_)
  rw [agg_cells]
  dsimp only [knC, bools, List.map_cons, List.map_nil, List.cons_append, List.nil_append]
  skip
  refine ql_alloc zero182 rfl (fun b8 => ?_)
  (refine ql_pure tabOk rfl rfl (q_nil (q_seq (q_seq (q_region (ql_pure tabOk rfl rfl (ql_pure tabOk rfl rfl ?_)))))))
  refine ql_indexA (len := 8) b8_arr rfl rfl rfl (by omega) (by omega) ?_
  (refine ql_loadBa tabOk rfl rfl rfl ?_; refine ql_pure tabOk rfl rfl ?_)
  cases p7 with
  | true =>
    ((iterate 4 refine ql_gno rfl rfl rfl ?_); refine ql_pure tabOk rfl rfl (q_nil (q_cond_true rfl (q_seq ?_))))
    refine q_draw _ [.pt b8 _ _] (Sp.cons (by repeat constructor) (Sp.refl _)) (by kernel_rfl) (by kernel_rfl) ?_
    (refine qf_loadABa tabOk rfl rfl rfl ?_; refine qf_pure tabOk rfl rfl rfl (qf_pure tabOk rfl rfl rfl ?_))
    refine qf_indexA (len := 8) b8_arr rfl rfl rfl (by omega) (by omega) ?_
    (refine qf_loadBa tabOk rfl rfl rfl ?_; refine qf_pure tabOk rfl rfl rfl ?_)
    refine qf_eqb bool_b rfl rfl rfl ?_
    (refine qf_setA tabOk rfl rfl rfl rfl rfl (by repeat constructor) rfl ?_; refine qf_pure tabOk rfl rfl rfl (qf_nil (q_ret ?_)))
    refine q_fin tabOk rfl (by repeat constructor) fun w hs => ?_
    exact ⟨rfl, hs.chg0⟩
  | false =>
    (refine ql_gyes rfl (ql_pure tabOk rfl rfl (ql_gyes rfl (ql_pure tabOk rfl rfl (ql_gyes rfl ?_)))))
    refine ql_indexA (len := 8) b8_arr rfl rfl rfl (by omega) (by omega) ?_
    (refine ql_gyes rfl ?_; refine ql_loadBa tabOk rfl rfl rfl ?_; refine ql_pure tabOk rfl rfl (q_nil ?_))
    cases f7 with
    | true =>
      (refine q_cond_true rfl (q_seq ?_))
      refine q_draw _ [.pt b8 _ _] (Sp.cons (by repeat constructor) (Sp.refl _)) (by kernel_rfl) (by kernel_rfl) ?_
      (refine qf_loadABa tabOk rfl rfl rfl ?_; refine qf_pure tabOk rfl rfl rfl (qf_pure tabOk rfl rfl rfl ?_))
      refine qf_indexA (len := 8) b8_arr rfl rfl rfl (by omega) (by omega) ?_
      (refine qf_loadBa tabOk rfl rfl rfl ?_; refine qf_pure tabOk rfl rfl rfl ?_)
      refine qf_eqb bool_b rfl rfl rfl ?_
      (refine qf_setA tabOk rfl rfl rfl rfl rfl (by repeat constructor) rfl ?_; refine qf_pure tabOk rfl rfl rfl (qf_nil (q_ret ?_)))
      refine q_fin tabOk rfl (by repeat constructor) fun w hs => ?_
      exact ⟨rfl, hs.chg0⟩
    | false =>
      (refine q_cond_false rfl (q_skip (q_seq ?_)))
      refine q_draw _ [] (Sp.refl _) (by kernel_rfl) (by kernel_rfl) ?_
      ((iterate 4 refine qf_pure tabOk rfl rfl rfl ?_); refine qf_loadP tabOk rfl rfl rfl (by assumption) (by rfl) ?_; refine qf_pure tabOk rfl rfl rfl ?_)
      refine qf_index tabOk rfl rfl rfl rfl rfl (by omega) (by omega) ?_
      skip
      refine qf_load1 (v := .int .i64 (s.rif 7)) tabOk rfl rfl rfl (fun w hs => hcell _ hs.chg0) ?_
      ((iterate 4 refine qf_pure tabOk rfl rfl rfl ?_); refine qf_loadP tabOk rfl rfl rfl (by assumption) (by rfl) ?_; refine qf_ar tabOk rfl rfl rfl rfl (by omega) (by omega) (qf_pure tabOk rfl rfl rfl (qf_nil (q_seq (q_seq (q_region (ql_pure tabOk rfl rfl (q_nil ?_))))))))
      cases b with
      | true =>
        have e1 : afterV s ⟨lo', hi', [p0, p1, p2, p3, p4, p5, p6, false], [f0, f1, f2, f3, f4, f5, f6, false]⟩ 7 true = (⟨max lo' (-1000), min hi' (s.rif 7 - s.least + s.err), [p0, p1, p2, p3, p4, p5, p6, true], [f0, f1, f2, f3, f4, f5, f6, false]⟩, decide (max lo' (-1000) ≤ min hi' (s.rif 7 - s.least + s.err))) := by
          show ((passK s ⟨lo', hi', [p0, p1, p2, p3, p4, p5, p6, false], [f0, f1, f2, f3, f4, f5, f6, false]⟩ 7, decide _ && true) : Kn × Bool) = _
          rw [Bool.and_true]
          rfl
        rw [e1]
        (refine q_cond_true rfl (q_seq (q_region (ql_pure tabOk rfl rfl (ql_pure tabOk rfl rfl ?_)))))
        refine ql_indexA (len := 8) b8_arr rfl rfl rfl (by omega) (by omega) ?_
        refine ql_stN [.int .i64 lo', .int .i64 hi', .bool p0, .bool p1, .bool p2, .bool p3, .bool p4, .bool p5, .bool p6, .bool true, .bool f0, .bool f1, .bool f2, .bool f3, .bool f4, .bool f5, .bool f6, .bool false] tabOk rfl rfl rfl rfl (by repeat constructor) rfl rfl ?_
        (refine q_nil ?_)
        refine q_drawS 12 _ [.pt b5 _ _] (Sp.cons (by repeat constructor) (Sp.refl _)) (by kernel_rfl) (by kernel_rfl) (by kernel_rfl) fun K1 hK1 => ?_
        (refine qf_pure tabOk rfl rfl rfl ?_; refine qf_loadABa tabOk rfl rfl rfl ?_; (iterate 5 refine qf_pure tabOk rfl rfl rfl ?_); refine qf_loadP tabOk rfl rfl rfl (by assumption) (by rfl) ?_; refine qf_ar tabOk rfl rfl rfl rfl (by omega) (by omega) ?_)
        refine qf_mk #[.int .i64 (-1000), .int .i64 (s.rif 7 - s.least + s.err)] rfl (by kernel_rfl) rfl ?_
        skip
        refine qf_callv (val := spV2 (max lo' (-1000), min hi' (s.rif 7 - s.least + s.err))) tabOk rfl rfl rfl rfl (fun w hs => ?_) ?_; exact common_ca (lo', hi') (-1000, s.rif 7 - s.least + s.err) w
        (refine qf_pure tabOk rfl rfl rfl (qf_nil ?_))
        refine hK1 _ _ [.pt b5 _ _] (Sp.cons (by repeat constructor) ((by repeat constructor))) ?_
        skip
        refine qf_stA [.int .i64 (max lo' (-1000)), .int .i64 (min hi' (s.rif 7 - s.least + s.err)), .bool p0, .bool p1, .bool p2, .bool p3, .bool p4, .bool p5, .bool p6, .bool true, .bool f0, .bool f1, .bool f2, .bool f3, .bool f4, .bool f5, .bool f6, .bool false] tabOk rfl rfl rfl rfl rfl (by repeat constructor) rfl rfl ?_
        (refine qf_nil (q_seq ?_))
        refine q_draw _ [.pt b8 _ _] (Sp.cons (by repeat constructor) (Sp.refl _)) (by kernel_rfl) (by kernel_rfl) ?_
        (refine qf_loadABa tabOk rfl rfl rfl ?_; refine qf_pure tabOk rfl rfl rfl (qf_pure tabOk rfl rfl rfl ?_); refine qf_loadBa tabOk rfl rfl rfl ?_; refine qf_pure tabOk rfl rfl rfl (qf_pure tabOk rfl rfl rfl ?_); refine qf_loadBa tabOk rfl rfl rfl ?_; refine qf_pure tabOk rfl rfl rfl ?_; refine qf_setA tabOk rfl rfl rfl rfl rfl (by repeat constructor) rfl ?_; refine qf_pure tabOk rfl rfl rfl (qf_nil (q_ret ?_)))
        refine q_fin tabOk rfl (by repeat constructor) fun w hs => ?_
        exact ⟨rfl, hs.chg0⟩
      | false =>
        have e1 : afterV s ⟨lo', hi', [p0, p1, p2, p3, p4, p5, p6, false], [f0, f1, f2, f3, f4, f5, f6, false]⟩ 7 false = (⟨max lo' (s.rif 7 - s.least + 1 - s.err), min hi' 1000, [p0, p1, p2, p3, p4, p5, p6, false], [f0, f1, f2, f3, f4, f5, f6, true]⟩, decide (max lo' (s.rif 7 - s.least + 1 - s.err) ≤ min hi' 1000)) := by
          show ((failK s ⟨lo', hi', [p0, p1, p2, p3, p4, p5, p6, false], [f0, f1, f2, f3, f4, f5, f6, false]⟩ 7, decide _ && true) : Kn × Bool) = _
          rw [Bool.and_true]
          rfl
        rw [e1]
        (refine q_cond_false rfl (q_seq (q_region (ql_pure tabOk rfl rfl (ql_pure tabOk rfl rfl ?_)))))
        refine ql_indexA (len := 8) b8_arr rfl rfl rfl (by omega) (by omega) ?_
        refine ql_stN [.int .i64 lo', .int .i64 hi', .bool p0, .bool p1, .bool p2, .bool p3, .bool p4, .bool p5, .bool p6, .bool false, .bool f0, .bool f1, .bool f2, .bool f3, .bool f4, .bool f5, .bool f6, .bool true] tabOk rfl rfl rfl rfl (by repeat constructor) rfl rfl ?_
        (refine q_nil ?_)
        refine q_drawS 13 _ [.pt b5 _ _] (Sp.cons (by repeat constructor) (Sp.refl _)) (by kernel_rfl) (by kernel_rfl) (by kernel_rfl) fun K1 hK1 => ?_
        (refine qf_pure tabOk rfl rfl rfl ?_; refine qf_loadABa tabOk rfl rfl rfl ?_; refine qf_pure tabOk rfl rfl rfl (qf_ar tabOk rfl rfl rfl rfl (by omega) (by omega) ?_); (iterate 4 refine qf_pure tabOk rfl rfl rfl ?_); refine qf_loadP tabOk rfl rfl rfl (by assumption) (by rfl) ?_; refine qf_ar tabOk rfl rfl rfl rfl (by omega) (by omega) ?_)
        refine qf_mk #[.int .i64 (s.rif 7 - s.least + 1 - s.err), .int .i64 1000] rfl (by kernel_rfl) rfl ?_
        skip
        refine qf_callv (val := spV2 (max lo' (s.rif 7 - s.least + 1 - s.err), min hi' 1000)) tabOk rfl rfl rfl rfl (fun w hs => ?_) ?_; exact common_ca (lo', hi') (s.rif 7 - s.least + 1 - s.err, 1000) w
        (refine qf_pure tabOk rfl rfl rfl (qf_nil ?_))
        refine hK1 _ _ [.pt b5 _ _] (Sp.cons (by repeat constructor) ((by repeat constructor))) ?_
        skip
        refine qf_stA [.int .i64 (max lo' (s.rif 7 - s.least + 1 - s.err)), .int .i64 (min hi' 1000), .bool p0, .bool p1, .bool p2, .bool p3, .bool p4, .bool p5, .bool p6, .bool false, .bool f0, .bool f1, .bool f2, .bool f3, .bool f4, .bool f5, .bool f6, .bool true] tabOk rfl rfl rfl rfl rfl (by repeat constructor) rfl rfl ?_
        (refine qf_nil (q_seq ?_))
        refine q_draw _ [.pt b8 _ _] (Sp.cons (by repeat constructor) (Sp.refl _)) (by kernel_rfl) (by kernel_rfl) ?_
        (refine qf_loadABa tabOk rfl rfl rfl ?_; refine qf_pure tabOk rfl rfl rfl (qf_pure tabOk rfl rfl rfl ?_); refine qf_loadBa tabOk rfl rfl rfl ?_; refine qf_pure tabOk rfl rfl rfl (qf_pure tabOk rfl rfl rfl ?_); refine qf_loadBa tabOk rfl rfl rfl ?_; refine qf_pure tabOk rfl rfl rfl ?_; refine qf_setA tabOk rfl rfl rfl rfl rfl (by repeat constructor) rfl ?_; refine qf_pure tabOk rfl rfl rfl (qf_nil (q_ret ?_)))
        refine q_fin tabOk rfl (by repeat constructor) fun w hs => ?_
        exact ⟨rfl, hs.chg0⟩
theorem after_ca (w : World) (lo hi bd : Nat) (s : Sc) (tv rv : Value) (k0 k : Kn) (h : ScR w lo hi tv rv s) (hb : Blk w bd (dskC s tv rv k0) 184) (hs0 : s.Ok) (hk : k.Bd) (i : Nat) (hi2 : i < s.rifles.length) (b : Bool) : Ca Tryz.prog 131 [.pointer (some ⟨bd, 0, none⟩), knV k, .int .i64 i, .bool b] w fun x w' => x = .tuple #[knV (afterV s k i b).1, .bool (afterV s k i b).2] ∧ Chg [] w w' := by
  obtain ⟨lo', hi', p, f⟩ := k
  obtain ⟨p0, p1, p2, p3, p4, p5, p6, p7, rfl⟩ := lit8 hk.p8
  obtain ⟨f0, f1, f2, f3, f4, f5, f6, f7, rfl⟩ := lit8 hk.f8
  have hrn := hs0.rn8
  have : i = 0 ∨ i = 1 ∨ i = 2 ∨ i = 3 ∨ i = 4 ∨ i = 5 ∨ i = 6 ∨ i = 7 := by omega
  rcases this with rfl | rfl | rfl | rfl | rfl | rfl | rfl | rfl
  · exact after0_ca w lo hi bd s tv rv k0 lo' hi' _ _ _ _ _ _ _ _ _ _ _ _ _ _ _ _ h hb hs0 hk.lo hk.hi hi2 b
  · exact after1_ca w lo hi bd s tv rv k0 lo' hi' _ _ _ _ _ _ _ _ _ _ _ _ _ _ _ _ h hb hs0 hk.lo hk.hi hi2 b
  · exact after2_ca w lo hi bd s tv rv k0 lo' hi' _ _ _ _ _ _ _ _ _ _ _ _ _ _ _ _ h hb hs0 hk.lo hk.hi hi2 b
  · exact after3_ca w lo hi bd s tv rv k0 lo' hi' _ _ _ _ _ _ _ _ _ _ _ _ _ _ _ _ h hb hs0 hk.lo hk.hi hi2 b
  · exact after4_ca w lo hi bd s tv rv k0 lo' hi' _ _ _ _ _ _ _ _ _ _ _ _ _ _ _ _ h hb hs0 hk.lo hk.hi hi2 b
  · exact after5_ca w lo hi bd s tv rv k0 lo' hi' _ _ _ _ _ _ _ _ _ _ _ _ _ _ _ _ h hb hs0 hk.lo hk.hi hi2 b
  · exact after6_ca w lo hi bd s tv rv k0 lo' hi' _ _ _ _ _ _ _ _ _ _ _ _ _ _ _ _ h hb hs0 hk.lo hk.hi hi2 b
  · exact after7_ca w lo hi bd s tv rv k0 lo' hi' _ _ _ _ _ _ _ _ _ _ _ _ _ _ _ _ h hb hs0 hk.lo hk.hi hi2 b
end Go.Proofs.YtopdmadgkjdgcaaGreat

/- Walks of rifle: the rifles that are not decided. -/
namespace Go.Proofs.YtopdmadgkjdgcaaGreat
set_option maxRecDepth 4000
open Go Go.Eng
theorem knC_len {k : Kn} (hk : k.Bd) : (knC k).length = 18 := by
  have h1 := hk.p8
  have h2 := hk.f8
  simp [knC, bools, h1, h2]
theorem knC_one (k : Kn) : (knC k).all oneV = true := by
  simp [knC, bools, oneV]
/-- The rifles that are not decided; of the first ones. -/
def opnL (s : Sc) (k : Kn) (n : Nat) : List Nat := (List.range n).filter (openK s k)
theorem opnL_all (s : Sc) (k : Kn) : opnL s k s.rifles.length = openL s k := rfl
theorem opnL_succ (s : Sc) (k : Kn) (n : Nat) : opnL s k (n + 1) = if openK s k n = true then opnL s k n ++ [n] else opnL s k n := by
  unfold opnL
  rw [List.range_succ, List.filter_append]
  cases ho : openK s k n <;> simp [ho]
theorem opnL_split (s : Sc) (k : Kn) {n m : Nat} (h : n ≤ m) : ∃ suf, opnL s k m = opnL s k n ++ suf := by
  obtain ⟨d, rfl⟩ : ∃ d, m = n + d := ⟨m - n, by omega⟩
  induction d with
  | zero => exact ⟨[], by simp⟩
  | succ d ih =>
    obtain ⟨suf, hs⟩ := ih (by omega)
    have h1 := opnL_succ s k (n + d)
    rw [show n + (d + 1) = n + d + 1 from rfl]
    cases ho : openK s k (n + d)
    · rw [ho, if_neg (by simp)] at h1
      exact ⟨suf, by rw [h1, hs]⟩
    · rw [ho, if_pos rfl] at h1
      exact ⟨suf ++ [n + d], by rw [h1, hs, List.append_assoc]⟩
def natE (i : Nat) : List Value := [.int .i64 i]
set_option maxHeartbeats 2000000 in
theorem open_it (w : World) (D : Nat → Prop) (lo hi b1 b2 bd : Nat) (s : Sc) (tv rv : Value) (k0 k : Kn) (h : ∀ w', ChgP D w w' → ScR w' lo hi tv rv s) (hs0 : s.Ok) (hk : k.Bd) {t1 t2 : TypeId} (hb1 : Blk w b1 [.pointer (some ⟨bd, 0, none⟩)] t1) (hb2 : Blk w b2 (knC k) t2) (hbd : Blk w bd (dskC s tv rv k0) 184) (hD : ¬ D b1 ∧ ¬ D b2 ∧ ¬ D bd) :
    ItOk Tryz.prog 167 [.pointer (some ⟨b1, 0, none⟩), .pointer (some ⟨b2, 0, none⟩)] natE (openL s k) w D := by
  obtain ⟨klo, khi, p, f⟩ := k
  obtain ⟨p0, p1, p2, p3, p4, p5, p6, p7, rfl⟩ := lit8 hk.p8
  obtain ⟨f0, f1, f2, f3, f4, f5, f6, f7, rfl⟩ := lit8 hk.f8
  obtain ⟨K0, hK0⟩ : ∃ K, K = (⟨klo, khi, [p0, p1, p2, p3, p4, p5, p6, p7], [f0, f1, f2, f3, f4, f5, f6, f7]⟩ : Kn) := ⟨_, rfl⟩
  have hkc : knC K0 = [.int .i64 klo, .int .i64 khi, .bool p0, .bool p1, .bool p2, .bool p3, .bool p4, .bool p5, .bool p6, .bool p7, .bool f0, .bool f1, .bool f2, .bool f3, .bool f4, .bool f5, .bool f6, .bool f7] := by rw [hK0]; rfl
  rw [← hK0] at hk hb2 ⊢
  have hrn := hs0.rn8
  intro fv σ L I E s0 hI0 hLD hsat hcb
  obtain ⟨ra, rc, rfl, hra⟩ := RdI.outI (h w (ChgP.refl _ _)).r
  have hm : ∀ w', ChgP (DL (L s0)) w w' → ChgP D w w' := fun w' hc => ⟨hc.os, hc.tape, hc.output, hc.size, fun k hk hk2 => hc.block k hk (fun h => hk2 (hLD k h))⟩
  have hP1 : ∀ w', ChgP (DL (L s0)) w w' → Blk w' b1 _ t1 := fun w' hc => (hc.block b1 hb1.lt (fun h => hD.1 (hLD b1 h))).trans hb1
  have hP2 : ∀ w', ChgP (DL (L s0)) w w' → Blk w' b2 _ t2 := fun w' hc => (hc.block b2 hb2.lt (fun h => hD.2.1 (hLD b2 h))).trans hb2
  have hP3 : ∀ w', ChgP (DL (L s0)) w w' → Blk w' bd _ _ := fun w' hc => (hc.block bd hbd.lt (fun h => hD.2.2 (hLD bd h))).trans hbd
  have hP2b := hP2
  rw [hkc] at hP2
  have hcp : ∀ i : Nat, i < 8 → ∀ w', ChgP (DL (L s0)) w w' → w'.cell? ⟨b2, 0 + 2 + ((i : Nat) : Int).toNat * 1, none⟩ = some (.bool (K0.p.getD i false)) := fun i hi w' hc => by
    have h8 : i = 0 ∨ i = 1 ∨ i = 2 ∨ i = 3 ∨ i = 4 ∨ i = 5 ∨ i = 6 ∨ i = 7 := by omega
    rw [(hP2 w' hc).cell, hK0]
    rcases h8 with rfl | rfl | rfl | rfl | rfl | rfl | rfl | rfl <;> rfl
  have hcf : ∀ i : Nat, i < 8 → ∀ w', ChgP (DL (L s0)) w w' → w'.cell? ⟨b2, 0 + 10 + ((i : Nat) : Int).toNat * 1, none⟩ = some (.bool (K0.f.getD i false)) := fun i hi w' hc => by
    have h8 : i = 0 ∨ i = 1 ∨ i = 2 ∨ i = 3 ∨ i = 4 ∨ i = 5 ∨ i = 6 ∨ i = 7 := by omega
    rw [(hP2 w' hc).cell, hK0]
    rcases h8 with rfl | rfl | rfl | rfl | rfl | rfl | rfl | rfl <;> rfl
  clear hP2 hK0 hkc
  refine q_of (H := [un (L s0)]) (Sat.un1.2 hsat) Tryz.func167 rfl (by simp [Tryz.ntmps167]) ?_
  (refine q_seq (q_region ?_); refine ql_loadG tabOk rfl rfl rfl (by assumption) (by rfl) ?_; (iterate 3 refine ql_pure tabOk rfl rfl ?_); refine ql_loadG tabOk rfl rfl rfl (by assumption) (by rfl) ?_; refine ql_pure tabOk rfl rfl (ql_pure tabOk rfl rfl (q_nil (q_block ?_))))
  refine q_loop (σ := Nat × σ) (fun z => z.1 ≤ s.rifles.length ∧ I (opnL s K0 z.1) z.2) (fun z => s.rifles.length - z.1) (fun z => [(0, fv), (1, .pointer (some ⟨b1, 0, none⟩)), (2, .pointer (some ⟨b2, 0, none⟩)), (10, .int .i64 s.rifles.length), (11, .int .i64 z.1)])
    (fun z => [un (L z.2)]) (0, s0) ⟨by omega, hI0⟩ ⟨rfl, rfl, rfl, rfl, rfl, trivial⟩ (Sp.refl _) ?_
  rintro ⟨n, z⟩ ⟨hn, hI⟩ K hK
  dsimp only at hn hI ⊢
  (refine q_seq (q_region (ql_pure tabOk rfl rfl (q_nil (q_seq ?_)))))
  refine q_if rfl (fun hc => ?_) (fun hc => ?_)
  · have hn2 : n < s.rifles.length := by first | omega | (simp at hc; omega)
    clear hc
    have hsu := opnL_succ s K0 n
    have hop : openK s K0 n = (K0.free n && (decide ((wgtV s n K0.off).1 < s.least) && decide (s.least ≤ (wgtV s n K0.off).2))) := rfl
    have hfr : K0.free n = (!K0.p.getD n false && !K0.f.getD n false) := rfl
    (refine q_skip (q_seq (q_block (q_seq (q_region (ql_pure tabOk rfl rfl (ql_pure tabOk rfl rfl (q_nil (q_seq ?_)))))))))
    refine q_draw _ [un (L z)] (Sp.refl _) (by kernel_rfl) (by kernel_rfl) ?_
    (refine qf_pure tabOk rfl rfl rfl (qf_pure tabOk rfl rfl rfl ?_))
    refine qf_indexA (len := 8) b8_arr rfl rfl rfl (by omega) (by omega) ?_
    skip
    refine qf_load1 (v := .bool (K0.p.getD n false)) tabOk rfl rfl rfl (fun w hs => hcp n (by omega) _ hs.chg) ?_
    cases hp : K0.p.getD n false with
    | true =>
      (refine qf_pure tabOk rfl rfl rfl (qf_pure tabOk rfl rfl rfl ?_); (iterate 5 refine qf_gno rfl rfl rfl ?_); refine qf_pure tabOk rfl rfl rfl (qf_pure tabOk rfl rfl rfl ?_); (iterate 6 refine qf_gno rfl rfl rfl ?_); refine qf_pure tabOk rfl rfl rfl (qf_pure tabOk rfl rfl rfl ?_); (iterate 5 refine qf_gno rfl rfl rfl ?_); refine qf_pure tabOk rfl rfl rfl (qf_pure tabOk rfl rfl rfl ?_); (iterate 4 refine qf_gno rfl rfl rfl ?_); refine qf_pure tabOk rfl rfl rfl (qf_nil (q_cond_false rfl (q_skip (q_blk (q_region (ql_ar tabOk rfl rfl rfl rfl (by omega) (by omega) (ql_pure tabOk rfl rfl (q_nil ?_)))))))))
      exact hK (n + 1, z) _ _ ⟨by simp only; omega, by rw [hsu, if_neg (by rw [hop, hfr, hp]; simp)]; exact hI⟩ (by simp only; omega) ⟨rfl, rfl, rfl, rfl, rfl, trivial⟩ (by repeat constructor)
    | false =>
      (refine qf_pure tabOk rfl rfl rfl (qf_pure tabOk rfl rfl rfl (qf_gyes rfl (qf_pure tabOk rfl rfl rfl (qf_gyes rfl (qf_pure tabOk rfl rfl rfl (qf_gyes rfl ?_)))))))
      refine qf_indexA (len := 8) b8_arr rfl rfl rfl (by omega) (by omega) ?_
      (refine qf_gyes rfl ?_)
      refine qf_load1 (v := .bool (K0.f.getD n false)) tabOk rfl rfl rfl (fun w hs => hcf n (by omega) _ hs.chg) ?_
      cases hf : K0.f.getD n false with
      | true =>
        (refine qf_gyes rfl ?_; (iterate 3 refine qf_pure tabOk rfl rfl rfl ?_); (iterate 6 refine qf_gno rfl rfl rfl ?_); refine qf_pure tabOk rfl rfl rfl (qf_pure tabOk rfl rfl rfl ?_); (iterate 5 refine qf_gno rfl rfl rfl ?_); refine qf_pure tabOk rfl rfl rfl (qf_pure tabOk rfl rfl rfl ?_); (iterate 4 refine qf_gno rfl rfl rfl ?_); refine qf_pure tabOk rfl rfl rfl (qf_nil (q_cond_false rfl (q_skip (q_blk (q_region (ql_ar tabOk rfl rfl rfl rfl (by omega) (by omega) (ql_pure tabOk rfl rfl (q_nil ?_)))))))))
        exact hK (n + 1, z) _ _ ⟨by simp only; omega, by rw [hsu, if_neg (by rw [hop, hfr, hp, hf]; simp)]; exact hI⟩ (by simp only; omega) ⟨rfl, rfl, rfl, rfl, rfl, trivial⟩ (by repeat constructor)
      | false =>
        (refine qf_gyes rfl ?_; (iterate 3 refine qf_pure tabOk rfl rfl rfl ?_); refine qf_gyes rfl ?_; refine qf_loadG tabOk rfl rfl rfl (by assumption) (by rfl) ?_; refine qf_gyes rfl (qf_pure tabOk rfl rfl rfl (qf_gyes rfl ?_)))
        refine qf_loadA (cs := knC K0) tabOk rfl rfl rfl (knC_len hk) (fun w hs q hq => by rw [(hP2b _ hs.chg).cell, Nat.zero_add]) ?_
        (refine qf_gyes rfl ?_)
        refine qf_callv (val := .agg #[lightF]) tabOk rfl rfl rfl rfl (fun w hs => ?_) ?_; exact light_ca w
        (refine qf_gyes rfl ?_)
        refine qf_callv (val := .bool (decide (s.least ≤ (wgtV s n K0.off).1))) tabOk rfl rfl rfl rfl (fun w hs => ?_) ?_; exact canL_ca w lo hi bd s tv _ k0 K0 (h _ (hm _ hs.chg)) (hP3 _ hs.chg) hs0 hk n hn2
        cases hl : decide (s.least ≤ (wgtV s n K0.off).1) with
        | true =>
          have hl2 := of_decide_eq_true hl
          (refine qf_gyes rfl ?_; (iterate 3 refine qf_pure tabOk rfl rfl rfl ?_); (iterate 5 refine qf_gno rfl rfl rfl ?_); refine qf_pure tabOk rfl rfl rfl (qf_pure tabOk rfl rfl rfl ?_); (iterate 4 refine qf_gno rfl rfl rfl ?_); refine qf_pure tabOk rfl rfl rfl (qf_nil (q_cond_false rfl (q_skip (q_blk (q_region (ql_ar tabOk rfl rfl rfl rfl (by omega) (by omega) (ql_pure tabOk rfl rfl (q_nil ?_)))))))))
          exact hK (n + 1, z) _ _ ⟨by simp only; omega, by rw [hsu, if_neg (by rw [hop, hfr, hp, hf, decide_eq_false (by omega)]; simp)]; exact hI⟩ (by simp only; omega) ⟨rfl, rfl, rfl, rfl, rfl, trivial⟩ (by repeat constructor)
        | false =>
          have hl2 := of_decide_eq_false hl
          (refine qf_gyes rfl ?_; (iterate 3 refine qf_pure tabOk rfl rfl rfl ?_); refine qf_gyes rfl ?_; refine qf_loadG tabOk rfl rfl rfl (by assumption) (by rfl) ?_; refine qf_gyes rfl (qf_pure tabOk rfl rfl rfl (qf_gyes rfl ?_)))
          refine qf_loadA (cs := knC K0) tabOk rfl rfl rfl (knC_len hk) (fun w hs q hq => by rw [(hP2b _ hs.chg).cell, Nat.zero_add]) ?_
          (refine qf_gyes rfl ?_)
          refine qf_callv (val := .agg #[heavyF]) tabOk rfl rfl rfl rfl (fun w hs => ?_) ?_; exact heavy_ca w
          (refine qf_gyes rfl ?_)
          refine qf_callv (val := .bool (decide (s.least ≤ (wgtV s n K0.off).2))) tabOk rfl rfl rfl rfl (fun w hs => ?_) ?_; exact canH_ca w lo hi bd s tv _ k0 K0 (h _ (hm _ hs.chg)) (hP3 _ hs.chg) hs0 hk n hn2
          cases hh : decide (s.least ≤ (wgtV s n K0.off).2) with
          | false =>
            (refine qf_pure tabOk rfl rfl rfl (qf_pure tabOk rfl rfl rfl ?_); (iterate 4 refine qf_gno rfl rfl rfl ?_); refine qf_pure tabOk rfl rfl rfl (qf_nil (q_cond_false rfl (q_skip (q_blk (q_region (ql_ar tabOk rfl rfl rfl rfl (by omega) (by omega) (ql_pure tabOk rfl rfl (q_nil ?_)))))))))
            exact hK (n + 1, z) _ _ ⟨by simp only; omega, by rw [hsu, if_neg (by rw [hop, hfr, hp, hf, hh]; simp)]; exact hI⟩ (by simp only; omega) ⟨rfl, rfl, rfl, rfl, rfl, trivial⟩ (by repeat constructor)
          | true =>
            have hon : openK s K0 n = true := by rw [hop, hfr, hp, hf, hh, decide_eq_true (by omega)]; rfl
            rw [if_pos hon] at hsu
            obtain ⟨suf, hsuf⟩ := opnL_split s K0 (show n + 1 ≤ s.rifles.length from hn2)
            have hxs : openL s K0 = opnL s K0 n ++ n :: suf := by rw [← opnL_all, hsuf, hsu]; simp
            (refine qf_pure tabOk rfl rfl rfl (qf_pure tabOk rfl rfl rfl (qf_gyes rfl (qf_pure tabOk rfl rfl rfl (qf_gyes rfl (qf_pure tabOk rfl rfl rfl (qf_gyes rfl ?_)))))))
            refine qf_callF (β := σ) [un (L z)] [] (DL (L z)) rfl rfl rfl (by repeat constructor) (fun b hb => ⟨_, .head _, hb⟩) (yieldF hcb hxs hI) ?_
            rintro z' v (⟨rfl, hI'⟩ | ⟨rfl, hE⟩)
            · (refine qf_gyes rfl (qf_pure tabOk rfl rfl rfl (qf_pure tabOk rfl rfl rfl (qf_nil (q_cond_false rfl (q_skip (q_blk (q_region (ql_ar tabOk rfl rfl rfl rfl (by omega) (by omega) (ql_pure tabOk rfl rfl (q_nil ?_)))))))))))
              exact hK (n + 1, z') _ _ ⟨by simp only; omega, by rw [hsu]; exact hI'⟩ (by simp only; omega) ⟨rfl, rfl, rfl, rfl, rfl, trivial⟩ (by repeat constructor)
            · (refine qf_gyes rfl (qf_pure tabOk rfl rfl rfl (qf_pure tabOk rfl rfl rfl (qf_nil (q_cond_true rfl (q_ret ?_))))))
              refine q_fin tabOk rfl (by repeat constructor) fun w hs => ?_
              exact ⟨z', .inr hE, Sat.un1.1 (hs.sp (by repeat constructor))⟩
  · have hne : n = s.rifles.length := by omega
    subst hne
    (refine q_exit _ rfl ?_)
    refine q_end tabOk rfl (by repeat constructor) fun w hs => ?_
    exact ⟨z, .inl hI, Sat.un1.1 (hs.sp (by repeat constructor))⟩
end Go.Proofs.YtopdmadgkjdgcaaGreat

/- Walks of rifle: Open. -/
namespace Go.Proofs.YtopdmadgkjdgcaaGreat
set_option maxRecDepth 4000
open Go Go.Eng
abbrev openF (b1 b2 : Nat) : Value := .func (.func 167) #[] #[.pointer (some ⟨b1, 0, none⟩), .pointer (some ⟨b2, 0, none⟩)]
theorem open_ca (w : World) (bd : Nat) (k : Kn) : Ca Tryz.prog 125 [.pointer (some ⟨bd, 0, none⟩), knV k] w fun x w' => ∃ y : Nat × Nat, x = openF y.1 y.2 ∧ Sat w M0 [.pt y.1 [.pointer (some ⟨bd, 0, none⟩)] 177, .pt y.2 (knC k) 182] w' := by
  refine q_of (Sat.nil w M0) Tryz.func125 rfl (by simp [Tryz.ntmps125]) ?_
  (refine q_seq (q_region ?_))
  refine ql_box rfl rfl (fun b2 => ?_)
  refine ql_box rfl rfl (fun b3 => ?_)
  rw [agg_cells]
  (refine ql_pure tabOk rfl rfl (q_nil (q_seq (q_region (ql_pure tabOk rfl rfl (ql_pure tabOk rfl rfl (q_nil (q_ret ?_))))))))
  refine q_fin tabOk rfl (by repeat constructor) fun w hs => ?_
  exact ⟨(b2, b3), rfl, hs.sp (by repeat constructor)⟩
theorem openL_len (s : Sc) (k : Kn) : (openL s k).length ≤ s.rifles.length := by
  have := List.length_filter_le (openK s k) (List.range s.rifles.length)
  rwa [List.length_range] at this
set_option maxHeartbeats 1000000 in
theorem appendSeq_ca (w : World) (lo hi b1 b2 bd : Nat) (s : Sc) (tv rv : Value) (k0 k : Kn) (h : ScR w lo hi tv rv s) (hs0 : s.Ok) (hk : k.Bd) {t1 t2 : TypeId} (hb1 : Blk w b1 [.pointer (some ⟨bd, 0, none⟩)] t1) (hb2 : Blk w b2 (knC k) t2) (hbd : Blk w bd (dskC s tv rv k0) 184) : Ca Tryz.prog 166 [.slice none 0 0, openF b1 b2] w fun x w' => ∃ u : Value, x = u ∧ Sat w M0 [.ow u 3 1 (openL s k).length (ints (nI (openL s k)))] w' := by
  have hol := openL_len s k
  have hrn := hs0.rn8
  refine q_ofM (Sat.nil w M0) Tryz.func166 rfl (by simp [Tryz.ntmps166]) ?_
  (refine q_seq (q_region ?_))
  refine ql_box rfl rfl (fun b3 => ?_)
  (refine ql_pure tabOk rfl rfl (q_nil (q_seq (q_seq (q_region (ql_pure tabOk rfl rfl (q_nil (q_block ?_))))))))
  refine q_conv (H' := [.ow (.slice none 0 0) 3 1 0 (ints (nI [])), .pt b3 [.slice none 0 0] 29]) (fun w' hs => Sat.ownil hs 3 1) ?_
  refine q_range natE (List Nat × Value) (openL s k) (fun pre z => z.1 = pre) (fun _ _ => False) (fun z => [.ow z.2 3 1 z.1.length (ints (nI z.1)), .pt b3 [z.2] 29]) [] ([], .slice none 0 0)
    rfl (by kernel_rfl) rfl (fun _ _ => rfl) rfl (by repeat constructor) ?_ ?_ ?_ (fun _ _ _ h => h.elim)
  · intro w1 D hs hD
    have old : ∀ b cs t, Blk w b cs t → Blk w1 b cs t ∧ ¬ D b := fun b cs t hb => ⟨hb.keep hs.chg0, fun h => by
      have := (hD b h).2.resolve_left (fun h => h)
      have := hb.lt
      omega⟩
    exact open_it w1 D lo hi b1 b2 bd s tv rv k0 k (fun w' hc => h.keep (hs.chg0.old hc (fun k hk => (hD k hk).2.resolve_left (fun h => h)))) hs0 hk (old _ _ _ hb1).1 (old _ _ _ hb2).1 (old _ _ _ hbd).1 ⟨(old _ _ _ hb1).2, (old _ _ _ hb2).2, (old _ _ _ hbd).2⟩
  · intro pre x post z w1 lb rdy bsy K F' hx hI hsat hR hbegin hend hret hexit
    obtain ⟨z1, z2⟩ := z
    dsimp only at hI
    subst hI
    have hlt : z1.length ≤ 8 := by
      have := congrArg List.length hx
      simp at this
      omega
    dsimp only [natE, List.zip_cons_cons, List.zip_nil_left, List.zip_nil_right, List.foldl_cons, List.foldl_nil]
    (refine q_region (ql_pure tabOk rfl rfl (q_nil ?_)))
    refine hbegin _ _ ?_
    (refine q_block (q_region ?_); refine ql_loadBa tabOk rfl rfl rfl ?_; refine ql_pure tabOk rfl rfl ?_)
    refine ql_mkS 3 [.int .i64 x] rfl (by kernel_rfl) rfl (fun bn => ?_)
    skip
    refine ql_append (q := 1) (news := [.int .i64 x]) slI rfl rfl rfl (fun v' => by repeat constructor) (fun w' hs => ⟨_, _, Blk.rdN (hs.blk (b := bn) (by repeat constructor)) rfl⟩) (by simp [oneV]) (by omega) (by omega) (fun u' => ?_)
    refine ql_fact (fun w' hs => hs.own_one (v := u') (by repeat constructor)) (fun hone => ?_)
    skip
    refine ql_set tabOk rfl rfl rfl hone (by repeat constructor) ?_
    (refine q_nil (q_blk ?_))
    exact hend _ _ (z1 ++ [x], u') rfl (by dsimp only; rw [nI_snoc, List.length_append, List.length_singleton]; repeat constructor)
  · rintro D ⟨z1, z2⟩ hz
    dsimp only at hz
    subst hz
    dsimp only [List.cons_append, List.nil_append]
    (refine q_blk (q_seq (q_region ?_)); refine ql_loadBa tabOk rfl rfl rfl ?_; refine ql_pure tabOk rfl rfl (q_nil (q_ret ?_)))
    refine q_finMD tabOk (by repeat constructor) rfl (by repeat constructor) fun w hs => ?_
    exact ⟨z2, rfl, hs.sp (by repeat constructor)⟩
theorem collect_ca (w : World) (lo hi b1 b2 bd : Nat) (s : Sc) (tv rv : Value) (k0 k : Kn) (h : ScR w lo hi tv rv s) (hs0 : s.Ok) (hk : k.Bd) {t1 t2 : TypeId} (hb1 : Blk w b1 [.pointer (some ⟨bd, 0, none⟩)] t1) (hb2 : Blk w b2 (knC k) t2) (hbd : Blk w bd (dskC s tv rv k0) 184) : Ca Tryz.prog 124 [openF b1 b2] w fun x w' => ∃ u : Value, x = u ∧ Sat w M0 [.ow u 3 1 (openL s k).length (ints (nI (openL s k)))] w' := by
  refine q_of (Sat.nil w M0) Tryz.func124 rfl (by simp [Tryz.ntmps124]) ?_
  (refine q_seq (q_region (ql_pure tabOk rfl rfl (q_nil (q_seq (q_region (ql_pure tabOk rfl rfl ?_)))))))
  refine ql_call (β := Value) tabOk [] _ M0 rfl rfl rfl rfl (Sp.refl _) (fun _ h => h.elim) (fun w' hs => appendSeq_ca w' lo hi b1 b2 bd s tv rv k0 k (h.keep hs.chg0) hs0 hk (hb1.keep hs.chg0) (hb2.keep hs.chg0) (hbd.keep hs.chg0)) ?_
  rintro _ u hu
  subst hu
  dsimp only [List.cons_append, List.nil_append]
  (refine ql_pure tabOk rfl rfl (q_nil (q_ret ?_)))
  refine q_fin tabOk rfl (by repeat constructor) fun w hs => ?_
  exact ⟨u, rfl, hs.sp (by repeat constructor)⟩
theorem ropen_ok (w : World) (lo hi : Nat) (s : Sc) (tv rv : Value) (h : ScR w lo hi tv rv s) (hs0 : SOk s) : Ca Tryz.prog 42 [.agg (scC s tv rv).toArray] w fun x w' => ∃ u : Value, x = .tuple #[u, .int .i64 0] ∧ Sat w M0 [.ow u 3 1 (openL s (firstK s)).length (ints (nI (openL s (firstK s))))] w' := by
  have hfit := (firstK_fit hs0.le).bd
  refine q_of (Sat.nil w M0) Tryz.func42 rfl (by simp [Tryz.ntmps42]) ?_
  (refine q_seq (q_region ?_))
  refine ql_box rfl rfl (fun b1 => ?_)
  rw [agg_cells]
  (refine ql_pure tabOk rfl rfl (ql_pure tabOk rfl rfl (q_nil (q_seq (q_region ?_)))); refine ql_loadABa tabOk rfl rfl rfl ?_)
  refine ql_call (β := Nat) tabOk [] _ M0 rfl rfl rfl rfl (Sp.refl _) (fun _ h => h.elim) (fun w' hs => rask_ok w' lo hi s tv _ (h.keep hs.chg0) hs0.ok hs0.le) ?_
  rintro bd _ rfl
  dsimp only [List.cons_append, List.nil_append]
  (refine ql_pure tabOk rfl rfl (ql_ext tabOk rfl rfl rfl (ql_ext tabOk rfl rfl rfl (ql_pure tabOk rfl rfl (ql_pure tabOk rfl rfl (q_nil (q_seq (q_seq (q_region (ql_pure tabOk rfl rfl (ql_neqF tabOk rfl rfl rfl (by omega) (q_nil ?_))))))))))); refine q_cond_false rfl (q_skip (q_seq (q_region ?_))); (iterate 4 refine ql_pure tabOk rfl rfl ?_); refine ql_loadABa tabOk rfl rfl rfl ?_)
  refine ql_call (β := Nat × Nat) (ψ := fun y v => v = openF y.1 y.2) (L' := fun y => [.pt y.1 [.pointer (some ⟨bd, 0, none⟩)] 177, .pt y.2 (knC (firstK s)) 182]) tabOk [] _ M0 rfl rfl rfl rfl (Sp.refl _) (fun _ h => h.elim) (fun w' hs => open_ca w' bd (firstK s)) ?_
  rintro ⟨b2, b3⟩ _ rfl
  dsimp only [List.cons_append, List.nil_append]
  skip
  refine ql_call (β := Value) (ψ := fun u v => v = u) (L' := fun u => [.ow u 3 1 (openL s (firstK s)).length (ints (nI (openL s (firstK s))))]) tabOk [] _ M0 rfl rfl rfl rfl (Sp.refl _) (fun _ h => h.elim) (fun w' hs => collect_ca w' lo hi b2 b3 bd s tv rv (firstK s) (firstK s) (h.keep hs.chg0) hs0.ok hfit (hs.blk (b := b2) (by repeat constructor)) (hs.blk (b := b3) (by repeat constructor)) (hs.blk (b := bd) (by repeat constructor))) ?_
  rintro _ u hu
  subst hu
  dsimp only [List.cons_append, List.nil_append]
  (refine ql_pure tabOk rfl rfl (ql_pure tabOk rfl rfl (q_nil (q_ret ?_))))
  refine q_fin tabOk rfl (by repeat constructor) fun w hs => ?_
  exact ⟨_, rfl, hs.sp (by repeat constructor)⟩
end Go.Proofs.YtopdmadgkjdgcaaGreat

/- Walks of rifle: the best next check, with its memo. -/
namespace Go.Proofs.YtopdmadgkjdgcaaGreat
set_option maxRecDepth 4000
open Go Go.Eng
def stPs : List PK := [.fl [some .i64, some .i64], .ar 8 4, .ar 8 4]
abbrev ksK : Value → Prop := keyF (mixK stPs)
theorem st_key : KeyT Tryz.prog 182 ksK eqV := keyT_mix (by kernel_rfl)
theorem knV_key {k : Kn} (hk : k.Bd) : ksK (knV k) := by
  obtain ⟨klo, khi, p, f⟩ := k
  obtain ⟨p0, p1, p2, p3, p4, p5, p6, p7, rfl⟩ := lit8 hk.p8
  obtain ⟨f0, f1, f2, f3, f4, f5, f6, f7, rfl⟩ := lit8 hk.f8
  exact ⟨_, rfl, rfl⟩
theorem knV_inj {k j : Kn} (hk : k.Bd) (hj : j.Bd) (h : eqV (knV k) (knV j) = true) : k = j := by
  have h1 := st_key.eq _ _ (knV_key hk) (knV_key hj) h
  obtain ⟨klo, khi, p, f⟩ := k
  obtain ⟨p0, p1, p2, p3, p4, p5, p6, p7, rfl⟩ := lit8 hk.p8
  obtain ⟨f0, f1, f2, f3, f4, f5, f6, f7, rfl⟩ := lit8 hk.f8
  obtain ⟨jlo, jhi, p', f'⟩ := j
  obtain ⟨q0, q1, q2, q3, q4, q5, q6, q7, rfl⟩ := lit8 hj.p8
  obtain ⟨g0, g1, g2, g3, g4, g5, g6, g7, rfl⟩ := lit8 hj.f8
  injection h1 with h1
  have h2 := congrArg Array.toList h1
  simp only [knC, bools, List.map_cons, List.map_nil, List.cons_append, List.nil_append, List.cons.injEq, Value.int.injEq, Value.bool.injEq, true_and, and_true] at h2
  simp only [Kn.mk.injEq, List.cons.injEq, and_true]
  obtain ⟨rfl, rfl, rfl, rfl, rfl, rfl, rfl, rfl, rfl, rfl, rfl, rfl, rfl, rfl, rfl, rfl, rfl, rfl⟩ := h2
  simp
theorem st_map : Tryz.prog.underlying 243 = some (.map 182 204) := by kernel_rfl
abbrev pkV (z : Int × Int) : Value := .agg #[.int .i64 z.1, .int .i64 z.2]
theorem zero_pk : ZeroOf Tryz.prog 204 (pkV (0, 0)) := ⟨by kernel_rfl⟩
theorem pk_flat : flatB Tryz.prog 204 [some .i64, some .i64] = true := by kernel_rfl
/-- Each state that is noted has its best next check. -/
def GoodB (s : Sc) (f : Value → Option Value) : Prop := ∀ k : Kn, k.Fit → ∀ v, f (knV k) = some v → v = pkV (bstK s k)
theorem goodB_nil (s : Sc) : GoodB s (fun _ => none) := fun _ _ _ h => by cases h
theorem goodB_upd {s : Sc} {f : Value → Option Value} (h : GoodB s f) {k : Kn} (hk : k.Fit) : GoodB s (fun x => if eqV x (knV k) then some (pkV (bstK s k)) else f x) := fun j hj v hv => by
  dsimp only at hv
  split at hv
  · rename_i he
    obtain rfl := knV_inj hj.bd hk.bd he
    cases hv
    rfl
  · exact h j hj v hv
abbrev bstF (b1 b2 b3 : Nat) : Value := .func (.func 169) #[] #[.pointer (some ⟨b1, 0, none⟩), .pointer (some ⟨b2, 0, none⟩), .pointer (some ⟨b3, 0, none⟩)]
abbrev mpB (bm : Nat) (f : Value → Option Value) : Ck := mpP ksK eqV bm f
/-- The planner's variables. -/
structure PnE (w : World) (bm b1 b2 b3 bd : Nat) (s : Sc) (tv rv : Value) (k0 : Kn) : Prop where
  h1 : ∃ t, Blk w b1 [.map (some bm)] t
  h2 : ∃ t, Blk w b2 [.pointer (some ⟨bd, 0, none⟩)] t
  h3 : ∃ t, Blk w b3 [bstF b1 b2 b3] t
  hd : Blk w bd (dskC s tv rv k0) 184
theorem PnE.mapC {w w' : World} {b : Nat} {K : Value → Prop} {q : Value → Value → Bool} {f : Value → Option Value} {bm b1 b2 b3 bd : Nat} {s : Sc} {tv rv : Value} {k0 : Kn} (h : PnE w bm b1 b2 b3 bd s tv rv k0) (hm : MapAt w b K q f) (c : ChgP (· = b) w w') : PnE w' bm b1 b2 b3 bd s tv rv k0 :=
  ⟨h.h1.imp fun _ h => Blk.mapC h hm c, h.h2.imp fun _ h => Blk.mapC h hm c, h.h3.imp fun _ h => Blk.mapC h hm c, Blk.mapC h.hd hm c⟩
theorem Rd.mapC {w w' : World} {b : Nat} {K : Value → Prop} {q : Value → Value → Bool} {f : Value → Option Value} {lo hi : Nat} {v : Value} {size n : Nat} {cs : List Value} (h : Rd w lo hi v size n cs) (hm : MapAt w b K q f) (c : ChgP (· = b) w w') : Rd w' lo hi v size n cs := by
  obtain ⟨es, clock, hb1, _⟩ := hm
  obtain ⟨h1, h2⟩ := h
  refine ⟨h1, ?_⟩
  rcases h2 with h2 | ⟨x, off, cap, hv, hb, hc⟩
  · exact .inl h2
  · refine .inr ⟨x, off, cap, hv, fun hp => ⟨(hb hp).1, (hb hp).2.1, Nat.lt_of_lt_of_le (hb hp).2.2 c.size⟩, fun j hj => ?_⟩
    have hb' := hb (by omega)
    have hc' := hc j hj
    have hne : ¬ x = b := by
      rintro rfl
      rw [List.getElem?_eq_getElem hj] at hc'
      simp [World.cell?, hb1] at hc'
    rw [← hc']
    exact World.cell?_of_block (w := w) (c.block x hb'.2.2 hne)
theorem ScR.mapC {w w' : World} {b : Nat} {K : Value → Prop} {q : Value → Value → Bool} {f : Value → Option Value} {lo hi : Nat} {tv rv : Value} {s : Sc} (h : ScR w lo hi tv rv s) (hm : MapAt w b K q f) (c : ChgP (· = b) w w') : ScR w' lo hi tv rv s :=
  ⟨⟨Rd.mapC h.t.rd hm c, h.t.sz⟩, ⟨Rd.mapC h.r.rd hm c, h.r.sz⟩⟩
theorem afterV_open {s : Sc} {k : Kn} {i : Nat} (hk : k.Fit) (ho : openK s k i = true) : afterV s k i true = (passK s k i, true) ∧ afterV s k i false = (failK s k i, true) := by
  have hf := (open_iff.1 ho).1
  constructor
  · unfold afterV
    rw [if_neg (by rw [hf]; simp), if_pos rfl, decide_eq_true (passK_fit hk ho).le]
    rfl
  · unfold afterV
    rw [if_neg (by rw [hf]; simp), if_neg (by simp), decide_eq_true (failK_fit hk ho).le]
    rfl
theorem dep_8 {s : Sc} (h8 : s.rifles.length ≤ 8) {k : Kn} (hk : k.Fit) : 0 ≤ depV s k ∧ depV s k ≤ 8 := by
  have h1 := dep_open h8 _ k rfl hk
  have h2 := openL_len s k
  have h3 := dep_nn s k
  omega
def tF13_d35aed8 : OT := .alt (chainT [10, 11, 12, 13, 14] (.nil)) (chainT [13, 10, 11, 12, 14] (.nil))
def tF13_0b6f6fa : OT := .alt (chainT [9] (tF13_d35aed8)) (chainT [13, 9, 10, 11, 12, 14] (.nil))
def tF13_59abf1e : OT := .alt (chainT [5, 6, 7, 8, 0] (tF13_0b6f6fa)) (chainT [13, 5, 6, 7, 8, 0, 9, 10, 11, 12, 14] (.nil))
def tF13_298e05f : OT := .alt (chainT [1, 2, 3, 4] (tF13_59abf1e)) (chainT [13, 1, 2, 3, 4, 5, 6, 7, 8, 0, 9, 10, 11, 12, 14] (.nil))
set_option maxHeartbeats 8000000 in
theorem best_ca (lo hi bm b1 b2 b3 bd : Nat) (s : Sc) (tv rv : Value) (k0 : Kn) (hs0 : s.Ok) : ∀ (n : Nat) (k : Kn) (w : World) (f : Value → Option Value), cntK s k = n → k.Fit → ScR w lo hi tv rv s → PnE w bm b1 b2 b3 bd s tv rv k0 → MapAt w bm ksK eqV f → GoodB s f →
    Ca Tryz.prog 169 [knV k, .pointer (some ⟨b1, 0, none⟩), .pointer (some ⟨b2, 0, none⟩), .pointer (some ⟨b3, 0, none⟩)] w fun v w' => ∃ g, (v = pkV (bstK s k) ∧ GoodB s g) ∧ Sat w (· = bm) [mpB bm g] w' := by
  have h8 := hs0.rn8
  intro n
  induction n using Nat.strongRecOn with
  | ind n ih =>
  intro k w f hcn hk h hE hm hg
  have hkb := hk.bd
  obtain ⟨t1, hb1⟩ := hE.h1
  obtain ⟨t2, hb2⟩ := hE.h2
  obtain ⟨t3, hb3⟩ := hE.h3
  have hb1 := fun w' (c : ChgP (· = bm) w w') => Blk.mapC hb1 hm c
  have hb2 := fun w' (c : ChgP (· = bm) w w') => Blk.mapC hb2 hm c
  have hb3 := fun w' (c : ChgP (· = bm) w w') => Blk.mapC hb3 hm c
  refine q_ofM (H := [mpB bm f]) (map_sat hm) Tryz.func169 rfl (by simp [Tryz.ntmps169]) ?_
  (refine q_seq (q_region ?_))
  refine ql_box rfl rfl (fun b4 => ?_)
  rw [agg_cells]
  skip
  refine ql_alloc zero204 rfl (fun b5 => ?_)
  (refine q_nil (q_seq (q_seq (q_region ?_))); refine ql_loadG tabOk rfl rfl rfl (by assumption) (by rfl) ?_)
  refine ql_loadA (cs := knC k) tabOk rfl rfl rfl (knC_len hkb) (fun w hs q hq => by rw [(hs.blk (b := b4) (by repeat constructor)).cell, Nat.zero_add]) ?_
  refine ql_look2 st_key st_map zero_pk rfl rfl rfl (by repeat constructor) (knV_key hkb) ?_
  cases hf : f (knV k) with
  | some v =>
    obtain rfl := hg k hk v hf
    (refine ql_pure tabOk rfl rfl (ql_ext tabOk rfl rfl rfl (ql_ext tabOk rfl rfl rfl ?_)))
    refine ql_alloc zero204 rfl (fun b6 => ?_)
    (refine ql_setA tabOk rfl rfl rfl rfl rfl (by repeat constructor) rfl ?_; refine ql_pure tabOk rfl rfl (q_nil (q_seq (q_region (ql_pure tabOk rfl rfl (q_nil (q_cond_true rfl (q_seq (q_region ?_)))))))); refine ql_loadABa tabOk rfl rfl rfl ?_; refine ql_setA tabOk rfl rfl rfl rfl rfl (by repeat constructor) rfl ?_; refine q_nil (q_ret ?_))
    refine q_finM tabOk rfl (by repeat constructor) fun w hs => ?_
    exact ⟨f, ⟨rfl, hg⟩, hs.sp (by repeat constructor)⟩
  | none =>
    (refine ql_pure tabOk rfl rfl (ql_ext tabOk rfl rfl rfl (ql_ext tabOk rfl rfl rfl ?_)))
    refine ql_alloc zero204 rfl (fun b6 => ?_)
    (refine ql_setA tabOk rfl rfl rfl rfl rfl (by repeat constructor) rfl ?_; refine ql_pure tabOk rfl rfl (q_nil (q_seq (q_region (ql_pure tabOk rfl rfl (q_nil (q_cond_false rfl (q_skip (q_seq (q_region ?_))))))))))
    refine ql_alloc zero204 rfl (fun b8 => ?_)
    (refine q_nil (q_seq (q_seq (q_region ?_))); refine ql_loadG tabOk rfl rfl rfl (by assumption) (by rfl) ?_)
    refine ql_loadA (cs := knC k) tabOk rfl rfl rfl (knC_len hkb) (fun w hs q hq => by rw [(hs.blk (b := b4) (by repeat constructor)).cell, Nat.zero_add]) ?_
    refine ql_call (β := Nat × Nat) (ψ := fun y v => v = openF y.1 y.2) (L' := fun y => [.pt y.1 [.pointer (some ⟨bd, 0, none⟩)] 177, .pt y.2 (knC k) 182]) tabOk [] _ M0 rfl rfl rfl rfl (Sp.refl _) (fun _ h => h.elim) (fun w' hs => open_ca w' bd k) ?_
    rintro ⟨o1, o2⟩ _ rfl
    dsimp only [List.cons_append, List.nil_append]
    (refine q_nil (q_block ?_))
    refine q_range natE ((Value → Option Value) × (Int × Int)) (openL s k) (fun pre z => z.2 = pre.foldl (pickS (depV s) s k) (0, 0) ∧ GoodB s z.1) (fun _ _ => False) (fun z => [mpB bm z.1, .pt b8 [.int .i64 z.2.1, .int .i64 z.2.2] 204]) [.pt o1 [.pointer (some ⟨bd, 0, none⟩)] 177, .pt o2 (knC k) 182, .pt b4 (knC k) 182, .pt b5 [.int .i64 0, .int .i64 0] 204] (f, (0, 0))
      rfl (by kernel_rfl) rfl (fun _ _ => rfl) ⟨rfl, hg⟩ (by repeat constructor) ?_ ?_ ?_ (fun _ _ _ h => h.elim)
    · intro w1 D hs hD
      have hup : ∀ w', ChgP D w1 w' → ChgP (· = bm) w w' := fun w' hc => hs.chg.upP hc fun k hk => (hD k hk).2
      have hE1 := hE.mapC hm hs.chg
      have hnd : ¬ D bd := fun e => by
        rcases (hD bd e).2 with e2 | e2
        · obtain ⟨es, cl, h1, _⟩ := hm
          have h2 := hE.hd
          rw [e2] at h2
          unfold Blk at h2
          rw [h2] at h1
          cases h1
        · have := hE.hd.lt
          omega
      exact open_it w1 D lo hi o1 o2 bd s tv rv k0 k (fun w' hc => h.mapC hm (hup w' hc)) hs0 hkb (hs.blk (b := o1) (by repeat constructor)) (hs.blk (b := o2) (by repeat constructor)) hE1.hd ⟨fun e => (hD _ e).1 ⟨.pt o1 _ _, (by repeat constructor), rfl⟩, fun e => (hD _ e).1 ⟨.pt o2 _ _, (by repeat constructor), rfl⟩, hnd⟩
    · intro pre x post z w1 lb rdy bsy K F' hx hI hsat hR hbegin hend hret hexit
      obtain ⟨z1, out⟩ := z
      obtain ⟨hout, hgz⟩ := hI
      dsimp only at hout hgz
      have hxm : x ∈ openL s k := by rw [hx]; simp
      obtain ⟨hx1, hxo⟩ := openL_mem.1 hxm
      have hfr := (open_iff.1 hxo).1
      have c1 := cnt_pass hk h8 hx1 hfr
      have c2 := cnt_fail hk h8 hx1 hfr
      have fp := passK_fit hk hxo
      have ff := failK_fit hk hxo
      have dp := dep_8 h8 fp
      have df := dep_8 h8 ff
      have hW : ∀ w', ChgP (DL (rdy :: [mpB bm z1, .pt b8 [.int .i64 out.1, .int .i64 out.2] 204])) w1 w' → ChgP (· = bm) w w' := fun w' hc => (hR w' hc).chg
      have hb1' := fun w' hc => hb1 w' (hW w' hc)
      have hb2' := fun w' hc => hb2 w' (hW w' hc)
      have hb3' := fun w' hc => hb3 w' (hW w' hc)
      have hb4' := fun w' hc => (hR w' hc).blk (b := b4) (by repeat constructor)
      dsimp only [natE, List.zip_cons_cons, List.zip_nil_left, List.zip_nil_right, List.foldl_cons, List.foldl_nil]
      (refine q_region (ql_pure tabOk rfl rfl (q_nil ?_)))
      refine hbegin _ _ ?_
      (refine q_block (q_seq (q_region ?_)); refine ql_loadG tabOk rfl rfl rfl (by assumption) (by rfl) ?_)
      refine ql_loadA (cs := knC k) tabOk rfl rfl rfl (knC_len hkb) (fun w hs q hq => by rw [(hb4' _ hs.chg).cell, Nat.zero_add]) ?_
      (refine ql_pure tabOk rfl rfl ?_)
      refine ql_callv (val := .tuple #[knV (passK s k x), .bool true]) tabOk rfl rfl rfl rfl (fun w hs => ?_) ?_; exact by have := after_ca w lo hi bd s tv rv k0 k (h.mapC hm (hW _ hs.chg)) ((hE.mapC hm (hW _ hs.chg)).hd) hs0 hkb x hx1 true; rw [(afterV_open hk hxo).1] at this; exact this
      (refine ql_pure tabOk rfl rfl (ql_ext tabOk rfl rfl rfl (ql_ext tabOk rfl rfl rfl ?_)))
      refine ql_alloc zero182 rfl (fun b10 => ?_)
      skip
      refine ql_setA (us := knC (passK s k x)) tabOk rfl rfl rfl (knC_len fp.bd) (knC_one _) (by repeat constructor) rfl ?_
      (refine ql_pure tabOk rfl rfl (q_nil (q_seq (q_region ?_))); refine ql_loadG tabOk rfl rfl rfl (by assumption) (by rfl) ?_)
      refine ql_loadA (cs := knC k) tabOk rfl rfl rfl (knC_len hkb) (fun w hs q hq => by rw [(hb4' _ hs.chg).cell, Nat.zero_add]) ?_
      (refine ql_pure tabOk rfl rfl ?_)
      refine ql_callv (val := .tuple #[knV (failK s k x), .bool true]) tabOk rfl rfl rfl rfl (fun w hs => ?_) ?_; exact by have := after_ca w lo hi bd s tv rv k0 k (h.mapC hm (hW _ hs.chg)) ((hE.mapC hm (hW _ hs.chg)).hd) hs0 hkb x hx1 false; rw [(afterV_open hk hxo).2] at this; exact this
      (refine ql_pure tabOk rfl rfl (ql_ext tabOk rfl rfl rfl (ql_ext tabOk rfl rfl rfl ?_)))
      refine ql_alloc zero182 rfl (fun b12 => ?_)
      skip
      refine ql_setA (us := knC (failK s k x)) tabOk rfl rfl rfl (knC_len ff.bd) (knC_one _) (by repeat constructor) rfl ?_
      (refine ql_pure tabOk rfl rfl (q_nil (q_seq ?_)))
      have dpd : ∀ j, (bstK s j).2 = depV s j := fun _ => rfl
      refine q_cut (σ := { y : (Value → Option Value) × Nat // GoodB s y.1 }) (fun y => [(8, .pointer (some ⟨b8, 0, none⟩)), (14, .pointer (some ⟨y.1.2, 0, none⟩))]) (fun y => [bsy, .pt y.1.2 [.int .i64 x, .int .i64 (1 + max (depV s (passK s k x)) (depV s (failK s k x)))] 204, mpB bm y.1.1, .pt b8 [.int .i64 out.1, .int .i64 out.2] 204]) ?_ ?_
      rotate_left
      · intro K2 hK2
        refine q_drawT (tF13_298e05f) _ [mpB bm z1] (Sp.cons (by repeat constructor) (Sp.refl _)) (by kernel_rfl) (by kernel_rfl) ?_
        refine qt_alt ?_ ?_
        · skip
          refine qt_seg (by repeat (first | exact PickL.nil | (apply PickL.cons; rfl))) fun K1 hK1 => ?_
          (refine qf_loadG tabOk rfl rfl rfl (by assumption) (by rfl) ?_)
          refine qf_loadA (cs := knC (passK s k x)) tabOk rfl rfl rfl (knC_len fp.bd) (fun w hs q hq => by rw [(hs.blk (b := b10) (by repeat constructor)).cell, Nat.zero_add]) ?_
          skip
          refine qf_callF (β := Value → Option Value) (ψ := fun g v => v = pkV (bstK s (passK s k x)) ∧ GoodB s g) (L' := fun g => [mpB bm g]) [mpB bm z1] _ (· = bm) rfl rfl rfl (Sp.cons (by repeat constructor) (Sp.refl _)) (fun x hx => ⟨_, .head _, hx⟩) (fun w' hs => CaF.of tabOk rfl (ih _ (by omega) (passK s k x) w' z1 rfl fp (h.mapC hm (hW _ hs.chg)) (hE.mapC hm (hW _ hs.chg)) (hs.mem (c := mpB bm z1) (by repeat constructor)) hgz)) ?_
          clear hgz
          rintro z1 v ⟨rfl, hgz⟩
          skip
          refine qf_fld tabOk 1 3 (by kernel_rfl) rfl rfl rfl rfl ?_
          (refine qf_nil ?_)
          refine hK1 _ _ ?_
          refine qt_alt ?_ ?_
          · skip
            refine qt_seg (by repeat (first | exact PickL.nil | (apply PickL.cons; rfl))) fun K1 hK1 => ?_
            (refine qf_loadG tabOk rfl rfl rfl (by assumption) (by rfl) ?_)
            refine qf_loadA (cs := knC (failK s k x)) tabOk rfl rfl rfl (knC_len ff.bd) (fun w hs q hq => by rw [(hs.blk (b := b12) (by repeat constructor)).cell, Nat.zero_add]) ?_
            skip
            refine qf_callF (β := Value → Option Value) (ψ := fun g v => v = pkV (bstK s (failK s k x)) ∧ GoodB s g) (L' := fun g => [mpB bm g]) [mpB bm z1] _ (· = bm) rfl rfl rfl (Sp.cons (by repeat constructor) (Sp.refl _)) (fun x hx => ⟨_, .head _, hx⟩) (fun w' hs => CaF.of tabOk rfl (ih _ (by omega) (failK s k x) w' z1 rfl ff (h.mapC hm (hW _ hs.chg)) (hE.mapC hm (hW _ hs.chg)) (hs.mem (c := mpB bm z1) (by repeat constructor)) hgz)) ?_
            clear hgz
            rintro z1 v ⟨rfl, hgz⟩
            skip
            refine qf_fld tabOk 1 3 (by kernel_rfl) rfl rfl rfl rfl ?_
            (refine qf_pure tabOk rfl rfl rfl (qf_nil ?_))
            refine hK1 _ _ ?_
            refine qt_alt ?_ ?_
            · skip
              refine qt_seg (by repeat (first | exact PickL.nil | (apply PickL.cons; rfl))) fun K1 hK1 => ?_
              skip
              refine qf_mkS 3 [.int .i64 (depV s (failK s k x))] rfl (by kernel_rfl) rfl (fun bn => ?_)
              (refine qf_nil ?_)
              refine hK1 _ _ ?_
              refine qt_alt ?_ ?_
              · skip
                refine qt_seg (by repeat (first | exact PickL.nil | (apply PickL.cons; rfl))) fun K1 hK1 => ?_
                skip
                refine qf_callv tabOk rfl rfl rfl rfl (fun w' hs => great_ca w' _ _ (depV s (passK s k x)) _ [depV s (failK s k x)] (Blk.rdI (c := 1) (hs.blk (b := bn) (cs := ints [depV s (failK s k x)]) (by repeat constructor))) (by simp)) ?_
                rw [show mxF (depV s (passK s k x)) [depV s (failK s k x)] = max (depV s (passK s k x)) (depV s (failK s k x)) from rfl]
                (refine qf_ar tabOk rfl rfl rfl rfl (by omega) (by omega) ?_)
                refine qf_mk #[.int .i64 x, .int .i64 (1 + max (depV s (passK s k x)) (depV s (failK s k x)))] rfl (by kernel_rfl) rfl ?_
                skip
                refine qf_alloc zero204 rfl (fun b14 => ?_)
                (refine qf_setA tabOk rfl rfl rfl rfl rfl (by repeat constructor) rfl ?_; refine qf_nil ?_)
                skip
                skip
                exact hK1 _ _ (qt_nil (hK2 ⟨(z1, b14), hgz⟩ _ _ ⟨rfl, rfl, trivial⟩ (by repeat constructor)))
              · skip
                refine qt_seg (by repeat (first | exact PickL.nil | (apply PickL.cons; rfl))) fun K1 hK1 => ?_
                skip
                refine qf_alloc zero204 rfl (fun b14 => ?_)
                skip
                refine qf_callv tabOk rfl rfl rfl rfl (fun w' hs => great_ca w' _ _ (depV s (passK s k x)) _ [depV s (failK s k x)] (Blk.rdI (c := 1) (hs.blk (b := bn) (cs := ints [depV s (failK s k x)]) (by repeat constructor))) (by simp)) ?_
                rw [show mxF (depV s (passK s k x)) [depV s (failK s k x)] = max (depV s (passK s k x)) (depV s (failK s k x)) from rfl]
                (refine qf_ar tabOk rfl rfl rfl rfl (by omega) (by omega) ?_)
                refine qf_mk #[.int .i64 x, .int .i64 (1 + max (depV s (passK s k x)) (depV s (failK s k x)))] rfl (by kernel_rfl) rfl ?_
                (refine qf_setA tabOk rfl rfl rfl rfl rfl (by repeat constructor) rfl ?_; refine qf_nil ?_)
                skip
                skip
                exact hK1 _ _ (qt_nil (hK2 ⟨(z1, b14), hgz⟩ _ _ ⟨rfl, rfl, trivial⟩ (by repeat constructor)))
            · skip
              refine qt_seg (by repeat (first | exact PickL.nil | (apply PickL.cons; rfl))) fun K1 hK1 => ?_
              skip
              refine qf_alloc zero204 rfl (fun b14 => ?_)
              skip
              refine qf_mkS 3 [.int .i64 (depV s (failK s k x))] rfl (by kernel_rfl) rfl (fun bn => ?_)
              skip
              refine qf_callv tabOk rfl rfl rfl rfl (fun w' hs => great_ca w' _ _ (depV s (passK s k x)) _ [depV s (failK s k x)] (Blk.rdI (c := 1) (hs.blk (b := bn) (cs := ints [depV s (failK s k x)]) (by repeat constructor))) (by simp)) ?_
              rw [show mxF (depV s (passK s k x)) [depV s (failK s k x)] = max (depV s (passK s k x)) (depV s (failK s k x)) from rfl]
              (refine qf_ar tabOk rfl rfl rfl rfl (by omega) (by omega) ?_)
              refine qf_mk #[.int .i64 x, .int .i64 (1 + max (depV s (passK s k x)) (depV s (failK s k x)))] rfl (by kernel_rfl) rfl ?_
              (refine qf_setA tabOk rfl rfl rfl rfl rfl (by repeat constructor) rfl ?_; refine qf_nil ?_)
              skip
              skip
              exact hK1 _ _ (qt_nil (hK2 ⟨(z1, b14), hgz⟩ _ _ ⟨rfl, rfl, trivial⟩ (by repeat constructor)))
          · skip
            refine qt_seg (by repeat (first | exact PickL.nil | (apply PickL.cons; rfl))) fun K1 hK1 => ?_
            skip
            refine qf_alloc zero204 rfl (fun b14 => ?_)
            (refine qf_loadG tabOk rfl rfl rfl (by assumption) (by rfl) ?_)
            refine qf_loadA (cs := knC (failK s k x)) tabOk rfl rfl rfl (knC_len ff.bd) (fun w hs q hq => by rw [(hs.blk (b := b12) (by repeat constructor)).cell, Nat.zero_add]) ?_
            skip
            refine qf_callF (β := Value → Option Value) (ψ := fun g v => v = pkV (bstK s (failK s k x)) ∧ GoodB s g) (L' := fun g => [mpB bm g]) [mpB bm z1] _ (· = bm) rfl rfl rfl (Sp.cons (by repeat constructor) (Sp.refl _)) (fun x hx => ⟨_, .head _, hx⟩) (fun w' hs => CaF.of tabOk rfl (ih _ (by omega) (failK s k x) w' z1 rfl ff (h.mapC hm (hW _ hs.chg)) (hE.mapC hm (hW _ hs.chg)) (hs.mem (c := mpB bm z1) (by repeat constructor)) hgz)) ?_
            clear hgz
            rintro z1 v ⟨rfl, hgz⟩
            skip
            refine qf_fld tabOk 1 3 (by kernel_rfl) rfl rfl rfl rfl ?_
            (refine qf_pure tabOk rfl rfl rfl ?_)
            refine qf_mkS 3 [.int .i64 (depV s (failK s k x))] rfl (by kernel_rfl) rfl (fun bn => ?_)
            skip
            refine qf_callv tabOk rfl rfl rfl rfl (fun w' hs => great_ca w' _ _ (depV s (passK s k x)) _ [depV s (failK s k x)] (Blk.rdI (c := 1) (hs.blk (b := bn) (cs := ints [depV s (failK s k x)]) (by repeat constructor))) (by simp)) ?_
            rw [show mxF (depV s (passK s k x)) [depV s (failK s k x)] = max (depV s (passK s k x)) (depV s (failK s k x)) from rfl]
            (refine qf_ar tabOk rfl rfl rfl rfl (by omega) (by omega) ?_)
            refine qf_mk #[.int .i64 x, .int .i64 (1 + max (depV s (passK s k x)) (depV s (failK s k x)))] rfl (by kernel_rfl) rfl ?_
            (refine qf_setA tabOk rfl rfl rfl rfl rfl (by repeat constructor) rfl ?_; refine qf_nil ?_)
            skip
            skip
            exact hK1 _ _ (qt_nil (hK2 ⟨(z1, b14), hgz⟩ _ _ ⟨rfl, rfl, trivial⟩ (by repeat constructor)))
        · skip
          refine qt_seg (by repeat (first | exact PickL.nil | (apply PickL.cons; rfl))) fun K1 hK1 => ?_
          skip
          refine qf_alloc zero204 rfl (fun b14 => ?_)
          (refine qf_loadG tabOk rfl rfl rfl (by assumption) (by rfl) ?_)
          refine qf_loadA (cs := knC (passK s k x)) tabOk rfl rfl rfl (knC_len fp.bd) (fun w hs q hq => by rw [(hs.blk (b := b10) (by repeat constructor)).cell, Nat.zero_add]) ?_
          skip
          refine qf_callF (β := Value → Option Value) (ψ := fun g v => v = pkV (bstK s (passK s k x)) ∧ GoodB s g) (L' := fun g => [mpB bm g]) [mpB bm z1] _ (· = bm) rfl rfl rfl (Sp.cons (by repeat constructor) (Sp.refl _)) (fun x hx => ⟨_, .head _, hx⟩) (fun w' hs => CaF.of tabOk rfl (ih _ (by omega) (passK s k x) w' z1 rfl fp (h.mapC hm (hW _ hs.chg)) (hE.mapC hm (hW _ hs.chg)) (hs.mem (c := mpB bm z1) (by repeat constructor)) hgz)) ?_
          clear hgz
          rintro z1 v ⟨rfl, hgz⟩
          skip
          refine qf_fld tabOk 1 3 (by kernel_rfl) rfl rfl rfl rfl ?_
          (refine qf_loadG tabOk rfl rfl rfl (by assumption) (by rfl) ?_)
          refine qf_loadA (cs := knC (failK s k x)) tabOk rfl rfl rfl (knC_len ff.bd) (fun w hs q hq => by rw [(hs.blk (b := b12) (by repeat constructor)).cell, Nat.zero_add]) ?_
          skip
          refine qf_callF (β := Value → Option Value) (ψ := fun g v => v = pkV (bstK s (failK s k x)) ∧ GoodB s g) (L' := fun g => [mpB bm g]) [mpB bm z1] _ (· = bm) rfl rfl rfl (Sp.cons (by repeat constructor) (Sp.refl _)) (fun x hx => ⟨_, .head _, hx⟩) (fun w' hs => CaF.of tabOk rfl (ih _ (by omega) (failK s k x) w' z1 rfl ff (h.mapC hm (hW _ hs.chg)) (hE.mapC hm (hW _ hs.chg)) (hs.mem (c := mpB bm z1) (by repeat constructor)) hgz)) ?_
          clear hgz
          rintro z1 v ⟨rfl, hgz⟩
          skip
          refine qf_fld tabOk 1 3 (by kernel_rfl) rfl rfl rfl rfl ?_
          (refine qf_pure tabOk rfl rfl rfl ?_)
          refine qf_mkS 3 [.int .i64 (depV s (failK s k x))] rfl (by kernel_rfl) rfl (fun bn => ?_)
          skip
          refine qf_callv tabOk rfl rfl rfl rfl (fun w' hs => great_ca w' _ _ (depV s (passK s k x)) _ [depV s (failK s k x)] (Blk.rdI (c := 1) (hs.blk (b := bn) (cs := ints [depV s (failK s k x)]) (by repeat constructor))) (by simp)) ?_
          rw [show mxF (depV s (passK s k x)) [depV s (failK s k x)] = max (depV s (passK s k x)) (depV s (failK s k x)) from rfl]
          (refine qf_ar tabOk rfl rfl rfl rfl (by omega) (by omega) ?_)
          refine qf_mk #[.int .i64 x, .int .i64 (1 + max (depV s (passK s k x)) (depV s (failK s k x)))] rfl (by kernel_rfl) rfl ?_
          (refine qf_setA tabOk rfl rfl rfl rfl rfl (by repeat constructor) rfl ?_; refine qf_nil ?_)
          skip
          skip
          exact hK1 _ _ (qt_nil (hK2 ⟨(z1, b14), hgz⟩ _ _ ⟨rfl, rfl, trivial⟩ (by repeat constructor)))
      rintro ⟨⟨z1, b14⟩, hgz⟩
      dsimp only at hgz ⊢
      (refine q_seq (q_region ?_); refine ql_loadABa tabOk rfl rfl rfl ?_)
      refine ql_mk #[.int .i64 0, .int .i64 0] rfl (by kernel_rfl) rfl ?_
      skip
      refine ql_eqF [some .i64, some .i64] pk_flat rfl rfl rfl rfl rfl ?_
      (refine ql_pure tabOk rfl rfl ?_)
      have e0 : eqL (List.take 2 (List.drop 0 [Value.int .i64 out.1, Value.int .i64 out.2])) [Value.int .i64 0, Value.int .i64 0] = decide (out = (0, 0)) := by
        obtain ⟨u1, u2⟩ := out
        simp [eqL, Prod.ext_iff]
      rw [e0]
      have hps : pickS (depV s) s k out x = if out = (0, 0) ∨ 1 + max (depV s (passK s k x)) (depV s (failK s k x)) < out.2 then ((x : Int), 1 + max (depV s (passK s k x)) (depV s (failK s k x))) else out := rfl
      have hfl : ∀ z : Int × Int, pickS (depV s) s k out x = z → (pre ++ [x]).foldl (pickS (depV s) s k) (0, 0) = z := fun z hz => by
        rw [List.foldl_append, ← hout]
        exact hz
      cases hz : decide (out = (0, 0)) with
      | true =>
        have hz := of_decide_eq_true hz
        rw [if_pos (.inl hz)] at hps
        ((iterate 5 refine ql_gno rfl rfl rfl ?_); refine ql_pure tabOk rfl rfl (q_nil (q_cond_true rfl (q_region ?_))); refine ql_loadABa tabOk rfl rfl rfl ?_; refine ql_setA tabOk rfl rfl rfl rfl rfl (by repeat constructor) rfl ?_; refine q_nil (q_blk ?_))
        exact hend _ _ (z1, ((x : Int), 1 + max (depV s (passK s k x)) (depV s (failK s k x)))) ⟨(hfl _ hps).symm, hgz⟩ (by repeat constructor)
      | false =>
        have hz := of_decide_eq_false hz
        by_cases hl : 1 + max (depV s (passK s k x)) (depV s (failK s k x)) < out.2
        · rw [if_pos (.inr hl)] at hps
          (refine ql_gyes rfl (ql_pure tabOk rfl rfl (ql_gyes rfl ?_)); refine ql_loadBa tabOk rfl rfl rfl ?_; refine ql_gyes rfl (ql_pure tabOk rfl rfl (ql_gyes rfl ?_)); refine ql_loadBa tabOk rfl rfl rfl ?_; refine ql_gyes rfl (ql_lssT tabOk rfl rfl rfl (by omega) (ql_pure tabOk rfl rfl (q_nil (q_cond_true rfl (q_region ?_))))); refine ql_loadABa tabOk rfl rfl rfl ?_; refine ql_setA tabOk rfl rfl rfl rfl rfl (by repeat constructor) rfl ?_; refine q_nil (q_blk ?_))
          exact hend _ _ (z1, ((x : Int), 1 + max (depV s (passK s k x)) (depV s (failK s k x)))) ⟨(hfl _ hps).symm, hgz⟩ (by repeat constructor)
        · rw [if_neg (by rintro (h | h); exact hz h; exact hl h)] at hps
          (refine ql_gyes rfl (ql_pure tabOk rfl rfl (ql_gyes rfl ?_)); refine ql_loadBa tabOk rfl rfl rfl ?_; refine ql_gyes rfl (ql_pure tabOk rfl rfl (ql_gyes rfl ?_)); refine ql_loadBa tabOk rfl rfl rfl ?_; refine ql_gyes rfl (ql_lssF tabOk rfl rfl rfl (by omega) (ql_pure tabOk rfl rfl (q_nil (q_cond_false rfl (q_skip (q_blk ?_)))))))
          exact hend _ _ (z1, out) ⟨(hfl _ hps).symm, hgz⟩ (by repeat constructor)
    · rintro D ⟨z1, out⟩ ⟨hout, hgz⟩
      dsimp only [List.cons_append, List.nil_append] at hout hgz ⊢
      rw [← bstK_eq h8 hk] at hout
      subst hout
      (refine q_blk (q_seq (q_region ?_)); refine ql_loadG tabOk rfl rfl rfl (by assumption) (by rfl) ?_)
      refine ql_loadA (cs := knC k) tabOk rfl rfl rfl (knC_len hkb) (fun w hs q hq => by rw [(hs.blk (b := b4) (by repeat constructor)).cell, Nat.zero_add]) ?_
      (refine ql_loadABa tabOk rfl rfl rfl ?_)
      refine ql_mapUpd st_key st_map rfl rfl rfl (knV_key hkb) (by repeat constructor) ?_
      (refine q_nil (q_seq (q_region ?_)); refine ql_loadABa tabOk rfl rfl rfl ?_; refine ql_setA tabOk rfl rfl rfl rfl rfl (by repeat constructor) rfl ?_; refine q_nil (q_ret ?_))
      refine q_finMD tabOk (by repeat constructor) rfl (by repeat constructor) fun w hs => ?_
      exact ⟨_, ⟨rfl, goodB_upd hgz hk⟩, hs.sp (by repeat constructor)⟩
end Go.Proofs.YtopdmadgkjdgcaaGreat

/- Walks of rifle: the planner, the fewest further checks. -/
namespace Go.Proofs.YtopdmadgkjdgcaaGreat
set_option maxRecDepth 4000
open Go Go.Eng
/-- What the planner lays. -/
abbrev plnL (bd : Nat) (y : Nat × Nat × Nat × Nat) : List Ck := [mpB y.1 (fun _ => none), .pt y.2.1 [.map (some y.1)] 243, .pt y.2.2.1 [.pointer (some ⟨bd, 0, none⟩)] 177, .pt y.2.2.2 [bstF y.2.1 y.2.2.1 y.2.2.2] 205]
theorem rplanner_ca (w : World) (bd : Nat) : Ca Tryz.prog 128 [.pointer (some ⟨bd, 0, none⟩)] w fun x w' => ∃ y : Nat × Nat × Nat × Nat, x = bstF y.2.1 y.2.2.1 y.2.2.2 ∧ Sat w M0 (plnL bd y) w' := by
  refine q_of (Sat.nil w M0) Tryz.func128 rfl (by simp [Tryz.ntmps128]) ?_
  (refine q_seq (q_region ?_))
  refine ql_box rfl rfl (fun b2 => ?_)
  (refine ql_pure tabOk rfl rfl (q_nil (q_seq (q_region ?_))))
  refine ql_makeMap ksK eqV rfl (fun bm => ?_)
  skip
  refine ql_alloc zero243 rfl (fun b1 => ?_)
  (refine ql_set tabOk rfl rfl rfl rfl (by repeat constructor) ?_; refine q_nil (q_seq (q_region ?_)))
  refine ql_alloc zero205 rfl (fun b3 => ?_)
  (refine q_nil (q_seq (q_region (ql_pure tabOk rfl rfl ?_))); refine ql_set tabOk rfl rfl rfl rfl (by repeat constructor) ?_; refine q_nil (q_seq (q_region ?_)); refine ql_loadBa tabOk rfl rfl rfl ?_; refine ql_pure tabOk rfl rfl (q_nil (q_ret ?_)))
  refine q_fin tabOk rfl (by repeat constructor) fun w hs => ?_
  exact ⟨(bm, b1, b2, b3), rfl, hs.sp (by repeat constructor)⟩
theorem dsk_take (s : Sc) (tv rv : Value) : List.take 18 (List.drop (0 + 4) (Value.int .i64 s.err :: .int .i64 s.least :: tv :: rv :: knC (firstK s))) = knC (firstK s) := rfl
def tF14_393f534 : OT := chainT [0, 1, 2, 3, 4, 5, 6, 7, 8, 9] (.nil)
theorem rfewest_ok (w : World) (lo hi : Nat) (s : Sc) (tv rv : Value) (h : ScR w lo hi tv rv s) (hs0 : SOk s) : Ca Tryz.prog 52 [.agg (scC s tv rv).toArray] w fun x w' => x = .tuple #[.int .i64 (depV s (firstK s)), .int .i64 0] ∧ Chg [] w w' := by
  have hfit := firstK_fit hs0.le
  refine q_of (Sat.nil w M0) Tryz.func52 rfl (by simp [Tryz.ntmps52]) ?_
  (refine q_seq (q_region ?_))
  refine ql_box rfl rfl (fun b1 => ?_)
  rw [agg_cells]
  (refine ql_pure tabOk rfl rfl (ql_pure tabOk rfl rfl (q_nil (q_seq (q_region ?_)))); refine ql_loadABa tabOk rfl rfl rfl ?_)
  refine ql_call (β := Nat) tabOk [] _ M0 rfl rfl rfl rfl (Sp.refl _) (fun _ h => h.elim) (fun w' hs => rask_ok w' lo hi s tv _ (h.keep hs.chg0) hs0.ok hs0.le) ?_
  rintro bd _ rfl
  dsimp only [List.cons_append, List.nil_append]
  (refine ql_pure tabOk rfl rfl (ql_ext tabOk rfl rfl rfl (ql_ext tabOk rfl rfl rfl (ql_pure tabOk rfl rfl (ql_pure tabOk rfl rfl (q_nil (q_seq (q_seq (q_region (ql_pure tabOk rfl rfl (ql_neqF tabOk rfl rfl rfl (by omega) (q_nil ?_))))))))))); refine q_cond_false rfl (q_skip (q_seq ?_)))
  refine q_cut (σ := Unit) (fun _ => [(2, .int .i64 (depV s (firstK s))), (3, .int .i64 0)]) (fun _ => []) ?_ ?_
  rotate_left
  · intro K2 hK2
    refine q_drawT (tF14_393f534) _ [] (Sp.refl _) (by kernel_rfl) (by kernel_rfl) ?_
    refine qt_seg (by repeat (first | exact PickL.nil | (apply PickL.cons; rfl))) fun K1 hK1 => ?_
    (refine qf_pure tabOk rfl rfl rfl ?_)
    refine qf_call (β := Nat × Nat × Nat × Nat) (ψ := fun y v => v = bstF y.2.1 y.2.2.1 y.2.2.2) (L' := fun y => plnL bd y) tabOk [] _ M0 rfl rfl rfl rfl (Sp.refl _) (fun _ h => h.elim) (fun w' hs => rplanner_ca w' bd) ?_
    rintro ⟨bm, p1, p2, p3⟩ _ rfl
    dsimp only [plnL, List.cons_append, List.nil_append]
    ((iterate 3 refine qf_pure tabOk rfl rfl rfl ?_); refine qf_loadABa tabOk rfl rfl rfl ?_)
    rw [dsk_take s tv rv]
    refine qf_callF (β := Value → Option Value) (ψ := fun g v => v = pkV (bstK s (firstK s)) ∧ GoodB s g) (L' := fun g => [mpB bm g]) [mpB bm (fun _ => none)] _ (· = bm) rfl rfl rfl (Sp.cons (by repeat constructor) (Sp.refl _)) (fun x hx => ⟨_, .head _, hx⟩) (fun w' hs => CaF.of tabOk rfl (best_ca lo hi bm p1 p2 p3 bd s tv _ (firstK s) hs0.ok _ _ w' _ rfl hfit (h.keep hs.chg0) ⟨⟨_, hs.blk (b := p1) (by repeat constructor)⟩, ⟨_, hs.blk (b := p2) (by repeat constructor)⟩, ⟨_, hs.blk (b := p3) (by repeat constructor)⟩, hs.blk (b := bd) (by repeat constructor)⟩ (hs.mem (c := mpB bm (fun _ => none)) (by repeat constructor)) (goodB_nil s))) ?_
    rintro g v ⟨rfl, hg⟩
    skip
    refine qf_fld tabOk 1 3 (by kernel_rfl) rfl rfl rfl rfl ?_
    (refine qf_pure tabOk rfl rfl rfl (qf_pure tabOk rfl rfl rfl (qf_nil ?_)))
    exact hK1 _ _ (qt_nil (hK2 () _ _ ⟨rfl, rfl, trivial⟩ (by repeat constructor)))
  rintro _
  (refine q_ret ?_)
  refine q_fin tabOk rfl (by repeat constructor) fun w hs => ?_
  exact ⟨rfl, hs.chg0⟩
end Go.Proofs.YtopdmadgkjdgcaaGreat

/- Walks of rifle: the depth of a plan. -/
/- long -/
namespace Go.Proofs.YtopdmadgkjdgcaaGreat
set_option maxRecDepth 4000
open Go Go.Eng
/-- May a node follow the node i? -/
def nxB (i : Nat) (plan : List Nd) (k : Int) : Bool := decide (k = -1) || inB k ((i : Int) + 1) ((plan.length : Int) - 1)
theorem rnext_ca (w : World) (lo hi b1 b2 i : Nat) (plan : List Nd) (vp : Value) (k : Int) (t1 t2 : TypeId) (h1 : Blk w b1 [.int .i64 i] t1) (h2 : Blk w b2 [vp] t2) (hp : RdN w lo hi vp plan) (hl : plan.length ≤ 300) (hi3 : i ≤ 300) :
    Ca Tryz.prog 133 [.int .i64 k, .pointer (some ⟨b1, 0, none⟩), .pointer (some ⟨b2, 0, none⟩)] w fun x w' => x = .bool (nxB i plan k) ∧ Chg [] w w' := by
  obtain ⟨p, cap, rfl, hs0⟩ := hp.outI
  refine q_of (Sat.nil w M0) Tryz.func133 rfl (by simp [Tryz.ntmps133]) ?_
  by_cases hk : k = -1
  · (refine q_seq (q_region (ql_pure tabOk rfl rfl (q_nil (q_seq (q_region (ql_pure tabOk rfl rfl (ql_eqlT tabOk rfl rfl rfl (by omega) (ql_pure tabOk rfl rfl ?_)))))))); (iterate 7 refine ql_gno rfl rfl rfl ?_); refine ql_pure tabOk rfl rfl (ql_pure tabOk rfl rfl (q_nil (q_ret ?_))))
    refine q_fin tabOk rfl (by repeat (first | exact RVs.nil | apply RVs.tmp rfl | apply RVs.cellA rfl rfl (by repeat first | exact .head _ | refine .tail _ ?_) (by rfl) | apply RVs.cell1 rfl rfl (by repeat first | exact .head _ | refine .tail _ ?_))) fun w hs => ?_
    exact ⟨by simp [nxB, hk, retV], hs.chg0⟩
  · (refine q_seq (q_region (ql_pure tabOk rfl rfl (q_nil (q_seq (q_region (ql_pure tabOk rfl rfl (ql_eqlF tabOk rfl rfl rfl (by omega) (ql_pure tabOk rfl rfl (ql_gyes rfl (ql_pure tabOk rfl rfl (ql_gyes rfl ?_))))))))))); refine ql_loadP tabOk rfl rfl rfl (by assumption) (by rfl) ?_; refine ql_gyes rfl (ql_ar tabOk rfl rfl rfl rfl (by omega) (by omega) (ql_gyes rfl ?_)); refine ql_loadP tabOk rfl rfl rfl (by assumption) (by rfl) ?_; refine ql_gyes rfl (ql_pure tabOk rfl rfl (ql_gyes rfl (ql_ar tabOk rfl rfl rfl rfl (by omega) (by omega) (ql_gyes rfl ?_)))))
    refine ql_callv (val := .bool (inB k ((i : Int) + 1) ((plan.length : Int) - 1))) tabOk rfl rfl rfl rfl (fun w hs => ?_) ?_; exact rfin_ca _ _ _ w
    (refine ql_pure tabOk rfl rfl (ql_pure tabOk rfl rfl (q_nil (q_ret ?_))))
    refine q_fin tabOk rfl (by repeat (first | exact RVs.nil | apply RVs.tmp rfl | apply RVs.cellA rfl rfl (by repeat first | exact .head _ | refine .tail _ ?_) (by rfl) | apply RVs.cell1 rfl rfl (by repeat first | exact .head _ | refine .tail _ ?_))) fun w hs => ?_
    exact ⟨by simp [nxB, hk, retV], hs.chg0⟩
/-- Is a node of a plan in order? -/
def ndB (s : Sc) (plan : List Nd) (i : Nat) : Bool := inB (ndV plan i).r 0 ((s.rifles.length : Int) - 1) && (nxB i plan (ndV plan i).p && nxB i plan (ndV plan i).f)
theorem rp_iff {s : Sc} {plan : List Nd} : RpOk s plan ↔ ∀ i, i < plan.length → ndB s plan i = true := by
  unfold RpOk
  refine forall_congr' fun i => forall_congr' fun hi => ?_
  unfold ndB nxB
  simp only [Bool.and_eq_true, Bool.or_eq_true, decide_eq_true_iff, inB_iff]
  constructor
  · rintro ⟨h1, h2, h3⟩
    refine ⟨by omega, ?_, ?_⟩ <;> omega
  · rintro ⟨h1, h2, h3⟩
    refine ⟨by omega, ?_, ?_⟩ <;> omega
abbrev folV (b1 b2 b3 : Nat) : Value := .func (.func 134) #[] #[.pointer (some ⟨b1, 0, none⟩), .pointer (some ⟨b2, 0, none⟩), .pointer (some ⟨b3, 0, none⟩)]
/-- The variables of a walk along a plan. -/
structure FoE (w : World) (b1 b2 b3 bd : Nat) (s : Sc) (tv rv : Value) (k0 : Kn) (vp : Value) : Prop where
  h1 : ∃ t, Blk w b1 [.pointer (some ⟨bd, 0, none⟩)] t
  h2 : ∃ t, Blk w b2 [vp] t
  h3 : ∃ t, Blk w b3 [folV b1 b2 b3] t
  hd : Blk w bd (dskC s tv rv k0) 184
theorem FoE.keep {w w' : World} {b1 b2 b3 bd : Nat} {s : Sc} {tv rv : Value} {k0 : Kn} {vp : Value} (h : FoE w b1 b2 b3 bd s tv rv k0 vp) (c : Chg [] w w') : FoE w' b1 b2 b3 bd s tv rv k0 vp :=
  ⟨h.h1.imp fun _ h => h.keep c, h.h2.imp fun _ h => h.keep c, h.h3.imp fun _ h => h.keep c, h.hd.keep c⟩
theorem fol_neg (s : Sc) (plan : List Nd) (k : Kn) : ∀ g, folF s plan g (-1) k = if openL s k = [] then 0 else -1
  | 0 => rfl
  | g + 1 => by
    simp only [folF]
    rw [if_pos (by omega)]
set_option maxHeartbeats 4000000 in
theorem follow_end (lo hi b1 b2 b3 bd : Nat) (s : Sc) (tv rv : Value) (k0 : Kn) (vp : Value) (hs0 : s.Ok) (k : Kn) (w : World) (hk : k.Fit) (h : ScR w lo hi tv rv s) (hE : FoE w b1 b2 b3 bd s tv rv k0 vp) :
    Ca Tryz.prog 134 [.int .i64 (-1), knV k, .pointer (some ⟨b1, 0, none⟩), .pointer (some ⟨b2, 0, none⟩), .pointer (some ⟨b3, 0, none⟩)] w fun v w' => v = .int .i64 (if openL s k = [] then 0 else -1) ∧ Chg [] w w' := by
  have h8 := hs0.rn8
  have hkb := hk.bd
  obtain ⟨⟨t1, hb1⟩, ⟨t2, hb2⟩, ⟨t3, hb3⟩, hbd⟩ := id hE
  refine q_ofM (Sat.nil w M0) Tryz.func134 rfl (by simp [Tryz.ntmps134]) ?_
  (refine q_seq (q_region ?_))
  refine ql_box rfl rfl (fun b6 => ?_)
  rw [agg_cells]
  skip
  refine ql_alloc zero3 rfl (fun b7 => ?_)
  (refine q_nil (q_seq (q_seq (q_region (ql_pure tabOk rfl rfl (ql_eqlT tabOk rfl rfl rfl (by omega) (q_nil (q_cond_true rfl (q_seq (q_seq (q_region ?_)))))))))); refine ql_loadP tabOk rfl rfl rfl (by assumption) (by rfl) ?_)
  refine ql_loadA (cs := knC k) tabOk rfl rfl rfl (knC_len hkb) (fun w hs q hq => by rw [(hs.blk (b := b6) (by repeat first | exact .head _ | refine .tail _ ?_)).cell, Nat.zero_add]) ?_
  refine ql_call (β := Nat × Nat) (ψ := fun y v => v = openF y.1 y.2) (L' := fun y => [.pt y.1 [.pointer (some ⟨bd, 0, none⟩)] 177, .pt y.2 (knC k) 182]) tabOk [] _ M0 rfl rfl rfl rfl (Sp.refl _) (fun _ h => h.elim) (fun w' hs => open_ca w' bd k) ?_
  rintro ⟨o1, o2⟩ _ rfl
  dsimp only [List.cons_append, List.nil_append]
  (refine q_nil (q_block ?_))
  refine q_range natE Int (openL s k) (fun pre z => pre = [] ∧ z = 0) (fun c z => c = .ret ∧ z = -1 ∧ openL s k ≠ []) (fun z => [.pt b7 [.int .i64 z] 3]) [.pt o1 [.pointer (some ⟨bd, 0, none⟩)] 177, .pt o2 (knC k) 182] 0
    rfl (by kernel_rfl) rfl (fun _ _ => rfl) ⟨rfl, rfl⟩ (by repeat (first | exact Sp.nil | exact Sp.refl _ | refine Sp.cons (by repeat constructor) ?_)) ?_ ?_ ?_ ?_
  · intro w1 D hs hD
    have old : ∀ b cs t, Blk w b cs t → Blk w1 b cs t ∧ ¬ D b := fun b cs t hb => ⟨hb.keep hs.chg0, fun h => by
      have := (hD b h).2.resolve_left (fun h => h)
      have := hb.lt
      omega⟩
    exact open_it w1 D lo hi o1 o2 bd s tv rv k0 k (fun w' hc => h.keep (hs.chg0.old hc (fun k hk => (hD k hk).2.resolve_left (fun h => h)))) hs0 hkb (hs.blk (b := o1) (by repeat first | exact .head _ | refine .tail _ ?_)) (hs.blk (b := o2) (by repeat first | exact .head _ | refine .tail _ ?_)) (old _ _ _ hbd).1 ⟨fun e => (hD _ e).1 ⟨.pt o1 _ _, (by repeat first | exact .head _ | refine .tail _ ?_), rfl⟩, fun e => (hD _ e).1 ⟨.pt o2 _ _, (by repeat first | exact .head _ | refine .tail _ ?_), rfl⟩, (old _ _ _ hbd).2⟩
  · intro pre x post z w1 lb rdy bsy K F' hx hI hsat hR hbegin hend hret hexit
    obtain ⟨rfl, rfl⟩ := hI
    dsimp only [natE, List.zip_cons_cons, List.zip_nil_left, List.zip_nil_right, List.foldl_cons, List.foldl_nil]
    (refine q_skip ?_)
    refine hbegin _ _ ?_
    (refine q_block (q_seq (q_region ?_)); refine ql_set tabOk rfl rfl rfl rfl (by repeat constructor) ?_; refine q_nil (q_ret ?_))
    refine hret _ _ (-1) ⟨rfl, rfl, by rw [hx]; simp⟩ (by repeat (first | exact Sp.nil | exact Sp.refl _ | refine Sp.cons (by repeat constructor) ?_))
  · rintro D z ⟨h1, rfl⟩
    rw [if_pos h1]
    dsimp only [List.cons_append, List.nil_append]
    (refine q_blk (q_seq (q_region ?_)); refine ql_set tabOk rfl rfl rfl rfl (by repeat constructor) ?_; refine q_nil (q_ret ?_))
    refine q_finMD tabOk (by repeat constructor) rfl (by repeat (first | exact RVs.nil | apply RVs.tmp rfl | apply RVs.cellA rfl rfl (by repeat first | exact .head _ | refine .tail _ ?_) (by rfl) | apply RVs.cell1 rfl rfl (by repeat first | exact .head _ | refine .tail _ ?_))) fun w hs => ?_
    exact ⟨rfl, hs.chg0⟩
  · rintro D z c ⟨rfl, rfl, h1⟩
    rw [if_neg h1]
    dsimp only [List.cons_append, List.nil_append]
    (refine q_ret ?_)
    refine q_finMD tabOk (by repeat constructor) rfl (by repeat (first | exact RVs.nil | apply RVs.tmp rfl | apply RVs.cellA rfl rfl (by repeat first | exact .head _ | refine .tail _ ?_) (by rfl) | apply RVs.cell1 rfl rfl (by repeat first | exact .head _ | refine .tail _ ?_))) fun w hs => ?_
    exact ⟨rfl, hs.chg0⟩
theorem fol_bd (s : Sc) (plan : List Nd) : ∀ (g : Nat) (n : Int) (k : Kn), -1 ≤ folF s plan g n k ∧ folF s plan g n k ≤ g
  | 0, n, k => by
    simp only [folF]
    split <;> omega
  | g + 1, n, k => by
    simp only [folF]
    have h1 := fol_bd s plan g (ndV plan n).p (afterV s k (ndV plan n).r.toNat true).1
    have h2 := fol_bd s plan g (ndV plan n).f (afterV s k (ndV plan n).r.toNat false).1
    split
    · split <;> omega
    split
    · omega
    split
    · omega
    split <;> split <;> omega
/-- The round of a check that passes, and of one that fails. -/
def pbJ (j : Nat) : Bool := decide (j = 0)
def nxJ (x : Nd) (j : Nat) : Int := if j = 0 then x.p else x.f
def cJ (s : Sc) (k : Kn) (i j : Nat) : Kn × Bool := afterV s k i (pbJ j)
def fJ (s : Sc) (plan : List Nd) (g : Nat) (x : Nd) (k : Kn) (i j : Nat) : Int := folF s plan g (nxJ x j) (cJ s k i j).1
def outJ (s : Sc) (plan : List Nd) (g : Nat) (x : Nd) (k : Kn) (i : Nat) : Nat → Int
  | 0 => 0
  | j + 1 => if (cJ s k i j).2 = true then max (outJ s plan g x k i j) (1 + fJ s plan g x k i j) else outJ s plan g x k i j
theorem out_bd (s : Sc) (plan : List Nd) (g : Nat) (x : Nd) (k : Kn) (i : Nat) : ∀ j, 0 ≤ outJ s plan g x k i j ∧ outJ s plan g x k i j ≤ g + 1
  | 0 => by simp [outJ]; omega
  | j + 1 => by
    have h1 := out_bd s plan g x k i j
    have h2 := fol_bd s plan g (nxJ x j) (cJ s k i j).1
    simp only [outJ, fJ]
    split <;> omega
theorem fol_stop {s : Sc} {plan : List Nd} {g m i : Nat} {k : Kn} (hi : (ndV plan m).r = i) {j : Nat} (hj : j < 2) (h1 : (cJ s k i j).2 = true) (h2 : fJ s plan g (ndV plan m) k i j < 0) : folF s plan (g + 1) m k = -1 := by
  simp only [folF]
  rw [if_neg (by omega), hi, Int.toNat_natCast]
  obtain rfl | rfl : j = 0 ∨ j = 1 := by omega
  · rw [if_pos ⟨h1, h2⟩]
  · split
    · rfl
    · rw [if_pos ⟨h1, h2⟩]
theorem fol_out {s : Sc} {plan : List Nd} {g m i : Nat} {k : Kn} (hi : (ndV plan m).r = i) (h : ∀ j, j < 2 → ¬ ((cJ s k i j).2 = true ∧ fJ s plan g (ndV plan m) k i j < 0)) : folF s plan (g + 1) m k = outJ s plan g (ndV plan m) k i 2 := by
  have h0 : ¬ ((afterV s k i true).2 = true ∧ folF s plan g (ndV plan m).p (afterV s k i true).1 < 0) := h 0 (by omega)
  have h1 : ¬ ((afterV s k i false).2 = true ∧ folF s plan g (ndV plan m).f (afterV s k i false).1 < 0) := h 1 (by omega)
  simp only [folF]
  rw [if_neg (by omega), hi, Int.toNat_natCast, if_neg h0, if_neg h1]
  show _ = if (afterV s k i false).2 = true then max (if (afterV s k i true).2 = true then max 0 (1 + folF s plan g (ndV plan m).p (afterV s k i true).1) else 0) (1 + folF s plan g (ndV plan m).f (afterV s k i false).1) else (if (afterV s k i true).2 = true then max 0 (1 + folF s plan g (ndV plan m).p (afterV s k i true).1) else 0)
  by_cases e1 : (afterV s k i true).2 = true <;> by_cases e2 : (afterV s k i false).2 = true
  · rw [if_pos e1, if_pos e2, if_pos e1, if_pos e2]
    have : ¬ _ < _ := fun e => h0 ⟨e1, e⟩
    omega
  · rw [if_pos e1, if_neg e2, if_pos e1, if_neg e2]
    have : ¬ _ < _ := fun e => h0 ⟨e1, e⟩
    omega
  · rw [if_neg e1, if_pos e2, if_neg e1, if_pos e2]
  · rw [if_neg e1, if_neg e2, if_neg e1, if_neg e2]
    omega
theorem ndV_get {plan : List Nd} {m : Nat} (hm : m < plan.length) : ndV plan m = plan[m] := by
  unfold ndV
  rw [Int.toNat_natCast, List.getD_eq_getElem?_getD, List.getElem?_eq_getElem hm]
  rfl
theorem after_len {s : Sc} {k : Kn} {i : Nat} {b : Bool} (hk : k.Fit) : (afterV s k i b).1.p.length = 8 ∧ (afterV s k i b).1.f.length = 8 := by
  have h1 := hk.p8
  have h2 := hk.f8
  unfold afterV
  split
  · exact ⟨h1, h2⟩
  split
  · exact ⟨by unfold passK; simp only; rw [List.length_set]; exact h1, h2⟩
  · exact ⟨h1, by unfold failK; simp only; rw [List.length_set]; exact h2⟩
def tF15_e6b7b30 : OT := .alt (chainT [0, 1, 2, 3, 4, 5, 6, 7, 8, 9, 10, 11, 12, 13, 14] (.nil)) (chainT [12, 0, 1, 2, 3, 4, 5, 6, 7, 8, 9, 10, 11, 13, 14] (.nil))
set_option maxHeartbeats 4000000 in
theorem follow_ca (lo hi b1 b2 b3 bd : Nat) (s : Sc) (tv rv : Value) (k0 : Kn) (plan : List Nd) (vp : Value) (hs0 : s.Ok) (hp : RpOk s plan) (hpl : plan.length ≤ 300) : ∀ (g : Nat), g ≤ 1000 → ∀ (n : Int) (k : Kn) (w : World), (n = -1 ∨ 0 ≤ n ∧ n < plan.length ∧ plan.length ≤ g + n.toNat) → k.Fit → ScR w lo hi tv rv s → RdN w lo hi vp plan → FoE w b1 b2 b3 bd s tv rv k0 vp →
    Ca Tryz.prog 134 [.int .i64 n, knV k, .pointer (some ⟨b1, 0, none⟩), .pointer (some ⟨b2, 0, none⟩), .pointer (some ⟨b3, 0, none⟩)] w fun v w' => v = .int .i64 (folF s plan g n k) ∧ Chg [] w w' := by
  have h8 := hs0.rn8
  intro g
  induction g with
  | zero =>
    intro hg n k w hn hk h hr hE
    obtain rfl : n = -1 := by omega
    rw [fol_neg]
    exact follow_end lo hi b1 b2 b3 bd s tv rv k0 vp hs0 k w hk h hE
  | succ g ih =>
  intro hg n k w hn hk h hr hE
  by_cases hn1 : n = -1
  · subst hn1
    rw [fol_neg]
    exact follow_end lo hi b1 b2 b3 bd s tv rv k0 vp hs0 k w hk h hE
  have hkb := hk.bd
  obtain ⟨⟨t1, hb1⟩, ⟨t2, hb2⟩, ⟨t3, hb3⟩, hbd⟩ := id hE
  obtain ⟨n0, n1, n2⟩ := hn.resolve_left hn1
  obtain ⟨m, rfl⟩ := Int.eq_ofNat_of_zero_le n0
  have hm : m < plan.length := by omega
  obtain ⟨⟨r0, r1⟩, p0, f0⟩ := hp m hm
  obtain ⟨i, hri⟩ := Int.eq_ofNat_of_zero_le r0
  have hil : i < s.rifles.length := by omega
  have hnd := ndV_get hm
  obtain ⟨pa, pcap, rfl, hps⟩ := hr.outI
  obtain ⟨pb', po, rfl⟩ := hps (by omega)
  refine q_ofM (Sat.nil w M0) Tryz.func134 rfl (by simp [Tryz.ntmps134]) ?_
  (refine q_seq (q_region ?_))
  refine ql_box rfl rfl (fun b6 => ?_)
  rw [agg_cells]
  skip
  refine ql_alloc zero3 rfl (fun b7 => ?_)
  (refine q_nil (q_seq (q_seq (q_region (ql_pure tabOk rfl rfl (ql_eqlF tabOk rfl rfl rfl (by omega) (q_nil (q_cond_false rfl (q_skip (q_seq (q_region (ql_pure tabOk rfl rfl ?_))))))))))); refine q_nil (q_seq (q_seq (q_region ?_))))
  refine ql_mkS 4 [.bool true, .bool false] rfl (by kernel_rfl) rfl (fun bn => ?_)
  (refine ql_pure tabOk rfl rfl (ql_pure tabOk rfl rfl (q_nil (q_block ?_))))
  refine q_loop (σ := Nat) (fun j => j ≤ 2 ∧ ∀ i', i' < j → ¬ ((cJ s k i i').2 = true ∧ fJ s plan g (ndV plan m) k i i' < 0)) (fun j => 2 - j) (fun j => [(0, .int .i64 m), (2, .pointer (some ⟨b1, 0, none⟩)), (3, .pointer (some ⟨b2, 0, none⟩)), (4, .pointer (some ⟨b3, 0, none⟩)), (6, .pointer (some ⟨b6, 0, none⟩)), (7, .pointer (some ⟨b7, 0, none⟩)), (8, .int .i64 (outJ s plan g (ndV plan m) k i j)), (21, .slice (some ⟨bn, 0, none⟩) 2 2), (22, .int .i64 2), (23, .int .i64 j)]) (fun _ => [.pt b7 [.int .i64 0] 3, .pt b6 (knC k) 182, .pt bn [.bool true, .bool false] 4]) 0 ⟨by omega, fun _ h => by omega⟩ ⟨rfl, rfl, rfl, rfl, rfl, rfl, rfl, rfl, rfl, rfl, trivial⟩ (by repeat (first | exact Sp.nil | exact Sp.refl _ | refine Sp.cons (by repeat constructor) ?_)) ?_
  rintro j ⟨hj, hno⟩ K hK
  have hob := out_bd s plan g (ndV plan m) k i j
  (refine q_seq (q_region (ql_pure tabOk rfl rfl (q_nil (q_seq ?_)))))
  refine q_if rfl (fun hc => ?_) (fun hc => ?_)
  · have hj2 : j < 2 := by omega
    clear hc
    have hFb := fol_bd s plan g (nxJ (ndV plan m) j) (cJ s k i j).1
    obtain ⟨pb, nx, hpv, hpj, hnx, hpt, hpf, hnxr⟩ : ∃ (pb : Bool) (nx : Int), [Value.bool true, Value.bool false][j]? = some (.bool pb) ∧ pbJ j = pb ∧ nxJ (ndV plan m) j = nx ∧ (pb = true → nx = plan[m].p) ∧ (pb = false → nx = plan[m].f) ∧ (nx = -1 ∨ 0 ≤ nx ∧ nx < plan.length ∧ plan.length ≤ g + nx.toNat) := by
      obtain rfl | rfl : j = 0 ∨ j = 1 := by omega
      · exact ⟨true, _, rfl, rfl, rfl, fun _ => by simp [nxJ, hnd], fun h => by simp at h, by simp only [nxJ, if_pos]; omega⟩
      · exact ⟨false, _, rfl, rfl, rfl, fun h => by simp at h, fun _ => by simp [nxJ, hnd], by simp only [nxJ]; rw [if_neg (by omega)]; omega⟩
    (refine q_skip (q_seq (q_block (q_seq (q_region ?_)))))
    refine ql_index tabOk rfl rfl rfl rfl rfl (by omega) (by omega) ?_
    skip
    refine ql_load1 (v := .bool pb) tabOk rfl rfl rfl (fun w hs => by rw [(hs.blk (b := bn) (by repeat first | exact .head _ | refine .tail _ ?_)).cell]; simpa using hpv) ?_
    have hclen : (knC (cJ s k i j).1).length = 18 := by
      obtain ⟨h1, h2⟩ := after_len (s := s) (i := i) (b := pbJ j) hk
      simp [knC, bools, cJ, h1, h2]
    have hcv : cJ s k i j = afterV s k i pb := by rw [← hpj]; rfl
    (refine ql_pure tabOk rfl rfl (q_nil (q_seq (q_region ?_))); refine ql_loadP tabOk rfl rfl rfl (by assumption) (by rfl) ?_; refine ql_pure tabOk rfl rfl ?_)
    refine ql_index tabOk rfl rfl rfl rfl rfl (by omega) (by omega) ?_
    (refine ql_pure tabOk rfl rfl ?_)
    refine ql_load1 (v := .int .i64 plan[m].f) tabOk rfl rfl rfl (fun w hs => by simpa using RdN.at2 (RdE.keep hr hs.chg0) m hm) ?_
    cases pb with
    | true =>
      (refine ql_pure tabOk rfl rfl (q_nil (q_seq (q_seq (q_region (ql_pure tabOk rfl rfl (q_nil (q_cond_true rfl (q_region ?_)))))))); refine ql_loadP tabOk rfl rfl rfl (by assumption) (by rfl) ?_; refine ql_pure tabOk rfl rfl ?_)
      refine ql_index tabOk rfl rfl rfl rfl rfl (by omega) (by omega) ?_
      (refine ql_pure tabOk rfl rfl ?_)
      refine ql_load1 (v := .int .i64 plan[m].p) tabOk rfl rfl rfl (fun w hs => by simpa using RdN.at1 (RdE.keep hr hs.chg0) m hm) ?_
      rw [← hpt rfl]
      (refine ql_pure tabOk rfl rfl (q_nil (q_seq ?_)))
      refine q_cut (σ := Nat) (fun b12 => [(0, .int .i64 m), (2, .pointer (some ⟨b1, 0, none⟩)), (3, .pointer (some ⟨b2, 0, none⟩)), (4, .pointer (some ⟨b3, 0, none⟩)), (6, .pointer (some ⟨b6, 0, none⟩)), (7, .pointer (some ⟨b7, 0, none⟩)), (8, .int .i64 (outJ s plan g (ndV plan m) k i j)), (11, .int .i64 nx), (12, .pointer (some ⟨b12, 0, none⟩)), (13, .bool (cJ s k i j).2), (21, .slice (some ⟨bn, 0, none⟩) 2 2), (22, .int .i64 2), (23, .int .i64 j)]) (fun b12 => [.pt b7 [.int .i64 0] 3, .pt b6 (knC k) 182, .pt bn [.bool true, .bool false] 4, .pt b12 (knC (cJ s k i j).1) 182]) ?_ ?_
      rotate_left
      · intro K2 hK2
        refine q_drawT (tF15_e6b7b30) _ [] (Sp.refl _) (by kernel_rfl) (by kernel_rfl) ?_
        refine qt_alt ?_ ?_
        · skip
          refine qt_seg (by repeat (first | exact PickL.nil | (apply PickL.cons; rfl))) fun K1 hK1 => ?_
          (refine qf_loadP tabOk rfl rfl rfl (by assumption) (by rfl) ?_)
          refine qf_loadA (cs := knC k) tabOk rfl rfl rfl (knC_len hkb) (fun w hs q hq => by rw [(hs.blk (b := b6) (by repeat first | exact .head _ | refine .tail _ ?_)).cell, Nat.zero_add]) ?_
          (refine qf_loadP tabOk rfl rfl rfl (by assumption) (by rfl) ?_; refine qf_pure tabOk rfl rfl rfl ?_)
          refine qf_index tabOk rfl rfl rfl rfl rfl (by omega) (by omega) ?_
          (refine qf_pure tabOk rfl rfl rfl ?_)
          refine qf_load1 (v := .int .i64 i) tabOk rfl rfl rfl (fun w hs => by have := RdN.at0 (RdE.keep hr hs.chg0) m hm; rw [← hnd, hri] at this; simpa using this) ?_
          (refine qf_pure tabOk rfl rfl rfl ?_)
          refine qf_callv (val := .tuple #[knV (cJ s k i j).1, .bool (cJ s k i j).2]) tabOk rfl rfl rfl rfl (fun w' hs => by rw [hcv]; exact after_ca w' lo hi bd s tv rv k0 k (h.keep hs.chg0) (hbd.keep hs.chg0) hs0 hkb i hil _) ?_
          (refine qf_pure tabOk rfl rfl rfl (qf_ext tabOk rfl rfl rfl (qf_ext tabOk rfl rfl rfl ?_)))
          refine qf_alloc zero182 rfl (fun b12 => ?_)
          skip
          refine qf_setA (us := knC (cJ s k i j).1) tabOk rfl rfl rfl hclen (knC_one _) (by repeat constructor) rfl ?_
          (refine qf_pure tabOk rfl rfl rfl (qf_nil ?_))
          exact hK1 _ _ (qt_nil (hK2 b12 _ _ ⟨rfl, rfl, rfl, rfl, rfl, rfl, rfl, rfl, rfl, rfl, rfl, rfl, rfl, trivial⟩ (by repeat (first | exact Sp.nil | exact Sp.refl _ | refine Sp.cons (by repeat constructor) ?_))))
        · skip
          refine qt_seg (by repeat (first | exact PickL.nil | (apply PickL.cons; rfl))) fun K1 hK1 => ?_
          skip
          refine qf_alloc zero182 rfl (fun b12 => ?_)
          (refine qf_loadP tabOk rfl rfl rfl (by assumption) (by rfl) ?_)
          refine qf_loadA (cs := knC k) tabOk rfl rfl rfl (knC_len hkb) (fun w hs q hq => by rw [(hs.blk (b := b6) (by repeat first | exact .head _ | refine .tail _ ?_)).cell, Nat.zero_add]) ?_
          (refine qf_loadP tabOk rfl rfl rfl (by assumption) (by rfl) ?_; refine qf_pure tabOk rfl rfl rfl ?_)
          refine qf_index tabOk rfl rfl rfl rfl rfl (by omega) (by omega) ?_
          (refine qf_pure tabOk rfl rfl rfl ?_)
          refine qf_load1 (v := .int .i64 i) tabOk rfl rfl rfl (fun w hs => by have := RdN.at0 (RdE.keep hr hs.chg0) m hm; rw [← hnd, hri] at this; simpa using this) ?_
          (refine qf_pure tabOk rfl rfl rfl ?_)
          refine qf_callv (val := .tuple #[knV (cJ s k i j).1, .bool (cJ s k i j).2]) tabOk rfl rfl rfl rfl (fun w' hs => by rw [hcv]; exact after_ca w' lo hi bd s tv rv k0 k (h.keep hs.chg0) (hbd.keep hs.chg0) hs0 hkb i hil _) ?_
          (refine qf_pure tabOk rfl rfl rfl (qf_ext tabOk rfl rfl rfl (qf_ext tabOk rfl rfl rfl ?_)))
          refine qf_setA (us := knC (cJ s k i j).1) tabOk rfl rfl rfl hclen (knC_one _) (by repeat constructor) rfl ?_
          (refine qf_pure tabOk rfl rfl rfl (qf_nil ?_))
          exact hK1 _ _ (qt_nil (hK2 b12 _ _ ⟨rfl, rfl, rfl, rfl, rfl, rfl, rfl, rfl, rfl, rfl, rfl, rfl, rfl, trivial⟩ (by repeat (first | exact Sp.nil | exact Sp.refl _ | refine Sp.cons (by repeat constructor) ?_))))
      intro b12
      cases hc2 : (cJ s k i j).2 with
      | false =>
        (refine q_seq (q_seq (q_region (ql_pure tabOk rfl rfl (ql_pure tabOk rfl rfl (q_nil (q_cond_true rfl (q_exit _ rfl (q_region (ql_ar tabOk rfl rfl rfl rfl (by omega) (by omega) (ql_pure tabOk rfl rfl (q_nil ?_))))))))))))
        exact hK (j + 1) _ _ ⟨by omega, fun i' h' => by
          by_cases he : i' = j
          · rw [he, hc2]; simp
          · exact hno i' (by omega)⟩ (by omega) ⟨rfl, rfl, rfl, rfl, rfl, rfl, by simp only [outJ]; rw [hc2]; rfl, rfl, rfl, rfl, trivial⟩ (by repeat (first | exact Sp.nil | exact Sp.refl _ | refine Sp.cons (by repeat constructor) ?_))
      | true =>
        have hcf : (cJ s k i j).1.Fit := after_fit hk hc2
        (refine q_seq (q_seq (q_region (ql_pure tabOk rfl rfl (ql_pure tabOk rfl rfl (q_nil (q_cond_false rfl (q_skip (q_seq (q_region ?_))))))))); refine ql_loadP tabOk rfl rfl rfl (by assumption) (by rfl) ?_; refine ql_pure tabOk rfl rfl ?_)
        refine ql_loadA (cs := knC (cJ s k i j).1) tabOk rfl rfl rfl hclen (fun w hs q hq => by rw [(hs.blk (b := b12) (by repeat first | exact .head _ | refine .tail _ ?_)).cell, Nat.zero_add]) ?_
        refine ql_callFv (val := .int .i64 (fJ s plan g (ndV plan m) k i j)) rfl rfl rfl (fun w' hs => CaF.of tabOk rfl (by have := ih (by omega) nx (cJ s k i j).1 w' hnxr hcf (h.keep hs.chg0) (RdE.keep hr hs.chg0) (hE.keep hs.chg0); unfold fJ; rw [hnx]; exact this)) ?_
        have hfb : -1 ≤ fJ s plan g (ndV plan m) k i j ∧ fJ s plan g (ndV plan m) k i j ≤ g := by unfold fJ; exact hFb
        by_cases hneg : fJ s plan g (ndV plan m) k i j < 0
        · (refine ql_pure tabOk rfl rfl (q_nil (q_seq (q_seq (q_region (ql_pure tabOk rfl rfl (ql_lssT tabOk rfl rfl rfl (by omega) (q_nil (q_cond_true rfl (q_seq (q_region ?_)))))))))); refine ql_set tabOk rfl rfl rfl rfl (by repeat constructor) ?_; refine q_nil (q_ret ?_))
          refine q_finM tabOk rfl (by repeat (first | exact RVs.nil | apply RVs.tmp rfl | apply RVs.cellA rfl rfl (by repeat first | exact .head _ | refine .tail _ ?_) (by rfl) | apply RVs.cell1 rfl rfl (by repeat first | exact .head _ | refine .tail _ ?_))) fun w hs => ?_
          exact ⟨by rw [fol_stop hri hj2 hc2 hneg]; rfl, hs.chg0⟩
        · (refine ql_pure tabOk rfl rfl (q_nil (q_seq (q_seq (q_region (ql_pure tabOk rfl rfl (ql_lssF tabOk rfl rfl rfl (by omega) (q_nil (q_cond_false rfl (q_skip (q_region (ql_pure tabOk rfl rfl ?_))))))))))); refine ql_pure tabOk rfl rfl (ql_ar tabOk rfl rfl rfl rfl (by omega) (by omega) ?_))
          refine ql_mkS 3 [.int .i64 (1 + fJ s plan g (ndV plan m) k i j)] rfl (by kernel_rfl) rfl (fun bq => ?_)
          skip
          refine ql_callv (val := .int .i64 (max (outJ s plan g (ndV plan m) k i j) (1 + fJ s plan g (ndV plan m) k i j))) tabOk rfl rfl rfl rfl (fun w hs => ?_) ?_; exact by have := great_ca w _ _ (outJ s plan g (ndV plan m) k i j) _ [1 + fJ s plan g (ndV plan m) k i j] (Blk.rdI (c := 1) (hs.blk (b := bq) (cs := ints [1 + fJ s plan g (ndV plan m) k i j]) (by repeat first | exact .head _ | refine .tail _ ?_))) (by simp); exact this
          (refine ql_pure tabOk rfl rfl (q_nil (q_blk (q_region (ql_ar tabOk rfl rfl rfl rfl (by omega) (by omega) (ql_pure tabOk rfl rfl (q_nil ?_)))))))
          exact hK (j + 1) _ _ ⟨by omega, fun i' h' => by
            by_cases he : i' = j
            · rw [he]; exact fun e => hneg e.2
            · exact hno i' (by omega)⟩ (by omega) ⟨rfl, rfl, rfl, rfl, rfl, rfl, by simp only [outJ]; rw [hc2]; rfl, rfl, rfl, rfl, trivial⟩ (by repeat (first | exact Sp.nil | exact Sp.refl _ | refine Sp.cons (by repeat constructor) ?_))
    | false =>
      rw [← hpf rfl]
      (refine ql_pure tabOk rfl rfl (q_nil (q_seq (q_seq (q_region (ql_pure tabOk rfl rfl (q_nil (q_cond_false rfl (q_skip (q_seq ?_))))))))))
      refine q_cut (σ := Nat) (fun b12 => [(0, .int .i64 m), (2, .pointer (some ⟨b1, 0, none⟩)), (3, .pointer (some ⟨b2, 0, none⟩)), (4, .pointer (some ⟨b3, 0, none⟩)), (6, .pointer (some ⟨b6, 0, none⟩)), (7, .pointer (some ⟨b7, 0, none⟩)), (8, .int .i64 (outJ s plan g (ndV plan m) k i j)), (11, .int .i64 nx), (12, .pointer (some ⟨b12, 0, none⟩)), (13, .bool (cJ s k i j).2), (21, .slice (some ⟨bn, 0, none⟩) 2 2), (22, .int .i64 2), (23, .int .i64 j)]) (fun b12 => [.pt b7 [.int .i64 0] 3, .pt b6 (knC k) 182, .pt bn [.bool true, .bool false] 4, .pt b12 (knC (cJ s k i j).1) 182]) ?_ ?_
      rotate_left
      · intro K2 hK2
        refine q_drawT (tF15_e6b7b30) _ [] (Sp.refl _) (by kernel_rfl) (by kernel_rfl) ?_
        refine qt_alt ?_ ?_
        · skip
          refine qt_seg (by repeat (first | exact PickL.nil | (apply PickL.cons; rfl))) fun K1 hK1 => ?_
          (refine qf_loadP tabOk rfl rfl rfl (by assumption) (by rfl) ?_)
          refine qf_loadA (cs := knC k) tabOk rfl rfl rfl (knC_len hkb) (fun w hs q hq => by rw [(hs.blk (b := b6) (by repeat first | exact .head _ | refine .tail _ ?_)).cell, Nat.zero_add]) ?_
          (refine qf_loadP tabOk rfl rfl rfl (by assumption) (by rfl) ?_; refine qf_pure tabOk rfl rfl rfl ?_)
          refine qf_index tabOk rfl rfl rfl rfl rfl (by omega) (by omega) ?_
          (refine qf_pure tabOk rfl rfl rfl ?_)
          refine qf_load1 (v := .int .i64 i) tabOk rfl rfl rfl (fun w hs => by have := RdN.at0 (RdE.keep hr hs.chg0) m hm; rw [← hnd, hri] at this; simpa using this) ?_
          (refine qf_pure tabOk rfl rfl rfl ?_)
          refine qf_callv (val := .tuple #[knV (cJ s k i j).1, .bool (cJ s k i j).2]) tabOk rfl rfl rfl rfl (fun w' hs => by rw [hcv]; exact after_ca w' lo hi bd s tv rv k0 k (h.keep hs.chg0) (hbd.keep hs.chg0) hs0 hkb i hil _) ?_
          (refine qf_pure tabOk rfl rfl rfl (qf_ext tabOk rfl rfl rfl (qf_ext tabOk rfl rfl rfl ?_)))
          refine qf_alloc zero182 rfl (fun b12 => ?_)
          skip
          refine qf_setA (us := knC (cJ s k i j).1) tabOk rfl rfl rfl hclen (knC_one _) (by repeat constructor) rfl ?_
          (refine qf_pure tabOk rfl rfl rfl (qf_nil ?_))
          exact hK1 _ _ (qt_nil (hK2 b12 _ _ ⟨rfl, rfl, rfl, rfl, rfl, rfl, rfl, rfl, rfl, rfl, rfl, rfl, rfl, trivial⟩ (by repeat (first | exact Sp.nil | exact Sp.refl _ | refine Sp.cons (by repeat constructor) ?_))))
        · skip
          refine qt_seg (by repeat (first | exact PickL.nil | (apply PickL.cons; rfl))) fun K1 hK1 => ?_
          skip
          refine qf_alloc zero182 rfl (fun b12 => ?_)
          (refine qf_loadP tabOk rfl rfl rfl (by assumption) (by rfl) ?_)
          refine qf_loadA (cs := knC k) tabOk rfl rfl rfl (knC_len hkb) (fun w hs q hq => by rw [(hs.blk (b := b6) (by repeat first | exact .head _ | refine .tail _ ?_)).cell, Nat.zero_add]) ?_
          (refine qf_loadP tabOk rfl rfl rfl (by assumption) (by rfl) ?_; refine qf_pure tabOk rfl rfl rfl ?_)
          refine qf_index tabOk rfl rfl rfl rfl rfl (by omega) (by omega) ?_
          (refine qf_pure tabOk rfl rfl rfl ?_)
          refine qf_load1 (v := .int .i64 i) tabOk rfl rfl rfl (fun w hs => by have := RdN.at0 (RdE.keep hr hs.chg0) m hm; rw [← hnd, hri] at this; simpa using this) ?_
          (refine qf_pure tabOk rfl rfl rfl ?_)
          refine qf_callv (val := .tuple #[knV (cJ s k i j).1, .bool (cJ s k i j).2]) tabOk rfl rfl rfl rfl (fun w' hs => by rw [hcv]; exact after_ca w' lo hi bd s tv rv k0 k (h.keep hs.chg0) (hbd.keep hs.chg0) hs0 hkb i hil _) ?_
          (refine qf_pure tabOk rfl rfl rfl (qf_ext tabOk rfl rfl rfl (qf_ext tabOk rfl rfl rfl ?_)))
          refine qf_setA (us := knC (cJ s k i j).1) tabOk rfl rfl rfl hclen (knC_one _) (by repeat constructor) rfl ?_
          (refine qf_pure tabOk rfl rfl rfl (qf_nil ?_))
          exact hK1 _ _ (qt_nil (hK2 b12 _ _ ⟨rfl, rfl, rfl, rfl, rfl, rfl, rfl, rfl, rfl, rfl, rfl, rfl, rfl, trivial⟩ (by repeat (first | exact Sp.nil | exact Sp.refl _ | refine Sp.cons (by repeat constructor) ?_))))
      intro b12
      cases hc2 : (cJ s k i j).2 with
      | false =>
        (refine q_seq (q_seq (q_region (ql_pure tabOk rfl rfl (ql_pure tabOk rfl rfl (q_nil (q_cond_true rfl (q_exit _ rfl (q_region (ql_ar tabOk rfl rfl rfl rfl (by omega) (by omega) (ql_pure tabOk rfl rfl (q_nil ?_))))))))))))
        exact hK (j + 1) _ _ ⟨by omega, fun i' h' => by
          by_cases he : i' = j
          · rw [he, hc2]; simp
          · exact hno i' (by omega)⟩ (by omega) ⟨rfl, rfl, rfl, rfl, rfl, rfl, by simp only [outJ]; rw [hc2]; rfl, rfl, rfl, rfl, trivial⟩ (by repeat (first | exact Sp.nil | exact Sp.refl _ | refine Sp.cons (by repeat constructor) ?_))
      | true =>
        have hcf : (cJ s k i j).1.Fit := after_fit hk hc2
        (refine q_seq (q_seq (q_region (ql_pure tabOk rfl rfl (ql_pure tabOk rfl rfl (q_nil (q_cond_false rfl (q_skip (q_seq (q_region ?_))))))))); refine ql_loadP tabOk rfl rfl rfl (by assumption) (by rfl) ?_; refine ql_pure tabOk rfl rfl ?_)
        refine ql_loadA (cs := knC (cJ s k i j).1) tabOk rfl rfl rfl hclen (fun w hs q hq => by rw [(hs.blk (b := b12) (by repeat first | exact .head _ | refine .tail _ ?_)).cell, Nat.zero_add]) ?_
        refine ql_callFv (val := .int .i64 (fJ s plan g (ndV plan m) k i j)) rfl rfl rfl (fun w' hs => CaF.of tabOk rfl (by have := ih (by omega) nx (cJ s k i j).1 w' hnxr hcf (h.keep hs.chg0) (RdE.keep hr hs.chg0) (hE.keep hs.chg0); unfold fJ; rw [hnx]; exact this)) ?_
        have hfb : -1 ≤ fJ s plan g (ndV plan m) k i j ∧ fJ s plan g (ndV plan m) k i j ≤ g := by unfold fJ; exact hFb
        by_cases hneg : fJ s plan g (ndV plan m) k i j < 0
        · (refine ql_pure tabOk rfl rfl (q_nil (q_seq (q_seq (q_region (ql_pure tabOk rfl rfl (ql_lssT tabOk rfl rfl rfl (by omega) (q_nil (q_cond_true rfl (q_seq (q_region ?_)))))))))); refine ql_set tabOk rfl rfl rfl rfl (by repeat constructor) ?_; refine q_nil (q_ret ?_))
          refine q_finM tabOk rfl (by repeat (first | exact RVs.nil | apply RVs.tmp rfl | apply RVs.cellA rfl rfl (by repeat first | exact .head _ | refine .tail _ ?_) (by rfl) | apply RVs.cell1 rfl rfl (by repeat first | exact .head _ | refine .tail _ ?_))) fun w hs => ?_
          exact ⟨by rw [fol_stop hri hj2 hc2 hneg]; rfl, hs.chg0⟩
        · (refine ql_pure tabOk rfl rfl (q_nil (q_seq (q_seq (q_region (ql_pure tabOk rfl rfl (ql_lssF tabOk rfl rfl rfl (by omega) (q_nil (q_cond_false rfl (q_skip (q_region (ql_pure tabOk rfl rfl ?_))))))))))); refine ql_pure tabOk rfl rfl (ql_ar tabOk rfl rfl rfl rfl (by omega) (by omega) ?_))
          refine ql_mkS 3 [.int .i64 (1 + fJ s plan g (ndV plan m) k i j)] rfl (by kernel_rfl) rfl (fun bq => ?_)
          skip
          refine ql_callv (val := .int .i64 (max (outJ s plan g (ndV plan m) k i j) (1 + fJ s plan g (ndV plan m) k i j))) tabOk rfl rfl rfl rfl (fun w hs => ?_) ?_; exact by have := great_ca w _ _ (outJ s plan g (ndV plan m) k i j) _ [1 + fJ s plan g (ndV plan m) k i j] (Blk.rdI (c := 1) (hs.blk (b := bq) (cs := ints [1 + fJ s plan g (ndV plan m) k i j]) (by repeat first | exact .head _ | refine .tail _ ?_))) (by simp); exact this
          (refine ql_pure tabOk rfl rfl (q_nil (q_blk (q_region (ql_ar tabOk rfl rfl rfl rfl (by omega) (by omega) (ql_pure tabOk rfl rfl (q_nil ?_)))))))
          exact hK (j + 1) _ _ ⟨by omega, fun i' h' => by
            by_cases he : i' = j
            · rw [he]; exact fun e => hneg e.2
            · exact hno i' (by omega)⟩ (by omega) ⟨rfl, rfl, rfl, rfl, rfl, rfl, by simp only [outJ]; rw [hc2]; rfl, rfl, rfl, rfl, trivial⟩ (by repeat (first | exact Sp.nil | exact Sp.refl _ | refine Sp.cons (by repeat constructor) ?_))
  · obtain rfl : j = 2 := by omega
    rw [fol_out hri hno]
    (refine q_exit _ rfl (q_seq (q_region (ql_pure tabOk rfl rfl ?_))); refine ql_set tabOk rfl rfl rfl rfl (by repeat constructor) ?_; refine q_nil (q_ret ?_))
    refine q_finM tabOk rfl (by repeat (first | exact RVs.nil | apply RVs.tmp rfl | apply RVs.cellA rfl rfl (by repeat first | exact .head _ | refine .tail _ ?_) (by rfl) | apply RVs.cell1 rfl rfl (by repeat first | exact .head _ | refine .tail _ ?_))) fun w hs => ?_
    exact ⟨rfl, hs.chg0⟩
end Go.Proofs.YtopdmadgkjdgcaaGreat

/- Walks of rifle: Depth. -/
namespace Go.Proofs.YtopdmadgkjdgcaaGreat
set_option maxRecDepth 4000
open Go Go.Eng
theorem dsk_take2 (s : Sc) (tv rv : Value) : List.take 18 (List.drop (0 + 4) (dskC s tv rv (firstK s))) = knC (firstK s) := rfl
/-- Where a plan begins. -/
def startN (plan : List Nd) : Int := if plan.length = 0 then -1 else 0
def depP (s : Sc) (plan : List Nd) : Int := folF s plan plan.length (startN plan) (firstK s)
def rpB (s : Sc) (plan : List Nd) : Bool := (List.range plan.length).all (ndB s plan)
theorem rpB_iff {s : Sc} {plan : List Nd} : rpB s plan = true ↔ RpOk s plan := by
  rw [rp_iff]
  simp [rpB]
theorem rdepth_ok (w : World) (lo hi : Nat) (s : Sc) (tv rv vp : Value) (plan : List Nd) (h : ScR w lo hi tv rv s) (hs0 : SOk s) (hr : RdN w lo hi vp plan) (hpl : plan.length ≤ 300) : Ca Tryz.prog 59 [.agg (scC s tv rv).toArray, vp] w fun x w' => x = (if rpB s plan = true then (if depP s plan < 0 then .tuple #[.int .i64 0, .int .i64 8] else .tuple #[.int .i64 (depP s plan), .int .i64 0]) else .tuple #[.int .i64 0, .int .i64 1]) ∧ Chg [] w w' := by
  have hfit := firstK_fit hs0.le
  have hrn := hs0.ok.rn8
  obtain ⟨pa, pcap, rfl, hps⟩ := hr.outI
  obtain ⟨ra, rcap, rfl, _⟩ := h.r.outI
  refine q_of (Sat.nil w M0) Tryz.func59 rfl (by simp [Tryz.ntmps59]) ?_
  (refine q_seq (q_region ?_))
  refine ql_box rfl rfl (fun b2 => ?_)
  rw [agg_cells]
  refine ql_box rfl rfl (fun b3 => ?_)
  (refine ql_pure tabOk rfl rfl (ql_pure tabOk rfl rfl (q_nil (q_seq (q_region ?_)))); refine ql_loadABa tabOk rfl rfl rfl ?_)
  refine ql_call (β := Nat) tabOk [] _ M0 rfl rfl rfl rfl (Sp.refl _) (fun _ h => h.elim) (fun w' hs => rask_ok w' lo hi s tv _ (h.keep hs.chg0) hs0.ok hs0.le) ?_
  rintro bd _ rfl
  dsimp only [List.cons_append, List.nil_append]
  (refine ql_pure tabOk rfl rfl (ql_ext tabOk rfl rfl rfl (ql_ext tabOk rfl rfl rfl ?_)))
  refine ql_alloc zero177 rfl (fun b6 => ?_)
  (refine ql_set tabOk rfl rfl rfl rfl (by repeat constructor) ?_; refine ql_pure tabOk rfl rfl (q_nil (q_seq (q_block (q_seq (q_region (ql_pure tabOk rfl rfl (ql_neqF tabOk rfl rfl rfl (by omega) (ql_pure tabOk rfl rfl (q_nil (q_cond_false rfl (q_seq ?_))))))))))); refine q_region ?_; refine ql_loadBa tabOk rfl rfl rfl ?_; refine ql_pure tabOk rfl rfl (ql_gtrF tabOk rfl rfl rfl (by omega) (ql_pure tabOk rfl rfl (q_nil (q_cond_false rfl (q_skip (q_blk (q_seq (q_seq (q_region ?_))))))))); refine ql_loadBa tabOk rfl rfl rfl ?_; refine ql_pure tabOk rfl rfl (ql_pure tabOk rfl rfl (q_nil (q_block ?_))))
  refine q_loop (σ := Nat) (fun i => i ≤ plan.length ∧ ∀ i', i' < i → ndB s plan i' = true) (fun i => plan.length - i) (fun i => [(2, .pointer (some ⟨b2, 0, none⟩)), (3, .pointer (some ⟨b3, 0, none⟩)), (6, .pointer (some ⟨b6, 0, none⟩)), (27, .slice pa plan.length pcap), (28, .int .i64 plan.length), (29, .int .i64 i)]) (fun _ => [.pt b2 (scC s tv (.slice ra s.rifles.length rcap)) 46, .pt b3 [.slice pa plan.length pcap] 88, .pt b6 [.pointer (some ⟨bd, 0, none⟩)] 177, .pt bd (dskC s tv (.slice ra s.rifles.length rcap) (firstK s)) 184]) 0 ⟨by omega, fun _ h => by omega⟩ ⟨rfl, rfl, rfl, rfl, rfl, rfl, trivial⟩ (by repeat constructor) ?_
  rintro i ⟨hi1, hno⟩ K hK
  (refine q_seq (q_region (ql_pure tabOk rfl rfl (q_nil (q_seq ?_)))))
  refine q_if rfl (fun hc => ?_) (fun hc => ?_)
  · have hil : i < plan.length := by omega
    clear hc
    obtain ⟨pb', po, rfl⟩ := hps (by omega)
    have hnd := ndV_get hil
    (refine q_skip (q_seq (q_block (q_seq (q_region (ql_pure tabOk rfl rfl ?_))))))
    refine ql_index tabOk rfl rfl rfl rfl rfl (by omega) (by omega) ?_
    skip
    refine ql_loadA (cs := [.int .i64 plan[i].r, .int .i64 plan[i].p, .int .i64 plan[i].f]) tabOk rfl rfl rfl rfl (fun w hs q hq => by simpa using RdN.at (RdE.keep hr hs.chg0) i hil q hq) ?_
    skip
    refine ql_alloc zero3 rfl (fun b8 => ?_)
    skip
    refine ql_alloc zero91 rfl (fun b9 => ?_)
    (refine ql_set tabOk rfl rfl rfl rfl (by repeat constructor) ?_; refine ql_setA tabOk rfl rfl rfl rfl rfl (by repeat constructor) rfl ?_; refine q_nil (q_seq (q_region (ql_pure tabOk rfl rfl (ql_pure tabOk rfl rfl (q_nil (q_seq (q_region (ql_pure tabOk rfl rfl ?_)))))))); refine ql_loadBa tabOk rfl rfl rfl ?_; refine ql_pure tabOk rfl rfl ?_; refine ql_loadBa tabOk rfl rfl rfl ?_; refine ql_pure tabOk rfl rfl (ql_ar tabOk rfl rfl rfl rfl (by omega) (by omega) ?_))
    refine ql_callv (val := .bool (inB plan[i].r 0 ((s.rifles.length : Int) - 1))) tabOk rfl rfl rfl rfl (fun w hs => ?_) ?_; exact rfin_ca _ _ _ w
    have hndb : ndB s plan i = (inB plan[i].r 0 ((s.rifles.length : Int) - 1) && (nxB i plan plan[i].p && nxB i plan plan[i].f)) := by unfold ndB; rw [hnd]
    have hbad : ndB s plan i = false → rpB s plan = false := fun e => by
      cases h1 : rpB s plan with
      | false => rfl
      | true =>
        have := rp_iff.1 (rpB_iff.1 h1) i hil
        rw [e] at this
        cases this
    cases h1 : inB plan[i].r 0 ((s.rifles.length : Int) - 1) with
    | false =>
      rw [hbad (by rw [hndb, h1]; rfl)]
      (refine ql_pure tabOk rfl rfl (ql_pure tabOk rfl rfl ?_); (iterate 5 refine ql_gno rfl rfl rfl ?_); refine ql_pure tabOk rfl rfl (ql_pure tabOk rfl rfl ?_); (iterate 5 refine ql_gno rfl rfl rfl ?_); refine ql_pure tabOk rfl rfl (q_nil (q_cond_true rfl (q_seq (q_region (ql_pure tabOk rfl rfl (ql_pure tabOk rfl rfl (q_nil (q_ret ?_)))))))))
      refine q_fin tabOk rfl (by repeat constructor) fun w hs => ?_
      exact ⟨rfl, hs.chg0⟩
    | true =>
      (refine ql_pure tabOk rfl rfl (ql_pure tabOk rfl rfl (ql_gyes rfl (ql_pure tabOk rfl rfl (ql_gyes rfl (ql_pure tabOk rfl rfl (ql_gyes rfl ?_)))))); refine ql_loadBa tabOk rfl rfl rfl ?_; refine ql_gyes rfl ?_)
      refine ql_callFv (val := .bool (nxB i plan plan[i].p)) rfl rfl rfl (fun w' hs => CaF.of tabOk rfl (rnext_ca w' lo hi b8 b3 i plan _ plan[i].p _ _ (hs.blk (b := b8) (by repeat constructor)) (hs.blk (b := b3) (by repeat constructor)) (RdE.keep hr hs.chg0) hpl (by omega))) ?_
      cases h2 : nxB i plan plan[i].p with
      | false =>
        rw [hbad (by rw [hndb, h1, h2]; rfl)]
        (refine ql_gyes rfl ?_; (iterate 3 refine ql_pure tabOk rfl rfl ?_); (iterate 5 refine ql_gno rfl rfl rfl ?_); refine ql_pure tabOk rfl rfl (q_nil (q_cond_true rfl (q_seq (q_region (ql_pure tabOk rfl rfl (ql_pure tabOk rfl rfl (q_nil (q_ret ?_)))))))))
        refine q_fin tabOk rfl (by repeat constructor) fun w hs => ?_
        exact ⟨rfl, hs.chg0⟩
      | true =>
        (refine ql_gyes rfl ?_; (iterate 3 refine ql_pure tabOk rfl rfl ?_); refine ql_gyes rfl (ql_pure tabOk rfl rfl (ql_gyes rfl (ql_pure tabOk rfl rfl (ql_gyes rfl ?_)))); refine ql_loadBa tabOk rfl rfl rfl ?_; refine ql_gyes rfl ?_)
        refine ql_callFv (val := .bool (nxB i plan plan[i].f)) rfl rfl rfl (fun w' hs => CaF.of tabOk rfl (rnext_ca w' lo hi b8 b3 i plan _ plan[i].f _ _ (hs.blk (b := b8) (by repeat constructor)) (hs.blk (b := b3) (by repeat constructor)) (RdE.keep hr hs.chg0) hpl (by omega))) ?_
        cases h3 : nxB i plan plan[i].f with
        | false =>
          rw [hbad (by rw [hndb, h1, h2, h3]; rfl)]
          (refine ql_gyes rfl (ql_pure tabOk rfl rfl (ql_pure tabOk rfl rfl (q_nil (q_cond_true rfl (q_seq (q_region (ql_pure tabOk rfl rfl (ql_pure tabOk rfl rfl (q_nil (q_ret ?_)))))))))))
          refine q_fin tabOk rfl (by repeat constructor) fun w hs => ?_
          exact ⟨rfl, hs.chg0⟩
        | true =>
          (refine ql_gyes rfl (ql_pure tabOk rfl rfl (ql_pure tabOk rfl rfl (q_nil (q_cond_false rfl (q_skip (q_blk (q_region (ql_ar tabOk rfl rfl rfl rfl (by omega) (by omega) (ql_pure tabOk rfl rfl (q_nil ?_)))))))))))
          exact hK (i + 1) _ _ ⟨by omega, fun i' h' => by
            by_cases he : i' = i
            · rw [he, hndb, h1, h2, h3]; rfl
            · exact hno i' (by omega)⟩ (by omega) ⟨rfl, rfl, rfl, rfl, rfl, rfl, trivial⟩ (by repeat constructor)
  · obtain rfl : i = plan.length := by omega
    have hrp : RpOk s plan := rp_iff.2 hno
    rw [if_pos (rpB_iff.2 hrp)]
    (refine q_exit _ rfl (q_seq (q_region ?_)))
    refine ql_alloc zero215 rfl (fun b11 => ?_)
    have hdb := fol_bd s plan plan.length (startN plan) (firstK s)
    have hst : startN plan = -1 ∨ 0 ≤ startN plan ∧ startN plan < plan.length ∧ plan.length ≤ plan.length + (startN plan).toNat := by
      unfold startN
      split <;> omega
    by_cases hz : plan.length = 0
    · have hst2 : startN plan = -1 := by unfold startN; rw [if_pos hz]
      (refine q_nil (q_seq (q_region (ql_pure tabOk rfl rfl ?_))); refine ql_set tabOk rfl rfl rfl rfl (by repeat constructor) ?_; refine q_nil (q_seq (q_region (ql_pure tabOk rfl rfl (q_nil (q_seq (q_seq (q_region ?_))))))); refine ql_loadBa tabOk rfl rfl rfl ?_; refine ql_pure tabOk rfl rfl (ql_eqlT tabOk rfl rfl rfl (by omega) (q_nil (q_cond_true rfl (q_region (ql_pure tabOk rfl rfl (q_nil (q_seq (q_seq ?_)))))))))
      refine q_draw _ [] (Sp.refl _) (by kernel_rfl) (by kernel_rfl) ?_
      (refine qf_loadBa tabOk rfl rfl rfl ?_; refine qf_pure tabOk rfl rfl rfl ?_; refine qf_loadBa tabOk rfl rfl rfl ?_; refine qf_pure tabOk rfl rfl rfl (qf_pure tabOk rfl rfl rfl ?_); refine qf_loadABa tabOk rfl rfl rfl ?_)
      rw [dsk_take2 s tv _]
      refine qf_callFv (val := .int .i64 (depP s plan)) rfl rfl rfl (fun w' hs => CaF.of tabOk rfl (by have := follow_ca lo hi b6 b3 b11 bd s tv _ (firstK s) plan _ hs0.ok hrp hpl plan.length (by omega) (startN plan) (firstK s) w' hst hfit (h.keep hs.chg0) (RdE.keep hr hs.chg0) ⟨⟨_, hs.blk (b := b6) (by repeat constructor)⟩, ⟨_, hs.blk (b := b3) (by repeat constructor)⟩, ⟨_, hs.blk (b := b11) (by repeat constructor)⟩, hs.blk (b := bd) (by repeat constructor)⟩; rw [show folF s plan plan.length (startN plan) (firstK s) = depP s plan from rfl, hst2] at this; exact this)) ?_
      by_cases hneg : depP s plan < 0
      · rw [if_pos hneg]
        (refine qf_pure tabOk rfl rfl rfl (qf_nil (q_seq (q_region (ql_pure tabOk rfl rfl (ql_geqF tabOk rfl rfl rfl (by omega) (q_nil (q_cond_false rfl (q_skip (q_seq (q_region (ql_pure tabOk rfl rfl ?_))))))))))); refine ql_pure tabOk rfl rfl (q_nil (q_ret ?_)))
        refine q_fin tabOk rfl (by repeat constructor) fun w hs => ?_
        exact ⟨rfl, hs.chg0⟩
      · rw [if_neg hneg]
        (refine qf_pure tabOk rfl rfl rfl (qf_nil (q_seq (q_region (ql_pure tabOk rfl rfl (ql_geqT tabOk rfl rfl rfl (by omega) (q_nil (q_cond_true rfl (q_seq (q_region ?_))))))))); (iterate 3 refine ql_pure tabOk rfl rfl ?_); refine q_nil (q_ret ?_))
        refine q_fin tabOk rfl (by repeat constructor) fun w hs => ?_
        exact ⟨rfl, hs.chg0⟩
    · have hst2 : startN plan = 0 := by unfold startN; rw [if_neg hz]
      (refine q_nil (q_seq (q_region (ql_pure tabOk rfl rfl ?_))); refine ql_set tabOk rfl rfl rfl rfl (by repeat constructor) ?_; refine q_nil (q_seq (q_region (ql_pure tabOk rfl rfl (q_nil (q_seq (q_seq (q_region ?_))))))); refine ql_loadBa tabOk rfl rfl rfl ?_; refine ql_pure tabOk rfl rfl (ql_eqlF tabOk rfl rfl rfl (by omega) (q_nil (q_cond_false rfl (q_skip (q_seq (q_seq ?_)))))))
      refine q_draw _ [] (Sp.refl _) (by kernel_rfl) (by kernel_rfl) ?_
      (refine qf_loadBa tabOk rfl rfl rfl ?_; refine qf_pure tabOk rfl rfl rfl ?_; refine qf_loadBa tabOk rfl rfl rfl ?_; refine qf_pure tabOk rfl rfl rfl (qf_pure tabOk rfl rfl rfl ?_); refine qf_loadABa tabOk rfl rfl rfl ?_)
      rw [dsk_take2 s tv _]
      refine qf_callFv (val := .int .i64 (depP s plan)) rfl rfl rfl (fun w' hs => CaF.of tabOk rfl (by have := follow_ca lo hi b6 b3 b11 bd s tv _ (firstK s) plan _ hs0.ok hrp hpl plan.length (by omega) (startN plan) (firstK s) w' hst hfit (h.keep hs.chg0) (RdE.keep hr hs.chg0) ⟨⟨_, hs.blk (b := b6) (by repeat constructor)⟩, ⟨_, hs.blk (b := b3) (by repeat constructor)⟩, ⟨_, hs.blk (b := b11) (by repeat constructor)⟩, hs.blk (b := bd) (by repeat constructor)⟩; rw [show folF s plan plan.length (startN plan) (firstK s) = depP s plan from rfl, hst2] at this; exact this)) ?_
      by_cases hneg : depP s plan < 0
      · rw [if_pos hneg]
        (refine qf_pure tabOk rfl rfl rfl (qf_nil (q_seq (q_region (ql_pure tabOk rfl rfl (ql_geqF tabOk rfl rfl rfl (by omega) (q_nil (q_cond_false rfl (q_skip (q_seq (q_region (ql_pure tabOk rfl rfl ?_))))))))))); refine ql_pure tabOk rfl rfl (q_nil (q_ret ?_)))
        refine q_fin tabOk rfl (by repeat constructor) fun w hs => ?_
        exact ⟨rfl, hs.chg0⟩
      · rw [if_neg hneg]
        (refine qf_pure tabOk rfl rfl rfl (qf_nil (q_seq (q_region (ql_pure tabOk rfl rfl (ql_geqT tabOk rfl rfl rfl (by omega) (q_nil (q_cond_true rfl (q_seq (q_region ?_))))))))); (iterate 3 refine ql_pure tabOk rfl rfl ?_); refine q_nil (q_ret ?_))
        refine q_fin tabOk rfl (by repeat constructor) fun w hs => ?_
        exact ⟨rfl, hs.chg0⟩
end Go.Proofs.YtopdmadgkjdgcaaGreat

/- Walks of rifle: lists compared. The lines are those of ski/K25 for runs, turned. -/
namespace Go.Proofs.YtopdmadgkjdgcaaGreat
set_option maxRecDepth 4000
open Go Go.Eng

end Go.Proofs.YtopdmadgkjdgcaaGreat

/- The examples of rifle's chapter, computed. -/
namespace Go.Proofs.YtopdmadgkjdgcaaGreat
set_option maxRecDepth 4000
open Go Go.Eng
def fourS : Sc := ⟨2, 3500, [(1000, 1005), (2000, 2009)], [3510, 3509, 3504, 3506]⟩
def oneS : Sc := ⟨2, 3500, [(1000, 1005)], [3510, 3509, 3504, 3506]⟩
def planN : List Nd := [⟨3, -1, -1⟩]
def fiveH : List Hd := [⟨0, 0, 10⟩, ⟨0, 5, 30⟩, ⟨0, 8, 20⟩, ⟨0, 20, 40⟩, ⟨0, 29, 60⟩]
def twoA : List (List Int) := [[500, 300, 200, 150], [400, 350, 320]]
theorem rw_four : SOk fourS := chkO_zero.1 (by decide +kernel)
theorem rw_one : SOk oneS := chkO_zero.1 (by decide +kernel)
theorem rw_wgt : wgtL fourS 4 = [(3501, 3505), (3500, 3504), (3495, 3499), (3497, 3501)] := by decide +kernel
theorem rw_pas : nI (pasL fourS 4) = [0, 1] := by decide +kernel
theorem rw_opn : nI (openL fourS (firstK fourS)) = [3] := by decide +kernel
theorem rw_rp : rpB fourS planN = true := by decide +kernel
theorem rw_dep : depP fourS planN = 1 := by decide +kernel
theorem rw_few : depV oneS (firstK oneS) = 2 := by decide +kernel
theorem rw_sp : SpOk fiveH 0 60 := chkSp_zero.1 (by decide +kernel)
theorem rw_mk : mkK fiveH 0 60 [0, 10, 30] 3 = true := by decide +kernel
theorem rw_aim : AimOk twoA := chkA_zero.1 (by decide +kernel)
theorem rw_many : manyN twoA = 6 := by decide +kernel
theorem rw_curve : curveL twoA 6 = [900, 700, 600, 550, 500, 470] := by decide +kernel
theorem rw_price : mostV twoA (wtsV twoA 3) = 50 := by decide +kernel
theorem rw_lk : Lk fiveH 60 0 [0, 1, 4] [0, 10, 30] 60 := .step (by decide) (by decide) (by decide) (by decide) (.step (by decide) (by decide) (by decide) (by decide) (.step (by decide) (by decide) (by decide) (by decide) (.done (by decide))))
theorem rw_chn {C : List Int} {e : Int} (h : ChnR fiveH 0 60 C e) : e = 0 ∧ C.length = 3 := by
  rcases h with ⟨h1, hs, ms, h2, h3, h4⟩ | ⟨h1, h2, h3⟩
  · refine ⟨h1, ?_⟩
    have := lk_mono h2 rw_lk (Int.le_refl _) (Int.le_refl _) fun _ h => h
    have := lk_mono rw_lk h2 (Int.le_refl _) (Int.le_refl _) fun _ h => h
    rw [h3.length_eq]
    simp [nI] at *
    omega
  · refine absurd (fun m a b => ?_) h3
    obtain ⟨x, hx, hc⟩ := Lk.gd rw_lk m a b
    obtain ⟨i, hi, rfl⟩ := List.mem_map.1 hx
    have := Lk.idx rw_lk i hi
    exact ⟨_, hdL_mem this, hc⟩
end Go.Proofs.YtopdmadgkjdgcaaGreat

/- Walks of rifle: the examples of the chapter. -/
namespace Go.Proofs.YtopdmadgkjdgcaaGreat
set_option maxRecDepth 4000
open Go Go.Eng
theorem Blk.rdH' {w : World} {b c n : Nat} {l : List Hd} {t : TypeId} (h : Blk w b (hdC l) t) (hn : n = l.length) : RdH w 0 w.heap.size (.slice (some ⟨b, 0, none⟩) n c) l := by
  subst hn
  exact RdH.of (Blk.rdN (sz := 3) h (hdC_length l))
theorem Blk.rdNd {w : World} {b c n : Nat} {l : List Nd} {t : TypeId} (h : Blk w b (nodC l) t) (hn : n = l.length) : RdN w 0 w.heap.size (.slice (some ⟨b, 0, none⟩) n c) l := by
  subst hn
  exact RdN.of (Blk.rdN (sz := 3) h (nodC_length l))
theorem rfour_ca (w : World) : Ca Tryz.prog 98 [] w fun x w' => ∃ y : Nat × Nat, x = .agg (scC fourS (.slice (some ⟨y.1, 0, none⟩) 2 2) (.slice (some ⟨y.2, 0, none⟩) 4 4)).toArray ∧ Sat w M0 [.pt y.1 (spC fourS.tests) 78, .pt y.2 (ints fourS.rifles) 3] w' := by
  refine q_of (Sat.nil w M0) Tryz.func98 rfl (by simp [Tryz.ntmps98]) ?_
  (refine q_seq (q_region ?_))
  refine ql_alloc zero46 rfl (fun b0 => ?_)
  (refine q_nil (q_seq (q_region ?_)))
  refine ql_mk #[.int .i64 1000, .int .i64 1005] rfl (by kernel_rfl) rfl ?_
  skip
  refine ql_mk #[.int .i64 2000, .int .i64 2009] rfl (by kernel_rfl) rfl ?_
  skip
  refine ql_mkS 78 (spC fourS.tests) rfl (by kernel_rfl) rfl (fun c1 => ?_)
  skip
  refine ql_mkS 3 (ints fourS.rifles) rfl (by kernel_rfl) rfl (fun c2 => ?_)
  skip
  refine ql_mk #[.int .i64 2, .int .i64 3500, .slice (some ⟨c1, 0, none⟩) 2 2, .slice (some ⟨c2, 0, none⟩) 4 4] rfl (by kernel_rfl) rfl ?_
  (refine ql_setA tabOk rfl rfl rfl rfl rfl (by repeat constructor) rfl ?_; refine q_nil (q_ret ?_))
  refine q_fin tabOk rfl (by repeat constructor) fun w hs => ?_
  exact ⟨(c1, c2), rfl, hs.sp (by repeat constructor)⟩
theorem rfive_ca (w : World) : Ca Tryz.prog 99 [] w fun x w' => ∃ b : Nat, x = .slice (some ⟨b, 0, none⟩) 5 5 ∧ Sat w M0 [.pt b (hdC fiveH) 28] w' := by
  refine q_of (Sat.nil w M0) Tryz.func99 rfl (by simp [Tryz.ntmps99]) ?_
  (refine q_seq (q_region (ql_pure tabOk rfl rfl (q_nil (q_seq (q_region ?_))))))
  refine ql_mk #[.int .i64 0, .int .i64 0, .int .i64 10] rfl (by kernel_rfl) rfl ?_
  skip
  refine ql_mk #[.int .i64 0, .int .i64 5, .int .i64 30] rfl (by kernel_rfl) rfl ?_
  skip
  refine ql_mk #[.int .i64 0, .int .i64 8, .int .i64 20] rfl (by kernel_rfl) rfl ?_
  skip
  refine ql_mk #[.int .i64 0, .int .i64 20, .int .i64 40] rfl (by kernel_rfl) rfl ?_
  skip
  refine ql_mk #[.int .i64 0, .int .i64 29, .int .i64 60] rfl (by kernel_rfl) rfl ?_
  skip
  refine ql_mkS 28 (hdC fiveH) rfl (by kernel_rfl) rfl (fun c1 => ?_)
  (refine ql_pure tabOk rfl rfl (q_nil (q_ret ?_)))
  refine q_fin tabOk rfl (by repeat constructor) fun w hs => ?_
  exact ⟨c1, rfl, hs.sp (by repeat constructor)⟩
theorem rtwo_ca (w : World) : Ca Tryz.prog 100 [] w fun x w' => ∃ y : Nat × Nat × Nat, x = .slice (some ⟨y.2.2, 0, none⟩) 2 2 ∧ Sat w M0 [.pt y.2.2 [.slice (some ⟨y.1, 0, none⟩) 4 4, .slice (some ⟨y.2.1, 0, none⟩) 3 3] 29, .pt y.2.1 (ints [400, 350, 320]) 3, .pt y.1 (ints [500, 300, 200, 150]) 3] w' := by
  refine q_of (Sat.nil w M0) Tryz.func100 rfl (by simp [Tryz.ntmps100]) ?_
  (refine q_seq (q_region (ql_pure tabOk rfl rfl (q_nil (q_seq (q_region ?_))))))
  refine ql_mkS 3 (ints [500, 300, 200, 150]) rfl (by kernel_rfl) rfl (fun c1 => ?_)
  refine ql_mkS 3 (ints [400, 350, 320]) rfl (by kernel_rfl) rfl (fun c2 => ?_)
  refine ql_mkS 29 [.slice (some ⟨c1, 0, none⟩) 4 4, .slice (some ⟨c2, 0, none⟩) 3 3] rfl (by kernel_rfl) rfl (fun c4 => ?_)
  (refine ql_pure tabOk rfl rfl (q_nil (q_ret ?_)))
  refine q_fin tabOk rfl (by repeat constructor) fun w hs => ?_
  exact ⟨(c1, c2, c4), rfl, hs.sp (by repeat constructor)⟩
theorem rspan_ca (lo hi : Int) (w : World) : Ca Tryz.prog 47 [.int .i64 lo, .int .i64 hi] w fun x w' => x = rtV (lo, hi) ∧ Chg [] w w' := by
  refine q_of (Sat.nil w M0) Tryz.func47 rfl (by simp [Tryz.ntmps47]) ?_
  (refine q_seq (q_region ?_))
  refine ql_alloc zero56 rfl (fun b4 => ?_)
  (refine q_nil (q_seq (q_region (ql_pure tabOk rfl rfl (ql_pure tabOk rfl rfl ?_)))))
  refine ql_mk #[.int .i64 lo, .int .i64 hi] rfl (by kernel_rfl) rfl ?_
  (refine ql_setA tabOk rfl rfl rfl rfl rfl (by repeat constructor) rfl ?_; refine q_nil (q_ret ?_))
  refine q_fin tabOk rfl (by repeat constructor) fun w hs => ?_
  exact ⟨rfl, hs.chg0⟩
theorem blk_II2 {w : World} {c1 c2 c4 : Nat} {t1 t2 t4 : TypeId} {l1 l2 : List Int} {n1 n2 : Nat} (e1 : n1 = l1.length) (e2 : n2 = l2.length) (h1 : Blk w c1 (ints l1) t1) (h2 : Blk w c2 (ints l2) t2)
    (h4 : Blk w c4 [.slice (some ⟨c1, 0, none⟩) n1 n1, .slice (some ⟨c2, 0, none⟩) n2 n2] t4) : RdII w 0 w.heap.size (.slice (some ⟨c4, 0, none⟩) 2 2) [l1, l2] := by
  subst e1 e2
  refine ⟨[.slice (some ⟨c1, 0, none⟩) l1.length l1.length, .slice (some ⟨c2, 0, none⟩) l2.length l2.length], RdE.one (by have := Blk.rdN (c := 2) (sz := 1) (q := 2) h4 rfl; exact this) (by simp [oneV]), rfl, fun i hi hi' => ?_⟩
  obtain rfl | rfl : i = 0 ∨ i = 1 := by simp at hi; omega
  · exact Blk.rdI h1
  · exact Blk.rdI h2
end Go.Proofs.YtopdmadgkjdgcaaGreat

/- Walks of rifle: the laws begin awake. -/
namespace Go.Proofs.YtopdmadgkjdgcaaGreat
set_option maxRecDepth 4000
open Go Go.Eng
theorem Blk.rdS1 {w : World} {b : Nat} {t : TypeId} (h : Blk w b (spC fourS.tests) t) : RdS w 0 w.heap.size (.slice (some ⟨b, 0, none⟩) 1 2) oneS.tests := by
  refine RdS.of ⟨rfl, .inr ⟨b, 0, 2, rfl, fun _ => ⟨Nat.zero_le _, h.lt, h.lt⟩, fun j hj => ?_⟩⟩
  rw [h.cell, Nat.zero_add]
  have hj2 : j < 2 := hj
  obtain rfl | rfl : j = 0 ∨ j = 1 := by omega
  · rfl
  · rfl
set_option maxHeartbeats 4000000 in
set_option maxRecDepth 4000 in
theorem rawake_ca (w : World) : Ca Tryz.prog 23 [] w fun v w' => v = .bool true ∧ Chg [] w w' := by
  refine q_of (Sat.nil w M0) Tryz.func23 rfl (by simp [Tryz.ntmps23]) ?_
  have hF : ∀ w' c1 c2, Blk w' c1 (spC fourS.tests) 78 → Blk w' c2 (ints fourS.rifles) 3 → ScR w' 0 w'.heap.size (.slice (some ⟨c1, 0, none⟩) 2 2) (.slice (some ⟨c2, 0, none⟩) 4 4) fourS := fun w' c1 c2 h1 h2 => ⟨Blk.rdS' h1 rfl, Blk.rdI (l := fourS.rifles) h2⟩
  (refine q_seq (q_region (ql_pure tabOk rfl rfl (q_nil (q_seq (q_region ?_))))))
  refine ql_call (β := Nat × Nat) tabOk [] _ M0 rfl rfl rfl rfl (Sp.refl _) (fun _ h => h.elim) (fun w' hs => rfour_ca w') ?_
  rintro ⟨c1, c2⟩ _ rfl
  dsimp only [List.cons_append, List.nil_append]
  refine ql_call (β := Value) tabOk [] _ M0 rfl rfl rfl rfl (Sp.refl _) (fun _ h => h.elim) (fun w' hs => weights_ok w' 0 w'.heap.size fourS _ _ (hF w' c1 c2 (hs.blk (by repeat constructor)) (hs.blk (by repeat constructor))) rw_four) ?_
  rintro va _ rfl
  rw [show fourS.rifles.length = 4 from rfl, rw_wgt]
  dsimp only [List.cons_append, List.nil_append]
  refine ql_fact (fun w hs => hs.ownSome (v := va) (by repeat constructor) (by decide)) ?_
  rintro ⟨a1, a2, rfl⟩
  (refine ql_pure tabOk rfl rfl (ql_ext tabOk rfl rfl rfl (ql_ext tabOk rfl rfl rfl (ql_pure tabOk rfl rfl (ql_pure tabOk rfl rfl (q_nil (q_seq (q_region ?_))))))))
  refine ql_call (β := Nat × Nat) tabOk [] _ M0 rfl rfl rfl rfl (Sp.refl _) (fun _ h => h.elim) (fun w' hs => rfour_ca w') ?_
  rintro ⟨d1, d2⟩ _ rfl
  dsimp only [List.cons_append, List.nil_append]
  refine ql_call (β := Value) tabOk [] _ M0 rfl rfl rfl rfl (Sp.refl _) (fun _ h => h.elim) (fun w' hs => passed_ok w' 0 w'.heap.size fourS _ _ (hF w' d1 d2 (hs.blk (by repeat constructor)) (hs.blk (by repeat constructor))) rw_four) ?_
  rintro vb _ rfl
  rw [show fourS.rifles.length = 4 from rfl, show (pasL fourS 4).length = 2 from by have := congrArg List.length rw_pas; simpa [nI] using this, rw_pas]
  dsimp only [List.cons_append, List.nil_append]
  refine ql_fact (fun w hs => hs.ownSome (v := vb) (by repeat constructor) (by decide)) ?_
  rintro ⟨b1, b2, rfl⟩
  (refine ql_pure tabOk rfl rfl (ql_ext tabOk rfl rfl rfl (ql_ext tabOk rfl rfl rfl (ql_pure tabOk rfl rfl (ql_pure tabOk rfl rfl (q_nil (q_seq (q_region ?_))))))))
  refine ql_call (β := Nat × Nat) tabOk [] _ M0 rfl rfl rfl rfl (Sp.refl _) (fun _ h => h.elim) (fun w' hs => rfour_ca w') ?_
  rintro ⟨e1, e2⟩ _ rfl
  dsimp only [List.cons_append, List.nil_append]
  refine ql_call (β := Value) tabOk [] _ M0 rfl rfl rfl rfl (Sp.refl _) (fun _ h => h.elim) (fun w' hs => ropen_ok w' 0 w'.heap.size fourS _ _ (hF w' e1 e2 (hs.blk (by repeat constructor)) (hs.blk (by repeat constructor))) rw_four) ?_
  rintro vc _ rfl
  rw [show (openL fourS (firstK fourS)).length = 1 from by have := congrArg List.length rw_opn; simpa [nI] using this, rw_opn]
  dsimp only [List.cons_append, List.nil_append]
  refine ql_fact (fun w hs => hs.ownSome (v := vc) (by repeat constructor) (by decide)) ?_
  rintro ⟨o1, o2, rfl⟩
  (refine ql_pure tabOk rfl rfl (ql_ext tabOk rfl rfl rfl (ql_ext tabOk rfl rfl rfl (ql_pure tabOk rfl rfl (ql_pure tabOk rfl rfl (q_nil (q_seq (q_region ?_))))))))
  refine ql_call (β := Nat × Nat) tabOk [] _ M0 rfl rfl rfl rfl (Sp.refl _) (fun _ h => h.elim) (fun w' hs => rfour_ca w') ?_
  rintro ⟨f1, f2⟩ _ rfl
  dsimp only [List.cons_append, List.nil_append]
  refine ql_mk #[.int .i64 3, .int .i64 (-1), .int .i64 (-1)] rfl (by kernel_rfl) rfl ?_
  refine ql_mkS 91 (nodC planN) rfl (by kernel_rfl) rfl (fun c4 => ?_)
  skip
  refine ql_callv (val := .tuple #[.int .i64 1, .int .i64 0]) tabOk rfl rfl rfl rfl (fun w hs => ?_) ?_; exact by have := rdepth_ok w 0 w.heap.size fourS _ _ _ planN (hF w f1 f2 (hs.blk (by repeat constructor)) (hs.blk (by repeat constructor))) rw_four (Blk.rdNd (c := 1) (n := 1) (hs.blk (b := c4) (by repeat constructor)) rfl) (by decide); rw [rw_rp, rw_dep] at this; exact this
  (refine ql_pure tabOk rfl rfl (ql_ext tabOk rfl rfl rfl (ql_ext tabOk rfl rfl rfl (ql_pure tabOk rfl rfl (ql_pure tabOk rfl rfl (q_nil (q_seq (q_seq (q_region (ql_pure tabOk rfl rfl (ql_neqF tabOk rfl rfl rfl (by omega) (ql_pure tabOk rfl rfl ?_))))))))))); refine ql_gyes rfl (ql_pure tabOk rfl rfl (ql_gyes rfl (ql_neqF tabOk rfl rfl rfl (by omega) (ql_pure tabOk rfl rfl (ql_pure tabOk rfl rfl (ql_gyes rfl (ql_pure tabOk rfl rfl (ql_gyes rfl (ql_neqF tabOk rfl rfl rfl (by omega) (ql_pure tabOk rfl rfl (ql_pure tabOk rfl rfl ?_))))))))))); refine ql_gyes rfl (ql_pure tabOk rfl rfl (ql_gyes rfl (ql_neqF tabOk rfl rfl rfl (by omega) (ql_pure tabOk rfl rfl (ql_pure tabOk rfl rfl (ql_gyes rfl (ql_pure tabOk rfl rfl (ql_gyes rfl ?_)))))))))
  refine ql_callv (val := rtV (3501, 3505)) tabOk rfl rfl rfl rfl (fun w hs => ?_) ?_; exact rspan_ca 3501 3505 w
  refine ql_gyes rfl ?_
  refine ql_callv (val := rtV (3500, 3504)) tabOk rfl rfl rfl rfl (fun w hs => ?_) ?_; exact rspan_ca 3500 3504 w
  refine ql_gyes rfl ?_
  refine ql_callv (val := rtV (3495, 3499)) tabOk rfl rfl rfl rfl (fun w hs => ?_) ?_; exact rspan_ca 3495 3499 w
  refine ql_gyes rfl ?_
  refine ql_callv (val := rtV (3497, 3501)) tabOk rfl rfl rfl rfl (fun w hs => ?_) ?_; exact rspan_ca 3497 3501 w
  refine ql_gyes rfl ?_
  refine ql_mkS 56 (spC [(3501, 3505), (3500, 3504), (3495, 3499), (3497, 3501)]) rfl (by kernel_rfl) rfl (fun c5 => ?_)
  refine ql_gyes rfl ?_
  refine ql_callv (val := .bool true) tabOk rfl rfl rfl rfl (fun w hs => ?_) ?_; exact eqS_ca w 0 w.heap.size 0 w.heap.size _ _ [(3501, 3505), (3500, 3504), (3495, 3499), (3497, 3501)] (own_rdS (t := 56) (hs.mem (c := .ow (.slice (some ⟨a1, 0, none⟩) 4 a2) 56 2 4 (spC [(3501, 3505), (3500, 3504), (3495, 3499), (3497, 3501)])) (by repeat constructor)) rfl) (Blk.rdS' (c := 4) (hs.blk (b := c5) (by repeat constructor)) rfl) (by decide)
  (refine ql_gyes rfl ?_; (iterate 3 refine ql_pure tabOk rfl rfl ?_); refine ql_gyes rfl (ql_pure tabOk rfl rfl (ql_gyes rfl ?_)))
  refine ql_mkS 3 (ints [0, 1]) rfl (by kernel_rfl) rfl (fun c6 => ?_)
  refine ql_gyes rfl ?_
  refine ql_callv (val := .bool true) tabOk rfl rfl rfl rfl (fun w hs => ?_) ?_; exact eqI_ca w 0 w.heap.size 0 w.heap.size _ _ [0, 1] (hs.rdI (v := .slice (some ⟨b1, 0, none⟩) 2 b2) (l := [0, 1]) (t := 3) (n := 2) (by repeat constructor) rfl) (Blk.rdI (c := 2) (l := [0, 1]) (hs.blk (b := c6) (by repeat constructor))) (by decide)
  (refine ql_gyes rfl ?_; (iterate 3 refine ql_pure tabOk rfl rfl ?_); refine ql_gyes rfl (ql_pure tabOk rfl rfl (ql_gyes rfl ?_)))
  refine ql_mkS 3 (ints [3]) rfl (by kernel_rfl) rfl (fun c7 => ?_)
  refine ql_gyes rfl ?_
  refine ql_callv (val := .bool true) tabOk rfl rfl rfl rfl (fun w hs => ?_) ?_; exact eqI_ca w 0 w.heap.size 0 w.heap.size _ _ [3] (hs.rdI (v := .slice (some ⟨o1, 0, none⟩) 1 o2) (l := [3]) (t := 3) (n := 1) (by repeat constructor) rfl) (Blk.rdI (c := 1) (l := [3]) (hs.blk (b := c7) (by repeat constructor))) (by decide)
  (refine ql_gyes rfl ?_; (iterate 3 refine ql_pure tabOk rfl rfl ?_); refine ql_gyes rfl (ql_pure tabOk rfl rfl (ql_gyes rfl (ql_neqF tabOk rfl rfl rfl (by omega) (ql_pure tabOk rfl rfl (q_nil (q_cond_false rfl (q_skip (q_seq (q_region ?_))))))))))
  refine ql_call (β := Nat × Nat) tabOk [] _ M0 rfl rfl rfl rfl (Sp.refl _) (fun _ h => h.elim) (fun w' hs => rfour_ca w') ?_
  rintro ⟨g1, g2⟩ _ rfl
  dsimp only [List.cons_append, List.nil_append]
  skip
  refine ql_alloc zero46 rfl (fun b9 => ?_)
  (refine ql_setA tabOk rfl rfl rfl rfl rfl (by repeat constructor) rfl ?_; refine q_nil (q_seq (q_region (ql_pure tabOk rfl rfl ?_))); refine ql_loadBa tabOk rfl rfl rfl ?_)
  refine ql_sliceTo (et := 78) (sz := 2) (by kernel_rfl) (by kernel_rfl) rfl rfl rfl (by omega) (by omega) ?_
  rw [show Value.slice (if (2 : Nat) = 0 then some (⟨g1, 0, none⟩ : Addr) else (some (⟨g1, 0, none⟩ : Addr)).map (·.add 0)) (1 : Int).toNat 2 = .slice (some ⟨g1, 0, none⟩) 1 2 from rfl]
  (refine ql_pure tabOk rfl rfl ?_; refine ql_st2 tabOk rfl rfl rfl rfl (by repeat constructor) ?_; refine q_nil (q_seq (q_region ?_)); refine ql_loadABa tabOk rfl rfl rfl ?_)
  refine ql_callv (val := .tuple #[.int .i64 2, .int .i64 0]) tabOk rfl rfl rfl rfl (fun w hs => ?_) ?_; exact by have := rfewest_ok w 0 w.heap.size oneS (.slice (some ⟨g1, 0, none⟩) 1 2) (.slice (some ⟨g2, 0, none⟩) 4 4) ⟨Blk.rdS1 (hs.blk (b := g1) (by repeat constructor)), Blk.rdI (l := oneS.rifles) (hs.blk (b := g2) (by repeat constructor))⟩ rw_one; rw [rw_few] at this; exact this
  (refine ql_pure tabOk rfl rfl (ql_ext tabOk rfl rfl rfl (ql_ext tabOk rfl rfl rfl (ql_pure tabOk rfl rfl (ql_pure tabOk rfl rfl (q_nil (q_seq (q_region ?_))))))))
  refine ql_call (β := Nat) tabOk [] _ M0 rfl rfl rfl rfl (Sp.refl _) (fun _ h => h.elim) (fun w' hs => rfive_ca w') ?_
  rintro h1 _ rfl
  dsimp only [List.cons_append, List.nil_append]
  refine ql_call (β := (Value × List Int) × Int) tabOk [] _ M0 rfl rfl rfl rfl (Sp.refl _) (fun _ h => h.elim) (fun w' hs => chn_ok w' 0 w'.heap.size fiveH _ 0 60 (Blk.rdH' (c := 5) (hs.blk (b := h1) (by repeat constructor)) rfl) (by decide) rw_sp) ?_
  rintro ⟨⟨vl, C⟩, e⟩ _ ⟨rfl, hC⟩
  obtain ⟨he, hCl⟩ := rw_chn hC
  dsimp only at he hCl ⊢
  subst he
  rw [hCl]
  dsimp only [List.cons_append, List.nil_append]
  refine ql_fact (fun w hs => hs.ownSome (v := vl) (by repeat constructor) (by decide)) ?_
  rintro ⟨l1, l2, rfl⟩
  (refine ql_pure tabOk rfl rfl (ql_ext tabOk rfl rfl rfl (ql_ext tabOk rfl rfl rfl (ql_pure tabOk rfl rfl (ql_pure tabOk rfl rfl (q_nil (q_seq (q_region ?_))))))))
  refine ql_call (β := Nat) tabOk [] _ M0 rfl rfl rfl rfl (Sp.refl _) (fun _ h => h.elim) (fun w' hs => rfive_ca w') ?_
  rintro h2 _ rfl
  dsimp only [List.cons_append, List.nil_append]
  refine ql_mkS 3 (ints [0, 10, 30]) rfl (by kernel_rfl) rfl (fun c8 => ?_)
  skip
  refine ql_callv (val := .tuple #[.bool true, .int .i64 0]) tabOk rfl rfl rfl rfl (fun w hs => ?_) ?_; exact by have := mks_ok w 0 w.heap.size 0 w.heap.size fiveH _ _ [0, 10, 30] 0 60 (Blk.rdH' (c := 5) (hs.blk (b := h2) (by repeat constructor)) rfl) (Blk.rdI (c := 3) (l := [0, 10, 30]) (hs.blk (b := c8) (by repeat constructor))) (by decide) rw_sp; rw [show ([0, 10, 30] : List Int).length = 3 from rfl, rw_mk] at this; exact this
  (refine ql_pure tabOk rfl rfl (ql_ext tabOk rfl rfl rfl (ql_ext tabOk rfl rfl rfl (ql_pure tabOk rfl rfl (ql_pure tabOk rfl rfl (q_nil (q_seq (q_region ?_))))))))
  have hT : ∀ w' x1 x2 x4, Blk w' x4 [.slice (some ⟨x1, 0, none⟩) 4 4, .slice (some ⟨x2, 0, none⟩) 3 3] 29 → Blk w' x2 (ints [400, 350, 320]) 3 → Blk w' x1 (ints [500, 300, 200, 150]) 3 → RdII w' 0 w'.heap.size (.slice (some ⟨x4, 0, none⟩) 2 2) twoA := fun w' x1 x2 x4 h4 h2 h1 => blk_II2 (l1 := [500, 300, 200, 150]) (l2 := [400, 350, 320]) rfl rfl h1 h2 h4
  refine ql_call (β := Nat × Nat × Nat) tabOk [] _ M0 rfl rfl rfl rfl (Sp.refl _) (fun _ h => h.elim) (fun w' hs => rtwo_ca w') ?_
  rintro ⟨x1, x2, x4⟩ _ rfl
  dsimp only [List.cons_append, List.nil_append]
  refine ql_call (β := Value) tabOk [] _ M0 rfl rfl rfl rfl (Sp.refl _) (fun _ h => h.elim) (fun w' hs => acurve_ok w' 0 w'.heap.size _ twoA (hT w' x1 x2 x4 (hs.blk (by repeat constructor)) (hs.blk (by repeat constructor)) (hs.blk (by repeat constructor))) rw_aim) ?_
  rintro vk _ rfl
  rw [rw_many, rw_curve]
  dsimp only [List.cons_append, List.nil_append]
  refine ql_fact (fun w hs => hs.ownSome (v := vk) (by repeat constructor) (by decide)) ?_
  rintro ⟨k1, k2, rfl⟩
  (refine ql_pure tabOk rfl rfl (ql_ext tabOk rfl rfl rfl (ql_ext tabOk rfl rfl rfl (ql_pure tabOk rfl rfl (ql_pure tabOk rfl rfl (q_nil (q_seq (q_region ?_))))))))
  refine ql_call (β := Nat × Nat × Nat) tabOk [] _ M0 rfl rfl rfl rfl (Sp.refl _) (fun _ h => h.elim) (fun w' hs => rtwo_ca w') ?_
  rintro ⟨y1, y2, y4⟩ _ rfl
  dsimp only [List.cons_append, List.nil_append]
  refine ql_callv (val := .tuple #[.int .i64 50, .int .i64 0]) tabOk rfl rfl rfl rfl (fun w hs => ?_) ?_; exact by have := aprice_ok w 0 w.heap.size _ twoA 3 (hT w y1 y2 y4 (hs.blk (by repeat constructor)) (hs.blk (by repeat constructor)) (hs.blk (by repeat constructor))) rw_aim (by decide); rw [rw_price] at this; exact this
  (refine ql_pure tabOk rfl rfl (ql_ext tabOk rfl rfl rfl (ql_ext tabOk rfl rfl rfl (ql_pure tabOk rfl rfl (ql_pure tabOk rfl rfl (q_nil (q_seq (q_region (ql_pure tabOk rfl rfl (ql_eqlT tabOk rfl rfl rfl (by omega) (ql_pure tabOk rfl rfl (ql_gyes rfl ?_))))))))))); refine ql_pure tabOk rfl rfl (ql_gyes rfl (ql_eqlT tabOk rfl rfl rfl (by omega) (ql_pure tabOk rfl rfl (ql_pure tabOk rfl rfl (ql_gyes rfl (ql_pure tabOk rfl rfl (ql_gyes rfl (ql_eqlT tabOk rfl rfl rfl (by omega) (ql_pure tabOk rfl rfl (ql_pure tabOk rfl rfl (ql_gyes rfl ?_))))))))))); refine ql_pure tabOk rfl rfl (ql_gyes rfl (ql_eqlT tabOk rfl rfl rfl (by omega) (ql_pure tabOk rfl rfl (ql_pure tabOk rfl rfl (ql_gyes rfl (ql_pure tabOk rfl rfl (ql_gyes rfl (ql_eqlT tabOk rfl rfl rfl (by omega) (ql_pure tabOk rfl rfl (ql_pure tabOk rfl rfl (ql_gyes rfl ?_))))))))))); refine ql_pure tabOk rfl rfl (ql_gyes rfl (ql_eqlT tabOk rfl rfl rfl (by omega) (ql_pure tabOk rfl rfl (ql_pure tabOk rfl rfl (ql_gyes rfl (ql_pure tabOk rfl rfl (ql_gyes rfl (ql_pure tabOk rfl rfl (ql_gyes rfl (ql_eqlT tabOk rfl rfl rfl (by omega) (ql_pure tabOk rfl rfl ?_))))))))))); refine ql_pure tabOk rfl rfl (ql_gyes rfl ?_); (iterate 3 refine ql_pure tabOk rfl rfl ?_); refine ql_gyes rfl (ql_pure tabOk rfl rfl (ql_gyes rfl ?_)))
  refine ql_mkS 3 (ints [900, 700, 600, 550, 500, 470]) rfl (by kernel_rfl) rfl (fun c9 => ?_)
  refine ql_gyes rfl ?_
  refine ql_callv (val := .bool true) tabOk rfl rfl rfl rfl (fun w hs => ?_) ?_; exact eqI_ca w 0 w.heap.size 0 w.heap.size _ _ [900, 700, 600, 550, 500, 470] (hs.rdI (v := .slice (some ⟨k1, 0, none⟩) 6 k2) (l := [900, 700, 600, 550, 500, 470]) (t := 3) (n := 6) (by repeat constructor) rfl) (Blk.rdI (c := 6) (l := [900, 700, 600, 550, 500, 470]) (hs.blk (b := c9) (by repeat constructor))) (by decide)
  (refine ql_pure tabOk rfl rfl (ql_pure tabOk rfl rfl (ql_gyes rfl (ql_pure tabOk rfl rfl (ql_gyes rfl (ql_eqlT tabOk rfl rfl rfl (by omega) (ql_pure tabOk rfl rfl (ql_pure tabOk rfl rfl (q_nil (q_ret ?_))))))))))
  refine q_fin tabOk rfl (by repeat constructor) fun w hs => ?_
  exact ⟨rfl, hs.chg0⟩
end Go.Proofs.YtopdmadgkjdgcaaGreat

/- Walks: a range of the wind; its small functions. Written by gen_Wn.py out of the wind chapter. -/
namespace Go.Proofs.YtopdmadgkjdgcaaGreat
set_option maxRecDepth 4000
open Go Go.Eng
/-- A range. -/
structure Rg where
  radius : Int
  unit : Int
  clicks : Int
  total : Int
  group : List Int
  drifts : List Int
  first : List Int
  next : List (List Int)
/-- The cells of a range, and what its lists hold. -/
def RgC (w : World) (cs : List Value) (r : Rg) : Prop :=
  ∃ lo hi ag cg ad cd af cf an cn, cs = [.int .i64 r.radius, .int .i64 r.unit, .int .i64 r.clicks, .int .i64 r.total, .slice ag r.group.length cg, .slice ad r.drifts.length cd, .slice af r.first.length cf, .slice an r.next.length cn] ∧
    RdI w lo hi (.slice ag r.group.length cg) r.group ∧ RdI w lo hi (.slice ad r.drifts.length cd) r.drifts ∧ RdI w lo hi (.slice af r.first.length cf) r.first ∧ RdII w lo hi (.slice an r.next.length cn) r.next
theorem RgC.keep {w w' : World} {cs : List Value} {r : Rg} (h : RgC w cs r) (c : Chg [] w w') : RgC w' cs r := by
  obtain ⟨lo, hi, ag, cg, ad, cd, af, cf, an, cn, h1, h2, h3, h4, h5⟩ := h
  exact ⟨lo, hi, ag, cg, ad, cd, af, cf, an, cn, h1, RdE.keep h2 c, RdE.keep h3 c, RdE.keep h4 c, h5.keep c⟩
/-- A desk, in block b. -/
def DkAt (w : World) (b : Nat) (r : Rg) : Prop := ∃ cs t, Blk w b cs t ∧ RgC w cs r
theorem DkAt.keep {w w' : World} {b : Nat} {r : Rg} (h : DkAt w b r) (c : Chg [] w w') : DkAt w' b r := by
  obtain ⟨cs, t, h1, h2⟩ := h
  exact ⟨cs, t, h1.keep c, h2.keep c⟩
/-- The sizes that a range can have. -/
structure Rg.Small (r : Rg) : Prop where
  group : r.group.length ≤ 24
  drifts : r.drifts.length ≤ 7
  first : r.first.length ≤ 7
  next : r.next.length ≤ 7
  rows : ∀ l ∈ r.next, l.length ≤ 7
/-- A right range. -/
structure Rg.Right (r : Rg) : Prop where
  g1 : 1 ≤ r.group.length
  g2 : r.group.length ≤ 21
  odd : r.group.length % 2 = 1
  d1 : 1 ≤ r.drifts.length
  d2 : r.drifts.length ≤ 5
  first : r.first.length = r.drifts.length
  next : r.next.length = r.drifts.length
  rows : ∀ l ∈ r.next, l.length = r.drifts.length
  radius : 0 ≤ r.radius ∧ r.radius ≤ 200
  unit : 1 ≤ r.unit ∧ r.unit ≤ 20
  clicks : 0 ≤ r.clicks ∧ r.clicks ≤ 6
  total : 1 ≤ r.total ∧ r.total ≤ 12
  drift : ∀ x ∈ r.drifts, -300 ≤ x ∧ x ≤ 300
  weight : ∀ x ∈ r.group, 0 ≤ x ∧ x ≤ 100
  chance : ∀ x ∈ r.first, 0 ≤ x ∧ x ≤ r.total
  chances : ∀ l ∈ r.next, ∀ x ∈ l, 0 ≤ x ∧ x ≤ r.total
  gsum : 1 ≤ r.group.sum ∧ r.group.sum ≤ 100
  fsum : r.first.sum = r.total
  nsum : ∀ l ∈ r.next, l.sum = r.total
theorem in_ca (n lo hi : Int) (w : World) : Ca Tryz.prog 154 [.int .i64 n, .int .i64 lo, .int .i64 hi] w fun v w' => v = .bool (inB n lo hi) ∧ Chg [] w w' := by
  refine q_of (Sat.nil w M0) Tryz.func154 rfl (by simp [Tryz.ntmps154]) ?_
  (refine q_seq (q_region (ql_pure tabOk rfl rfl (q_nil (q_seq (q_region ?_))))); (iterate 4 refine ql_pure tabOk rfl rfl ?_))
  refine ql_split rfl rfl (fun hc => ?_) (fun hc => ?_)
  · (refine ql_gyes rfl (ql_pure tabOk rfl rfl (ql_gyes rfl (ql_pure tabOk rfl rfl (ql_gyes rfl ?_)))); (iterate 3 refine ql_pure tabOk rfl rfl ?_); refine q_nil (q_ret ?_))
    exact q_fin1 rfl rfl fun w' hs => ⟨by simp at hc; simp [inB, hc], hs.chg0⟩
  · ((iterate 3 refine ql_gno rfl rfl rfl ?_); refine ql_pure tabOk rfl rfl (ql_pure tabOk rfl rfl (q_nil (q_ret ?_))))
    exact q_fin1 rfl rfl fun w' hs => ⟨by simp at hc; simp [inB]; omega, hs.chg0⟩
theorem sum_bd {c : Int} : ∀ (l : List Int), (∀ x ∈ l, -c ≤ x ∧ x ≤ c) → -(c * l.length) ≤ l.sum ∧ l.sum ≤ c * l.length
  | [], _ => by simp
  | x :: l, h => by
    have h1 := sum_bd l (fun y hy => h y (List.mem_cons_of_mem _ hy))
    have h2 := h x List.mem_cons_self
    have e : c * ((x :: l).length : Int) = c * l.length + c := by simp [Int.mul_add]
    rw [e, List.sum_cons]
    omega
theorem sum_take_bd {c : Int} {m : Nat} (l : List Int) (k : Nat) (h : ∀ x ∈ l, -c ≤ x ∧ x ≤ c) (hl : l.length ≤ m) (hc : 0 ≤ c) : -(c * m) ≤ (l.take k).sum ∧ (l.take k).sum ≤ c * m := by
  have h1 := sum_bd (l.take k) (fun x hx => h x (List.mem_of_mem_take hx))
  have h2 : c * (l.take k).length ≤ c * m := Int.mul_le_mul_of_nonneg_left (by rw [List.length_take]; omega) hc
  omega
theorem sum_take_succ (l : List Int) (k : Nat) (hk : k < l.length) : (l.take (k + 1)).sum = (l.take k).sum + l[k] := by
  rw [List.take_succ_eq_append_getElem hk, List.sum_append]
  simp
theorem sum_ca (w : World) (lo hi : Nat) (v : Value) (l : List Int) (h : RdI w lo hi v l) (hlen : l.length < 1000000) (hb : ∀ x ∈ l, -1000000 ≤ x ∧ x ≤ 1000000) :
    Ca Tryz.prog 182 [v] w fun r w' => r = .int .i64 l.sum ∧ Chg [] w w' := by
  obtain ⟨a, cap, rfl, hs⟩ := h.outI
  refine q_of (Sat.nil w M0) Tryz.func182 rfl (by simp [Tryz.ntmps182]) ?_
  (refine q_seq (q_region (ql_pure tabOk rfl rfl (q_nil (q_seq (q_region (ql_pure tabOk rfl rfl (q_nil (q_seq (q_seq (q_region ?_)))))))))); (iterate 3 refine ql_pure tabOk rfl rfl ?_); refine q_nil (q_block ?_))
  refine q_loop (σ := Nat) (fun k => k ≤ l.length) (fun k => l.length - k) (fun k => [(3, .int .i64 (l.take k).sum), (6, .slice a l.length cap), (7, .int .i64 l.length), (8, .int .i64 k)]) (fun _ => []) 0 (by omega) ⟨rfl, rfl, rfl, rfl, trivial⟩ .nil ?_
  intro k hk K hK
  (refine q_seq (q_region (ql_pure tabOk rfl rfl (q_nil (q_seq ?_)))))
  refine q_if rfl (fun hc => ?_) (fun hc => ?_)
  · have hk : k < l.length := by omega
    obtain ⟨b, off, rfl⟩ := hs (by omega)
    (refine q_skip (q_seq (q_block (q_seq (q_region ?_)))))
    have h1 := sum_take_bd l k hb (show l.length ≤ 1000000 by omega) (by omega)
    have h2 := hb l[k] (List.getElem_mem hk)
    (refine ql_index tabOk rfl rfl rfl rfl rfl (by omega) (by omega) ?_; refine ql_load1 tabOk rfl rfl rfl (fun w hs => RdI.at (h.keep hs.chg0) k hk) ?_)
    (refine ql_pure tabOk rfl rfl (q_nil (q_region (ql_pure tabOk rfl rfl (ql_pure tabOk rfl rfl (ql_ar tabOk rfl rfl rfl rfl (by omega) (by omega) (ql_pure tabOk rfl rfl (q_nil (q_blk (q_region (ql_ar tabOk rfl rfl rfl rfl (by omega) (by omega) (ql_pure tabOk rfl rfl ?_))))))))))); refine q_nil ?_)
    exact hK (k + 1) _ _ (by omega) (by omega) ⟨by rw [sum_take_succ l k hk]; rfl, rfl, rfl, rfl, trivial⟩ (by repeat constructor)
  · obtain rfl : k = l.length := by omega
    (refine q_exit _ rfl (q_seq (q_region (ql_pure tabOk rfl rfl (ql_pure tabOk rfl rfl (q_nil (q_ret ?_)))))))
    exact q_fin1 rfl rfl fun w' hs => ⟨by rw [List.take_length], hs.chg0⟩
theorem group_ca (w : World) (b : Nat) (r : Rg) (hd : DkAt w b r) (hr : r.Right) : Ca Tryz.prog 156 [.pointer (some ⟨b, 0, none⟩)] w fun v w' => v = .int .i64 r.group.sum ∧ Chg [] w w' := by
  obtain ⟨cs, bt, hblk, lo, hi, ag, cg, ad, cd, af, cf, an, cn, rfl, hg, hdr, hf, hn⟩ := hd
  refine q_of (Sat.nil w M0) Tryz.func156 rfl (by simp [Tryz.ntmps156]) ?_
  (refine q_seq (q_region (ql_pure tabOk rfl rfl (q_nil (q_seq (q_region ?_))))); (iterate 4 refine ql_pure tabOk rfl rfl ?_); refine ql_loadP tabOk rfl rfl rfl (by assumption) (by rfl) ?_)
  (refine ql_callv tabOk rfl rfl rfl rfl (fun w hs => sum_ca w lo hi _ r.group (hg.keep hs.chg0) (by have := hr.g2; omega) (fun x hx => by have := hr.weight x hx; omega)) ?_)
  (refine ql_pure tabOk rfl rfl (q_nil (q_ret ?_)))
  exact q_fin1 rfl rfl fun w' hs => ⟨rfl, hs.chg0⟩
/-- An impact hits. -/
def hitB (r : Rg) (n : Int) : Bool := inB n (-r.radius) r.radius
theorem hits_ca (w : World) (b : Nat) (r : Rg) (n : Int) (hd : DkAt w b r) (hr : 0 ≤ r.radius ∧ r.radius ≤ 200) : Ca Tryz.prog 183 [.pointer (some ⟨b, 0, none⟩), .int .i64 n] w fun v w' => v = .bool (hitB r n) ∧ Chg [] w w' := by
  obtain ⟨cs, bt, hblk, lo, hi, ag, cg, ad, cd, af, cf, an, cn, rfl, hg, hdr, hf, hn⟩ := hd
  refine q_of (Sat.nil w M0) Tryz.func183 rfl (by simp [Tryz.ntmps183]) ?_
  (refine q_seq (q_region (ql_pure tabOk rfl rfl (q_nil (q_seq ?_)))))
  refine q_draw _ [] (Sp.refl _) (by kernel_rfl) (by kernel_rfl) ?_
  ((iterate 5 refine qf_pure tabOk rfl rfl rfl ?_); refine qf_loadP tabOk rfl rfl rfl (by assumption) (by rfl) ?_; refine qf_neg tabOk rfl rfl (by omega) (by omega) ?_; (iterate 4 refine qf_pure tabOk rfl rfl rfl ?_); refine qf_loadP tabOk rfl rfl rfl (by assumption) (by rfl) ?_)
  refine qf_callv tabOk rfl rfl rfl rfl (fun w hs => in_ca n (-r.radius) r.radius w) ?_
  (refine qf_pure tabOk rfl rfl rfl (qf_nil (q_ret ?_)))
  exact q_fin1 rfl rfl fun w' hs => ⟨rfl, hs.chg0⟩
theorem mul_bd {a b A B : Int} (ha : -A ≤ a ∧ a ≤ A) (hb : -B ≤ b ∧ b ≤ B) : -(A * B) ≤ a * b ∧ a * b ≤ A * B := by
  have hA : 0 ≤ A := by omega
  have hB : 0 ≤ B := by omega
  have h1 : a.natAbs * b.natAbs ≤ A.natAbs * B.natAbs := Nat.mul_le_mul (by omega) (by omega)
  have h2 : (a * b).natAbs ≤ (A * B).natAbs := by rw [Int.natAbs_mul, Int.natAbs_mul]; exact h1
  have h3 : 0 ≤ A * B := Int.mul_nonneg hA hB
  omega
/-- A fraction in lowest terms. -/
def ratioV (n d : Int) : Int × Int := (n / (Int.gcd n d : Int), d / (Int.gcd n d : Int))
def wrtV (q : Int × Int) : Value := .agg #[.int .i64 q.1, .int .i64 q.2]
theorem gcd_step (a b : Int) : Int.gcd b (a % b) = Int.gcd a b := by
  rw [Int.emod_def, Int.gcd_sub_mul_left_right, Int.gcd_comm]
theorem ratio_ca (n d : Int) (w : World) (hn : 0 ≤ n) (hd : 0 < d) (hn' : n < 9223372036854775808) (hd' : d < 9223372036854775808) :
    Ca Tryz.prog 155 [.int .i64 n, .int .i64 d] w fun v w' => v = wrtV (ratioV n d) ∧ Chg [] w w' := by
  refine q_of (Sat.nil w M0) Tryz.func155 rfl (by simp [Tryz.ntmps155]) ?_
  (refine q_seq (q_region ?_))
  refine ql_alloc zero142 rfl (fun b4 => ?_)
  (refine q_nil (q_seq (q_region ?_)); (iterate 4 refine ql_pure tabOk rfl rfl ?_); refine q_nil (q_seq (q_block ?_)))
  refine q_loop (σ := Int × Int) (fun s => 0 ≤ s.1 ∧ 0 ≤ s.2 ∧ s.1 < 9223372036854775808 ∧ s.2 < 9223372036854775808 ∧ Int.gcd s.1 s.2 = Int.gcd n d) (fun s => s.2.toNat) (fun s => [(0, .int .i64 n), (1, .int .i64 d), (4, .pointer (some ⟨b4, 0, none⟩)), (5, .int .i64 s.1), (6, .int .i64 s.2)])
    (fun _ => [.pt b4 [.int .i64 0, .int .i64 0] 142]) (n, d) ⟨hn, by omega, hn', hd', rfl⟩ ⟨rfl, rfl, rfl, rfl, rfl, trivial⟩ (Sp.refl _) ?_
  rintro ⟨a, b⟩ ⟨h1, h2, h3, h4, h5⟩ K hK
  simp only at h1 h2 h3 h4 h5
  (refine q_seq (q_seq (q_region (ql_pure tabOk rfl rfl (ql_pure tabOk rfl rfl (q_nil ?_))))))
  refine q_if rfl (fun hc => ?_) (fun hc => ?_)
  · (refine q_skip (q_block ?_))
    refine q_draw _ [] (Sp.refl _) (by kernel_rfl) (by kernel_rfl) ?_
    ((iterate 3 refine qf_pure tabOk rfl rfl rfl ?_); refine qf_remN rfl rfl rfl (by omega) (by omega) (qf_pure tabOk rfl rfl rfl (qf_pure tabOk rfl rfl rfl (qf_nil (q_blk ?_)))))
    have h6 := Int.emod_nonneg a (show b ≠ 0 by omega)
    have h7 := Int.emod_lt_of_pos a (show 0 < b by omega)
    exact hK (b, a % b) _ _ ⟨h2, h6, h4, by simp only; omega, (gcd_step a b).trans h5⟩ (by simp only; omega) ⟨rfl, rfl, rfl, rfl, rfl, trivial⟩ (by repeat constructor)
  · obtain rfl : b = 0 := by omega
    have h6 : (Int.gcd n d : Int) = a := by
      rw [← h5]
      simp
      omega
    have h7 : 0 < a := by
      have : Int.gcd n d ≠ 0 := by
        intro h
        have := Int.gcd_eq_zero_iff.1 h
        omega
      omega
    (refine q_exit _ rfl (q_seq (q_region (ql_pure tabOk rfl rfl (ql_pure tabOk rfl rfl (ql_neg tabOk rfl rfl (by omega) (by omega) (ql_pure tabOk rfl rfl (ql_pure tabOk rfl rfl (q_nil (q_seq ?_))))))))))
    rw [show max a (-a) = a by omega]
    skip
    refine q_draw _ [.pt b4 _ _] (Sp.cons (by repeat constructor) (Sp.refl _)) (by kernel_rfl) (by kernel_rfl) ?_
    (refine qf_pure tabOk rfl rfl rfl (qf_pure tabOk rfl rfl rfl (qf_quoN rfl rfl rfl (by omega) (by omega) (by omega) (qf_pure tabOk rfl rfl rfl (qf_pure tabOk rfl rfl rfl (qf_quoN rfl rfl rfl (by omega) (by omega) (by omega) ?_))))))
    refine qf_mk #[.int .i64 (n / a), .int .i64 (d / a)] rfl (by kernel_rfl) rfl ?_
    (refine qf_setA tabOk rfl rfl rfl rfl rfl (by repeat constructor) rfl ?_; refine qf_nil (q_ret ?_))
    refine q_fin tabOk rfl (by repeat constructor) fun w hs => ?_
    exact ⟨by rw [ratioV, h6]; rfl, hs.chg0⟩
/-- What can be compared without wrapping. -/
def Fine (q : Int × Int) : Prop := 0 ≤ q.1 ∧ q.1 ≤ 1000000000 ∧ 0 < q.2 ∧ q.2 ≤ 1000000000
def lessB (p q : Int × Int) : Bool := decide (p.1 * q.2 < q.1 * p.2) && true
/-- The weights of the offsets, those that hit counted 0. -/
def missL (r : Rg) (drift click : Int) : List Int := r.group.zipIdx.map fun p => if hitB r (drift + (p.2 : Int) - (r.group.length : Int) / 2 + click * r.unit) then 0 else p.1
def missS (r : Rg) (drift click : Int) : Int := (missL r drift click).sum
theorem missL_length (r : Rg) (drift click : Int) : (missL r drift click).length = r.group.length := by simp [missL]
theorem missL_get (r : Rg) (drift click : Int) (k : Nat) (hk : k < r.group.length) : (missL r drift click)[k]'(by rw [missL_length]; exact hk) = if hitB r (drift + (k : Int) - (r.group.length : Int) / 2 + click * r.unit) then 0 else r.group[k] := by
  simp [missL]
theorem missL_bd (r : Rg) (hr : r.Right) (drift click : Int) : ∀ x ∈ missL r drift click, -100 ≤ x ∧ x ≤ 100 := by
  intro x hx
  obtain ⟨k, hk, rfl⟩ := List.getElem_of_mem hx
  have hk' : k < r.group.length := by rwa [missL_length] at hk
  have := hr.weight r.group[k] (List.getElem_mem hk')
  rw [missL_get r drift click k hk']
  split <;> omega
theorem wmissed_ca (w : World) (b : Nat) (r : Rg) (drift click : Int) (hd : DkAt w b r) (hr : r.Right) (h1 : -1000000 ≤ drift ∧ drift ≤ 1000000) (h2 : -1000 ≤ click ∧ click ≤ 1000) :
    Ca Tryz.prog 157 [.pointer (some ⟨b, 0, none⟩), .int .i64 drift, .int .i64 click] w fun v w' => v = .int .i64 (missS r drift click) ∧ Chg [] w w' := by
  have hd0 := hd
  obtain ⟨cs, bt, hblk, lo, hi, ag, cg, ad, cd, af, cf, an, cn, rfl, hg, hdr, hf, hn⟩ := hd
  obtain ⟨_, _, hsl, hsg⟩ := RdI.outI hg
  cases hsl
  have hlen : r.group.length ≤ 21 := hr.g2
  have hcu := mul_bd h2 (show -20 ≤ r.unit ∧ r.unit ≤ 20 by have := hr.unit; omega)
  refine q_of (Sat.nil w M0) Tryz.func157 rfl (by simp [Tryz.ntmps157]) ?_
  (refine q_seq (q_region (ql_pure tabOk rfl rfl (q_nil (q_seq (q_region ?_))))); (iterate 3 refine ql_pure tabOk rfl rfl ?_); refine q_nil (q_seq (q_region (ql_pure tabOk rfl rfl (q_nil (q_seq (q_seq (q_region ?_))))))); (iterate 4 refine ql_pure tabOk rfl rfl ?_); refine ql_loadP tabOk rfl rfl rfl (by assumption) (by rfl) ?_; refine ql_pure tabOk rfl rfl (ql_pure tabOk rfl rfl (q_nil (q_block ?_))))
  refine q_loop (σ := Nat) (fun k => k ≤ r.group.length) (fun k => r.group.length - k) (fun k => [(0, .pointer (some ⟨b, 0, none⟩)), (1, .int .i64 drift), (2, .int .i64 click), (7, .func (.func 183) #[.pointer (some ⟨b, 0, none⟩)] #[]), (8, .int .i64 ((missL r drift click).take k).sum), (17, .slice ag r.group.length cg), (18, .int .i64 r.group.length), (19, .int .i64 k)]) (fun _ => []) 0 (by omega) ⟨rfl, rfl, rfl, rfl, rfl, rfl, rfl, rfl, trivial⟩ .nil ?_
  intro k hk K hK
  (refine q_seq (q_region (ql_pure tabOk rfl rfl (q_nil (q_seq ?_)))))
  refine q_if rfl (fun hc => ?_) (fun hc => ?_)
  · have hk : k < r.group.length := by omega
    obtain ⟨b0, off, rfl⟩ := hsg (by omega)
    have h3 := sum_take_bd (missL r drift click) k (missL_bd r hr drift click) (show (missL r drift click).length ≤ 21 by rw [missL_length]; omega) (by omega)
    have h4 := hr.weight r.group[k] (List.getElem_mem hk)
    have h5 := sum_take_succ (missL r drift click) k (by rw [missL_length]; exact hk)
    rw [missL_get r drift click k hk] at h5
    (refine q_skip (q_seq (q_block (q_seq (q_region (ql_pure tabOk rfl rfl ?_))))))
    (refine ql_index tabOk rfl rfl rfl rfl rfl (by omega) (by omega) ?_; refine ql_load1 tabOk rfl rfl rfl (fun w hs => RdI.at (hg.keep hs.chg0) k hk) ?_)
    (refine ql_pure tabOk rfl rfl (ql_pure tabOk rfl rfl (q_nil (q_seq ?_))))
    refine q_draw _ [] (Sp.refl _) (by kernel_rfl) (by kernel_rfl) ?_
    ((iterate 3 refine qf_pure tabOk rfl rfl rfl ?_); refine qf_ar tabOk rfl rfl rfl rfl (by omega) (by omega) ?_; (iterate 4 refine qf_pure tabOk rfl rfl rfl ?_); refine qf_loadP tabOk rfl rfl rfl (by assumption) (by rfl) ?_; refine qf_pure tabOk rfl rfl rfl (qf_quoN rfl rfl rfl (by omega) (by omega) (by omega) (qf_ar tabOk rfl rfl rfl rfl (by omega) (by omega) ?_)); (iterate 5 refine qf_pure tabOk rfl rfl rfl ?_); refine qf_loadP tabOk rfl rfl rfl (by assumption) (by rfl) ?_; refine qf_ar tabOk rfl rfl rfl rfl (by omega) (by omega) (qf_ar tabOk rfl rfl rfl rfl (by omega) (by omega) ?_))
    refine qf_callv tabOk rfl rfl rfl rfl (fun w hs => hits_ca w b r _ (hd0.keep hs.chg0) hr.radius) ?_
    (refine qf_pure tabOk rfl rfl rfl (qf_nil ?_))
    refine q_cond rfl (fun hc => ?_) (fun hc => ?_)
    · simp at hc
      rw [hc] at h5
      (refine q_region (ql_pure tabOk rfl rfl (ql_pure tabOk rfl rfl (ql_ar tabOk rfl rfl rfl rfl (by omega) (by omega) (ql_pure tabOk rfl rfl (q_nil (q_blk (q_region (ql_ar tabOk rfl rfl rfl rfl (by omega) (by omega) (ql_pure tabOk rfl rfl (q_nil ?_)))))))))))
      exact hK (k + 1) _ _ (by omega) (by omega) ⟨rfl, rfl, rfl, rfl, by rw [h5]; rfl, rfl, rfl, rfl, trivial⟩ (by repeat constructor)
    · simp at hc
      rw [hc] at h5
      (refine q_skip (q_blk (q_region (ql_ar tabOk rfl rfl rfl rfl (by omega) (by omega) (ql_pure tabOk rfl rfl (q_nil ?_))))))
      exact hK (k + 1) _ _ (by omega) (by omega) ⟨rfl, rfl, rfl, rfl, by rw [h5]; simp; rfl, rfl, rfl, rfl, trivial⟩ (by repeat constructor)
  · obtain rfl : k = r.group.length := by omega
    (refine q_exit _ rfl (q_seq (q_region (ql_pure tabOk rfl rfl (ql_pure tabOk rfl rfl (q_nil (q_ret ?_)))))))
    refine q_fin tabOk rfl (by repeat constructor) fun w hs => ?_
    exact ⟨by rw [missS, List.take_of_length_le (by rw [missL_length]; omega)]; rfl, hs.chg0⟩
end Go.Proofs.YtopdmadgkjdgcaaGreat

/- Walks: which ranges are right; the chance of a hit. Written by gen_Wn.py out of the wind chapter. -/
namespace Go.Proofs.YtopdmadgkjdgcaaGreat
set_option maxRecDepth 4000
open Go Go.Eng
theorem all1_wint (w : World) (b t : Nat) (cv x : Value) (es : List Value) (p : Value → Bool) (_hx : oneV x = true) (hm : x ∈ es) (hb : Blk w b [cv] t) (hp : PredAt Tryz.prog tab w cv es p) :
    Ca Tryz.prog 227 [x, .pointer (some ⟨b, 0, none⟩)] w fun r w' => r = .bool (!(p x)) ∧ Chg [] w w' := by
  obtain ⟨g, first, caps, rfl, hg, hcl⟩ := hp
  refine ca_of Tryz.func227 rfl (by simp [Tryz.ntmps227]) ?_
  (refine y_seq (y_region (yl_pure tabOk rfl rfl (y_seq (y_region ?_)))); refine yl_loadB tabOk rfl rfl rfl (by assumption) (by rfl) ?_; refine yl_pure tabOk rfl rfl ?_)
  refine yl_call tabOk rfl hg rfl rfl (hcl w (Chg.refl _ _) _ hm) ?_
  rintro _ w2 ⟨rfl, hc2⟩
  (refine yl_pure tabOk rfl rfl (yl_pure tabOk rfl rfl (y_ret ?_)))
  exact y_fin1 rfl rfl ⟨rfl, hc2⟩
theorem all_wint (w : World) (lo hi : Nat) (v cv : Value) (es : List Value) (p : Value → Bool) (hrd : RdE w lo hi v 1 es) (hone : ∀ i (hi : i < es.length), oneV es[i] = true) (hlen : es.length < 4611686018427387904) (hp : PredAt Tryz.prog tab w cv es p) :
    Ca Tryz.prog 207 [v, cv] w fun r w' => r = .bool (es.all p) ∧ Chg [] w w' := by
  refine ca_of Tryz.func207 rfl (by simp [Tryz.ntmps207]) ?_
  (refine y_seq (y_region ?_))
  refine yl_box rfl rfl (fun w1 hc1 hs1 hb1 => ?_)
  have hcv : cv.cells.toList = [cv] := by obtain ⟨g, first, caps, rfl, _, _⟩ := hp; rfl
  rw [hcv] at hb1
  have hp1 : PredAt Tryz.prog tab w1 (.func (.func 227) #[] #[.pointer (some ⟨w.heap.size, 0, none⟩)]) es (fun x => !(p x)) := by
    refine ⟨227, #[], #[_], rfl, rfl, fun w' hw' x hx => ?_⟩
    refine all1_wint w' w.heap.size _ cv x es p ?_ hx (hb1.keep hw') (hp.keep (hc1.trans hw'))
    obtain ⟨i, hi, rfl⟩ := List.getElem_of_mem hx
    exact hone i hi
  (refine yl_pure tabOk rfl rfl (y_seq (y_region (yl_pure tabOk rfl rfl (yl_pure tabOk rfl rfl ?_)))))
  refine yl_call tabOk rfl rfl rfl rfl (conF_int w1 lo hi v _ es _ (hrd.keep hc1) hone hlen hp1) ?_
  rintro _ w2 ⟨rfl, hc2⟩
  (refine yl_pure tabOk rfl rfl (yl_pure tabOk rfl rfl (y_ret ?_)))
  refine y_fin1 rfl rfl ⟨?_, hc1.trans hc2⟩
  rw [List.all_eq_not_any_not]
/-- A predicate of rows, as a function value. -/
def RowP (w : World) (lo hi : Nat) (cv : Value) (ll : List (List Int)) (p : List Int → Bool) : Prop :=
  ∃ g first caps, cv = .func (.func g) first caps ∧ has tab.fn g = true ∧
    ∀ w', Chg [] w w' → ∀ l ∈ ll, ∀ v, RdI w' lo hi v l → Ca Tryz.prog g (first.toList ++ [v] ++ caps.toList) w' fun v w'' => v = .bool (p l) ∧ Chg [] w' w''
theorem RowP.keep {w w1 : World} {lo hi : Nat} {cv : Value} {ll : List (List Int)} {p : List Int → Bool} (h : RowP w lo hi cv ll p) (c : Chg [] w w1) : RowP w1 lo hi cv ll p := by
  obtain ⟨g, f, cs, h1, h2, h3⟩ := h
  exact ⟨g, f, cs, h1, h2, fun w' hw => h3 w' (c.trans hw)⟩
theorem idxR (w : World) (lo hi : Nat) (v cv : Value) (ll : List (List Int)) (p : List Int → Bool) (hrd : RdII w lo hi v ll) (hlen : ll.length < 1000000) (hp : RowP w lo hi cv ll p) :
    Ca Tryz.prog 200 [v, cv] w fun r w' => (∃ i : Int, r = .int .i64 i ∧ decide (0 ≤ i) = ll.any p) ∧ Chg [] w w' := by
  obtain ⟨a, cap, rfl, hsl⟩ := hrd.outI
  obtain ⟨g, first, caps, rfl, hg, hcl⟩ := hp
  refine q_of (Sat.nil w M0) Tryz.func200 rfl (by simp [Tryz.ntmps200]) ?_
  (refine q_seq (q_region (ql_pure tabOk rfl rfl (q_nil (q_seq (q_seq (q_region ?_)))))); (iterate 3 refine ql_pure tabOk rfl rfl ?_); refine q_nil (q_block ?_))
  refine q_loop (σ := Nat) (fun k => k ≤ ll.length ∧ (ll.take k).any p = false) (fun k => ll.length - k) (fun k => [(0, .slice a ll.length cap), (1, .func (.func g) first caps), (7, .int .i64 ll.length), (8, .int .i64 k)]) (fun _ => []) 0 ⟨by omega, rfl⟩ ⟨rfl, rfl, rfl, rfl, trivial⟩ .nil ?_
  rintro k ⟨hk, hpk⟩ K hK
  (refine q_seq (q_region (ql_pure tabOk rfl rfl (q_nil (q_seq ?_)))))
  refine q_if rfl (fun hc => ?_) (fun hc => ?_)
  · have hk : k < ll.length := by omega
    obtain ⟨b, off, rfl⟩ := hsl (by omega)
    obtain ⟨ar, cr, hrow, hcell⟩ := hrd.row k hk
    (refine q_skip (q_seq (q_block (q_seq (q_region (ql_pure tabOk rfl rfl (ql_pure tabOk rfl rfl (q_nil (q_seq (q_region ?_))))))))); (iterate 3 refine ql_pure tabOk rfl rfl ?_))
    refine ql_index tabOk rfl rfl rfl rfl rfl (by omega) (by omega) ?_
    refine ql_load1 (v := .slice ar ll[k].length cr) tabOk rfl rfl rfl (fun w' hs => hcell w' hs.chg0) ?_
    refine ql_callv tabOk rfl hg rfl rfl (fun w' hs => hcl w' hs.chg0 ll[k] (List.getElem_mem hk) _ (RdE.keep hrow hs.chg0)) ?_
    (refine q_nil ?_)
    refine q_cond rfl (fun hc => ?_) (fun hc => ?_)
    · (refine q_seq (q_region (ql_pure tabOk rfl rfl (ql_pure tabOk rfl rfl (q_nil (q_ret ?_))))))
      refine q_fin tabOk rfl (by repeat constructor) fun w hs => ?_
      refine ⟨⟨k, rfl, ?_⟩, hs.chg0⟩
      rw [decide_eq_true (by omega), List.any_eq_true.2 ⟨ll[k], List.getElem_mem hk, hc⟩]
    · (refine q_skip (q_blk (q_region (ql_ar tabOk rfl rfl rfl rfl (by omega) (by omega) (ql_pure tabOk rfl rfl (q_nil ?_))))))
      exact hK (k + 1) _ _ ⟨by omega, by rw [List.take_succ_eq_append_getElem hk, List.any_append, hpk]; simp [hc]⟩ (by omega) ⟨rfl, rfl, rfl, rfl, trivial⟩ (by repeat constructor)
  · obtain rfl : k = ll.length := by omega
    rw [List.take_length] at hpk
    (refine q_exit _ rfl (q_seq (q_region (ql_pure tabOk rfl rfl (q_nil (q_ret ?_))))))
    refine q_fin tabOk rfl (by repeat constructor) fun w hs => ?_
    exact ⟨⟨-1, rfl, by rw [hpk]; rfl⟩, hs.chg0⟩
theorem conR (w : World) (lo hi : Nat) (v cv : Value) (ll : List (List Int)) (p : List Int → Bool) (hrd : RdII w lo hi v ll) (hlen : ll.length < 1000000) (hp : RowP w lo hi cv ll p) :
    Ca Tryz.prog 175 [v, cv] w fun r w' => r = .bool (ll.any p) ∧ Chg [] w w' := by
  refine q_of (Sat.nil w M0) Tryz.func175 rfl (by simp [Tryz.ntmps175]) ?_
  (refine q_seq (q_region (ql_pure tabOk rfl rfl (q_nil (q_seq (q_region (ql_pure tabOk rfl rfl (ql_pure tabOk rfl rfl ?_))))))))
  refine ql_call (β := Int) (ψ := fun i v => v = .int .i64 i ∧ decide (0 ≤ i) = ll.any p) (L' := fun _ => []) tabOk [] _ M0 rfl rfl rfl rfl (Sp.refl _) (fun _ h => h.elim) (fun w' hs => (idxR w' lo hi v cv ll p (hrd.keep hs.chg0) hlen (hp.keep hs.chg0)).mono (fun r w'' ⟨⟨i, h1, h2⟩, h3⟩ => ⟨i, ⟨h1, h2⟩, (Sat.nil w' M0).keep h3⟩)) ?_
  rintro i _ ⟨rfl, hi⟩
  (refine ql_pure tabOk rfl rfl (ql_pure tabOk rfl rfl (q_nil (q_ret ?_))))
  refine q_fin tabOk rfl (by repeat constructor) fun w hs => ?_
  exact ⟨by rw [← hi]; rfl, hs.chg0⟩
theorem allR1 (w : World) (lo hi : Nat) (b t : Nat) (cv v : Value) (l : List Int) (ll : List (List Int)) (p : List Int → Bool) (hm : l ∈ ll) (hb : Blk w b [cv] t) (hv : RdI w lo hi v l) (hp : RowP w lo hi cv ll p) :
    Ca Tryz.prog 226 [v, .pointer (some ⟨b, 0, none⟩)] w fun r w' => r = .bool (!(p l)) ∧ Chg [] w w' := by
  obtain ⟨g, first, caps, rfl, hg, hcl⟩ := hp
  refine q_of (Sat.nil w M0) Tryz.func226 rfl (by simp [Tryz.ntmps226]) ?_
  (refine q_seq (q_region (ql_pure tabOk rfl rfl (q_nil (q_seq (q_region ?_))))); refine ql_loadP tabOk rfl rfl rfl (by assumption) (by rfl) ?_; refine ql_pure tabOk rfl rfl ?_)
  refine ql_callv tabOk rfl hg rfl rfl (fun w' hs => hcl w' hs.chg0 l hm _ (RdE.keep hv hs.chg0)) ?_
  (refine ql_pure tabOk rfl rfl (ql_pure tabOk rfl rfl (q_nil (q_ret ?_))))
  refine q_fin tabOk rfl (by repeat constructor) fun w hs => ?_
  exact ⟨rfl, hs.chg0⟩
theorem allR (w : World) (lo hi : Nat) (v cv : Value) (ll : List (List Int)) (p : List Int → Bool) (hrd : RdII w lo hi v ll) (hlen : ll.length < 1000000) (hp : RowP w lo hi cv ll p) :
    Ca Tryz.prog 204 [v, cv] w fun r w' => r = .bool (ll.all p) ∧ Chg [] w w' := by
  have hcv : cv.cells.toList = [cv] := by obtain ⟨g, first, caps, rfl, _, _⟩ := hp; rfl
  refine q_of (Sat.nil w M0) Tryz.func204 rfl (by simp [Tryz.ntmps204]) ?_
  (refine q_seq (q_region ?_))
  refine ql_box rfl rfl (fun b3 => ?_)
  rw [hcv]
  (refine ql_pure tabOk rfl rfl (q_nil (q_seq (q_region (ql_pure tabOk rfl rfl (ql_pure tabOk rfl rfl ?_))))))
  refine ql_callv tabOk rfl rfl rfl rfl (fun w hs => conR w lo hi v _ ll (fun l => !(p l)) (hrd.keep hs.chg0) hlen ⟨_, #[], #[_], rfl, rfl, fun w' hw' l hl v hv => allR1 w' lo hi b3 _ cv v l ll p hl ((hs.blk (by repeat constructor)).keep hw') hv (hp.keep (hs.chg0.trans hw'))⟩) ?_
  (refine ql_pure tabOk rfl rfl (ql_pure tabOk rfl rfl (q_nil (q_ret ?_))))
  refine q_fin tabOk rfl (by repeat constructor) fun w hs => ?_
  exact ⟨by rw [List.all_eq_not_any_not]; rfl, hs.chg0⟩
def pI (lo hi : Int) : Value → Bool
  | .int _ n => inB n lo hi
  | _ => false
theorem pI_all (lo hi : Int) (l : List Int) : (ints l).all (pI lo hi) = l.all (fun n => inB n lo hi) := by
  rw [List.all_map]
  rfl
theorem ints_one (l : List Int) : ∀ i (hi : i < (ints l).length), oneV (ints l)[i] = true := by
  intro i hi
  simp [oneV]
theorem chk1_p (w : World) (lo hi b : Nat) (t : TypeId) (m : Int) (ll : List (List Int)) (hb : Blk w b [.int .i64 m] t) : RowP w lo hi (.func (.func 205) #[] #[.pointer (some ⟨b, 0, none⟩)]) ll (fun l => decide ((l.length : Int) = m) && true) := by
  refine ⟨_, _, _, rfl, rfl, fun w' hw' l _ v hv => ?_⟩
  have hb' := hb.keep hw'
  obtain ⟨a, c, rfl, _⟩ := RdI.outI hv
  refine q_of (Sat.nil w' M0) Tryz.func205 rfl (by simp [Tryz.ntmps205]) ?_
  (refine q_seq (q_region (ql_pure tabOk rfl rfl (q_nil (q_seq (q_region (ql_pure tabOk rfl rfl (ql_pure tabOk rfl rfl ?_))))))); refine ql_loadP tabOk rfl rfl rfl (by assumption) (by rfl) ?_; refine ql_pure tabOk rfl rfl (ql_pure tabOk rfl rfl (q_nil (q_ret ?_))))
  refine q_fin tabOk rfl (by repeat constructor) fun w hs => ?_
  exact ⟨by simp [retV], hs.chg0⟩
theorem chk2_p (w : World) (b : Nat) (t : TypeId) (r : Rg) (cs : List Value) (es : List Int) (hb : Blk w b cs t) (hc : cs[3]? = some (.int .i64 r.total)) : PredAt Tryz.prog tab w (.func (.func 206) #[] #[.pointer (some ⟨b, 0, none⟩)]) (ints es) (pI 0 r.total) := by
  refine ⟨_, _, _, rfl, rfl, fun w' hw' x hx => ?_⟩
  have hb' := hb.keep hw'
  obtain ⟨y, hy, rfl⟩ := List.mem_map.1 hx
  refine q_of (Sat.nil w' M0) Tryz.func206 rfl (by simp [Tryz.ntmps206]) ?_
  (refine q_seq (q_region (ql_pure tabOk rfl rfl (q_nil (q_seq (q_region (ql_pure tabOk rfl rfl (ql_pure tabOk rfl rfl ?_))))))))
  refine ql_loadP tabOk rfl rfl rfl hb' hc ?_
  skip
  refine ql_callv tabOk rfl rfl rfl rfl (fun w hs => in_ca y 0 r.total w) ?_
  (refine ql_pure tabOk rfl rfl (q_nil (q_ret ?_)))
  refine q_fin tabOk rfl (by repeat constructor) fun w hs => ?_
  exact ⟨rfl, hs.chg0⟩
theorem chk3_p (w : World) (es : List Int) : PredAt Tryz.prog tab w (.func (.func 208) #[] #[]) (ints es) (pI (-300) 300) := by
  refine ⟨_, _, _, rfl, rfl, fun w' hw' x hx => ?_⟩
  obtain ⟨y, hy, rfl⟩ := List.mem_map.1 hx
  refine q_of (Sat.nil w' M0) Tryz.func208 rfl (by simp [Tryz.ntmps208]) ?_
  (refine q_seq (q_region (ql_pure tabOk rfl rfl (q_nil (q_seq (q_region (ql_pure tabOk rfl rfl ?_)))))))
  refine ql_callv tabOk rfl rfl rfl rfl (fun w hs => in_ca y (-300) 300 w) ?_
  (refine ql_pure tabOk rfl rfl (q_nil (q_ret ?_)))
  refine q_fin tabOk rfl (by repeat constructor) fun w hs => ?_
  exact ⟨rfl, hs.chg0⟩
theorem chk4_p (w : World) (es : List Int) : PredAt Tryz.prog tab w (.func (.func 209) #[] #[]) (ints es) (pI 0 100) := by
  refine ⟨_, _, _, rfl, rfl, fun w' hw' x hx => ?_⟩
  obtain ⟨y, hy, rfl⟩ := List.mem_map.1 hx
  refine q_of (Sat.nil w' M0) Tryz.func209 rfl (by simp [Tryz.ntmps209]) ?_
  (refine q_seq (q_region (ql_pure tabOk rfl rfl (q_nil (q_seq (q_region (ql_pure tabOk rfl rfl ?_)))))))
  refine ql_callv tabOk rfl rfl rfl rfl (fun w hs => in_ca y 0 100 w) ?_
  (refine ql_pure tabOk rfl rfl (q_nil (q_ret ?_)))
  refine q_fin tabOk rfl (by repeat constructor) fun w hs => ?_
  exact ⟨rfl, hs.chg0⟩
theorem chk5_p (w : World) (lo hi b b1 : Nat) (t t1 : TypeId) (r : Rg) (cs : List Value) (ll : List (List Int)) (hlen : ∀ l ∈ ll, l.length < 1000000) (hb : Blk w b [.func (.func 206) #[] #[.pointer (some ⟨b1, 0, none⟩)]] t) (hb1 : Blk w b1 cs t1) (hc : cs[3]? = some (.int .i64 r.total)) :
    RowP w lo hi (.func (.func 210) #[] #[.pointer (some ⟨b, 0, none⟩)]) ll (fun l => l.all (fun n => inB n 0 r.total)) := by
  refine ⟨_, _, _, rfl, rfl, fun w' hw' l hl v hv => ?_⟩
  have hb' := hb.keep hw'
  refine q_of (Sat.nil w' M0) Tryz.func210 rfl (by simp [Tryz.ntmps210]) ?_
  (refine q_seq (q_region (ql_pure tabOk rfl rfl (q_nil (q_seq (q_region (ql_pure tabOk rfl rfl ?_)))))); refine ql_loadP tabOk rfl rfl rfl (by assumption) (by rfl) ?_)
  (refine ql_callv tabOk rfl rfl rfl rfl (fun w hs => all_wint w lo hi v _ (ints l) (pI 0 r.total) (RdE.keep hv hs.chg0) (ints_one l) (by have := hlen l hl; simp; omega) (chk2_p w b1 t1 r cs l (hb1.keep (hw'.trans hs.chg0)) hc)) ?_)
  (refine ql_pure tabOk rfl rfl (q_nil (q_ret ?_)))
  refine q_fin tabOk rfl (by repeat constructor) fun w hs => ?_
  exact ⟨by rw [pI_all]; rfl, hs.chg0⟩
theorem chk6_p (w : World) (lo hi b : Nat) (t : TypeId) (r : Rg) (cs : List Value) (ll : List (List Int)) (hlen : ∀ l ∈ ll, l.length < 1000000 ∧ ∀ x ∈ l, -1000000 ≤ x ∧ x ≤ 1000000) (hb : Blk w b cs t) (hc : cs[3]? = some (.int .i64 r.total)) :
    RowP w lo hi (.func (.func 211) #[] #[.pointer (some ⟨b, 0, none⟩)]) ll (fun l => decide (l.sum = r.total) && true) := by
  refine ⟨_, _, _, rfl, rfl, fun w' hw' l hl v hv => ?_⟩
  have hb' := hb.keep hw'
  refine q_of (Sat.nil w' M0) Tryz.func211 rfl (by simp [Tryz.ntmps211]) ?_
  (refine q_seq (q_region (ql_pure tabOk rfl rfl (q_nil (q_seq ?_)))))
  refine q_draw _ [] (Sp.refl _) (by kernel_rfl) (by kernel_rfl) ?_
  (refine qf_pure tabOk rfl rfl rfl ?_)
  refine qf_callv tabOk rfl rfl rfl rfl (fun w hs => sum_ca w lo hi v l (RdE.keep hv hs.chg0) (hlen l hl).1 (hlen l hl).2) ?_
  (refine qf_pure tabOk rfl rfl rfl ?_)
  refine qf_loadP tabOk rfl rfl rfl hb' hc ?_
  (refine qf_pure tabOk rfl rfl rfl (qf_pure tabOk rfl rfl rfl (qf_nil (q_ret ?_))))
  refine q_fin tabOk rfl (by repeat constructor) fun w hs => ?_
  exact ⟨by simp [retV], hs.chg0⟩
def cntB (r : Rg) : Bool := inB r.group.length 1 21 && !(decide ((r.group.length : Int) % 2 = 0)) && inB r.drifts.length 1 5 && decide ((r.first.length : Int) = r.drifts.length) && decide ((r.next.length : Int) = r.drifts.length) && r.next.all (fun l => decide ((l.length : Int) = r.drifts.length) && true)
def rng1B (r : Rg) : Bool := inB r.radius 0 200 && inB r.unit 1 20 && inB r.clicks 0 6 && inB r.total 1 12
def rng2B (r : Rg) : Bool := r.drifts.all (fun n => inB n (-300) 300) && r.group.all (fun n => inB n 0 100)
def rng3B (r : Rg) : Bool := r.first.all (fun n => inB n 0 r.total) && r.next.all (fun l => l.all (fun n => inB n 0 r.total))
def cnfB (r : Rg) : Bool := inB r.group.sum 1 100 && decide (r.first.sum = r.total) && r.next.all (fun l => decide (l.sum = r.total) && true)
/-- The error of a range. -/
def wchkV (r : Rg) : Int := if !cntB r then 2 else if !rng1B r then 3 else if !rng2B r then 3 else if !rng3B r then 3 else if !cnfB r then 7 else 0
set_option maxHeartbeats 2000000 in
theorem wcheck_ca (w : World) (cs : List Value) (r : Rg) (h : RgC w cs r) (hsm : r.Small) : Ca Tryz.prog 181 [.agg cs.toArray] w fun v w' => v = .int .i64 (wchkV r) ∧ Chg [] w w' := by
  obtain ⟨lo, hi, ag, cg, ad, cd, af, cf, an, cn, rfl, hg, hdr, hf, hn⟩ := h
  have s1 := hsm.group
  have s2 := hsm.drifts
  have s3 := hsm.first
  have s4 := hsm.next
  refine q_of (Sat.nil w M0) Tryz.func181 rfl (by simp [Tryz.ntmps181]) ?_
  (refine q_seq (q_region ?_))
  refine ql_box rfl rfl (fun b1 => ?_)
  (refine ql_pure tabOk rfl rfl (q_nil (q_seq (q_region (ql_pure tabOk rfl rfl ?_)))); refine ql_loadBa tabOk rfl rfl rfl ?_; refine ql_pure tabOk rfl rfl ?_)
  refine ql_alloc zero3 rfl (fun b3 => ?_)
  (refine ql_set tabOk rfl rfl rfl rfl (by repeat constructor) ?_; refine q_nil (q_seq (q_seq (q_region (ql_pure tabOk rfl rfl ?_)))); refine ql_loadBa tabOk rfl rfl rfl ?_; refine ql_pure tabOk rfl rfl ?_)
  refine ql_callv tabOk rfl rfl rfl rfl (fun w hs => in_ca (r.group.length : Int) 1 21 w) ?_
  (refine ql_pure tabOk rfl rfl (ql_pure tabOk rfl rfl ?_))
  refine ql_split rfl rfl (fun hc => ?_) (fun hc => ?_)
  · ((iterate 5 refine ql_gno rfl rfl rfl ?_); refine ql_pure tabOk rfl rfl (ql_pure tabOk rfl rfl ?_); (iterate 3 refine ql_gno rfl rfl rfl ?_); refine ql_pure tabOk rfl rfl (ql_pure tabOk rfl rfl ?_); (iterate 5 refine ql_gno rfl rfl rfl ?_); refine ql_pure tabOk rfl rfl (ql_pure tabOk rfl rfl ?_); (iterate 5 refine ql_gno rfl rfl rfl ?_); refine ql_pure tabOk rfl rfl (ql_pure tabOk rfl rfl ?_); (iterate 5 refine ql_gno rfl rfl rfl ?_); refine ql_pure tabOk rfl rfl (q_nil (q_cond_true rfl (q_seq (q_region (ql_pure tabOk rfl rfl (q_nil (q_ret ?_))))))))
    refine q_fin tabOk rfl (by repeat constructor) fun w hs => ?_
    exact ⟨by simp at hc; simp [retV, wchkV, cntB, hc], hs.chg0⟩
  simp at hc
  have c1 := hc
  (refine ql_gyes rfl (ql_pure tabOk rfl rfl (ql_gyes rfl ?_)); refine ql_loadBa tabOk rfl rfl rfl ?_; refine ql_gyes rfl (ql_pure tabOk rfl rfl (ql_gyes rfl (ql_remN rfl rfl rfl (by omega) (by omega) (ql_gyes rfl ?_)))); (iterate 3 refine ql_pure tabOk rfl rfl ?_))
  refine ql_split rfl rfl (fun hc => ?_) (fun hc => ?_)
  · ((iterate 3 refine ql_gno rfl rfl rfl ?_); refine ql_pure tabOk rfl rfl (ql_pure tabOk rfl rfl ?_); (iterate 5 refine ql_gno rfl rfl rfl ?_); refine ql_pure tabOk rfl rfl (ql_pure tabOk rfl rfl ?_); (iterate 5 refine ql_gno rfl rfl rfl ?_); refine ql_pure tabOk rfl rfl (ql_pure tabOk rfl rfl ?_); (iterate 5 refine ql_gno rfl rfl rfl ?_); refine ql_pure tabOk rfl rfl (q_nil (q_cond_true rfl (q_seq (q_region (ql_pure tabOk rfl rfl (q_nil (q_ret ?_))))))))
    refine q_fin tabOk rfl (by repeat constructor) fun w hs => ?_
    exact ⟨by simp [retV, wchkV, cntB, hc], hs.chg0⟩
  simp at hc
  have c2 := hc
  (refine ql_gyes rfl ?_; refine ql_loadBa tabOk rfl rfl rfl ?_; refine ql_gyes rfl ?_)
  refine ql_callv tabOk rfl rfl rfl rfl (fun w hs => in_ca (r.drifts.length : Int) 1 5 w) ?_
  (refine ql_gyes rfl ?_; (iterate 3 refine ql_pure tabOk rfl rfl ?_))
  refine ql_split rfl rfl (fun hc => ?_) (fun hc => ?_)
  · ((iterate 5 refine ql_gno rfl rfl rfl ?_); refine ql_pure tabOk rfl rfl (ql_pure tabOk rfl rfl ?_); (iterate 5 refine ql_gno rfl rfl rfl ?_); refine ql_pure tabOk rfl rfl (ql_pure tabOk rfl rfl ?_); (iterate 5 refine ql_gno rfl rfl rfl ?_); refine ql_pure tabOk rfl rfl (q_nil (q_cond_true rfl (q_seq (q_region (ql_pure tabOk rfl rfl (q_nil (q_ret ?_))))))))
    refine q_fin tabOk rfl (by repeat constructor) fun w hs => ?_
    exact ⟨by simp at hc; simp [retV, wchkV, cntB, hc], hs.chg0⟩
  simp at hc
  have c3 := hc
  (refine ql_gyes rfl (ql_pure tabOk rfl rfl (ql_gyes rfl ?_)); refine ql_loadBa tabOk rfl rfl rfl ?_; refine ql_gyes rfl (ql_pure tabOk rfl rfl (ql_gyes rfl ?_)); refine ql_loadBa tabOk rfl rfl rfl ?_; refine ql_gyes rfl ?_; (iterate 3 refine ql_pure tabOk rfl rfl ?_))
  refine ql_split rfl rfl (fun hc => ?_) (fun hc => ?_)
  · ((iterate 5 refine ql_gno rfl rfl rfl ?_); refine ql_pure tabOk rfl rfl (ql_pure tabOk rfl rfl ?_); (iterate 5 refine ql_gno rfl rfl rfl ?_); refine ql_pure tabOk rfl rfl (q_nil (q_cond_true rfl (q_seq (q_region (ql_pure tabOk rfl rfl (q_nil (q_ret ?_))))))))
    refine q_fin tabOk rfl (by repeat constructor) fun w hs => ?_
    exact ⟨by simp [retV, wchkV, cntB, hc], hs.chg0⟩
  simp at hc
  have c4 := hc
  (refine ql_gyes rfl (ql_pure tabOk rfl rfl (ql_gyes rfl ?_)); refine ql_loadBa tabOk rfl rfl rfl ?_; refine ql_gyes rfl (ql_pure tabOk rfl rfl (ql_gyes rfl ?_)); refine ql_loadBa tabOk rfl rfl rfl ?_; refine ql_gyes rfl ?_; (iterate 3 refine ql_pure tabOk rfl rfl ?_))
  refine ql_split rfl rfl (fun hc => ?_) (fun hc => ?_)
  · ((iterate 5 refine ql_gno rfl rfl rfl ?_); refine ql_pure tabOk rfl rfl (q_nil (q_cond_true rfl (q_seq (q_region (ql_pure tabOk rfl rfl (q_nil (q_ret ?_))))))))
    refine q_fin tabOk rfl (by repeat constructor) fun w hs => ?_
    exact ⟨by simp [retV, wchkV, cntB, hc], hs.chg0⟩
  simp at hc
  have c5 := hc
  (refine ql_gyes rfl (ql_pure tabOk rfl rfl (ql_gyes rfl ?_)); refine ql_loadBa tabOk rfl rfl rfl ?_; refine ql_gyes rfl (ql_pure tabOk rfl rfl (ql_gyes rfl ?_)))
  refine ql_callv tabOk rfl rfl rfl rfl (fun w hs => allR w lo hi _ _ r.next _ (hn.keep hs.chg0) (by omega) (chk1_p w lo hi b3 _ _ r.next (hs.blk (by repeat constructor)))) ?_
  (refine ql_gyes rfl (ql_pure tabOk rfl rfl (ql_pure tabOk rfl rfl (q_nil ?_))))
  refine q_cond rfl (fun hc => ?_) (fun hc => ?_)
  · (refine q_seq (q_region (ql_pure tabOk rfl rfl (q_nil (q_ret ?_)))))
    refine q_fin tabOk rfl (by repeat constructor) fun w hs => ?_
    exact ⟨by simp only [Bool.not_eq_true'] at hc; simp only [retV, wchkV, cntB, hc, Bool.and_false, Bool.false_and, Bool.not_false, Bool.not_true, if_true, if_false, Bool.false_eq_true], hs.chg0⟩
  simp only [Bool.not_eq_false'] at hc
  have cnt : cntB r = true := by
    simp only [cntB, Bool.and_eq_true, Bool.not_eq_true', decide_eq_true_eq, decide_eq_false_iff_not]
    exact ⟨⟨⟨⟨⟨c1, by omega⟩, c3⟩, by omega⟩, by omega⟩, hc⟩
  have hrows : ∀ l ∈ r.next, l.length = r.drifts.length := fun l hl => by
    have := List.all_eq_true.1 hc l hl
    simp at this
    omega
  have c3' := inB_iff.1 c3
  clear c1 c2 c3 c4 c5 hc
  (refine q_skip (q_seq (q_region (ql_pure tabOk rfl rfl ?_))))
  refine ql_alloc zero102 rfl (fun b4 => ?_)
  (refine ql_set tabOk rfl rfl rfl rfl (by repeat constructor) ?_; refine q_nil (q_seq (q_block (q_seq (q_region (ql_pure tabOk rfl rfl ?_))))); refine ql_loadBa tabOk rfl rfl rfl ?_)
  refine ql_callv tabOk rfl rfl rfl rfl (fun w hs => in_ca r.radius 0 200 w) ?_
  (refine ql_pure tabOk rfl rfl (ql_pure tabOk rfl rfl ?_))
  refine ql_split rfl rfl (fun hc => ?_) (fun hc => ?_)
  · ((iterate 4 refine ql_gno rfl rfl rfl ?_); refine ql_pure tabOk rfl rfl (ql_pure tabOk rfl rfl ?_); (iterate 4 refine ql_gno rfl rfl rfl ?_); refine ql_pure tabOk rfl rfl (ql_pure tabOk rfl rfl ?_); (iterate 4 refine ql_gno rfl rfl rfl ?_); refine ql_pure tabOk rfl rfl (ql_pure tabOk rfl rfl (q_nil (q_cond_true rfl (q_seq (q_region (ql_pure tabOk rfl rfl (q_nil (q_ret ?_)))))))))
    refine q_fin tabOk rfl (by repeat constructor) fun w hs => ?_
    exact ⟨by simp at hc; simp [retV, wchkV, cnt, rng1B, hc], hs.chg0⟩
  simp at hc
  have c1 := hc
  (refine ql_gyes rfl (ql_pure tabOk rfl rfl (ql_gyes rfl ?_)); refine ql_loadBa tabOk rfl rfl rfl ?_; refine ql_gyes rfl ?_)
  refine ql_callv tabOk rfl rfl rfl rfl (fun w hs => in_ca r.unit 1 20 w) ?_
  (refine ql_gyes rfl ?_; (iterate 3 refine ql_pure tabOk rfl rfl ?_))
  refine ql_split rfl rfl (fun hc => ?_) (fun hc => ?_)
  · ((iterate 4 refine ql_gno rfl rfl rfl ?_); refine ql_pure tabOk rfl rfl (ql_pure tabOk rfl rfl ?_); (iterate 4 refine ql_gno rfl rfl rfl ?_); refine ql_pure tabOk rfl rfl (ql_pure tabOk rfl rfl (q_nil (q_cond_true rfl (q_seq (q_region (ql_pure tabOk rfl rfl (q_nil (q_ret ?_)))))))))
    refine q_fin tabOk rfl (by repeat constructor) fun w hs => ?_
    exact ⟨by simp at hc; simp [retV, wchkV, cnt, rng1B, hc], hs.chg0⟩
  simp at hc
  have c2 := hc
  (refine ql_gyes rfl (ql_pure tabOk rfl rfl (ql_gyes rfl ?_)); refine ql_loadBa tabOk rfl rfl rfl ?_; refine ql_gyes rfl ?_)
  refine ql_callv tabOk rfl rfl rfl rfl (fun w hs => in_ca r.clicks 0 6 w) ?_
  (refine ql_gyes rfl ?_; (iterate 3 refine ql_pure tabOk rfl rfl ?_))
  refine ql_split rfl rfl (fun hc => ?_) (fun hc => ?_)
  · ((iterate 4 refine ql_gno rfl rfl rfl ?_); refine ql_pure tabOk rfl rfl (ql_pure tabOk rfl rfl (q_nil (q_cond_true rfl (q_seq (q_region (ql_pure tabOk rfl rfl (q_nil (q_ret ?_)))))))))
    refine q_fin tabOk rfl (by repeat constructor) fun w hs => ?_
    exact ⟨by simp at hc; simp [retV, wchkV, cnt, rng1B, hc], hs.chg0⟩
  simp at hc
  have c3 := hc
  (refine ql_gyes rfl (ql_pure tabOk rfl rfl (ql_gyes rfl ?_)); refine ql_loadBa tabOk rfl rfl rfl ?_; refine ql_gyes rfl ?_)
  refine ql_callv tabOk rfl rfl rfl rfl (fun w hs => in_ca r.total 1 12 w) ?_
  (refine ql_gyes rfl ?_; (iterate 3 refine ql_pure tabOk rfl rfl ?_); refine q_nil ?_)
  refine q_cond rfl (fun hc => ?_) (fun hc => ?_)
  · (refine q_seq (q_region (ql_pure tabOk rfl rfl (q_nil (q_ret ?_)))))
    refine q_fin tabOk rfl (by repeat constructor) fun w hs => ?_
    exact ⟨by simp at hc; simp [retV, wchkV, cnt, rng1B, hc], hs.chg0⟩
  simp at hc
  have rng1 : rng1B r = true := by simp [rng1B, c1, c2, c3, hc]
  have htot := inB_iff.1 hc
  clear c1 c2 c3 hc
  (refine q_seq (q_region (ql_pure tabOk rfl rfl ?_)); refine ql_loadBa tabOk rfl rfl rfl ?_)
  (refine ql_callv tabOk rfl rfl rfl rfl (fun w hs => all_wint w lo hi _ _ (ints r.drifts) (pI (-300) 300) (RdE.keep hdr hs.chg0) (ints_one _) (by simp; omega) (chk3_p w r.drifts)) ?_)
  rw [pI_all]
  (refine ql_pure tabOk rfl rfl (ql_pure tabOk rfl rfl ?_))
  refine ql_split rfl rfl (fun hc => ?_) (fun hc => ?_)
  · ((iterate 4 refine ql_gno rfl rfl rfl ?_); refine ql_pure tabOk rfl rfl (ql_pure tabOk rfl rfl (q_nil (q_cond_true rfl (q_seq (q_region (ql_pure tabOk rfl rfl (q_nil (q_ret ?_)))))))))
    refine q_fin tabOk rfl (by repeat constructor) fun w hs => ?_
    exact ⟨by simp only [Bool.not_eq_true'] at hc; simp only [retV, wchkV, cnt, rng1, rng2B, hc, Bool.and_false, Bool.false_and, Bool.not_false, Bool.not_true, if_true, if_false, Bool.false_eq_true], hs.chg0⟩
  simp only [Bool.not_eq_false'] at hc
  have c1 := hc
  (refine ql_gyes rfl (ql_pure tabOk rfl rfl (ql_gyes rfl ?_)); refine ql_loadBa tabOk rfl rfl rfl ?_; refine ql_gyes rfl ?_)
  (refine ql_callv tabOk rfl rfl rfl rfl (fun w hs => all_wint w lo hi _ _ (ints r.group) (pI 0 100) (RdE.keep hg hs.chg0) (ints_one _) (by simp; omega) (chk4_p w r.group)) ?_)
  rw [pI_all]
  (refine ql_gyes rfl ?_; (iterate 3 refine ql_pure tabOk rfl rfl ?_); refine q_nil ?_)
  refine q_cond rfl (fun hc => ?_) (fun hc => ?_)
  · (refine q_seq (q_region (ql_pure tabOk rfl rfl (q_nil (q_ret ?_)))))
    refine q_fin tabOk rfl (by repeat constructor) fun w hs => ?_
    exact ⟨by simp only [Bool.not_eq_true'] at hc; simp only [retV, wchkV, cnt, rng1, rng2B, hc, Bool.and_false, Bool.false_and, Bool.not_false, Bool.not_true, if_true, if_false, Bool.false_eq_true], hs.chg0⟩
  simp only [Bool.not_eq_false'] at hc
  have rng2 : rng2B r = true := by simp only [rng2B, Bool.and_eq_true]; exact ⟨c1, hc⟩
  have hgr : ∀ x ∈ r.group, -1000000 ≤ x ∧ x ≤ 1000000 := fun x hx => by
    have := inB_iff.1 (List.all_eq_true.1 hc x hx)
    omega
  clear c1 hc
  (refine q_seq (q_region (ql_pure tabOk rfl rfl ?_)); (iterate 2 refine ql_loadBa tabOk rfl rfl rfl ?_))
  (refine ql_callv tabOk rfl rfl rfl rfl (fun w hs => all_wint w lo hi _ _ (ints r.first) (pI 0 r.total) (RdE.keep hf hs.chg0) (ints_one _) (by simp; omega) (chk2_p w b1 _ r _ r.first (hs.blk (by repeat constructor)) rfl)) ?_)
  rw [pI_all]
  (refine ql_pure tabOk rfl rfl (ql_pure tabOk rfl rfl ?_))
  refine ql_split rfl rfl (fun hc => ?_) (fun hc => ?_)
  · ((iterate 5 refine ql_gno rfl rfl rfl ?_); refine ql_pure tabOk rfl rfl (ql_pure tabOk rfl rfl (q_nil (q_cond_true rfl (q_seq (q_region (ql_pure tabOk rfl rfl (q_nil (q_ret ?_)))))))))
    refine q_fin tabOk rfl (by repeat constructor) fun w hs => ?_
    exact ⟨by simp only [Bool.not_eq_true'] at hc; simp only [retV, wchkV, cnt, rng1, rng2, rng3B, hc, Bool.and_false, Bool.false_and, Bool.not_false, Bool.not_true, if_true, if_false, Bool.false_eq_true], hs.chg0⟩
  simp only [Bool.not_eq_false'] at hc
  have c1 := hc
  (refine ql_gyes rfl (ql_pure tabOk rfl rfl (ql_gyes rfl ?_)); refine ql_loadBa tabOk rfl rfl rfl ?_; refine ql_gyes rfl (ql_pure tabOk rfl rfl (ql_gyes rfl ?_)))
  (refine ql_callv tabOk rfl rfl rfl rfl (fun w hs => allR w lo hi _ _ r.next _ (hn.keep hs.chg0) (by omega) (chk5_p w lo hi b4 b1 _ _ r _ r.next (fun l hl => by have := hrows l hl; omega) (hs.blk (by repeat constructor)) (hs.blk (by repeat constructor)) rfl)) ?_)
  (refine ql_gyes rfl ?_; (iterate 3 refine ql_pure tabOk rfl rfl ?_); refine q_nil ?_)
  refine q_cond rfl (fun hc => ?_) (fun hc => ?_)
  · (refine q_seq (q_region (ql_pure tabOk rfl rfl (q_nil (q_ret ?_)))))
    refine q_fin tabOk rfl (by repeat constructor) fun w hs => ?_
    exact ⟨by simp only [Bool.not_eq_true'] at hc; simp only [retV, wchkV, cnt, rng1, rng2, rng3B, hc, Bool.and_false, Bool.false_and, Bool.not_false, Bool.not_true, if_true, if_false, Bool.false_eq_true], hs.chg0⟩
  simp only [Bool.not_eq_false'] at hc
  have rng3 : rng3B r = true := by simp only [rng3B, Bool.and_eq_true]; exact ⟨c1, hc⟩
  have hfr : ∀ x ∈ r.first, -1000000 ≤ x ∧ x ≤ 1000000 := fun x hx => by
    have := inB_iff.1 (List.all_eq_true.1 c1 x hx)
    omega
  have hnr : ∀ l ∈ r.next, l.length < 1000000 ∧ ∀ x ∈ l, -1000000 ≤ x ∧ x ≤ 1000000 := fun l hl => ⟨by have := hrows l hl; omega, fun x hx => by
    have := inB_iff.1 (List.all_eq_true.1 (List.all_eq_true.1 hc l hl) x hx)
    omega⟩
  clear c1 hc
  (refine q_seq ?_)
  refine q_draw _ [] (Sp.refl _) (by kernel_rfl) (by kernel_rfl) ?_
  (refine qf_pure tabOk rfl rfl rfl ?_; refine qf_loadBa tabOk rfl rfl rfl ?_)
  refine qf_callv tabOk rfl rfl rfl rfl (fun w hs => sum_ca w lo hi _ r.group (RdE.keep hg hs.chg0) (by omega) hgr) ?_
  skip
  refine qf_callv tabOk rfl rfl rfl rfl (fun w hs => in_ca r.group.sum 1 100 w) ?_
  (refine qf_pure tabOk rfl rfl rfl (qf_pure tabOk rfl rfl rfl ?_))
  refine qf_split rfl rfl (fun hc => ?_) (fun hc => ?_)
  · ((iterate 6 refine qf_gno rfl rfl rfl ?_); refine qf_pure tabOk rfl rfl rfl (qf_pure tabOk rfl rfl rfl ?_); (iterate 5 refine qf_gno rfl rfl rfl ?_); refine qf_pure tabOk rfl rfl rfl (qf_pure tabOk rfl rfl rfl (qf_nil (q_cond_true rfl (q_seq (q_region (ql_pure tabOk rfl rfl (q_nil (q_ret ?_)))))))))
    refine q_fin tabOk rfl (by repeat constructor) fun w hs => ?_
    exact ⟨by simp at hc; simp [retV, wchkV, cnt, rng1, rng2, rng3, cnfB, hc], hs.chg0⟩
  simp at hc
  have c1 := hc
  (refine qf_gyes rfl (qf_pure tabOk rfl rfl rfl (qf_gyes rfl ?_)); refine qf_loadBa tabOk rfl rfl rfl ?_; refine qf_gyes rfl ?_)
  refine qf_callv tabOk rfl rfl rfl rfl (fun w hs => sum_ca w lo hi _ r.first (RdE.keep hf hs.chg0) (by omega) hfr) ?_
  (refine qf_gyes rfl (qf_pure tabOk rfl rfl rfl (qf_gyes rfl ?_)); refine qf_loadBa tabOk rfl rfl rfl ?_; refine qf_gyes rfl ?_; (iterate 3 refine qf_pure tabOk rfl rfl rfl ?_))
  refine qf_split rfl rfl (fun hc => ?_) (fun hc => ?_)
  · ((iterate 5 refine qf_gno rfl rfl rfl ?_); refine qf_pure tabOk rfl rfl rfl (qf_pure tabOk rfl rfl rfl (qf_nil (q_cond_true rfl (q_seq (q_region (ql_pure tabOk rfl rfl (q_nil (q_ret ?_)))))))))
    refine q_fin tabOk rfl (by repeat constructor) fun w hs => ?_
    exact ⟨by simp at hc; simp [retV, wchkV, cnt, rng1, rng2, rng3, cnfB, hc], hs.chg0⟩
  simp at hc
  have c2 := hc
  (refine qf_gyes rfl (qf_pure tabOk rfl rfl rfl (qf_gyes rfl ?_)); refine qf_loadBa tabOk rfl rfl rfl ?_; refine qf_gyes rfl (qf_pure tabOk rfl rfl rfl (qf_gyes rfl ?_)))
  refine qf_callv tabOk rfl rfl rfl rfl (fun w hs => allR w lo hi _ _ r.next _ (hn.keep hs.chg0) (by omega) (chk6_p w lo hi b1 _ r _ r.next hnr (hs.blk (by repeat constructor)) rfl)) ?_
  (refine qf_gyes rfl ?_; (iterate 3 refine qf_pure tabOk rfl rfl rfl ?_); refine qf_nil ?_)
  refine q_cond rfl (fun hc => ?_) (fun hc => ?_)
  · (refine q_seq (q_region (ql_pure tabOk rfl rfl (q_nil (q_ret ?_)))))
    refine q_fin tabOk rfl (by repeat constructor) fun w hs => ?_
    exact ⟨by simp only [Bool.not_eq_true'] at hc; simp only [retV, wchkV, cnt, rng1, rng2, rng3, cnfB, hc, Bool.and_false, Bool.false_and, Bool.not_false, Bool.not_true, if_true, if_false, Bool.false_eq_true], hs.chg0⟩
  · simp only [Bool.not_eq_false'] at hc
    (refine q_skip (q_blk (q_seq (q_region (ql_pure tabOk rfl rfl (q_nil (q_ret ?_)))))))
    refine q_fin tabOk rfl (by repeat constructor) fun w hs => ?_
    refine ⟨?_, hs.chg0⟩
    have cnf : cnfB r = true := by
      simp only [cnfB, Bool.and_eq_true]
      exact ⟨⟨c1, by simpa using c2⟩, hc⟩
    simp [retV, wchkV, cnt, rng1, rng2, rng3, cnf]
theorem right_check (r : Rg) : wchkV r = 0 ↔ r.Right := by
  constructor
  · intro h
    have hc : cntB r = true ∧ rng1B r = true ∧ rng2B r = true ∧ rng3B r = true ∧ cnfB r = true := by
      unfold wchkV at h
      cases h1 : cntB r <;> cases h2 : rng1B r <;> cases h3 : rng2B r <;> cases h4 : rng3B r <;> cases h5 : cnfB r <;> simp [h1, h2, h3, h4, h5] at h ⊢
    obtain ⟨h1, h2, h3, h4, h5⟩ := hc
    simp only [cntB, rng1B, rng2B, rng3B, cnfB, Bool.and_eq_true, inB_iff, Bool.not_eq_true', decide_eq_true_eq, decide_eq_false_iff_not, List.all_eq_true, Bool.and_true] at h1 h2 h3 h4 h5
    obtain ⟨⟨⟨⟨⟨a1, a2⟩, a3⟩, a4⟩, a5⟩, a6⟩ := h1
    obtain ⟨⟨⟨b1, b2⟩, b3⟩, b4⟩ := h2
    obtain ⟨⟨d1, d2⟩, d3⟩ := h5
    exact ⟨by omega, by omega, by omega, by omega, by omega, by omega, by omega, fun l hl => by have := a6 l hl; omega, b1, b2, b3, b4, h3.1, h3.2, h4.1, h4.2, d1, d2, d3⟩
  · intro h
    have h1 : cntB r = true := by
      simp only [cntB, Bool.and_eq_true, inB_iff, Bool.not_eq_true', decide_eq_true_eq, decide_eq_false_iff_not, List.all_eq_true, Bool.and_true]
      have e1 := h.g1; have e2 := h.g2; have e3 := h.odd; have e4 := h.d1; have e5 := h.d2; have e6 := h.first; have e7 := h.next
      exact ⟨⟨⟨⟨⟨by omega, by omega⟩, by omega⟩, by omega⟩, by omega⟩, fun l hl => by have := h.rows l hl; omega⟩
    have h2 : rng1B r = true := by
      simp only [rng1B, Bool.and_eq_true, inB_iff]
      exact ⟨⟨⟨h.radius, h.unit⟩, h.clicks⟩, h.total⟩
    have h3 : rng2B r = true := by
      simp only [rng2B, Bool.and_eq_true, inB_iff, List.all_eq_true]
      exact ⟨h.drift, h.weight⟩
    have h4 : rng3B r = true := by
      simp only [rng3B, Bool.and_eq_true, inB_iff, List.all_eq_true]
      exact ⟨h.chance, h.chances⟩
    have h5 : cnfB r = true := by
      simp only [cnfB, Bool.and_eq_true, inB_iff, List.all_eq_true, decide_eq_true_eq, Bool.and_true]
      exact ⟨⟨h.gsum, h.fsum⟩, h.nsum⟩
    simp [wchkV, h1, h2, h3, h4, h5]
theorem opened_no (w : World) (cs : List Value) (r : Rg) (h : RgC w cs r) (hsm : r.Small) (hr : wchkV r ≠ 0) : Ca Tryz.prog 153 [.agg cs.toArray] w fun v w' => v = .tuple #[.pointer none, .int .i64 (wchkV r)] ∧ Chg [] w w' := by
  have h0 := h
  obtain ⟨lo, hi, ag, cg, ad, cd, af, cf, an, cn, rfl, hg, hdr, hf, hn⟩ := h
  refine q_of (Sat.nil w M0) Tryz.func153 rfl (by simp [Tryz.ntmps153]) ?_
  (refine q_seq (q_region ?_))
  refine ql_box rfl rfl (fun b1 => ?_)
  (refine ql_pure tabOk rfl rfl (ql_pure tabOk rfl rfl (q_nil (q_seq (q_seq (q_region ?_))))); refine ql_loadABa tabOk rfl rfl rfl ?_)
  refine ql_callv tabOk rfl rfl rfl rfl (fun w hs => wcheck_ca w _ r (h0.keep hs.chg0) hsm) ?_
  (refine ql_pure tabOk rfl rfl (q_nil (q_seq (q_region (ql_pure tabOk rfl rfl (ql_neqT tabOk rfl rfl rfl (by omega) (q_nil (q_cond_true rfl (q_seq (q_region ?_))))))))); (iterate 3 refine ql_pure tabOk rfl rfl ?_); refine q_nil (q_ret ?_))
  skip
  refine q_fin tabOk rfl (by repeat constructor) fun w hs => ?_
  exact ⟨rfl, hs.chg0⟩
theorem opened_ok (w : World) (cs : List Value) (r : Rg) (h : RgC w cs r) (hsm : r.Small) (hr : wchkV r = 0) : Ca Tryz.prog 153 [.agg cs.toArray] w fun v w' => ∃ x : Nat, v = .tuple #[.pointer (some ⟨x, 0, none⟩), .int .i64 0] ∧ Sat w M0 [.pt x cs 252] w' := by
  have h0 := h
  obtain ⟨lo, hi, ag, cg, ad, cd, af, cf, an, cn, rfl, hg, hdr, hf, hn⟩ := h
  refine q_of (Sat.nil w M0) Tryz.func153 rfl (by simp [Tryz.ntmps153]) ?_
  (refine q_seq (q_region ?_))
  refine ql_box rfl rfl (fun b1 => ?_)
  (refine ql_pure tabOk rfl rfl (ql_pure tabOk rfl rfl (q_nil (q_seq (q_seq (q_region ?_))))); refine ql_loadABa tabOk rfl rfl rfl ?_)
  refine ql_callv tabOk rfl rfl rfl rfl (fun w hs => wcheck_ca w _ r (h0.keep hs.chg0) hsm) ?_
  rw [hr]
  (refine ql_pure tabOk rfl rfl (q_nil (q_seq (q_region (ql_pure tabOk rfl rfl (ql_neqF tabOk rfl rfl rfl (by omega) (q_nil (q_cond_false rfl (q_skip (q_seq (q_region ?_)))))))))); refine ql_loadABa tabOk rfl rfl rfl ?_)
  refine ql_mk #[.int .i64 r.radius, .int .i64 r.unit, .int .i64 r.clicks, .int .i64 r.total, .slice ag r.group.length cg, .slice ad r.drifts.length cd, .slice af r.first.length cf, .slice an r.next.length cn] rfl (by kernel_rfl) rfl ?_
  refine ql_box rfl rfl (fun b2 => ?_)
  (refine ql_pure tabOk rfl rfl (ql_pure tabOk rfl rfl (q_nil (q_ret ?_))))
  refine q_fin tabOk rfl (by repeat constructor) fun w hs => ?_
  exact ⟨b2, rfl, hs.sp (by repeat constructor)⟩
theorem sum_mono : ∀ (a b : List Int), a.length = b.length → (∀ i (h : i < a.length) (h' : i < b.length), a[i] ≤ b[i]) → a.sum ≤ b.sum
  | [], [], _, _ => by simp
  | x :: a, y :: b, hl, h => by
    have h0 := h 0 (by simp) (by simp)
    have ih := sum_mono a b (by simpa using hl) (fun i h1 h2 => by have := h (i + 1) (by simpa using h1) (by simpa using h2); simpa using this)
    simp at h0
    simp
    omega
theorem sum_nonneg' : ∀ (a : List Int), (∀ x ∈ a, 0 ≤ x) → 0 ≤ a.sum
  | [], _ => by simp
  | x :: a, h => by
    have h0 := h x List.mem_cons_self
    have ih := sum_nonneg' a (fun y hy => h y (List.mem_cons_of_mem _ hy))
    simp
    omega
theorem missS_bd (r : Rg) (hr : r.Right) (drift click : Int) : 0 ≤ missS r drift click ∧ missS r drift click ≤ r.group.sum := by
  constructor
  · refine sum_nonneg' _ (fun x hx => ?_)
    obtain ⟨k, hk, rfl⟩ := List.getElem_of_mem hx
    have hk' : k < r.group.length := by rwa [missL_length] at hk
    have := hr.weight r.group[k] (List.getElem_mem hk')
    rw [missL_get r drift click k hk']
    split <;> omega
  · refine sum_mono _ _ (missL_length r drift click) (fun k h h' => ?_)
    have := hr.weight r.group[k] (List.getElem_mem h')
    rw [missL_get r drift click k h']
    split <;> omega
/-- The chance of a hit. -/
def hitV (r : Rg) (state click : Int) : (Int × Int) × Int :=
  if wchkV r ≠ 0 then ((0, 0), wchkV r) else if !inB state 0 ((r.drifts.length : Int) - 1) then ((0, 0), 1) else if !inB click (-r.clicks) r.clicks then ((0, 0), 3)
  else (ratioV (r.group.sum - missS r (r.drifts.getD state.toNat 0) click) r.group.sum, 0)
set_option maxHeartbeats 1000000 in
theorem hit_ca (w : World) (cs : List Value) (r : Rg) (state click : Int) (h : RgC w cs r) (hsm : r.Small) : Ca Tryz.prog 96 [.agg cs.toArray, .int .i64 state, .int .i64 click] w fun v w' => v = .tuple #[wrtV (hitV r state click).1, .int .i64 (hitV r state click).2] ∧ Chg [] w w' := by
  have h0 := h
  have s2 := hsm.drifts
  obtain ⟨lo, hi, ag, cg, ad, cd, af, cf, an, cn, rfl, hg, hdr, hf, hn⟩ := h
  refine q_of (Sat.nil w M0) Tryz.func96 rfl (by simp [Tryz.ntmps96]) ?_
  (refine q_seq (q_region ?_))
  refine ql_box rfl rfl (fun b3 => ?_)
  skip
  refine ql_alloc zero142 rfl (fun b6 => ?_)
  (refine ql_pure tabOk rfl rfl (q_nil (q_seq (q_region ?_))); refine ql_loadABa tabOk rfl rfl rfl ?_)
  by_cases hr : wchkV r = 0
  · have hR := (right_check r).1 hr
    have hcl := hR.clicks
    refine ql_call (β := Nat) tabOk [] _ M0 rfl rfl rfl rfl (Sp.refl _) (fun _ h => h.elim) (fun w' hs => opened_ok w' _ r (h0.keep hs.chg0) hsm hr) ?_
    rintro bd _ rfl
    (refine ql_pure tabOk rfl rfl (ql_ext tabOk rfl rfl rfl (ql_ext tabOk rfl rfl rfl (ql_pure tabOk rfl rfl (ql_pure tabOk rfl rfl (q_nil (q_seq (q_block (q_seq (q_region (ql_pure tabOk rfl rfl (ql_neqF tabOk rfl rfl rfl (by omega) ?_))))))))))); refine ql_pure tabOk rfl rfl (q_nil (q_cond_false rfl (q_seq (q_region (ql_pure tabOk rfl rfl (ql_pure tabOk rfl rfl ?_)))))); refine ql_loadBa tabOk rfl rfl rfl ?_; refine ql_pure tabOk rfl rfl (ql_ar tabOk rfl rfl rfl rfl (by omega) (by omega) ?_))
    refine ql_callv tabOk rfl rfl rfl rfl (fun w hs => in_ca state 0 ((r.drifts.length : Int) - 1) w) ?_
    (refine ql_pure tabOk rfl rfl (ql_pure tabOk rfl rfl (q_nil ?_)))
    refine q_cond rfl (fun hc => ?_) (fun hc => ?_)
    · (refine q_seq (q_region ?_))
      refine ql_mk #[.int .i64 0, .int .i64 0] rfl (by kernel_rfl) rfl ?_
      (refine ql_setA tabOk rfl rfl rfl rfl rfl (by repeat constructor) rfl ?_; refine ql_pure tabOk rfl rfl (q_nil (q_ret ?_)))
      refine q_fin tabOk rfl (by repeat constructor) fun w hs => ?_
      exact ⟨by simp at hc; simp [retV, hitV, hr, hc, wrtV], hs.chg0⟩
    simp at hc
    have hst := hc
    have hst' := inB_iff.1 hst
    (refine q_seq (q_region (ql_pure tabOk rfl rfl (ql_pure tabOk rfl rfl ?_))); refine ql_loadBa tabOk rfl rfl rfl ?_; refine ql_neg tabOk rfl rfl (by omega) (by omega) (ql_pure tabOk rfl rfl ?_); refine ql_loadBa tabOk rfl rfl rfl ?_)
    refine ql_callv tabOk rfl rfl rfl rfl (fun w hs => in_ca click (-r.clicks) r.clicks w) ?_
    (refine ql_pure tabOk rfl rfl (ql_pure tabOk rfl rfl (q_nil ?_)))
    refine q_cond rfl (fun hc => ?_) (fun hc => ?_)
    · (refine q_seq (q_region ?_))
      refine ql_mk #[.int .i64 0, .int .i64 0] rfl (by kernel_rfl) rfl ?_
      (refine ql_setA tabOk rfl rfl rfl rfl rfl (by repeat constructor) rfl ?_; refine ql_pure tabOk rfl rfl (q_nil (q_ret ?_)))
      refine q_fin tabOk rfl (by repeat constructor) fun w hs => ?_
      exact ⟨by simp at hc; simp [retV, hitV, hr, hst, hc, wrtV], hs.chg0⟩
    simp at hc
    have hck' := inB_iff.1 hc
    obtain ⟨i, rfl⟩ := Int.eq_ofNat_of_zero_le hst'.1
    have hi : i < r.drifts.length := by omega
    obtain ⟨_, _, hsl, hsd⟩ := RdI.outI hdr
    cases hsl
    obtain ⟨b0, off, rfl⟩ := hsd (by omega)
    have hdrift := hR.drift r.drifts[i] (List.getElem_mem hi)
    have hms := missS_bd r hR r.drifts[i] click
    have hgs := hR.gsum
    (refine q_skip (q_blk (q_seq ?_)))
    refine q_draw _ [.pt b6 _ _] (Sp.cons (by repeat constructor) (Sp.refl _)) (by kernel_rfl) (by kernel_rfl) ?_
    (refine qf_pure tabOk rfl rfl rfl ?_)
    refine qf_callv tabOk rfl rfl rfl rfl (fun w hs => group_ca w bd r ⟨_, _, hs.blk (by repeat constructor), h0.keep hs.chg0⟩ hR) ?_
    (refine qf_pure tabOk rfl rfl rfl (qf_pure tabOk rfl rfl rfl ?_); refine qf_loadBa tabOk rfl rfl rfl ?_; refine qf_pure tabOk rfl rfl rfl ?_)
    (refine qf_index tabOk rfl rfl rfl rfl rfl (by omega) (by omega) ?_; refine qf_load1 tabOk rfl rfl rfl (fun w hs => RdI.at (RdE.keep hdr hs.chg0) i hi) ?_)
    (refine qf_pure tabOk rfl rfl rfl ?_)
    refine qf_callv (val := .int .i64 (missS r (r.drifts[i]'hi) click)) tabOk rfl rfl rfl rfl (fun w hs => ?_) ?_; exact wmissed_ca w bd r (r.drifts[i]'hi) click ⟨_, _, hs.blk (by repeat constructor), h0.keep hs.chg0⟩ hR (by omega) (by omega)
    (refine qf_ar tabOk rfl rfl rfl rfl (by omega) (by omega) (qf_pure tabOk rfl rfl rfl ?_))
    refine qf_callv tabOk rfl rfl rfl rfl (fun w hs => group_ca w bd r ⟨_, _, hs.blk (by repeat constructor), h0.keep hs.chg0⟩ hR) ?_
    skip
    refine qf_callv tabOk rfl rfl rfl rfl (fun w hs => ratio_ca (r.group.sum - missS r (r.drifts[i]'hi) click) r.group.sum w (by omega) (by omega) (by omega) (by omega)) ?_
    (refine qf_setA tabOk rfl rfl rfl rfl rfl (by repeat constructor) rfl ?_; refine qf_pure tabOk rfl rfl rfl (qf_nil (q_ret ?_)))
    refine q_fin tabOk rfl (by repeat constructor) fun w hs => ?_
    refine ⟨?_, hs.chg0⟩
    have e : r.drifts.getD i 0 = r.drifts[i] := by simp [hi]
    have hc2 : inB click (-r.clicks) r.clicks = true := inB_iff.2 hck'
    simp [retV, hitV, hr, hst, hc2, List.getElem?_eq_getElem hi, wrtV]
  · refine ql_callv tabOk rfl rfl rfl rfl (fun w hs => opened_no w _ r (h0.keep hs.chg0) hsm hr) ?_
    (refine ql_pure tabOk rfl rfl (ql_ext tabOk rfl rfl rfl (ql_ext tabOk rfl rfl rfl (ql_pure tabOk rfl rfl (ql_pure tabOk rfl rfl (q_nil (q_seq (q_block (q_seq (q_region (ql_pure tabOk rfl rfl (ql_neqT tabOk rfl rfl rfl (by omega) ?_))))))))))); refine ql_pure tabOk rfl rfl (q_nil (q_cond_true rfl (q_seq (q_region ?_)))))
    skip
    refine ql_mk #[.int .i64 0, .int .i64 0] rfl (by kernel_rfl) rfl ?_
    (refine ql_pure tabOk rfl rfl ?_; refine ql_setA tabOk rfl rfl rfl rfl rfl (by repeat constructor) rfl ?_; refine ql_pure tabOk rfl rfl (q_nil (q_ret ?_)))
    refine q_fin tabOk rfl (by repeat constructor) fun w hs => ?_
    exact ⟨by simp [retV, hitV, hr, wrtV], hs.chg0⟩
end Go.Proofs.YtopdmadgkjdgcaaGreat

/- Walks: labs are copied, and get a run more. -/
namespace Go.Proofs.YtopdmadgkjdgcaaGreat
set_option maxRecDepth 4000
open Go Go.Eng

def tD3_563eb24 : OT := chainT [0, 1, 2, 3, 4, 5, 6, 7, 8] (.nil)
end Go.Proofs.YtopdmadgkjdgcaaGreat

/- Lists of labs, and what is told of them. -/
namespace Go.Proofs.YtopdmadgkjdgcaaGreat
set_option maxRecDepth 4000
open Go Go.Eng

abbrev LbM := Lb × Option Addr × Nat
def labCs (M : List LbM) : List Value := M.flatMap fun m => [.int .i64 m.1.skis, .int .i64 m.1.err, .slice m.2.1 m.1.runs.length m.2.2]
def labOs (t : Nat) (M : List LbM) : List Ck := M.map fun m => .ow (.slice m.2.1 m.1.runs.length m.2.2) t 3 m.1.runs.length (rnC m.1.runs)
/-- Places that were told. -/
def plOs (t : Nat) (M : List LbM) (ps : List Value) : List Ck := (M.zip ps).map fun x => .ow x.2 t 2 x.1.1.n (spC (plC x.1.1 x.1.1.ord x.1.1.n))
/-- An array that is filled. -/
def filA (f : Nat → Int) (n j : Nat) : List Int := (List.range n).map fun i => if i < j then f i else 0
def lbM (M : List LbM) (i : Nat) : Lb := (M.getD i (⟨0, 0, []⟩, none, 0)).1
def oM (M : List LbM) (i : Nat) : Int := cnt (lbM M i).ord (lbM M i).n (2 ^ (lbM M i).n - 1)
def rM (M : List LbM) (k i : Nat) : Int := (planO (lbM M i).n k (lbM M i).ord : Nat)
/-- What all labs of a list have. -/
structure AllOk (sk : Nat) (m : LbM) : Prop where
  ok : m.1.Ok
  noC : NoC m.1.ord m.1.n
  skis : m.1.skis = (sk : Int)
theorem AllOk.n {sk : Nat} {m : LbM} (h : AllOk sk m) : m.1.n = sk := by unfold Lb.n; rw [h.skis]; omega
end Go.Proofs.YtopdmadgkjdgcaaGreat

/- Walks: all pairs of skis of which one is faster; whether a pair is among them. -/
namespace Go.Proofs.YtopdmadgkjdgcaaGreat
set_option maxRecDepth 4000
open Go Go.Eng

/-- The pairs with a faster ski of a list of skis. -/
def prA (o n : Nat) (L : List Nat) : List (Int × Int) := L.flatMap fun a => ((List.range n).filter fun b => fa o a b).map fun (b : Nat) => ((a : Int), (b : Int))
/-- All pairs of skis of which one is faster. -/
def fasL (o n : Nat) : List (Int × Int) := prA o n (List.range n)
/-- Those of the skis ahead of the k-th one, and the first ones of its own. -/
def fasI (o n a b : Nat) : List (Int × Int) := prA o n (List.range a) ++ ((List.range b).filter fun b => fa o a b).map fun (b : Nat) => ((a : Int), (b : Int))
/-- Where a pair is, or -1. -/
def idxP (L : List (Int × Int)) (p : Int × Int) : Int := if p ∈ L then (L.idxOf p : Int) else -1
end Go.Proofs.YtopdmadgkjdgcaaGreat

/- The plain law of SkiEnded. -/
namespace Go.Proofs.YtopdmadgkjdgcaaGreat
set_option maxRecDepth 4000

/-- Further runs that show a ski to be faster than all that are not faster than it. -/
def earL (l : Lb) (x : Nat) : Nat → Lb
  | 0 => l
  | k + 1 => if k = x ∨ fa l.ord k x = true then earL l x k else (earL l x k).add ⟨x, k, (earL l x k).err + 1⟩
def latL (l : Lb) (x : Nat) : Nat → Lb
  | 0 => l
  | k + 1 => if k = x ∨ fa l.ord x k = true then latL l x k else (latL l x k).add ⟨k, x, (latL l x k).err + 1⟩
theorem run_more {e : Int} {a b : Nat} (he : 0 ≤ e) : runV e ⟨a, b, e + 1⟩ = some (a, b) := by
  unfold runV
  rw [if_pos (show e < e + 1 by omega), Int.toNat_natCast, Int.toNat_natCast]
structure More (l m : Lb) (k : Nat) (R : Nat × Nat → Prop) : Prop where
  sk : m.skis = l.skis
  err : m.err = l.err
  ok : m.Ok
  len : m.runs.length ≤ l.runs.length + k
  has : ∀ p, p ∈ m.pairs ↔ p ∈ l.pairs ∨ R p
theorem More.n {l m : Lb} {k : Nat} {R : Nat × Nat → Prop} (h : More l m k R) : m.n = l.n := by unfold Lb.n; rw [h.sk]
theorem More.le {l m : Lb} {k : Nat} {R : Nat × Nat → Prop} (h : More l m k R) (hl : l.Ok) : LeO l.ord m.ord := order_le hl.in8 h.ok.in8 fun p hp => (h.has p).2 (.inl hp)
theorem More.add {l m : Lb} {k a b : Nat} {R R' : Nat × Nat → Prop} (h : More l m k R) (ha : a < l.n) (hb : b < l.n) (hne : a ≠ b) (hlen : l.runs.length + k < 40) (hR : ∀ p, R' p ↔ R p ∨ p = (a, b)) : More l (m.add ⟨a, b, m.err + 1⟩) (k + 1) R' := by
  have hs0 := h.ok.s0
  have hs1 := h.ok.s1
  have he0 := h.ok.e0
  have he1 := h.ok.e1
  have hsk := h.sk
  have hl := h.len
  have ha2 : (a : Int) < m.skis := by unfold Lb.n at ha; omega
  have hb2 : (b : Int) < m.skis := by unfold Lb.n at hb; omega
  refine ⟨h.sk, h.err, h.ok.add (by omega) (run_ok (by omega) (by omega) (by omega) (by omega)), ?_, fun p => ?_⟩
  · show (m.runs ++ [_]).length ≤ _
    rw [List.length_append, List.length_singleton]
    omega
  · rw [add_pairs, run_more he0, hR, List.mem_append, h.has]
    simp only [Option.toList, List.mem_singleton]
    exact or_assoc
theorem More.up {l m : Lb} {k : Nat} {R R' : Nat × Nat → Prop} (h : More l m k R) (hR : ∀ p, R' p ↔ R p) : More l m (k + 1) R' :=
  ⟨h.sk, h.err, h.ok, by have := h.len; omega, fun p => by rw [h.has, hR]⟩
theorem More.start {l : Lb} {R : Nat × Nat → Prop} (h : l.Ok) (hR : ∀ p, ¬ R p) : More l l 0 R := ⟨rfl, rfl, h, by omega, fun p => by simp [hR p]⟩
end Go.Proofs.YtopdmadgkjdgcaaGreat

/- Labs that grow, and what is read of them. -/
namespace Go.Proofs.YtopdmadgkjdgcaaGreat
set_option maxRecDepth 4000
open Go Go.Eng

/-- The slice of a lab's runs. -/
abbrev slV (m : LbM) : Value := .slice m.2.1 m.1.runs.length m.2.2
end Go.Proofs.YtopdmadgkjdgcaaGreat

/- Walks of rifle: guards that are made; lists of holds copied. -/
namespace Go.Proofs.YtopdmadgkjdgcaaGreat
set_option maxRecDepth 4000
open Go Go.Eng
/-- What a made guard is. -/
structure GrdL (most : Nat) (l : List Hd) : Prop where
  n1 : 1 ≤ l.length
  n2 : l.length ≤ most
  all : ∀ h ∈ l, (0 ≤ h.who ∧ h.who ≤ 99) ∧ (0 ≤ h.f ∧ h.f ≤ h.t) ∧ h.t ≤ 1000
theorem GrdL.ok {most : Nat} {l : List Hd} (h : GrdL most l) (hm : most ≤ 30) : GOk l := ⟨h.n1, by have := h.n2; omega, fun x hx => by have := h.all x hx; omega⟩
end Go.Proofs.YtopdmadgkjdgcaaGreat

/- Walks of rifle: scales that are made. -/
namespace Go.Proofs.YtopdmadgkjdgcaaGreat
set_option maxRecDepth 4000
open Go Go.Eng
/-- What a made scale is: the offset that it really has, and each rifle's weight and reading. -/
structure MadS (most : Nat) (s : Sc) (o : Int) (X : List (Int × Int)) : Prop where
  err : 0 ≤ s.err ∧ s.err ≤ 7
  least : s.least = 3500
  off : -15 ≤ o ∧ o ≤ 15
  tn : s.tests.length ≤ 3
  tst : ∀ t ∈ s.tests, (1000 ≤ t.1 ∧ t.1 ≤ 4900) ∧ -s.err ≤ t.2 - t.1 - o ∧ t.2 - t.1 - o ≤ s.err
  n1 : 1 ≤ X.length
  n2 : X.length ≤ most
  rif : s.rifles = X.map (·.2)
  rifle : ∀ p ∈ X, (3475 ≤ p.1 ∧ p.1 ≤ 3525) ∧ -s.err ≤ p.2 - p.1 - o ∧ p.2 - p.1 - o ≤ s.err
theorem ints_snoc2 (l : List Int) (r : Int) : ints (l ++ [r]) = ints l ++ [.int .i64 r] := by simp [ints]
end Go.Proofs.YtopdmadgkjdgcaaGreat

/- Walks of rifle: tests that contradict each other. -/
namespace Go.Proofs.YtopdmadgkjdgcaaGreat
set_option maxRecDepth 4000
open Go Go.Eng
def tstN (s : Sc) (i : Nat) : Int × Int := s.tests.getD i (0, 0)
/-- Do two tests allow no offset in common? -/
def clB (s : Sc) (i k : Nat) : Bool := decide ((comV (alwV s (tstN s i)) (alwV s (tstN s k))).2 < (comV (alwV s (tstN s i)) (alwV s (tstN s k))).1)
def ClR (s : Sc) (i k : Nat) (e : Int) : Prop := (e = 6 ∧ i = 0 ∧ k = 0 ∧ ∀ a b, a ≤ b → b < s.tests.length → clB s a b = false) ∨ (e = 0 ∧ i ≤ k ∧ k < s.tests.length ∧ clB s i k = true ∧ ∀ a b, a ≤ b → b < s.tests.length → (a < i ∨ a = i ∧ b < k) → clB s a b = false)
def tF23_bb62d8e : OT := .alt (chainT [10, 11, 12] (.nil)) (chainT [11, 10, 12] (.nil))
def tF23_827570c : OT := .alt (chainT [3, 4, 5, 6, 7, 8, 9] (tF23_bb62d8e)) (chainT [11, 3, 4, 5, 6, 7, 8, 9, 10, 12] (.nil))
def tF23_6a6effc : OT := .alt (chainT [0, 1, 2] (tF23_827570c)) (chainT [11, 0, 1, 2, 3, 4, 5, 6, 7, 8, 9, 10, 12] (.nil))
end Go.Proofs.YtopdmadgkjdgcaaGreat

/- Walks of rifle: whether a number is in a list; spans; what a made scale shows. -/
namespace Go.Proofs.YtopdmadgkjdgcaaGreat
set_option maxRecDepth 4000
open Go Go.Eng
end Go.Proofs.YtopdmadgkjdgcaaGreat

/- Walks of rifle: scales copied. -/
namespace Go.Proofs.YtopdmadgkjdgcaaGreat
set_option maxRecDepth 4000
open Go Go.Eng
def tF25_6b4554a : OT := chainT [0, 1, 2, 3, 4, 5, 6, 7, 8, 9, 10, 11] (.nil)
end Go.Proofs.YtopdmadgkjdgcaaGreat

/- Walks of rifle: spans in spans. -/
namespace Go.Proofs.YtopdmadgkjdgcaaGreat
set_option maxRecDepth 4000
open Go Go.Eng
end Go.Proofs.YtopdmadgkjdgcaaGreat

/- Walks of rifle: tests told backwards. -/
namespace Go.Proofs.YtopdmadgkjdgcaaGreat
set_option maxRecDepth 4000
open Go Go.Eng
end Go.Proofs.YtopdmadgkjdgcaaGreat

/- Walks of rifle: aims that are made. -/
namespace Go.Proofs.YtopdmadgkjdgcaaGreat
set_option maxRecDepth 4000
open Go Go.Eng
/-- A row of an aim. -/
structure RowA (l : List Int) : Prop where
  n1 : 1 ≤ l.length
  n8 : l.length ≤ 8
  bd : ∀ w, w < l.length → 0 ≤ l.getD w 0 ∧ l.getD w 0 ≤ 1000
  dec : ∀ w, w + 1 < l.length → l.getD (w + 1) 0 ≤ l.getD w 0
  cvx : ∀ w, w + 2 < l.length → l.getD (w + 1) 0 - l.getD (w + 2) 0 ≤ l.getD w 0 - l.getD (w + 1) 0
/-- A row under way: by how much the last breath helped. -/
structure RowI (l : List Int) (h : Int) : Prop where
  n1 : 1 ≤ l.length
  bd : ∀ w, w < l.length → 0 ≤ l.getD w 0 ∧ l.getD w 0 ≤ 1000
  dec : ∀ w, w + 1 < l.length → l.getD (w + 1) 0 ≤ l.getD w 0
  cvx : ∀ w, w + 2 < l.length → l.getD (w + 1) 0 - l.getD (w + 2) 0 ≤ l.getD w 0 - l.getD (w + 1) 0
  h0 : 0 ≤ h ∧ h ≤ 199
  last : ∀ w, l.length = w + 2 → l.getD w 0 - l.getD (w + 1) 0 = h
theorem RowI.row {l : List Int} {h : Int} (r : RowI l h) (h8 : l.length ≤ 8) : RowA l := ⟨r.n1, h8, r.bd, r.dec, r.cvx⟩
theorem RowI.one {n h : Int} (hn : 0 ≤ n ∧ n ≤ 1000) (hh : 0 ≤ h ∧ h ≤ 199) : RowI [n] h := ⟨by simp, fun w hw => by
  obtain rfl : w = 0 := by simpa using hw
  exact hn, fun w hw => by simp at hw, fun w hw => by simp at hw, hh, fun w hw => by simp at hw⟩
end Go.Proofs.YtopdmadgkjdgcaaGreat

/- Walks of rifle: enough breaths. -/
namespace Go.Proofs.YtopdmadgkjdgcaaGreat
set_option maxRecDepth 4000
open Go Go.Eng
def pLe (m : Int) : Value → Bool
  | .int _ i => decide (i ≤ m) && true
  | _ => false
/-- What Enough answers. -/
def EnoR (A : List (List Int)) (m : Int) (k e : Int) : Prop := (e = 0 ∧ ∃ t : Nat, k = t ∧ t < manyN A ∧ cvV A t ≤ m ∧ ∀ j : Nat, j < t → m < cvV A j) ∨ (e = 6 ∧ k = 0 ∧ ∀ t : Nat, t < manyN A → m < cvV A t)
end Go.Proofs.YtopdmadgkjdgcaaGreat
