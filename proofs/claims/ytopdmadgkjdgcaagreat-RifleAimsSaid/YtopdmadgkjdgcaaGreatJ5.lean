/- My texts F51, F52, F53, F54, F55, LwK, joined: a claim takes at most 60 files. -/
import Derived.Test.YtopdmadgkjdgcaaGreatJ4

/- Walks of the reference: which aims are right. Written by gen_F51.py. -/
namespace Go.Proofs.YtopdmadgkjdgcaaGreat
set_option maxRecDepth 4000
open Go Go.Eng
set_option maxHeartbeats 4000000 in
theorem rchkA_ca (w : World) (lo hi : Nat) (v : Value) (A : List (List Int)) (h : RdII w lo hi v A) (hlen : A.length ≤ maxLen) (hrl : ∀ r ∈ A, r.length ≤ maxLen) : Ca Tryz.prog 83 [v] w fun x w' => x = .int .i64 (chkA A) ∧ Chg [] w w' := by
  obtain ⟨a, c, rfl, ha⟩ := RdII.outI h
  have hII := h
  simp only [maxLen] at hlen hrl
  refine q_of (Sat.nil w M0) Tryz.func83 rfl (by simp [Tryz.ntmps83]) ?_
  by_cases c1 : A.length < 1
  · have hbad : chkA A = 2 := by unfold chkA; rw [show inB (A.length : Int) 1 8 = false from by rw [← Bool.not_eq_true, inB_iff]; omega]; rfl
    (refine q_seq (q_region (ql_pure tabOk rfl rfl (q_nil (q_seq (q_seq (q_region (ql_pure tabOk rfl rfl (ql_pure tabOk rfl rfl (ql_lssT tabOk rfl rfl rfl (by omega) (ql_pure tabOk rfl rfl ?_)))))))))); (iterate 3 refine ql_gno rfl rfl rfl ?_); refine ql_pure tabOk rfl rfl (q_nil (q_cond_true rfl (q_seq (q_region (ql_pure tabOk rfl rfl (q_nil (q_ret ?_))))))))
    refine q_fin tabOk rfl (by repeat constructor) fun w hs => ?_
    exact ⟨by rw [hbad]; rfl, hs.chg0⟩
  by_cases c2 : 8 < A.length
  · have hbad : chkA A = 2 := by unfold chkA; rw [show inB (A.length : Int) 1 8 = false from by rw [← Bool.not_eq_true, inB_iff]; omega]; rfl
    (refine q_seq (q_region (ql_pure tabOk rfl rfl (q_nil (q_seq (q_seq (q_region (ql_pure tabOk rfl rfl (ql_pure tabOk rfl rfl (ql_lssF tabOk rfl rfl rfl (by omega) (ql_pure tabOk rfl rfl (ql_gyes rfl ?_))))))))))); refine ql_pure tabOk rfl rfl (ql_gyes rfl (ql_pure tabOk rfl rfl (ql_gyes rfl (ql_gtrT tabOk rfl rfl rfl (by omega) (ql_pure tabOk rfl rfl (q_nil (q_cond_true rfl (q_seq (q_region (ql_pure tabOk rfl rfl (q_nil ?_))))))))))); refine q_ret ?_)
    refine q_fin tabOk rfl (by repeat constructor) fun w hs => ?_
    exact ⟨by rw [hbad]; rfl, hs.chg0⟩
  have h18 : inB (A.length : Int) 1 8 = true := inB_iff.2 (by omega)
  obtain ⟨gb, go, rfl⟩ := ha (by omega)
  (refine q_seq (q_region (ql_pure tabOk rfl rfl (q_nil (q_seq (q_seq (q_region (ql_pure tabOk rfl rfl (ql_pure tabOk rfl rfl (ql_lssF tabOk rfl rfl rfl (by omega) (ql_pure tabOk rfl rfl (ql_gyes rfl ?_))))))))))); refine ql_pure tabOk rfl rfl (ql_gyes rfl (ql_pure tabOk rfl rfl (ql_gyes rfl (ql_gtrF tabOk rfl rfl rfl (by omega) (ql_pure tabOk rfl rfl (q_nil (q_cond_false rfl (q_skip (q_seq (q_seq (q_region ?_))))))))))); refine ql_pure tabOk rfl rfl (q_nil (q_block ?_)))
  refine q_loop (σ := Nat) (fun k => k ≤ A.length ∧ (A.take k).all lenAB = true) (fun k => A.length - k) (fun k => [(0, (.slice (some ⟨gb, go, none⟩) A.length c)), (3, .int .i64 k)]) (fun _ => []) 0 ⟨by omega, rfl⟩ ⟨rfl, rfl, trivial⟩ (by repeat constructor) ?_
  rintro k ⟨hk, hok⟩ K hK
  (refine q_seq (q_seq (q_region ?_)); (iterate 4 refine ql_pure tabOk rfl rfl ?_); refine q_nil ?_)
  refine q_if rfl (fun hc => ?_) (fun hc => ?_)
  · have hk2 : k < A.length := by omega
    clear hc
    have hall := take_all (p := lenAB) hk2 hok
    have hnot := not_all (p := lenAB) hk2
    have hrk := hrl _ (List.getElem_mem hk2)
    obtain ⟨ra, rc, hr, hrc⟩ := RdII.row hII k hk2
    obtain ⟨row, hrowe⟩ : ∃ row, row = A[k] := ⟨_, rfl⟩
    rw [← hrowe] at hr hrc
    have hbad2 : inB (row.length : Int) 1 21 = false → chkA A = 2 := fun e => by unfold chkA; rw [h18, hnot (by rw [← hrowe]; unfold lenAB; rw [e]; rfl)]; rfl
    rw [← hrowe] at hall hrk
    (refine q_skip (q_seq (q_block (q_seq (q_region (ql_pure tabOk rfl rfl (ql_pure tabOk rfl rfl ?_)))))))
    refine ql_index tabOk rfl rfl rfl rfl rfl (by omega) (by omega) ?_
    skip
    refine ql_load1 tabOk rfl rfl rfl (fun w hs => hrc _ hs.chg0) ?_
    by_cases d1 : row.length < 1
    · have hbad := hbad2 (by rw [← Bool.not_eq_true, inB_iff]; omega)
      (refine ql_pure tabOk rfl rfl (ql_lssT tabOk rfl rfl rfl (by omega) (ql_pure tabOk rfl rfl ?_)); (iterate 6 refine ql_gno rfl rfl rfl ?_); refine ql_pure tabOk rfl rfl (q_nil (q_cond_true rfl (q_seq (q_region (ql_pure tabOk rfl rfl (q_nil (q_ret ?_))))))))
      refine q_fin tabOk rfl (by repeat constructor) fun w hs => ?_
      exact ⟨by rw [hbad]; rfl, hs.chg0⟩
    · (refine ql_pure tabOk rfl rfl (ql_lssF tabOk rfl rfl rfl (by omega) (ql_pure tabOk rfl rfl (ql_gyes rfl (ql_pure tabOk rfl rfl (ql_gyes rfl (ql_pure tabOk rfl rfl (ql_gyes rfl ?_))))))))
      refine ql_index tabOk rfl rfl rfl rfl rfl (by omega) (by omega) ?_
      (refine ql_gyes rfl ?_)
      refine ql_load1 tabOk rfl rfl rfl (fun w hs => hrc _ hs.chg0) ?_
      by_cases d2 : 21 < row.length
      · have hbad := hbad2 (by rw [← Bool.not_eq_true, inB_iff]; omega)
        (refine ql_gyes rfl (ql_pure tabOk rfl rfl (ql_gyes rfl (ql_gtrT tabOk rfl rfl rfl (by omega) (ql_pure tabOk rfl rfl (q_nil (q_cond_true rfl (q_seq (q_region (ql_pure tabOk rfl rfl (q_nil (q_ret ?_))))))))))))
        refine q_fin tabOk rfl (by repeat constructor) fun w hs => ?_
        exact ⟨by rw [hbad]; rfl, hs.chg0⟩
      · (refine ql_gyes rfl (ql_pure tabOk rfl rfl (ql_gyes rfl (ql_gtrF tabOk rfl rfl rfl (by omega) (ql_pure tabOk rfl rfl (q_nil (q_cond_false rfl (q_skip (q_blk (q_region (ql_pure tabOk rfl rfl (ql_ar tabOk rfl rfl rfl rfl (by omega) (by omega) ?_))))))))))); refine ql_pure tabOk rfl rfl (q_nil ?_))
        exact hK (k + 1) _ _ ⟨by omega, hall (by unfold lenAB; rw [inB_iff.2 (by omega)]; rfl)⟩ (by omega) ⟨rfl, rfl, trivial⟩ (by repeat constructor)
  obtain rfl : k = A.length := by omega
  clear hc hK hk
  rw [List.take_length] at hok
  have hl20 : ∀ r ∈ A, r.length ≤ 21 := fun r hm => by
    have := List.all_eq_true.1 hok r hm
    simp only [lenAB, Bool.and_true] at this
    have := inB_iff.1 this
    omega
  have e0 : chkA A = if A.all rngAB = false then 3 else if ordAA A A.length = false then 4 else 0 := by
    unfold chkA
    rw [if_neg (by rw [h18, hok]; simp)]
  clear hok
  (refine q_exit _ rfl (q_seq (q_seq (q_region (ql_pure tabOk rfl rfl (q_nil (q_block ?_)))))))
  refine q_loop (σ := Nat) (fun k => k ≤ A.length ∧ (A.take k).all rngAB = true) (fun k => A.length - k) (fun k => [(0, (.slice (some ⟨gb, go, none⟩) A.length c)), (4, .int .i64 k)]) (fun _ => []) 0 ⟨by omega, rfl⟩ ⟨rfl, rfl, trivial⟩ (by repeat constructor) ?_
  rintro k ⟨hk, hok⟩ K hK
  (refine q_seq (q_seq (q_region ?_)); (iterate 4 refine ql_pure tabOk rfl rfl ?_); refine q_nil ?_)
  refine q_if rfl (fun hc => ?_) (fun hc => ?_)
  · have hk2 : k < A.length := by omega
    clear hc
    have hall := take_all (p := rngAB) hk2 hok
    have hnot := not_all (p := rngAB) hk2
    have hrk := hl20 _ (List.getElem_mem hk2)
    obtain ⟨ra, rc, hr, hrc⟩ := RdII.row hII k hk2
    obtain ⟨row, hrowe⟩ : ∃ row, row = A[k] := ⟨_, rfl⟩
    rw [← hrowe] at hr hrc
    have hbad2 : rngAB row = false → chkA A = 3 := fun e => by rw [e0, if_pos (hnot (by rw [← hrowe]; exact e))]
    rw [← hrowe] at hall hrk
    clear hnot hrowe
    obtain ⟨ra', rc', er, hra⟩ := RdI.outI hr
    cases er
    (refine q_skip (q_seq (q_block (q_seq (q_region (ql_pure tabOk rfl rfl (q_nil (q_block ?_))))))))
    refine q_loop (σ := Nat) (fun u => u ≤ row.length ∧ ((row.take u).all fun n => inB n 0 1000) = true) (fun u => row.length - u) (fun u => [(0, (.slice (some ⟨gb, go, none⟩) A.length c)), (4, .int .i64 k), (5, .int .i64 u)]) (fun _ => []) 0 ⟨by omega, rfl⟩ ⟨rfl, rfl, rfl, trivial⟩ (by repeat constructor) ?_
    rintro u ⟨hu, hou⟩ K2 hK2
    (refine q_seq (q_seq (q_region ?_)); (iterate 3 refine ql_pure tabOk rfl rfl ?_))
    refine ql_index tabOk rfl rfl rfl rfl rfl (by omega) (by omega) ?_
    skip
    refine ql_load1 tabOk rfl rfl rfl (fun w hs => hrc _ hs.chg0) ?_
    (refine ql_pure tabOk rfl rfl (ql_pure tabOk rfl rfl (q_nil ?_)))
    refine q_if rfl (fun hc => ?_) (fun hc => ?_)
    · have hu2 : u < row.length := by omega
      clear hc
      have hall2 := take_all (p := fun n => inB n 0 1000) hu2 hou
      obtain ⟨rb, ro, rfl⟩ := hra (by omega)
      have hrow : ∀ i (hi : i < row.length) (w' : World), Chg [] w w' → w'.cell? ⟨rb, ro + i * 1, none⟩ = some (.int .i64 row[i]) := fun i hi w' hs => RdI.at (RdE.keep hr hs) i hi
      (refine q_skip (q_seq (q_block (q_seq (q_region (ql_pure tabOk rfl rfl (ql_pure tabOk rfl rfl ?_)))))))
      refine ql_index tabOk rfl rfl rfl rfl rfl (by omega) (by omega) ?_
      skip
      refine ql_load1 tabOk rfl rfl rfl (fun w hs => hrc _ hs.chg0) ?_
      (refine ql_pure tabOk rfl rfl ?_)
      refine ql_index tabOk rfl rfl rfl rfl rfl (by omega) (by omega) ?_
      skip
      refine ql_load1 (v := .int .i64 row[u]) tabOk rfl rfl rfl (fun w hs => hrow (u) hu2 _ hs.chg0) ?_
      skip
      refine ql_callv (val := .bool (!(inB row[u] 0 1000))) tabOk rfl rfl rfl rfl (fun w hs => ?_) ?_; exact routs_ca row[u] 0 1000 w
      cases d : inB row[u] 0 1000 with
      | false =>
        have hbad := hbad2 (not_all (p := fun n => inB n 0 1000) hu2 d)
        (refine q_nil (q_cond_true rfl (q_seq (q_region (ql_pure tabOk rfl rfl (q_nil (q_ret ?_)))))))
        refine q_fin tabOk rfl (by repeat constructor) fun w hs => ?_
        exact ⟨by rw [hbad]; rfl, hs.chg0⟩
      | true =>
        (refine q_nil (q_cond_false rfl (q_skip (q_blk (q_region (ql_pure tabOk rfl rfl (ql_ar tabOk rfl rfl rfl rfl (by omega) (by omega) (ql_pure tabOk rfl rfl (q_nil ?_)))))))))
        exact hK2 (u + 1) _ _ ⟨by omega, hall2 d⟩ (by omega) ⟨rfl, rfl, rfl, trivial⟩ (by repeat constructor)
    · obtain rfl : u = row.length := by omega
      clear hc hK2
      rw [List.take_length] at hou
      (refine q_exit _ rfl (q_blk (q_region (ql_pure tabOk rfl rfl (ql_ar tabOk rfl rfl rfl rfl (by omega) (by omega) (ql_pure tabOk rfl rfl (q_nil ?_)))))))
      exact hK (k + 1) _ _ ⟨by omega, hall hou⟩ (by omega) ⟨rfl, rfl, trivial⟩ (by repeat constructor)
  obtain rfl : k = A.length := by omega
  clear hc hK hk
  rw [List.take_length] at hok
  rw [if_neg (by rw [hok]; simp)] at e0
  (refine q_exit _ rfl (q_seq (q_seq (q_region (ql_pure tabOk rfl rfl (q_nil (q_block ?_)))))))
  refine q_loop (σ := Nat) (fun k => k ≤ A.length ∧ ordAA A k = true) (fun k => A.length - k) (fun k => [(0, (.slice (some ⟨gb, go, none⟩) A.length c)), (6, .int .i64 k)]) (fun _ => []) 0 ⟨by omega, rfl⟩ ⟨rfl, rfl, trivial⟩ (by repeat constructor) ?_
  rintro k ⟨hk, hoa⟩ K hK
  (refine q_seq (q_seq (q_region ?_)); (iterate 4 refine ql_pure tabOk rfl rfl ?_); refine q_nil ?_)
  refine q_if rfl (fun hc => ?_) (fun hc => ?_)
  · have hk2 : k < A.length := by omega
    clear hc
    have hsu := ordAA_succ A k
    rw [hoa, Bool.true_and, getA hk2] at hsu
    have hrk := hl20 _ (List.getElem_mem hk2)
    have hbd : ∀ i (hi : i < A[k].length), 0 ≤ A[k][i] ∧ A[k][i] ≤ 1000 := fun i hi => inB_iff.1 (List.all_eq_true.1 (List.all_eq_true.1 hok _ (List.getElem_mem hk2)) _ (List.getElem_mem hi))
    obtain ⟨ra, rc, hr, hrc⟩ := RdII.row hII k hk2
    generalize A[k] = row at hsu hr hrc hrk hbd
    obtain ⟨ra', rc', er, hra⟩ := RdI.outI hr
    cases er
    (refine q_skip (q_seq (q_block (q_seq (q_region (ql_pure tabOk rfl rfl (q_nil (q_block ?_))))))))
    refine q_loop (σ := Nat) (fun u => 1 ≤ u ∧ (u ≤ row.length ∨ u = 1) ∧ ordAR row u = true) (fun u => row.length - u) (fun u => [(0, (.slice (some ⟨gb, go, none⟩) A.length c)), (6, .int .i64 k), (7, .int .i64 u)]) (fun _ => []) 1 ⟨Nat.le_refl _, .inr rfl, by simp [ordAR]⟩ ⟨rfl, rfl, rfl, trivial⟩ (by repeat constructor) ?_
    rintro u ⟨hu1, hu2, hou⟩ K2 hK2
    (refine q_seq (q_seq (q_region ?_)); (iterate 3 refine ql_pure tabOk rfl rfl ?_))
    refine ql_index tabOk rfl rfl rfl rfl rfl (by omega) (by omega) ?_
    skip
    refine ql_load1 tabOk rfl rfl rfl (fun w hs => hrc _ hs.chg0) ?_
    (refine ql_pure tabOk rfl rfl (ql_pure tabOk rfl rfl (q_nil ?_)))
    refine q_if rfl (fun hc => ?_) (fun hc => ?_)
    · have hu3 : u < row.length := by omega
      clear hc
      have hsr := ordAR_succ row u
      rw [hou, Bool.true_and, decide_eq_false (by omega), Bool.false_or] at hsr
      obtain ⟨rb, ro, rfl⟩ := hra (by omega)
      obtain ⟨q, rfl⟩ : ∃ q, u = q + 1 := ⟨u - 1, by omega⟩
      have hq : q < row.length := by omega
      have hrow : ∀ i (hi : i < row.length) (w' : World), Chg [] w w' → w'.cell? ⟨rb, ro + i * 1, none⟩ = some (.int .i64 row[i]) := fun i hi w' hs => RdI.at (RdE.keep hr hs) i hi
      have b1 := hbd (q + 1) hu3
      have b2 := hbd q hq
      have hq1 : ((q + 1 : Nat) : Int) - 1 = q := by omega
      have hfalse : ordAB row (q + 1) = false → chkA A = 4 := fun e => by
        have h6 : ordAA A (k + 1) = false := by rw [hsu]; exact all_false (k := q + 1) (by rw [e]; simp) hu3
        have h7 : ordAA A A.length = false := by
          unfold ordAA at h6 ⊢
          rw [List.all_eq_false] at h6 ⊢
          obtain ⟨z, z1, z2⟩ := h6
          exact ⟨z, List.mem_range.2 (by have := List.mem_range.1 z1; omega), z2⟩
        rw [e0, if_pos h7]
      have hord : ordAB row (q + 1) = (decide (row[q + 1] ≤ row[q]) && (decide (q + 1 ≤ 1) || decide (row[q] - row[q + 1] ≤ row.getD (q + 1 - 2) 0 - row[q]))) := by
        unfold ordAB
        rw [Nat.add_sub_cancel, getI hu3, getI hq]
      (refine q_skip (q_seq (q_block (q_seq (q_seq ?_)))))
      refine q_draw _ [] (Sp.refl _) (by kernel_rfl) (by kernel_rfl) ?_
      (refine qf_pure tabOk rfl rfl rfl (qf_pure tabOk rfl rfl rfl ?_))
      refine qf_index tabOk rfl rfl rfl rfl rfl (by omega) (by omega) ?_
      skip
      refine qf_load1 tabOk rfl rfl rfl (fun w hs => hrc _ hs.chg0) ?_
      (refine qf_pure tabOk rfl rfl rfl ?_)
      refine qf_index tabOk rfl rfl rfl rfl rfl (by omega) (by omega) ?_
      skip
      refine qf_load1 (v := .int .i64 row[q + 1]) tabOk rfl rfl rfl (fun w hs => hrow (q + 1) hu3 _ hs.chg0) ?_
      (refine qf_pure tabOk rfl rfl rfl (qf_pure tabOk rfl rfl rfl ?_))
      refine qf_index tabOk rfl rfl rfl rfl rfl (by omega) (by omega) ?_
      skip
      refine qf_load1 tabOk rfl rfl rfl (fun w hs => hrc _ hs.chg0) ?_
      (refine qf_pure tabOk rfl rfl rfl (qf_ar tabOk rfl rfl rfl rfl (by omega) (by omega) ?_))
      rw [hq1]
      refine qf_index tabOk rfl rfl rfl rfl rfl (by omega) (by omega) ?_
      skip
      refine qf_load1 (v := .int .i64 row[q]) tabOk rfl rfl rfl (fun w hs => hrow (q) hq _ hs.chg0) ?_
      by_cases d1 : row[q] < row[q + 1]
      · have hbad := hfalse (by rw [hord, decide_eq_false (by omega)]; rfl)
        (refine qf_gtrT tabOk rfl rfl rfl (by omega) (qf_nil (q_cond_true rfl (q_seq (q_region (ql_pure tabOk rfl rfl (q_nil (q_ret ?_))))))))
        refine q_fin tabOk rfl (by repeat constructor) fun w hs => ?_
        exact ⟨by rw [hbad]; rfl, hs.chg0⟩
      · by_cases d2 : q = 0
        · subst d2
          (refine qf_gtrF tabOk rfl rfl rfl (by omega) (qf_nil (q_cond_false rfl (q_skip (q_seq ?_)))))
          refine q_draw _ [] (Sp.refl _) (by kernel_rfl) (by kernel_rfl) ?_
          (refine qf_pure tabOk rfl rfl rfl (qf_gtrF tabOk rfl rfl rfl (by omega) (qf_pure tabOk rfl rfl rfl ?_)); (iterate 26 refine qf_gno rfl rfl rfl ?_); refine qf_pure tabOk rfl rfl rfl (qf_nil (q_cond_false rfl (q_skip (q_blk (q_region (ql_pure tabOk rfl rfl (ql_ar tabOk rfl rfl rfl rfl (by omega) (by omega) (ql_pure tabOk rfl rfl (q_nil ?_))))))))))
          exact hK2 (0 + 1 + 1) _ _ ⟨by omega, by omega, by rw [hsr, hord, decide_eq_true (by omega)]; rfl⟩ (by omega) ⟨rfl, rfl, rfl, trivial⟩ (by repeat constructor)
        · obtain ⟨z, rfl⟩ : ∃ z, q = z + 1 := ⟨q - 1, by omega⟩
          have hz : z < row.length := by omega
          have b3 := hbd z hz
          have hz2 : ((z + 1 + 1 : Nat) : Int) - 2 = z := by omega
          have hord2 : ordAB row (z + 1 + 1) = decide (row[z + 1] - row[z + 1 + 1] ≤ row[z] - row[z + 1]) := by
            rw [hord, decide_eq_true (by omega), Bool.true_and, decide_eq_false (show ¬ z + 1 + 1 ≤ 1 by omega), Bool.false_or, show z + 1 + 1 - 2 = z from by omega, getI hz]
          (refine qf_gtrF tabOk rfl rfl rfl (by omega) (qf_nil (q_cond_false rfl (q_skip (q_seq ?_)))))
          refine q_draw _ [] (Sp.refl _) (by kernel_rfl) (by kernel_rfl) ?_
          (refine qf_pure tabOk rfl rfl rfl (qf_gtrT tabOk rfl rfl rfl (by omega) (qf_pure tabOk rfl rfl rfl (qf_gyes rfl (qf_pure tabOk rfl rfl rfl (qf_gyes rfl (qf_pure tabOk rfl rfl rfl (qf_gyes rfl ?_))))))))
          refine qf_index tabOk rfl rfl rfl rfl rfl (by omega) (by omega) ?_
          (refine qf_gyes rfl ?_)
          refine qf_load1 tabOk rfl rfl rfl (fun w hs => hrc _ hs.chg0) ?_
          (refine qf_gyes rfl (qf_pure tabOk rfl rfl rfl (qf_gyes rfl (qf_ar tabOk rfl rfl rfl rfl (by omega) (by omega) (qf_gyes rfl ?_)))))
          rw [hz2]
          refine qf_index tabOk rfl rfl rfl rfl rfl (by omega) (by omega) ?_
          (refine qf_gyes rfl ?_)
          refine qf_load1 (v := .int .i64 row[z]) tabOk rfl rfl rfl (fun w hs => hrow (z) hz _ hs.chg0) ?_
          (refine qf_gyes rfl (qf_pure tabOk rfl rfl rfl (qf_gyes rfl (qf_pure tabOk rfl rfl rfl (qf_gyes rfl ?_)))))
          refine qf_index tabOk rfl rfl rfl rfl rfl (by omega) (by omega) ?_
          (refine qf_gyes rfl ?_)
          refine qf_load1 tabOk rfl rfl rfl (fun w hs => hrc _ hs.chg0) ?_
          (refine qf_gyes rfl (qf_pure tabOk rfl rfl rfl (qf_gyes rfl ?_)))
          refine qf_index tabOk rfl rfl rfl rfl rfl (by omega) (by omega) ?_
          (refine qf_gyes rfl ?_)
          refine qf_load1 (v := .int .i64 row[z + 1 + 1]) tabOk rfl rfl rfl (fun w hs => hrow (z + 1 + 1) hu3 _ hs.chg0) ?_
          (refine qf_gyes rfl (qf_ar tabOk rfl rfl rfl rfl (by omega) (by omega) (qf_gyes rfl (qf_pure tabOk rfl rfl rfl (qf_gyes rfl (qf_pure tabOk rfl rfl rfl (qf_gyes rfl ?_)))))))
          refine qf_index tabOk rfl rfl rfl rfl rfl (by omega) (by omega) ?_
          (refine qf_gyes rfl ?_)
          refine qf_load1 tabOk rfl rfl rfl (fun w hs => hrc _ hs.chg0) ?_
          (refine qf_gyes rfl (qf_pure tabOk rfl rfl rfl (qf_gyes rfl (qf_ar tabOk rfl rfl rfl rfl (by omega) (by omega) (qf_gyes rfl ?_)))))
          rw [hq1]
          refine qf_index tabOk rfl rfl rfl rfl rfl (by omega) (by omega) ?_
          (refine qf_gyes rfl ?_)
          refine qf_load1 (v := .int .i64 row[z + 1]) tabOk rfl rfl rfl (fun w hs => hrow (z + 1) hq _ hs.chg0) ?_
          by_cases d3 : row[z] + row[z + 1 + 1] < 2 * row[z + 1]
          · have hbad := hfalse (by rw [hord2, decide_eq_false (by omega)])
            (refine qf_gyes rfl (qf_ar tabOk rfl rfl rfl rfl (by omega) (by omega) (qf_gyes rfl (qf_lssT tabOk rfl rfl rfl (by omega) (qf_pure tabOk rfl rfl rfl (qf_nil (q_cond_true rfl (q_seq (q_region (ql_pure tabOk rfl rfl (q_nil (q_ret ?_))))))))))))
            refine q_fin tabOk rfl (by repeat constructor) fun w hs => ?_
            exact ⟨by rw [hbad]; rfl, hs.chg0⟩
          · (refine qf_gyes rfl (qf_ar tabOk rfl rfl rfl rfl (by omega) (by omega) (qf_gyes rfl (qf_lssF tabOk rfl rfl rfl (by omega) (qf_pure tabOk rfl rfl rfl (qf_nil (q_cond_false rfl (q_skip (q_blk (q_region (ql_pure tabOk rfl rfl (ql_ar tabOk rfl rfl rfl rfl (by omega) (by omega) ?_))))))))))); refine ql_pure tabOk rfl rfl (q_nil ?_))
            exact hK2 (z + 1 + 1 + 1) _ _ ⟨by omega, by omega, by rw [hsr, hord2, decide_eq_true (by omega)]⟩ (by omega) ⟨rfl, rfl, rfl, trivial⟩ (by repeat constructor)
    · have hou2 : ordAR row row.length = true := by
        by_cases e : u ≤ row.length
        · obtain rfl : u = row.length := by omega
          exact hou
        · have : row.length = 0 := by omega
          rw [this]
          rfl
      clear hc hK2
      (refine q_exit _ rfl (q_blk (q_region (ql_pure tabOk rfl rfl (ql_ar tabOk rfl rfl rfl rfl (by omega) (by omega) (ql_pure tabOk rfl rfl (q_nil ?_)))))))
      exact hK (k + 1) _ _ ⟨by omega, by rw [hsu]; exact hou2⟩ (by omega) ⟨rfl, rfl, trivial⟩ (by repeat constructor)
  obtain rfl : k = A.length := by omega
  (refine q_exit _ rfl (q_seq (q_region (ql_pure tabOk rfl rfl (q_nil (q_ret ?_))))))
  refine q_fin tabOk rfl (by repeat constructor) fun w hs => ?_
  exact ⟨by rw [e0, if_neg (by rw [hoa]; simp)]; rfl, hs.chg0⟩
end Go.Proofs.YtopdmadgkjdgcaaGreat

/- Walks of the reference: the misses of waits, whether a price holds. Written by gen_F52.py. -/
namespace Go.Proofs.YtopdmadgkjdgcaaGreat
set_option maxRecDepth 4000
open Go Go.Eng
theorem wtB_iffK {A : List (List Int)} {W : List Int} {k : Nat} : wtB A W k = true ↔ ∀ i, i < k → inB (W.getD i 0) 0 ((amW A i : Int) - 1) = true := by
  unfold wtB
  rw [List.all_eq_true]
  exact ⟨fun h i hi => h i (List.mem_range.2 hi), fun h i hi => h i (List.mem_range.1 hi)⟩
def missI (A : List (List Int)) (W : List Int) : Int := if chkWt A W = 0 then missV A (W.map Int.toNat) else 0
set_option maxHeartbeats 4000000 in
theorem rmiss_ca (w : World) (lo hi lo2 hi2 : Nat) (v wv : Value) (A : List (List Int)) (W : List Int) (h : RdII w lo hi v A) (hW : RdI w lo2 hi2 wv W) (hlen : A.length ≤ maxLen) (hrl : ∀ r ∈ A, r.length ≤ maxLen) : Ca Tryz.prog 84 [v, wv] w fun x w' => x = .tuple #[.int .i64 (missI A W), .int .i64 (chkWt A W)] ∧ Chg [] w w' := by
  obtain ⟨a, c, rfl, ha⟩ := RdII.outI h
  obtain ⟨wa, wc, rfl, hwa⟩ := RdI.outI hW
  refine q_of (Sat.nil w M0) Tryz.func84 rfl (by simp [Tryz.ntmps84]) ?_
  (refine q_seq (q_region (ql_pure tabOk rfl rfl (ql_pure tabOk rfl rfl (q_nil (q_seq (q_seq (q_region (ql_pure tabOk rfl rfl ?_)))))))))
  refine ql_callv (val := .int .i64 (chkA A)) tabOk rfl rfl rfl rfl (fun w hs => ?_) ?_; exact rchkA_ca w lo hi _ A (h.keep hs.chg0) hlen hrl
  simp only [maxLen] at hlen
  by_cases c0 : chkA A = 0
  · have hA := chkA_zero.1 c0
    have n1 := hA.n1
    have n8 := hA.n8
    rw [c0]
    by_cases cl : W.length = A.length
    · rw [cl] at hwa hW ⊢
      obtain ⟨gb, go, rfl⟩ := ha (by omega)
      obtain ⟨wb, wo, rfl⟩ := hwa (by omega)
      have e0 : chkWt A W = if wtB A W A.length = true then 0 else 3 := by unfold chkWt; rw [if_neg (by omega), if_neg (by omega)]
      (refine ql_pure tabOk rfl rfl (q_nil (q_seq (q_region (ql_pure tabOk rfl rfl (ql_neqF tabOk rfl rfl rfl (by omega) (q_nil (q_cond_false rfl (q_skip (q_seq (q_seq (q_region ?_))))))))))); (iterate 4 refine ql_pure tabOk rfl rfl ?_); refine ql_neqF tabOk rfl rfl rfl (by omega) (q_nil (q_cond_false rfl (q_skip (q_seq (q_region (ql_pure tabOk rfl rfl (q_nil (q_seq (q_seq (q_region (ql_pure tabOk rfl rfl ?_))))))))))); refine q_nil (q_block ?_))
      refine q_loop (σ := Nat) (fun k => k ≤ A.length ∧ wtB A W k = true) (fun k => A.length - k) (fun k => [(0, (.slice (some ⟨gb, go, none⟩) A.length c)), (1, (.slice (some ⟨wb, wo, none⟩) A.length wc)), (7, .int .i64 (smF (fun i => amA A i (wtO (W.map Int.toNat) i)) k)), (8, .int .i64 k)]) (fun _ => []) 0 ⟨by omega, rfl⟩ ⟨rfl, rfl, rfl, rfl, trivial⟩ (by repeat constructor) ?_
      rintro k ⟨hk, hok⟩ K hK
      (refine q_seq (q_seq (q_region ?_)); (iterate 4 refine ql_pure tabOk rfl rfl ?_); refine q_nil ?_)
      refine q_if rfl (fun hc => ?_) (fun hc => ?_)
      · have hk2 : k < A.length := by omega
        clear hc
        have hkW : k < W.length := by omega
        have hrw := hA.row k hk2
        have hsu := wtB_succ A W k
        rw [hok, Bool.true_and, getI hkW] at hsu
        obtain ⟨rb, ro, rc, hr1, hr2⟩ := aim_row h hk2 (by omega)
        (refine q_skip (q_seq (q_block (q_seq (q_seq ?_)))))
        refine q_draw _ [] (Sp.refl _) (by kernel_rfl) (by kernel_rfl) ?_
        (refine qf_pure tabOk rfl rfl rfl (qf_pure tabOk rfl rfl rfl ?_))
        refine qf_index tabOk rfl rfl rfl rfl rfl (by omega) (by omega) ?_
        skip
        refine qf_load1 (v := .int .i64 W[k]) tabOk rfl rfl rfl (fun w hs => RdI.at (RdE.keep hW hs.chg0) k hkW) ?_
        (refine qf_pure tabOk rfl rfl rfl (qf_pure tabOk rfl rfl rfl ?_))
        refine qf_index tabOk rfl rfl rfl rfl rfl (by omega) (by omega) ?_
        skip
        refine qf_load1 tabOk rfl rfl rfl (fun w hs => hr1 _ hs.chg0) ?_
        (refine qf_pure tabOk rfl rfl rfl (qf_ar tabOk rfl rfl rfl rfl (by omega) (by omega) ?_))
        refine qf_callv (val := .bool (!(inB W[k] 0 ((amW A k : Int) - 1)))) tabOk rfl rfl rfl rfl (fun w hs => ?_) ?_; exact routs_ca W[k] 0 ((amW A k : Int) - 1) w
        cases hin : inB W[k] 0 ((amW A k : Int) - 1) with
        | false =>
          have hbad : chkWt A W = 3 := by
            rw [hin] at hsu
            have : wtB A W A.length = false := by
              unfold wtB at hsu ⊢
              rw [List.all_eq_false] at hsu ⊢
              obtain ⟨z, z1, z2⟩ := hsu
              exact ⟨z, List.mem_range.2 (by have := List.mem_range.1 z1; omega), z2⟩
            rw [e0, if_neg (by rw [this]; simp)]
          (refine qf_nil (q_cond_true rfl (q_seq (q_region (ql_pure tabOk rfl rfl (ql_pure tabOk rfl rfl (q_nil (q_ret ?_))))))))
          refine q_fin tabOk rfl (by repeat constructor) fun w hs => ?_
          exact ⟨by rw [hbad, missI, if_neg (by omega)]; rfl, hs.chg0⟩
        | true =>
          have hib := inB_iff.1 hin
          obtain ⟨x, hx⟩ := Int.eq_ofNat_of_zero_le hib.1
          have hxl : x < amW A k := by omega
          have hb := hA.bd k x hk2 hxl
          have hsm : 0 ≤ smF (fun i => amA A i (wtO (W.map Int.toNat) i)) k ∧ smF (fun i => amA A i (wtO (W.map Int.toNat) i)) k ≤ 1000 * k := miss_part hA (by omega) fun j hj => by
            have := (wtB_iffK.1 hok) j hj
            rw [wtO_toNat (by omega)]
            have h2 := inB_iff.1 this
            omega
          have hwt : wtO (W.map Int.toNat) k = x := by rw [wtO_toNat hkW, getI hkW, hx]; rfl
          have hst : smF (fun i => amA A i (wtO (W.map Int.toNat) i)) (k + 1) = smF (fun i => amA A i (wtO (W.map Int.toNat) i)) k + amA A k x := by
            simp only [smF]
            rw [hwt]
          (refine qf_nil (q_cond_false rfl (q_skip ?_)))
          refine q_draw _ [] (Sp.refl _) (by kernel_rfl) (by kernel_rfl) ?_
          ((iterate 3 refine qf_pure tabOk rfl rfl rfl ?_))
          refine qf_index tabOk rfl rfl rfl rfl rfl (by omega) (by omega) ?_
          skip
          refine qf_load1 tabOk rfl rfl rfl (fun w hs => hr1 _ hs.chg0) ?_
          (refine qf_pure tabOk rfl rfl rfl (qf_pure tabOk rfl rfl rfl ?_))
          refine qf_index tabOk rfl rfl rfl rfl rfl (by omega) (by omega) ?_
          skip
          refine qf_load1 (v := .int .i64 W[k]) tabOk rfl rfl rfl (fun w hs => RdI.at (RdE.keep hW hs.chg0) k hkW) ?_
          rw [hx]
          skip
          refine qf_index tabOk rfl rfl rfl rfl rfl (by omega) (by omega) ?_
          skip
          refine qf_load1 tabOk rfl rfl rfl (fun w hs => hr2 x hxl _ hs.chg0) ?_
          (refine qf_ar tabOk rfl rfl rfl rfl (by omega) (by omega) (qf_pure tabOk rfl rfl rfl (qf_nil (q_blk (q_region (ql_pure tabOk rfl rfl (ql_ar tabOk rfl rfl rfl rfl (by omega) (by omega) (ql_pure tabOk rfl rfl (q_nil ?_)))))))))
          exact hK (k + 1) _ _ ⟨by omega, by rw [hsu, hin]⟩ (by omega) ⟨rfl, rfl, lookI rfl hst.symm, rfl, trivial⟩ (by repeat constructor)
      · obtain rfl : k = A.length := by omega
        have hz : chkWt A W = 0 := by rw [e0, if_pos hok]
        (refine q_exit _ rfl (q_seq (q_region ?_)); (iterate 3 refine ql_pure tabOk rfl rfl ?_); refine q_nil (q_ret ?_))
        refine q_fin tabOk rfl (by repeat constructor) fun w hs => ?_
        exact ⟨by rw [hz, missI, if_pos hz]; rfl, hs.chg0⟩
    · have hbad : chkWt A W = 2 := by unfold chkWt; rw [if_neg (by omega), if_pos (by omega)]
      (refine ql_pure tabOk rfl rfl (q_nil (q_seq (q_region (ql_pure tabOk rfl rfl (ql_neqF tabOk rfl rfl rfl (by omega) (q_nil (q_cond_false rfl (q_skip (q_seq (q_seq (q_region ?_))))))))))); (iterate 4 refine ql_pure tabOk rfl rfl ?_); refine ql_neqT tabOk rfl rfl rfl (by omega) (q_nil (q_cond_true rfl (q_seq (q_region (ql_pure tabOk rfl rfl (ql_pure tabOk rfl rfl (q_nil (q_ret ?_)))))))))
      refine q_fin tabOk rfl (by repeat constructor) fun w hs => ?_
      exact ⟨by rw [hbad, missI, if_neg (by omega)]; rfl, hs.chg0⟩
  · have hbad : chkWt A W = chkA A := by unfold chkWt; rw [if_pos c0]
    (refine ql_pure tabOk rfl rfl (q_nil (q_seq (q_region (ql_pure tabOk rfl rfl (ql_neqT tabOk rfl rfl rfl (by omega) (q_nil (q_cond_true rfl (q_seq (q_region ?_))))))))); (iterate 3 refine ql_pure tabOk rfl rfl ?_); refine q_nil (q_ret ?_))
    refine q_fin tabOk rfl (by repeat constructor) fun w hs => ?_
    exact ⟨by rw [missI, if_neg (by omega), hbad]; rfl, hs.chg0⟩
set_option maxHeartbeats 4000000 in
theorem rhol_no (w : World) (lo hi lo2 hi2 : Nat) (v wv : Value) (A : List (List Int)) (W : List Int) (p : Int) (h : RdII w lo hi v A) (hW : RdI w lo2 hi2 wv W) (hlen : A.length ≤ maxLen) (hrl : ∀ r ∈ A, r.length ≤ maxLen) (h0 : chkWt A W ≠ 0) : Ca Tryz.prog 89 [v, wv, .int .i64 p] w fun x w' => x = .tuple #[.bool false, .int .i64 (chkWt A W)] ∧ Chg [] w w' := by
  refine q_of (Sat.nil w M0) Tryz.func89 rfl (by simp [Tryz.ntmps89]) ?_
  (refine q_seq (q_region (ql_pure tabOk rfl rfl (ql_pure tabOk rfl rfl (q_nil (q_seq (q_seq (q_region (ql_pure tabOk rfl rfl (ql_pure tabOk rfl rfl ?_))))))))))
  refine ql_callv (val := .tuple #[.int .i64 (missI A W), .int .i64 (chkWt A W)]) tabOk rfl rfl rfl rfl (fun w hs => ?_) ?_; exact rmiss_ca w lo hi lo2 hi2 _ _ A W (h.keep hs.chg0) (RdE.keep hW hs.chg0) hlen hrl
  (refine ql_pure tabOk rfl rfl (ql_ext tabOk rfl rfl rfl (ql_ext tabOk rfl rfl rfl (ql_pure tabOk rfl rfl (ql_pure tabOk rfl rfl (q_nil (q_seq (q_region (ql_pure tabOk rfl rfl (ql_neqT tabOk rfl rfl rfl (by omega) (q_nil (q_cond_true rfl ?_))))))))))); refine q_seq (q_region ?_); (iterate 3 refine ql_pure tabOk rfl rfl ?_); refine q_nil (q_ret ?_))
  refine q_fin tabOk rfl (by repeat constructor) fun w hs => ?_
  exact ⟨rfl, hs.chg0⟩
theorem rhol_neg (w : World) (lo hi lo2 hi2 : Nat) (v wv : Value) (A : List (List Int)) (W : List Int) (p : Int) (h : RdII w lo hi v A) (hW : RdI w lo2 hi2 wv W) (hlen : A.length ≤ maxLen) (hrl : ∀ r ∈ A, r.length ≤ maxLen) (h0 : chkWt A W = 0) (hp : p < 0) : Ca Tryz.prog 89 [v, wv, .int .i64 p] w fun x w' => x = .tuple #[.bool false, .int .i64 3] ∧ Chg [] w w' := by
  refine q_of (Sat.nil w M0) Tryz.func89 rfl (by simp [Tryz.ntmps89]) ?_
  (refine q_seq (q_region (ql_pure tabOk rfl rfl (ql_pure tabOk rfl rfl (q_nil (q_seq (q_seq (q_region (ql_pure tabOk rfl rfl (ql_pure tabOk rfl rfl ?_))))))))))
  refine ql_callv (val := .tuple #[.int .i64 (missI A W), .int .i64 0]) tabOk rfl rfl rfl rfl (fun w hs => ?_) ?_; exact by have := rmiss_ca w lo hi lo2 hi2 _ _ A W (h.keep hs.chg0) (RdE.keep hW hs.chg0) hlen hrl; rw [h0] at this; exact this
  (refine ql_pure tabOk rfl rfl (ql_ext tabOk rfl rfl rfl (ql_ext tabOk rfl rfl rfl (ql_pure tabOk rfl rfl (ql_pure tabOk rfl rfl (q_nil (q_seq (q_region (ql_pure tabOk rfl rfl (ql_neqF tabOk rfl rfl rfl (by omega) (q_nil (q_cond_false rfl ?_))))))))))); refine q_skip (q_seq (q_seq (q_region (ql_pure tabOk rfl rfl (ql_lssT tabOk rfl rfl rfl (by omega) (q_nil (q_cond_true rfl (q_seq (q_region (ql_pure tabOk rfl rfl (ql_pure tabOk rfl rfl ?_))))))))))); refine q_nil (q_ret ?_))
  refine q_fin tabOk rfl (by repeat constructor) fun w hs => ?_
  exact ⟨rfl, hs.chg0⟩
set_option maxHeartbeats 8000000 in
theorem rhol_ok (w : World) (lo hi lo2 hi2 : Nat) (v wv : Value) (A : List (List Int)) (V : List Nat) (p : Int) (h : RdII w lo hi v A) (hW : RdI w lo2 hi2 wv (nI V)) (hA : AimOk A) (hV : WOk A V) (hp : 0 ≤ p) (hp2 : p ≤ 9223372036854775807) : Ca Tryz.prog 89 [v, wv, .int .i64 p] w fun x w' => x = .tuple #[.bool (hoV A V p), .int .i64 0] ∧ Chg [] w w' := by
  have n1 := hA.n1
  have n8 := hA.n8
  have hl := hV.len
  have hlA : A.length ≤ maxLen := by simp only [maxLen]; omega
  have hrl : ∀ r ∈ A, r.length ≤ maxLen := fun r hr => by
    obtain ⟨i, hi, rfl⟩ := List.mem_iff_getElem.1 hr
    have := hA.row i hi
    unfold amW at this
    rw [getA hi] at this
    simp only [maxLen]
    omega
  have hWl : (nI V).length = A.length := by rw [nI_len, hl]
  obtain ⟨a, c, rfl, ha⟩ := RdII.outI h
  obtain ⟨gb, go, rfl⟩ := ha (by omega)
  obtain ⟨wa, wc, rfl, hwa⟩ := RdI.outI hW
  rw [hWl] at hwa hW ⊢
  obtain ⟨wb, wo, rfl⟩ := hwa (by omega)
  have e0 : hoV A V p = hoB A V (min p 1001) A.length := by unfold hoV; rw [Bool.and_true]
  rw [e0]
  obtain ⟨q, hq⟩ : ∃ q, q = min p 1001 := ⟨_, rfl⟩
  rw [← hq]
  have hq2 : 0 ≤ q ∧ q ≤ 1001 := by omega
  refine q_of (Sat.nil w M0) Tryz.func89 rfl (by simp [Tryz.ntmps89]) ?_
  (refine q_seq (q_region (ql_pure tabOk rfl rfl (ql_pure tabOk rfl rfl (q_nil (q_seq (q_seq (q_region (ql_pure tabOk rfl rfl (ql_pure tabOk rfl rfl ?_))))))))))
  refine ql_callv (val := .tuple #[.int .i64 (missI A (nI V)), .int .i64 0]) tabOk rfl rfl rfl rfl (fun w hs => ?_) ?_; exact by have := rmiss_ca w lo hi lo2 hi2 _ _ A (nI V) (h.keep hs.chg0) (RdE.keep hW hs.chg0) hlA hrl; rw [chkWt_of hA hV] at this; exact this
  (refine ql_pure tabOk rfl rfl (ql_ext tabOk rfl rfl rfl (ql_ext tabOk rfl rfl rfl (ql_pure tabOk rfl rfl (ql_pure tabOk rfl rfl (q_nil (q_seq (q_region (ql_pure tabOk rfl rfl (ql_neqF tabOk rfl rfl rfl (by omega) (q_nil (q_cond_false rfl ?_))))))))))); refine q_skip (q_seq (q_seq (q_region (ql_pure tabOk rfl rfl (ql_lssF tabOk rfl rfl rfl (by omega) (q_nil (q_cond_false rfl (q_skip (q_seq (q_seq (q_region ?_))))))))))); refine ql_pure tabOk rfl rfl (q_nil (q_block ?_)))
  refine q_loop (σ := Nat) (fun k => k ≤ A.length ∧ hoB A V q k = true) (fun k => A.length - k) (fun k => [(0, (.slice (some ⟨gb, go, none⟩) A.length c)), (1, (.slice (some ⟨wb, wo, none⟩) A.length wc)), (2, .int .i64 p), (10, .int .i64 k)]) (fun _ => []) 0 ⟨by omega, rfl⟩ ⟨rfl, rfl, rfl, rfl, trivial⟩ (by repeat constructor) ?_
  rintro k ⟨hk, hok⟩ K hK
  (refine q_seq (q_seq (q_region ?_)); (iterate 4 refine ql_pure tabOk rfl rfl ?_); refine q_nil ?_)
  refine q_if rfl (fun hc => ?_) (fun hc => ?_)
  · have hk2 : k < A.length := by omega
    clear hc
    have hrow := hA.row k hk2
    have hx := hV.lt k hk2
    obtain ⟨rb, ro, rc, hr1, hr2⟩ := aim_row h hk2 (by omega)
    have hs1 := hoB_succ A V q k
    rw [hok, Bool.true_and] at hs1
    have hkW : k < (nI V).length := by omega
    have hWk : ∀ w', Chg [] w w' → w'.cell? ⟨wb, wo + k * 1, none⟩ = some (.int .i64 (wtO V k)) := fun w' hs => by
      have := RdI.at (RdE.keep hW hs) k hkW
      rw [nI_get (by omega)] at this
      exact this
    have m1 : 0 ≤ q * (wtO V k : Int) ∧ q * (wtO V k : Int) ≤ 30000 := ⟨Int.mul_nonneg hq2.1 (by omega), Int.le_trans (Int.mul_le_mul hq2.2 (show (wtO V k : Int) ≤ 21 by omega) (by omega) (by omega)) (by decide)⟩
    have b1 := hA.bd k _ hk2 hx
    (refine q_skip (q_seq (q_block (q_seq (q_region (ql_pure tabOk rfl rfl (q_nil (q_block ?_))))))))
    refine q_loop (σ := Nat) (fun v => v ≤ amW A k ∧ hoR A V q k v = true) (fun v => amW A k - v) (fun v => [(0, (.slice (some ⟨gb, go, none⟩) A.length c)), (1, (.slice (some ⟨wb, wo, none⟩) A.length wc)), (2, .int .i64 p), (10, .int .i64 k), (11, .int .i64 v)]) (fun _ => []) 0 ⟨by omega, rfl⟩ ⟨rfl, rfl, rfl, rfl, rfl, trivial⟩ (by repeat constructor) ?_
    rintro v ⟨hv, hov⟩ K2 hK2
    (refine q_seq (q_seq (q_region ?_)); (iterate 3 refine ql_pure tabOk rfl rfl ?_))
    refine ql_index tabOk rfl rfl rfl rfl rfl (by omega) (by omega) ?_
    skip
    refine ql_load1 tabOk rfl rfl rfl (fun w hs => hr1 _ hs.chg0) ?_
    (refine ql_pure tabOk rfl rfl (ql_pure tabOk rfl rfl (q_nil ?_)))
    refine q_if rfl (fun hc => ?_) (fun hc => ?_)
    · have hv2 : v < amW A k := by omega
      clear hc
      have hs2 := hoR_succ A V q k v
      rw [hov, Bool.true_and] at hs2
      have m2 : 0 ≤ q * (v : Int) ∧ q * (v : Int) ≤ 30000 := ⟨Int.mul_nonneg hq2.1 (by omega), Int.le_trans (Int.mul_le_mul hq2.2 (show (v : Int) ≤ 21 by omega) (by omega) (by omega)) (by decide)⟩
      have b2 := hA.bd k _ hk2 hv2
      (refine q_skip (q_seq ?_))
      refine q_block ?_
      (refine q_seq (q_region (ql_pure tabOk rfl rfl (ql_pure tabOk rfl rfl (q_nil (q_seq (q_seq (q_region (ql_pure tabOk rfl rfl (ql_pure tabOk rfl rfl (q_nil ?_)))))))))))
      refine q_cut (σ := Unit) (fun _ => [(0, (.slice (some ⟨gb, go, none⟩) A.length c)), (1, (.slice (some ⟨wb, wo, none⟩) A.length wc)), (2, .int .i64 p), (10, .int .i64 k), (11, .int .i64 v), (12, .int .i64 q)]) (fun _ => []) ?_ ?_
      rotate_left
      · intro K3 hK3
        refine q_if rfl (fun hc => ?_) (fun hc => ?_)
        · obtain rfl : q = 1001 := by omega
          clear hc
          (refine q_region (ql_pure tabOk rfl rfl (q_nil ?_)))
          exact hK3 () _ _ ⟨rfl, rfl, rfl, rfl, rfl, rfl, trivial⟩ (by repeat constructor)
        · obtain rfl : q = p := by omega
          clear hc
          (refine q_skip ?_)
          exact hK3 () _ _ ⟨rfl, rfl, rfl, rfl, rfl, rfl, trivial⟩ (by repeat constructor)
      rintro ⟨⟩
      (refine q_seq ?_)
      refine q_draw _ [] (Sp.refl _) (by kernel_rfl) (by kernel_rfl) ?_
      (refine qf_pure tabOk rfl rfl rfl (qf_pure tabOk rfl rfl rfl ?_))
      refine qf_index tabOk rfl rfl rfl rfl rfl (by omega) (by omega) ?_
      skip
      refine qf_load1 tabOk rfl rfl rfl (fun w hs => hr1 _ hs.chg0) ?_
      (refine qf_pure tabOk rfl rfl rfl ?_)
      refine qf_index tabOk rfl rfl rfl rfl rfl (by omega) (by omega) ?_
      skip
      refine qf_load1 tabOk rfl rfl rfl (fun w hs => hr2 v hv2 _ hs.chg0) ?_
      (refine qf_pure tabOk rfl rfl rfl (qf_pure tabOk rfl rfl rfl (qf_ar tabOk rfl rfl rfl rfl (by omega) (by omega) (qf_ar tabOk rfl rfl rfl rfl (by omega) (by omega) (qf_pure tabOk rfl rfl rfl (qf_pure tabOk rfl rfl rfl ?_))))))
      refine qf_index tabOk rfl rfl rfl rfl rfl (by omega) (by omega) ?_
      skip
      refine qf_load1 tabOk rfl rfl rfl (fun w hs => hr1 _ hs.chg0) ?_
      (refine qf_pure tabOk rfl rfl rfl (qf_pure tabOk rfl rfl rfl ?_))
      refine qf_index tabOk rfl rfl rfl rfl rfl (by omega) (by omega) ?_
      skip
      refine qf_load1 tabOk rfl rfl rfl (fun w hs => hWk _ hs.chg0) ?_
      skip
      refine qf_index tabOk rfl rfl rfl rfl rfl (by omega) (by omega) ?_
      skip
      refine qf_load1 tabOk rfl rfl rfl (fun w hs => hr2 _ hx _ hs.chg0) ?_
      ((iterate 3 refine qf_pure tabOk rfl rfl rfl ?_))
      refine qf_index tabOk rfl rfl rfl rfl rfl (by omega) (by omega) ?_
      skip
      refine qf_load1 tabOk rfl rfl rfl (fun w hs => hWk _ hs.chg0) ?_
      by_cases hle : amA A k (wtO V k) + q * wtO V k ≤ amA A k v + q * v
      · (refine qf_ar tabOk rfl rfl rfl rfl (by omega) (by omega) (qf_ar tabOk rfl rfl rfl rfl (by omega) (by omega) (qf_lssF tabOk rfl rfl rfl (by omega) (qf_nil (q_cond_false rfl (q_skip (q_blk (q_region (ql_pure tabOk rfl rfl (ql_ar tabOk rfl rfl rfl rfl (by omega) (by omega) (ql_pure tabOk rfl rfl (q_nil ?_))))))))))))
        exact hK2 (v + 1) _ _ ⟨by omega, by rw [hs2, decide_eq_true hle]⟩ (by omega) ⟨rfl, rfl, rfl, rfl, rfl, trivial⟩ (by repeat constructor)
      · have hf : hoR A V q k (amW A k) = false := all_false (p := fun v => decide (amA A k (wtO V k) + q * wtO V k ≤ amA A k v + q * v)) (decide_eq_false hle) hv2
        have hf2 : hoB A V q A.length = false := all_false (p := fun i => hoR A V q i (amW A i)) hf hk2
        rw [hf2]
        (refine qf_ar tabOk rfl rfl rfl rfl (by omega) (by omega) (qf_ar tabOk rfl rfl rfl rfl (by omega) (by omega) (qf_lssT tabOk rfl rfl rfl (by omega) (qf_nil (q_cond_true rfl (q_seq (q_region (ql_pure tabOk rfl rfl (ql_pure tabOk rfl rfl (q_nil (q_ret ?_)))))))))))
        refine q_fin tabOk rfl (by repeat constructor) fun w hs => ?_
        exact ⟨rfl, hs.chg0⟩
    · obtain rfl : v = amW A k := by omega
      clear hc hK2
      (refine q_exit _ rfl (q_blk (q_region (ql_pure tabOk rfl rfl (ql_ar tabOk rfl rfl rfl rfl (by omega) (by omega) (ql_pure tabOk rfl rfl (q_nil ?_)))))))
      exact hK (k + 1) _ _ ⟨by omega, by rw [hs1, hov]⟩ (by omega) ⟨rfl, rfl, rfl, rfl, trivial⟩ (by repeat constructor)
  · obtain rfl : k = A.length := by omega
    rw [hok]
    (refine q_exit _ rfl (q_seq (q_region (ql_pure tabOk rfl rfl (ql_pure tabOk rfl rfl (q_nil (q_ret ?_)))))))
    refine q_fin tabOk rfl (by repeat constructor) fun w hs => ?_
    exact ⟨rfl, hs.chg0⟩
end Go.Proofs.YtopdmadgkjdgcaaGreat

/- Walks of the reference: the curve, the fewest misses, how many breaths are enough. Written by gen_F53.py. -/
namespace Go.Proofs.YtopdmadgkjdgcaaGreat
set_option maxRecDepth 4000
open Go Go.Eng
theorem dpT_bd {out : List Int} {r : Nat → Int} {t n : Nat} (ho : ∀ u, u < out.length → 0 ≤ out.getD u 0) (hpos : 0 < out.length) (hr : ∀ k, k < n → 0 ≤ r k) : 0 ≤ dpT out r t n ∧ dpT out r t n ≤ 9000 := by
  induction n with
  | zero =>
    simp only [dpT]
    omega
  | succ n ih =>
    have h1 := ih fun k hk => hr k (by omega)
    have h2 := ho (min (t - n) (out.length - 1)) (by omega)
    have h3 := hr n (by omega)
    simp only [dpT]
    omega
/-- The next list, up to a place. -/
def nxL (A : List (List Int)) (i t : Nat) : List Int := (List.range (dpV A (i + 1)).length).map fun j => if j < t then (dpV A (i + 1)).getD j 0 else 0
theorem nxL_len (A : List (List Int)) (i t : Nat) : (nxL A i t).length = (dpV A (i + 1)).length := by simp [nxL]
theorem nxL_zero (A : List (List Int)) (i : Nat) {n : Nat} (hn : n = (dpV A (i + 1)).length) : List.replicate n (0 : Int) = nxL A i 0 := by
  subst hn
  exact List.ext_getElem (by simp [nxL]) fun j h1 h2 => by simp [nxL]
theorem nxL_full (A : List (List Int)) (i : Nat) : nxL A i (dpV A (i + 1)).length = dpV A (i + 1) := List.ext_getElem (by simp [nxL]) fun j h1 h2 => by
  simp only [nxL, List.getElem_map, List.getElem_range]
  rw [if_pos h2, List.getD_eq_getElem?_getD, List.getElem?_eq_getElem h2]
  rfl
theorem nxL_set (A : List (List Int)) (i : Nat) {t : Nat} {x : Int} (ht : t < (dpV A (i + 1)).length) (hx : x = (dpV A (i + 1)).getD t 0) : (nxL A i t).set t x = nxL A i (t + 1) := List.ext_getElem (by simp [nxL]) fun j h1 h2 => by
  rw [List.getElem_set]
  simp only [nxL, List.getElem_map, List.getElem_range]
  by_cases e : t = j
  · subst e
    rw [if_pos rfl, if_pos (by omega), hx]
  · rw [if_neg e]
    by_cases c : j < t
    · rw [if_pos c, if_pos (by omega)]
    · rw [if_neg c, if_neg (by omega)]
theorem dpV_at {A : List (List Int)} {i t : Nat} (ht : t < (dpV A (i + 1)).length) : (dpV A (i + 1)).getD t 0 = dpT (dpV A i) (amA A i) t (min (amW A i) (t + 1)) := by
  have ht2 : t < (dpV A i).length + amW A i - 1 := by simpa [dpV] using ht
  rw [List.getD_eq_getElem?_getD, List.getElem?_eq_getElem ht, Option.getD_some]
  simp [dpV]
theorem rcurve_no (w : World) (lo hi : Nat) (v : Value) (A : List (List Int)) (h : RdII w lo hi v A) (hlen : A.length ≤ maxLen) (hrl : ∀ r ∈ A, r.length ≤ maxLen) (h0 : chkA A ≠ 0) : Ca Tryz.prog 86 [v] w fun x w' => x = .tuple #[.slice none 0 0, .int .i64 (chkA A)] ∧ Chg [] w w' := by
  refine q_of (Sat.nil w M0) Tryz.func86 rfl (by simp [Tryz.ntmps86]) ?_
  (refine q_seq (q_region (ql_pure tabOk rfl rfl (ql_pure tabOk rfl rfl (q_nil (q_seq (q_seq (q_region (ql_pure tabOk rfl rfl ?_)))))))))
  refine ql_callv (val := .int .i64 (chkA A)) tabOk rfl rfl rfl rfl (fun w hs => ?_) ?_; exact rchkA_ca w lo hi v A (h.keep hs.chg0) hlen hrl
  (refine ql_pure tabOk rfl rfl (q_nil (q_seq (q_region (ql_pure tabOk rfl rfl (ql_neqT tabOk rfl rfl rfl (by omega) (q_nil (q_cond_true rfl (q_seq (q_region ?_))))))))); (iterate 3 refine ql_pure tabOk rfl rfl ?_); refine q_nil (q_ret ?_))
  refine q_fin tabOk rfl (by repeat constructor) fun w hs => ?_
  exact ⟨rfl, hs.chg0⟩
theorem aim_lens {A : List (List Int)} (hA : AimOk A) : A.length ≤ maxLen ∧ ∀ r ∈ A, r.length ≤ maxLen := by
  have n8 := hA.n8
  refine ⟨by simp only [maxLen]; omega, fun r hr => ?_⟩
  obtain ⟨i, hi, rfl⟩ := List.mem_iff_getElem.1 hr
  have := hA.row i hi
  unfold amW at this
  rw [getA hi] at this
  simp only [maxLen]
  omega
set_option maxHeartbeats 8000000 in
theorem rcurve_ok (w : World) (lo hi : Nat) (v : Value) (A : List (List Int)) (h : RdII w lo hi v A) (hA : AimOk A) : Ca Tryz.prog 86 [v] w fun x w' => ∃ b : Nat, x = .tuple #[.slice (some ⟨b, 0, none⟩) (manyN A) (manyN A), .int .i64 0] ∧ Sat w M0 [.pt b (ints (curveL A (manyN A))) 3] w' := by
  have n1 := hA.n1
  have n8 := hA.n8
  obtain ⟨hlA, hrl⟩ := aim_lens hA
  obtain ⟨a, c, rfl, ha⟩ := RdII.outI h
  obtain ⟨gb, go, rfl⟩ := ha (by omega)
  have hlens : ∀ k, k ≤ A.length → 1 ≤ (dpV A k).length ∧ (dpV A k).length ≤ 20 * k + 1 := fun k => by
    induction k with
    | zero => intro _; simp [dpV]
    | succ k ih =>
      intro hk
      have h1 := ih (by omega)
      have h2 := hA.row k (by omega)
      simp only [dpV, List.length_map, List.length_range]
      omega
  refine q_of (Sat.nil w M0) Tryz.func86 rfl (by simp [Tryz.ntmps86]) ?_
  (refine q_seq (q_region (ql_pure tabOk rfl rfl (ql_pure tabOk rfl rfl (q_nil (q_seq (q_seq (q_region (ql_pure tabOk rfl rfl ?_)))))))))
  refine ql_callv (val := .int .i64 0) tabOk rfl rfl rfl rfl (fun w hs => ?_) ?_; exact by have := rchkA_ca w lo hi _ A (h.keep hs.chg0) hlA hrl; rw [chkA_zero.2 hA] at this; exact this
  (refine ql_pure tabOk rfl rfl (q_nil (q_seq (q_region (ql_pure tabOk rfl rfl (ql_neqF tabOk rfl rfl rfl (by omega) (q_nil (q_cond_false rfl (q_skip (q_seq (q_region ?_)))))))))))
  refine ql_mkS 3 [.int .i64 0] rfl (by kernel_rfl) rfl (fun b0 => ?_)
  (refine ql_pure tabOk rfl rfl (q_nil (q_seq (q_seq (q_region (ql_pure tabOk rfl rfl (q_nil (q_block ?_))))))))
  refine q_loop (σ := Nat × Nat) (fun ⟨i, _⟩ => i ≤ A.length) (fun ⟨i, _⟩ => A.length - i) (fun ⟨i, bo⟩ => [(0, (.slice (some ⟨gb, go, none⟩) A.length c)), (5, .slice (some ⟨bo, 0, none⟩) (dpV A i).length (dpV A i).length), (6, .int .i64 i)]) (fun ⟨i, bo⟩ => [.pt bo (ints (dpV A i)) 3]) (0, b0) (by dsimp only; omega) ⟨rfl, rfl, rfl, trivial⟩ (by repeat constructor) ?_
  rintro ⟨i, bo⟩ hi0 K hK
  dsimp only at hi0 hK ⊢
  obtain ⟨l1, l2⟩ := hlens i hi0
  (refine q_seq (q_seq (q_region ?_)); (iterate 4 refine ql_pure tabOk rfl rfl ?_); refine q_nil ?_)
  refine q_if rfl (fun hc => ?_) (fun hc => ?_)
  · have hi2 : i < A.length := by omega
    clear hc
    obtain ⟨l3, l4⟩ := hlens (i + 1) (by omega)
    have hrow := hA.row i hi2
    obtain ⟨rb, ro, rc, hr1, hr2⟩ := aim_row h hi2 (by omega)
    have hnl : (dpV A (i + 1)).length = (dpV A i).length + amW A i - 1 := by simp [dpV]
    have hOb : ∀ u, u < (dpV A i).length → 0 ≤ (dpV A i).getD u 0 ∧ (dpV A i).getD u 0 ≤ 1000 * i := fun u hu => (dpV_all hA hi0 u hu).bd hA hi0
    have hrb : ∀ k, k < amW A i → 0 ≤ amA A i k ∧ amA A i k ≤ 1000 := fun k hk => hA.bd i k hi2 hk
    (refine q_skip (q_seq (q_block (q_seq (q_region ?_)))); (iterate 4 refine ql_pure tabOk rfl rfl ?_))
    refine ql_index tabOk rfl rfl rfl rfl rfl (by omega) (by omega) ?_
    skip
    refine ql_load1 tabOk rfl rfl rfl (fun w hs => hr1 _ hs.chg0) ?_
    (refine ql_pure tabOk rfl rfl (ql_ar tabOk rfl rfl rfl rfl (by omega) (by omega) (ql_ar tabOk rfl rfl rfl rfl (by omega) (by omega) ?_)))
    rw [show ((dpV A i).length : Int) + (amW A i) - 1 = (dpV A (i + 1)).length from by omega]
    refine ql_makeI slI rfl rfl rfl (by omega) (fun bx => ?_)
    rw [nxL_zero A i rfl]
    (refine ql_pure tabOk rfl rfl (q_nil (q_seq (q_seq (q_region (ql_pure tabOk rfl rfl (q_nil (q_block ?_))))))))
    refine q_loop (σ := Nat) (fun t => t ≤ (dpV A (i + 1)).length) (fun t => (dpV A (i + 1)).length - t) (fun t => [(0, (.slice (some ⟨gb, go, none⟩) A.length c)), (5, .slice (some ⟨bo, 0, none⟩) (dpV A i).length (dpV A i).length), (6, .int .i64 i), (7, .slice (some ⟨bx, 0, none⟩) (dpV A (i + 1)).length (dpV A (i + 1)).length), (8, .int .i64 t)]) (fun t => [.pt bx (ints (nxL A i t)) 3, .pt bo (ints (dpV A i)) 3]) 0 (by omega) ⟨rfl, rfl, rfl, rfl, rfl, trivial⟩ (by repeat constructor) ?_
    intro t ht0 K2 hK2
    (refine q_seq (q_seq (q_region ?_)); (iterate 4 refine ql_pure tabOk rfl rfl ?_); refine q_nil ?_)
    refine q_if rfl (fun hc => ?_) (fun hc => ?_)
    · have ht : t < (dpV A (i + 1)).length := by omega
      clear hc
      (refine q_skip (q_seq (q_block (q_seq (q_region (ql_pure tabOk rfl rfl (ql_pure tabOk rfl rfl ?_)))))))
      refine ql_index tabOk rfl rfl rfl rfl rfl (by omega) (by omega) ?_
      refine ql_storeI tabOk t rfl rfl rfl (by repeat constructor) (by omega) (by rw [nxL_len]; exact ht) ?_
      (refine q_nil (q_seq (q_region (ql_pure tabOk rfl rfl (q_nil (q_block ?_))))))
      refine q_loop (σ := Nat) (fun k => k ≤ min (amW A i) (t + 1)) (fun k => amW A i - k) (fun k => [(0, (.slice (some ⟨gb, go, none⟩) A.length c)), (5, .slice (some ⟨bo, 0, none⟩) (dpV A i).length (dpV A i).length), (6, .int .i64 i), (7, .slice (some ⟨bx, 0, none⟩) (dpV A (i + 1)).length (dpV A (i + 1)).length), (8, .int .i64 t), (9, .int .i64 k)]) (fun k => [.pt bx (ints ((nxL A i t).set t (dpT (dpV A i) (amA A i) t k))) 3, .pt bo (ints (dpV A i)) 3]) 0 (by omega) ⟨rfl, rfl, rfl, rfl, rfl, rfl, trivial⟩ (by repeat constructor) ?_
      intro k hk0 K3 hK3
      (refine q_seq (q_seq (q_region ?_)); (iterate 3 refine ql_pure tabOk rfl rfl ?_))
      refine ql_index tabOk rfl rfl rfl rfl rfl (by omega) (by omega) ?_
      skip
      refine ql_load1 tabOk rfl rfl rfl (fun w hs => hr1 _ hs.chg0) ?_
      by_cases hk : k < amW A i
      · by_cases hkt : k ≤ t
        · have hd := dpT_bd (out := dpV A i) (r := amA A i) (t := t) (n := k) (fun u hu => (hOb u hu).1) (by omega) (fun z hz => (hrb z (by omega)).1)
          obtain ⟨rs, hrs⟩ : ∃ rs, rs = min (t - k) ((dpV A i).length - 1) := ⟨_, rfl⟩
          have hrl2 : rs < (dpV A i).length := by omega
          have ho := hOb rs hrl2
          have hrk := hrb k hk
          (refine ql_pure tabOk rfl rfl (ql_lssT tabOk rfl rfl rfl (by omega) (ql_pure tabOk rfl rfl (ql_gyes rfl (ql_pure tabOk rfl rfl (ql_gyes rfl (ql_pure tabOk rfl rfl (ql_gyes rfl (ql_leqT tabOk rfl rfl rfl (by omega) (ql_pure tabOk rfl rfl (q_nil (q_cond_true rfl ?_))))))))))); refine q_skip (q_seq ?_))
          refine q_block ?_
          (refine q_seq (q_region (ql_pure tabOk rfl rfl (ql_pure tabOk rfl rfl (ql_ar tabOk rfl rfl rfl rfl (by omega) (by omega) (ql_pure tabOk rfl rfl (q_nil (q_seq (q_seq (q_region ?_))))))))); (iterate 3 refine ql_pure tabOk rfl rfl ?_); refine ql_ar tabOk rfl rfl rfl rfl (by omega) (by omega) (ql_pure tabOk rfl rfl (q_nil ?_)))
          refine q_cut (σ := Unit) (fun _ => [(0, (.slice (some ⟨gb, go, none⟩) A.length c)), (5, .slice (some ⟨bo, 0, none⟩) (dpV A i).length (dpV A i).length), (6, .int .i64 i), (7, .slice (some ⟨bx, 0, none⟩) (dpV A (i + 1)).length (dpV A (i + 1)).length), (8, .int .i64 t), (9, .int .i64 k), (10, .int .i64 rs)]) (fun _ => [.pt bx (ints ((nxL A i t).set t (dpT (dpV A i) (amA A i) t k))) 3, .pt bo (ints (dpV A i)) 3]) ?_ ?_
          rotate_left
          · intro K4 hK4
            refine q_if rfl (fun hc => ?_) (fun hc => ?_)
            · have e : (rs : Int) = (dpV A i).length - 1 := by omega
              clear hc
              (refine q_region (ql_pure tabOk rfl rfl (ql_pure tabOk rfl rfl (ql_ar tabOk rfl rfl rfl rfl (by omega) (by omega) (ql_pure tabOk rfl rfl (q_nil ?_))))))
              rw [← e]
              exact hK4 () _ _ ⟨rfl, rfl, rfl, rfl, rfl, rfl, rfl, trivial⟩ (by repeat constructor)
            · have e : (rs : Int) = (t : Int) - k := by omega
              clear hc
              (refine q_skip ?_)
              rw [← e]
              exact hK4 () _ _ ⟨rfl, rfl, rfl, rfl, rfl, rfl, rfl, trivial⟩ (by repeat constructor)
          rintro ⟨⟩
          have hlen1 : ((nxL A i t).set t (dpT (dpV A i) (amA A i) t k)).length = (dpV A (i + 1)).length := by rw [List.length_set, nxL_len]
          have ht3 : t < ((nxL A i t).set t (dpT (dpV A i) (amA A i) t k)).length := by omega
          skip
          refine q_drawS 19 _ [.pt bx _ _] (Sp.cons (by repeat constructor) (Sp.refl _)) (by kernel_rfl) (by kernel_rfl) (by kernel_rfl) fun K1 hK1 => ?_
          ((iterate 4 refine qf_pure tabOk rfl rfl rfl ?_))
          refine qf_index tabOk rfl rfl rfl rfl rfl (by omega) (by omega) ?_
          refine qf_loadI tabOk t rfl rfl rfl (by repeat constructor) (by omega) ht3 ?_
          rw [List.getElem_set_self]
          (refine qf_pure tabOk rfl rfl rfl (qf_pure tabOk rfl rfl rfl ?_))
          refine qf_index tabOk rfl rfl rfl rfl rfl (by omega) (by omega) ?_
          refine qf_loadI tabOk rs rfl rfl rfl (by repeat constructor) (by omega) hrl2 ?_
          rw [← getI hrl2]
          (refine qf_pure tabOk rfl rfl rfl (qf_pure tabOk rfl rfl rfl ?_))
          refine qf_index tabOk rfl rfl rfl rfl rfl (by omega) (by omega) ?_
          skip
          refine qf_load1 tabOk rfl rfl rfl (fun w hs => hr1 _ hs.chg0) ?_
          (refine qf_pure tabOk rfl rfl rfl ?_)
          refine qf_index tabOk rfl rfl rfl rfl rfl (by omega) (by omega) ?_
          skip
          refine qf_load1 tabOk rfl rfl rfl (fun w hs => hr2 k hk _ hs.chg0) ?_
          (refine qf_ar tabOk rfl rfl rfl rfl (by omega) (by omega) (qf_pure tabOk rfl rfl rfl (qf_nil ?_)))
          refine hK1 _ _ [.pt bx _ _] (Sp.cons (by repeat constructor) ((by repeat constructor))) ?_
          skip
          refine qf_index tabOk rfl rfl rfl rfl rfl (by omega) (by omega) ?_
          refine qf_storeI tabOk t rfl rfl rfl (by repeat constructor) (by omega) ht3 ?_
          rw [List.set_set]
          (refine qf_nil (q_blk (q_region (ql_pure tabOk rfl rfl (ql_ar tabOk rfl rfl rfl rfl (by omega) (by omega) (ql_pure tabOk rfl rfl (q_nil ?_)))))))
          have e : min (dpT (dpV A i) (amA A i) t k) ((dpV A i).getD rs 0 + amA A i k) = dpT (dpV A i) (amA A i) t (k + 1) := by simp only [dpT]; rw [hrs]
          rw [e]
          exact hK3 (k + 1) _ _ (by omega) (by omega) ⟨rfl, rfl, rfl, rfl, rfl, rfl, trivial⟩ (by repeat constructor)
        · have hkm : k = min (amW A i) (t + 1) := by omega
          (refine ql_pure tabOk rfl rfl (ql_lssT tabOk rfl rfl rfl (by omega) (ql_pure tabOk rfl rfl (ql_gyes rfl (ql_pure tabOk rfl rfl (ql_gyes rfl (ql_pure tabOk rfl rfl (ql_gyes rfl (ql_leqF tabOk rfl rfl rfl (by omega) (ql_pure tabOk rfl rfl (q_nil (q_cond_false rfl ?_))))))))))); refine q_exit _ rfl (q_blk (q_region (ql_pure tabOk rfl rfl (ql_ar tabOk rfl rfl rfl rfl (by omega) (by omega) (ql_pure tabOk rfl rfl (q_nil ?_)))))))
          exact hK2 (t + 1) _ _ (by omega) (by omega) ⟨rfl, rfl, rfl, rfl, rfl, trivial⟩ (by rw [nxL_set A i ht (by rw [dpV_at ht, ← hkm])]; repeat constructor)
      · have hkm : k = min (amW A i) (t + 1) := by omega
        (refine ql_pure tabOk rfl rfl (ql_lssF tabOk rfl rfl rfl (by omega) (ql_pure tabOk rfl rfl ?_)); (iterate 3 refine ql_gno rfl rfl rfl ?_); refine ql_pure tabOk rfl rfl (q_nil (q_cond_false rfl (q_exit _ rfl (q_blk (q_region (ql_pure tabOk rfl rfl (ql_ar tabOk rfl rfl rfl rfl (by omega) (by omega) (ql_pure tabOk rfl rfl (q_nil ?_))))))))))
        exact hK2 (t + 1) _ _ (by omega) (by omega) ⟨rfl, rfl, rfl, rfl, rfl, trivial⟩ (by rw [nxL_set A i ht (by rw [dpV_at ht, ← hkm])]; repeat constructor)
    · obtain rfl : t = (dpV A (i + 1)).length := by omega
      rw [nxL_full]
      clear hc hK2
      (refine q_exit _ rfl (q_region (ql_pure tabOk rfl rfl (ql_pure tabOk rfl rfl (q_nil (q_blk (q_region (ql_pure tabOk rfl rfl (ql_ar tabOk rfl rfl rfl rfl (by omega) (by omega) (ql_pure tabOk rfl rfl (q_nil ?_)))))))))))
      exact hK (i + 1, bx) _ _ (by dsimp only; omega) (by dsimp only; omega) ⟨rfl, rfl, rfl, trivial⟩ (by repeat constructor)
  · obtain rfl : i = A.length := by omega
    clear hc hK
    rw [dpV_curve hA, curveL_len]
    (refine q_exit _ rfl (q_seq (q_region ?_)); (iterate 3 refine ql_pure tabOk rfl rfl ?_); refine q_nil (q_ret ?_))
    refine q_fin tabOk rfl (by repeat constructor) fun w hs => ?_
    exact ⟨bo, rfl, hs⟩
theorem curve_get {A : List (List Int)} {t : Nat} (ht : t < manyN A) {h : t < (curveL A (manyN A)).length} : (curveL A (manyN A))[t]'h = cvV A t := by simp [curveL]
theorem rbest_no (w : World) (lo hi : Nat) (v : Value) (A : List (List Int)) (t : Int) (h : RdII w lo hi v A) (hlen : A.length ≤ maxLen) (hrl : ∀ r ∈ A, r.length ≤ maxLen) (h0 : chkA A ≠ 0) : Ca Tryz.prog 85 [v, .int .i64 t] w fun x w' => x = .tuple #[.int .i64 0, .int .i64 (chkA A)] ∧ Chg [] w w' := by
  refine q_of (Sat.nil w M0) Tryz.func85 rfl (by simp [Tryz.ntmps85]) ?_
  (refine q_seq (q_region (ql_pure tabOk rfl rfl (ql_pure tabOk rfl rfl (q_nil (q_seq (q_region (ql_pure tabOk rfl rfl ?_))))))))
  refine ql_callv (val := .tuple #[.slice none 0 0, .int .i64 (chkA A)]) tabOk rfl rfl rfl rfl (fun w hs => ?_) ?_; exact rcurve_no w lo hi v A (h.keep hs.chg0) hlen hrl h0
  (refine ql_pure tabOk rfl rfl (ql_ext tabOk rfl rfl rfl (ql_ext tabOk rfl rfl rfl (ql_pure tabOk rfl rfl (ql_pure tabOk rfl rfl (q_nil (q_seq (q_seq (q_region (ql_pure tabOk rfl rfl (ql_neqT tabOk rfl rfl rfl (by omega) (q_nil ?_))))))))))); refine q_cond_true rfl (q_seq (q_region ?_)); (iterate 3 refine ql_pure tabOk rfl rfl ?_); refine q_nil (q_ret ?_))
  refine q_fin tabOk rfl (by repeat constructor) fun w hs => ?_
  exact ⟨rfl, hs.chg0⟩
theorem rbest_neg (w : World) (lo hi : Nat) (v : Value) (A : List (List Int)) (t : Int) (h : RdII w lo hi v A) (hA : AimOk A) (ht : t < 0) : Ca Tryz.prog 85 [v, .int .i64 t] w fun x w' => x = .tuple #[.int .i64 0, .int .i64 3] ∧ Chg [] w w' := by
  refine q_of (Sat.nil w M0) Tryz.func85 rfl (by simp [Tryz.ntmps85]) ?_
  (refine q_seq (q_region (ql_pure tabOk rfl rfl (ql_pure tabOk rfl rfl (q_nil (q_seq (q_region (ql_pure tabOk rfl rfl ?_))))))))
  refine ql_call (β := Nat) tabOk [] _ M0 rfl rfl rfl rfl (Sp.refl _) (fun _ h => h.elim) (fun w' hs => rcurve_ok w' lo hi v A (h.keep hs.chg0) hA) ?_
  rintro b _ rfl
  dsimp only [List.cons_append, List.nil_append]
  (refine ql_pure tabOk rfl rfl (ql_ext tabOk rfl rfl rfl (ql_ext tabOk rfl rfl rfl (ql_pure tabOk rfl rfl (ql_pure tabOk rfl rfl (q_nil (q_seq (q_seq (q_region (ql_pure tabOk rfl rfl (ql_neqF tabOk rfl rfl rfl (by omega) (q_nil ?_))))))))))); refine q_cond_false rfl (q_skip (q_seq (q_seq (q_region (ql_pure tabOk rfl rfl (ql_lssT tabOk rfl rfl rfl (by omega) (q_nil (q_cond_true rfl (q_seq (q_region (ql_pure tabOk rfl rfl ?_))))))))))); refine ql_pure tabOk rfl rfl (q_nil (q_ret ?_)))
  refine q_fin tabOk rfl (by repeat constructor) fun w hs => ?_
  exact ⟨rfl, hs.chg0⟩
theorem rbest_ok (w : World) (lo hi : Nat) (v : Value) (A : List (List Int)) (t : Nat) (h : RdII w lo hi v A) (hA : AimOk A) (ht : (t : Int) ≤ 9223372036854775807) : Ca Tryz.prog 85 [v, .int .i64 t] w fun x w' => x = .tuple #[.int .i64 (cvV A t), .int .i64 0] ∧ Chg [] w w' := by
  have hmn := many_nn hA
  have hml := many_le hA
  have hN : (manyN A : Int) = manyV A + 1 := by unfold manyN; omega
  refine q_of (Sat.nil w M0) Tryz.func85 rfl (by simp [Tryz.ntmps85]) ?_
  (refine q_seq (q_region (ql_pure tabOk rfl rfl (ql_pure tabOk rfl rfl (q_nil (q_seq (q_region (ql_pure tabOk rfl rfl ?_))))))))
  refine ql_call (β := Nat) tabOk [] _ M0 rfl rfl rfl rfl (Sp.refl _) (fun _ h => h.elim) (fun w' hs => rcurve_ok w' lo hi v A (h.keep hs.chg0) hA) ?_
  rintro b _ rfl
  dsimp only [List.cons_append, List.nil_append]
  by_cases hm : manyN A ≤ t
  · have hz : manyN A - 1 < manyN A := by omega
    have e : cvV A t = cvV A (manyN A - 1) := by
      rw [cv_many hA (t := t) (by omega), cv_many hA (t := manyN A - 1) (by omega)]
    have e2 : (manyN A : Int) - 1 = (manyN A - 1 : Nat) := by omega
    (refine ql_pure tabOk rfl rfl (ql_ext tabOk rfl rfl rfl (ql_ext tabOk rfl rfl rfl (ql_pure tabOk rfl rfl (ql_pure tabOk rfl rfl (q_nil (q_seq (q_seq (q_region (ql_pure tabOk rfl rfl (ql_neqF tabOk rfl rfl rfl (by omega) (q_nil ?_))))))))))); refine q_cond_false rfl (q_skip (q_seq (q_seq (q_region (ql_pure tabOk rfl rfl (ql_lssF tabOk rfl rfl rfl (by omega) (q_nil (q_cond_false rfl (q_skip (q_seq (q_seq ?_))))))))))); refine q_region ?_; (iterate 3 refine ql_pure tabOk rfl rfl ?_); refine ql_geqT tabOk rfl rfl rfl (by omega) (q_nil (q_cond_true rfl (q_region (ql_pure tabOk rfl rfl (ql_pure tabOk rfl rfl (ql_ar tabOk rfl rfl rfl rfl (by omega) (by omega) (ql_pure tabOk rfl rfl (q_nil (q_seq (q_region (ql_pure tabOk rfl rfl ?_))))))))))); refine ql_pure tabOk rfl rfl ?_)
    rw [e2]
    refine ql_index tabOk rfl rfl rfl rfl rfl (by omega) (by omega) ?_
    refine ql_loadI tabOk (manyN A - 1) rfl rfl rfl (by repeat constructor) (by omega) (by rw [curveL_len]; exact hz) ?_
    rw [curve_get hz, ← e]
    (refine ql_pure tabOk rfl rfl (ql_pure tabOk rfl rfl (q_nil (q_ret ?_))))
    refine q_fin tabOk rfl (by repeat constructor) fun w hs => ?_
    exact ⟨rfl, hs.chg0⟩
  · have hz : t < manyN A := by omega
    (refine ql_pure tabOk rfl rfl (ql_ext tabOk rfl rfl rfl (ql_ext tabOk rfl rfl rfl (ql_pure tabOk rfl rfl (ql_pure tabOk rfl rfl (q_nil (q_seq (q_seq (q_region (ql_pure tabOk rfl rfl (ql_neqF tabOk rfl rfl rfl (by omega) (q_nil ?_))))))))))); refine q_cond_false rfl (q_skip (q_seq (q_seq (q_region (ql_pure tabOk rfl rfl (ql_lssF tabOk rfl rfl rfl (by omega) (q_nil (q_cond_false rfl (q_skip (q_seq (q_seq ?_))))))))))); refine q_region ?_; (iterate 3 refine ql_pure tabOk rfl rfl ?_); refine ql_geqF tabOk rfl rfl rfl (by omega) (q_nil (q_cond_false rfl (q_skip (q_seq (q_region (ql_pure tabOk rfl rfl (ql_pure tabOk rfl rfl ?_))))))))
    refine ql_index tabOk rfl rfl rfl rfl rfl (by omega) (by omega) ?_
    refine ql_loadI tabOk t rfl rfl rfl (by repeat constructor) (by omega) (by rw [curveL_len]; exact hz) ?_
    rw [curve_get hz]
    (refine ql_pure tabOk rfl rfl (ql_pure tabOk rfl rfl (q_nil (q_ret ?_))))
    refine q_fin tabOk rfl (by repeat constructor) fun w hs => ?_
    exact ⟨rfl, hs.chg0⟩
theorem renough_no (w : World) (lo hi : Nat) (v : Value) (A : List (List Int)) (m : Int) (h : RdII w lo hi v A) (hlen : A.length ≤ maxLen) (hrl : ∀ r ∈ A, r.length ≤ maxLen) (h0 : chkA A ≠ 0) : Ca Tryz.prog 87 [v, .int .i64 m] w fun x w' => x = .tuple #[.int .i64 0, .int .i64 (chkA A)] ∧ Chg [] w w' := by
  refine q_of (Sat.nil w M0) Tryz.func87 rfl (by simp [Tryz.ntmps87]) ?_
  (refine q_seq (q_region (ql_pure tabOk rfl rfl (ql_pure tabOk rfl rfl (q_nil (q_seq (q_region (ql_pure tabOk rfl rfl ?_))))))))
  refine ql_callv (val := .tuple #[.slice none 0 0, .int .i64 (chkA A)]) tabOk rfl rfl rfl rfl (fun w hs => ?_) ?_; exact rcurve_no w lo hi v A (h.keep hs.chg0) hlen hrl h0
  (refine ql_pure tabOk rfl rfl (ql_ext tabOk rfl rfl rfl (ql_ext tabOk rfl rfl rfl (ql_pure tabOk rfl rfl (ql_pure tabOk rfl rfl (q_nil (q_seq (q_seq (q_region (ql_pure tabOk rfl rfl (ql_neqT tabOk rfl rfl rfl (by omega) (q_nil ?_))))))))))); refine q_cond_true rfl (q_seq (q_region ?_)); (iterate 3 refine ql_pure tabOk rfl rfl ?_); refine q_nil (q_ret ?_))
  refine q_fin tabOk rfl (by repeat constructor) fun w hs => ?_
  exact ⟨rfl, hs.chg0⟩
theorem renough_ok (w : World) (lo hi : Nat) (v : Value) (A : List (List Int)) (m : Int) (h : RdII w lo hi v A) (hA : AimOk A) : Ca Tryz.prog 87 [v, .int .i64 m] w fun x w' => (∃ y : Int × Int, x = .tuple #[.int .i64 y.1, .int .i64 y.2] ∧ EnoR A m y.1 y.2) ∧ Chg [] w w' := by
  have hmn := many_nn hA
  have hml := many_le hA
  have hN : (manyN A : Int) = manyV A + 1 := by unfold manyN; omega
  refine q_of (Sat.nil w M0) Tryz.func87 rfl (by simp [Tryz.ntmps87]) ?_
  (refine q_seq (q_region (ql_pure tabOk rfl rfl (ql_pure tabOk rfl rfl (q_nil (q_seq (q_region (ql_pure tabOk rfl rfl ?_))))))))
  refine ql_call (β := Nat) tabOk [] _ M0 rfl rfl rfl rfl (Sp.refl _) (fun _ h => h.elim) (fun w' hs => rcurve_ok w' lo hi v A (h.keep hs.chg0) hA) ?_
  rintro b _ rfl
  dsimp only [List.cons_append, List.nil_append]
  (refine ql_pure tabOk rfl rfl (ql_ext tabOk rfl rfl rfl (ql_ext tabOk rfl rfl rfl (ql_pure tabOk rfl rfl (ql_pure tabOk rfl rfl (q_nil (q_seq (q_seq (q_region (ql_pure tabOk rfl rfl (ql_neqF tabOk rfl rfl rfl (by omega) (q_nil ?_))))))))))); refine q_cond_false rfl (q_skip (q_seq (q_seq (q_region (ql_pure tabOk rfl rfl (q_nil (q_block ?_))))))))
  refine q_loop (σ := Nat) (fun k => k ≤ manyN A ∧ ∀ j, j < k → m < cvV A j) (fun k => manyN A - k) (fun k => [(1, .int .i64 m), (6, .slice (some ⟨b, 0, none⟩) (manyN A) (manyN A)), (8, .int .i64 k)]) (fun _ => [.pt b (ints (curveL A (manyN A))) 3]) 0 ⟨by omega, fun j h => by omega⟩ ⟨rfl, rfl, rfl, trivial⟩ (by repeat constructor) ?_
  rintro k ⟨hk, hno⟩ K hK
  (refine q_seq (q_seq (q_region ?_)); (iterate 4 refine ql_pure tabOk rfl rfl ?_); refine q_nil ?_)
  refine q_if rfl (fun hc => ?_) (fun hc => ?_)
  · have hz : k < manyN A := by omega
    clear hc
    (refine q_skip (q_seq (q_block (q_seq (q_region (ql_pure tabOk rfl rfl (ql_pure tabOk rfl rfl ?_)))))))
    refine ql_index tabOk rfl rfl rfl rfl rfl (by omega) (by omega) ?_
    refine ql_loadI tabOk k rfl rfl rfl (by repeat constructor) (by omega) (by rw [curveL_len]; exact hz) ?_
    rw [curve_get hz]
    by_cases hle : cvV A k ≤ m
    · (refine ql_pure tabOk rfl rfl (ql_leqT tabOk rfl rfl rfl (by omega) (q_nil (q_cond_true rfl (q_seq (q_region ?_))))); (iterate 3 refine ql_pure tabOk rfl rfl ?_); refine q_nil (q_ret ?_))
      refine q_fin tabOk rfl (by repeat constructor) fun w hs => ?_
      exact ⟨⟨((k : Int), 0), rfl, .inl ⟨rfl, k, rfl, hz, hle, hno⟩⟩, hs.chg0⟩
    · (refine ql_pure tabOk rfl rfl (ql_leqF tabOk rfl rfl rfl (by omega) (q_nil (q_cond_false rfl (q_skip (q_blk (q_region (ql_pure tabOk rfl rfl (ql_ar tabOk rfl rfl rfl rfl (by omega) (by omega) (ql_pure tabOk rfl rfl (q_nil ?_)))))))))))
      exact hK (k + 1) _ _ ⟨by omega, fun j hj => by
        by_cases e : j = k
        · rw [e]; omega
        · exact hno j (by omega)⟩ (by omega) ⟨rfl, rfl, rfl, trivial⟩ (by repeat constructor)
  · obtain rfl : k = manyN A := by omega
    (refine q_exit _ rfl (q_seq (q_region (ql_pure tabOk rfl rfl (ql_pure tabOk rfl rfl (q_nil (q_ret ?_)))))))
    refine q_fin tabOk rfl (by repeat constructor) fun w hs => ?_
    exact ⟨⟨(0, 6), rfl, .inr ⟨rfl, rfl, hno⟩⟩, hs.chg0⟩
theorem eno_uniq {A : List (List Int)} {m k e k' e' : Int} (h : EnoR A m k e) (g : EnoR A m k' e') : k = k' ∧ e = e' := by
  rcases h with ⟨h1, t, h2, h3, h4, h5⟩ | ⟨h1, h2, h3⟩
  · rcases g with ⟨g1, u, g2, g3, g4, g5⟩ | ⟨g1, g2, g3⟩
    · have : t = u := by
        rcases Nat.lt_trichotomy t u with c | c | c
        · have := g5 t c; omega
        · exact c
        · have := h5 u c; omega
      omega
    · have := g3 t h3; omega
  · rcases g with ⟨g1, u, g2, g3, g4, g5⟩ | ⟨g1, g2, g3⟩
    · have := h3 u g3; omega
    · omega
end Go.Proofs.YtopdmadgkjdgcaaGreat

/- Walks of the reference: the price. Written by gen_F54.py. -/
namespace Go.Proofs.YtopdmadgkjdgcaaGreat
set_option maxRecDepth 4000
open Go Go.Eng
theorem rprice_no (w : World) (lo hi : Nat) (v : Value) (A : List (List Int)) (t : Int) (h : RdII w lo hi v A) (hlen : A.length ≤ maxLen) (hrl : ∀ r ∈ A, r.length ≤ maxLen) (h0 : chkA A ≠ 0) : Ca Tryz.prog 88 [v, .int .i64 t] w fun x w' => x = .tuple #[.int .i64 0, .int .i64 (chkA A)] ∧ Chg [] w w' := by
  refine q_of (Sat.nil w M0) Tryz.func88 rfl (by simp [Tryz.ntmps88]) ?_
  (refine q_seq (q_region (ql_pure tabOk rfl rfl (ql_pure tabOk rfl rfl (q_nil (q_seq (q_region (ql_pure tabOk rfl rfl (ql_pure tabOk rfl rfl ?_)))))))))
  refine ql_callv (val := .tuple #[.int .i64 0, .int .i64 (chkA A)]) tabOk rfl rfl rfl rfl (fun w hs => ?_) ?_; exact rbest_no w lo hi v A t (h.keep hs.chg0) hlen hrl h0
  (refine ql_pure tabOk rfl rfl (ql_ext tabOk rfl rfl rfl (ql_ext tabOk rfl rfl rfl (ql_pure tabOk rfl rfl (ql_pure tabOk rfl rfl (q_nil (q_seq (q_seq (q_region (ql_pure tabOk rfl rfl (ql_neqT tabOk rfl rfl rfl (by omega) (q_nil ?_))))))))))); refine q_cond_true rfl (q_seq (q_region ?_)); (iterate 3 refine ql_pure tabOk rfl rfl ?_); refine q_nil (q_ret ?_))
  refine q_fin tabOk rfl (by repeat constructor) fun w hs => ?_
  exact ⟨rfl, hs.chg0⟩
theorem rprice_neg (w : World) (lo hi : Nat) (v : Value) (A : List (List Int)) (t : Int) (h : RdII w lo hi v A) (hA : AimOk A) (ht : t < 0) : Ca Tryz.prog 88 [v, .int .i64 t] w fun x w' => x = .tuple #[.int .i64 0, .int .i64 3] ∧ Chg [] w w' := by
  refine q_of (Sat.nil w M0) Tryz.func88 rfl (by simp [Tryz.ntmps88]) ?_
  (refine q_seq (q_region (ql_pure tabOk rfl rfl (ql_pure tabOk rfl rfl (q_nil (q_seq (q_region (ql_pure tabOk rfl rfl (ql_pure tabOk rfl rfl ?_)))))))))
  refine ql_callv (val := .tuple #[.int .i64 0, .int .i64 3]) tabOk rfl rfl rfl rfl (fun w hs => ?_) ?_; exact rbest_neg w lo hi v A t (h.keep hs.chg0) hA ht
  (refine ql_pure tabOk rfl rfl (ql_ext tabOk rfl rfl rfl (ql_ext tabOk rfl rfl rfl (ql_pure tabOk rfl rfl (ql_pure tabOk rfl rfl (q_nil (q_seq (q_seq (q_region (ql_pure tabOk rfl rfl (ql_neqT tabOk rfl rfl rfl (by omega) (q_nil ?_))))))))))); refine q_cond_true rfl (q_seq (q_region ?_)); (iterate 3 refine ql_pure tabOk rfl rfl ?_); refine q_nil (q_ret ?_))
  refine q_fin tabOk rfl (by repeat constructor) fun w hs => ?_
  exact ⟨rfl, hs.chg0⟩
theorem mulN {p : Int} {x : Nat} (h0 : 0 ≤ p) (h1 : p ≤ 1000) (hx : x ≤ 21) : 0 ≤ p * (x : Int) ∧ p * (x : Int) ≤ 30000 := ⟨Int.mul_nonneg h0 (by omega), Int.le_trans (Int.mul_le_mul h1 (show (x : Int) ≤ 21 by omega) (by omega) (by omega)) (by decide)⟩
theorem pr_bd {A : List (List Int)} (hA : AimOk A) {p : Int} (h0 : 0 ≤ p) (h1 : p ≤ 1000) : ∀ i, i ≤ A.length → (0 ≤ fewP A p i ∧ fewP A p i ≤ 21 * i) ∧ (0 ≤ manyP A p i ∧ manyP A p i ≤ 21 * i) ∧ 0 ≤ sumP A p i ∧ sumP A p i ≤ 31000 * i := fun i => by
  induction i with
  | zero => intro _; simp [fewP, manyP, sumP, smF]
  | succ i ih =>
    intro hi
    have h := ih (by omega)
    have hr := hA.row i (by omega)
    have l := (low_spec (valV A p i) (amW A i) (by omega)).1
    have u := (high_spec (valV A p i) (amW A i) (by omega)).1
    have b := hA.bd i (lowA A p i) (by omega) l
    have m := mulN h0 h1 (x := lowA A p i) (by unfold lowA; omega)
    have e : valV A p i (lowA A p i) = amA A i (lowA A p i) + p * (lowA A p i : Int) := rfl
    have l2 : lowA A p i < amW A i := l
    have u2 : highA A p i < amW A i := u
    unfold fewP manyP sumP at h ⊢
    simp only [smF]
    omega
set_option maxHeartbeats 8000000 in
theorem rprice_ok (w : World) (lo hi : Nat) (v : Value) (A : List (List Int)) (t : Nat) (h : RdII w lo hi v A) (hA : AimOk A) (ht : (t : Int) ≤ 9223372036854775807) : Ca Tryz.prog 88 [v, .int .i64 t] w fun x w' => x = .tuple #[.int .i64 (mostV A (wtsV A t)), .int .i64 0] ∧ Chg [] w w' := by
  have n1 := hA.n1
  have n8 := hA.n8
  obtain ⟨a, c, rfl, ha⟩ := RdII.outI h
  obtain ⟨gb, go, rfl⟩ := ha (by omega)
  have hq0 := most_nn A (wtsV A t)
  have hq1 := most_1k hA t
  have hcb := miss_bd hA (gr_all hA t).ok
  have hpa := price_at hA t
  have hpl := fun p h0 h1 => price_lt hA (t := t) (p := p) h0 h1
  have hcv : missV A (wtsV A t) = cvV A t := rfl
  rw [hcv] at hcb
  generalize mostV A (wtsV A t) = q at hq0 hq1 hpa hpl ⊢
  refine q_of (Sat.nil w M0) Tryz.func88 rfl (by simp [Tryz.ntmps88]) ?_
  (refine q_seq (q_region (ql_pure tabOk rfl rfl (ql_pure tabOk rfl rfl (q_nil (q_seq (q_region (ql_pure tabOk rfl rfl (ql_pure tabOk rfl rfl ?_)))))))))
  refine ql_callv (val := .tuple #[.int .i64 (cvV A t), .int .i64 0]) tabOk rfl rfl rfl rfl (fun w hs => ?_) ?_; exact rbest_ok w lo hi _ A t (h.keep hs.chg0) hA ht
  (refine ql_pure tabOk rfl rfl (ql_ext tabOk rfl rfl rfl (ql_ext tabOk rfl rfl rfl (ql_pure tabOk rfl rfl (ql_pure tabOk rfl rfl (q_nil (q_seq (q_seq (q_region (ql_pure tabOk rfl rfl (ql_neqF tabOk rfl rfl rfl (by omega) (q_nil ?_))))))))))); refine q_cond_false rfl (q_skip (q_seq (q_seq (q_region (ql_pure tabOk rfl rfl (q_nil (q_block ?_))))))))
  refine q_loop (σ := Int) (fun p => 0 ≤ p ∧ p ≤ q) (fun p => (q - p).toNat) (fun p => [(0, (.slice (some ⟨gb, go, none⟩) A.length c)), (1, .int .i64 t), (6, .int .i64 (cvV A t)), (8, .int .i64 p)]) (fun _ => []) 0 ⟨by omega, hq0⟩ ⟨rfl, rfl, rfl, rfl, trivial⟩ (by repeat constructor) ?_
  rintro p ⟨p0, p1⟩ K hK
  have p2 : p ≤ 1000 := by omega
  (refine q_seq (q_seq (q_region (ql_pure tabOk rfl rfl (ql_leqT tabOk rfl rfl rfl (by omega) (q_nil (q_cond_true rfl (q_skip (q_seq (q_block (q_seq (q_region ?_))))))))))); (iterate 3 refine ql_pure tabOk rfl rfl ?_); refine q_nil (q_seq (q_seq (q_region (ql_pure tabOk rfl rfl (q_nil (q_block ?_)))))))
  refine q_loop (σ := Nat) (fun i => i ≤ A.length) (fun i => A.length - i) (fun i => [(0, (.slice (some ⟨gb, go, none⟩) A.length c)), (1, .int .i64 t), (6, .int .i64 (cvV A t)), (8, .int .i64 p), (9, .int .i64 (fewP A p i)), (10, .int .i64 (manyP A p i)), (11, .int .i64 (sumP A p i)), (12, .int .i64 i)]) (fun _ => []) 0 (by omega) ⟨rfl, rfl, rfl, rfl, rfl, rfl, rfl, rfl, trivial⟩ (by repeat constructor) ?_
  intro i hi0 K2 hK2
  have hB := pr_bd hA p0 p2 i hi0
  (refine q_seq (q_seq (q_region ?_)); (iterate 4 refine ql_pure tabOk rfl rfl ?_); refine q_nil ?_)
  refine q_if rfl (fun hc => ?_) (fun hc => ?_)
  · have hi2 : i < A.length := by omega
    clear hc
    have hrow := hA.row i hi2
    obtain ⟨rb, ro, rc, hr1, hr2⟩ := aim_row h hi2 (by omega)
    (refine q_skip (q_seq (q_block (q_seq (q_region (ql_pure tabOk rfl rfl (ql_pure tabOk rfl rfl (q_nil (q_seq (q_seq (q_region (ql_pure tabOk rfl rfl ?_))))))))))); refine q_nil (q_block ?_))
    refine q_loop (σ := Nat) (fun x => 1 ≤ x ∧ x ≤ amW A i) (fun x => amW A i - x) (fun x => [(0, (.slice (some ⟨gb, go, none⟩) A.length c)), (1, .int .i64 t), (6, .int .i64 (cvV A t)), (8, .int .i64 p), (9, .int .i64 (fewP A p i)), (10, .int .i64 (manyP A p i)), (11, .int .i64 (sumP A p i)), (12, .int .i64 i), (13, .int .i64 (lowG (valV A p i) x)), (14, .int .i64 (highG (valV A p i) x)), (15, .int .i64 x)]) (fun _ => []) 1 ⟨by omega, by omega⟩ ⟨rfl, rfl, rfl, rfl, rfl, rfl, rfl, rfl, lookI rfl (by simp [lowG]), lookI rfl (by simp [highG]), rfl, trivial⟩ (by repeat constructor) ?_
    rintro x ⟨x1, x2⟩ K3 hK3
    have hl := (low_spec (valV A p i) x (by omega)).1
    have hu := (high_spec (valV A p i) x (by omega)).1
    (refine q_seq (q_seq (q_region ?_)); (iterate 3 refine ql_pure tabOk rfl rfl ?_))
    refine ql_index tabOk rfl rfl rfl rfl rfl (by omega) (by omega) ?_
    skip
    refine ql_load1 tabOk rfl rfl rfl (fun w hs => hr1 _ hs.chg0) ?_
    (refine ql_pure tabOk rfl rfl (ql_pure tabOk rfl rfl (q_nil ?_)))
    refine q_if rfl (fun hc => ?_) (fun hc => ?_)
    · have hx2 : x < amW A i := by omega
      clear hc
      have hl2 : lowG (valV A p i) x < amW A i := by omega
      have hu2 : highG (valV A p i) x < amW A i := by omega
      have b1 := hA.bd i x hi2 hx2
      have b2 := hA.bd i _ hi2 hl2
      have b3 := hA.bd i _ hi2 hu2
      have m1 := mulN p0 p2 (x := x) (by omega)
      have m2 := mulN p0 p2 (x := lowG (valV A p i) x) (by omega)
      have m3 := mulN p0 p2 (x := highG (valV A p i) x) (by omega)
      have sl : lowG (valV A p i) (x + 1) = if amA A i x + p * x < amA A i (lowG (valV A p i) x) + p * (lowG (valV A p i) x) then x else lowG (valV A p i) x := rfl
      have su : highG (valV A p i) (x + 1) = if amA A i x + p * x ≤ amA A i (highG (valV A p i) x) + p * (highG (valV A p i) x) then x else highG (valV A p i) x := rfl
      generalize hlg : lowG (valV A p i) x = lx at *
      generalize hug : highG (valV A p i) x = ux at *
      (refine q_skip (q_seq ?_))
      refine q_block ?_
      (refine q_seq (q_seq ?_))
      refine q_draw _ [] (Sp.refl _) (by kernel_rfl) (by kernel_rfl) ?_
      (refine qf_pure tabOk rfl rfl rfl (qf_pure tabOk rfl rfl rfl ?_))
      refine qf_index tabOk rfl rfl rfl rfl rfl (by omega) (by omega) ?_
      skip
      refine qf_load1 tabOk rfl rfl rfl (fun w hs => hr1 _ hs.chg0) ?_
      (refine qf_pure tabOk rfl rfl rfl ?_)
      refine qf_index tabOk rfl rfl rfl rfl rfl (by omega) (by omega) ?_
      skip
      refine qf_load1 tabOk rfl rfl rfl (fun w hs => hr2 x hx2 _ hs.chg0) ?_
      (refine qf_pure tabOk rfl rfl rfl (qf_pure tabOk rfl rfl rfl (qf_ar tabOk rfl rfl rfl rfl (by omega) (by omega) (qf_ar tabOk rfl rfl rfl rfl (by omega) (by omega) (qf_pure tabOk rfl rfl rfl (qf_pure tabOk rfl rfl rfl ?_))))))
      refine qf_index tabOk rfl rfl rfl rfl rfl (by omega) (by omega) ?_
      skip
      refine qf_load1 tabOk rfl rfl rfl (fun w hs => hr1 _ hs.chg0) ?_
      (refine qf_pure tabOk rfl rfl rfl ?_)
      refine qf_index tabOk rfl rfl rfl rfl rfl (by omega) (by omega) ?_
      skip
      refine qf_load1 tabOk rfl rfl rfl (fun w hs => hr2 lx hl2 _ hs.chg0) ?_
      (refine qf_pure tabOk rfl rfl rfl (qf_pure tabOk rfl rfl rfl (qf_ar tabOk rfl rfl rfl rfl (by omega) (by omega) (qf_ar tabOk rfl rfl rfl rfl (by omega) (by omega) (qf_pure tabOk rfl rfl rfl (qf_nil ?_))))))
      refine q_cut (σ := Unit) (fun _ => [(0, (.slice (some ⟨gb, go, none⟩) A.length c)), (1, .int .i64 t), (6, .int .i64 (cvV A t)), (8, .int .i64 p), (9, .int .i64 (fewP A p i)), (10, .int .i64 (manyP A p i)), (11, .int .i64 (sumP A p i)), (12, .int .i64 i), (13, .int .i64 (lowG (valV A p i) (x + 1))), (14, .int .i64 ux), (15, .int .i64 x)]) (fun _ => []) ?_ ?_
      rotate_left
      · intro K4 hK4
        refine q_if rfl (fun hc => ?_) (fun hc => ?_)
        · have e : lowG (valV A p i) (x + 1) = x := by rw [sl, if_pos (by simpa using hc)]
          clear hc
          (refine q_region (ql_pure tabOk rfl rfl (ql_pure tabOk rfl rfl (q_nil ?_))))
          exact hK4 () _ _ ⟨rfl, rfl, rfl, rfl, rfl, rfl, rfl, rfl, lookI rfl (by omega), rfl, rfl, trivial⟩ (by repeat constructor)
        · have e : lowG (valV A p i) (x + 1) = lx := by rw [sl, if_neg (by simpa using hc)]
          clear hc
          (refine q_skip ?_)
          exact hK4 () _ _ ⟨rfl, rfl, rfl, rfl, rfl, rfl, rfl, rfl, lookI rfl (by omega), rfl, rfl, trivial⟩ (by repeat constructor)
      rintro ⟨⟩
      (refine q_seq ?_)
      refine q_draw _ [] (Sp.refl _) (by kernel_rfl) (by kernel_rfl) ?_
      (refine qf_pure tabOk rfl rfl rfl (qf_pure tabOk rfl rfl rfl ?_))
      refine qf_index tabOk rfl rfl rfl rfl rfl (by omega) (by omega) ?_
      skip
      refine qf_load1 tabOk rfl rfl rfl (fun w hs => hr1 _ hs.chg0) ?_
      (refine qf_pure tabOk rfl rfl rfl ?_)
      refine qf_index tabOk rfl rfl rfl rfl rfl (by omega) (by omega) ?_
      skip
      refine qf_load1 tabOk rfl rfl rfl (fun w hs => hr2 x hx2 _ hs.chg0) ?_
      (refine qf_pure tabOk rfl rfl rfl (qf_pure tabOk rfl rfl rfl (qf_ar tabOk rfl rfl rfl rfl (by omega) (by omega) (qf_ar tabOk rfl rfl rfl rfl (by omega) (by omega) (qf_pure tabOk rfl rfl rfl (qf_pure tabOk rfl rfl rfl ?_))))))
      refine qf_index tabOk rfl rfl rfl rfl rfl (by omega) (by omega) ?_
      skip
      refine qf_load1 tabOk rfl rfl rfl (fun w hs => hr1 _ hs.chg0) ?_
      (refine qf_pure tabOk rfl rfl rfl ?_)
      refine qf_index tabOk rfl rfl rfl rfl rfl (by omega) (by omega) ?_
      skip
      refine qf_load1 tabOk rfl rfl rfl (fun w hs => hr2 ux hu2 _ hs.chg0) ?_
      (refine qf_pure tabOk rfl rfl rfl (qf_pure tabOk rfl rfl rfl (qf_ar tabOk rfl rfl rfl rfl (by omega) (by omega) (qf_ar tabOk rfl rfl rfl rfl (by omega) (by omega) (qf_pure tabOk rfl rfl rfl (qf_nil ?_))))))
      refine q_if rfl (fun hc => ?_) (fun hc => ?_)
      · have e : highG (valV A p i) (x + 1) = x := by rw [su, if_pos (by simpa using hc)]
        clear hc
        (refine q_region (ql_pure tabOk rfl rfl (ql_pure tabOk rfl rfl (q_nil (q_blk (q_region (ql_pure tabOk rfl rfl (ql_ar tabOk rfl rfl rfl rfl (by omega) (by omega) (ql_pure tabOk rfl rfl (q_nil ?_))))))))))
        exact hK3 (x + 1) _ _ ⟨by omega, by omega⟩ (by omega) ⟨rfl, rfl, rfl, rfl, rfl, rfl, rfl, rfl, rfl, lookI rfl (by omega), rfl, trivial⟩ (by repeat constructor)
      · have e : highG (valV A p i) (x + 1) = ux := by rw [su, if_neg (by simpa using hc)]
        clear hc
        (refine q_skip (q_blk (q_region (ql_pure tabOk rfl rfl (ql_ar tabOk rfl rfl rfl rfl (by omega) (by omega) (ql_pure tabOk rfl rfl (q_nil ?_)))))))
        exact hK3 (x + 1) _ _ ⟨by omega, by omega⟩ (by omega) ⟨rfl, rfl, rfl, rfl, rfl, rfl, rfl, rfl, rfl, lookI rfl (by omega), rfl, trivial⟩ (by repeat constructor)
    · obtain rfl : x = amW A i := by omega
      clear hc hK3
      have e1 : fewP A p (i + 1) = fewP A p i + (lowG (valV A p i) (amW A i) : Nat) := rfl
      have e2 : manyP A p (i + 1) = manyP A p i + (highG (valV A p i) (amW A i) : Nat) := rfl
      have e3 : sumP A p (i + 1) = sumP A p i + (amA A i (lowG (valV A p i) (amW A i)) + p * (lowG (valV A p i) (amW A i) : Nat)) := rfl
      have b2 := hA.bd i _ hi2 hl
      have m2 := mulN p0 p2 (x := lowG (valV A p i) (amW A i)) (by omega)
      generalize hlg : lowG (valV A p i) (amW A i) = lx at *
      generalize hug : highG (valV A p i) (amW A i) = ux at *
      (refine q_exit _ rfl (q_seq (q_region (ql_pure tabOk rfl rfl (ql_pure tabOk rfl rfl (ql_ar tabOk rfl rfl rfl rfl (by omega) (by omega) (ql_pure tabOk rfl rfl (ql_pure tabOk rfl rfl (ql_ar tabOk rfl rfl rfl rfl (by omega) (by omega) (ql_pure tabOk rfl rfl (ql_pure tabOk rfl rfl (q_nil ?_))))))))))); refine q_region ?_; (iterate 3 refine ql_pure tabOk rfl rfl ?_))
      refine ql_index tabOk rfl rfl rfl rfl rfl (by omega) (by omega) ?_
      skip
      refine ql_load1 tabOk rfl rfl rfl (fun w hs => hr1 _ hs.chg0) ?_
      (refine ql_pure tabOk rfl rfl ?_)
      refine ql_index tabOk rfl rfl rfl rfl rfl (by omega) (by omega) ?_
      skip
      refine ql_load1 tabOk rfl rfl rfl (fun w hs => hr2 lx hl _ hs.chg0) ?_
      (refine ql_ar tabOk rfl rfl rfl rfl (by omega) (by omega) (ql_pure tabOk rfl rfl (ql_pure tabOk rfl rfl (ql_ar tabOk rfl rfl rfl rfl (by omega) (by omega) (ql_ar tabOk rfl rfl rfl rfl (by omega) (by omega) (ql_pure tabOk rfl rfl (q_nil (q_blk (q_region (ql_pure tabOk rfl rfl (ql_ar tabOk rfl rfl rfl rfl (by omega) (by omega) (ql_pure tabOk rfl rfl ?_))))))))))); refine q_nil ?_)
      exact hK2 (i + 1) _ _ (by omega) (by omega) ⟨rfl, rfl, rfl, rfl, lookI rfl (by omega), lookI rfl (by omega), lookI rfl (by omega), rfl, trivial⟩ (by repeat constructor)
  · obtain rfl : i = A.length := by omega
    clear hc hK2
    have hnext : ¬ PrC A t p → p + 1 ≤ q := fun hn => by
      by_cases e : p = q
      · rw [e] at hn; exact absurd hpa hn
      · omega
    have hthis : PrC A t p → p = q := fun hn => by
      by_cases e : p < q
      · exact absurd hn (hpl p p0 e)
      · omega
    unfold PrC at hnext hthis
    clear hpa hpl
    generalize hF : fewP A p A.length = F at *
    generalize hMm : manyP A p A.length = M at *
    generalize hS : sumP A p A.length = S at *
    by_cases c1 : F ≤ t
    · by_cases c2 : M ≤ t
      · obtain ⟨pm, hpm⟩ : ∃ pm, pm = p * M := ⟨_, rfl⟩
        have hpb : 0 ≤ pm ∧ pm ≤ 1000 * 200 := by rw [hpm]; exact ⟨Int.mul_nonneg p0 (by omega), Int.mul_le_mul p2 (by omega) (by omega) (by omega)⟩
        rw [show min M (t : Int) = M from by omega, ← hpm] at hnext hthis
        by_cases c3 : S - pm = cvV A t
        · have e := hthis ⟨c1, c3⟩
          rw [hpm] at hpb c3
          (refine q_exit _ rfl (q_seq (q_seq (q_region (ql_pure tabOk rfl rfl (ql_pure tabOk rfl rfl (ql_gtrF tabOk rfl rfl rfl (by omega) (q_nil (q_cond_false rfl (q_skip (q_seq (q_seq ?_))))))))))); refine q_region (ql_pure tabOk rfl rfl (ql_pure tabOk rfl rfl (ql_gtrF tabOk rfl rfl rfl (by omega) (q_nil (q_cond_false rfl (q_skip (q_seq (q_region ?_)))))))); (iterate 3 refine ql_pure tabOk rfl rfl ?_); refine ql_ar tabOk rfl rfl rfl rfl (by omega) (by omega) (ql_ar tabOk rfl rfl rfl rfl (by omega) (by omega) (ql_pure tabOk rfl rfl (ql_eqlT tabOk rfl rfl rfl (by omega) (q_nil (q_cond_true rfl (q_seq (q_region ?_))))))); (iterate 3 refine ql_pure tabOk rfl rfl ?_); refine q_nil (q_ret ?_))
          refine q_fin tabOk rfl (by repeat constructor) fun w hs => ?_
          exact ⟨by rw [e]; rfl, hs.chg0⟩
        · have e := hnext fun g => c3 g.2
          rw [hpm] at hpb c3
          (refine q_exit _ rfl (q_seq (q_seq (q_region (ql_pure tabOk rfl rfl (ql_pure tabOk rfl rfl (ql_gtrF tabOk rfl rfl rfl (by omega) (q_nil (q_cond_false rfl (q_skip (q_seq (q_seq ?_))))))))))); refine q_region (ql_pure tabOk rfl rfl (ql_pure tabOk rfl rfl (ql_gtrF tabOk rfl rfl rfl (by omega) (q_nil (q_cond_false rfl (q_skip (q_seq (q_region ?_)))))))); (iterate 3 refine ql_pure tabOk rfl rfl ?_); refine ql_ar tabOk rfl rfl rfl rfl (by omega) (by omega) (ql_ar tabOk rfl rfl rfl rfl (by omega) (by omega) (ql_pure tabOk rfl rfl (ql_eqlF tabOk rfl rfl rfl (by omega) (q_nil (q_cond_false rfl (q_skip (q_blk (q_region (ql_pure tabOk rfl rfl (ql_ar tabOk rfl rfl rfl rfl (by omega) (by omega) (ql_pure tabOk rfl rfl ?_))))))))))); refine q_nil ?_)
          exact hK (p + 1) _ _ ⟨by omega, e⟩ (by omega) ⟨rfl, rfl, rfl, rfl, trivial⟩ (by repeat constructor)
      · obtain ⟨pm, hpm⟩ : ∃ pm, pm = p * (t : Int) := ⟨_, rfl⟩
        have hpb : 0 ≤ pm ∧ pm ≤ 1000 * 200 := by rw [hpm]; exact ⟨Int.mul_nonneg p0 (by omega), Int.mul_le_mul p2 (by omega) (by omega) (by omega)⟩
        rw [show min M (t : Int) = t from by omega, ← hpm] at hnext hthis
        by_cases c3 : S - pm = cvV A t
        · have e := hthis ⟨c1, c3⟩
          rw [hpm] at hpb c3
          (refine q_exit _ rfl (q_seq (q_seq (q_region (ql_pure tabOk rfl rfl (ql_pure tabOk rfl rfl (ql_gtrF tabOk rfl rfl rfl (by omega) (q_nil (q_cond_false rfl (q_skip (q_seq (q_seq ?_))))))))))); refine q_region (ql_pure tabOk rfl rfl (ql_pure tabOk rfl rfl (ql_gtrT tabOk rfl rfl rfl (by omega) (q_nil (q_cond_true rfl (q_region (ql_pure tabOk rfl rfl (ql_pure tabOk rfl rfl (q_nil (q_seq (q_region ?_))))))))))); (iterate 3 refine ql_pure tabOk rfl rfl ?_); refine ql_ar tabOk rfl rfl rfl rfl (by omega) (by omega) (ql_ar tabOk rfl rfl rfl rfl (by omega) (by omega) (ql_pure tabOk rfl rfl (ql_eqlT tabOk rfl rfl rfl (by omega) (q_nil (q_cond_true rfl (q_seq (q_region ?_))))))); (iterate 3 refine ql_pure tabOk rfl rfl ?_); refine q_nil (q_ret ?_))
          refine q_fin tabOk rfl (by repeat constructor) fun w hs => ?_
          exact ⟨by rw [e]; rfl, hs.chg0⟩
        · have e := hnext fun g => c3 g.2
          rw [hpm] at hpb c3
          (refine q_exit _ rfl (q_seq (q_seq (q_region (ql_pure tabOk rfl rfl (ql_pure tabOk rfl rfl (ql_gtrF tabOk rfl rfl rfl (by omega) (q_nil (q_cond_false rfl (q_skip (q_seq (q_seq ?_))))))))))); refine q_region (ql_pure tabOk rfl rfl (ql_pure tabOk rfl rfl (ql_gtrT tabOk rfl rfl rfl (by omega) (q_nil (q_cond_true rfl (q_region (ql_pure tabOk rfl rfl (ql_pure tabOk rfl rfl (q_nil (q_seq (q_region ?_))))))))))); (iterate 3 refine ql_pure tabOk rfl rfl ?_); refine ql_ar tabOk rfl rfl rfl rfl (by omega) (by omega) (ql_ar tabOk rfl rfl rfl rfl (by omega) (by omega) (ql_pure tabOk rfl rfl (ql_eqlF tabOk rfl rfl rfl (by omega) (q_nil (q_cond_false rfl (q_skip (q_blk (q_region (ql_pure tabOk rfl rfl (ql_ar tabOk rfl rfl rfl rfl (by omega) (by omega) (ql_pure tabOk rfl rfl ?_))))))))))); refine q_nil ?_)
          exact hK (p + 1) _ _ ⟨by omega, e⟩ (by omega) ⟨rfl, rfl, rfl, rfl, trivial⟩ (by repeat constructor)
    · have e := hnext fun g => c1 g.1
      (refine q_exit _ rfl (q_seq (q_seq (q_region (ql_pure tabOk rfl rfl (ql_pure tabOk rfl rfl (ql_gtrT tabOk rfl rfl rfl (by omega) (q_nil (q_cond_true rfl (q_exit _ rfl (q_region (ql_pure tabOk rfl rfl ?_))))))))))); refine ql_ar tabOk rfl rfl rfl rfl (by omega) (by omega) (ql_pure tabOk rfl rfl (q_nil ?_)))
      exact hK (p + 1) _ _ ⟨by omega, e⟩ (by omega) ⟨rfl, rfl, rfl, rfl, trivial⟩ (by repeat constructor)
end Go.Proofs.YtopdmadgkjdgcaaGreat

/- Contracts of aims for all cases at once, of both packages; the law's long. -/
namespace Go.Proofs.YtopdmadgkjdgcaaGreat
set_option maxRecDepth 4000
open Go Go.Eng
theorem wt_split {A : List (List Int)} {W : List Int} (h : chkWt A W = 0) : AimOk A ∧ nI (W.map Int.toNat) = W ∧ WOk A (W.map Int.toNat) := by
  unfold chkWt at h
  split at h
  · rename_i c
    exact absurd h c
  rename_i c0
  split at h
  · omega
  rename_i c1
  split at h
  · rename_i c2
    have := wtB_ok (by omega) c2
    exact ⟨chkA_zero.1 (by omega), this.1, this.2⟩
  · omega
theorem amissA (w : World) (lo hi lo2 hi2 : Nat) (v wv : Value) (A : List (List Int)) (W : List Int) (h : RdII w lo hi v A) (hW : RdI w lo2 hi2 wv W) (hlA : A.length ≤ maxLen) : Ca Tryz.prog 65 [v, wv] w fun x w' => x = .tuple #[.int .i64 (missI A W), .int .i64 (chkWt A W)] ∧ Chg [] w w' := by
  by_cases c : chkWt A W = 0
  · obtain ⟨hA, e, hV⟩ := wt_split c
    have h1 := amiss_ok w lo hi lo2 hi2 v wv A (W.map Int.toNat) h (by rw [e]; exact hW) hA hV
    rw [show missI A W = missV A (W.map Int.toNat) from by unfold missI; rw [if_pos c], c]
    exact h1
  · have h1 := amiss_no w lo hi lo2 hi2 v wv A W h hW hlA c
    rw [show missI A W = 0 from by unfold missI; rw [if_neg c]]
    exact h1
def bestE (A : List (List Int)) (t : Int) : Int := if chkA A ≠ 0 then chkA A else if t < 0 then 3 else 0
def bestI (A : List (List Int)) (t : Int) : Int := if bestE A t = 0 then cvV A t.toNat else 0
def bestL (A : List (List Int)) (t : Int) : List Nat := if bestE A t = 0 then wtsV A t.toNat else []
theorem bstE_ok {A : List (List Int)} {t : Int} (h : bestE A t = 0) : AimOk A ∧ 0 ≤ t := by
  unfold bestE at h
  split at h
  · rename_i c
    exact absurd h c
  split at h
  · omega
  · rename_i c0 c1
    exact ⟨chkA_zero.1 (by omega), by omega⟩
theorem bstE_no {A : List (List Int)} {t : Int} (h : bestE A t ≠ 0) : (chkA A ≠ 0 ∧ bestE A t = chkA A) ∨ (AimOk A ∧ t < 0 ∧ bestE A t = 3) := by
  unfold bestE at h ⊢
  by_cases c : chkA A ≠ 0
  · rw [if_pos c]; exact .inl ⟨c, rfl⟩
  · rw [if_neg c] at h ⊢
    by_cases c1 : t < 0
    · rw [if_pos c1]; exact .inr ⟨chkA_zero.1 (by omega), c1, rfl⟩
    · rw [if_neg c1] at h; exact absurd rfl h
theorem abestA (w : World) (lo hi : Nat) (v : Value) (A : List (List Int)) (t : Int) (h : RdII w lo hi v A) (hlen : A.length ≤ maxLen) (ht : t ≤ 9223372036854775807) : Ca Tryz.prog 64 [v, .int .i64 t] w fun x w' => ∃ u : Value, x = .tuple #[u, .int .i64 (bestI A t), .int .i64 (bestE A t)] ∧ Sat w M0 [.ow u 3 1 (bestL A t).length (ints (nI (bestL A t)))] w' := by
  by_cases c : bestE A t = 0
  · obtain ⟨hA, t0⟩ := bstE_ok c
    obtain ⟨n, rfl⟩ := Int.eq_ofNat_of_zero_le t0
    have hg := gr_all hA n
    have n8 := hA.n8
    refine (abest_ok w lo hi v A n h hA ht).mono fun x w' ⟨b, h1, h2⟩ => ⟨.slice (some ⟨b, 0, none⟩) A.length A.length, by rw [h1, bestI, if_pos c, c]; rfl, ?_⟩
    rw [bestL, if_pos c, show ((n : Int)).toNat = n from rfl, hg.ok.len]
    exact Sat.pt_ow (m := A.length) (by simp [ints, nI, hg.ok.len]) (by omega) h2
  · have e1 : bestI A t = 0 := by unfold bestI; rw [if_neg c]
    have e2 : bestL A t = [] := by unfold bestL; rw [if_neg c]
    rw [e1, e2]
    rcases bstE_no c with ⟨c1, e⟩ | ⟨hA, t0, e⟩
    · rw [e]
      exact (abest_no w lo hi v A t h hlen c1).mono fun x w' ⟨h1, h2⟩ => ⟨_, h1, Sat.ownil ((Sat.nil w M0).keep h2) _ _⟩
    · rw [e]
      exact (abest_neg w lo hi v A t h hA t0).mono fun x w' ⟨h1, h2⟩ => ⟨_, h1, Sat.ownil ((Sat.nil w M0).keep h2) _ _⟩
theorem rbestA (w : World) (lo hi : Nat) (v : Value) (A : List (List Int)) (t : Int) (h : RdII w lo hi v A) (hlen : A.length ≤ maxLen) (hrl : ∀ r ∈ A, r.length ≤ maxLen) (ht : t ≤ 9223372036854775807) : Ca Tryz.prog 85 [v, .int .i64 t] w fun x w' => x = .tuple #[.int .i64 (bestI A t), .int .i64 (bestE A t)] ∧ Chg [] w w' := by
  by_cases c : bestE A t = 0
  · obtain ⟨hA, t0⟩ := bstE_ok c
    obtain ⟨n, rfl⟩ := Int.eq_ofNat_of_zero_le t0
    rw [c, bestI, if_pos c]
    exact rbest_ok w lo hi v A n h hA ht
  · have e1 : bestI A t = 0 := by unfold bestI; rw [if_neg c]
    rw [e1]
    rcases bstE_no c with ⟨c1, e⟩ | ⟨hA, t0, e⟩
    · rw [e]; exact rbest_no w lo hi v A t h hlen hrl c1
    · rw [e]; exact rbest_neg w lo hi v A t h hA t0
def priI (A : List (List Int)) (t : Int) : Int := if bestE A t = 0 then mostV A (wtsV A t.toNat) else 0
theorem apriA (w : World) (lo hi : Nat) (v : Value) (A : List (List Int)) (t : Int) (h : RdII w lo hi v A) (hlen : A.length ≤ maxLen) (ht : t ≤ 9223372036854775807) : Ca Tryz.prog 27 [v, .int .i64 t] w fun x w' => x = .tuple #[.int .i64 (priI A t), .int .i64 (bestE A t)] ∧ Chg [] w w' := by
  by_cases c : bestE A t = 0
  · obtain ⟨hA, t0⟩ := bstE_ok c
    obtain ⟨n, rfl⟩ := Int.eq_ofNat_of_zero_le t0
    rw [c, priI, if_pos c]
    exact aprice_ok w lo hi v A n h hA ht
  · have e1 : priI A t = 0 := by unfold priI; rw [if_neg c]
    rw [e1]
    refine q_of (Sat.nil w M0) Tryz.func27 rfl (by simp [Tryz.ntmps27]) ?_
    (refine q_seq (q_region (ql_pure tabOk rfl rfl (ql_pure tabOk rfl rfl (q_nil (q_seq (q_region (ql_pure tabOk rfl rfl (ql_pure tabOk rfl rfl ?_)))))))))
    refine ql_call (β := Value) tabOk [] _ M0 rfl rfl rfl rfl (Sp.refl _) (fun _ h => h.elim) (fun w' hs => abestA w' lo hi v A t (h.keep hs.chg0) hlen ht) ?_
    rintro u _ rfl
    dsimp only [List.cons_append, List.nil_append]
    (refine ql_pure tabOk rfl rfl ?_; (iterate 3 refine ql_ext tabOk rfl rfl rfl ?_); (iterate 3 refine ql_pure tabOk rfl rfl ?_); refine q_nil (q_seq (q_seq (q_region (ql_pure tabOk rfl rfl (ql_neqT tabOk rfl rfl rfl (by omega) (q_nil (q_cond_true rfl (q_seq (q_region ?_))))))))); (iterate 3 refine ql_pure tabOk rfl rfl ?_); refine q_nil (q_ret ?_))
    refine q_fin tabOk rfl (by repeat constructor) fun w hs => ?_
    exact ⟨rfl, hs.chg0⟩
theorem rpriA (w : World) (lo hi : Nat) (v : Value) (A : List (List Int)) (t : Int) (h : RdII w lo hi v A) (hlen : A.length ≤ maxLen) (hrl : ∀ r ∈ A, r.length ≤ maxLen) (ht : t ≤ 9223372036854775807) : Ca Tryz.prog 88 [v, .int .i64 t] w fun x w' => x = .tuple #[.int .i64 (priI A t), .int .i64 (bestE A t)] ∧ Chg [] w w' := by
  by_cases c : bestE A t = 0
  · obtain ⟨hA, t0⟩ := bstE_ok c
    obtain ⟨n, rfl⟩ := Int.eq_ofNat_of_zero_le t0
    rw [c, priI, if_pos c]
    exact rprice_ok w lo hi v A n h hA ht
  · have e1 : priI A t = 0 := by unfold priI; rw [if_neg c]
    rw [e1]
    rcases bstE_no c with ⟨c1, e⟩ | ⟨hA, t0, e⟩
    · rw [e]; exact rprice_no w lo hi v A t h hlen hrl c1
    · rw [e]; exact rprice_neg w lo hi v A t h hA t0
def curI (A : List (List Int)) : List Int := if chkA A = 0 then curveL A (manyN A) else []
theorem curI_len (A : List (List Int)) : (curI A).length ≤ 1000000 := by
  unfold curI
  split
  · rename_i c
    have hA := chkA_zero.1 c
    have := many_le hA
    rw [curveL_len]
    unfold manyN
    omega
  · simp
theorem acurA (w : World) (lo hi : Nat) (v : Value) (A : List (List Int)) (h : RdII w lo hi v A) (hlen : A.length ≤ maxLen) : Ca Tryz.prog 26 [v] w fun x w' => ∃ u : Value, x = .tuple #[u, .int .i64 (chkA A)] ∧ Sat w M0 [.ow u 3 1 (curI A).length (ints (curI A))] w' := by
  by_cases c : chkA A = 0
  · have hA := chkA_zero.1 c
    rw [c, curI, if_pos c, curveL_len]
    exact acurve_ok w lo hi v A h hA
  · rw [curI, if_neg c]
    exact (acurve_no w lo hi v A h hlen c).mono fun x w' ⟨h1, h2⟩ => ⟨_, h1, Sat.ownil ((Sat.nil w M0).keep h2) _ _⟩
theorem rcurA (w : World) (lo hi : Nat) (v : Value) (A : List (List Int)) (h : RdII w lo hi v A) (hlen : A.length ≤ maxLen) (hrl : ∀ r ∈ A, r.length ≤ maxLen) : Ca Tryz.prog 86 [v] w fun x w' => ∃ u : Value, x = .tuple #[u, .int .i64 (chkA A)] ∧ Sat w M0 [.ow u 3 1 (curI A).length (ints (curI A))] w' := by
  by_cases c : chkA A = 0
  · have hA := chkA_zero.1 c
    have hl := curI_len A
    rw [curI, if_pos c, curveL_len] at hl
    rw [c, curI, if_pos c, curveL_len]
    exact (rcurve_ok w lo hi v A h hA).mono fun x w' ⟨b, h1, h2⟩ => ⟨_, h1, Sat.pt_ow (m := manyN A) (by simp [ints, curveL_len]) hl h2⟩
  · rw [curI, if_neg c]
    exact (rcurve_no w lo hi v A h hlen hrl c).mono fun x w' ⟨h1, h2⟩ => ⟨_, h1, Sat.ownil ((Sat.nil w M0).keep h2) _ _⟩
def EnoS (A : List (List Int)) (m : Int) (y : Int × Int) : Prop := (chkA A ≠ 0 ∧ y = (0, chkA A)) ∨ (chkA A = 0 ∧ EnoR A m y.1 y.2)
theorem enoS_uniq {A : List (List Int)} {m : Int} {y z : Int × Int} (h : EnoS A m y) (g : EnoS A m z) : y = z := by
  rcases h with ⟨h1, h2⟩ | ⟨h1, h2⟩
  · rcases g with ⟨_, g2⟩ | ⟨g1, _⟩
    · rw [h2, g2]
    · exact absurd g1 h1
  · rcases g with ⟨g1, _⟩ | ⟨_, g2⟩
    · exact absurd h1 g1
    · have := eno_uniq h2 g2
      exact Prod.ext this.1 this.2
theorem aenoA (w : World) (lo hi : Nat) (v : Value) (A : List (List Int)) (m : Int) (h : RdII w lo hi v A) (hlen : A.length ≤ maxLen) : Ca Tryz.prog 28 [v, .int .i64 m] w fun x w' => ∃ y : Int × Int, (x = .tuple #[.int .i64 y.1, .int .i64 y.2] ∧ EnoS A m y) ∧ Sat w M0 [] w' := by
  by_cases c : chkA A = 0
  · exact (aenough_ok w lo hi v A m h (chkA_zero.1 c)).mono fun x w' ⟨y, ⟨h1, h2⟩, h3⟩ => ⟨y, ⟨h1, .inr ⟨c, h2⟩⟩, h3⟩
  · exact (aenough_no w lo hi v A m h hlen c).mono fun x w' ⟨h1, h2⟩ => ⟨(0, chkA A), ⟨h1, .inl ⟨c, rfl⟩⟩, (Sat.nil w M0).keep h2⟩
theorem renoA (w : World) (lo hi : Nat) (v : Value) (A : List (List Int)) (m : Int) (h : RdII w lo hi v A) (hlen : A.length ≤ maxLen) (hrl : ∀ r ∈ A, r.length ≤ maxLen) : Ca Tryz.prog 87 [v, .int .i64 m] w fun x w' => ∃ y : Int × Int, (x = .tuple #[.int .i64 y.1, .int .i64 y.2] ∧ EnoS A m y) ∧ Sat w M0 [] w' := by
  by_cases c : chkA A = 0
  · exact (renough_ok w lo hi v A m h (chkA_zero.1 c)).mono fun x w' ⟨⟨y, h1, h2⟩, h3⟩ => ⟨y, ⟨h1, .inr ⟨c, h2⟩⟩, (Sat.nil w M0).keep h3⟩
  · exact (renough_no w lo hi v A m h hlen hrl c).mono fun x w' ⟨h1, h2⟩ => ⟨(0, chkA A), ⟨h1, .inl ⟨c, rfl⟩⟩, (Sat.nil w M0).keep h2⟩
def holE (A : List (List Int)) (W : List Int) (p : Int) : Int := if chkWt A W ≠ 0 then chkWt A W else if p < 0 then 3 else 0
def holB (A : List (List Int)) (W : List Int) (p : Int) : Bool := if holE A W p = 0 then hoV A (W.map Int.toNat) p else false
theorem hol_cases (A : List (List Int)) (W : List Int) (p : Int) : (chkWt A W ≠ 0 ∧ holE A W p = chkWt A W ∧ holB A W p = false) ∨ (chkWt A W = 0 ∧ p < 0 ∧ holE A W p = 3 ∧ holB A W p = false) ∨ (chkWt A W = 0 ∧ 0 ≤ p ∧ holE A W p = 0 ∧ holB A W p = hoV A (W.map Int.toNat) p) := by
  have eE : holE A W p = if chkWt A W ≠ 0 then chkWt A W else if p < 0 then 3 else 0 := rfl
  have eB : holB A W p = if holE A W p = 0 then hoV A (W.map Int.toNat) p else false := rfl
  by_cases c : chkWt A W = 0
  · rw [if_neg (by omega)] at eE
    by_cases c1 : p < 0
    · rw [if_pos c1] at eE
      exact .inr (.inl ⟨c, c1, eE, by rw [eB, if_neg (by omega)]⟩)
    · rw [if_neg c1] at eE
      exact .inr (.inr ⟨c, by omega, eE, by rw [eB, if_pos eE]⟩)
  · rw [if_pos c] at eE
    exact .inl ⟨c, eE, by rw [eB, if_neg (by omega)]⟩
theorem aholA (w : World) (lo hi lo2 hi2 : Nat) (v wv : Value) (A : List (List Int)) (W : List Int) (p : Int) (h : RdII w lo hi v A) (hW : RdI w lo2 hi2 wv W) (hlA : A.length ≤ maxLen) : Ca Tryz.prog 66 [v, wv, .int .i64 p] w fun x w' => x = .tuple #[.bool (holB A W p), .int .i64 (holE A W p)] ∧ Chg [] w w' := by
  rcases hol_cases A W p with ⟨c, e1, e2⟩ | ⟨c, c1, e1, e2⟩ | ⟨c, c1, e1, e2⟩
  · rw [e1, e2]
    exact aholds_no w lo hi lo2 hi2 v wv A W p h hW hlA c
  · obtain ⟨hA, e, hV⟩ := wt_split c
    rw [e1, e2]
    exact aholds_neg w lo hi lo2 hi2 v wv A (W.map Int.toNat) p h (by rw [e]; exact hW) hA hV c1
  · obtain ⟨hA, e, hV⟩ := wt_split c
    rw [e1, e2]
    exact aholds_ok w lo hi lo2 hi2 v wv A (W.map Int.toNat) p h (by rw [e]; exact hW) hA hV c1
theorem rholA (w : World) (lo hi lo2 hi2 : Nat) (v wv : Value) (A : List (List Int)) (W : List Int) (p : Int) (h : RdII w lo hi v A) (hW : RdI w lo2 hi2 wv W) (hlA : A.length ≤ maxLen) (hrl : ∀ r ∈ A, r.length ≤ maxLen) (hp : p ≤ 9223372036854775807) : Ca Tryz.prog 89 [v, wv, .int .i64 p] w fun x w' => x = .tuple #[.bool (holB A W p), .int .i64 (holE A W p)] ∧ Chg [] w w' := by
  rcases hol_cases A W p with ⟨c, e1, e2⟩ | ⟨c, c1, e1, e2⟩ | ⟨c, c1, e1, e2⟩
  · rw [e1, e2]
    exact rhol_no w lo hi lo2 hi2 v wv A W p h hW hlA hrl c
  · rw [e1, e2]
    exact rhol_neg w lo hi lo2 hi2 v wv A W p h hW hlA hrl c c1
  · obtain ⟨hA, e, hV⟩ := wt_split c
    rw [e1, e2]
    exact rhol_ok w lo hi lo2 hi2 v wv A (W.map Int.toNat) p h (by rw [e]; exact hW) hA hV c1 hp
def lngB (A : List (List Int)) : Bool := decide (12 < A.length) || A.any fun r => decide (30 < r.length)
theorem long_ca (w : World) (lo hi : Nat) (v : Value) (A : List (List Int)) (h : RdII w lo hi v A) (hlen : A.length ≤ maxLen) (hrl : ∀ r ∈ A, r.length ≤ maxLen) : Ca Tryz.prog 81 [v] w fun x w' => x = .bool (lngB A) ∧ Chg [] w w' := by
  obtain ⟨a, c, rfl, ha⟩ := RdII.outI h
  simp only [maxLen] at hlen hrl
  refine q_of (Sat.nil w M0) Tryz.func81 rfl (by simp [Tryz.ntmps81]) ?_
  by_cases c1 : 12 < A.length
  · have e : lngB A = true := by unfold lngB; rw [decide_eq_true c1]; rfl
    rw [e]
    (refine q_seq (q_region (ql_pure tabOk rfl rfl (q_nil (q_seq (q_seq (q_region (ql_pure tabOk rfl rfl (ql_pure tabOk rfl rfl (ql_gtrT tabOk rfl rfl rfl (by omega) (q_nil (q_cond_true rfl ?_))))))))))); refine q_seq (q_region (ql_pure tabOk rfl rfl (q_nil (q_ret ?_)))))
    refine q_fin tabOk rfl (by repeat constructor) fun w hs => ?_
    exact ⟨rfl, hs.chg0⟩
  · have e : lngB A = A.any fun r => decide (30 < r.length) := by unfold lngB; rw [decide_eq_false c1]; rfl
    rw [e]
    (refine q_seq (q_region (ql_pure tabOk rfl rfl (q_nil (q_seq (q_seq (q_region (ql_pure tabOk rfl rfl (ql_pure tabOk rfl rfl (ql_gtrF tabOk rfl rfl rfl (by omega) (q_nil (q_cond_false rfl ?_))))))))))); refine q_skip (q_seq (q_seq (q_region ?_))); (iterate 3 refine ql_pure tabOk rfl rfl ?_); refine q_nil (q_block ?_))
    refine q_loop (σ := Nat) (fun k => k ≤ A.length ∧ ((A.take k).any fun r => decide (30 < r.length)) = false) (fun k => A.length - k) (fun k => [(8, .slice a A.length c), (9, .int .i64 A.length), (10, .int .i64 k)]) (fun _ => []) 0 ⟨by omega, rfl⟩ ⟨rfl, rfl, rfl, trivial⟩ (by repeat constructor) ?_
    rintro k ⟨hk, hno⟩ K hK
    (refine q_seq (q_region (ql_pure tabOk rfl rfl (q_nil (q_seq ?_)))))
    refine q_if rfl (fun hc => ?_) (fun hc => ?_)
    · have hk2 : k < A.length := by omega
      clear hc
      obtain ⟨gb, go, rfl⟩ := ha (by omega)
      obtain ⟨ra, rc, hr, hrc⟩ := RdII.row h k hk2
      have hrk := hrl _ (List.getElem_mem hk2)
      (refine q_skip (q_seq (q_block (q_seq (q_region ?_)))))
      refine ql_index tabOk rfl rfl rfl rfl rfl (by omega) (by omega) ?_
      refine ql_load1 tabOk rfl rfl rfl (fun w hs => hrc _ hs.chg0) ?_
      by_cases c2 : 30 < A[k].length
      · have e2 : (A.any fun r => decide (30 < r.length)) = true := List.any_eq_true.2 ⟨A[k], List.getElem_mem hk2, decide_eq_true c2⟩
        rw [e2]
        (refine ql_pure tabOk rfl rfl (q_nil (q_seq (q_region (ql_pure tabOk rfl rfl (ql_pure tabOk rfl rfl (ql_gtrT tabOk rfl rfl rfl (by omega) (q_nil (q_cond_true rfl (q_seq (q_region (ql_pure tabOk rfl rfl ?_))))))))))); refine q_nil (q_ret ?_))
        refine q_fin tabOk rfl (by repeat constructor) fun w hs => ?_
        exact ⟨rfl, hs.chg0⟩
      · (refine ql_pure tabOk rfl rfl (q_nil (q_seq (q_region (ql_pure tabOk rfl rfl (ql_pure tabOk rfl rfl (ql_gtrF tabOk rfl rfl rfl (by omega) (q_nil (q_cond_false rfl (q_skip (q_blk (q_region ?_))))))))))); refine ql_ar tabOk rfl rfl rfl rfl (by omega) (by omega) (ql_pure tabOk rfl rfl (q_nil ?_)))
        exact hK (k + 1) _ _ ⟨by omega, by rw [List.take_succ_eq_append_getElem hk2, List.any_append, hno]; simp; omega⟩ (by omega) ⟨rfl, rfl, rfl, trivial⟩ (by repeat constructor)
    · obtain rfl : k = A.length := by omega
      rw [List.take_length] at hno
      rw [hno]
      (refine q_exit _ rfl (q_seq (q_region (ql_pure tabOk rfl rfl (q_nil (q_ret ?_))))))
      refine q_fin tabOk rfl (by repeat constructor) fun w hs => ?_
      exact ⟨rfl, hs.chg0⟩
end Go.Proofs.YtopdmadgkjdgcaaGreat

/- RifleAims. Written by gen_LwK.py. -/
namespace Go.Proofs.YtopdmadgkjdgcaaGreat
set_option maxRecDepth 4000
open Go Go.Eng
theorem nI_back (V : List Nat) : (nI V).map Int.toNat = V := by
  unfold nI
  rw [List.map_map]
  conv => rhs; rw [← List.map_id V]
  exact List.map_congr_left fun x _ => by simp
set_option maxHeartbeats 8000000 in
set_option maxRecDepth 20000 in
theorem rifleAims_ca (w : World) (A : List (List Int)) (W : List Int) (v0 wv0 : Value) (tot mis pri : Int) (h : RdII w 0 w.heap.size v0 A) (hRW : RdI w 0 w.heap.size wv0 W) (hl1 : A.length ≤ maxLen) (hrl : ∀ r ∈ A, r.length ≤ maxLen) (hl2 : W.length ≤ maxLen) (ht : tot ≤ 9223372036854775807) (hp : pri ≤ 9223372036854775807) : Ca Tryz.prog 13 [v0, wv0, .int .i64 tot, .int .i64 mis, .int .i64 pri] w fun r w' => r = .bool true ∧ Chg [] w w' := by
  obtain ⟨va, vc, ev, _⟩ := RdII.outI h
  obtain ⟨wa, wc, ew, _⟩ := RdI.outI hRW
  refine q_of (Sat.nil w M0) Tryz.func13 rfl (by simp [Tryz.ntmps13]) ?_
  (refine q_seq (q_region (ql_pure tabOk rfl rfl (q_nil (q_seq (q_seq (q_region (ql_pure tabOk rfl rfl ?_))))))))
  refine ql_callv (val := .bool (lngB A)) tabOk rfl rfl rfl rfl (fun w hs => ?_) ?_; exact long_ca w _ _ _ A (RdII.keep h hs.chg0) hl1 hrl
  simp only [maxLen] at hl2
  by_cases hlg : lngB A = true
  · rw [hlg]
    (refine ql_pure tabOk rfl rfl ?_; (iterate 3 refine ql_gno rfl rfl rfl ?_); refine ql_pure tabOk rfl rfl (q_nil (q_cond_true rfl (q_seq (q_region ?_)))))
    refine ql_callv (val := .bool true) tabOk rfl rfl rfl rfl (fun w hs => ?_) ?_; exact rawake_ca w
    (refine ql_pure tabOk rfl rfl (q_nil (q_ret ?_)))
    refine q_fin tabOk rfl (by repeat constructor) fun w hs => ?_
    exact ⟨rfl, hs.chg0⟩
  by_cases hw12 : 12 < W.length
  · rw [show lngB A = false from by simpa using hlg]
    subst ew
    (refine ql_pure tabOk rfl rfl (ql_gyes rfl (ql_pure tabOk rfl rfl (ql_gyes rfl (ql_pure tabOk rfl rfl (ql_gyes rfl (ql_gtrT tabOk rfl rfl rfl (by omega) (ql_pure tabOk rfl rfl (q_nil (q_cond_true rfl (q_seq (q_region ?_))))))))))))
    refine ql_callv (val := .bool true) tabOk rfl rfl rfl rfl (fun w hs => ?_) ?_; exact rawake_ca w
    (refine ql_pure tabOk rfl rfl (q_nil (q_ret ?_)))
    refine q_fin tabOk rfl (by repeat constructor) fun w hs => ?_
    exact ⟨rfl, hs.chg0⟩
  have hlg2 : A.length ≤ 12 ∧ ∀ r ∈ A, r.length ≤ 30 := by
    unfold lngB at hlg
    rw [Bool.or_eq_true, not_or, decide_eq_true_iff] at hlg
    refine ⟨by omega, fun r hr => ?_⟩
    have : ¬ 30 < r.length := fun c => hlg.2 (List.any_eq_true.2 ⟨r, hr, decide_eq_true c⟩)
    omega
  rw [show lngB A = false from by simpa using hlg]
  obtain ⟨hA12, hr30⟩ := hlg2
  clear hlg
  subst ew
  (refine ql_pure tabOk rfl rfl (ql_gyes rfl (ql_pure tabOk rfl rfl (ql_gyes rfl (ql_pure tabOk rfl rfl (ql_gyes rfl (ql_gtrF tabOk rfl rfl rfl (by omega) (ql_pure tabOk rfl rfl (q_nil (q_cond_false rfl (q_skip (q_seq ?_))))))))))); refine q_region (ql_pure tabOk rfl rfl ?_))
  generalize ew : (Value.slice wa W.length wc) = wv0 at hRW ⊢
  refine ql_call (β := Value × List (Value × List Int)) tabOk [] _ M0 rfl rfl rfl rfl (Sp.refl _) (fun _ h => h.elim) (fun w' hs => cloneAll_ca w' 0 w.heap.size _ A (RdII.keep h hs.chg0) (by omega) (fun l hl => by have := hr30 l hl; omega)) ?_
  rintro ⟨_, X⟩ vo ⟨rfl, hX⟩
  dsimp only [List.cons_append, List.nil_append]
  dsimp only at hX
  refine ql_fact (fun w hs => hs.slice2 (v := vo) (by repeat constructor)) ?_
  rintro ⟨oa, oc, rfl⟩
  have hRD : ∀ w', (un (rowsO 3 X)).p w' → w'.ownsRow 0 29 1 (.slice oa A.length oc) A.length (X.map (fun p : Value × List Int => p.1)) → RdII w' 0 w'.heap.size (.slice oa A.length oc) A := fun w' h1 h2 => by
    have := rowsO_rd h1 h2
    rw [hX] at this
    exact this
  (refine ql_pure tabOk rfl rfl ?_)
  refine ql_call (β := Value) tabOk [] _ M0 rfl rfl rfl rfl (Sp.refl _) (fun _ h => h.elim) (fun w' hs => cloneI_ca w' 0 w.heap.size _ W (RdE.keep hRW hs.chg0) (by omega)) ?_
  rintro _ vi rfl
  dsimp only [List.cons_append, List.nil_append]
  refine ql_fact (fun w hs => hs.slice2 (v := vi) (by repeat constructor)) ?_
  rintro ⟨ia, ic, rfl⟩
  (refine ql_pure tabOk rfl rfl (ql_pure tabOk rfl rfl (q_nil (q_seq (q_seq (q_region (ql_pure tabOk rfl rfl ?_)))))))
  refine ql_callv (val := .int .i64 (chkA A)) tabOk rfl rfl rfl rfl (fun w hs => ?_) ?_; exact checkA_ca w 0 w.heap.size _ A (hRD _ (hs.mem (c := un (rowsO 3 X)) (by repeat constructor)) (hs.mem (c := .ow (.slice oa A.length oc) 29 1 A.length (X.map (fun p : Value × List Int => p.1))) (by repeat constructor))) hl1
  (refine ql_pure tabOk rfl rfl ?_)
  refine ql_callv (val := .int .i64 (chkA A)) tabOk rfl rfl rfl rfl (fun w hs => ?_) ?_; exact rchkA_ca w _ _ _ A (RdII.keep h hs.chg0) hl1 hrl
  (refine ql_neqF tabOk rfl rfl rfl (by omega) (q_nil (q_cond_false rfl (q_skip (q_seq (q_region (ql_pure tabOk rfl rfl (ql_pure tabOk rfl rfl ?_))))))))
  refine ql_callv (val := .tuple #[.int .i64 (missI A W), .int .i64 (chkWt A W)]) tabOk rfl rfl rfl rfl (fun w hs => ?_) ?_; exact amissA w 0 w.heap.size 0 w.heap.size _ _ A W (hRD _ (hs.mem (c := un (rowsO 3 X)) (by repeat constructor)) (hs.mem (c := .ow (.slice oa A.length oc) 29 1 A.length (X.map (fun p : Value × List Int => p.1))) (by repeat constructor))) (own_rdI (hs.mem (c := .ow (.slice ia W.length ic) 3 1 W.length (ints W)) (by repeat constructor)) rfl) hl1
  (refine ql_pure tabOk rfl rfl (ql_ext tabOk rfl rfl rfl (ql_ext tabOk rfl rfl rfl (ql_pure tabOk rfl rfl (ql_pure tabOk rfl rfl (q_nil (q_seq (q_region (ql_pure tabOk rfl rfl (ql_pure tabOk rfl rfl ?_))))))))))
  refine ql_callv (val := .tuple #[.int .i64 (missI A W), .int .i64 (chkWt A W)]) tabOk rfl rfl rfl rfl (fun w hs => ?_) ?_; exact rmiss_ca w _ _ _ _ _ _ A W (RdII.keep h hs.chg0) (RdE.keep hRW hs.chg0) hl1 hrl
  (refine ql_pure tabOk rfl rfl (ql_ext tabOk rfl rfl rfl (ql_ext tabOk rfl rfl rfl (ql_pure tabOk rfl rfl (ql_pure tabOk rfl rfl (q_nil (q_seq (q_seq (q_region (ql_pure tabOk rfl rfl (ql_pure tabOk rfl rfl (ql_neqF tabOk rfl rfl rfl (by omega) ?_))))))))))); refine ql_pure tabOk rfl rfl (ql_gyes rfl (ql_pure tabOk rfl rfl (ql_gyes rfl (ql_pure tabOk rfl rfl (ql_gyes rfl (ql_neqF tabOk rfl rfl rfl (by omega) (ql_pure tabOk rfl rfl (q_nil (q_cond_false rfl (q_skip (q_seq ?_))))))))))); refine q_region (ql_pure tabOk rfl rfl (ql_pure tabOk rfl rfl ?_)))
  refine ql_call (β := Value) tabOk [] _ M0 rfl rfl rfl rfl (Sp.refl _) (fun _ h => h.elim) (fun w' hs => abestA w' 0 w'.heap.size _ A tot (hRD _ (hs.mem (c := un (rowsO 3 X)) (by repeat constructor)) (hs.mem (c := .ow (.slice oa A.length oc) 29 1 A.length (X.map (fun p : Value × List Int => p.1))) (by repeat constructor))) hl1 ht) ?_
  rintro vl _ rfl
  dsimp only [List.cons_append, List.nil_append]
  refine ql_fact (fun w hs => hs.slice2 (v := vl) (by repeat constructor)) ?_
  rintro ⟨la, lc, rfl⟩
  (refine ql_pure tabOk rfl rfl ?_; (iterate 3 refine ql_ext tabOk rfl rfl rfl ?_); (iterate 3 refine ql_pure tabOk rfl rfl ?_); refine q_nil (q_seq (q_region (ql_pure tabOk rfl rfl (ql_pure tabOk rfl rfl ?_)))))
  refine ql_callv (val := .tuple #[.int .i64 (bestI A tot), .int .i64 (bestE A tot)]) tabOk rfl rfl rfl rfl (fun w hs => ?_) ?_; exact rbestA w _ _ _ A tot (RdII.keep h hs.chg0) hl1 hrl ht
  by_cases hE : bestE A tot = 0
  · obtain ⟨hAo, t0⟩ := bstE_ok hE
    obtain ⟨n, rfl⟩ := Int.eq_ofNat_of_zero_le t0
    have hg := gr_all hAo n
    have n8 := hAo.n8
    have eL : bestL A n = wtsV A n := by unfold bestL; rw [if_pos hE]; rfl
    have eI : bestI A n = cvV A n := by unfold bestI; rw [if_pos hE]; rfl
    have hLl : (bestL A n).length = A.length := by rw [eL, hg.ok.len]
    have hsum : ∀ k, k ≤ A.length → 0 ≤ sumW (bestL A n) k ∧ sumW (bestL A n) k ≤ 21 * k := fun k => by
      induction k with
      | zero => intro _; exact ⟨Int.le_refl _, Int.le_refl _⟩
      | succ k ih =>
        intro hk
        have h1 := ih (by omega)
        have h2 := hg.ok.lt k (by omega)
        have h3 := (hAo.row k (by omega)).2
        rw [← eL] at h2
        unfold sumW at h1 ⊢
        simp only [smF]
        omega
    (refine ql_pure tabOk rfl rfl (ql_ext tabOk rfl rfl rfl (ql_ext tabOk rfl rfl rfl (ql_pure tabOk rfl rfl (ql_pure tabOk rfl rfl (q_nil (q_seq (q_seq (q_region (ql_pure tabOk rfl rfl (ql_pure tabOk rfl rfl (ql_neqF tabOk rfl rfl rfl (by omega) ?_))))))))))); refine ql_pure tabOk rfl rfl (ql_gyes rfl (ql_pure tabOk rfl rfl (ql_gyes rfl (ql_pure tabOk rfl rfl (ql_gyes rfl (ql_neqF tabOk rfl rfl rfl (by omega) (ql_pure tabOk rfl rfl (ql_pure tabOk rfl rfl (ql_gyes rfl (ql_pure tabOk rfl rfl (ql_gyes rfl ?_))))))))))); refine ql_neqF tabOk rfl rfl rfl (by omega) (ql_gyes rfl (ql_pure tabOk rfl rfl ?_)); (iterate 3 refine ql_gno rfl rfl rfl ?_); refine ql_gyes rfl (ql_pure tabOk rfl rfl (ql_pure tabOk rfl rfl (q_nil (q_cond_false rfl (q_skip (q_seq (q_seq (q_region (ql_pure tabOk rfl rfl (ql_eqlT tabOk rfl rfl rfl (by omega) (q_nil ?_))))))))))); refine q_cond_true rfl (q_seq (q_region (ql_pure tabOk rfl rfl (q_nil (q_seq (q_seq (q_region ?_))))))); (iterate 3 refine ql_pure tabOk rfl rfl ?_); refine q_nil (q_block ?_))
    refine q_loop (σ := Nat) (fun k => k ≤ A.length) (fun k => A.length - k) (fun k => [(0, v0), (1, wv0), (2, .int .i64 n), (3, .int .i64 mis), (4, .int .i64 pri), (11, (.slice oa A.length oc)), (12, (.slice ia W.length ic)), (15, .int .i64 (bestI A n)), (17, (.slice la (bestL A n).length lc)), (18, .int .i64 (sumW (bestL A n) k)), (96, (.slice la (bestL A n).length lc)), (97, .int .i64 A.length), (98, .int .i64 k)]) (fun _ => [.ow (.slice la (bestL A n).length lc) 3 1 (bestL A n).length (ints (nI (bestL A n))), un (rowsO 3 X), .ow (.slice oa A.length oc) 29 1 A.length (X.map (fun p : Value × List Int => p.1)), .ow (.slice ia W.length ic) 3 1 W.length (ints W)]) 0 (by omega) ⟨rfl, rfl, rfl, rfl, rfl, rfl, rfl, rfl, rfl, rfl, rfl, lookI rfl (by omega), rfl, trivial⟩ (by repeat constructor) ?_
    intro k hk K hK
    have hs1 := hsum k hk
    (refine q_seq (q_region (ql_pure tabOk rfl rfl (q_nil (q_seq ?_)))))
    refine q_if rfl (fun hc => ?_) (fun hc => ?_)
    · have hk2 : k < A.length := by omega
      clear hc
      have hkl : k < (nI (bestL A n)).length := by rw [nI_len, hLl]; exact hk2
      have hkk : (nI (bestL A n))[k] = (wtO (bestL A n) k : Int) := nI_get (by omega) hkl
      have e : sumW (bestL A n) (k + 1) = sumW (bestL A n) k + (wtO (bestL A n) k : Int) := rfl
      have hs2 := hsum (k + 1) (by omega)
      (refine q_skip (q_seq (q_block (q_seq (q_region ?_)))))
      refine ql_fact (fun w hs => hs.ownSome (v := (.slice la (bestL A n).length lc)) (by repeat constructor) (by omega)) ?_
      rintro ⟨lb, ld, e⟩
      cases e
      refine ql_index tabOk rfl rfl rfl rfl rfl (by omega) (by omega) ?_
      refine ql_load1 (v := .int .i64 (wtO (bestL A n) k)) tabOk rfl rfl rfl (fun w hs => by rw [← hkk]; exact RdI.at (own_rdI (hs.mem (c := .ow (.slice (some ⟨lb, 0, none⟩) (bestL A n).length lc) 3 1 (bestL A n).length (ints (nI (bestL A n)))) (by repeat constructor)) (by rw [nI_len])) k hkl) ?_
      (refine ql_pure tabOk rfl rfl (q_nil (q_region (ql_pure tabOk rfl rfl (ql_pure tabOk rfl rfl (ql_ar tabOk rfl rfl rfl rfl (by omega) (by omega) (ql_pure tabOk rfl rfl (q_nil (q_blk (q_region (ql_ar tabOk rfl rfl rfl rfl (by omega) (by omega) (ql_pure tabOk rfl rfl ?_))))))))))); refine q_nil ?_)
      exact hK (k + 1) _ _ (by omega) (by omega) ⟨rfl, rfl, rfl, rfl, rfl, rfl, rfl, rfl, rfl, lookI rfl (by omega), rfl, rfl, rfl, trivial⟩ (by repeat constructor)
    · obtain rfl : k = A.length := by omega
      clear hc hK
      have hle : sumW (bestL A n) A.length ≤ n := by rw [eL]; exact hg.sum.2
      have hw0 : chkWt A (nI (bestL A n)) = 0 := by rw [eL]; exact chkWt_of hAo hg.ok
      have hmi : missI A (nI (bestL A n)) = bestI A n := by unfold missI; rw [if_pos hw0, nI_back, eL, eI]; rfl
      (refine q_exit _ rfl (q_seq (q_region (ql_pure tabOk rfl rfl (ql_pure tabOk rfl rfl ?_)))))
      refine ql_callv (val := .tuple #[.int .i64 (bestI A n), .int .i64 0]) tabOk rfl rfl rfl rfl (fun w hs => ?_) ?_; exact by have := rmiss_ca w _ _ _ _ _ _ A (nI (bestL A n)) (RdII.keep h hs.chg0) (own_rdI (hs.mem (c := .ow (.slice la (bestL A n).length lc) 3 1 (bestL A n).length (ints (nI (bestL A n)))) (by repeat constructor)) (by rw [nI_len])) hl1 hrl; rw [hw0, hmi] at this; exact this
      (refine ql_pure tabOk rfl rfl (ql_ext tabOk rfl rfl rfl (ql_ext tabOk rfl rfl rfl (ql_pure tabOk rfl rfl (ql_pure tabOk rfl rfl (q_nil (q_seq (q_region (ql_pure tabOk rfl rfl (ql_neqF tabOk rfl rfl rfl (by omega) (ql_pure tabOk rfl rfl (ql_gyes rfl ?_))))))))))); refine ql_pure tabOk rfl rfl (ql_gyes rfl (ql_pure tabOk rfl rfl (ql_gyes rfl (ql_neqF tabOk rfl rfl rfl (by omega) (ql_pure tabOk rfl rfl (ql_pure tabOk rfl rfl (ql_gyes rfl (ql_pure tabOk rfl rfl (ql_gyes rfl (ql_pure tabOk rfl rfl (ql_gyes rfl ?_))))))))))); refine ql_gtrF tabOk rfl rfl rfl (by omega) (ql_pure tabOk rfl rfl (q_nil (q_cond_false rfl (q_skip (q_seq (q_region (ql_pure tabOk rfl rfl ?_))))))))
      refine ql_call (β := Value) tabOk [] _ M0 rfl rfl rfl rfl (Sp.refl _) (fun _ h => h.elim) (fun w' hs => acurA w' 0 w'.heap.size _ A (hRD _ (hs.mem (c := un (rowsO 3 X)) (by repeat constructor)) (hs.mem (c := .ow (.slice oa A.length oc) 29 1 A.length (X.map (fun p : Value × List Int => p.1))) (by repeat constructor))) hl1) ?_
      rintro vx _ rfl
      dsimp only [List.cons_append, List.nil_append]
      refine ql_fact (fun w hs => hs.slice2 (v := vx) (by repeat constructor)) ?_
      rintro ⟨xa, xc, rfl⟩
      (refine ql_pure tabOk rfl rfl (ql_ext tabOk rfl rfl rfl (ql_ext tabOk rfl rfl rfl (ql_pure tabOk rfl rfl (ql_pure tabOk rfl rfl (q_nil (q_seq (q_region (ql_pure tabOk rfl rfl ?_)))))))))
      refine ql_call (β := Value) tabOk [] _ M0 rfl rfl rfl rfl (Sp.refl _) (fun _ h => h.elim) (fun w' hs => rcurA w' 0 w.heap.size _ A (RdII.keep h hs.chg0) hl1 hrl) ?_
      rintro vy _ rfl
      dsimp only [List.cons_append, List.nil_append]
      refine ql_fact (fun w hs => hs.slice2 (v := vy) (by repeat constructor)) ?_
      rintro ⟨ya, yc, rfl⟩
      (refine ql_pure tabOk rfl rfl (ql_ext tabOk rfl rfl rfl (ql_ext tabOk rfl rfl rfl (ql_pure tabOk rfl rfl (ql_pure tabOk rfl rfl (q_nil (q_seq (q_seq (q_region (ql_pure tabOk rfl rfl (ql_pure tabOk rfl rfl (ql_neqF tabOk rfl rfl rfl (by omega) ?_))))))))))); refine ql_pure tabOk rfl rfl (ql_gyes rfl (ql_pure tabOk rfl rfl (ql_gyes rfl (ql_pure tabOk rfl rfl (ql_gyes rfl ?_))))))
      refine ql_callv (val := .bool true) tabOk rfl rfl rfl rfl (fun w hs => ?_) ?_; exact eqI_ca w 0 w.heap.size 0 w.heap.size _ _ (curI A) (own_rdI (hs.mem (c := .ow (.slice xa (curI A).length xc) 3 1 (curI A).length (ints (curI A))) (by repeat constructor)) rfl) (own_rdI (hs.mem (c := .ow (.slice ya (curI A).length yc) 3 1 (curI A).length (ints (curI A))) (by repeat constructor)) rfl) (curI_len A)
      (refine ql_gyes rfl (ql_pure tabOk rfl rfl (ql_pure tabOk rfl rfl (q_nil (q_cond_false rfl (q_skip (q_seq (q_region (ql_pure tabOk rfl rfl (ql_pure tabOk rfl rfl ?_))))))))))
      refine ql_call (β := Int × Int) tabOk [] _ M0 rfl rfl rfl rfl (Sp.refl _) (fun _ h => h.elim) (fun w' hs => aenoA w' 0 w'.heap.size _ A mis (hRD _ (hs.mem (c := un (rowsO 3 X)) (by repeat constructor)) (hs.mem (c := .ow (.slice oa A.length oc) 29 1 A.length (X.map (fun p : Value × List Int => p.1))) (by repeat constructor))) hl1) ?_
      rintro ⟨k1, e1⟩ _ ⟨rfl, hk1⟩
      dsimp only [List.cons_append, List.nil_append]
      (refine ql_pure tabOk rfl rfl (ql_ext tabOk rfl rfl rfl (ql_ext tabOk rfl rfl rfl (ql_pure tabOk rfl rfl (ql_pure tabOk rfl rfl (q_nil (q_seq (q_region (ql_pure tabOk rfl rfl (ql_pure tabOk rfl rfl ?_))))))))))
      refine ql_call (β := Int × Int) tabOk [] _ M0 rfl rfl rfl rfl (Sp.refl _) (fun _ h => h.elim) (fun w' hs => renoA w' 0 w.heap.size _ A mis (RdII.keep h hs.chg0) hl1 hrl) ?_
      rintro ⟨k2, e2⟩ _ ⟨rfl, hk2⟩
      dsimp only [List.cons_append, List.nil_append]
      obtain ⟨rfl, rfl⟩ : k1 = k2 ∧ e1 = e2 := by have := enoS_uniq hk1 hk2; injection this with h1 h2; exact ⟨h1, h2⟩
      clear hk1 hk2
      (refine ql_pure tabOk rfl rfl (ql_ext tabOk rfl rfl rfl (ql_ext tabOk rfl rfl rfl (ql_pure tabOk rfl rfl (ql_pure tabOk rfl rfl (q_nil (q_seq (q_seq (q_region (ql_pure tabOk rfl rfl (ql_pure tabOk rfl rfl (ql_neqF tabOk rfl rfl rfl (by omega) ?_))))))))))); refine ql_pure tabOk rfl rfl (ql_gyes rfl (ql_pure tabOk rfl rfl (ql_gyes rfl (ql_pure tabOk rfl rfl (ql_gyes rfl (ql_neqF tabOk rfl rfl rfl (by omega) (ql_pure tabOk rfl rfl (q_nil (q_cond_false rfl (q_skip (q_seq ?_))))))))))); refine q_region (ql_pure tabOk rfl rfl (ql_pure tabOk rfl rfl ?_)))
      refine ql_callv (val := .tuple #[.int .i64 (priI A n), .int .i64 (bestE A n)]) tabOk rfl rfl rfl rfl (fun w hs => ?_) ?_; exact apriA w 0 w.heap.size _ A n (hRD _ (hs.mem (c := un (rowsO 3 X)) (by repeat constructor)) (hs.mem (c := .ow (.slice oa A.length oc) 29 1 A.length (X.map (fun p : Value × List Int => p.1))) (by repeat constructor))) hl1 ht
      (refine ql_pure tabOk rfl rfl (ql_ext tabOk rfl rfl rfl (ql_ext tabOk rfl rfl rfl (ql_pure tabOk rfl rfl (ql_pure tabOk rfl rfl (q_nil (q_seq (q_region (ql_pure tabOk rfl rfl (ql_pure tabOk rfl rfl ?_))))))))))
      refine ql_callv (val := .tuple #[.int .i64 (priI A n), .int .i64 (bestE A n)]) tabOk rfl rfl rfl rfl (fun w hs => ?_) ?_; exact rpriA w _ _ _ A n (RdII.keep h hs.chg0) hl1 hrl ht
      (refine ql_pure tabOk rfl rfl (ql_ext tabOk rfl rfl rfl (ql_ext tabOk rfl rfl rfl (ql_pure tabOk rfl rfl (ql_pure tabOk rfl rfl (q_nil (q_seq (q_seq (q_region (ql_pure tabOk rfl rfl (ql_pure tabOk rfl rfl (ql_neqF tabOk rfl rfl rfl (by omega) ?_))))))))))); refine ql_pure tabOk rfl rfl (ql_gyes rfl (ql_pure tabOk rfl rfl (ql_gyes rfl (ql_pure tabOk rfl rfl (ql_gyes rfl (ql_neqF tabOk rfl rfl rfl (by omega) (ql_pure tabOk rfl rfl (q_nil (q_cond_false rfl (q_skip (q_seq ?_))))))))))); refine q_region ?_; (iterate 3 refine ql_pure tabOk rfl rfl ?_))
      refine ql_callv (val := .tuple #[.bool (holB A W pri), .int .i64 (holE A W pri)]) tabOk rfl rfl rfl rfl (fun w hs => ?_) ?_; exact aholA w 0 w.heap.size 0 w.heap.size _ _ A W pri (hRD _ (hs.mem (c := un (rowsO 3 X)) (by repeat constructor)) (hs.mem (c := .ow (.slice oa A.length oc) 29 1 A.length (X.map (fun p : Value × List Int => p.1))) (by repeat constructor))) (own_rdI (hs.mem (c := .ow (.slice ia W.length ic) 3 1 W.length (ints W)) (by repeat constructor)) rfl) hl1
      (refine ql_pure tabOk rfl rfl (ql_ext tabOk rfl rfl rfl (ql_ext tabOk rfl rfl rfl (ql_pure tabOk rfl rfl (ql_pure tabOk rfl rfl (q_nil (q_seq (q_region ?_))))))); (iterate 3 refine ql_pure tabOk rfl rfl ?_))
      refine ql_callv (val := .tuple #[.bool (holB A W pri), .int .i64 (holE A W pri)]) tabOk rfl rfl rfl rfl (fun w hs => ?_) ?_; exact rholA w _ _ _ _ _ _ A W pri (RdII.keep h hs.chg0) (RdE.keep hRW hs.chg0) hl1 hrl hp
      (refine ql_pure tabOk rfl rfl (ql_ext tabOk rfl rfl rfl (ql_ext tabOk rfl rfl rfl (ql_pure tabOk rfl rfl (ql_pure tabOk rfl rfl (q_nil (q_seq (q_region (ql_pure tabOk rfl rfl (ql_pure tabOk rfl rfl ?_))))))))))
      refine ql_eqb (p := (holB A W pri)) (q := (holB A W pri)) (by kernel_rfl) rfl rfl rfl ?_
      rw [show ((holB A W pri) == (holB A W pri)) = true from by simp]
      (refine ql_pure tabOk rfl rfl (ql_gyes rfl (ql_pure tabOk rfl rfl (ql_gyes rfl (ql_pure tabOk rfl rfl (ql_gyes rfl (ql_eqlT tabOk rfl rfl rfl (by omega) (ql_pure tabOk rfl rfl (ql_pure tabOk rfl rfl (ql_gyes rfl (ql_pure tabOk rfl rfl (ql_gyes rfl ?_))))))))))); refine ql_pure tabOk rfl rfl (ql_gyes rfl ?_))
      refine ql_callv (val := .bool true) tabOk rfl rfl rfl rfl (fun w hs => ?_) ?_; exact eqII_ca w 0 w.heap.size _ _ _ v0 A (hRD _ (hs.mem (c := un (rowsO 3 X)) (by repeat constructor)) (hs.mem (c := .ow (.slice oa A.length oc) 29 1 A.length (X.map (fun p : Value × List Int => p.1))) (by repeat constructor))) (RdII.keep h hs.chg0) (by omega) (fun r hr => by have := hr30 r hr; omega)
      (refine ql_pure tabOk rfl rfl (ql_pure tabOk rfl rfl (ql_gyes rfl (ql_pure tabOk rfl rfl (ql_gyes rfl (ql_pure tabOk rfl rfl (ql_gyes rfl ?_)))))))
      refine ql_callv (val := .bool true) tabOk rfl rfl rfl rfl (fun w hs => ?_) ?_; exact eqI_ca w 0 w.heap.size _ _ _ wv0 W (own_rdI (hs.mem (c := .ow (.slice ia W.length ic) 3 1 W.length (ints W)) (by repeat constructor)) rfl) (RdE.keep hRW hs.chg0) (by omega)
      (refine ql_pure tabOk rfl rfl (ql_pure tabOk rfl rfl (ql_gyes rfl ?_)))
      refine ql_callv (val := .bool true) tabOk rfl rfl rfl rfl (fun w hs => ?_) ?_; exact rawake_ca w
      (refine ql_pure tabOk rfl rfl (ql_pure tabOk rfl rfl (q_nil (q_ret ?_))))
      refine q_fin tabOk rfl (by repeat constructor) fun w hs => ?_
      exact ⟨rfl, hs.chg0⟩
  · have eL : bestL A tot = [] := by unfold bestL; rw [if_neg hE]
    rw [eL]
    (refine ql_pure tabOk rfl rfl (ql_ext tabOk rfl rfl rfl (ql_ext tabOk rfl rfl rfl (ql_pure tabOk rfl rfl (ql_pure tabOk rfl rfl (q_nil (q_seq (q_seq (q_region (ql_pure tabOk rfl rfl (ql_pure tabOk rfl rfl (ql_neqF tabOk rfl rfl rfl (by omega) ?_))))))))))); refine ql_pure tabOk rfl rfl (ql_gyes rfl (ql_pure tabOk rfl rfl (ql_gyes rfl (ql_pure tabOk rfl rfl (ql_gyes rfl (ql_neqF tabOk rfl rfl rfl (by omega) (ql_pure tabOk rfl rfl (ql_pure tabOk rfl rfl (ql_gyes rfl (ql_pure tabOk rfl rfl (ql_gyes rfl ?_))))))))))); refine ql_neqT tabOk rfl rfl rfl (by omega) (ql_gyes rfl (ql_pure tabOk rfl rfl (ql_gyes rfl (ql_pure tabOk rfl rfl (ql_gyes rfl (ql_pure tabOk rfl rfl (ql_gyes rfl (ql_pure tabOk rfl rfl (ql_gyes rfl (ql_pure tabOk rfl rfl (ql_pure tabOk rfl rfl ?_))))))))))); refine q_nil (q_cond_false rfl (q_skip (q_seq (q_seq (q_region (ql_pure tabOk rfl rfl (ql_eqlF tabOk rfl rfl rfl (by omega) (q_nil (q_cond_false rfl (q_skip (q_seq ?_))))))))))); refine q_region (ql_pure tabOk rfl rfl ?_))
    refine ql_call (β := Value) tabOk [] _ M0 rfl rfl rfl rfl (Sp.refl _) (fun _ h => h.elim) (fun w' hs => acurA w' 0 w'.heap.size _ A (hRD _ (hs.mem (c := un (rowsO 3 X)) (by repeat constructor)) (hs.mem (c := .ow (.slice oa A.length oc) 29 1 A.length (X.map (fun p : Value × List Int => p.1))) (by repeat constructor))) hl1) ?_
    rintro vx _ rfl
    dsimp only [List.cons_append, List.nil_append]
    refine ql_fact (fun w hs => hs.slice2 (v := vx) (by repeat constructor)) ?_
    rintro ⟨xa, xc, rfl⟩
    (refine ql_pure tabOk rfl rfl (ql_ext tabOk rfl rfl rfl (ql_ext tabOk rfl rfl rfl (ql_pure tabOk rfl rfl (ql_pure tabOk rfl rfl (q_nil (q_seq (q_region (ql_pure tabOk rfl rfl ?_)))))))))
    refine ql_call (β := Value) tabOk [] _ M0 rfl rfl rfl rfl (Sp.refl _) (fun _ h => h.elim) (fun w' hs => rcurA w' 0 w.heap.size _ A (RdII.keep h hs.chg0) hl1 hrl) ?_
    rintro vy _ rfl
    dsimp only [List.cons_append, List.nil_append]
    refine ql_fact (fun w hs => hs.slice2 (v := vy) (by repeat constructor)) ?_
    rintro ⟨ya, yc, rfl⟩
    (refine ql_pure tabOk rfl rfl (ql_ext tabOk rfl rfl rfl (ql_ext tabOk rfl rfl rfl (ql_pure tabOk rfl rfl (ql_pure tabOk rfl rfl (q_nil (q_seq (q_seq (q_region (ql_pure tabOk rfl rfl (ql_pure tabOk rfl rfl (ql_neqF tabOk rfl rfl rfl (by omega) ?_))))))))))); refine ql_pure tabOk rfl rfl (ql_gyes rfl (ql_pure tabOk rfl rfl (ql_gyes rfl (ql_pure tabOk rfl rfl (ql_gyes rfl ?_))))))
    refine ql_callv (val := .bool true) tabOk rfl rfl rfl rfl (fun w hs => ?_) ?_; exact eqI_ca w 0 w.heap.size 0 w.heap.size _ _ (curI A) (own_rdI (hs.mem (c := .ow (.slice xa (curI A).length xc) 3 1 (curI A).length (ints (curI A))) (by repeat constructor)) rfl) (own_rdI (hs.mem (c := .ow (.slice ya (curI A).length yc) 3 1 (curI A).length (ints (curI A))) (by repeat constructor)) rfl) (curI_len A)
    (refine ql_gyes rfl (ql_pure tabOk rfl rfl (ql_pure tabOk rfl rfl (q_nil (q_cond_false rfl (q_skip (q_seq (q_region (ql_pure tabOk rfl rfl (ql_pure tabOk rfl rfl ?_))))))))))
    refine ql_call (β := Int × Int) tabOk [] _ M0 rfl rfl rfl rfl (Sp.refl _) (fun _ h => h.elim) (fun w' hs => aenoA w' 0 w'.heap.size _ A mis (hRD _ (hs.mem (c := un (rowsO 3 X)) (by repeat constructor)) (hs.mem (c := .ow (.slice oa A.length oc) 29 1 A.length (X.map (fun p : Value × List Int => p.1))) (by repeat constructor))) hl1) ?_
    rintro ⟨k1, e1⟩ _ ⟨rfl, hk1⟩
    dsimp only [List.cons_append, List.nil_append]
    (refine ql_pure tabOk rfl rfl (ql_ext tabOk rfl rfl rfl (ql_ext tabOk rfl rfl rfl (ql_pure tabOk rfl rfl (ql_pure tabOk rfl rfl (q_nil (q_seq (q_region (ql_pure tabOk rfl rfl (ql_pure tabOk rfl rfl ?_))))))))))
    refine ql_call (β := Int × Int) tabOk [] _ M0 rfl rfl rfl rfl (Sp.refl _) (fun _ h => h.elim) (fun w' hs => renoA w' 0 w.heap.size _ A mis (RdII.keep h hs.chg0) hl1 hrl) ?_
    rintro ⟨k2, e2⟩ _ ⟨rfl, hk2⟩
    dsimp only [List.cons_append, List.nil_append]
    obtain ⟨rfl, rfl⟩ : k1 = k2 ∧ e1 = e2 := by have := enoS_uniq hk1 hk2; injection this with h1 h2; exact ⟨h1, h2⟩
    clear hk1 hk2
    (refine ql_pure tabOk rfl rfl (ql_ext tabOk rfl rfl rfl (ql_ext tabOk rfl rfl rfl (ql_pure tabOk rfl rfl (ql_pure tabOk rfl rfl (q_nil (q_seq (q_seq (q_region (ql_pure tabOk rfl rfl (ql_pure tabOk rfl rfl (ql_neqF tabOk rfl rfl rfl (by omega) ?_))))))))))); refine ql_pure tabOk rfl rfl (ql_gyes rfl (ql_pure tabOk rfl rfl (ql_gyes rfl (ql_pure tabOk rfl rfl (ql_gyes rfl (ql_neqF tabOk rfl rfl rfl (by omega) (ql_pure tabOk rfl rfl (q_nil (q_cond_false rfl (q_skip (q_seq ?_))))))))))); refine q_region (ql_pure tabOk rfl rfl (ql_pure tabOk rfl rfl ?_)))
    refine ql_callv (val := .tuple #[.int .i64 (priI A tot), .int .i64 (bestE A tot)]) tabOk rfl rfl rfl rfl (fun w hs => ?_) ?_; exact apriA w 0 w.heap.size _ A tot (hRD _ (hs.mem (c := un (rowsO 3 X)) (by repeat constructor)) (hs.mem (c := .ow (.slice oa A.length oc) 29 1 A.length (X.map (fun p : Value × List Int => p.1))) (by repeat constructor))) hl1 ht
    (refine ql_pure tabOk rfl rfl (ql_ext tabOk rfl rfl rfl (ql_ext tabOk rfl rfl rfl (ql_pure tabOk rfl rfl (ql_pure tabOk rfl rfl (q_nil (q_seq (q_region (ql_pure tabOk rfl rfl (ql_pure tabOk rfl rfl ?_))))))))))
    refine ql_callv (val := .tuple #[.int .i64 (priI A tot), .int .i64 (bestE A tot)]) tabOk rfl rfl rfl rfl (fun w hs => ?_) ?_; exact rpriA w _ _ _ A tot (RdII.keep h hs.chg0) hl1 hrl ht
    (refine ql_pure tabOk rfl rfl (ql_ext tabOk rfl rfl rfl (ql_ext tabOk rfl rfl rfl (ql_pure tabOk rfl rfl (ql_pure tabOk rfl rfl (q_nil (q_seq (q_seq (q_region (ql_pure tabOk rfl rfl (ql_pure tabOk rfl rfl (ql_neqF tabOk rfl rfl rfl (by omega) ?_))))))))))); refine ql_pure tabOk rfl rfl (ql_gyes rfl (ql_pure tabOk rfl rfl (ql_gyes rfl (ql_pure tabOk rfl rfl (ql_gyes rfl (ql_neqF tabOk rfl rfl rfl (by omega) (ql_pure tabOk rfl rfl (q_nil (q_cond_false rfl (q_skip (q_seq ?_))))))))))); refine q_region ?_; (iterate 3 refine ql_pure tabOk rfl rfl ?_))
    refine ql_callv (val := .tuple #[.bool (holB A W pri), .int .i64 (holE A W pri)]) tabOk rfl rfl rfl rfl (fun w hs => ?_) ?_; exact aholA w 0 w.heap.size 0 w.heap.size _ _ A W pri (hRD _ (hs.mem (c := un (rowsO 3 X)) (by repeat constructor)) (hs.mem (c := .ow (.slice oa A.length oc) 29 1 A.length (X.map (fun p : Value × List Int => p.1))) (by repeat constructor))) (own_rdI (hs.mem (c := .ow (.slice ia W.length ic) 3 1 W.length (ints W)) (by repeat constructor)) rfl) hl1
    (refine ql_pure tabOk rfl rfl (ql_ext tabOk rfl rfl rfl (ql_ext tabOk rfl rfl rfl (ql_pure tabOk rfl rfl (ql_pure tabOk rfl rfl (q_nil (q_seq (q_region ?_))))))); (iterate 3 refine ql_pure tabOk rfl rfl ?_))
    refine ql_callv (val := .tuple #[.bool (holB A W pri), .int .i64 (holE A W pri)]) tabOk rfl rfl rfl rfl (fun w hs => ?_) ?_; exact rholA w _ _ _ _ _ _ A W pri (RdII.keep h hs.chg0) (RdE.keep hRW hs.chg0) hl1 hrl hp
    (refine ql_pure tabOk rfl rfl (ql_ext tabOk rfl rfl rfl (ql_ext tabOk rfl rfl rfl (ql_pure tabOk rfl rfl (ql_pure tabOk rfl rfl (q_nil (q_seq (q_region (ql_pure tabOk rfl rfl (ql_pure tabOk rfl rfl ?_))))))))))
    refine ql_eqb (p := (holB A W pri)) (q := (holB A W pri)) (by kernel_rfl) rfl rfl rfl ?_
    rw [show ((holB A W pri) == (holB A W pri)) = true from by simp]
    (refine ql_pure tabOk rfl rfl (ql_gyes rfl (ql_pure tabOk rfl rfl (ql_gyes rfl (ql_pure tabOk rfl rfl (ql_gyes rfl (ql_eqlT tabOk rfl rfl rfl (by omega) (ql_pure tabOk rfl rfl (ql_pure tabOk rfl rfl (ql_gyes rfl (ql_pure tabOk rfl rfl (ql_gyes rfl ?_))))))))))); refine ql_pure tabOk rfl rfl (ql_gyes rfl ?_))
    refine ql_callv (val := .bool true) tabOk rfl rfl rfl rfl (fun w hs => ?_) ?_; exact eqII_ca w 0 w.heap.size _ _ _ v0 A (hRD _ (hs.mem (c := un (rowsO 3 X)) (by repeat constructor)) (hs.mem (c := .ow (.slice oa A.length oc) 29 1 A.length (X.map (fun p : Value × List Int => p.1))) (by repeat constructor))) (RdII.keep h hs.chg0) (by omega) (fun r hr => by have := hr30 r hr; omega)
    (refine ql_pure tabOk rfl rfl (ql_pure tabOk rfl rfl (ql_gyes rfl (ql_pure tabOk rfl rfl (ql_gyes rfl (ql_pure tabOk rfl rfl (ql_gyes rfl ?_)))))))
    refine ql_callv (val := .bool true) tabOk rfl rfl rfl rfl (fun w hs => ?_) ?_; exact eqI_ca w 0 w.heap.size _ _ _ wv0 W (own_rdI (hs.mem (c := .ow (.slice ia W.length ic) 3 1 W.length (ints W)) (by repeat constructor)) rfl) (RdE.keep hRW hs.chg0) (by omega)
    (refine ql_pure tabOk rfl rfl (ql_pure tabOk rfl rfl (ql_gyes rfl ?_)))
    refine ql_callv (val := .bool true) tabOk rfl rfl rfl rfl (fun w hs => ?_) ?_; exact rawake_ca w
    (refine ql_pure tabOk rfl rfl (ql_pure tabOk rfl rfl (q_nil (q_ret ?_))))
    refine q_fin tabOk rfl (by repeat constructor) fun w hs => ?_
    exact ⟨rfl, hs.chg0⟩
end Go.Proofs.YtopdmadgkjdgcaaGreat
