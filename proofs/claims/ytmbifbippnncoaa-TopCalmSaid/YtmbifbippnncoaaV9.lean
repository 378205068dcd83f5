/- Walks: the weights of the states, shot by shot. -/
import Derived.Test.YtmbifbippnncoaaV8
namespace Go.Proofs.Ytmbifbippnncoaa
open Go Go.Eng

/-- A row, so many times, added. -/
def addRow (out : List Int) (c : Int) (row : List Int) : List Int := (List.range out.length).map fun t => out.getD t 0 + c * row.getD t 0
theorem addRow_length (out : List Int) (c : Int) (row : List Int) : (addRow out c row).length = out.length := by simp [addRow]
theorem addRow_get (out : List Int) (c : Int) (row : List Int) (t : Nat) (ht : t < out.length) : (addRow out c row)[t]'(by rw [addRow_length]; exact ht) = out.getD t 0 + c * row.getD t 0 := by simp [addRow]
theorem addRow_nil (out : List Int) (c : Int) : addRow out c [] = out := by
  refine List.ext_getElem (addRow_length _ _ _) (fun i h1 h2 => ?_)
  rw [addRow_get out c [] i h2]
  simp [h2]
theorem addRow_step (out : List Int) (c : Int) (row : List Int) (j : Nat) (hj : j < row.length) (ho : j < out.length) :
    addRow out c (row.take (j + 1)) = (addRow out c (row.take j)).set j ((addRow out c (row.take j))[j]'(by rw [addRow_length]; exact ho) + c * row[j]) := by
  refine List.ext_getElem (by simp [addRow_length]) (fun i h1 h2 => ?_)
  have hi : i < out.length := by rw [addRow_length] at h1; exact h1
  rw [addRow_get out c _ i hi]
  by_cases h : j = i
  · subst h
    rw [List.getElem_set_self, addRow_get out c _ j ho]
    simp [List.getElem?_eq_getElem hj, List.getElem?_take]
  · rw [List.getElem_set_ne h, addRow_get out c _ i hi]
    simp only [List.getD_eq_getElem?_getD, List.getElem?_take]
    by_cases h3 : i < j
    · rw [if_pos h3, if_pos (by omega)]
    · rw [if_neg h3, if_neg (by omega)]
theorem addRow_bd {out row : List Int} {c A B : Int} (ho : ∀ x ∈ out, 0 ≤ x ∧ x ≤ A) (hc : 0 ≤ c ∧ c ≤ B) (hr : ∀ x ∈ row, 0 ≤ x ∧ x ≤ 12) : ∀ x ∈ addRow out c row, 0 ≤ x ∧ x ≤ A + B * 12 := by
  intro x hx
  obtain ⟨t, ht, rfl⟩ := List.getElem_of_mem hx
  have ht' : t < out.length := by rw [addRow_length] at ht; exact ht
  rw [addRow_get out c row t ht']
  have h1 := ho out[t] (List.getElem_mem ht')
  have h2 : 0 ≤ row.getD t 0 ∧ row.getD t 0 ≤ 12 := by
    by_cases h : t < row.length
    · simp only [List.getD_eq_getElem?_getD, List.getElem?_eq_getElem h, Option.getD_some]
      exact hr _ (List.getElem_mem h)
    · simp only [List.getD_eq_getElem?_getD, List.getElem?_eq_none (Nat.le_of_not_lt h), Option.getD_none]
      omega
  have h3 := mul_bd0 hc h2
  simp only [List.getD_eq_getElem?_getD, List.getElem?_eq_getElem ht', Option.getD_some] at h3 ⊢
  omega

/-- The weights behind the first k states. -/
def afterP (r : Rg) (ws : List Int) : Nat → List Int
  | 0 => List.replicate 5 0
  | k + 1 => addRow (afterP r ws k) (ws.getD k 0) (r.next.getD k [])
/-- The weights of the states behind others. -/
def afterS (r : Rg) (ws : List Int) : List Int := afterP r ws r.next.length
theorem afterP_length (r : Rg) (ws : List Int) : ∀ k, (afterP r ws k).length = 5
  | 0 => by simp [afterP]
  | k + 1 => by rw [afterP, addRow_length, afterP_length r ws k]
theorem row_bd {r : Rg} (hr : r.Right) (k : Nat) : ∀ x ∈ r.next.getD k [], 0 ≤ x ∧ x ≤ 12 := by
  intro x hx
  by_cases h : k < r.next.length
  · simp only [List.getD_eq_getElem?_getD, List.getElem?_eq_getElem h, Option.getD_some] at hx
    have := hr.chances _ (List.getElem_mem h) x hx
    have := hr.total
    omega
  · simp [List.getD_eq_getElem?_getD, List.getElem?_eq_none (Nat.le_of_not_lt h)] at hx
theorem getD_bd {l : List Int} {B : Int} (hB : 0 ≤ B) (h : ∀ x ∈ l, 0 ≤ x ∧ x ≤ B) (k : Nat) : 0 ≤ l.getD k 0 ∧ l.getD k 0 ≤ B := by
  by_cases hk : k < l.length
  · simp only [List.getD_eq_getElem?_getD, List.getElem?_eq_getElem hk, Option.getD_some]
    exact h _ (List.getElem_mem hk)
  · simp only [List.getD_eq_getElem?_getD, List.getElem?_eq_none (Nat.le_of_not_lt hk), Option.getD_none]
    omega
theorem afterP_bd {r : Rg} (hr : r.Right) {ws : List Int} {B : Int} (hB : 0 ≤ B) (hw : ∀ x ∈ ws, 0 ≤ x ∧ x ≤ B) : ∀ k, ∀ x ∈ afterP r ws k, 0 ≤ x ∧ x ≤ B * 12 * k
  | 0 => by
    intro x hx
    simp [afterP] at hx
    obtain ⟨_, rfl⟩ := hx
    simp
  | k + 1 => by
    intro x hx
    rw [afterP] at hx
    have h1 := addRow_bd (afterP_bd hr hB hw k) (getD_bd hB hw k) (row_bd hr k) x hx
    have e : B * 12 * ((k + 1 : Nat) : Int) = B * 12 * (k : Int) + B * 12 := by
      rw [Int.natCast_add, Int.mul_add]
      simp
    omega

theorem w_arr : arrB Try.prog 70 5 3 1 = true := by kernel_rfl

set_option maxHeartbeats 1000000 in
theorem after_ca (w : World) (b : Nat) (r : Rg) (ws : List Int) (hd : DkAt w b r) (hr : r.Right) (hlen : ws.length = 5) (hw : ∀ x ∈ ws, 0 ≤ x ∧ x ≤ 1000000000) :
    Ca Try.prog 48 [.pointer (some ⟨b, 0, none⟩), .agg (ints ws).toArray] w fun v w' => v = .agg (ints (afterS r ws)).toArray ∧ Chg [] w w' := by
  obtain ⟨cs, bt, hblk, lo, hi, ag, cg, ad, cd, af, cf, an, cn, rfl, hg, hdr, hf, hn⟩ := hd
  have hnl := hr.next
  have hd2 := hr.d2
  obtain ⟨_, _, hsl, hsn⟩ := RdII.outI hn
  cases hsl
  refine q_of (Sat.nil w M0) Try.func48 rfl (by simp [Try.ntmps48]) ?_
  (refine q_seq ?_; refine q_region ?_)
  refine ql_box rfl rfl (fun b3 => ?_)
  refine ql_alloc zero70 rfl (fun b4 => ?_)
  (refine q_nil ?_; refine q_seq ?_; refine q_region ?_)
  refine ql_alloc zero70 rfl (fun b5 => ?_)
  (refine q_nil ?_; (iterate 2 refine q_seq ?_); refine q_region ?_; (iterate 4 refine ql_pure tabOk rfl rfl ?_); refine ql_loadP tabOk rfl rfl rfl (by assumption) (by rfl) ?_; (iterate 2 refine ql_pure tabOk rfl rfl ?_); refine q_nil ?_; refine q_block ?_)
  refine q_loop (σ := Nat) (fun k => k ≤ r.next.length) (fun k => r.next.length - k) (fun k => [(0, .pointer (some ⟨b, 0, none⟩)), (3, .pointer (some ⟨b3, 0, none⟩)), (4, .pointer (some ⟨b4, 0, none⟩)), (5, .pointer (some ⟨b5, 0, none⟩)), (14, .slice an r.next.length cn), (15, .int .i64 r.next.length), (16, .int .i64 k)])
    (fun k => [.pt b5 (ints (afterP r ws k)) 70, .pt b4 (ints (List.replicate 5 0)) 70, .pt b3 (ints ws) 70]) 0 (by omega) ⟨rfl, rfl, rfl, rfl, rfl, rfl, rfl, trivial⟩ (by repeat (first | exact Sp.nil | exact Sp.refl _ | refine Sp.cons (by repeat constructor) ?_)) ?_
  intro k hk K hK
  (refine q_seq ?_; refine q_region ?_; refine ql_pure tabOk rfl rfl ?_; refine q_nil ?_; refine q_seq ?_)
  refine q_if rfl (fun hc => ?_) (fun hc => ?_)
  · have hk : k < r.next.length := by omega
    obtain ⟨bs, off, rfl⟩ := hsn (by omega)
    obtain ⟨ar, cr, hrow, hcell⟩ := hn.row k hk
    generalize hrw : r.next[k] = row at hrow hcell
    have hrl := hr.rows r.next[k] (List.getElem_mem hk)
    have hrb : ∀ x ∈ r.next[k], 0 ≤ x ∧ x ≤ 12 := fun x hx => by have := hr.chances _ (List.getElem_mem hk) x hx; have := hr.total; omega
    rw [hrw] at hrl hrb
    obtain ⟨_, _, hsl2, hsr⟩ := RdI.outI hrow
    cases hsl2
    have hwk := hw (ws[k]'(by omega)) (List.getElem_mem _)
    have ha : afterP r ws (k + 1) = addRow (afterP r ws k) (ws[k]'(by omega)) row := by
      rw [afterP]
      congr 1
      · simp [show k < ws.length by omega]
      · simp [hk, hrw]
    have hkw : k < ws.length := by omega
    generalize hwk' : ws[k]'hkw = wk at hwk ha
    (refine q_skip ?_; refine q_seq ?_; refine q_block ?_; refine q_seq ?_; refine q_region ?_; refine ql_pure tabOk rfl rfl ?_)
    refine ql_index tabOk rfl rfl rfl rfl rfl (by omega) (by omega) ?_
    refine ql_load1 (v := .slice ar row.length cr) tabOk rfl rfl rfl (fun w' hs => hcell w' hs.chg0) ?_
    ((iterate 2 refine ql_pure tabOk rfl rfl ?_); refine q_nil ?_; refine q_seq ?_; refine q_region ?_; (iterate 3 refine ql_pure tabOk rfl rfl ?_); refine q_nil ?_; refine q_block ?_)
    refine q_loop (σ := Nat) (fun j => j ≤ row.length) (fun j => row.length - j) (fun j => [(0, .pointer (some ⟨b, 0, none⟩)), (3, .pointer (some ⟨b3, 0, none⟩)), (4, .pointer (some ⟨b4, 0, none⟩)), (5, .pointer (some ⟨b5, 0, none⟩)), (6, .int .i64 k), (14, .slice (some ⟨bs, off, none⟩) r.next.length cn), (15, .int .i64 r.next.length), (16, .int .i64 k), (21, .slice ar row.length cr), (22, .int .i64 row.length), (23, .int .i64 j)])
      (fun j => [.pt b5 (ints (addRow (afterP r ws k) wk (row.take j))) 70, .pt b4 (ints (List.replicate 5 0)) 70, .pt b3 (ints ws) 70]) 0 (by omega) ⟨rfl, rfl, rfl, rfl, rfl, rfl, rfl, rfl, rfl, rfl, rfl, trivial⟩ (by rw [List.take_zero, addRow_nil]; repeat (first | exact Sp.nil | exact Sp.refl _ | refine Sp.cons (by repeat constructor) ?_)) ?_
    intro j hj K2 hK2
    (refine q_seq ?_; refine q_region ?_; refine ql_pure tabOk rfl rfl ?_; refine q_nil ?_; refine q_seq ?_)
    refine q_if rfl (fun hc => ?_) (fun hc => ?_)
    · have hj : j < row.length := by omega
      obtain ⟨br, offr, rfl⟩ := hsr (by omega)
      have hjo : j < (afterP r ws k).length := by rw [afterP_length]; omega
      have hjo2 : j < (addRow (afterP r ws k) wk (row.take j)).length := by rw [addRow_length]; exact hjo
      have hnj := hrb row[j] (List.getElem_mem hj)
      have hmul := mul_bd0 hwk hnj
      have hout := addRow_bd (afterP_bd hr (by omega) hw k) hwk (fun x hx => hrb x (List.mem_of_mem_take hx)) ((addRow (afterP r ws k) wk (row.take j))[j]'hjo2) (List.getElem_mem hjo2)
      have hk5 : (1000000000 : Int) * 12 * k ≤ 60000000000 := by omega
      have hst := addRow_step (afterP r ws k) wk row j hj hjo
      generalize hLj : (addRow (afterP r ws k) wk (row.take j))[j]'hjo2 = lj at hout hst
      (refine q_skip ?_; refine q_seq ?_; refine q_block ?_; refine q_seq ?_; refine q_region ?_; refine ql_pure tabOk rfl rfl ?_)
      (refine ql_index tabOk rfl rfl rfl rfl rfl (by omega) (by omega) ?_; refine ql_load1 tabOk rfl rfl rfl (fun w hs => RdI.at (RdE.keep hrow hs.chg0) j hj) ?_)
      ((iterate 2 refine ql_pure tabOk rfl rfl ?_); refine q_nil ?_)
      refine q_drawS 10 _ [.pt b5 _ _] (Sp.cons (by repeat constructor) (Sp.refl _)) (by kernel_rfl) (by kernel_rfl) (by kernel_rfl) fun K1 hK1 => ?_
      (refine qf_pure tabOk rfl rfl rfl ?_)
      refine qf_indexA w_arr rfl rfl rfl (by omega) (by omega) ?_
      refine qf_loadI tabOk (j) rfl rfl rfl (by repeat first | exact .head _ | refine .tail _ ?_) (by first | rfl | omega | simp) hjo2 ?_
      rw [hLj]
      (refine qf_pure tabOk rfl rfl rfl ?_)
      refine qf_indexA w_arr rfl rfl rfl (by omega) (by omega) ?_
      refine qf_loadI tabOk (k) rfl rfl rfl (by repeat first | exact .head _ | refine .tail _ ?_) (by first | rfl | omega | simp) (by omega) ?_
      rw [hwk']
      (refine qf_pure tabOk rfl rfl rfl ?_; (iterate 2 refine qf_ar tabOk rfl rfl rfl rfl (by omega) (by omega) ?_))
      refine qf_indexA w_arr rfl rfl rfl (by omega) (by omega) ?_
      (refine qf_nil ?_)
      refine hK1 _ _ [.pt b5 _ _] (Sp.cons (by repeat constructor) ((by repeat (first | exact Sp.nil | exact Sp.refl _ | refine Sp.cons (by repeat constructor) ?_)))) ?_
      refine qf_storeI tabOk (j) rfl rfl rfl (by repeat constructor) (by first | rfl | omega | simp) hjo2 ?_
      (refine qf_nil ?_; refine q_blk ?_; refine q_region ?_; refine ql_ar tabOk rfl rfl rfl rfl (by omega) (by omega) ?_; refine ql_pure tabOk rfl rfl ?_; refine q_nil ?_)
      exact hK2 (j + 1) _ _ (by omega) (by omega) ⟨rfl, rfl, rfl, rfl, rfl, rfl, rfl, rfl, rfl, rfl, rfl, trivial⟩ (by rw [hst]; repeat (first | exact Sp.nil | exact Sp.refl _ | refine Sp.cons (by repeat constructor) ?_))
    · obtain rfl : j = row.length := by omega
      (refine q_exit _ rfl ?_; refine q_blk ?_; refine q_region ?_; refine ql_ar tabOk rfl rfl rfl rfl (by omega) (by omega) ?_; refine ql_pure tabOk rfl rfl ?_; refine q_nil ?_)
      exact hK (k + 1) _ _ (by omega) (by omega) ⟨rfl, rfl, rfl, rfl, rfl, rfl, rfl, trivial⟩ (by rw [ha, List.take_length]; repeat (first | exact Sp.nil | exact Sp.refl _ | refine Sp.cons (by repeat constructor) ?_))
  · obtain rfl : k = r.next.length := by omega
    have hal := afterP_length r ws r.next.length
    (refine q_exit _ rfl ?_; refine q_seq ?_; refine q_region ?_)
    refine ql_loadAB (us := ints (afterP r ws r.next.length)) tabOk rfl rfl rfl (by repeat first | exact .head _ | refine .tail _ ?_) (by rw [List.drop_zero]; exact List.take_of_length_le (by simp [hal])) (by simp [hal]) ?_
    refine ql_setA tabOk rfl rfl rfl (by simp [hal]) (by simp [oneV]) (by repeat constructor) (by simp) ?_
    (refine q_nil ?_; refine q_ret ?_)
    refine q_fin (vs := [.agg (ints (afterP r ws r.next.length)).toArray]) tabOk rfl (RVs.cellA rfl rfl (by repeat first | exact .head _ | refine .tail _ ?_) (by simp [hal]) .nil) fun w hs => ?_
    exact ⟨rfl, hs.chg0⟩

end Go.Proofs.Ytmbifbippnncoaa
