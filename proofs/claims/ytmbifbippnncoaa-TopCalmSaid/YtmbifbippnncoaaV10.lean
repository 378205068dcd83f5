/- Walks: the weights of the states at each shot. -/
import Derived.Test.YtmbifbippnncoaaV9
namespace Go.Proofs.Ytmbifbippnncoaa
open Go Go.Eng

/-- The weights of the states at shot k. -/
def wts (r : Rg) : Nat → List Int
  | 0 => r.first ++ (List.replicate 5 (0 : Int)).drop r.first.length
  | k + 1 => afterS r (wts r k)
def shotL (r : Rg) : List (List Int × Int) := (List.range 5).map fun k => (wts r k, r.total ^ (k + 1))
theorem wts_length (r : Rg) (hr : r.Right) : ∀ k, (wts r k).length = 5
  | 0 => by
    have h1 := hr.first
    have h2 := hr.d2
    simp [wts]
    omega
  | k + 1 => by rw [wts, afterS, afterP_length]
theorem wts_bd0 (r : Rg) (hr : r.Right) : ∀ k, ∀ x ∈ wts r k, 0 ≤ x ∧ x ≤ 12 * 60 ^ k
  | 0 => by
    intro x hx
    simp only [wts, List.mem_append] at hx
    rcases hx with hx | hx
    · have := hr.chance x hx
      have := hr.total
      simp
      omega
    · have h1 := List.eq_of_mem_replicate (List.mem_of_mem_drop hx)
      subst h1
      simp
  | k + 1 => by
    intro x hx
    have hp : (0 : Int) ≤ 12 * 60 ^ k := Int.mul_nonneg (by omega) (Int.pow_nonneg (by omega))
    have h1 := afterP_bd hr hp (wts_bd0 r hr k) r.next.length x hx
    have h2 := hr.next
    have h3 := hr.d2
    have h4 : 12 * (60 : Int) ^ (k + 1) = (12 * 60 ^ k) * 12 * 5 := by rw [Int.pow_succ]; omega
    have h5 : (12 * (60 : Int) ^ k) * 12 * (r.next.length : Int) ≤ (12 * 60 ^ k) * 12 * 5 := Int.mul_le_mul_of_nonneg_left (by omega) (by omega)
    omega
theorem wts_bd (r : Rg) (hr : r.Right) (k : Nat) (hk : k ≤ 4) : ∀ x ∈ wts r k, 0 ≤ x ∧ x ≤ 1000000000 := by
  intro x hx
  have h := wts_bd0 r hr k x hx
  have : k = 0 ∨ k = 1 ∨ k = 2 ∨ k = 3 ∨ k = 4 := by omega
  rcases this with rfl | rfl | rfl | rfl | rfl <;> simp at h <;> omega
theorem tot_bd (r : Rg) (hr : r.Right) : ∀ k, 1 ≤ r.total ^ k ∧ r.total ^ k ≤ 12 ^ k
  | 0 => by simp
  | k + 1 => by
    have h1 := tot_bd r hr k
    have h2 := hr.total
    have h3 := mul_bd0 (show 0 ≤ r.total ^ k ∧ r.total ^ k ≤ 12 ^ k by omega) (show 0 ≤ r.total ∧ r.total ≤ 12 by omega)
    have h4 : r.total ^ k * 1 ≤ r.total ^ k * r.total := Int.mul_le_mul_of_nonneg_left h2.1 (by omega)
    rw [Int.pow_succ, Int.pow_succ]
    omega
theorem tot_bd6 (r : Rg) (hr : r.Right) (k : Nat) (hk : k ≤ 9) : 1 ≤ r.total ^ k ∧ r.total ^ k ≤ 5159780352 := by
  have h1 := tot_bd r hr k
  have : k = 0 ∨ k = 1 ∨ k = 2 ∨ k = 3 ∨ k = 4 ∨ k = 5 ∨ k = 6 ∨ k = 7 ∨ k = 8 ∨ k = 9 := by omega
  rcases this with rfl | rfl | rfl | rfl | rfl | rfl | rfl | rfl | rfl | rfl <;> simp at h1 ⊢ <;> omega

theorem shotL_split (r : Rg) (k : Nat) (hk : k < 5) : shotL r = (shotL r).take k ++ (wts r k, r.total ^ (k + 1)) :: (shotL r).drop (k + 1) := by
  have h : k < (shotL r).length := by simp [shotL]; omega
  have e : (shotL r)[k] = (wts r k, r.total ^ (k + 1)) := by simp [shotL]
  rw [← e, ← List.drop_eq_getElem_cons h, List.take_append_drop]
theorem shotL_take (r : Rg) (k : Nat) (hk : k < 5) : (shotL r).take (k + 1) = (shotL r).take k ++ [(wts r k, r.total ^ (k + 1))] := by
  have h : k < (shotL r).length := by simp [shotL]; omega
  rw [List.take_succ_eq_append_getElem h]
  simp [shotL]

theorem u22 : Try.prog.underlying 27 = some (.slice 3) := by kernel_rfl
theorem sz3 : (Try.prog.info? 3).map (·.size) = some 1 := by kernel_rfl

def encS (x : List Int × Int) : List Value := [.agg (ints x.1).toArray, .int .i64 x.2]

set_option maxHeartbeats 1000000 in
theorem shots_it (w0 w : World) (D : Nat → Prop) (b bd : Nat) (r : Rg) (hdk : DkAt w0 b r) (hr : r.Right) (h0 : ∀ w', ChgP D w w' → Chg [] w0 w')
    {t1 : TypeId} (hbd : Blk w bd [.pointer (some ⟨b, 0, none⟩)] t1) (hDd : ¬ D bd) :
    ItOk Try.prog 47 [.pointer (some ⟨bd, 0, none⟩)] encS (shotL r) w D := by
  intro fv σ L I E s0 hI0 hLD hsat hcb
  have hdk0 := hdk
  obtain ⟨cs, bt, hblk, lo, hi, ag, cg, ad, cd, af, cf, an, cn, rfl, hg, hdr, hf, hn⟩ := hdk
  have hm : ∀ w', ChgP (DL (L s0)) w w' → ChgP D w w' := fun w' hc => ⟨hc.os, hc.tape, hc.output, hc.size, fun k hk hk2 => hc.block k hk (fun h => hk2 (hLD k h))⟩
  have hP1 : ∀ w', ChgP (DL (L s0)) w w' → Blk w' bd [.pointer (some ⟨b, 0, none⟩)] t1 := fun w' hc => (hc.block bd hbd.lt (fun h => hDd (hLD bd h))).trans hbd
  have hP3 : ∀ w', ChgP (DL (L s0)) w w' → Blk w' b _ bt := fun w' hc => hblk.keep (h0 w' (hm w' hc))
  clear hblk
  have hfl := hr.first
  have hd1 := hr.d1
  have hd2 := hr.d2
  have htot := hr.total
  have hpow1 : some (Value.int .i64 r.total) = some (.int .i64 (r.total ^ (0 + 1))) := by rw [Int.pow_succ, Int.pow_zero, Int.one_mul]
  refine q_of (H := [un (L s0)]) (Sat.un1.2 hsat) Try.func47 rfl (by simp [Try.ntmps47]) ?_
  (refine q_seq ?_; refine q_region ?_)
  refine ql_alloc zero70 rfl (fun b3 => ?_)
  (refine q_nil ?_; refine q_seq ?_)
  refine q_draw _ [.pt b3 _ _] (Sp.cons (by repeat constructor) (Sp.refl _)) (by kernel_rfl) (by kernel_rfl) ?_
  refine qf_slA w_arr rfl rfl ?_
  (refine qf_loadG tabOk rfl rfl rfl (by assumption) (by rfl) ?_; (iterate 3 refine qf_pure tabOk rfl rfl rfl ?_); refine qf_loadG tabOk rfl rfl rfl (by assumption) (by rfl) ?_)
  refine qf_copyI (l := r.first) (L := List.replicate 5 0) u22 sz3 rfl rfl rfl (by repeat constructor) (by simp) (by omega) (by omega) rfl (fun w' hs => RdE.keep hf (h0 w' (hm w' hs.chg))) ?_
  (refine qf_nil ?_; refine q_seq ?_; refine q_region ?_; refine ql_loadG tabOk rfl rfl rfl (by assumption) (by rfl) ?_; (iterate 3 refine ql_pure tabOk rfl rfl ?_); refine ql_loadG tabOk rfl rfl rfl (by assumption) (by rfl) ?_; refine ql_pure tabOk rfl rfl ?_; refine q_nil ?_; refine q_seq ?_; refine q_region ?_; refine ql_pure tabOk rfl rfl ?_; refine q_nil ?_; refine q_block ?_)
  refine q_loop (σ := Nat × σ) (fun s => s.1 ≤ 5 ∧ I ((shotL r).take s.1) s.2) (fun s => 5 - s.1) (fun s => [(0, fv), (1, .pointer (some ⟨bd, 0, none⟩)), (3, .pointer (some ⟨b3, 0, none⟩)), (4, .int .i64 (r.total ^ (s.1 + 1))), (17, .int .i64 s.1)])
    (fun s => [.pt b3 (ints (wts r s.1)) 70, un (L s.2)]) (0, s0) ⟨by omega, hI0⟩ ⟨rfl, rfl, rfl, hpow1, rfl, trivial⟩ (by repeat (first | exact Sp.nil | exact Sp.refl _ | refine Sp.cons (by repeat constructor) ?_)) ?_
  rintro ⟨k, s⟩ ⟨hk, hI⟩ K hK
  simp only at hk hI
  have hwl := wts_length r hr k
  (refine q_seq ?_; refine q_region ?_; refine ql_pure tabOk rfl rfl ?_; refine q_nil ?_; refine q_seq ?_)
  refine q_if rfl (fun hc => ?_) (fun hc => ?_)
  · have hk5 : k < 5 := by simp only at hc; omega
    clear hc
    have htk := tot_bd6 r hr (k + 1) (by omega)
    have htk2 := tot_bd6 r hr (k + 2) (by omega)
    rw [Int.pow_succ] at htk2
    have hwb := wts_bd r hr k (by omega)
    have hp2 : some (Value.int .i64 (IntKind.i64.wrap (r.total ^ (k + 1) * r.total))) = some (.int .i64 (r.total ^ (k + 1 + 1))) := by rw [Int.pow_succ r.total (k + 1), w64 (by omega) (by omega)]
    (refine q_skip ?_; refine q_seq ?_; refine q_block ?_; (iterate 2 refine q_seq ?_); refine q_region ?_; refine ql_pure tabOk rfl rfl ?_)
    refine ql_loadAB (us := ints (wts r k)) tabOk rfl rfl rfl (by repeat first | exact .head _ | refine .tail _ ?_) (by rw [List.drop_zero]; exact List.take_of_length_le (by simp [hwl])) (by simp [hwl]) ?_
    (refine ql_pure tabOk rfl rfl ?_)
    refine ql_callF [un (L s)] [.pt b3 (ints (wts r k)) 70] (DL (L s)) rfl rfl rfl (by repeat (first | exact Sp.nil | exact Sp.refl _ | refine Sp.cons (by repeat constructor) ?_)) (fun b hb => ⟨_, .head _, hb⟩) (yieldF hcb (shotL_split r k hk5) hI) ?_
    rintro s' v (⟨rfl, hI'⟩ | ⟨rfl, hE⟩)
    · (refine ql_pure tabOk rfl rfl ?_; refine q_nil ?_; refine q_cond_false rfl ?_; refine q_skip ?_)
      refine q_drawS 3 _ [.pt b3 _ _] (Sp.cons (by repeat constructor) (Sp.refl _)) (by kernel_rfl) (by kernel_rfl) (by kernel_rfl) fun K1 hK1 => ?_
      (refine qf_loadG tabOk rfl rfl rfl (by assumption) (by rfl) ?_)
      refine qf_loadAB (us := ints (wts r k)) tabOk rfl rfl rfl (by repeat first | exact .head _ | refine .tail _ ?_) (by rw [List.drop_zero]; exact List.take_of_length_le (by simp [hwl])) (by simp [hwl]) ?_
      refine qf_callv (val := .agg (ints (afterS r (wts r k))).toArray) tabOk rfl rfl rfl rfl (fun w hs => ?_) ?_; exact after_ca w b r (wts r k) (hdk0.keep (h0 w (hm w hs.chg))) hr hwl hwb
      (refine qf_nil ?_)
      refine hK1 _ _ [.pt b3 _ _] (Sp.cons (by repeat constructor) ((by repeat (first | exact Sp.nil | exact Sp.refl _ | refine Sp.cons (by repeat constructor) ?_)))) ?_
      (refine qf_pure tabOk rfl rfl rfl ?_; refine qf_loadG tabOk rfl rfl rfl (by assumption) (by rfl) ?_; (iterate 3 refine qf_pure tabOk rfl rfl rfl ?_); refine qf_loadG tabOk rfl rfl rfl (by assumption) (by rfl) ?_; refine qf_pure tabOk rfl rfl rfl ?_)
      refine qf_setA (us := ints (afterS r (wts r k))) tabOk rfl rfl rfl (by simp [afterS, afterP_length]) (by simp [oneV]) (by repeat constructor) (by simp [hwl]) ?_
      (refine qf_pure tabOk rfl rfl rfl ?_; refine qf_nil ?_; refine q_blk ?_; refine q_region ?_; refine ql_ar tabOk rfl rfl rfl rfl (by omega) (by omega) ?_; refine ql_pure tabOk rfl rfl ?_; refine q_nil ?_)
      exact hK (k + 1, s') _ _ ⟨by simp only; omega, by simp only; rw [shotL_take r k hk5]; exact hI'⟩ (by simp only; omega) ⟨rfl, rfl, rfl, hp2, rfl, trivial⟩ (by repeat (first | exact Sp.nil | exact Sp.refl _ | refine Sp.cons (by repeat constructor) ?_))
    · (refine ql_pure tabOk rfl rfl ?_; refine q_nil ?_; refine q_cond_true rfl ?_; refine q_ret ?_)
      refine q_fin tabOk rfl (by repeat (first | exact RVs.nil | apply RVs.tmp rfl | apply RVs.cellA rfl rfl (by repeat first | exact .head _ | refine .tail _ ?_) (by rfl) | apply RVs.cell1 rfl rfl (by repeat first | exact .head _ | refine .tail _ ?_))) fun w hs => ?_
      exact ⟨s', .inr hE, Sat.un1.1 (hs.sp (by repeat (first | exact Sp.nil | exact Sp.refl _ | refine Sp.cons (by repeat constructor) ?_)))⟩
  · obtain rfl : k = 5 := by simp only at hc; omega
    (refine q_exit _ rfl ?_)
    refine q_end tabOk rfl (by repeat (first | exact RVs.nil | apply RVs.tmp rfl | apply RVs.cellA rfl rfl (by repeat first | exact .head _ | refine .tail _ ?_) (by rfl) | apply RVs.cell1 rfl rfl (by repeat first | exact .head _ | refine .tail _ ?_))) fun w hs => ?_
    exact ⟨s, .inl (by rwa [List.take_of_length_le (by simp [shotL])] at hI), Sat.un1.1 (hs.sp (by repeat (first | exact Sp.nil | exact Sp.refl _ | refine Sp.cons (by repeat constructor) ?_)))⟩

theorem shots_ca (w : World) (b : Nat) : Ca Try.prog 27 [.pointer (some ⟨b, 0, none⟩)] w fun v w' =>
    ∃ x : Nat, v = .func (.func 47) #[] #[.pointer (some ⟨x, 0, none⟩)] ∧ Sat w M0 [.pt x [.pointer (some ⟨b, 0, none⟩)] 48] w' := by
  refine q_of (Sat.nil w M0) Try.func27 rfl (by simp [Try.ntmps27]) ?_
  (refine q_seq ?_; refine q_region ?_)
  refine ql_box rfl rfl (fun b1 => ?_)
  (refine ql_pure tabOk rfl rfl ?_; refine q_nil ?_; refine q_seq ?_; refine q_region ?_; (iterate 2 refine ql_pure tabOk rfl rfl ?_); refine q_nil ?_; refine q_ret ?_)
  refine q_fin tabOk rfl (by repeat (first | exact RVs.nil | apply RVs.tmp rfl | apply RVs.cellA rfl rfl (by repeat first | exact .head _ | refine .tail _ ?_) (by rfl) | apply RVs.cell1 rfl rfl (by repeat first | exact .head _ | refine .tail _ ?_))) fun w hs => ?_
  exact ⟨b1, rfl, hs⟩

end Go.Proofs.Ytmbifbippnncoaa
