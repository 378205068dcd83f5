/- Walks: the misses to be expected with a click. -/
import Derived.Test.YtmbifbippnncoaaV11
namespace Go.Proofs.Ytmbifbippnncoaa
open Go Go.Eng

theorem shotL_mem (r : Rg) {pre post : List (List Int × Int)} {x : List Int × Int} (h : shotL r = pre ++ x :: post) : pre.length < 5 ∧ pre = (shotL r).take pre.length ∧ x = (wts r pre.length, r.total ^ (pre.length + 1)) := by
  have hl : (shotL r).length = 5 := by simp [shotL]
  have hk : pre.length < 5 := by rw [h] at hl; simp at hl; omega
  refine ⟨hk, by rw [h]; simp, ?_⟩
  have h1 : (shotL r)[pre.length]? = some x := by rw [h]; simp
  have h2 : (shotL r)[pre.length]? = some (wts r pre.length, r.total ^ (pre.length + 1)) := by simp [shotL, hk]
  rw [h1] at h2
  exact Option.some.inj h2

theorem expP_num (r : Rg) (hr : r.Right) (click : Int) (k : Nat) (hk : k ≤ 5) : 0 ≤ (expP r click k).1 ∧ (expP r click k).1 ≤ 124416000 ∧ (expP r click k).2 = r.total ^ k ∧ 1 ≤ r.total ^ k ∧ r.total ^ k ≤ 248832 := by
  obtain ⟨h1, h2, h3⟩ := expP_bd r hr click k hk
  have h4 := tot_bd r hr k
  have h5 : (12 : Int) ^ k ≤ 248832 := by
    have : k = 0 ∨ k = 1 ∨ k = 2 ∨ k = 3 ∨ k = 4 ∨ k = 5 := by omega
    rcases this with rfl | rfl | rfl | rfl | rfl | rfl <;> simp
  have hg := hr.gsum
  have h6 := mul_bd0 (show 0 ≤ r.total ^ k ∧ r.total ^ k ≤ 248832 by omega) (show 0 ≤ r.group.sum ∧ r.group.sum ≤ 100 by omega)
  have h7 := mul_bd0 (show 0 ≤ r.total ^ k * r.group.sum ∧ r.total ^ k * r.group.sum ≤ 24883200 by omega) (show 0 ≤ (k : Int) ∧ (k : Int) ≤ 5 by omega)
  exact ⟨h1, by omega, h3, h4.1, by omega⟩
theorem mulN_num (r : Rg) (hr : r.Right) (click : Int) (k n : Nat) (hk : k < 5) (hn : n ≤ 5) : 0 ≤ mulN r click (wts r k) n ∧ mulN r click (wts r k) n ≤ 24883200 := by
  have h1 := mulN_bd r hr click k n hn
  have h2 := expP_num r hr click (k + 1) (by omega)
  have hg := hr.gsum
  have h6 := mul_bd0 (show 0 ≤ r.total ^ (k + 1) ∧ r.total ^ (k + 1) ≤ 248832 by omega) (show 0 ≤ r.group.sum ∧ r.group.sum ≤ 100 by omega)
  omega
theorem mulN_succ (r : Rg) (click : Int) (ws : List Int) (n : Nat) (hn : n < r.drifts.length) (hw : n < ws.length) : mulN r click ws (n + 1) = mulN r click ws n + ws[n] * missS r r.drifts[n] click := by
  simp [mulN, sumR, List.getElem?_eq_getElem hn, List.getElem?_eq_getElem hw]

set_option maxHeartbeats 1000000 in
theorem expected_ca (w : World) (b : Nat) (r : Rg) (click : Int) (hdk : DkAt w b r) (hr : r.Right) (hck : -1000 ≤ click ∧ click ≤ 1000) :
    Ca Try.prog 17 [.pointer (some ⟨b, 0, none⟩), .int .i64 click] w fun v w' => v = rtV (expV r click) ∧ Chg [] w w' := by
  have hdk0 := hdk
  obtain ⟨cs, bt, hblk, lo, hi, ag, cg, ad, cd, af, cf, an, cn, rfl, hg, hdr, hf, hn⟩ := hdk
  have hd1 := hr.d1
  have hd2 := hr.d2
  have htot := hr.total
  have hgs := hr.gsum
  obtain ⟨_, _, hsl, hsd⟩ := RdI.outI hdr
  cases hsl
  obtain ⟨b0, off, rfl⟩ := hsd (by omega)
  refine q_ofM (Sat.nil w M0) Try.func17 rfl (by simp [Try.ntmps17]) ?_
  (refine q_seq ?_; refine q_region ?_)
  refine ql_box rfl rfl (fun b2 => ?_)
  refine ql_box rfl rfl (fun b3 => ?_)
  refine ql_alloc zero33 rfl (fun b4 => ?_)
  (refine q_nil ?_; refine q_seq ?_; refine q_region ?_)
  refine ql_alloc zero3 rfl (fun b5 => ?_)
  refine ql_alloc zero3 rfl (fun b6 => ?_)
  ((iterate 2 refine ql_set tabOk rfl rfl rfl rfl (by repeat constructor) ?_); refine q_nil ?_; (iterate 2 refine q_seq ?_); refine q_region ?_; refine ql_loadB tabOk rfl rfl rfl (by repeat first | exact .head _ | refine .tail _ ?_) (by rfl) ?_)
  refine ql_call (β := Nat) tabOk [] _ M0 rfl rfl rfl rfl (Sp.refl _) (fun _ h => h.elim) (fun w' hs => shots_ca w' b) ?_
  rintro bd _ rfl
  (refine q_nil ?_; refine q_block ?_)
  refine q_range encS (Int × Int) (shotL r) (fun pre s => s = expP r click pre.length) (fun _ _ => False)
    (fun s => [.pt b6 [.int .i64 s.2] 3, .pt b5 [.int .i64 s.1] 3]) [.pt bd [.pointer (some ⟨b, 0, none⟩)] 48, .pt b4 [.int .i64 0, .int .i64 0] 33, .pt b3 [.int .i64 click] 3, .pt b2 [.pointer (some ⟨b, 0, none⟩)] 48] (0, 1)
    rfl (by kernel_rfl) rfl (fun _ _ => rfl) rfl (by repeat (first | exact Sp.nil | exact Sp.refl _ | refine Sp.cons (by repeat constructor) ?_)) ?_ ?_ ?_ (fun _ _ _ h => h.elim)
  · intro w1 D hs hD
    exact shots_it w w1 D b bd r hdk0 hr (fun w' hc => hs.chg0.old hc (fun k hk => (hD k hk).2.resolve_left (fun h => h))) (hs.blk (by repeat first | exact .head _ | refine .tail _ ?_)) (fun h => (hD _ h).1 ⟨.pt bd [.pointer (some ⟨b, 0, none⟩)] _, (by repeat first | exact .head _ | refine .tail _ ?_), rfl⟩)
  · intro pre x post s w1 l rdy bsy K F' hx hI hsat hR hbegin hend hret hexit
    obtain ⟨hk5, hpre, rfl⟩ := shotL_mem r hx
    generalize hkk : pre.length = kk at *
    subst hI
    have hwl := wts_length r hr kk
    have hwb := wts_bd r hr kk (by omega)
    (refine q_seq ?_; refine q_region ?_)
    refine ql_alloc zero70 rfl (fun b7 => ?_)
    skip
    refine ql_setA (us := ints (wts r kk)) tabOk rfl rfl rfl (by simp [hwl]) (by simp [oneV]) (by repeat constructor) (by rfl) ?_
    (refine q_nil ?_; refine q_region ?_; refine ql_pure tabOk rfl rfl ?_; refine q_nil ?_)
    refine q_keep [(8, .int .i64 (r.total ^ (kk + 1))), (7, .pointer (some ⟨b7, 0, none⟩)), (6, .pointer (some ⟨b6, 0, none⟩)), (5, .pointer (some ⟨b5, 0, none⟩)), (3, .pointer (some ⟨b3, 0, none⟩)), (2, .pointer (some ⟨b2, 0, none⟩))] (rdy :: [.pt b7 (ints (wts r kk)) 70, .pt b6 [.int .i64 (expP r click kk).2] 3, .pt b5 [.int .i64 (expP r click kk).1] 3]) ⟨rfl, rfl, rfl, rfl, rfl, rfl, trivial⟩ (by repeat (first | exact Sp.nil | exact Sp.refl _ | refine Sp.cons (by repeat constructor) ?_)) (hbegin _ _ ?_)
    have hB2 : ∀ w', ChgP (DL (rdy :: [.pt b6 [.int .i64 (expP r click kk).2] 3, .pt b5 [.int .i64 (expP r click kk).1] 3])) w1 w' → Blk w' b2 [.pointer (some ⟨b, 0, none⟩)] 48 := fun w' hc => (hR w' hc).blk (by repeat first | exact .head _ | refine .tail _ ?_)
    have hB3 : ∀ w', ChgP (DL (rdy :: [.pt b6 [.int .i64 (expP r click kk).2] 3, .pt b5 [.int .i64 (expP r click kk).1] 3])) w1 w' → Blk w' b3 [.int .i64 click] 3 := fun w' hc => (hR w' hc).blk (by repeat first | exact .head _ | refine .tail _ ?_)
    have hP3 : ∀ w', ChgP (DL (rdy :: [.pt b6 [.int .i64 (expP r click kk).2] 3, .pt b5 [.int .i64 (expP r click kk).1] 3])) w1 w' → Blk w' b _ bt := fun w' hc => hblk.keep (hR w' hc).chg0
    clear hblk
    (refine q_block ?_; refine q_seq ?_; refine q_region ?_; refine ql_pure tabOk rfl rfl ?_; refine q_nil ?_; (iterate 2 refine q_seq ?_); refine q_region ?_; refine ql_loadG tabOk rfl rfl rfl (by assumption) (by rfl) ?_; (iterate 3 refine ql_pure tabOk rfl rfl ?_); refine ql_loadG tabOk rfl rfl rfl (by assumption) (by rfl) ?_; (iterate 2 refine ql_pure tabOk rfl rfl ?_); refine q_nil ?_; refine q_block ?_)
    refine q_loop (σ := Nat) (fun n => n ≤ r.drifts.length) (fun n => r.drifts.length - n) (fun n => [(22, .int .i64 n), (21, .int .i64 r.drifts.length), (20, .slice (some ⟨b0, off, none⟩) r.drifts.length cd), (9, .int .i64 (mulN r click (wts r kk) n)), (8, .int .i64 (r.total ^ (kk + 1))), (7, .pointer (some ⟨b7, 0, none⟩)), (6, .pointer (some ⟨b6, 0, none⟩)), (5, .pointer (some ⟨b5, 0, none⟩)), (3, .pointer (some ⟨b3, 0, none⟩)), (2, .pointer (some ⟨b2, 0, none⟩))])
      (fun _ => [bsy, .pt b7 (ints (wts r kk)) 70, .pt b6 [.int .i64 (expP r click kk).2] 3, .pt b5 [.int .i64 (expP r click kk).1] 3]) 0 (by omega) ⟨rfl, rfl, rfl, rfl, rfl, rfl, rfl, rfl, rfl, rfl, trivial⟩ (Sp.refl _) ?_
    intro n hn K2 hK2
    have hm1 := mulN_num r hr click kk n hk5 (by omega)
    (refine q_seq ?_; refine q_region ?_; refine ql_pure tabOk rfl rfl ?_; refine q_nil ?_; refine q_seq ?_)
    refine q_if rfl (fun hc => ?_) (fun hc => ?_)
    · have hn2 : n < r.drifts.length := by omega
      have hnw : n < (wts r kk).length := by omega
      have hdrift := hr.drift r.drifts[n] (List.getElem_mem hn2)
      have hms := missS_bd r hr r.drifts[n] click
      have hmx := mulN_succ r click (wts r kk) n hn2 hnw
      have hwx := hwb (wts r kk)[n] (List.getElem_mem hnw)
      have hpr := mul_bd0 hwx (show 0 ≤ missS r r.drifts[n] click ∧ missS r r.drifts[n] click ≤ 100 by omega)
      (refine q_skip ?_; refine q_seq ?_; refine q_block ?_; refine q_seq ?_; refine q_region ?_; refine ql_pure tabOk rfl rfl ?_)
      (refine ql_index tabOk rfl rfl rfl rfl rfl (by omega) (by omega) ?_; refine ql_load1 tabOk rfl rfl rfl (fun w hs => RdI.at (RdE.keep hdr (hR _ hs.chg).chg0) n hn2) ?_)
      ((iterate 2 refine ql_pure tabOk rfl rfl ?_); refine q_nil ?_)
      refine q_draw _ [] (Sp.refl _) (by kernel_rfl) (by kernel_rfl) ?_
      ((iterate 2 refine qf_pure tabOk rfl rfl rfl ?_))
      refine qf_indexA w_arr rfl rfl rfl (by omega) (by omega) ?_
      refine qf_loadI tabOk (n) rfl rfl rfl (by repeat first | exact .head _ | refine .tail _ ?_) (by first | rfl | omega | simp) hnw ?_
      (refine qf_loadG tabOk rfl rfl rfl (by assumption) (by rfl) ?_; refine qf_pure tabOk rfl rfl rfl ?_; refine qf_loadG tabOk rfl rfl rfl (by assumption) (by rfl) ?_)
      refine qf_callv (val := .int .i64 (missS r (r.drifts[n]'hn2) click)) tabOk rfl rfl rfl rfl (fun w hs => ?_) ?_; exact missed_ca w b r (r.drifts[n]'hn2) click (hdk0.keep (hR w hs.chg).chg0) hr (by omega) (by omega)
      ((iterate 2 refine qf_ar tabOk rfl rfl rfl rfl (by omega) (by omega) ?_); refine qf_pure tabOk rfl rfl rfl ?_; refine qf_nil ?_; refine q_blk ?_; refine q_region ?_; refine ql_ar tabOk rfl rfl rfl rfl (by omega) (by omega) ?_; refine ql_pure tabOk rfl rfl ?_; refine q_nil ?_)
      have hm2 : some (Value.int .i64 (mulN r click (wts r kk) n + (wts r kk)[n] * missS r r.drifts[n] click)) = some (.int .i64 (mulN r click (wts r kk) (n + 1))) := by rw [hmx]
      exact hK2 (n + 1) _ _ (by omega) (by omega) ⟨rfl, rfl, rfl, hm2, rfl, rfl, rfl, rfl, rfl, rfl, trivial⟩ (by repeat (first | exact Sp.nil | exact Sp.refl _ | refine Sp.cons (by repeat constructor) ?_))
    · obtain rfl : n = r.drifts.length := by omega
      have he1 := expP_num r hr click kk (by omega)
      have he2 := expP_succ r click kk hk5
      have he3 := mul_bd0 (show 0 ≤ (expP r click kk).1 ∧ (expP r click kk).1 ≤ 124416000 by omega) (show 0 ≤ r.total ∧ r.total ≤ 12 by omega)
      (refine q_exit _ rfl ?_)
      refine q_drawS 9 _ [.pt b5 _ _, .pt b6 _ _] (Sp.cons (by repeat constructor) (Sp.cons (by repeat constructor) (Sp.refl _))) (by kernel_rfl) (by kernel_rfl) (by kernel_rfl) fun K1 hK1 => ?_
      (refine qf_loadB tabOk rfl rfl rfl (by repeat first | exact .head _ | refine .tail _ ?_) (by rfl) ?_; refine qf_loadG tabOk rfl rfl rfl (by assumption) (by rfl) ?_; (iterate 3 refine qf_pure tabOk rfl rfl rfl ?_); refine qf_loadG tabOk rfl rfl rfl (by assumption) (by rfl) ?_; refine qf_ar tabOk rfl rfl rfl rfl (by omega) (by omega) ?_; refine qf_pure tabOk rfl rfl rfl ?_; refine qf_ar tabOk rfl rfl rfl rfl (by omega) (by omega) ?_; refine qf_nil ?_)
      refine hK1 _ _ [.pt b5 _ _, .pt b6 _ _] (Sp.cons (by repeat constructor) (Sp.cons (by repeat constructor) ((by repeat (first | exact Sp.nil | exact Sp.refl _ | refine Sp.cons (by repeat constructor) ?_))))) ?_
      (refine qf_pure tabOk rfl rfl rfl ?_; (iterate 2 refine qf_set tabOk rfl rfl rfl rfl (by repeat constructor) ?_); refine qf_nil ?_; refine q_blk ?_)
      refine hend _ _ (expP r click (kk + 1)) (by simp [hkk]) (by rw [he2]; repeat (first | exact Sp.nil | exact Sp.refl _ | refine Sp.cons (by repeat constructor) ?_))
  · rintro D s hsx
    obtain rfl : s = expP r click 5 := by simpa [shotL] using hsx
    have he1 := expP_num r hr click 5 (by omega)
    have he3 := mul_bd0 (show 0 ≤ r.total ^ 5 ∧ r.total ^ 5 ≤ 248832 by omega) (show 0 ≤ r.group.sum ∧ r.group.sum ≤ 100 by omega)
    rw [he1.2.2.1]
    (refine q_blk ?_; refine q_seq ?_)
    refine q_draw _ [.pt b4 _ _] (Sp.cons (by repeat constructor) (Sp.refl _)) (by kernel_rfl) (by kernel_rfl) ?_
    ((iterate 3 refine qf_loadB tabOk rfl rfl rfl (by repeat first | exact .head _ | refine .tail _ ?_) (by rfl) ?_))
    refine qf_callv tabOk rfl rfl rfl rfl (fun w hs => group_ca w b r (hdk0.keep hs.chg0) hr) ?_
    (refine qf_ar tabOk rfl rfl rfl rfl (by omega) (by omega) ?_)
    (refine qf_callv tabOk rfl rfl rfl rfl (fun w hs => ratio_ca (expP r click 5).1 (r.total ^ 5 * r.group.sum) w (by omega) (by have := Int.mul_le_mul_of_nonneg_left hgs.1 (show 0 ≤ r.total ^ 5 by omega); omega) (by omega) (by omega)) ?_)
    (refine qf_setA tabOk rfl rfl rfl rfl rfl (by repeat constructor) rfl ?_; refine qf_nil ?_; refine q_ret ?_)
    refine q_finMD tabOk (by repeat constructor) rfl (by repeat (first | exact RVs.nil | apply RVs.tmp rfl | apply RVs.cellA rfl rfl (by repeat first | exact .head _ | refine .tail _ ?_) (by rfl) | apply RVs.cell1 rfl rfl (by repeat first | exact .head _ | refine .tail _ ?_))) fun w hs => ?_
    exact ⟨rfl, hs.chg0⟩

end Go.Proofs.Ytmbifbippnncoaa
