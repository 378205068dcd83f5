/- My texts K37, D3, K38, K39, K40, D4, K29, W12, D5, L6, joined: a claim takes at most 60 files. -/
import Derived.Test.YtcmpdmobmbbplaaJ3

/- Walks: results of a race, and a pursuit. -/
namespace Go.Proofs.Ytcmpdmobmbbplaa
open Go Go.Eng

/-- Results: the i-th one has the bib i + 1. -/
def resL (ts : List Int) : List (Int × Int) := (List.range ts.length).map fun (i : Nat) => ((i : Int) + 1, ts.getD i 0)
theorem resL_len (ts : List Int) : (resL ts).length = ts.length := by simp [resL]
theorem resL_get (ts : List Int) {i : Nat} (h : i < (resL ts).length) : (resL ts)[i] = ((i : Int) + 1, ts[i]'(by rw [resL_len] at h; exact h)) := by
  have h2 : i < ts.length := by rw [resL_len] at h; exact h
  simp only [resL, List.getElem_map, List.getElem_range]
  rw [getD_get h2]
structure TsOk (ts : List Int) : Prop where
  n1 : 1 ≤ ts.length
  n2 : ts.length ≤ 16
  num : ∀ x ∈ ts, 0 ≤ x ∧ x ≤ 360000
theorem in_ca (n lo hi : Int) (w : World) : Ca Try.prog 153 [.int .i64 n, .int .i64 lo, .int .i64 hi] w fun x w' => x = .bool (inB n lo hi) ∧ Chg [] w w' := by
  refine q_of (Sat.nil w M0) Try.func153 rfl (by simp [Try.ntmps153]) ?_
  by_cases h1 : lo ≤ n
  · by_cases h2 : n ≤ hi
    · rw [show inB n lo hi = true from inB_iff.2 ⟨h1, h2⟩]
      (refine q_seq (q_region (ql_pure tabOk rfl rfl (q_nil (q_seq (q_region (ql_pure tabOk rfl rfl (ql_pure tabOk rfl rfl (ql_geqT tabOk rfl rfl rfl (by omega) (ql_pure tabOk rfl rfl (ql_gyes rfl (ql_pure tabOk rfl rfl ?_))))))))))); refine ql_gyes rfl (ql_pure tabOk rfl rfl (ql_gyes rfl (ql_leqT tabOk rfl rfl rfl (by omega) (ql_pure tabOk rfl rfl (ql_pure tabOk rfl rfl (q_nil (q_ret ?_))))))))
      refine q_fin tabOk rfl (by repeat constructor) fun w hs => ?_
      exact ⟨rfl, hs.chg0⟩
    · rw [show inB n lo hi = false from Bool.eq_false_iff.2 fun h => h2 (inB_iff.1 h).2]
      (refine q_seq (q_region (ql_pure tabOk rfl rfl (q_nil (q_seq (q_region (ql_pure tabOk rfl rfl (ql_pure tabOk rfl rfl (ql_geqT tabOk rfl rfl rfl (by omega) (ql_pure tabOk rfl rfl (ql_gyes rfl (ql_pure tabOk rfl rfl ?_))))))))))); refine ql_gyes rfl (ql_pure tabOk rfl rfl (ql_gyes rfl (ql_leqF tabOk rfl rfl rfl (by omega) (ql_pure tabOk rfl rfl (ql_pure tabOk rfl rfl (q_nil (q_ret ?_))))))))
      refine q_fin tabOk rfl (by repeat constructor) fun w hs => ?_
      exact ⟨rfl, hs.chg0⟩
  · rw [show inB n lo hi = false from Bool.eq_false_iff.2 fun h => h1 (inB_iff.1 h).1]
    (refine q_seq (q_region (ql_pure tabOk rfl rfl (q_nil (q_seq (q_region (ql_pure tabOk rfl rfl (ql_pure tabOk rfl rfl (ql_geqF tabOk rfl rfl rfl (by omega) (ql_pure tabOk rfl rfl ?_))))))))); (iterate 3 refine ql_gno rfl rfl rfl ?_); refine ql_pure tabOk rfl rfl (ql_pure tabOk rfl rfl (q_nil (q_ret ?_))))
    refine q_fin tabOk rfl (by repeat constructor) fun w hs => ?_
    exact ⟨rfl, hs.chg0⟩
theorem res1_ca (b t : Int) (hb : 1 ≤ b ∧ b ≤ 999) (ht : 0 ≤ t ∧ t ≤ 360000) (w : World) : Ca Try.prog 152 [.agg #[.int .i64 b, .int .i64 t]] w fun x w' => x = .bool true ∧ Chg [] w w' := by
  refine q_of (Sat.nil w M0) Try.func152 rfl (by simp [Try.ntmps152]) ?_
  (refine q_seq (q_region ?_))
  refine ql_box rfl rfl (fun b1 => ?_)
  (refine ql_pure tabOk rfl rfl (q_nil (q_seq (q_region (ql_pure tabOk rfl rfl ?_)))); refine ql_loadBa tabOk rfl rfl rfl ?_)
  refine ql_callv (val := .bool true) tabOk rfl rfl rfl rfl (fun w hs => ?_) ?_; exact by have := in_ca b 1 999 w; rw [inB_iff.2 hb] at this; exact this
  (refine ql_pure tabOk rfl rfl (ql_gyes rfl (ql_pure tabOk rfl rfl (ql_gyes rfl ?_))); refine ql_loadBa tabOk rfl rfl rfl ?_; refine ql_gyes rfl ?_)
  refine ql_callv (val := .bool true) tabOk rfl rfl rfl rfl (fun w hs => ?_) ?_; exact by have := in_ca t 0 360000 w; rw [inB_iff.2 ht] at this; exact this
  (refine ql_pure tabOk rfl rfl (ql_pure tabOk rfl rfl (q_nil (q_ret ?_))))
  refine q_fin tabOk rfl (by repeat constructor) fun w hs => ?_
  exact ⟨rfl, hs.chg0⟩
theorem allR_ca (w : World) (lo hi : Nat) (v : Value) (ts : List Int) (h : RdS w lo hi v (resL ts)) (hT : TsOk ts) : Ca Try.prog 151 [v, .func (.func 152) #[] #[]] w fun x w' => x = .bool true ∧ Chg [] w w' := by
  have hn2 := hT.n2
  have hrl := resL_len ts
  obtain ⟨a, c, rfl, ha⟩ := RdS.outI h
  refine q_of (Sat.nil w M0) Try.func151 rfl (by simp [Try.ntmps151]) ?_
  (refine q_seq (q_region (ql_pure tabOk rfl rfl (q_nil (q_seq (q_seq (q_region ?_)))))); (iterate 3 refine ql_pure tabOk rfl rfl ?_); refine q_nil (q_block ?_))
  refine q_loop (σ := Nat) (fun i => i ≤ ts.length) (fun i => ts.length - i) (fun i => [(1, .func (.func 152) #[] #[]), (7, .slice a (resL ts).length c), (8, .int .i64 (resL ts).length), (9, .int .i64 i)]) (fun _ => []) 0 (by omega) ⟨rfl, rfl, rfl, rfl, trivial⟩ (by repeat constructor) ?_
  rintro i hi' K hK
  (refine q_seq (q_region (ql_pure tabOk rfl rfl (q_nil (q_seq ?_)))))
  refine q_if rfl (fun hc => ?_) (fun hc => ?_)
  · have hi2 : i < (resL ts).length := by omega
    clear hc
    obtain ⟨ab, ao, rfl⟩ := ha (by omega)
    have hg := resL_get ts hi2
    have hb := hT.num _ (List.getElem_mem (show i < ts.length by omega))
    (refine q_skip (q_seq (q_block (q_seq (q_region ?_)))))
    refine ql_index tabOk rfl rfl rfl rfl rfl (by omega) (by omega) ?_
    refine ql_loadA (cs := [.int .i64 ((i : Int) + 1), .int .i64 (ts[i]'(by omega))]) tabOk rfl rfl rfl rfl (fun w hs q hq => by have := RdS.at (RdE.keep h hs.chg0) i hi2 q hq; rw [hg] at this; exact this) ?_
    skip
    refine ql_alloc zero112 rfl (fun b6 => ?_)
    (refine ql_setA tabOk rfl rfl rfl rfl rfl (by repeat constructor) rfl ?_; refine q_nil (q_seq (q_region (ql_pure tabOk rfl rfl ?_))); refine ql_loadABa tabOk rfl rfl rfl ?_)
    refine ql_callFv (val := .bool true) rfl rfl rfl (fun w hs => CaF.of tabOk (by kernel_rfl) (res1_ca ((i : Int) + 1) ts[i] (by omega) hb w)) ?_
    (refine ql_pure tabOk rfl rfl (q_nil (q_cond_false rfl (q_skip (q_blk (q_region (ql_ar tabOk rfl rfl rfl rfl (by omega) (by omega) (ql_pure tabOk rfl rfl (q_nil ?_)))))))))
    exact hK (i + 1) _ _ (by omega) (by omega) ⟨rfl, rfl, rfl, rfl, trivial⟩ (by repeat constructor)
  · (refine q_exit _ rfl (q_seq (q_region (ql_pure tabOk rfl rfl (q_nil (q_ret ?_))))))
    refine q_fin tabOk rfl (by repeat constructor) fun w hs => ?_
    exact ⟨rfl, hs.chg0⟩
/-- The bibs. -/
def bibL (n : Nat) : List Int := (List.range n).map fun (i : Nat) => (i : Int) + 1
theorem bib_len (n : Nat) : (bibL n).length = n := by simp [bibL]
theorem bib_get {n i : Nat} (h : i < (bibL n).length) : (bibL n)[i] = (i : Int) + 1 := by simp [bibL]
theorem bib_succ (n : Nat) : ints (bibL (n + 1)) = ints (bibL n) ++ [.int .i64 ((n : Int) + 1)] := by
  unfold bibL ints
  rw [List.range_succ, List.map_append, List.map_append]
  rfl
theorem int_key : KeyT Try.prog 3 (keyI .i64) eqV := keyT_int (by kernel_rfl)
theorem int_map : Try.prog.underlying 211 = some (.map 3 4) := by kernel_rfl
theorem zero_bo : ZeroOf Try.prog 4 (.bool false) := ⟨by kernel_rfl⟩
def NotIn (i : Nat) (f : Value → Option Value) : Prop := ∀ j : Nat, i ≤ j → f (.int .i64 ((j : Int) + 1)) = none
theorem twice_ca (w : World) (lo hi : Nat) (v : Value) (n : Nat) (h : RdI w lo hi v (bibL n)) (hn : n ≤ 1000) : Ca Try.prog 154 [v] w fun x w' => x = .bool false ∧ Chg [] w w' := by
  obtain ⟨a, c, rfl, ha⟩ := RdI.outI h
  rw [bib_len] at ha h ⊢
  refine q_of (Sat.nil w M0) Try.func154 rfl (by simp [Try.ntmps154]) ?_
  (refine q_seq (q_region (ql_pure tabOk rfl rfl (q_nil (q_seq (q_region ?_))))))
  refine ql_makeMap (keyI .i64) eqV rfl (fun bm => ?_)
  (refine ql_pure tabOk rfl rfl (q_nil (q_seq (q_seq (q_region ?_)))); (iterate 3 refine ql_pure tabOk rfl rfl ?_); refine q_nil (q_block ?_))
  refine q_loop (σ := Nat × (Value → Option Value)) (fun s => s.1 ≤ n ∧ NotIn s.1 s.2) (fun s => n - s.1) (fun s => [(3, .map (some bm)), (6, .map (some bm)), (7, .slice a n c), (8, .int .i64 n), (9, .int .i64 s.1)]) (fun s => [mpP (keyI .i64) eqV bm s.2]) (0, fun _ => none) ⟨by simp, fun _ _ => rfl⟩ ⟨rfl, rfl, rfl, rfl, rfl, trivial⟩ (by repeat constructor) ?_
  rintro ⟨i, f⟩ ⟨hi1, hf⟩ K hK
  dsimp only at hi1 hf ⊢
  (refine q_seq (q_region (ql_pure tabOk rfl rfl (q_nil (q_seq ?_)))))
  refine q_if rfl (fun hc => ?_) (fun hc => ?_)
  · have hi2 : i < n := by omega
    clear hc
    obtain ⟨ab, ao, rfl⟩ := ha (by omega)
    (refine q_skip (q_seq (q_block (q_seq (q_region ?_)))))
    refine ql_index tabOk rfl rfl rfl rfl rfl (by omega) (by omega) ?_
    refine ql_load1 (v := .int .i64 ((i : Int) + 1)) tabOk rfl rfl rfl (fun w hs => by
      have := RdI.at (RdE.keep h hs.chg0) i (by rw [bib_len]; exact hi2)
      rw [bib_get] at this
      exact this) ?_
    (refine ql_pure tabOk rfl rfl (q_nil (q_seq (q_seq (q_region (ql_pure tabOk rfl rfl (ql_pure tabOk rfl rfl ?_)))))))
    refine ql_look (v := .bool false) int_key int_map zero_bo rfl rfl rfl (by repeat constructor) ⟨_, rfl⟩ (by rw [hf i (Nat.le_refl _)]; rfl) ?_
    (refine q_nil (q_cond_false rfl (q_skip (q_region (ql_pure tabOk rfl rfl (ql_pure tabOk rfl rfl ?_))))))
    refine ql_mapUpd int_key int_map rfl rfl rfl ⟨_, rfl⟩ (by repeat constructor) ?_
    (refine q_nil (q_blk (q_region (ql_ar tabOk rfl rfl rfl rfl (by omega) (by omega) (ql_pure tabOk rfl rfl (q_nil ?_))))))
    exact hK (i + 1, fun x => if eqV x (.int .i64 ((i : Int) + 1)) then some (.bool true) else f x) _ _ ⟨by simp only; omega, fun j hj => by
      dsimp only at hj ⊢
      rw [if_neg (by
        show ¬ (eqV (.int .i64 ((j : Int) + 1)) (.int .i64 ((i : Int) + 1)) = true)
        simp [eqV]
        omega)]
      exact hf j (by omega)⟩ (by simp only; omega) ⟨rfl, rfl, rfl, rfl, rfl, trivial⟩ (by repeat constructor)
  · (refine q_exit _ rfl (q_seq (q_region (ql_pure tabOk rfl rfl (q_nil (q_ret ?_))))))
    refine q_fin tabOk rfl (by repeat constructor) fun w hs => ?_
    exact ⟨rfl, hs.chg0⟩
theorem results_ca (w : World) (lo hi : Nat) (v : Value) (ts : List Int) (u lim : Int) (h : RdS w lo hi v (resL ts)) (hT : TsOk ts) (hu : 1 ≤ u ∧ u ≤ 600) (hlim : 0 ≤ lim ∧ lim ≤ 360000) : Ca Try.prog 140 [v, .agg #[.int .i64 u, .int .i64 lim]] w fun x w' => x = .int .i64 0 ∧ Chg [] w w' := by
  have hn1 := hT.n1
  have hn2 := hT.n2
  have hrl := resL_len ts
  obtain ⟨a, c, rfl, ha⟩ := RdS.outI h
  obtain ⟨ab, ao, rfl⟩ := ha (by omega)
  rw [hrl] at h ⊢
  refine q_of (Sat.nil w M0) Try.func140 rfl (by simp [Try.ntmps140]) ?_
  (refine q_seq (q_region ?_))
  refine ql_box rfl rfl (fun b3 => ?_)
  (refine ql_pure tabOk rfl rfl (q_nil (q_seq (q_region (ql_pure tabOk rfl rfl (q_nil (q_seq (q_seq (q_region ?_)))))))); (iterate 3 refine ql_pure tabOk rfl rfl ?_); refine q_nil (q_block ?_))
  refine q_conv (H' := [.ow (.slice none 0 0) 3 1 0 (ints (bibL 0)), .pt b3 [.int .i64 u, .int .i64 lim] 117]) (fun w' hs => (Sat.ownil hs 3 1).sp (by repeat constructor)) ?_
  refine q_loop (σ := Nat × Value) (fun s => s.1 ≤ ts.length) (fun s => ts.length - s.1) (fun s => [(0, .slice (some ⟨ab, ao, none⟩) ts.length c), (3, .pointer (some ⟨b3, 0, none⟩)), (5, s.2), (8, .slice (some ⟨ab, ao, none⟩) ts.length c), (9, .int .i64 ts.length), (10, .int .i64 s.1)]) (fun s => [.ow s.2 3 1 s.1 (ints (bibL s.1)), .pt b3 [.int .i64 u, .int .i64 lim] 117]) (0, .slice none 0 0) (by simp only; omega) ⟨rfl, rfl, rfl, rfl, rfl, rfl, trivial⟩ (by repeat constructor) ?_
  rintro ⟨i, x⟩ hi1 K hK
  dsimp only at hi1 ⊢
  (refine q_seq (q_region (ql_pure tabOk rfl rfl (q_nil (q_seq ?_)))))
  refine q_if rfl (fun hc => ?_) (fun hc => ?_)
  · have hi2 : i < ts.length := by omega
    clear hc
    have hi3 : i < (resL ts).length := by omega
    have hg := resL_get ts hi3
    (refine q_skip (q_seq (q_block (q_seq (q_region ?_)))))
    refine ql_index tabOk rfl rfl rfl rfl rfl (by omega) (by omega) ?_
    refine ql_loadA (cs := [.int .i64 ((i : Int) + 1), .int .i64 ts[i]]) tabOk rfl rfl rfl rfl (fun w hs q hq => by have := RdS.at (RdE.keep h hs.chg0) i hi3 q hq; rw [hg] at this; exact this) ?_
    skip
    refine ql_alloc zero112 rfl (fun b7 => ?_)
    (refine ql_setA tabOk rfl rfl rfl rfl rfl (by repeat constructor) rfl ?_; refine q_nil (q_region (ql_pure tabOk rfl rfl (ql_pure tabOk rfl rfl ?_))); refine ql_loadBa tabOk rfl rfl rfl ?_)
    refine ql_mkS 3 [.int .i64 ((i : Int) + 1)] rfl (by kernel_rfl) rfl (fun bn => ?_)
    skip
    refine ql_append (q := 1) (news := [.int .i64 ((i : Int) + 1)]) slI rfl rfl rfl (fun v' => by repeat constructor) (fun w' hs => ⟨_, _, Blk.rdN (hs.blk (b := bn) (by repeat constructor)) rfl⟩) (by simp [oneV]) (by omega) (by omega) (fun u' => ?_)
    (refine ql_pure tabOk rfl rfl (q_nil (q_blk (q_region (ql_ar tabOk rfl rfl rfl rfl (by omega) (by omega) (ql_pure tabOk rfl rfl (q_nil ?_)))))))
    exact hK (i + 1, u') _ _ (by simp only; omega) (by simp only; omega) ⟨rfl, rfl, rfl, rfl, rfl, rfl, trivial⟩ (by dsimp only; rw [bib_succ]; repeat constructor)
  · obtain rfl : i = ts.length := by omega
    clear hc hK hi1
    refine q_fact (fun w hs => hs.ownSome (v := x) (by repeat constructor) (by omega)) ?_
    rintro ⟨g5, c5, rfl⟩
    (refine q_exit _ rfl (q_seq (q_block (q_seq (q_region (ql_pure tabOk rfl rfl (ql_pure tabOk rfl rfl (ql_gtrF tabOk rfl rfl rfl (by omega) (ql_pure tabOk rfl rfl (q_nil (q_cond_false rfl (q_seq ?_))))))))))); refine q_region (ql_pure tabOk rfl rfl ?_))
    refine ql_callv (val := .bool true) tabOk rfl rfl rfl rfl (fun w hs => ?_) ?_; exact allR_ca w lo hi _ ts (by have := RdE.keep h hs.chg0; exact this) hT
    (refine ql_pure tabOk rfl rfl (ql_pure tabOk rfl rfl (ql_gyes rfl (ql_pure tabOk rfl rfl (ql_gyes rfl ?_)))); refine ql_loadBa tabOk rfl rfl rfl ?_; refine ql_gyes rfl ?_)
    refine ql_callv (val := .bool true) tabOk rfl rfl rfl rfl (fun w hs => ?_) ?_; exact by have := in_ca u 1 600 w; rw [inB_iff.2 hu] at this; exact this
    (refine ql_gyes rfl ?_; (iterate 3 refine ql_pure tabOk rfl rfl ?_); refine ql_gyes rfl (ql_pure tabOk rfl rfl (ql_gyes rfl ?_)); refine ql_loadBa tabOk rfl rfl rfl ?_; refine ql_gyes rfl ?_)
    refine ql_callv (val := .bool true) tabOk rfl rfl rfl rfl (fun w hs => ?_) ?_; exact by have := in_ca lim 0 360000 w; rw [inB_iff.2 hlim] at this; exact this
    (refine ql_gyes rfl ?_; (iterate 3 refine ql_pure tabOk rfl rfl ?_); refine q_nil (q_cond_false rfl (q_seq (q_region (ql_pure tabOk rfl rfl ?_)))))
    refine ql_callv (val := .bool false) tabOk rfl rfl rfl rfl (fun w hs => ?_) ?_; exact twice_ca w 0 w.heap.size _ ts.length (own_rdI (t := 3) (hs.mem (c := .ow (.slice (some ⟨g5, 0, none⟩) ts.length c5) 3 1 ts.length (ints (bibL ts.length))) (by repeat constructor)) (bib_len _).symm) (by omega)
    (refine ql_pure tabOk rfl rfl (q_nil (q_cond_false rfl (q_skip (q_blk (q_seq (q_region (ql_pure tabOk rfl rfl (q_nil (q_ret ?_))))))))))
    refine q_fin tabOk rfl (by repeat constructor) fun w hs => ?_
    exact ⟨rfl, hs.chg0⟩
end Go.Proofs.Ytcmpdmobmbbplaa

/- Walks: labs are copied, and get a run more. -/
namespace Go.Proofs.Ytcmpdmobmbbplaa
open Go Go.Eng

def tD3_563eb24 : OT := chainT [0, 1, 2, 3, 4, 5, 6, 7, 8] (.nil)
end Go.Proofs.Ytcmpdmobmbbplaa

/- Walks: deficits; who starts when in a pursuit. -/
namespace Go.Proofs.Ytcmpdmobmbbplaa
open Go Go.Eng

def bestT (ts : List Int) : Int := minF 360000 ts
def defV (ts : List Int) (u : Int) (i : Nat) : Int := min ((ts.getD i 0 - bestT ts) - (ts.getD i 0 - bestT ts) % u) 360000
def defL (ts : List Int) (u : Int) (k : Nat) : List Int := (List.range k).map fun i => defV ts u i
theorem def_len (ts : List Int) (u : Int) (k : Nat) : (defL ts u k).length = k := by simp [defL]
theorem def_succ (ts : List Int) (u : Int) (k : Nat) : ints (defL ts u (k + 1)) = ints (defL ts u k) ++ [.int .i64 (defV ts u k)] := by
  unfold defL ints
  rw [List.range_succ, List.map_append, List.map_append]
  rfl
theorem def_get {ts : List Int} {u : Int} {k i : Nat} (h : i < (defL ts u k).length) : (defL ts u k)[i] = defV ts u i := by simp [defL]
theorem best_le {ts : List Int} (h : TsOk ts) : 0 ≤ bestT ts ∧ ∀ i (hi : i < ts.length), bestT ts ≤ ts[i] := by
  refine ⟨?_, fun i hi => (min_le _ _).2 _ (List.getElem_mem hi)⟩
  rcases min_mem 360000 ts with h1 | h1
  · unfold bestT; rw [h1]; omega
  · exact (h.num _ h1).1
theorem mod_bd {n u : Int} (hn : 0 ≤ n) (hu : 1 ≤ u) : 0 ≤ n % u ∧ n % u ≤ n := ⟨Int.emod_nonneg _ (by omega), by
  have h1 := Int.emod_add_mul_ediv n u
  have h2 : 0 ≤ n / u := Int.ediv_nonneg hn (by omega)
  have h3 : 0 ≤ u * (n / u) := Int.mul_nonneg (by omega) h2
  omega⟩
def tK38_df4bca4 : OT := chainT [1, 2, 3, 4, 5, 6, 7, 8, 9, 10, 0, 11, 12] (.nil)
set_option maxHeartbeats 1000000 in
theorem deficits_ca (w : World) (lo hi : Nat) (v : Value) (ts : List Int) (u : Int) (h : RdS w lo hi v (resL ts)) (hT : TsOk ts) (hu : 1 ≤ u ∧ u ≤ 600) : Ca Try.prog 116 [v, .agg #[.int .i64 u, .int .i64 360000]] w fun x w' => ∃ y : Value, x = .tuple #[y, .int .i64 0] ∧ Sat w M0 [.ow y 3 1 ts.length (ints (defL ts u ts.length))] w' := by
  have hn1 := hT.n1
  have hn2 := hT.n2
  have hrl := resL_len ts
  obtain ⟨a, c, rfl, ha⟩ := RdS.outI h
  obtain ⟨ab, ao, rfl⟩ := ha (by omega)
  rw [hrl] at h ⊢
  have hb0 := best_le hT
  have hld : ∀ i (hi3 : i < ts.length) (hi4 : i < (resL ts).length) (w' : World), Chg [] w w' → ∀ q, q < 2 → w'.cell? ⟨ab, ao + i * 2 + q, none⟩ = [Value.int .i64 ((i : Int) + 1), .int .i64 ts[i]][q]? := fun i hi3 hi4 w' hc q hq => by
    have := RdS.at (RdE.keep h hc) i hi4 q hq
    rw [resL_get ts hi4] at this
    exact this
  refine q_of (Sat.nil w M0) Try.func116 rfl (by simp [Try.ntmps116]) ?_
  (refine q_seq (q_region ?_))
  refine ql_box rfl rfl (fun b3 => ?_)
  (refine ql_pure tabOk rfl rfl (ql_pure tabOk rfl rfl (q_nil (q_seq (q_seq (q_region (ql_pure tabOk rfl rfl ?_)))))); refine ql_loadABa tabOk rfl rfl rfl ?_)
  refine ql_callv (val := .int .i64 0) tabOk rfl rfl rfl rfl (fun w hs => ?_) ?_; exact results_ca w lo hi _ ts u 360000 (RdE.keep h hs.chg0) hT hu (by omega)
  (refine ql_pure tabOk rfl rfl (q_nil (q_seq (q_region (ql_pure tabOk rfl rfl (ql_neqF tabOk rfl rfl rfl (by omega) (q_nil (q_cond_false rfl (q_skip (q_seq (q_region (ql_pure tabOk rfl rfl ?_))))))))))); refine q_nil (q_seq (q_seq (q_region ?_))); (iterate 3 refine ql_pure tabOk rfl rfl ?_); refine q_nil (q_block ?_))
  refine q_loop (σ := Nat) (fun i => i ≤ ts.length) (fun i => ts.length - i) (fun i => [(0, .slice (some ⟨ab, ao, none⟩) ts.length c), (3, .pointer (some ⟨b3, 0, none⟩)), (7, .int .i64 (minF 360000 (ts.take i))), (20, .slice (some ⟨ab, ao, none⟩) ts.length c), (21, .int .i64 ts.length), (22, .int .i64 i)]) (fun _ => [.pt b3 [.int .i64 u, .int .i64 360000] 117]) 0 (by omega) ⟨rfl, rfl, rfl, rfl, rfl, rfl, trivial⟩ (by repeat constructor) ?_
  rintro i hi1 K hK
  (refine q_seq (q_region (ql_pure tabOk rfl rfl (q_nil (q_seq ?_)))))
  refine q_if rfl (fun hc => ?_) (fun hc => ?_)
  · have hi2 : i < ts.length := by omega
    clear hc
    (refine q_skip (q_seq (q_block (q_seq (q_region ?_)))))
    refine ql_index tabOk rfl rfl rfl rfl rfl (by omega) (by omega) ?_
    refine ql_loadA (cs := [.int .i64 ((i : Int) + 1), .int .i64 ts[i]]) tabOk rfl rfl rfl rfl (fun w hs q hq => hld i hi2 (by omega) w hs.chg0 q hq) ?_
    skip
    refine ql_alloc zero112 rfl (fun b9 => ?_)
    (refine ql_setA tabOk rfl rfl rfl rfl rfl (by repeat constructor) rfl ?_; refine q_nil (q_region (ql_pure tabOk rfl rfl (ql_pure tabOk rfl rfl ?_))); refine ql_loadBa tabOk rfl rfl rfl ?_; refine ql_pure tabOk rfl rfl (ql_pure tabOk rfl rfl (q_nil (q_blk (q_region (ql_ar tabOk rfl rfl rfl rfl (by omega) (by omega) (ql_pure tabOk rfl rfl (q_nil ?_))))))))
    have e : minF 360000 (ts.take (i + 1)) = min (minF 360000 (ts.take i)) ts[i] := by rw [List.take_succ_eq_append_getElem hi2]; exact minF_snoc _ _ _
    exact hK (i + 1) _ _ (by omega) (by omega) ⟨rfl, rfl, by rw [e]; rfl, rfl, rfl, rfl, trivial⟩ (by repeat constructor)
  · obtain rfl : i = ts.length := by omega
    clear hc hK hi1
    rw [List.take_length]
    show Q _ _ _ _ _ _ _ ((_, _) :: (0, _) :: (3, _) :: (7, .int .i64 (bestT ts)) :: _) _
    (refine q_exit _ rfl (q_seq (q_region (ql_pure tabOk rfl rfl (q_nil (q_seq (q_seq (q_region ?_))))))); (iterate 3 refine ql_pure tabOk rfl rfl ?_); refine q_nil (q_block ?_))
    refine q_conv (H' := [.ow (.slice none 0 0) 3 1 0 (ints (defL ts u 0)), .pt b3 [.int .i64 u, .int .i64 360000] 117]) (fun w' hs => (Sat.ownil hs 3 1).sp (by repeat constructor)) ?_
    refine q_loop (σ := Nat × Value) (fun s => s.1 ≤ ts.length) (fun s => ts.length - s.1) (fun s => [(3, .pointer (some ⟨b3, 0, none⟩)), (7, .int .i64 (bestT ts)), (10, s.2), (31, .slice (some ⟨ab, ao, none⟩) ts.length c), (32, .int .i64 ts.length), (33, .int .i64 s.1)]) (fun s => [.ow s.2 3 1 s.1 (ints (defL ts u s.1)), .pt b3 [.int .i64 u, .int .i64 360000] 117]) (0, .slice none 0 0) (by simp only; omega) ⟨rfl, rfl, rfl, rfl, rfl, rfl, trivial⟩ (by repeat constructor) ?_
    rintro ⟨i, x⟩ hi1 K hK
    dsimp only at hi1 ⊢
    (refine q_seq (q_region (ql_pure tabOk rfl rfl (q_nil (q_seq ?_)))))
    refine q_if rfl (fun hc => ?_) (fun hc => ?_)
    · have hi2 : i < ts.length := by omega
      clear hc
      have hbi := hb0.2 i hi2
      have hti := hT.num _ (List.getElem_mem hi2)
      have hgi := getD_get hi2
      have hdv : defV ts u i = min ((ts[i] - bestT ts) - (ts[i] - bestT ts) % u) 360000 := by unfold defV; rw [hgi]
      have hmd := mod_bd (n := ts[i] - bestT ts) (u := u) (by omega) hu.1
      have hb00 := hb0.1
      (refine q_skip (q_seq (q_block (q_seq (q_region ?_)))))
      refine ql_index tabOk rfl rfl rfl rfl rfl (by omega) (by omega) ?_
      refine ql_loadA (cs := [.int .i64 ((i : Int) + 1), .int .i64 ts[i]]) tabOk rfl rfl rfl rfl (fun w hs q hq => hld i hi2 (by omega) w hs.chg0 q hq) ?_
      skip
      refine ql_alloc zero112 rfl (fun b12 => ?_)
      (refine ql_setA tabOk rfl rfl rfl rfl rfl (by repeat constructor) rfl ?_; refine q_nil (q_seq (q_region (ql_pure tabOk rfl rfl ?_))); refine ql_loadBa tabOk rfl rfl rfl ?_; refine ql_pure tabOk rfl rfl (ql_ar tabOk rfl rfl rfl rfl (by omega) (by omega) (ql_pure tabOk rfl rfl (q_nil ?_))))
      refine q_cut (σ := Value) (fun z => [(3, .pointer (some ⟨b3, 0, none⟩)), (7, .int .i64 (bestT ts)), (10, z), (31, .slice (some ⟨ab, ao, none⟩) ts.length c), (32, .int .i64 ts.length), (33, .int .i64 i)]) (fun z => [.ow z 3 1 (i + 1) (ints (defL ts u (i + 1))), .pt b3 [.int .i64 u, .int .i64 360000] 117]) ?_ ?_
      rotate_left
      · intro K2 hK2
        rw [def_succ, hdv] at hK2
        refine q_drawT (tK38_df4bca4) _ [.ow x 3 1 i (ints (defL ts u i))] (Sp.cons (by repeat constructor) (Sp.refl _)) (by kernel_rfl) (by kernel_rfl) ?_
        refine qt_seg (by repeat (first | exact PickL.nil | (apply PickL.cons; rfl))) fun K1 hK1 => ?_
        ((iterate 3 refine qf_pure tabOk rfl rfl rfl ?_); refine qf_loadBa tabOk rfl rfl rfl ?_; refine qf_remN rfl rfl rfl (by omega) (by omega) (qf_ar tabOk rfl rfl rfl rfl (by omega) (by omega) (qf_pure tabOk rfl rfl rfl ?_)); refine qf_loadBa tabOk rfl rfl rfl ?_; refine qf_pure tabOk rfl rfl rfl ?_)
        refine qf_mkS 3 [.int .i64 (min ((ts[i] - bestT ts) - (ts[i] - bestT ts) % u) 360000)] rfl (by kernel_rfl) rfl (fun bn => ?_)
        (refine qf_pure tabOk rfl rfl rfl ?_)
        refine qf_append (q := 1) (news := [.int .i64 (min ((ts[i] - bestT ts) - (ts[i] - bestT ts) % u) 360000)]) slI rfl rfl rfl (fun v' => by repeat constructor) (fun w' hs => ⟨_, _, Blk.rdN (hs.blk (b := bn) (by repeat constructor)) rfl⟩) (by simp [oneV]) (by omega) (by omega) (fun u' => ?_)
        (refine qf_pure tabOk rfl rfl rfl (qf_nil ?_))
        exact hK1 _ _ (qt_nil (hK2 u' _ _ ⟨rfl, rfl, rfl, rfl, rfl, rfl, trivial⟩ (by repeat constructor)))
      intro z
      (refine q_blk (q_region (ql_ar tabOk rfl rfl rfl rfl (by omega) (by omega) (ql_pure tabOk rfl rfl (q_nil ?_)))))
      exact hK (i + 1, z) _ _ (by simp only; omega) (by simp only; omega) ⟨rfl, rfl, rfl, rfl, rfl, rfl, trivial⟩ (by repeat constructor)
    · obtain rfl : i = ts.length := by omega
      (refine q_exit _ rfl (q_seq (q_region ?_)); (iterate 3 refine ql_pure tabOk rfl rfl ?_); refine q_nil (q_ret ?_))
      refine q_fin tabOk rfl (by repeat constructor) fun w hs => ?_
      exact ⟨x, rfl, hs.sp (by repeat constructor)⟩
end Go.Proofs.Ytcmpdmobmbbplaa

/- Walks: a pursuit. -/
namespace Go.Proofs.Ytcmpdmobmbbplaa
open Go Go.Eng

def dX (ts : List Int) (u : Int) (x : Int) : Int := defV ts u x.toNat
def tX (ts : List Int) (x : Int) : Int := ts.getD x.toNat 0
/-- What starts are sorted by: the deficit, then the time. -/
def purK (ts : List Int) (u : Int) (x : Int) : Int := dX ts u x * 1000000 + tX ts x
def purC (ts : List Int) (u : Int) (a b : Int) : Int := if cmpV (dX ts u a) (dX ts u b) = 0 then cmpV (tX ts a) (tX ts b) else cmpV (dX ts u a) (dX ts u b)
theorem purC_lt {ts : List Int} (hT : TsOk ts) (u : Int) : ∀ a ∈ iotaL ts.length, ∀ b ∈ iotaL ts.length, (purC ts u a b < 0 ↔ purK ts u a < purK ts u b) := fun a ha b hb => by
  have ha2 := iota_mem.1 ha
  have hb2 := iota_mem.1 hb
  have ta : 0 ≤ tX ts a ∧ tX ts a ≤ 360000 := by
    unfold tX
    rw [getD_get (by omega)]
    exact hT.num _ (List.getElem_mem _)
  have tb : 0 ≤ tX ts b ∧ tX ts b ≤ 360000 := by
    unfold tX
    rw [getD_get (by omega)]
    exact hT.num _ (List.getElem_mem _)
  unfold purC purK cmpV
  generalize dX ts u a = d1
  generalize dX ts u b = d2
  generalize tX ts a = t1 at ta ⊢
  generalize tX ts b = t2 at tb ⊢
  repeat' split
  all_goals omega
set_option maxHeartbeats 1000000 in
theorem purs1_ca (w : World) (lo hi lo2 hi2 b6 b2 t6 t2 : Nat) (ad : Option Addr) (cd : Nat) (al : Option Addr) (cl : Nat) (ts : List Int) (u : Int) (h6 : Blk w b6 [.slice ad ts.length cd] t6) (h2 : Blk w b2 [.slice al ts.length cl] t2) (hd : RdI w lo hi (.slice ad ts.length cd) (defL ts u ts.length)) (hl : RdS w lo2 hi2 (.slice al ts.length cl) (resL ts)) (i j : Nat) (hi' : i < ts.length) (hj : j < ts.length) :
    Ca Try.prog 117 [.int .i64 i, .int .i64 j, .pointer (some ⟨b6, 0, none⟩), .pointer (some ⟨b2, 0, none⟩)] w fun x w' => x = .int .i64 (purC ts u i j) ∧ Chg [] w w' := by
  have hdl := def_len ts u ts.length
  have hrl := resL_len ts
  obtain ⟨pa, pc, e1, ha1⟩ := RdI.outI hd
  obtain ⟨qa, qc, e2, ha2⟩ := RdS.outI hl
  injection e1 with e1 _ _
  injection e2 with e2 _ _
  rw [← e1] at ha1
  rw [← e2] at ha2
  obtain ⟨db, do', rfl⟩ := ha1 (by omega)
  obtain ⟨lb, lo', rfl⟩ := ha2 (by omega)
  have gd : ∀ k (hk : k < ts.length) (w' : World), Chg [] w w' → w'.cell? ⟨db, do' + k * 1, none⟩ = some (.int .i64 (dX ts u (k : Int))) := fun k hk w' hc => by
    have := RdI.at (RdE.keep hd hc) k (by omega)
    rw [def_get] at this
    exact this
  have gl : ∀ k (hk : k < ts.length) (w' : World), Chg [] w w' → w'.cell? ⟨lb, lo' + k * 2 + 1, none⟩ = some (.int .i64 (tX ts (k : Int))) := fun k hk w' hc => by
    have := RdS.at (RdE.keep hl hc) k (by omega) 1 (by omega)
    rw [resL_get ts (by omega)] at this
    rw [this]
    unfold tX
    rw [Int.toNat_natCast, getD_get hk]
    rfl
  refine q_of (Sat.nil w M0) Try.func117 rfl (by simp [Try.ntmps117]) ?_
  (refine q_seq (q_region (ql_pure tabOk rfl rfl (q_nil (q_seq ?_)))))
  refine q_draw _ [] (Sp.refl _) (by kernel_rfl) (by kernel_rfl) ?_
  (refine qf_loadP tabOk rfl rfl rfl (by assumption) (by rfl) ?_; refine qf_pure tabOk rfl rfl rfl ?_)
  refine qf_index tabOk rfl rfl rfl rfl rfl (by omega) (by omega) ?_
  refine qf_load1 (v := .int .i64 (dX ts u (i : Int))) tabOk rfl rfl rfl (fun w hs => gd i hi' w hs.chg0) ?_
  (refine qf_loadP tabOk rfl rfl rfl (by assumption) (by rfl) ?_; refine qf_pure tabOk rfl rfl rfl ?_)
  refine qf_index tabOk rfl rfl rfl rfl rfl (by omega) (by omega) ?_
  refine qf_load1 (v := .int .i64 (dX ts u (j : Int))) tabOk rfl rfl rfl (fun w hs => gd j hj w hs.chg0) ?_
  refine qf_callv (val := .int .i64 (cmpV (dX ts u (i : Int)) (dX ts u (j : Int)))) tabOk rfl rfl rfl rfl (fun w hs => ?_) ?_; exact compare_ca _ _ w
  (refine qf_loadP tabOk rfl rfl rfl (by assumption) (by rfl) ?_; refine qf_pure tabOk rfl rfl rfl ?_)
  refine qf_index tabOk rfl rfl rfl rfl rfl (by omega) (by omega) ?_
  (refine qf_pure tabOk rfl rfl rfl ?_)
  refine qf_load1 (v := .int .i64 (tX ts (i : Int))) tabOk rfl rfl rfl (fun w hs => gl i hi' w hs.chg0) ?_
  (refine qf_loadP tabOk rfl rfl rfl (by assumption) (by rfl) ?_; refine qf_pure tabOk rfl rfl rfl ?_)
  refine qf_index tabOk rfl rfl rfl rfl rfl (by omega) (by omega) ?_
  (refine qf_pure tabOk rfl rfl rfl ?_)
  refine qf_load1 (v := .int .i64 (tX ts (j : Int))) tabOk rfl rfl rfl (fun w hs => gl j hj w hs.chg0) ?_
  refine qf_callv (val := .int .i64 (cmpV (tX ts (i : Int)) (tX ts (j : Int)))) tabOk rfl rfl rfl rfl (fun w hs => ?_) ?_; exact compare_ca _ _ w
  skip
  refine qf_mkS 3 (ints [cmpV (dX ts u (i : Int)) (dX ts u (j : Int)), cmpV (tX ts (i : Int)) (tX ts (j : Int))]) rfl (by kernel_rfl) rfl (fun bn => ?_)
  skip
  refine qf_callv (val := .int .i64 (purC ts u i j)) tabOk rfl rfl rfl rfl (fun w hs => ?_) ?_; exact or_ca w 0 w.heap.size _ _ _ (Blk.rdI (c := 2) (l := [cmpV (dX ts u (i : Int)) (dX ts u (j : Int)), cmpV (tX ts (i : Int)) (tX ts (j : Int))]) (hs.blk (b := bn) (by repeat constructor)))
  (refine qf_pure tabOk rfl rfl rfl (qf_nil (q_ret ?_)))
  refine q_fin tabOk rfl (by repeat constructor) fun w hs => ?_
  exact ⟨rfl, hs.chg0⟩
/-- The start list, as bibs and times. -/
def outL (ts : List Int) (u : Int) (L : List Int) : List (Int × Int) := L.map fun x => (tX (bibL ts.length) x, dX ts u x)
def stC (l : List (Int × Int)) : List Value := l.flatMap fun p => [.int .i64 p.1, .int .i64 p.2, .int .i64 0]
theorem stC_snoc (l : List (Int × Int)) (p : Int × Int) : stC (l ++ [p]) = stC l ++ [.int .i64 p.1, .int .i64 p.2, .int .i64 0] := by simp [stC]
theorem stC_get : ∀ (Z : List (Int × Int)) (i q : Nat) (hi : i < Z.length), q < 3 → (stC Z)[i * 3 + q]? = [Value.int .i64 Z[i].1, .int .i64 Z[i].2, .int .i64 0][q]?
  | z :: Z, 0, q, _, hq => by
    obtain rfl | rfl | rfl : q = 0 ∨ q = 1 ∨ q = 2 := by omega
    all_goals rfl
  | z :: Z, i + 1, q, hi, hq => by
    have := stC_get Z i q (by simpa using hi) hq
    simp only [List.getElem_cons_succ, stC, List.flatMap_cons] at this ⊢
    rw [show (i + 1) * 3 + q = i * 3 + q + 1 + 1 + 1 from by omega]
    exact this
theorem st_at {w0 w : World} {Mp : Nat → Prop} {H : List Ck} {t m g c : Nat} {Z : List (Int × Int)} (hs : Sat w0 Mp H w) (hm : .ow (.slice (some ⟨g, 0, none⟩) m c) t 3 m (stC Z) ∈ H) {i : Nat} (hi : i < Z.length) : ∀ q, q < 3 → w.cell? ⟨g, 0 + i * 3 + q, none⟩ = [Value.int .i64 Z[i].1, .int .i64 Z[i].2, .int .i64 0][q]? := fun q hq => by
  have h1 := stC_get Z i q hi hq
  obtain ⟨x, hx⟩ : ∃ x, (stC Z)[i * 3 + q]? = some x := by
    obtain rfl | rfl | rfl : q = 0 ∨ q = 1 ∨ q = 2 := by omega
    all_goals exact ⟨_, h1⟩
  rw [← h1, hx, Nat.zero_add]
  exact own_cellS (hs.mem hm) (i * 3 + q) hx
theorem slSt : SlT Try.prog 113 120 3 24 (.agg #[.int .i64 0, .int .i64 0, .int .i64 0]) := ⟨by kernel_rfl, by kernel_rfl, by kernel_rfl, by decide⟩
def tK39_8fecd85 : OT := chainT [1, 2, 3, 4, 5, 6, 7, 8, 9, 10, 11, 0, 12, 13] (.nil)
set_option maxHeartbeats 2000000 in
theorem pursuit_ca (w : World) (lo hi : Nat) (v : Value) (ts : List Int) (u : Int) (h : RdS w lo hi v (resL ts)) (hT : TsOk ts) (hu : 1 ≤ u ∧ u ≤ 600) : Ca Try.prog 64 [v, .agg #[.int .i64 u, .int .i64 360000]] w fun x w' => ∃ y : Value × List Int, (x = .tuple #[y.1, .int .i64 0] ∧ y.2.Perm (iotaL ts.length) ∧ SrtK (purK ts u) y.2) ∧ Sat w M0 [.ow y.1 120 3 ts.length (stC (outL ts u y.2))] w' := by
  have hn1 := hT.n1
  have hn2 := hT.n2
  have hrl := resL_len ts
  have hdl := def_len ts u ts.length
  obtain ⟨al, cl, rfl, hal⟩ := RdS.outI h
  obtain ⟨lb, lof, rfl⟩ := hal (by omega)
  rw [hrl] at h ⊢
  refine q_of (Sat.nil w M0) Try.func64 rfl (by simp [Try.ntmps64]) ?_
  (refine q_seq (q_region ?_))
  refine ql_box rfl rfl (fun b2 => ?_)
  refine ql_box rfl rfl (fun b3 => ?_)
  (refine ql_pure tabOk rfl rfl (ql_pure tabOk rfl rfl (q_nil (q_seq (q_region ?_)))); refine ql_loadBa tabOk rfl rfl rfl ?_; refine ql_loadABa tabOk rfl rfl rfl ?_)
  refine ql_call (β := Value) tabOk [] _ M0 rfl rfl rfl rfl (Sp.refl _) (fun _ h => h.elim) (fun w' hs => deficits_ca w' lo hi _ ts u (RdE.keep h hs.chg0) hT hu) ?_
  rintro v6 _ rfl
  dsimp only [List.cons_append, List.nil_append]
  refine ql_fact (fun w hs => hs.ownSome (v := v6) (by repeat constructor) (by omega)) ?_
  rintro ⟨gd, cd, rfl⟩
  (refine ql_pure tabOk rfl rfl (ql_ext tabOk rfl rfl rfl (ql_ext tabOk rfl rfl rfl ?_)))
  refine ql_alloc zero26 rfl (fun b6 => ?_)
  (refine ql_set tabOk rfl rfl rfl rfl (by repeat constructor) ?_; refine ql_pure tabOk rfl rfl (q_nil (q_seq (q_seq (q_region (ql_pure tabOk rfl rfl (ql_neqF tabOk rfl rfl rfl (by omega) (q_nil (q_cond_false rfl (q_skip (q_seq (q_region ?_))))))))))); refine ql_pure tabOk rfl rfl (q_nil (q_seq (q_seq (q_region ?_)))); refine ql_loadBa tabOk rfl rfl rfl ?_; refine ql_pure tabOk rfl rfl (ql_pure tabOk rfl rfl (q_nil (q_block ?_))))
  refine q_conv (H' := [.ow (.slice none 0 0) 3 1 0 (ints (iotaL 0)), .ow (.slice (some ⟨gd, 0, none⟩) ts.length cd) 3 1 ts.length (ints (defL ts u ts.length)), .pt b6 [.slice (some ⟨gd, 0, none⟩) ts.length cd] 26, .pt b2 [.slice (some ⟨lb, lof, none⟩) ts.length cl] 110]) (fun w' hs => (Sat.ownil (hs.sp (H' := [.ow (.slice (some ⟨gd, 0, none⟩) ts.length cd) 3 1 ts.length (ints (defL ts u ts.length)), .pt b6 [.slice (some ⟨gd, 0, none⟩) ts.length cd] 26, .pt b2 [.slice (some ⟨lb, lof, none⟩) ts.length cl] 110]) (by repeat constructor)) 3 1).sp (by repeat constructor)) ?_
  refine q_loop (σ := Nat × Value) (fun y => y.1 ≤ ts.length) (fun y => ts.length - y.1) (fun y => [(2, .pointer (some ⟨b2, 0, none⟩)), (6, .pointer (some ⟨b6, 0, none⟩)), (8, y.2), (23, .int .i64 ts.length), (24, .int .i64 y.1)])
    (fun y => [.ow y.2 3 1 y.1 (ints (iotaL y.1)), .ow (.slice (some ⟨gd, 0, none⟩) ts.length cd) 3 1 ts.length (ints (defL ts u ts.length)), .pt b6 [.slice (some ⟨gd, 0, none⟩) ts.length cd] 26, .pt b2 [.slice (some ⟨lb, lof, none⟩) ts.length cl] 110]) (0, .slice none 0 0) (by simp only; omega) ⟨rfl, rfl, rfl, rfl, rfl, trivial⟩ (by repeat constructor) ?_
  rintro ⟨k, x⟩ hk K hK
  dsimp only at hk ⊢
  (refine q_seq (q_region (ql_pure tabOk rfl rfl (q_nil (q_seq ?_)))))
  refine q_if rfl (fun hc => ?_) (fun hc => ?_)
  · have hk2 : k < ts.length := by omega
    clear hc
    (refine q_skip (q_seq (q_block (q_seq (q_region (ql_pure tabOk rfl rfl (ql_pure tabOk rfl rfl (q_nil (q_region (ql_pure tabOk rfl rfl (ql_pure tabOk rfl rfl ?_)))))))))))
    refine ql_mkS 3 [.int .i64 k] rfl (by kernel_rfl) rfl (fun bn => ?_)
    skip
    refine ql_append (q := 1) (news := [.int .i64 k]) slI rfl rfl rfl (fun v' => by repeat constructor) (fun w' hs => ⟨_, _, Blk.rdN (hs.blk (b := bn) (by repeat constructor)) rfl⟩) (by simp [oneV]) (by omega) (by omega) (fun u' => ?_)
    (refine ql_pure tabOk rfl rfl (q_nil (q_blk (q_region (ql_ar tabOk rfl rfl rfl rfl (by omega) (by omega) (ql_pure tabOk rfl rfl (q_nil ?_)))))))
    exact hK (k + 1, u') _ _ (by simp only; omega) (by simp only; omega) ⟨rfl, rfl, rfl, rfl, rfl, trivial⟩ (by dsimp only; rw [iota_succ]; repeat constructor)
  · obtain rfl : k = ts.length := by omega
    clear hc hK hk
    refine q_fact (fun w hs => hs.ownSome (v := x) (by repeat constructor) (by omega)) ?_
    rintro ⟨b5, c5, rfl⟩
    (refine q_exit _ rfl (q_seq (q_region (ql_pure tabOk rfl rfl (ql_pure tabOk rfl rfl ?_)))))
    refine ql_call (β := List Int) (ψ := fun L v => v = .tuple #[] ∧ L.Perm (iotaL ts.length) ∧ SrtK (purK ts u) L) (L' := fun L => [.ow (.slice (some ⟨b5, 0, none⟩) ts.length c5) 3 1 ts.length (ints L)]) tabOk [.ow (.slice (some ⟨b5, 0, none⟩) ts.length c5) 3 1 ts.length (ints (iotaL ts.length))] [.ow (.slice (some ⟨gd, 0, none⟩) ts.length cd) 3 1 ts.length (ints (defL ts u ts.length)), .pt b6 [.slice (some ⟨gd, 0, none⟩) ts.length cd] 26, .pt b2 [.slice (some ⟨lb, lof, none⟩) ts.length cl] 110] (fun x => x = b5) rfl rfl rfl rfl (by repeat constructor) (fun x hx => ⟨_, .head _, by subst hx; rfl⟩) (fun w' hs => by
      have hcmp : CmpS w' b5 (.func (.func 117) #[] #[.pointer (some ⟨b6, 0, none⟩), .pointer (some ⟨b2, 0, none⟩)]) (purC ts u) (iotaL ts.length) := fun w2 hc2 x hx y hy => by
        have hx2 := iota_mem.1 hx
        have hy2 := iota_mem.1 hy
        have hc3 : ChgP (DL [Ck.ow (.slice (some ⟨b5, 0, none⟩) ts.length c5) 3 1 ts.length (ints (iotaL ts.length))]) w' w2 := (ChgP.refl _ w').upP hc2 fun k hk => .inl ⟨_, .head _, by subst hk; rfl⟩
        have hb2 : Blk w2 b2 [.slice (some ⟨lb, lof, none⟩) ts.length cl] 110 := hs.aside hc3 (x := .pt b2 [.slice (some ⟨lb, lof, none⟩) ts.length cl] 110) (by repeat constructor)
        have hb6 : Blk w2 b6 [.slice (some ⟨gd, 0, none⟩) ts.length cd] 26 := hs.aside hc3 (x := .pt b6 [.slice (some ⟨gd, 0, none⟩) ts.length cd] 26) (by repeat constructor)
        have hod : w2.ownsRow 0 3 1 (.slice (some ⟨gd, 0, none⟩) ts.length cd) ts.length (ints (defL ts u ts.length)) := hs.aside hc3 (x := .ow (.slice (some ⟨gd, 0, none⟩) ts.length cd) 3 1 ts.length (ints (defL ts u ts.length))) (by repeat constructor)
        have hc4 := hs.asideOld hc3
        obtain ⟨i, rfl⟩ := Int.eq_ofNat_of_zero_le hx2.1
        obtain ⟨j, rfl⟩ := Int.eq_ofNat_of_zero_le hy2.1
        exact CaF.of tabOk (by kernel_rfl) (purs1_ca w2 0 w2.heap.size lo hi b6 b2 _ _ _ cd _ cl ts u hb6 hb2 (own_rdI hod hdl.symm) (RdE.keep h hc4) i j (by omega) (by omega))
      have := sortS_ca w' b5 c5 (iotaL ts.length) (purK ts u) (.func (.func 117) #[] #[.pointer (some ⟨b6, 0, none⟩), .pointer (some ⟨b2, 0, none⟩)]) (purC ts u) (purC_lt hT u) (by rw [iota_len]; omega) (by rw [iota_len]; omega) (SrI.start _) hcmp (by rw [iota_len]; exact hs.all _ (.head _))
      rw [iota_len] at this
      exact this) ?_
    rintro L _ ⟨rfl, hp, hso⟩
    dsimp only [List.cons_append, List.nil_append]
    have hLl : L.length = ts.length := by rw [hp.length_eq, iota_len]
    (refine q_nil (q_seq (q_region (ql_pure tabOk rfl rfl (q_nil (q_seq (q_seq (q_region ?_))))))); (iterate 3 refine ql_pure tabOk rfl rfl ?_); refine q_nil (q_block ?_))
    refine q_conv (H' := [.ow (.slice none 0 0) 120 3 0 (stC (outL ts u (L.take 0))), .ow (.slice (some ⟨b5, 0, none⟩) ts.length c5) 3 1 ts.length (ints L), .ow (.slice (some ⟨gd, 0, none⟩) ts.length cd) 3 1 ts.length (ints (defL ts u ts.length)), .pt b6 [.slice (some ⟨gd, 0, none⟩) ts.length cd] 26, .pt b2 [.slice (some ⟨lb, lof, none⟩) ts.length cl] 110]) (fun w' hs => (Sat.ownil (hs.sp (H' := [.ow (.slice (some ⟨b5, 0, none⟩) ts.length c5) 3 1 ts.length (ints L), .ow (.slice (some ⟨gd, 0, none⟩) ts.length cd) 3 1 ts.length (ints (defL ts u ts.length)), .pt b6 [.slice (some ⟨gd, 0, none⟩) ts.length cd] 26, .pt b2 [.slice (some ⟨lb, lof, none⟩) ts.length cl] 110]) (by repeat constructor)) 120 3).sp (by repeat constructor)) ?_
    refine q_loop (σ := Nat × Value) (fun y => y.1 ≤ ts.length) (fun y => ts.length - y.1) (fun y => [(2, .pointer (some ⟨b2, 0, none⟩)), (6, .pointer (some ⟨b6, 0, none⟩)), (10, y.2), (35, .slice (some ⟨b5, 0, none⟩) ts.length c5), (36, .int .i64 ts.length), (37, .int .i64 y.1)])
      (fun y => [.ow y.2 120 3 y.1 (stC (outL ts u (L.take y.1))), .ow (.slice (some ⟨b5, 0, none⟩) ts.length c5) 3 1 ts.length (ints L), .ow (.slice (some ⟨gd, 0, none⟩) ts.length cd) 3 1 ts.length (ints (defL ts u ts.length)), .pt b6 [.slice (some ⟨gd, 0, none⟩) ts.length cd] 26, .pt b2 [.slice (some ⟨lb, lof, none⟩) ts.length cl] 110]) (0, .slice none 0 0) (by simp only; omega) ⟨rfl, rfl, rfl, rfl, rfl, rfl, trivial⟩ (by repeat constructor) ?_
    rintro ⟨k, x⟩ hk K hK
    dsimp only at hk ⊢
    (refine q_seq (q_region (ql_pure tabOk rfl rfl (q_nil (q_seq ?_)))))
    refine q_if rfl (fun hc => ?_) (fun hc => ?_)
    · have hk2 : k < ts.length := by omega
      have hk3 : k < L.length := by omega
      clear hc
      have hLm := iota_mem.1 (hp.subset (List.getElem_mem hk3))
      obtain ⟨i, hi⟩ := Int.eq_ofNat_of_zero_le hLm.1
      have hi2 : i < ts.length := by omega
      have eo : stC (outL ts u (L.take (k + 1))) = stC (outL ts u (L.take k)) ++ [.int .i64 ((i : Int) + 1), .int .i64 (dX ts u i), .int .i64 0] := by
        rw [List.take_succ_eq_append_getElem hk3]
        unfold outL
        rw [List.map_append, List.map_singleton, stC_snoc, hi]
        unfold tX
        rw [Int.toNat_natCast, getD_get (by rw [bib_len]; exact hi2), bib_get]
      (refine q_skip (q_seq (q_block (q_seq (q_region ?_)))))
      refine ql_index tabOk rfl rfl rfl rfl rfl (by omega) (by omega) ?_
      refine ql_load1 (v := .int .i64 (i : Int)) tabOk rfl rfl rfl (fun w hs => by
        have := RdI.at (hs.rdI (v := .slice (some ⟨b5, 0, none⟩) ts.length c5) (l := L) (t := 3) (n := ts.length) (by repeat constructor) hLl.symm) k hk3
        rw [hi] at this
        exact this) ?_
      (refine ql_pure tabOk rfl rfl (q_nil ?_))
      refine q_cut (σ := Value) (fun z => [(2, .pointer (some ⟨b2, 0, none⟩)), (6, .pointer (some ⟨b6, 0, none⟩)), (10, z), (35, .slice (some ⟨b5, 0, none⟩) ts.length c5), (36, .int .i64 ts.length), (37, .int .i64 k)]) (fun z => [.ow z 120 3 (k + 1) (stC (outL ts u (L.take (k + 1)))), .ow (.slice (some ⟨b5, 0, none⟩) ts.length c5) 3 1 ts.length (ints L), .ow (.slice (some ⟨gd, 0, none⟩) ts.length cd) 3 1 ts.length (ints (defL ts u ts.length)), .pt b6 [.slice (some ⟨gd, 0, none⟩) ts.length cd] 26, .pt b2 [.slice (some ⟨lb, lof, none⟩) ts.length cl] 110]) ?_ ?_
      rotate_left
      · intro K2 hK2
        rw [eo] at hK2
        refine q_drawT (tK39_8fecd85) _ [.ow x 120 3 k (stC (outL ts u (L.take k)))] (Sp.cons (by repeat constructor) (Sp.refl _)) (by kernel_rfl) (by kernel_rfl) ?_
        refine qt_seg (by repeat (first | exact PickL.nil | (apply PickL.cons; rfl))) fun K1 hK1 => ?_
        (refine qf_loadBa tabOk rfl rfl rfl ?_; refine qf_pure tabOk rfl rfl rfl ?_)
        refine qf_index tabOk rfl rfl rfl rfl rfl (by omega) (by omega) ?_
        (refine qf_pure tabOk rfl rfl rfl ?_)
        refine qf_load1 (v := .int .i64 ((i : Int) + 1)) tabOk rfl rfl rfl (fun w hs => by have := RdS.at (RdE.keep h hs.chg0) i (by omega) 0 (by omega); rw [resL_get ts (by omega)] at this; exact this) ?_
        (refine qf_loadBa tabOk rfl rfl rfl ?_; refine qf_pure tabOk rfl rfl rfl ?_)
        refine qf_index tabOk rfl rfl rfl rfl rfl (by omega) (by omega) ?_
        skip
        refine qf_load1 (v := .int .i64 (dX ts u i)) tabOk rfl rfl rfl (fun w hs => by have := RdI.at (hs.rdI (v := .slice (some ⟨gd, 0, none⟩) ts.length cd) (l := defL ts u ts.length) (t := 3) (n := ts.length) (by repeat constructor) hdl.symm) i (by omega); rw [def_get] at this; exact this) ?_
        skip
        refine qf_mk #[.int .i64 ((i : Int) + 1), .int .i64 (dX ts u i), .int .i64 0] rfl (by kernel_rfl) rfl ?_
        skip
        refine qf_mkS 120 [.int .i64 ((i : Int) + 1), .int .i64 (dX ts u i), .int .i64 0] rfl (by kernel_rfl) rfl (fun bn => ?_)
        (refine qf_pure tabOk rfl rfl rfl ?_)
        refine qf_append (q := 1) (news := [.int .i64 ((i : Int) + 1), .int .i64 (dX ts u i), .int .i64 0]) slSt rfl rfl rfl (fun v' => by repeat constructor) (fun w' hs => ⟨_, _, Blk.rdN (hs.blk (b := bn) (by repeat constructor)) rfl⟩) (by simp [oneV]) (by omega) (by omega) (fun u' => ?_)
        (refine qf_pure tabOk rfl rfl rfl (qf_nil ?_))
        exact hK1 _ _ (qt_nil (hK2 u' _ _ ⟨rfl, rfl, rfl, rfl, rfl, rfl, trivial⟩ (by repeat constructor)))
      intro z
      (refine q_blk (q_region (ql_ar tabOk rfl rfl rfl rfl (by omega) (by omega) (ql_pure tabOk rfl rfl (q_nil ?_)))))
      exact hK (k + 1, z) _ _ (by simp only; omega) (by simp only; omega) ⟨rfl, rfl, rfl, rfl, rfl, rfl, trivial⟩ (by repeat constructor)
    · obtain rfl : k = ts.length := by omega
      (refine q_exit _ rfl (q_seq (q_region ?_)); (iterate 3 refine ql_pure tabOk rfl rfl ?_); refine q_nil (q_ret ?_))
      refine q_fin tabOk rfl (by repeat constructor) fun w hs => ?_
      refine ⟨(x, L), ⟨rfl, hp, hso⟩, ?_⟩
      have h1 := hs.sp (H' := [.ow x 120 3 ts.length (stC (outL ts u (L.take ts.length)))]) (by repeat constructor)
      rw [← hLl, List.take_length, hLl] at h1
      exact h1
end Go.Proofs.Ytcmpdmobmbbplaa

/- Walks: where a start is in a list; the plain law of SkiPursued. -/
namespace Go.Proofs.Ytcmpdmobmbbplaa
open Go Go.Eng

theorem ediv_mono {a b u : Int} (h : a ≤ b) (hu : 1 ≤ u) : a - a % u ≤ b - b % u := by
  have h1 := Int.emod_add_mul_ediv a u
  have h2 := Int.emod_add_mul_ediv b u
  have h3 : a / u ≤ b / u := Int.ediv_le_ediv (by omega) h
  have h4 : u * (a / u) ≤ u * (b / u) := Int.mul_le_mul_of_nonneg_left h3 (by omega)
  omega
/-- Who is faster starts no later, and is before the other one in the list. -/
theorem pur_says {ts : List Int} {u : Int} (hu : 1 ≤ u) {L : List Int} (hp : L.Perm (iotaL ts.length)) (hs : SrtK (purK ts u) L) {i j : Nat} (hi : i < L.length) (hj : j < L.length) (ht : tX ts L[i] < tX ts L[j]) : i < j ∧ dX ts u L[i] ≤ dX ts u L[j] := by
  have hd : dX ts u L[i] ≤ dX ts u L[j] := by
    unfold dX defV
    have h1 : tX ts L[i] - bestT ts ≤ tX ts L[j] - bestT ts := by omega
    have h2 := ediv_mono h1 hu
    unfold tX at h2
    omega
  refine ⟨?_, hd⟩
  have hk : purK ts u L[i] < purK ts u L[j] := by unfold purK; omega
  rcases Nat.lt_trichotomy i j with h | h | h
  · exact h
  · subst h
    omega
  · have h3 := hs j i h hi
    rw [getD_get hi, getD_get hj] at h3
    unfold LtK at h3
    omega
theorem isS1_ca (w : World) (b t : Nat) (f s x y : Int) (hb : Blk w b [.int .i64 f, .int .i64 s] t) (hf : 0 ≤ f ∧ f ≤ 1000) : Ca Try.prog 66 [.agg #[.int .i64 x, .int .i64 y, .int .i64 0], .pointer (some ⟨b, 0, none⟩)] w fun v w' => v = .bool (decide (x = f + 1)) ∧ Chg [] w w' := by
  refine q_of (Sat.nil w M0) Try.func66 rfl (by simp [Try.ntmps66]) ?_
  by_cases h : x = f + 1
  · rw [decide_eq_true h]
    (refine q_seq (q_region ?_))
    refine ql_box rfl rfl (fun b2 => ?_)
    (refine ql_pure tabOk rfl rfl (q_nil (q_seq (q_region (ql_pure tabOk rfl rfl ?_)))); refine ql_loadBa tabOk rfl rfl rfl ?_; refine ql_pure tabOk rfl rfl ?_; refine ql_loadP tabOk rfl rfl rfl (by assumption) (by rfl) ?_; refine ql_ar tabOk rfl rfl rfl rfl (by omega) (by omega) (ql_eqlT tabOk rfl rfl rfl (by omega) (ql_pure tabOk rfl rfl (q_nil (q_ret ?_)))))
    refine q_fin tabOk rfl (by repeat constructor) fun w hs => ?_
    exact ⟨rfl, hs.chg0⟩
  · rw [decide_eq_false h]
    (refine q_seq (q_region ?_))
    refine ql_box rfl rfl (fun b2 => ?_)
    (refine ql_pure tabOk rfl rfl (q_nil (q_seq (q_region (ql_pure tabOk rfl rfl ?_)))); refine ql_loadBa tabOk rfl rfl rfl ?_; refine ql_pure tabOk rfl rfl ?_; refine ql_loadP tabOk rfl rfl rfl (by assumption) (by rfl) ?_; refine ql_ar tabOk rfl rfl rfl rfl (by omega) (by omega) (ql_eqlF tabOk rfl rfl rfl (by omega) (ql_pure tabOk rfl rfl (q_nil (q_ret ?_)))))
    refine q_fin tabOk rfl (by repeat constructor) fun w hs => ?_
    exact ⟨rfl, hs.chg0⟩
theorem isS2_ca (w : World) (b t : Nat) (f s x y : Int) (hb : Blk w b [.int .i64 f, .int .i64 s] t) (hf : 0 ≤ s ∧ s ≤ 1000) : Ca Try.prog 67 [.agg #[.int .i64 x, .int .i64 y, .int .i64 0], .pointer (some ⟨b, 0, none⟩)] w fun v w' => v = .bool (decide (x = s + 1)) ∧ Chg [] w w' := by
  refine q_of (Sat.nil w M0) Try.func67 rfl (by simp [Try.ntmps67]) ?_
  by_cases h : x = s + 1
  · rw [decide_eq_true h]
    (refine q_seq (q_region ?_))
    refine ql_box rfl rfl (fun b2 => ?_)
    (refine ql_pure tabOk rfl rfl (q_nil (q_seq (q_region (ql_pure tabOk rfl rfl ?_)))); refine ql_loadBa tabOk rfl rfl rfl ?_; refine ql_pure tabOk rfl rfl ?_; refine ql_loadP tabOk rfl rfl rfl (by assumption) (by rfl) ?_; refine ql_ar tabOk rfl rfl rfl rfl (by omega) (by omega) (ql_eqlT tabOk rfl rfl rfl (by omega) (ql_pure tabOk rfl rfl (q_nil (q_ret ?_)))))
    refine q_fin tabOk rfl (by repeat constructor) fun w hs => ?_
    exact ⟨rfl, hs.chg0⟩
  · rw [decide_eq_false h]
    (refine q_seq (q_region ?_))
    refine ql_box rfl rfl (fun b2 => ?_)
    (refine ql_pure tabOk rfl rfl (q_nil (q_seq (q_region (ql_pure tabOk rfl rfl ?_)))); refine ql_loadBa tabOk rfl rfl rfl ?_; refine ql_pure tabOk rfl rfl ?_; refine ql_loadP tabOk rfl rfl rfl (by assumption) (by rfl) ?_; refine ql_ar tabOk rfl rfl rfl rfl (by omega) (by omega) (ql_eqlF tabOk rfl rfl rfl (by omega) (ql_pure tabOk rfl rfl (q_nil (q_ret ?_)))))
    refine q_fin tabOk rfl (by repeat constructor) fun w hs => ?_
    exact ⟨rfl, hs.chg0⟩
/-- The place of a bib. -/
theorem idxSt_ca (w : World) (g m c : Nat) (cv : Value) (Z : List (Int × Int)) (n : Int) (hm : m = Z.length) (hm2 : m ≤ 1000) (h : ∀ w', Chg [] w w' → ∀ i (hi : i < Z.length), ∀ q, q < 3 → w'.cell? ⟨g, 0 + i * 3 + q, none⟩ = [Value.int .i64 Z[i].1, .int .i64 Z[i].2, .int .i64 0][q]?)
    (hcv : ∀ w', Chg [] w w' → ∀ p ∈ Z, CaF Try.prog cv [.agg #[.int .i64 p.1, .int .i64 p.2, .int .i64 0]] w' fun v w2 => v = .bool (decide (p.1 = n)) ∧ Chg [] w' w2) (hin : ∃ p ∈ Z, p.1 = n) :
    Ca Try.prog 65 [.slice (some ⟨g, 0, none⟩) m c, cv] w fun v w' => ∃ k : Nat, (v = .int .i64 k ∧ ∃ h : k < Z.length, Z[k].1 = n) ∧ Sat w M0 [] w' := by
  subst hm
  refine q_of (Sat.nil w M0) Try.func65 rfl (by simp [Try.ntmps65]) ?_
  (refine q_seq (q_region (ql_pure tabOk rfl rfl (q_nil (q_seq (q_seq (q_region ?_)))))); (iterate 3 refine ql_pure tabOk rfl rfl ?_); refine q_nil (q_block ?_))
  refine q_loop (σ := Nat) (fun i => i ≤ Z.length ∧ ∀ j (h : j < Z.length), j < i → Z[j].1 ≠ n) (fun i => Z.length - i) (fun i => [(0, .slice (some ⟨g, 0, none⟩) Z.length c), (1, cv), (7, .int .i64 Z.length), (8, .int .i64 i)]) (fun _ => []) 0 ⟨by omega, fun j _ h => by omega⟩ ⟨rfl, rfl, rfl, rfl, trivial⟩ (by repeat constructor) ?_
  rintro i ⟨hi1, hno⟩ K hK
  (refine q_seq (q_region (ql_pure tabOk rfl rfl (q_nil (q_seq ?_)))))
  refine q_if rfl (fun hc => ?_) (fun hc => ?_)
  · have hi2 : i < Z.length := by omega
    clear hc
    (refine q_skip (q_seq (q_block (q_seq (q_region (ql_pure tabOk rfl rfl (ql_pure tabOk rfl rfl (q_nil (q_seq (q_region ?_))))))))); (iterate 3 refine ql_pure tabOk rfl rfl ?_))
    refine ql_index tabOk rfl rfl rfl rfl rfl (by omega) (by omega) ?_
    refine ql_loadA (cs := [.int .i64 Z[i].1, .int .i64 Z[i].2, .int .i64 0]) tabOk rfl rfl rfl rfl (fun w hs q hq => h w hs.chg0 i hi2 q hq) ?_
    skip
    refine ql_callFv rfl rfl rfl (fun w hs => hcv w hs.chg0 _ (List.getElem_mem hi2)) ?_
    by_cases he : Z[i].1 = n
    · rw [decide_eq_true he]
      (refine q_nil (q_cond_true rfl (q_seq (q_region (ql_pure tabOk rfl rfl (ql_pure tabOk rfl rfl (q_nil (q_ret ?_))))))))
      refine q_fin tabOk rfl (by repeat constructor) fun w hs => ?_
      exact ⟨i, ⟨rfl, hi2, he⟩, hs.sp (by repeat constructor)⟩
    · rw [decide_eq_false he]
      (refine q_nil (q_cond_false rfl (q_skip (q_blk (q_region (ql_ar tabOk rfl rfl rfl rfl (by omega) (by omega) (ql_pure tabOk rfl rfl (q_nil ?_))))))))
      exact hK (i + 1) _ _ ⟨by omega, fun j hj hji => by
        by_cases e : j = i
        · subst e; exact he
        · exact hno j hj (by omega)⟩ (by omega) ⟨rfl, rfl, rfl, rfl, trivial⟩ (by repeat constructor)
  · exfalso
    obtain ⟨p, hp, he⟩ := hin
    obtain ⟨j, hj, rfl⟩ := List.mem_iff_getElem.1 hp
    exact hno j hj (by omega) he
end Go.Proofs.Ytcmpdmobmbbplaa

/- Lists of labs, and what is told of them. -/
namespace Go.Proofs.Ytcmpdmobmbbplaa
open Go Go.Eng

abbrev LbM := Lb × Option Addr × Nat
def labCs (M : List LbM) : List Value := M.flatMap fun m => [.int .i64 m.1.skis, .int .i64 m.1.err, .slice m.2.1 m.1.runs.length m.2.2]
def labOs (t : Nat) (M : List LbM) : List Ck := M.map fun m => .ow (.slice m.2.1 m.1.runs.length m.2.2) t 3 m.1.runs.length (rnC m.1.runs)
/-- Places that were told. -/
def plOs (t : Nat) (M : List LbM) (ps : List Value) : List Ck := (M.zip ps).map fun x => .ow x.2 t 2 x.1.1.n (spC (plC x.1.1 x.1.1.ord x.1.1.n))
/-- An array that is filled. -/
def filA (f : Nat → Int) (n j : Nat) : List Int := (List.range n).map fun i => if i < j then f i else 0
def lbM (M : List LbM) (i : Nat) : Lb := (M.getD i (⟨0, 0, []⟩, none, 0)).1
def oM (M : List LbM) (i : Nat) : Int := cnt (lbM M i).ord (lbM M i).n (2 ^ (lbM M i).n - 1)
def rM (M : List LbM) (k i : Nat) : Int := (planO (lbM M i).n k (lbM M i).ord : Nat)
/-- What all labs of a list have. -/
structure AllOk (sk : Nat) (m : LbM) : Prop where
  ok : m.1.Ok
  noC : NoC m.1.ord m.1.n
  skis : m.1.skis = (sk : Int)
theorem AllOk.n {sk : Nat} {m : LbM} (h : AllOk sk m) : m.1.n = sk := by unfold Lb.n; rw [h.skis]; omega
end Go.Proofs.Ytcmpdmobmbbplaa

/- Walks: all pairs of skis of which one is faster; whether a pair is among them. -/
namespace Go.Proofs.Ytcmpdmobmbbplaa
open Go Go.Eng

/-- The pairs with a faster ski of a list of skis. -/
def prA (o n : Nat) (L : List Nat) : List (Int × Int) := L.flatMap fun a => ((List.range n).filter fun b => fa o a b).map fun (b : Nat) => ((a : Int), (b : Int))
/-- All pairs of skis of which one is faster. -/
def fasL (o n : Nat) : List (Int × Int) := prA o n (List.range n)
/-- Those of the skis ahead of the k-th one, and the first ones of its own. -/
def fasI (o n a b : Nat) : List (Int × Int) := prA o n (List.range a) ++ ((List.range b).filter fun b => fa o a b).map fun (b : Nat) => ((a : Int), (b : Int))
theorem fasI_next (o n a : Nat) : fasI o n a n = fasI o n (a + 1) 0 := by
  unfold fasI prA
  rw [List.range_succ, List.flatMap_append]
  simp
theorem fasI_yes {o n a b : Nat} (h : fa o a b = true) : fasI o n a (b + 1) = fasI o n a b ++ [((a : Int), (b : Int))] := by
  unfold fasI
  rw [List.range_succ, List.filter_append, List.map_append, List.append_assoc]
  simp [h]
theorem fasI_no {o n a b : Nat} (h : fa o a b = false) : fasI o n a (b + 1) = fasI o n a b := by
  unfold fasI
  rw [List.range_succ, List.filter_append, List.map_append]
  simp [h]
theorem fasI_all (o n : Nat) : fasI o n n 0 = fasL o n := by unfold fasI fasL; simp
theorem fasI_len {o n : Nat} : ∀ a b, b ≤ n → (fasI o n a b).length ≤ a * n + b
  | 0, b, _ => by
    unfold fasI prA
    have := List.length_filter_le (fun c => fa o 0 c) (List.range b)
    rw [List.length_range] at this
    simp
    exact this
  | a + 1, b, hb => by
    have ih := fasI_len (o := o) a n (Nat.le_refl _)
    rw [fasI_next] at ih
    have h1 := List.length_filter_le (fun c => fa o (a + 1) c) (List.range b)
    rw [List.length_range] at h1
    unfold fasI at ih ⊢
    rw [List.length_append, List.length_map] at ih ⊢
    simp only [List.range_zero, List.filter_nil, List.length_nil, Nat.add_zero] at ih
    rw [Nat.add_mul, Nat.one_mul]
    omega
theorem slP : SlT Try.prog 58 63 2 16 (.agg #[.int .i64 0, .int .i64 0]) := ⟨by kernel_rfl, by kernel_rfl, by kernel_rfl, by decide⟩
theorem spC_snoc (l : List (Int × Int)) (p : Int × Int) : spC (l ++ [p]) = spC l ++ [.int .i64 p.1, .int .i64 p.2] := by simp [spC]
set_option maxHeartbeats 1000000 in
theorem faster_ok (w : World) (lo hi : Nat) (l : Lb) (v : Value) (h : RdR w lo hi v l.runs) (hl : l.Ok) (hn : NoC l.ord l.n) : Ca Try.prog 25 [.agg (lbC l v).toArray] w fun x w' => ∃ u : Value, x = .tuple #[u, .int .i64 0] ∧ Sat w M0 [.ow u 63 2 (fasL l.ord l.n).length (spC (fasL l.ord l.n))] w' := by
  obtain ⟨n, en, hn', h8, h1⟩ := hl.nat
  rw [hn']
  refine q_of (Sat.nil w M0) Try.func25 rfl (by simp [Try.ntmps25]) ?_
  (refine q_seq (q_region ?_))
  refine ql_box rfl rfl (fun b1 => ?_)
  rw [agg_cells]
  (refine ql_pure tabOk rfl rfl (ql_pure tabOk rfl rfl (q_nil (q_seq (q_region ?_)))); refine ql_loadABa tabOk rfl rfl rfl ?_)
  refine ql_call (β := Nat) tabOk [] _ M0 rfl rfl rfl rfl (Sp.refl _) (fun _ h => h.elim) (fun w' hs => agreed_ok w' lo hi l v (RdE.keep h hs.chg0) hl hn) ?_
  rintro b _ rfl
  dsimp only [List.cons_append, List.nil_append]
  (refine ql_pure tabOk rfl rfl (ql_ext tabOk rfl rfl rfl (ql_ext tabOk rfl rfl rfl (ql_pure tabOk rfl rfl (ql_pure tabOk rfl rfl (q_nil (q_seq (q_seq (q_region (ql_pure tabOk rfl rfl (ql_neqF tabOk rfl rfl rfl (by omega) (q_nil ?_))))))))))); refine q_cond_false rfl (q_skip (q_seq (q_region (ql_pure tabOk rfl rfl (q_nil (q_seq (q_seq (q_region ?_)))))))); (iterate 4 refine ql_pure tabOk rfl rfl ?_); refine ql_loadBa tabOk rfl rfl rfl ?_; refine ql_pure tabOk rfl rfl (q_nil (q_block ?_)))
  rw [en]
  refine q_conv (H' := [.ow (.slice none 0 0) 63 2 (fasI l.ord n 0 0).length (spC (fasI l.ord n 0 0)), .pt b (dkC l v l.ord) 136]) (fun w' hs => (Sat.ownil hs 63 2).sp (by repeat constructor)) ?_
  refine q_loop (σ := Nat × Value) (fun y => y.1 ≤ n) (fun y => n - y.1) (fun y => [(4, .pointer (some ⟨b, 0, none⟩)), (6, y.2), (21, .int .i64 n), (22, .int .i64 y.1)]) (fun y => [.ow y.2 63 2 (fasI l.ord n y.1 0).length (spC (fasI l.ord n y.1 0)), .pt b (dkC l v l.ord) 136]) (0, .slice none 0 0) (by simp only; omega) ⟨rfl, rfl, rfl, rfl, trivial⟩ (by repeat constructor) ?_
  rintro ⟨x, u⟩ hs1 K hK
  dsimp only at hs1 ⊢
  (refine q_seq (q_region (ql_pure tabOk rfl rfl (q_nil (q_seq ?_)))))
  refine q_if rfl (fun hc => ?_) (fun hc => ?_)
  · have hs2 : x < n := by omega
    clear hc
    (refine q_skip (q_seq (q_block (q_seq (q_region (ql_pure tabOk rfl rfl (ql_pure tabOk rfl rfl (q_nil (q_seq (q_region ?_))))))))); (iterate 4 refine ql_pure tabOk rfl rfl ?_); refine ql_loadBa tabOk rfl rfl rfl ?_; refine ql_pure tabOk rfl rfl (q_nil (q_block ?_)))
    rw [en]
    refine q_loop (σ := Nat × Value) (fun y => y.1 ≤ n) (fun y => n - y.1) (fun y => [(4, .pointer (some ⟨b, 0, none⟩)), (6, y.2), (7, .int .i64 x), (21, .int .i64 n), (22, .int .i64 x), (29, .int .i64 n), (30, .int .i64 y.1)]) (fun y => [.ow y.2 63 2 (fasI l.ord n x y.1).length (spC (fasI l.ord n x y.1)), .pt b (dkC l v l.ord) 136]) (0, u) (by simp only; omega) ⟨rfl, rfl, rfl, rfl, rfl, rfl, rfl, trivial⟩ (by repeat constructor) ?_
    clear hs1
    rintro ⟨y, u⟩ hs1 K2 hK2
    dsimp only at hs1 ⊢
    (refine q_seq (q_region (ql_pure tabOk rfl rfl (q_nil (q_seq ?_)))))
    refine q_if rfl (fun hc => ?_) (fun hc => ?_)
    · have hs3 : y < n := by omega
      clear hc
      (refine q_skip (q_seq (q_block (q_seq (q_region (ql_pure tabOk rfl rfl (ql_pure tabOk rfl rfl (q_nil (q_seq (q_region ?_))))))))); (iterate 5 refine ql_pure tabOk rfl rfl ?_))
      refine ql_indexA (len := 8) o_arr rfl rfl rfl (by omega) (by omega) ?_
      skip
      refine ql_indexA (len := 8) r_arr rfl rfl rfl (by omega) (by omega) ?_
      skip
      refine ql_load1 (v := .bool (fa l.ord x y)) tabOk rfl rfl rfl (fun w hs => d_cell (hs.blk (by repeat constructor)) x y (by omega) (by omega) (by omega)) ?_
      cases hx : fa l.ord x y with
      | true =>
        have hlen := fasI_len (o := l.ord) (n := n) x y (by omega)
        have hxn : x * n ≤ 8 * 8 := Nat.mul_le_mul (by omega) h8
        (refine q_nil (q_cond_true rfl (q_region ?_)); (iterate 3 refine ql_pure tabOk rfl rfl ?_))
        refine ql_mk #[.int .i64 x, .int .i64 y] rfl (by kernel_rfl) rfl ?_
        skip
        refine ql_mkS 63 [.int .i64 x, .int .i64 y] rfl (by kernel_rfl) rfl (fun bn => ?_)
        skip
        refine ql_append (q := 1) (news := [.int .i64 x, .int .i64 y]) slP rfl rfl rfl (fun v' => by repeat constructor) (fun w' hs => ⟨_, _, Blk.rdN (hs.blk (b := bn) (by repeat constructor)) rfl⟩) (by simp [oneV]) (by omega) (by omega) (fun u' => ?_)
        (refine ql_pure tabOk rfl rfl (q_nil (q_blk (q_region (ql_ar tabOk rfl rfl rfl rfl (by omega) (by omega) (ql_pure tabOk rfl rfl (q_nil ?_)))))))
        exact hK2 (y + 1, u') _ _ (by simp only; omega) (by simp only; omega) ⟨rfl, rfl, rfl, rfl, rfl, rfl, rfl, trivial⟩ (by dsimp only; rw [fasI_yes hx, spC_snoc, List.length_append, List.length_singleton]; repeat constructor)
      | false =>
        (refine q_nil (q_cond_false rfl (q_skip (q_blk (q_region (ql_ar tabOk rfl rfl rfl rfl (by omega) (by omega) (ql_pure tabOk rfl rfl (q_nil ?_))))))))
        exact hK2 (y + 1, u) _ _ (by simp only; omega) (by simp only; omega) ⟨rfl, rfl, rfl, rfl, rfl, rfl, rfl, trivial⟩ (by dsimp only; rw [fasI_no hx]; repeat constructor)
    · obtain rfl : y = n := by omega
      (refine q_exit _ rfl (q_blk (q_region (ql_ar tabOk rfl rfl rfl rfl (by omega) (by omega) (ql_pure tabOk rfl rfl (q_nil ?_))))))
      exact hK (x + 1, u) _ _ (by simp only; omega) (by simp only; omega) ⟨rfl, rfl, rfl, rfl, trivial⟩ (by dsimp only; rw [← fasI_next]; repeat constructor)
  · obtain rfl : x = n := by omega
    (refine q_exit _ rfl (q_seq (q_region ?_)); (iterate 3 refine ql_pure tabOk rfl rfl ?_); refine q_nil (q_ret ?_))
    refine q_fin tabOk rfl (by repeat constructor) fun w hs => ?_
    exact ⟨u, rfl, by rw [← fasI_all]; exact hs.sp (by repeat constructor)⟩
/-- Where a pair is, or -1. -/
def idxP (L : List (Int × Int)) (p : Int × Int) : Int := if p ∈ L then (L.idxOf p : Int) else -1
end Go.Proofs.Ytcmpdmobmbbplaa

/- The plain law of SkiEnded. -/
namespace Go.Proofs.Ytcmpdmobmbbplaa

/-- Further runs that show a ski to be faster than all that are not faster than it. -/
def earL (l : Lb) (x : Nat) : Nat → Lb
  | 0 => l
  | k + 1 => if k = x ∨ fa l.ord k x = true then earL l x k else (earL l x k).add ⟨x, k, (earL l x k).err + 1⟩
def latL (l : Lb) (x : Nat) : Nat → Lb
  | 0 => l
  | k + 1 => if k = x ∨ fa l.ord x k = true then latL l x k else (latL l x k).add ⟨k, x, (latL l x k).err + 1⟩
theorem run_more {e : Int} {a b : Nat} (he : 0 ≤ e) : runV e ⟨a, b, e + 1⟩ = some (a, b) := by
  unfold runV
  rw [if_pos (show e < e + 1 by omega), Int.toNat_natCast, Int.toNat_natCast]
structure More (l m : Lb) (k : Nat) (R : Nat × Nat → Prop) : Prop where
  sk : m.skis = l.skis
  err : m.err = l.err
  ok : m.Ok
  len : m.runs.length ≤ l.runs.length + k
  has : ∀ p, p ∈ m.pairs ↔ p ∈ l.pairs ∨ R p
theorem More.n {l m : Lb} {k : Nat} {R : Nat × Nat → Prop} (h : More l m k R) : m.n = l.n := by unfold Lb.n; rw [h.sk]
theorem More.le {l m : Lb} {k : Nat} {R : Nat × Nat → Prop} (h : More l m k R) (hl : l.Ok) : LeO l.ord m.ord := order_le hl.in8 h.ok.in8 fun p hp => (h.has p).2 (.inl hp)
theorem More.add {l m : Lb} {k a b : Nat} {R R' : Nat × Nat → Prop} (h : More l m k R) (ha : a < l.n) (hb : b < l.n) (hne : a ≠ b) (hlen : l.runs.length + k < 40) (hR : ∀ p, R' p ↔ R p ∨ p = (a, b)) : More l (m.add ⟨a, b, m.err + 1⟩) (k + 1) R' := by
  have hs0 := h.ok.s0
  have hs1 := h.ok.s1
  have he0 := h.ok.e0
  have he1 := h.ok.e1
  have hsk := h.sk
  have hl := h.len
  have ha2 : (a : Int) < m.skis := by unfold Lb.n at ha; omega
  have hb2 : (b : Int) < m.skis := by unfold Lb.n at hb; omega
  refine ⟨h.sk, h.err, h.ok.add (by omega) (run_ok (by omega) (by omega) (by omega) (by omega)), ?_, fun p => ?_⟩
  · show (m.runs ++ [_]).length ≤ _
    rw [List.length_append, List.length_singleton]
    omega
  · rw [add_pairs, run_more he0, hR, List.mem_append, h.has]
    simp only [Option.toList, List.mem_singleton]
    exact or_assoc
theorem More.up {l m : Lb} {k : Nat} {R R' : Nat × Nat → Prop} (h : More l m k R) (hR : ∀ p, R' p ↔ R p) : More l m (k + 1) R' :=
  ⟨h.sk, h.err, h.ok, by have := h.len; omega, fun p => by rw [h.has, hR]⟩
theorem More.start {l : Lb} {R : Nat × Nat → Prop} (h : l.Ok) (hR : ∀ p, ¬ R p) : More l l 0 R := ⟨rfl, rfl, h, by omega, fun p => by simp [hR p]⟩
end Go.Proofs.Ytcmpdmobmbbplaa

/- Labs that grow, and what is read of them. -/
namespace Go.Proofs.Ytcmpdmobmbbplaa
open Go Go.Eng

theorem madeK {w0 w : World} {R : List Ck} {b K : Nat} {bs : Value} {most runs : Nat} (hby : DkB w0 0 w0.heap.size bs) (hs : Sat w0 M0 (dkP bs b K :: R) w) (h1 : 2 ≤ most) (h2 : most ≤ 8) (h3 : runs ≤ 20) (hK : K < 100000) :
    Ca Try.prog 11 [.pointer (some ⟨b, 0, none⟩), .int .i64 most, .int .i64 runs] w fun v w' => ∃ y : Value × Value × Lb × List Int, (v = .tuple #[.agg (lbC y.2.2.1 y.1).toArray, y.2.1] ∧ MadeL most runs y.2.2.1 y.2.2.2) ∧ Sat w (fun x => x = b) [.ow y.1 33 3 y.2.2.1.runs.length (rnC y.2.2.1.runs), .ow y.2.1 3 1 y.2.2.2.length (ints y.2.2.2), dkP bs b (K + 100)] w' :=
  made_ca most runs h1 h2 h3 K hK w b 0 w0.heap.size bs (hby.keep hs.chg0) (dk_new hs) (hs.all _ (.head _))
/-- The slice of a lab's runs. -/
abbrev slV (m : LbM) : Value := .slice m.2.1 m.1.runs.length m.2.2
theorem lab_in {w0 w : World} {Mp : Nat → Prop} {H : List Ck} {t : Nat} {M : List LbM} (hs : Sat w0 Mp H w) (hm : un (labOs t M) ∈ H) {m : LbM} (hi : m ∈ M) : RdR w 0 w.heap.size (slV m) m.1.runs :=
  own_rdR (t := t) ((hs.mem hm).1 (.ow (slV m) t 3 m.1.runs.length (rnC m.1.runs)) (List.mem_map.2 ⟨_, hi, rfl⟩)) rfl
theorem labOs_one {w0 w : World} {Mp : Nat → Prop} {R : List Ck} {t : Nat} {m : LbM} (h : Sat w0 Mp (.ow (slV m) t 3 m.1.runs.length (rnC m.1.runs) :: R) w) : Sat w0 Mp (un (labOs t [m]) :: R) w := Sat.un_iff.2 h
theorem sp_at {w0 w : World} {Mp : Nat → Prop} {H : List Ck} {t m g c : Nat} {L : List (Int × Int)} {x1 x2 : Int} (hs : Sat w0 Mp H w) (hm : .ow (.slice (some ⟨g, 0, none⟩) m c) t 2 m (spC L) ∈ H) (hl : m = L.length) {i : Nat} (hi : i < L.length) (hx : L[i] = (x1, x2)) : ∀ q, q < 2 → w.cell? ⟨g, 0 + i * 2 + q, none⟩ = [Value.int .i64 x1, .int .i64 x2][q]? := fun q hq => by
  have := RdS.at (own_rdS (t := t) (hs.mem hm) hl) i hi q hq
  rw [hx] at this
  exact this
end Go.Proofs.Ytcmpdmobmbbplaa

/- SkiPursued. -/
namespace Go.Proofs.Ytcmpdmobmbbplaa
open Go Go.Eng

theorem slRes : SlT Try.prog 110 112 2 16 (.agg #[.int .i64 0, .int .i64 0]) := ⟨by kernel_rfl, by kernel_rfl, by kernel_rfl, by decide⟩
theorem fas_cast {o n : Nat} {p : Int × Int} (h : p ∈ fasL o n) : ∃ a b : Nat, p = ((a : Int), (b : Int)) ∧ a < n ∧ b < n ∧ fa o a b = true := by
  have h2 := h
  unfold fasL prA at h2
  obtain ⟨a, ha, h3⟩ := List.mem_flatMap.1 h2
  obtain ⟨b, hb, rfl⟩ := List.mem_map.1 h3
  obtain ⟨h4, h5⟩ := List.mem_filter.1 hb
  exact ⟨a, b, rfl, List.mem_range.1 ha, List.mem_range.1 h4, h5⟩
/-- Times that are less the faster a ski is. -/
def timL (real : List Int) : List Int := real.map fun x => 9000 - 3 * x
theorem tim_len (real : List Int) : (timL real).length = real.length := by simp [timL]
theorem tim_get {real : List Int} {i : Nat} (h : i < (timL real).length) : (timL real)[i] = 9000 - 3 * real[i]'(by rw [tim_len] at h; exact h) := by simp [timL]
theorem tX_tim {real : List Int} {i : Nat} (h : i < real.length) : tX (timL real) (i : Int) = 9000 - 3 * real.getD i 0 := by
  unfold tX
  rw [Int.toNat_natCast, getD_get (by rw [tim_len]; exact h), tim_get, getD_get h]
def resK (real : List Int) (k : Nat) : List (Int × Int) := (resL (timL real)).take k
theorem resK_succ {real : List Int} {k : Nat} (h : k < real.length) : spC (resK real (k + 1)) = spC (resK real k) ++ [.int .i64 ((k : Int) + 1), .int .i64 (9000 - 3 * real[k])] := by
  have h2 : k < (resL (timL real)).length := by rw [resL_len, tim_len]; exact h
  unfold resK
  rw [List.take_succ_eq_append_getElem h2, spC_snoc, resL_get _ h2, tim_get]
theorem resK_all (real : List Int) : resK real real.length = resL (timL real) := by
  unfold resK
  rw [List.take_of_length_le (by rw [resL_len, tim_len]; exact Nat.le_refl _)]
theorem bib_at {n i : Nat} (h : i < n) : tX (bibL n) (i : Int) = (i : Int) + 1 := by
  unfold tX
  rw [Int.toNat_natCast, getD_get (by rw [bib_len]; exact h), bib_get]
set_option maxHeartbeats 8000000 in
set_option maxRecDepth 20000 in
theorem skiPursued_ca (w : World) (a : Option Addr) (nb cb : Nat) (a1 : Int) (ha1 : 0 ≤ a1 ∧ a1 < 256) (hbyb1 : DkB w 0 w.heap.size (.slice a nb cb)) :
    Ca Try.prog 10 [.slice a nb cb, .int .u8 a1] w fun r w' => r = .bool true ∧ Chg [] w w' := by
  refine q_of (Sat.nil w M0) Try.func10 rfl (by simp [Try.ntmps10]) ?_
  (refine q_seq (q_region (ql_pure tabOk rfl rfl (q_nil (q_seq (q_region (ql_pure tabOk rfl rfl ?_)))))))
  refine ql_call (β := Nat) tabOk [] _ M0 rfl rfl rfl rfl (Sp.refl _) (fun _ h => h.elim) (fun w' hs => of_ca w' a nb cb) ?_
  rintro b1 _ rfl
  dsimp only [List.cons_append, List.nil_append]
  refine ql_call (β := Value × Value × Lb × List Int) (ψ := fun y v => v = .tuple #[.agg (lbC y.2.2.1 y.1).toArray, y.2.1] ∧ MadeL 8 16 y.2.2.1 y.2.2.2) (L' := fun y => [.ow y.1 33 3 y.2.2.1.runs.length (rnC y.2.2.1.runs), .ow y.2.1 3 1 y.2.2.2.length (ints y.2.2.2), dkP (.slice a nb cb) b1 (0 + 100)]) tabOk [dkP (.slice a nb cb) b1 0] _ (fun x => x = b1) rfl rfl rfl rfl (Sp.cons (by repeat constructor) (Sp.refl _)) (fun x hx => ⟨_, .head _, hx⟩) (fun w' hs => madeK (most := 8) (runs := 16) hbyb1 hs (by omega) (by omega) (by omega) (by omega)) ?_
  rintro ⟨v, rv, ⟨ls, err, runs⟩, real⟩ _ ⟨rfl, hm⟩
  dsimp only [List.cons_append, List.nil_append, lbC] at hm ⊢
  have hok := hm.ok
  have hs2 : 2 ≤ ls := hm.s2
  have hsm : ls ≤ 8 := hm.sm
  have he0 : 0 ≤ err := hok.e0
  have he12 : err ≤ 11 := hm.e12
  have hlen : runs.length ≤ 16 := hm.len
  obtain ⟨sk, rfl⟩ := Int.eq_ofNat_of_zero_le (show 0 ≤ ls by omega)
  have hln : (⟨(sk : Int), err, runs⟩ : Lb).n = sk := by unfold Lb.n; simp
  have hNC := true_noC hok hm.tr
  refine ql_fact (fun w hs => hs.slice2 (v := v) (by repeat constructor)) ?_
  rintro ⟨va, vc, rfl⟩
  have hrl2 : real.length = sk := by rw [hm.rl, hln]
  refine ql_fact (fun w hs => hs.ownSome (v := rv) (by repeat constructor) (by omega)) ?_
  rintro ⟨rg, rc, rfl⟩
  (refine ql_pure tabOk rfl rfl (ql_ext tabOk rfl rfl rfl (ql_ext tabOk rfl rfl rfl ?_)))
  refine ql_alloc zero25 rfl (fun b5 => ?_)
  have hrb := hm.rb
  (refine ql_setA tabOk rfl rfl rfl rfl rfl (by repeat constructor) rfl ?_; refine ql_pure tabOk rfl rfl (q_nil (q_seq (q_region (ql_pure tabOk rfl rfl (q_nil (q_seq (q_seq (q_region ?_)))))))); (iterate 3 refine ql_pure tabOk rfl rfl ?_); refine q_nil (q_block ?_))
  rw [hrl2]
  generalize hL : (⟨(sk : Int), err, runs⟩ : Lb) = l at hm hok hln hNC
  have hls : l.skis = (sk : Int) := by rw [← hL]
  have hle : l.err = err := by rw [← hL]
  have hlr : l.runs = runs := by rw [← hL]
  refine q_conv (H' := [.ow (.slice none 0 0) 112 2 0 (spC (resK real 0)), .pt b5 (lbC l (.slice va l.runs.length vc)) 25, un (labOs 33 [(l, va, vc)]), .ow (.slice (some ⟨rg, 0, none⟩) sk rc) 3 1 sk (ints real)]) (fun w' hs => by
    subst hL
    have h1 := (labOs_one (m := ((⟨(sk : Int), err, runs⟩ : Lb), va, vc)) (R := [.pt b5 (lbC (⟨(sk : Int), err, runs⟩ : Lb) (.slice va runs.length vc)) 25, .ow (.slice (some ⟨rg, 0, none⟩) sk rc) 3 1 sk (ints real)]) (hs.sp (by repeat constructor)))
    have h2 := Sat.ownil h1 112 2
    exact h2.sp (by repeat constructor)) ?_
  refine q_loop (σ := Nat × Value) (fun s => s.1 ≤ sk) (fun s => sk - s.1) (fun s => [(1, .int .u8 a1), (5, .pointer (some ⟨b5, 0, none⟩)), (7, s.2), (24, .slice (some ⟨rg, 0, none⟩) sk rc), (25, .int .i64 sk), (26, .int .i64 s.1)]) (fun s => [.ow s.2 112 2 s.1 (spC (resK real s.1)), .pt b5 (lbC l (.slice va l.runs.length vc)) 25, un (labOs 33 [(l, va, vc)]), .ow (.slice (some ⟨rg, 0, none⟩) sk rc) 3 1 sk (ints real)]) (0, .slice none 0 0) (by simp only; omega) ⟨rfl, rfl, rfl, rfl, rfl, rfl, trivial⟩ (by repeat constructor) ?_
  rintro ⟨k, u⟩ hk K hK
  dsimp only at hk ⊢
  (refine q_seq (q_region (ql_pure tabOk rfl rfl (q_nil (q_seq ?_)))))
  refine q_if rfl (fun hc => ?_) (fun hc => ?_)
  · have hk2 : k < real.length := by omega
    clear hc
    have hb := hrb _ (List.getElem_mem hk2)
    (refine q_skip (q_seq (q_block (q_seq (q_region (ql_pure tabOk rfl rfl ?_))))))
    refine ql_index tabOk rfl rfl rfl rfl rfl (by omega) (by omega) ?_
    refine ql_load1 (v := .int .i64 real[k]) tabOk rfl rfl rfl (fun w hs => RdI.at (hs.rdI (v := .slice (some ⟨rg, 0, none⟩) sk rc) (l := real) (t := 3) (n := sk) (by repeat constructor) hrl2.symm) k hk2) ?_
    (refine ql_pure tabOk rfl rfl (ql_pure tabOk rfl rfl (q_nil (q_region (ql_pure tabOk rfl rfl (ql_pure tabOk rfl rfl (ql_ar tabOk rfl rfl rfl rfl (by omega) (by omega) (ql_pure tabOk rfl rfl (ql_ar tabOk rfl rfl rfl rfl (by omega) (by omega) (ql_ar tabOk rfl rfl rfl rfl (by omega) (by omega) ?_))))))))))
    refine ql_mk #[.int .i64 ((k : Int) + 1), .int .i64 (9000 - 3 * real[k])] rfl (by kernel_rfl) rfl ?_
    skip
    refine ql_mkS 112 [.int .i64 ((k : Int) + 1), .int .i64 (9000 - 3 * real[k])] rfl (by kernel_rfl) rfl (fun bn => ?_)
    skip
    refine ql_append (q := 1) (news := [.int .i64 ((k : Int) + 1), .int .i64 (9000 - 3 * real[k])]) slRes rfl rfl rfl (fun v' => by repeat constructor) (fun w' hs => ⟨_, _, Blk.rdN (hs.blk (b := bn) (by repeat constructor)) rfl⟩) (by simp [oneV]) (by omega) (by omega) (fun u' => ?_)
    (refine ql_pure tabOk rfl rfl (q_nil (q_blk (q_region (ql_ar tabOk rfl rfl rfl rfl (by omega) (by omega) (ql_pure tabOk rfl rfl (q_nil ?_)))))))
    exact hK (k + 1, u') _ _ (by simp only; omega) (by simp only; omega) ⟨rfl, rfl, rfl, rfl, rfl, rfl, trivial⟩ (by dsimp only; rw [resK_succ hk2]; repeat constructor)
  · obtain rfl : sk = k := by omega
    clear hc hK hk
    have hrA := resK_all real
    rw [hrl2] at hrA
    rw [hrA]
    have hTs : TsOk (timL real) := ⟨by rw [tim_len]; omega, by rw [tim_len]; omega, fun x hx => by
      obtain ⟨y, hy, rfl⟩ := List.mem_map.1 hx
      have := hrb y hy
      omega⟩
    have htl : (timL real).length = sk := by rw [tim_len]; exact hrl2
    have hrl3 : (resL (timL real)).length = sk := by rw [resL_len, htl]
    have e1 : IntKind.i64.wrap a1 = a1 := w64 (by omega) (by omega)
    obtain ⟨un', hun⟩ : ∃ un', un' = 1 + IntKind.i64.wrap a1 % 50 := ⟨_, rfl⟩
    have hub : 1 ≤ un' ∧ un' ≤ 600 := by rw [hun, e1]; omega
    (refine q_exit _ rfl (q_seq (q_region ?_)); (iterate 3 refine ql_pure tabOk rfl rfl ?_); refine ql_remN rfl rfl rfl (by omega) (by omega) (ql_ar tabOk rfl rfl rfl rfl (by omega) (by omega) ?_))
    rw [← hun]
    refine ql_mk #[.int .i64 un', .int .i64 360000] rfl (by kernel_rfl) rfl ?_
    skip
    refine ql_call (β := Value × List Int) (ψ := fun y x => x = .tuple #[y.1, .int .i64 0] ∧ y.2.Perm (iotaL (timL real).length) ∧ SrtK (purK (timL real) un') y.2) (L' := fun y => [.ow y.1 120 3 (timL real).length (stC (outL (timL real) un' y.2))]) tabOk [] _ M0 rfl rfl rfl rfl (Sp.refl _) (fun _ h => h.elim) (fun w' hs => pursuit_ca w' 0 w'.heap.size _ (timL real) un' (own_rdS (t := 112) (hs.mem (c := .ow u 112 2 sk (spC (resL (timL real)))) (by repeat constructor)) hrl3.symm) hTs hub) ?_
    rintro ⟨v10, L⟩ _ ⟨rfl, hp, hso⟩
    dsimp only [List.cons_append, List.nil_append] at hp hso ⊢
    have hLl : L.length = sk := by rw [hp.length_eq, iota_len, htl]
    rw [htl]
    refine ql_fact (fun w hs => hs.ownSome (v := v10) (by repeat constructor) (by omega)) ?_
    rintro ⟨g10, c10, rfl⟩
    have hol : (outL (timL real) un' L).length = sk := by unfold outL; rw [List.length_map, hLl]
    (refine ql_pure tabOk rfl rfl (ql_ext tabOk rfl rfl rfl (ql_ext tabOk rfl rfl rfl (ql_pure tabOk rfl rfl (ql_pure tabOk rfl rfl (q_nil (q_seq (q_region ?_))))))); refine ql_loadABa tabOk rfl rfl rfl ?_)
    refine ql_call (β := Value) tabOk [] _ M0 rfl rfl rfl rfl (Sp.refl _) (fun _ h => h.elim) (fun w' hs => faster_ok w' 0 w'.heap.size l (.slice va l.runs.length vc) (lab_in hs (m := (l, va, vc)) (by repeat constructor) (by simp)) hok hNC) ?_
    rintro v12 _ rfl
    dsimp only [List.cons_append, List.nil_append]
    rw [hln]
    refine ql_fact (fun w hs => hs.slice2 (v := v12) (by repeat constructor)) ?_
    rintro ⟨a12, c12, rfl⟩
    have hfl : (fasL l.ord sk).length ≤ 1000000 := by
      have h8 : sk * sk ≤ 8 * 8 := Nat.mul_le_mul (by omega) (by omega)
      have := fasI_len (o := l.ord) (n := sk) sk 0 (by omega)
      rw [fasI_all] at this
      omega
    have hfm := fun p (hp : p ∈ fasL l.ord sk) => fas_cast hp
    refine ql_conv (H' := [.ow (.slice (some ⟨g10, 0, none⟩) sk c10) 120 3 sk (stC (outL (timL real) un' L)), .ow (.slice a12 (fasL l.ord sk).length c12) 63 2 (fasL l.ord sk).length (spC (fasL l.ord sk)), .pt b5 (lbC l (.slice va l.runs.length vc)) 25]) (fun w' hs => hs.sp (by repeat constructor)) ?_
    (refine ql_pure tabOk rfl rfl (ql_ext tabOk rfl rfl rfl (ql_ext tabOk rfl rfl rfl (ql_pure tabOk rfl rfl (ql_pure tabOk rfl rfl (q_nil (q_seq (q_seq (q_region (ql_pure tabOk rfl rfl (ql_neqF tabOk rfl rfl rfl (by omega) (ql_pure tabOk rfl rfl ?_))))))))))); refine ql_gyes rfl (ql_pure tabOk rfl rfl (ql_gyes rfl (ql_neqF tabOk rfl rfl rfl (by omega) (ql_pure tabOk rfl rfl (ql_pure tabOk rfl rfl (ql_gyes rfl (ql_pure tabOk rfl rfl (ql_gyes rfl (ql_pure tabOk rfl rfl (ql_gyes rfl (ql_pure tabOk rfl rfl ?_))))))))))); refine ql_gyes rfl ?_; refine ql_loadBa tabOk rfl rfl rfl ?_; refine ql_gyes rfl (ql_neqF tabOk rfl rfl rfl (by omega) (ql_pure tabOk rfl rfl (q_nil (q_cond_false rfl (q_skip (q_seq (q_seq (q_region ?_)))))))); (iterate 3 refine ql_pure tabOk rfl rfl ?_); refine q_nil (q_block ?_))
    rw [hls]
    generalize fasL l.ord sk = Pp at hfl hfm ⊢
    skip
    refine q_loop (σ := Nat) (fun k => k ≤ Pp.length) (fun k => Pp.length - k) (fun k => [(10, .slice (some ⟨g10, 0, none⟩) sk c10), (69, .slice a12 Pp.length c12), (70, .int .i64 Pp.length), (71, .int .i64 k)]) (fun _ => [.ow (.slice (some ⟨g10, 0, none⟩) sk c10) 120 3 sk (stC (outL (timL real) un' L)), .ow (.slice a12 Pp.length c12) 63 2 Pp.length (spC Pp), .pt b5 (lbC l (.slice va l.runs.length vc)) 25]) 0 (by omega) ⟨rfl, rfl, rfl, rfl, trivial⟩ (by repeat constructor) ?_
    rintro k hk K hK
    (refine q_seq (q_region (ql_pure tabOk rfl rfl (q_nil (q_seq ?_)))))
    refine q_if rfl (fun hc => ?_) (fun hc => ?_)
    · have hk2 : k < Pp.length := by omega
      clear hc
      obtain ⟨a', b', hpk, ha', hb', hf⟩ := hfm _ (List.getElem_mem hk2)
      have hreal := true_sub hok hm.tr a' b' (by omega) (by omega) hf
      have htt : tX (timL real) (a' : Int) < tX (timL real) (b' : Int) := by rw [tX_tim (by omega), tX_tim (by omega)]; omega
      refine q_fact (fun w hs => hs.ownSome (v := .slice a12 Pp.length c12) (by repeat constructor) (by omega)) ?_
      rintro ⟨g12, c12', e12⟩
      cases e12
      have hinL : ∀ x : Nat, x < sk → ∃ p ∈ outL (timL real) un' L, p.1 = (x : Int) + 1 := fun x hx => by
        refine ⟨_, List.mem_map.2 ⟨(x : Int), hp.symm.subset (iota_mem.2 ⟨by omega, by omega⟩), rfl⟩, ?_⟩
        exact bib_at (by omega)
      have houtg : ∀ q (hq : q < (outL (timL real) un' L).length), (outL (timL real) un' L)[q] = (L[q]'(by omega) + 1, dX (timL real) un' (L[q]'(by omega))) := fun q hq => by
        have h3 := iota_mem.1 (hp.subset (List.getElem_mem (show q < L.length by omega)))
        obtain ⟨y, hy⟩ := Int.eq_ofNat_of_zero_le h3.1
        simp only [outL, List.getElem_map]
        rw [hy, bib_at (by omega)]
      (refine q_skip (q_seq (q_block (q_seq (q_region ?_)))))
      refine ql_index tabOk rfl rfl rfl rfl rfl (by omega) (by omega) ?_
      refine ql_loadA (cs := [.int .i64 (a' : Int), .int .i64 (b' : Int)]) tabOk rfl rfl rfl rfl (fun w hs q hq => sp_at hs (t := 63) (L := Pp) (by repeat constructor) rfl hk2 hpk q hq) ?_
      skip
      refine ql_alloc zero63 rfl (fun b15 => ?_)
      (refine ql_setA tabOk rfl rfl rfl rfl rfl (by repeat constructor) rfl ?_; refine q_nil (q_seq (q_region (ql_pure tabOk rfl rfl (ql_pure tabOk rfl rfl ?_)))))
      refine ql_call (β := Nat) (ψ := fun z x => x = .int .i64 z ∧ ∃ h : z < (outL (timL real) un' L).length, (outL (timL real) un' L)[z].1 = (a' : Int) + 1) (L' := fun _ => []) tabOk [] _ M0 rfl rfl rfl rfl (Sp.refl _) (fun _ h => h.elim) (fun w' hs => idxSt_ca w' g10 sk c10 _ (outL (timL real) un' L) ((a' : Int) + 1) hol.symm (by omega) (fun w2 hc i hi q hq => by
        have hs2 := hs.keep hc
        exact st_at hs2 (t := 120) (by repeat constructor) hi q hq) (fun w2 hc p hp2 => CaF.of tabOk (by kernel_rfl) (isS1_ca w2 b15 _ (a' : Int) (b' : Int) p.1 p.2 ((hs.blk (b := b15) (by repeat constructor)).keep hc) (by omega))) (hinL a' ha')) ?_
      rintro ka _ ⟨rfl, hka, hka2⟩
      dsimp only [List.cons_append, List.nil_append]
      (refine ql_pure tabOk rfl rfl (q_nil (q_seq (q_region (ql_pure tabOk rfl rfl (ql_pure tabOk rfl rfl ?_))))))
      refine ql_call (β := Nat) (ψ := fun z x => x = .int .i64 z ∧ ∃ h : z < (outL (timL real) un' L).length, (outL (timL real) un' L)[z].1 = (b' : Int) + 1) (L' := fun _ => []) tabOk [] _ M0 rfl rfl rfl rfl (Sp.refl _) (fun _ h => h.elim) (fun w' hs => idxSt_ca w' g10 sk c10 _ (outL (timL real) un' L) ((b' : Int) + 1) hol.symm (by omega) (fun w2 hc i hi q hq => by
        have hs2 := hs.keep hc
        exact st_at hs2 (t := 120) (by repeat constructor) hi q hq) (fun w2 hc p hp2 => CaF.of tabOk (by kernel_rfl) (isS2_ca w2 b15 _ (a' : Int) (b' : Int) p.1 p.2 ((hs.blk (b := b15) (by repeat constructor)).keep hc) (by omega))) (hinL b' hb')) ?_
      rintro kb _ ⟨rfl, hkb, hkb2⟩
      dsimp only [List.cons_append, List.nil_append]
      have gA := houtg ka hka
      have gB := houtg kb hkb
      rw [gA] at hka2
      rw [gB] at hkb2
      have hLa : L[ka]'(by omega) = (a' : Int) := by dsimp only at hka2; omega
      have hLb : L[kb]'(by omega) = (b' : Int) := by dsimp only at hkb2; omega
      obtain ⟨hlt, hle2⟩ := pur_says hub.1 hp hso (i := ka) (j := kb) (by omega) (by omega) (by rw [hLa, hLb]; exact htt)
      rw [hLa, hLb] at hle2
      rw [hLa] at gA
      rw [hLb] at gB
      (refine ql_pure tabOk rfl rfl (q_nil (q_seq ?_)))
      refine q_draw _ [] (Sp.refl _) (by kernel_rfl) (by kernel_rfl) ?_
      (refine qf_pure tabOk rfl rfl rfl (qf_lssF tabOk rfl rfl rfl (by omega) (qf_pure tabOk rfl rfl rfl (qf_gyes rfl (qf_pure tabOk rfl rfl rfl (qf_gyes rfl (qf_lssF tabOk rfl rfl rfl (by omega) (qf_pure tabOk rfl rfl rfl (qf_pure tabOk rfl rfl rfl (qf_gyes rfl (qf_pure tabOk rfl rfl rfl (qf_gyes rfl ?_))))))))))); refine qf_pure tabOk rfl rfl rfl (qf_gyes rfl (qf_geqF tabOk rfl rfl rfl (by omega) (qf_pure tabOk rfl rfl rfl (qf_pure tabOk rfl rfl rfl (qf_gyes rfl (qf_pure tabOk rfl rfl rfl (qf_gyes rfl (qf_pure tabOk rfl rfl rfl (qf_gyes rfl ?_))))))))))
      refine qf_index tabOk rfl rfl rfl rfl rfl (by omega) (by omega) ?_
      (refine qf_gyes rfl (qf_pure tabOk rfl rfl rfl (qf_gyes rfl ?_)))
      refine qf_load1 (v := .int .i64 (dX (timL real) un' (a' : Int))) tabOk rfl rfl rfl (fun w hs => by
        have := st_at hs (t := 120) (by repeat constructor) hka 1 (by omega)
        rw [gA] at this
        exact this) ?_
      (refine qf_gyes rfl (qf_pure tabOk rfl rfl rfl (qf_gyes rfl (qf_pure tabOk rfl rfl rfl (qf_gyes rfl ?_)))))
      refine qf_index tabOk rfl rfl rfl rfl rfl (by omega) (by omega) ?_
      (refine qf_gyes rfl (qf_pure tabOk rfl rfl rfl (qf_gyes rfl ?_)))
      refine qf_load1 (v := .int .i64 (dX (timL real) un' (b' : Int))) tabOk rfl rfl rfl (fun w hs => by
        have := st_at hs (t := 120) (by repeat constructor) hkb 1 (by omega)
        rw [gB] at this
        exact this) ?_
      generalize dX (timL real) un' (a' : Int) = da at hle2 ⊢
      generalize dX (timL real) un' (b' : Int) = db at hle2 ⊢
      (refine qf_gyes rfl (qf_gtrF tabOk rfl rfl rfl (by omega) (qf_pure tabOk rfl rfl rfl (qf_nil (q_cond_false rfl (q_skip (q_blk (q_region (ql_ar tabOk rfl rfl rfl rfl (by omega) (by omega) (ql_pure tabOk rfl rfl (q_nil ?_)))))))))))
      exact hK (k + 1) _ _ (by omega) (by omega) ⟨rfl, rfl, rfl, rfl, trivial⟩ (by repeat constructor)
    · (refine q_exit _ rfl (q_seq (q_region ?_)))
      refine ql_callv (val := .bool true) tabOk rfl rfl rfl rfl (fun w hs => ?_) ?_; exact awake_ca w
      (refine ql_pure tabOk rfl rfl (q_nil (q_ret ?_)))
      refine q_fin tabOk rfl (by repeat constructor) fun w hs => ?_
      exact ⟨rfl, hs.chg0⟩
end Go.Proofs.Ytcmpdmobmbbplaa
