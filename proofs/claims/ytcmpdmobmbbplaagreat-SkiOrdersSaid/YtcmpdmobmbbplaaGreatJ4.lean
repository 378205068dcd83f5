/- My texts K22, K23, K24, K25, K26, D1, D2, K27, K28, K30, L2, E14, D3, D4, K29, D5, B33, K41, B34, W19, E0, E1, E2, E3, K42, E4, E5, W24, W25, E15, joined: a claim takes at most 60 files. -/
import Derived.Test.YtcmpdmobmbbplaaGreatJ3

/- Walks: single skis, sorted by how stiff they are. -/
namespace Go.Proofs.YtcmpdmobmbbplaaGreat
set_option maxRecDepth 4000
open Go Go.Eng

theorem RdI.row' {w : World} {lo hi : Nat} {a : Option Addr} {n c : Nat} {l : List Int} (h : RdI w lo hi (.slice a n c) l) : Rd w lo hi (.slice a n c) 1 n (ints l) := by
  have h1 := RdI.row h
  obtain ⟨a', c', e, _⟩ := RdI.outI h
  injection e with e1 e2 e3
  rw [← e2] at h1
  exact h1
theorem singles1_p (w : World) (c : List Int) : PredAt Tryz.prog tab w (.func (.func 162) #[] #[]) (ints c) (fun x => match x with | .int _ i => inB i 0 100000 | _ => false) := by
  refine ⟨_, _, _, rfl, rfl, fun w' hw' x hx => ?_⟩
  obtain ⟨i, hi, rfl⟩ := List.mem_map.1 hx
  refine q_of (Sat.nil w' M0) Tryz.func162 rfl (by simp [Tryz.ntmps162]) ?_
  (refine q_seq (q_region (ql_pure tabOk rfl rfl (q_nil (q_seq (q_region (ql_pure tabOk rfl rfl ?_)))))))
  refine ql_callv (val := .bool (inB i 0 100000)) tabOk rfl rfl rfl rfl (fun w hs => ?_) ?_; exact within_ca i 0 100000 w
  (refine ql_pure tabOk rfl rfl (q_nil (q_ret ?_)))
  refine q_fin tabOk rfl (by repeat constructor) fun w hs => ?_
  exact ⟨rfl, hs.chg0⟩
theorem singles_ca (w : World) (lo hi : Nat) (v : Value) (st : List Int) (h : RdI w lo hi v st) : Ca Tryz.prog 128 [v] w fun x w' => x = .int .i64 (singlesV st) ∧ Chg [] w w' := by
  obtain ⟨a, c, rfl, ha⟩ := RdI.outI h
  refine q_of (Sat.nil w M0) Tryz.func128 rfl (by simp [Tryz.ntmps128]) ?_
  (refine q_seq (q_region (ql_pure tabOk rfl rfl (q_nil (q_seq (q_block (q_seq (q_region (ql_pure tabOk rfl rfl (ql_pure tabOk rfl rfl ?_))))))))))
  refine ql_callv (val := .bool (inB st.length 2 16)) tabOk rfl rfl rfl rfl (fun w hs => ?_) ?_; exact within_ca st.length 2 16 w
  cases h1 : inB st.length 2 16 with
  | false =>
    (refine ql_pure tabOk rfl rfl (ql_pure tabOk rfl rfl ?_); (iterate 4 refine ql_gno rfl rfl rfl ?_); refine ql_pure tabOk rfl rfl (ql_pure tabOk rfl rfl (q_nil (q_cond_true rfl (q_seq (q_region (ql_pure tabOk rfl rfl (q_nil (q_ret ?_)))))))))
    refine q_fin tabOk rfl (by repeat constructor) fun w hs => ?_
    exact ⟨by simp [retV, singlesV, h1], hs.chg0⟩
  | true =>
    have h1' := inB_iff.1 h1
    by_cases h2 : st.length % 2 = 1
    · (refine ql_pure tabOk rfl rfl (ql_pure tabOk rfl rfl (ql_gyes rfl (ql_pure tabOk rfl rfl (ql_gyes rfl (ql_pure tabOk rfl rfl (ql_gyes rfl (ql_remN rfl rfl rfl (by omega) (by omega) (ql_gyes rfl (ql_eqlT tabOk rfl rfl rfl (by omega) (ql_pure tabOk rfl rfl (ql_pure tabOk rfl rfl ?_))))))))))); refine q_nil (q_cond_true rfl (q_seq (q_region (ql_pure tabOk rfl rfl (q_nil (q_ret ?_)))))))
      refine q_fin tabOk rfl (by repeat constructor) fun w hs => ?_
      exact ⟨by simp [retV, singlesV, h1, h2], hs.chg0⟩
    · (refine ql_pure tabOk rfl rfl (ql_pure tabOk rfl rfl (ql_gyes rfl (ql_pure tabOk rfl rfl (ql_gyes rfl (ql_pure tabOk rfl rfl (ql_gyes rfl (ql_remN rfl rfl rfl (by omega) (by omega) (ql_gyes rfl (ql_eqlF tabOk rfl rfl rfl (by omega) (ql_pure tabOk rfl rfl (ql_pure tabOk rfl rfl ?_))))))))))); refine q_nil (q_cond_false rfl (q_seq (q_region (ql_pure tabOk rfl rfl ?_)))))
      refine ql_callv (val := .bool (st.all fun n => inB n 0 100000)) tabOk rfl rfl rfl rfl (fun w hs => ?_) ?_; exact by have := all_int w lo hi _ _ (ints st) _ (RdE.keep h hs.chg0) (by intro i hi; simp [ints, oneV]) (by simp [ints]; omega) (singles1_p w st); unfold ints at this; rw [List.all_map] at this; exact this
      have hn : ¬ (inB st.length 2 16 && (!decide (st.length % 2 = 1) && true)) = false := by rw [h1]; simp [h2]
      cases h3 : (st.all fun n => inB n 0 100000) with
      | false =>
        (refine ql_pure tabOk rfl rfl (ql_pure tabOk rfl rfl (q_nil (q_cond_true rfl (q_seq (q_region (ql_pure tabOk rfl rfl (q_nil (q_ret ?_)))))))))
        refine q_fin tabOk rfl (by repeat constructor) fun w hs => ?_
        exact ⟨by unfold singlesV; rw [if_neg hn, if_pos h3]; rfl, hs.chg0⟩
      | true =>
        (refine ql_pure tabOk rfl rfl (ql_pure tabOk rfl rfl (q_nil (q_cond_false rfl (q_skip (q_blk (q_seq (q_region (ql_pure tabOk rfl rfl (q_nil (q_ret ?_)))))))))))
        refine q_fin tabOk rfl (by repeat constructor) fun w hs => ?_
        exact ⟨by unfold singlesV; rw [if_neg hn, if_neg (by rw [h3]; simp)]; rfl, hs.chg0⟩
theorem iota_succ (k : Nat) : ints (iotaL (k + 1)) = ints (iotaL k) ++ [.int .i64 (k : Int)] := by
  unfold iotaL ints
  rw [List.range_succ, List.map_append, List.map_append]
  rfl
theorem sorted1_ca (w : World) (lo hi b t : Nat) (v : Value) (st : List Int) (h : RdI w lo hi v st) (hb : Blk w b [v] t) (hst : ∀ x ∈ st, 0 ≤ x ∧ x ≤ 100000) (i j : Nat) (hi' : i < st.length) (hj : j < st.length) : Ca Tryz.prog 163 [.int .i64 i, .int .i64 j, .pointer (some ⟨b, 0, none⟩)] w fun x w' => x = .int .i64 (stK st i - stK st j) ∧ Chg [] w w' := by
  obtain ⟨a, c, rfl, ha⟩ := RdI.outI h
  obtain ⟨ab, ao, rfl⟩ := ha (by omega)
  have e1 : stK st i = st[i] := by unfold stK; rw [Int.toNat_natCast, getD_get hi']
  have e2 : stK st j = st[j] := by unfold stK; rw [Int.toNat_natCast, getD_get hj]
  have b1 := hst _ (List.getElem_mem hi')
  have b2 := hst _ (List.getElem_mem hj)
  rw [e1, e2]
  refine q_of (Sat.nil w M0) Tryz.func163 rfl (by simp [Tryz.ntmps163]) ?_
  (refine q_seq (q_region (ql_pure tabOk rfl rfl (q_nil (q_seq ?_)))))
  refine q_draw _ [] (Sp.refl _) (by kernel_rfl) (by kernel_rfl) ?_
  (refine qf_loadP tabOk rfl rfl rfl (by assumption) (by rfl) ?_; refine qf_pure tabOk rfl rfl rfl ?_)
  refine qf_index tabOk rfl rfl rfl rfl rfl (by omega) (by omega) ?_
  refine qf_load1 (v := .int .i64 st[i]) tabOk rfl rfl rfl (fun w hs => RdI.at (RdE.keep h hs.chg0) i hi') ?_
  (refine qf_loadP tabOk rfl rfl rfl (by assumption) (by rfl) ?_; refine qf_pure tabOk rfl rfl rfl ?_)
  refine qf_index tabOk rfl rfl rfl rfl rfl (by omega) (by omega) ?_
  refine qf_load1 (v := .int .i64 st[j]) tabOk rfl rfl rfl (fun w hs => RdI.at (RdE.keep h hs.chg0) j hj) ?_
  (refine qf_ar tabOk rfl rfl rfl rfl (by omega) (by omega) (qf_pure tabOk rfl rfl rfl (qf_nil (q_ret ?_))))
  refine q_fin tabOk rfl (by repeat constructor) fun w hs => ?_
  exact ⟨rfl, hs.chg0⟩
theorem sorted_ca (w : World) (lo hi : Nat) (v : Value) (st : List Int) (h : RdI w lo hi v st) (hs0 : SingOk st) : Ca Tryz.prog 129 [v] w fun x w' => ∃ y : Nat × Nat, x = .slice (some ⟨y.1, 0, none⟩) st.length y.2 ∧ Sat w M0 [.ow (.slice (some ⟨y.1, 0, none⟩) st.length y.2) 3 1 st.length (ints (softL st))] w' := by
  have hl1 := hs0.l1
  have hl2 := hs0.l2
  obtain ⟨a, c, rfl, ha⟩ := RdI.outI h
  refine q_of (Sat.nil w M0) Tryz.func129 rfl (by simp [Tryz.ntmps129]) ?_
  (refine q_seq (q_region ?_))
  refine ql_box rfl rfl (fun b1 => ?_)
  (refine ql_pure tabOk rfl rfl (q_nil (q_seq (q_region (ql_pure tabOk rfl rfl (q_nil (q_seq (q_seq (q_region ?_)))))))); refine ql_loadBa tabOk rfl rfl rfl ?_; refine ql_pure tabOk rfl rfl (ql_pure tabOk rfl rfl (q_nil (q_block ?_))))
  refine q_conv (H' := [.ow (.slice none 0 0) 3 1 0 (ints (iotaL 0)), .pt b1 [.slice a st.length c] 48]) (fun w' hs => (Sat.ownil hs 3 1).sp (by repeat constructor)) ?_
  refine q_loop (σ := Nat × Value) (fun y => y.1 ≤ st.length) (fun y => st.length - y.1) (fun y => [(1, .pointer (some ⟨b1, 0, none⟩)), (3, y.2), (7, .int .i64 st.length), (8, .int .i64 y.1)])
    (fun y => [.ow y.2 3 1 y.1 (ints (iotaL y.1)), .pt b1 [.slice a st.length c] 48]) (0, .slice none 0 0) (by simp only; omega) ⟨rfl, rfl, rfl, rfl, trivial⟩ (by repeat constructor) ?_
  rintro ⟨k, u⟩ hk K hK
  dsimp only at hk ⊢
  (refine q_seq (q_region (ql_pure tabOk rfl rfl (q_nil (q_seq ?_)))))
  refine q_if rfl (fun hc => ?_) (fun hc => ?_)
  · have hk2 : k < st.length := by omega
    clear hc
    (refine q_skip (q_seq (q_block (q_seq (q_region (ql_pure tabOk rfl rfl (ql_pure tabOk rfl rfl (q_nil (q_region (ql_pure tabOk rfl rfl (ql_pure tabOk rfl rfl ?_)))))))))))
    refine ql_mkS 3 [.int .i64 k] rfl (by kernel_rfl) rfl (fun bn => ?_)
    skip
    refine ql_append (q := 1) (news := [.int .i64 k]) slI rfl rfl rfl (fun v' => by repeat constructor) (fun w' hs => ⟨_, _, Blk.rdN (hs.blk (b := bn) (by repeat constructor)) rfl⟩) (by simp [oneV]) (by omega) (by omega) (fun u' => ?_)
    (refine ql_pure tabOk rfl rfl (q_nil (q_blk (q_region (ql_ar tabOk rfl rfl rfl rfl (by omega) (by omega) (ql_pure tabOk rfl rfl (q_nil ?_)))))))
    exact hK (k + 1, u') _ _ (by simp only; omega) (by simp only; omega) ⟨rfl, rfl, rfl, rfl, trivial⟩ (by dsimp only; rw [iota_succ]; repeat constructor)
  · obtain rfl : k = st.length := by omega
    clear hc hK hk
    refine q_fact (fun w hs => hs.slice2 (v := u) (by repeat constructor)) ?_
    rintro ⟨ua, uc, rfl⟩
    (refine q_exit _ rfl (q_seq (q_region (ql_pure tabOk rfl rfl (ql_pure tabOk rfl rfl ?_)))))
    refine ql_makeI slI rfl rfl rfl (by omega) (fun b5 => ?_)
    (refine ql_pure tabOk rfl rfl (q_nil (q_seq (q_region (ql_pure tabOk rfl rfl (ql_pure tabOk rfl rfl ?_))))))
    refine ql_copyR (et := 3) (news := ints (iotaL st.length)) (sz := 1) (o := 0) (by kernel_rfl) (by kernel_rfl) rfl rfl rfl (by repeat constructor) (by simp [ints, iota_len]) (by simp [ints, oneV]) (fun w hs => ⟨_, _, RdI.row' (hs.rdI (v := .slice ua st.length uc) (l := iotaL st.length) (by repeat constructor) (iota_len _).symm)⟩) ?_
    have ec : List.take 0 (ints (List.replicate st.length 0)) ++ ints (iotaL st.length) ++ List.drop (0 + (ints (iotaL st.length)).length) (ints (List.replicate st.length 0)) = ints (iotaL st.length) := by
      rw [List.take_zero, List.nil_append, List.drop_of_length_le (by simp [ints, iota_len]), List.append_nil]
    rw [ec]
    refine ql_conv (H' := [.ow (.slice (some ⟨b5, 0, none⟩) st.length st.length) 3 1 st.length (ints (iotaL st.length)), .ow (.slice ua st.length uc) 3 1 st.length (ints (iotaL st.length)), .pt b1 [.slice a st.length c] 48]) (fun w' hs => Sat.pt_ow (m := st.length) (by simp [ints, iota_len]) (by omega) hs) ?_
    (refine q_nil (q_seq (q_region (ql_pure tabOk rfl rfl (ql_pure tabOk rfl rfl ?_)))))
    refine ql_call (β := List Int) (ψ := fun L v => v = .tuple #[] ∧ L.Perm (iotaL st.length) ∧ SrtK (stK st) L) (L' := fun L => [.ow (.slice (some ⟨b5, 0, none⟩) st.length st.length) 3 1 st.length (ints L)]) tabOk [.ow (.slice (some ⟨b5, 0, none⟩) st.length st.length) 3 1 st.length (ints (iotaL st.length))] _ (fun x => x = b5) rfl rfl rfl rfl (Sp.cons (by repeat constructor) (Sp.refl _)) (fun x hx => ⟨_, .head _, by subst hx; rfl⟩) (fun w' hs => by
      have hcmp : CmpAt w' b5 (.func (.func 163) #[] #[.pointer (some ⟨b1, 0, none⟩)]) (stK st) (iotaL st.length) := fun w2 hc2 x hx y hy => by
        have hx2 := iota_mem.1 hx
        have hy2 := iota_mem.1 hy
        have hc3 : ChgP (DL [Ck.ow (.slice (some ⟨b5, 0, none⟩) st.length st.length) 3 1 st.length (ints (iotaL st.length))]) w' w2 := (ChgP.refl _ w').upP hc2 fun k hk => .inl ⟨_, .head _, by subst hk; rfl⟩
        have hb1 : Blk w2 b1 [.slice a st.length c] 48 := hs.aside hc3 (x := .pt b1 [.slice a st.length c] 48) (by repeat constructor)
        have hc4 := hs.asideOld hc3
        obtain ⟨i, rfl⟩ := Int.eq_ofNat_of_zero_le hx2.1
        obtain ⟨j, rfl⟩ := Int.eq_ofNat_of_zero_le hy2.1
        exact CaF.of tabOk rfl (sorted1_ca w2 lo hi b1 _ _ st (RdE.keep h hc4) hb1 hs0.num i j (by omega) (by omega))
      have := sortF_ca w' b5 st.length (iotaL st.length) (stK st) (.func (.func 163) #[] #[.pointer (some ⟨b1, 0, none⟩)]) (by rw [iota_len]; omega) (by rw [iota_len]; omega) (SrI.start _) hcmp (by rw [iota_len]; exact hs.all _ (.head _))
      rw [iota_len] at this
      exact this) ?_
    rintro L _ ⟨rfl, hp, hso⟩
    have hL : L = softL st := ordK_eq hp hso
    subst hL
    dsimp only [List.cons_append, List.nil_append]
    (refine q_nil (q_seq (q_region (ql_pure tabOk rfl rfl (ql_pure tabOk rfl rfl (q_nil (q_ret ?_)))))))
    refine q_fin tabOk rfl (by repeat constructor) fun w hs => ?_
    exact ⟨(b5, st.length), rfl, hs.sp (by repeat constructor)⟩
end Go.Proofs.YtcmpdmobmbbplaaGreat

/- Walks: pairs of single skis. -/
namespace Go.Proofs.YtcmpdmobmbbplaaGreat
set_option maxRecDepth 4000
open Go Go.Eng

theorem sl2 : SlT Tryz.prog 96 95 2 16 (.agg #[.int .i64 0, .int .i64 0]) := ⟨by kernel_rfl, by kernel_rfl, by kernel_rfl, by decide⟩
theorem softL_len (st : List Int) : (softL st).length = st.length := ordK_len _ _
theorem soft_in {st : List Int} {i : Nat} (hi : i < (softL st).length) : 0 ≤ (softL st)[i] ∧ (softL st)[i] < st.length := ordK_mem.1 (List.getElem_mem hi)
theorem cost_step {st L : List Int} {k : Nat} (h : k + 1 < L.length) : costF st (L.drop k) = costF st (L.drop (k + 2)) + (st.getD (L[k + 1]).toNat 0 - st.getD (L[k]'(by omega)).toNat 0) := by
  rw [List.drop_eq_getElem_cons (i := k) (by omega), List.drop_eq_getElem_cons (i := k + 1) h]
  rfl
def tK23_8fecd85 : OT := chainT [1, 2, 3, 4, 5, 6, 7, 8, 9, 10, 11, 0, 12, 13] (.nil)
set_option maxHeartbeats 4000000 in
theorem match_ok (w : World) (lo hi : Nat) (v : Value) (st : List Int) (h : RdI w lo hi v st) (hs0 : SingOk st) : Ca Tryz.prog 58 [v] w fun x w' => ∃ u : Value, x = .tuple #[u, .int .i64 (costF st (softL st)), .int .i64 0] ∧ Sat w M0 [.ow u 95 2 (st.length / 2) (ints (softL st))] w' := by
  have hl1 := hs0.l1
  have hl2 := hs0.l2
  have hev := hs0.ev
  obtain ⟨a, c, rfl, ha⟩ := RdI.outI h
  obtain ⟨ab, ao, rfl⟩ := ha (by omega)
  refine q_of (Sat.nil w M0) Tryz.func58 rfl (by simp [Tryz.ntmps58]) ?_
  (refine q_seq (q_region ?_); (iterate 3 refine ql_pure tabOk rfl rfl ?_); refine q_nil (q_seq (q_seq (q_region (ql_pure tabOk rfl rfl ?_)))))
  refine ql_callv (val := .int .i64 0) tabOk rfl rfl rfl rfl (fun w hs => ?_) ?_; exact by have := singles_ca w lo hi _ st (RdE.keep h hs.chg0); rw [sing_iff.2 hs0] at this; exact this
  (refine ql_pure tabOk rfl rfl (q_nil (q_seq (q_region (ql_pure tabOk rfl rfl (ql_neqF tabOk rfl rfl rfl (by omega) (q_nil (q_cond_false rfl (q_skip (q_seq (q_region (ql_pure tabOk rfl rfl ?_))))))))))); refine q_nil (q_seq (q_region (ql_pure tabOk rfl rfl (q_nil (q_seq (q_region (ql_pure tabOk rfl rfl ?_))))))))
  refine ql_call (β := Nat × Nat) tabOk [] _ M0 rfl rfl rfl rfl (Sp.refl _) (fun _ h => h.elim) (fun w' hs => sorted_ca w' lo hi _ st (RdE.keep h hs.chg0) hs0) ?_
  rintro ⟨g, gc⟩ _ rfl
  dsimp only [List.cons_append, List.nil_append]
  have hLl := softL_len st
  have hin : ∀ i (hi : i < (softL st).length), 0 ≤ (softL st)[i] ∧ (softL st)[i] < st.length := fun i hi => soft_in hi
  generalize hL : softL st = L at *
  (refine ql_pure tabOk rfl rfl (q_nil (q_seq (q_seq (q_region (ql_pure tabOk rfl rfl (q_nil (q_block ?_))))))))
  refine q_conv (H' := [.ow (.slice none 0 0) 95 2 0 (ints (L.take (2 * 0))), .ow (.slice (some ⟨g, 0, none⟩) st.length gc) 3 1 st.length (ints L)]) (fun w' hs => by rw [Nat.mul_zero, List.take_zero]; exact Sat.ownil hs 95 2) ?_
  refine q_loop (σ := Nat × Value × Int) (fun y => 2 * y.1 ≤ st.length ∧ y.2.2 + costF st (L.drop (2 * y.1)) = costF st L ∧ -1000000 * (y.1 : Int) ≤ y.2.2 ∧ y.2.2 ≤ 1000000 * y.1) (fun y => st.length - 2 * y.1)
    (fun y => [(0, .slice (some ⟨ab, ao, none⟩) st.length c), (6, y.2.1), (7, .int .i64 y.2.2), (8, .slice (some ⟨g, 0, none⟩) st.length gc), (9, .int .i64 (2 * y.1 : Nat))])
    (fun y => [.ow y.2.1 95 2 y.1 (ints (L.take (2 * y.1))), .ow (.slice (some ⟨g, 0, none⟩) st.length gc) 3 1 st.length (ints L)]) (0, .slice none 0 0, 0) ⟨by simp only; omega, by simp, by simp, by simp⟩ ⟨rfl, rfl, rfl, rfl, rfl, trivial⟩ (by repeat constructor) ?_
  rintro ⟨k, u, cost⟩ ⟨hk, hcost, hc1, hc2⟩ K hK
  dsimp only at hk hcost hc1 hc2 ⊢
  (refine q_seq (q_seq (q_region ?_)); (iterate 4 refine ql_pure tabOk rfl rfl ?_); refine q_nil ?_)
  refine q_if rfl (fun hc => ?_) (fun hc => ?_)
  · have hk2 : 2 * k + 1 < L.length := by omega
    have hk3 : 2 * k < L.length := by omega
    clear hc
    have i1 := hin (2 * k) hk3
    have i2 := hin (2 * k + 1) hk2
    have hstep := cost_step (st := st) hk2
    have ht : L.take (2 * (k + 1)) = L.take (2 * k) ++ [L[2 * k], L[2 * k + 1]] := by
      rw [show 2 * (k + 1) = 2 * k + 1 + 1 from by omega, List.take_succ_eq_append_getElem hk2, List.take_succ_eq_append_getElem hk3, List.append_assoc]
      rfl
    obtain ⟨x, hx⟩ := Int.eq_ofNat_of_zero_le i1.1
    obtain ⟨y, hy⟩ := Int.eq_ofNat_of_zero_le i2.1
    rw [hx] at i1 ht hstep
    rw [hy] at i2 ht hstep
    rw [Int.toNat_natCast, Int.toNat_natCast, getD_get (by omega), getD_get (by omega)] at hstep
    have hx4 : x < st.length := by omega
    have hy4 : y < st.length := by omega
    have n1 := hs0.num _ (List.getElem_mem hx4)
    have n2 := hs0.num _ (List.getElem_mem hy4)
    have ex : ∀ w', Sat w M0 [.ow u 95 2 k (ints (L.take (2 * k))), .ow (.slice (some ⟨g, 0, none⟩) st.length gc) 3 1 st.length (ints L)] w' → True := fun _ _ => trivial
    (refine q_skip (q_seq (q_block (q_seq ?_))))
    refine q_cut (σ := Value) (fun u' => [(0, .slice (some ⟨ab, ao, none⟩) st.length c), (6, u'), (7, .int .i64 cost), (8, .slice (some ⟨g, 0, none⟩) st.length gc), (9, .int .i64 (2 * k : Nat))])
      (fun u' => [.ow u' 95 2 (k + 1) (ints (L.take (2 * (k + 1)))), .ow (.slice (some ⟨g, 0, none⟩) st.length gc) 3 1 st.length (ints L)]) ?_ ?_
    rotate_left
    · intro K2 hK2
      refine q_drawT (tK23_8fecd85) _ [.ow u 95 2 k (ints (L.take (2 * k)))] (Sp.cons (by repeat constructor) (Sp.refl _)) (by kernel_rfl) (by kernel_rfl) ?_
      refine qt_seg (by repeat (first | exact PickL.nil | (apply PickL.cons; rfl))) fun K1 hK1 => ?_
      (refine qf_pure tabOk rfl rfl rfl (qf_pure tabOk rfl rfl rfl ?_))
      refine qf_index tabOk rfl rfl rfl rfl rfl (by omega) (by omega) ?_
      refine qf_load1 (v := .int .i64 x) tabOk rfl rfl rfl (fun w hs => by rw [← hx]; exact RdI.at (hs.rdI (v := .slice (some ⟨g, 0, none⟩) st.length gc) (l := L) (t := 3) (n := st.length) (by repeat constructor) hLl.symm) (2 * k) hk3) ?_
      (refine qf_pure tabOk rfl rfl rfl (qf_pure tabOk rfl rfl rfl (qf_ar tabOk rfl rfl rfl rfl (by omega) (by omega) ?_)))
      refine qf_index tabOk rfl rfl rfl rfl rfl (by omega) (by omega) ?_
      refine qf_load1 (v := .int .i64 y) tabOk rfl rfl rfl (fun w hs => by rw [← hy, show ((2 * k : Nat) + 1 : Int).toNat = 2 * k + 1 from by omega]; exact RdI.at (hs.rdI (v := .slice (some ⟨g, 0, none⟩) st.length gc) (l := L) (t := 3) (n := st.length) (by repeat constructor) hLl.symm) (2 * k + 1) hk2) ?_
      refine qf_mk #[.int .i64 x, .int .i64 y] rfl (by kernel_rfl) rfl ?_
      skip
      refine qf_mkS 95 [.int .i64 x, .int .i64 y] rfl (by kernel_rfl) rfl (fun bn => ?_)
      (refine qf_pure tabOk rfl rfl rfl ?_)
      refine qf_append (q := 1) (news := [.int .i64 x, .int .i64 y]) sl2 rfl rfl rfl (fun v' => by repeat constructor) (fun w' hs => ⟨_, _, Blk.rdN (hs.blk (b := bn) (by repeat constructor)) rfl⟩) (by simp [oneV]) (by omega) (by omega) (fun u' => ?_)
      (refine qf_pure tabOk rfl rfl rfl (qf_nil ?_))
      exact hK1 _ _ (qt_nil (hK2 u' _ _ ⟨rfl, rfl, rfl, rfl, rfl, trivial⟩ (by rw [ht]; simp only [ints, List.map_append]; repeat constructor)))
    intro u'
    skip
    refine q_draw _ [] (Sp.refl _) (by kernel_rfl) (by kernel_rfl) ?_
    ((iterate 4 refine qf_pure tabOk rfl rfl rfl ?_); refine qf_ar tabOk rfl rfl rfl rfl (by omega) (by omega) ?_)
    refine qf_index tabOk rfl rfl rfl rfl rfl (by omega) (by omega) ?_
    refine qf_load1 (v := .int .i64 y) tabOk rfl rfl rfl (fun w hs => by rw [← hy, show ((2 * k : Nat) + 1 : Int).toNat = 2 * k + 1 from by omega]; exact RdI.at (hs.rdI (v := .slice (some ⟨g, 0, none⟩) st.length gc) (l := L) (t := 3) (n := st.length) (by repeat constructor) hLl.symm) (2 * k + 1) hk2) ?_
    skip
    refine qf_index tabOk rfl rfl rfl rfl rfl (by omega) (by omega) ?_
    refine qf_load1 (v := .int .i64 st[y]) tabOk rfl rfl rfl (fun w hs => RdI.at (RdE.keep h hs.chg0) y hy4) ?_
    ((iterate 3 refine qf_pure tabOk rfl rfl rfl ?_))
    refine qf_index tabOk rfl rfl rfl rfl rfl (by omega) (by omega) ?_
    refine qf_load1 (v := .int .i64 x) tabOk rfl rfl rfl (fun w hs => by rw [← hx]; exact RdI.at (hs.rdI (v := .slice (some ⟨g, 0, none⟩) st.length gc) (l := L) (t := 3) (n := st.length) (by repeat constructor) hLl.symm) (2 * k) hk3) ?_
    skip
    refine qf_index tabOk rfl rfl rfl rfl rfl (by omega) (by omega) ?_
    refine qf_load1 (v := .int .i64 st[x]) tabOk rfl rfl rfl (fun w hs => RdI.at (RdE.keep h hs.chg0) x hx4) ?_
    (refine qf_ar tabOk rfl rfl rfl rfl (by omega) (by omega) (qf_ar tabOk rfl rfl rfl rfl (by omega) (by omega) (qf_pure tabOk rfl rfl rfl (qf_nil (q_blk (q_region (ql_pure tabOk rfl rfl (ql_ar tabOk rfl rfl rfl rfl (by omega) (by omega) (ql_pure tabOk rfl rfl (q_nil ?_))))))))))
    exact hK (k + 1, u', cost + (st[y] - st[x])) _ _ ⟨by simp only; omega, by simp only; rw [show 2 * (k + 1) = 2 * k + 2 from by omega]; omega, by simp only; omega, by simp only; omega⟩ (by simp only; omega) ⟨rfl, rfl, rfl, rfl, lookI rfl (by simp only; omega), trivial⟩ (by repeat constructor)
  · have hk4 : 2 * k = L.length := by omega
    have hk5 : k = st.length / 2 := by omega
    rw [hk4, List.drop_length, show costF st [] = 0 from rfl, Int.add_zero] at hcost
    rw [hk4, List.take_length, hk5]
    clear hc
    (refine q_exit _ rfl (q_seq (q_region ?_)); (iterate 5 refine ql_pure tabOk rfl rfl ?_); refine q_nil (q_ret ?_))
    refine q_fin tabOk rfl (by repeat constructor) fun w hs => ?_
    exact ⟨u, by rw [← hcost]; rfl, hs.sp (by repeat constructor)⟩
end Go.Proofs.YtcmpdmobmbbplaaGreat

/- Walks: whether gaps show something. -/
namespace Go.Proofs.YtcmpdmobmbbplaaGreat
set_option maxRecDepth 4000
open Go Go.Eng

theorem gapsF_cons (st : List Int) (p : Option Int) (g : Int × Int) (l : List (Int × Int)) : gapsF st p (g :: l) = if gapBad st p g = true then none else (gapsF st (some g.2) l).map fun s => s + (g.2 - g.1) := rfl
theorem low_step' (st : List Int) (x : Int) (k : Nat) (hk : k < st.length) : lowC (st.take (k + 1)) x = lowC (st.take k) x + if st[k] ≤ x then 1 else 0 := by
  unfold lowC
  rw [List.take_succ_eq_append_getElem hk, List.countP_append, List.countP_singleton]
  simp
theorem high_step' (st : List Int) (x : Int) (k : Nat) (hk : k < st.length) : highC (st.take (k + 1)) x = highC (st.take k) x + if x ≤ st[k] then 1 else 0 := by
  unfold highC
  rw [List.take_succ_eq_append_getElem hk, List.countP_append, List.countP_singleton]
  simp
theorem gap_bd {st : List Int} (hs0 : SingOk st) {p : Option Int} {g : Int × Int} (h : gapBad st p g = false) : 0 ≤ g.1 ∧ g.1 < g.2 ∧ g.2 ≤ 100000 := by
  unfold gapBad at h
  simp only [Bool.or_eq_false_iff, decide_eq_false_iff_not] at h
  obtain ⟨h1, h2, h3, h4⟩ := h
  have hl : 0 < lowC st g.1 := by omega
  have hev := hs0.ev
  have hh : 0 < highC st g.2 := by omega
  obtain ⟨x, hx, h5⟩ := List.countP_pos_iff.1 hl
  obtain ⟨y, hy, h6⟩ := List.countP_pos_iff.1 hh
  have h7 := hs0.num x hx
  have h8 := hs0.num y hy
  have h5 : x ≤ g.1 := by simpa using h5
  have h6 : g.2 ≤ y := by simpa using h6
  omega
/-- The gap before the k-th one ends here. -/
def prevH (gs : List (Int × Int)) (k : Nat) : Option Int := if k = 0 then none else some (gs.getD (k - 1) (0, 0)).2
set_option maxHeartbeats 4000000 in
theorem gapsShow_ca (w : World) (lo hi lo2 hi2 : Nat) (v u : Value) (st : List Int) (gs : List (Int × Int)) (h : RdI w lo hi v st) (hu : RdS w lo2 hi2 u gs) (hg0 : gs.length ≤ 1000000) : Ca Tryz.prog 59 [v, u] w fun x w' => x = .tuple #[.int .i64 (gapsV st gs).1, .int .i64 (gapsV st gs).2] ∧ Chg [] w w' := by
  obtain ⟨a, c, rfl, ha⟩ := RdI.outI h
  obtain ⟨ga, gc, rfl, hga⟩ := RdS.outI hu
  refine q_of (Sat.nil w M0) Tryz.func59 rfl (by simp [Tryz.ntmps59]) ?_
  (refine q_seq (q_region (ql_pure tabOk rfl rfl (ql_pure tabOk rfl rfl (q_nil (q_seq (q_region (ql_pure tabOk rfl rfl ?_))))))))
  refine ql_callv (val := .int .i64 (singlesV st)) tabOk rfl rfl rfl rfl (fun w hs => ?_) ?_; exact singles_ca w lo hi _ st (RdE.keep h hs.chg0)
  by_cases he : singlesV st = 0
  · have hs0 := sing_iff.1 he
    have hl1 := hs0.l1
    have hl2 := hs0.l2
    obtain ⟨ab, ao, rfl⟩ := ha (by omega)
    by_cases hg : 16 < gs.length
    · (refine ql_pure tabOk rfl rfl (q_nil (q_seq (q_block (q_seq (q_region (ql_pure tabOk rfl rfl (ql_neqF tabOk rfl rfl rfl (by omega) (ql_pure tabOk rfl rfl (q_nil (q_cond_false rfl (q_seq ?_))))))))))); refine q_region (ql_pure tabOk rfl rfl (ql_pure tabOk rfl rfl (ql_gtrT tabOk rfl rfl rfl (by omega) (ql_pure tabOk rfl rfl (q_nil (q_cond_true rfl (q_seq (q_region (ql_pure tabOk rfl rfl (ql_pure tabOk rfl rfl (q_nil ?_))))))))))); refine q_ret ?_)
      refine q_fin tabOk rfl (by repeat constructor) fun w hs => ?_
      exact ⟨by unfold gapsV; rw [if_neg (by simpa using he), if_pos hg]; rfl, hs.chg0⟩
    · have hgv : gapsV st gs = match gapsF st none gs with | some s => (s, 0) | none => (0, 8) := by unfold gapsV; rw [if_neg (by simpa using he), if_neg hg] <;> rfl
      rw [hgv]
      (refine ql_pure tabOk rfl rfl (q_nil (q_seq (q_block (q_seq (q_region (ql_pure tabOk rfl rfl (ql_neqF tabOk rfl rfl rfl (by omega) (ql_pure tabOk rfl rfl (q_nil (q_cond_false rfl (q_seq ?_))))))))))); refine q_region (ql_pure tabOk rfl rfl (ql_pure tabOk rfl rfl (ql_gtrF tabOk rfl rfl rfl (by omega) (ql_pure tabOk rfl rfl (q_nil (q_cond_false rfl (q_skip (q_blk (q_seq (q_region (ql_pure tabOk rfl rfl ?_))))))))))); refine q_nil (q_seq (q_seq (q_region ?_))); (iterate 3 refine ql_pure tabOk rfl rfl ?_); refine q_nil (q_block ?_))
      refine q_loop (σ := Nat × Int) (fun y => y.1 ≤ gs.length ∧ gapsF st none gs = (gapsF st (prevH gs y.1) (gs.drop y.1)).map (fun s => s + y.2) ∧ 0 ≤ y.2 ∧ y.2 ≤ 100000 * y.1) (fun y => gs.length - y.1)
        (fun y => [(0, .slice (some ⟨ab, ao, none⟩) st.length c), (1, .slice ga gs.length gc), (7, .int .i64 y.2), (24, .slice ga gs.length gc), (25, .int .i64 gs.length), (26, .int .i64 y.1)]) (fun _ => []) (0, 0) ⟨by simp only; omega, by simp [prevH], by simp, by simp⟩ ⟨rfl, rfl, rfl, rfl, rfl, rfl, trivial⟩ (by repeat constructor) ?_
      rintro ⟨k, sum⟩ ⟨hk, hF, hs1, hs2⟩ K hK
      dsimp only at hk hF hs1 hs2 ⊢
      (refine q_seq (q_region (ql_pure tabOk rfl rfl (q_nil (q_seq ?_)))))
      refine q_if rfl (fun hc => ?_) (fun hc => ?_)
      · have hk2 : k < gs.length := by omega
        clear hc
        obtain ⟨gb, go, rfl⟩ := hga (by omega)
        (refine q_skip (q_seq (q_block (q_seq (q_region (ql_pure tabOk rfl rfl ?_))))))
        refine ql_index tabOk rfl rfl rfl rfl rfl (by omega) (by omega) ?_
        refine ql_loadA tabOk rfl rfl rfl rfl (fun w hs => RdS.at (RdE.keep hu hs.chg0) k hk2) ?_
        rw [List.drop_eq_getElem_cons hk2, gapsF_cons] at hF
        have hbd := gap_bd hs0 (p := prevH gs k) (g := gs[k])
        have hnext : prevH gs (k + 1) = some gs[k].2 := by
          unfold prevH
          rw [if_neg (by omega), Nat.add_sub_cancel, List.getD_eq_getElem?_getD, List.getElem?_eq_getElem hk2]
          rfl
        have hprev : 0 < k → prevH gs k = some (gs[k - 1]'(by omega)).2 := fun h => by
          unfold prevH
          rw [if_neg (by omega), List.getD_eq_getElem?_getD, List.getElem?_eq_getElem (show k - 1 < gs.length by omega)]
          rfl
        have hprev0 : k = 0 → prevH gs k = none := fun h => if_pos h
        generalize hgk : gs[k] = gk at *
        obtain ⟨gl, gh⟩ := gk
        dsimp only at *
        skip
        refine ql_alloc zero64 rfl (fun b9 => ?_)
        (refine ql_pure tabOk rfl rfl ?_; refine ql_setA tabOk rfl rfl rfl rfl rfl (by repeat constructor) rfl ?_; refine q_nil (q_seq (q_region (ql_pure tabOk rfl rfl (ql_pure tabOk rfl rfl (q_nil (q_seq (q_seq (q_region ?_)))))))); (iterate 3 refine ql_pure tabOk rfl rfl ?_); refine q_nil (q_block ?_))
        refine q_loop (σ := Nat) (fun y => y ≤ st.length) (fun y => st.length - y)
          (fun y => [(0, .slice (some ⟨ab, ao, none⟩) st.length c), (1, .slice (some ⟨gb, go, none⟩) gs.length gc), (7, .int .i64 sum), (8, .int .i64 k), (9, .pointer (some ⟨b9, 0, none⟩)), (10, .int .i64 (lowC (st.take y) gl)), (11, .int .i64 (highC (st.take y) gh)), (24, .slice (some ⟨gb, go, none⟩) gs.length gc), (25, .int .i64 gs.length), (26, .int .i64 k), (31, .slice (some ⟨ab, ao, none⟩) st.length c), (32, .int .i64 st.length), (33, .int .i64 y)])
          (fun _ => [.pt b9 [.int .i64 gl, .int .i64 gh] 64]) 0 (by omega) ⟨rfl, rfl, rfl, rfl, rfl, rfl, rfl, rfl, rfl, rfl, rfl, rfl, rfl, trivial⟩ (by repeat constructor) ?_
        rintro y hy K2 hK2
        have hlc : lowC (st.take y) gl ≤ y := by unfold lowC; exact Nat.le_trans List.countP_le_length (by rw [List.length_take]; omega)
        have hhc : highC (st.take y) gh ≤ y := by unfold highC; exact Nat.le_trans List.countP_le_length (by rw [List.length_take]; omega)
        (refine q_seq (q_region (ql_pure tabOk rfl rfl (q_nil (q_seq ?_)))))
        refine q_if rfl (fun hc => ?_) (fun hc => ?_)
        · have hy2 : y < st.length := by omega
          have l1 := low_step' st gl y hy2
          have l2 := high_step' st gh y hy2
          clear hc
          (refine q_skip (q_seq (q_block (q_seq (q_region ?_)))))
          refine ql_index tabOk rfl rfl rfl rfl rfl (by omega) (by omega) ?_
          refine ql_load1 (v := .int .i64 st[y]) tabOk rfl rfl rfl (fun w hs => RdI.at (RdE.keep h hs.chg0) y hy2) ?_
          by_cases c1 : st[y] ≤ gl
          · rw [if_pos c1] at l1
            by_cases c2 : gh ≤ st[y]
            · rw [if_pos c2] at l2
              (refine ql_pure tabOk rfl rfl (q_nil (q_seq (q_seq (q_region (ql_pure tabOk rfl rfl (ql_pure tabOk rfl rfl ?_)))))); refine ql_loadBa tabOk rfl rfl rfl ?_; refine ql_leqT tabOk rfl rfl rfl (by omega) (q_nil (q_cond_true rfl (q_region (ql_pure tabOk rfl rfl (ql_ar tabOk rfl rfl rfl rfl (by omega) (by omega) (ql_pure tabOk rfl rfl (q_nil (q_seq (q_region (ql_pure tabOk rfl rfl (ql_pure tabOk rfl rfl ?_))))))))))); refine ql_loadBa tabOk rfl rfl rfl ?_; refine ql_geqT tabOk rfl rfl rfl (by omega) (q_nil (q_cond_true rfl (q_region (ql_pure tabOk rfl rfl (ql_ar tabOk rfl rfl rfl rfl (by omega) (by omega) (ql_pure tabOk rfl rfl (q_nil (q_blk (q_region (ql_ar tabOk rfl rfl rfl rfl (by omega) (by omega) (ql_pure tabOk rfl rfl ?_))))))))))); refine q_nil ?_)
              exact hK2 (y + 1) _ _ (by omega) (by omega) ⟨rfl, rfl, rfl, rfl, rfl, (by refine lookI rfl ?_; omega), (by refine lookI rfl ?_; omega), rfl, rfl, rfl, rfl, rfl, rfl, trivial⟩ (by repeat constructor)
            · rw [if_neg c2] at l2
              (refine ql_pure tabOk rfl rfl (q_nil (q_seq (q_seq (q_region (ql_pure tabOk rfl rfl (ql_pure tabOk rfl rfl ?_)))))); refine ql_loadBa tabOk rfl rfl rfl ?_; refine ql_leqT tabOk rfl rfl rfl (by omega) (q_nil (q_cond_true rfl (q_region (ql_pure tabOk rfl rfl (ql_ar tabOk rfl rfl rfl rfl (by omega) (by omega) (ql_pure tabOk rfl rfl (q_nil (q_seq (q_region (ql_pure tabOk rfl rfl (ql_pure tabOk rfl rfl ?_))))))))))); refine ql_loadBa tabOk rfl rfl rfl ?_; refine ql_geqF tabOk rfl rfl rfl (by omega) (q_nil (q_cond_false rfl (q_skip (q_blk (q_region (ql_ar tabOk rfl rfl rfl rfl (by omega) (by omega) (ql_pure tabOk rfl rfl (q_nil ?_)))))))))
              exact hK2 (y + 1) _ _ (by omega) (by omega) ⟨rfl, rfl, rfl, rfl, rfl, (by refine lookI rfl ?_; omega), (by refine lookI rfl ?_; omega), rfl, rfl, rfl, rfl, rfl, rfl, trivial⟩ (by repeat constructor)
          · rw [if_neg c1] at l1
            by_cases c2 : gh ≤ st[y]
            · rw [if_pos c2] at l2
              (refine ql_pure tabOk rfl rfl (q_nil (q_seq (q_seq (q_region (ql_pure tabOk rfl rfl (ql_pure tabOk rfl rfl ?_)))))); refine ql_loadBa tabOk rfl rfl rfl ?_; refine ql_leqF tabOk rfl rfl rfl (by omega) (q_nil (q_cond_false rfl (q_skip (q_seq (q_region (ql_pure tabOk rfl rfl (ql_pure tabOk rfl rfl ?_))))))); refine ql_loadBa tabOk rfl rfl rfl ?_; refine ql_geqT tabOk rfl rfl rfl (by omega) (q_nil (q_cond_true rfl (q_region (ql_pure tabOk rfl rfl (ql_ar tabOk rfl rfl rfl rfl (by omega) (by omega) (ql_pure tabOk rfl rfl (q_nil (q_blk (q_region (ql_ar tabOk rfl rfl rfl rfl (by omega) (by omega) (ql_pure tabOk rfl rfl ?_))))))))))); refine q_nil ?_)
              exact hK2 (y + 1) _ _ (by omega) (by omega) ⟨rfl, rfl, rfl, rfl, rfl, (by refine lookI rfl ?_; omega), (by refine lookI rfl ?_; omega), rfl, rfl, rfl, rfl, rfl, rfl, trivial⟩ (by repeat constructor)
            · rw [if_neg c2] at l2
              (refine ql_pure tabOk rfl rfl (q_nil (q_seq (q_seq (q_region (ql_pure tabOk rfl rfl (ql_pure tabOk rfl rfl ?_)))))); refine ql_loadBa tabOk rfl rfl rfl ?_; refine ql_leqF tabOk rfl rfl rfl (by omega) (q_nil (q_cond_false rfl (q_skip (q_seq (q_region (ql_pure tabOk rfl rfl (ql_pure tabOk rfl rfl ?_))))))); refine ql_loadBa tabOk rfl rfl rfl ?_; refine ql_geqF tabOk rfl rfl rfl (by omega) (q_nil (q_cond_false rfl (q_skip (q_blk (q_region (ql_ar tabOk rfl rfl rfl rfl (by omega) (by omega) (ql_pure tabOk rfl rfl (q_nil ?_)))))))))
              exact hK2 (y + 1) _ _ (by omega) (by omega) ⟨rfl, rfl, rfl, rfl, rfl, (by refine lookI rfl ?_; omega), (by refine lookI rfl ?_; omega), rfl, rfl, rfl, rfl, rfl, rfl, trivial⟩ (by repeat constructor)
        · obtain rfl : y = st.length := by omega
          clear hc
          rw [List.take_length] at hlc hhc ⊢
          have hbad : gapBad st (prevH gs k) (gl, gh) = true → gapsF st none gs = none := fun h => by rw [hF, if_pos h]; rfl
          have hgood : gapBad st (prevH gs k) (gl, gh) = false → gapsF st none gs = (gapsF st (prevH gs (k + 1)) (gs.drop (k + 1))).map (fun s => s + (sum + (gh - gl))) := fun h => by
            rw [hF, if_neg (by rw [h]; simp), hnext, Option.map_map]
            congr 1
            funext s
            show s + (gh - gl) + sum = _
            omega
          by_cases h1 : gh ≤ gl
          · (refine q_exit _ rfl (q_seq (q_seq ?_)))
            refine q_draw _ [] (Sp.refl _) (by kernel_rfl) (by kernel_rfl) ?_
            (refine qf_pure tabOk rfl rfl rfl ?_; refine qf_loadBa tabOk rfl rfl rfl ?_; refine qf_pure tabOk rfl rfl rfl ?_; refine qf_loadBa tabOk rfl rfl rfl ?_; refine qf_geqT tabOk rfl rfl rfl (by omega) (qf_pure tabOk rfl rfl rfl ?_); (iterate 3 refine qf_gno rfl rfl rfl ?_); (iterate 9 refine qf_gnone rfl rfl ?_); refine qf_gno rfl rfl rfl (qf_pure tabOk rfl rfl rfl (qf_pure tabOk rfl rfl rfl ?_)); (iterate 3 refine qf_gno rfl rfl rfl ?_); refine qf_pure tabOk rfl rfl rfl (qf_pure tabOk rfl rfl rfl ?_); (iterate 6 refine qf_gno rfl rfl rfl ?_); refine qf_pure tabOk rfl rfl rfl (qf_nil (q_cond_true rfl (q_seq (q_region (ql_pure tabOk rfl rfl (ql_pure tabOk rfl rfl (q_nil (q_ret ?_)))))))))
            refine q_fin tabOk rfl (by repeat constructor) fun w hs => ?_
            exact ⟨by rw [hbad (by unfold gapBad; dsimp only; simp [*])]; rfl, hs.chg0⟩
          · by_cases hk0 : k = 0
            · have hp0 := hprev0 hk0
              by_cases h3 : lowC st gl % 2 = 0
              · (refine q_exit _ rfl (q_seq (q_seq ?_)))
                refine q_draw _ [] (Sp.refl _) (by kernel_rfl) (by kernel_rfl) ?_
                (refine qf_pure tabOk rfl rfl rfl ?_; refine qf_loadBa tabOk rfl rfl rfl ?_; refine qf_pure tabOk rfl rfl rfl ?_; refine qf_loadBa tabOk rfl rfl rfl ?_; refine qf_geqF tabOk rfl rfl rfl (by omega) (qf_pure tabOk rfl rfl rfl (qf_gyes rfl (qf_pure tabOk rfl rfl rfl (qf_gyes rfl (qf_gtrF tabOk rfl rfl rfl (by omega) (qf_gyes rfl (qf_pure tabOk rfl rfl rfl ?_))))))); (iterate 9 refine qf_gno rfl rfl rfl ?_); refine qf_gyes rfl ?_; (iterate 3 refine qf_pure tabOk rfl rfl rfl ?_); refine qf_gyes rfl (qf_pure tabOk rfl rfl rfl (qf_gyes rfl (qf_remN rfl rfl rfl (by omega) (by omega) (qf_gyes rfl (qf_eqlT tabOk rfl rfl rfl (by omega) (qf_pure tabOk rfl rfl rfl (qf_pure tabOk rfl rfl rfl ?_))))))); (iterate 6 refine qf_gno rfl rfl rfl ?_); refine qf_pure tabOk rfl rfl rfl (qf_nil (q_cond_true rfl (q_seq (q_region (ql_pure tabOk rfl rfl (ql_pure tabOk rfl rfl (q_nil (q_ret ?_)))))))))
                refine q_fin tabOk rfl (by repeat constructor) fun w hs => ?_
                exact ⟨by rw [hbad (by unfold gapBad; dsimp only; simp [*])]; rfl, hs.chg0⟩
              · by_cases h4 : lowC st gl + highC st gh = st.length
                · have hgd : gapBad st (prevH gs k) (gl, gh) = false := by unfold gapBad; rw [hp0]; dsimp only; simp [h1, h3, h4]
                  have hb2 := hbd hgd
                  (refine q_exit _ rfl (q_seq (q_seq ?_)))
                  refine q_draw _ [] (Sp.refl _) (by kernel_rfl) (by kernel_rfl) ?_
                  (refine qf_pure tabOk rfl rfl rfl ?_; refine qf_loadBa tabOk rfl rfl rfl ?_; refine qf_pure tabOk rfl rfl rfl ?_; refine qf_loadBa tabOk rfl rfl rfl ?_; refine qf_geqF tabOk rfl rfl rfl (by omega) (qf_pure tabOk rfl rfl rfl (qf_gyes rfl (qf_pure tabOk rfl rfl rfl (qf_gyes rfl (qf_gtrF tabOk rfl rfl rfl (by omega) (qf_gyes rfl (qf_pure tabOk rfl rfl rfl ?_))))))); (iterate 9 refine qf_gno rfl rfl rfl ?_); refine qf_gyes rfl ?_; (iterate 3 refine qf_pure tabOk rfl rfl rfl ?_); refine qf_gyes rfl (qf_pure tabOk rfl rfl rfl (qf_gyes rfl (qf_remN rfl rfl rfl (by omega) (by omega) (qf_gyes rfl (qf_eqlF tabOk rfl rfl rfl (by omega) (qf_pure tabOk rfl rfl rfl (qf_pure tabOk rfl rfl rfl (qf_gyes rfl (qf_pure tabOk rfl rfl rfl (qf_gyes rfl (qf_pure tabOk rfl rfl rfl ?_))))))))))); refine qf_gyes rfl (qf_ar tabOk rfl rfl rfl rfl (by omega) (by omega) (qf_gyes rfl (qf_pure tabOk rfl rfl rfl (qf_gyes rfl (qf_pure tabOk rfl rfl rfl (qf_gyes rfl (qf_neqF tabOk rfl rfl rfl (by omega) (qf_pure tabOk rfl rfl rfl (qf_nil (q_cond_false rfl (q_skip ?_))))))))))); refine q_region (ql_pure tabOk rfl rfl (ql_pure tabOk rfl rfl ?_)); refine ql_loadBa tabOk rfl rfl rfl ?_; refine ql_pure tabOk rfl rfl ?_; refine ql_loadBa tabOk rfl rfl rfl ?_; refine ql_ar tabOk rfl rfl rfl rfl (by omega) (by omega) (ql_ar tabOk rfl rfl rfl rfl (by omega) (by omega) (ql_pure tabOk rfl rfl (q_nil (q_blk (q_region (ql_ar tabOk rfl rfl rfl rfl (by omega) (by omega) (ql_pure tabOk rfl rfl (q_nil ?_)))))))))
                  exact hK (k + 1, sum + (gh - gl)) _ _ ⟨by simp only; omega, hgood hgd, by simp only; omega, by simp only; omega⟩ (by simp only; omega) ⟨rfl, rfl, rfl, rfl, rfl, rfl, trivial⟩ (by repeat constructor)
                · (refine q_exit _ rfl (q_seq (q_seq ?_)))
                  refine q_draw _ [] (Sp.refl _) (by kernel_rfl) (by kernel_rfl) ?_
                  (refine qf_pure tabOk rfl rfl rfl ?_; refine qf_loadBa tabOk rfl rfl rfl ?_; refine qf_pure tabOk rfl rfl rfl ?_; refine qf_loadBa tabOk rfl rfl rfl ?_; refine qf_geqF tabOk rfl rfl rfl (by omega) (qf_pure tabOk rfl rfl rfl (qf_gyes rfl (qf_pure tabOk rfl rfl rfl (qf_gyes rfl (qf_gtrF tabOk rfl rfl rfl (by omega) (qf_gyes rfl (qf_pure tabOk rfl rfl rfl ?_))))))); (iterate 9 refine qf_gno rfl rfl rfl ?_); refine qf_gyes rfl ?_; (iterate 3 refine qf_pure tabOk rfl rfl rfl ?_); refine qf_gyes rfl (qf_pure tabOk rfl rfl rfl (qf_gyes rfl (qf_remN rfl rfl rfl (by omega) (by omega) (qf_gyes rfl (qf_eqlF tabOk rfl rfl rfl (by omega) (qf_pure tabOk rfl rfl rfl (qf_pure tabOk rfl rfl rfl (qf_gyes rfl (qf_pure tabOk rfl rfl rfl (qf_gyes rfl (qf_pure tabOk rfl rfl rfl ?_))))))))))); refine qf_gyes rfl (qf_ar tabOk rfl rfl rfl rfl (by omega) (by omega) (qf_gyes rfl (qf_pure tabOk rfl rfl rfl (qf_gyes rfl (qf_pure tabOk rfl rfl rfl (qf_gyes rfl (qf_neqT tabOk rfl rfl rfl (by omega) (qf_pure tabOk rfl rfl rfl (qf_nil (q_cond_true rfl (q_seq ?_))))))))))); refine q_region (ql_pure tabOk rfl rfl (ql_pure tabOk rfl rfl (q_nil (q_ret ?_)))))
                  refine q_fin tabOk rfl (by repeat constructor) fun w hs => ?_
                  exact ⟨by rw [hbad (by unfold gapBad; dsimp only; simp [*])]; rfl, hs.chg0⟩
            · have hp0 := hprev (by omega)
              have hk3 : k - 1 < gs.length := by omega
              have ek : ((k : Int) - 1).toNat = k - 1 := by omega
              generalize hgp : gs[k - 1] = gp at *
              obtain ⟨gp1, gp2⟩ := gp
              dsimp only at *
              (refine q_exit _ rfl (q_seq (q_seq ?_)))
              refine q_draw _ [] (Sp.refl _) (by kernel_rfl) (by kernel_rfl) ?_
              (refine qf_pure tabOk rfl rfl rfl ?_; refine qf_loadBa tabOk rfl rfl rfl ?_; refine qf_pure tabOk rfl rfl rfl ?_; refine qf_loadBa tabOk rfl rfl rfl ?_; refine qf_geqF tabOk rfl rfl rfl (by omega) (qf_pure tabOk rfl rfl rfl (qf_gyes rfl (qf_pure tabOk rfl rfl rfl (qf_gyes rfl (qf_gtrT tabOk rfl rfl rfl (by omega) (qf_gyes rfl (qf_pure tabOk rfl rfl rfl (qf_gyes rfl (qf_pure tabOk rfl rfl rfl (qf_gyes rfl ?_)))))))))); refine qf_loadBa tabOk rfl rfl rfl ?_; refine qf_gyes rfl (qf_pure tabOk rfl rfl rfl (qf_gyes rfl (qf_pure tabOk rfl rfl rfl (qf_gyes rfl (qf_ar tabOk rfl rfl rfl rfl (by omega) (by omega) (qf_gyes rfl ?_)))))))
              refine qf_index tabOk rfl rfl rfl rfl rfl (by omega) (by omega) ?_
              (refine qf_gyes rfl (qf_pure tabOk rfl rfl rfl (qf_gyes rfl ?_)))
              refine qf_load1 (v := .int .i64 gp2) tabOk rfl rfl rfl (fun w hs => by
                rw [ek]
                have := RdS.at1 (RdE.keep hu hs.chg0) (k - 1) hk3
                rw [hgp] at this
                exact this) ?_
              by_cases h2 : gl < gp2
              · (refine qf_gyes rfl (qf_lssT tabOk rfl rfl rfl (by omega) (qf_gyes rfl ?_)); (iterate 3 refine qf_pure tabOk rfl rfl rfl ?_); (iterate 3 refine qf_gno rfl rfl rfl ?_); refine qf_pure tabOk rfl rfl rfl (qf_pure tabOk rfl rfl rfl ?_); (iterate 6 refine qf_gno rfl rfl rfl ?_); refine qf_pure tabOk rfl rfl rfl (qf_nil (q_cond_true rfl (q_seq (q_region (ql_pure tabOk rfl rfl (ql_pure tabOk rfl rfl (q_nil (q_ret ?_)))))))))
                refine q_fin tabOk rfl (by repeat constructor) fun w hs => ?_
                exact ⟨by rw [hbad (by unfold gapBad; dsimp only; simp [*])]; rfl, hs.chg0⟩
              · by_cases h3 : lowC st gl % 2 = 0
                · (refine qf_gyes rfl (qf_lssF tabOk rfl rfl rfl (by omega) (qf_gyes rfl ?_)); (iterate 3 refine qf_pure tabOk rfl rfl rfl ?_); refine qf_gyes rfl (qf_pure tabOk rfl rfl rfl (qf_gyes rfl (qf_remN rfl rfl rfl (by omega) (by omega) (qf_gyes rfl (qf_eqlT tabOk rfl rfl rfl (by omega) (qf_pure tabOk rfl rfl rfl (qf_pure tabOk rfl rfl rfl ?_))))))); (iterate 6 refine qf_gno rfl rfl rfl ?_); refine qf_pure tabOk rfl rfl rfl (qf_nil (q_cond_true rfl (q_seq (q_region (ql_pure tabOk rfl rfl (ql_pure tabOk rfl rfl (q_nil (q_ret ?_)))))))))
                  refine q_fin tabOk rfl (by repeat constructor) fun w hs => ?_
                  exact ⟨by rw [hbad (by unfold gapBad; dsimp only; simp [*])]; rfl, hs.chg0⟩
                · by_cases h4 : lowC st gl + highC st gh = st.length
                  · have hgd : gapBad st (prevH gs k) (gl, gh) = false := by unfold gapBad; dsimp only; simp [*]
                    have hb2 := hbd hgd
                    (refine qf_gyes rfl (qf_lssF tabOk rfl rfl rfl (by omega) (qf_gyes rfl ?_)); (iterate 3 refine qf_pure tabOk rfl rfl rfl ?_); refine qf_gyes rfl (qf_pure tabOk rfl rfl rfl (qf_gyes rfl (qf_remN rfl rfl rfl (by omega) (by omega) (qf_gyes rfl (qf_eqlF tabOk rfl rfl rfl (by omega) (qf_pure tabOk rfl rfl rfl (qf_pure tabOk rfl rfl rfl (qf_gyes rfl (qf_pure tabOk rfl rfl rfl (qf_gyes rfl (qf_pure tabOk rfl rfl rfl ?_))))))))))); refine qf_gyes rfl (qf_ar tabOk rfl rfl rfl rfl (by omega) (by omega) (qf_gyes rfl (qf_pure tabOk rfl rfl rfl (qf_gyes rfl (qf_pure tabOk rfl rfl rfl (qf_gyes rfl (qf_neqF tabOk rfl rfl rfl (by omega) (qf_pure tabOk rfl rfl rfl (qf_nil (q_cond_false rfl (q_skip ?_))))))))))); refine q_region (ql_pure tabOk rfl rfl (ql_pure tabOk rfl rfl ?_)); refine ql_loadBa tabOk rfl rfl rfl ?_; refine ql_pure tabOk rfl rfl ?_; refine ql_loadBa tabOk rfl rfl rfl ?_; refine ql_ar tabOk rfl rfl rfl rfl (by omega) (by omega) (ql_ar tabOk rfl rfl rfl rfl (by omega) (by omega) (ql_pure tabOk rfl rfl (q_nil (q_blk (q_region (ql_ar tabOk rfl rfl rfl rfl (by omega) (by omega) (ql_pure tabOk rfl rfl (q_nil ?_)))))))))
                    exact hK (k + 1, sum + (gh - gl)) _ _ ⟨by simp only; omega, hgood hgd, by simp only; omega, by simp only; omega⟩ (by simp only; omega) ⟨rfl, rfl, rfl, rfl, rfl, rfl, trivial⟩ (by repeat constructor)
                  · (refine qf_gyes rfl (qf_lssF tabOk rfl rfl rfl (by omega) (qf_gyes rfl ?_)); (iterate 3 refine qf_pure tabOk rfl rfl rfl ?_); refine qf_gyes rfl (qf_pure tabOk rfl rfl rfl (qf_gyes rfl (qf_remN rfl rfl rfl (by omega) (by omega) (qf_gyes rfl (qf_eqlF tabOk rfl rfl rfl (by omega) (qf_pure tabOk rfl rfl rfl (qf_pure tabOk rfl rfl rfl (qf_gyes rfl (qf_pure tabOk rfl rfl rfl (qf_gyes rfl (qf_pure tabOk rfl rfl rfl ?_))))))))))); refine qf_gyes rfl (qf_ar tabOk rfl rfl rfl rfl (by omega) (by omega) (qf_gyes rfl (qf_pure tabOk rfl rfl rfl (qf_gyes rfl (qf_pure tabOk rfl rfl rfl (qf_gyes rfl (qf_neqT tabOk rfl rfl rfl (by omega) (qf_pure tabOk rfl rfl rfl (qf_nil (q_cond_true rfl (q_seq ?_))))))))))); refine q_region (ql_pure tabOk rfl rfl (ql_pure tabOk rfl rfl (q_nil (q_ret ?_)))))
                    refine q_fin tabOk rfl (by repeat constructor) fun w hs => ?_
                    exact ⟨by rw [hbad (by unfold gapBad; dsimp only; simp [*])]; rfl, hs.chg0⟩
      · obtain rfl : k = gs.length := by omega
        rw [List.drop_length] at hF
        have e : gapsF st none gs = some sum := by rw [hF]; show some (0 + sum) = _; rw [Int.zero_add]
        rw [e]
        (refine q_exit _ rfl (q_seq (q_region ?_)); (iterate 3 refine ql_pure tabOk rfl rfl ?_); refine q_nil (q_ret ?_))
        refine q_fin tabOk rfl (by repeat constructor) fun w hs => ?_
        exact ⟨rfl, hs.chg0⟩
  · (refine ql_pure tabOk rfl rfl (q_nil (q_seq (q_block (q_seq (q_region (ql_pure tabOk rfl rfl (ql_neqT tabOk rfl rfl rfl (by omega) (ql_pure tabOk rfl rfl (q_nil (q_cond_true rfl (q_seq ?_))))))))))); refine q_region ?_; (iterate 3 refine ql_pure tabOk rfl rfl ?_); refine q_nil (q_ret ?_))
    refine q_fin tabOk rfl (by repeat constructor) fun w hs => ?_
    exact ⟨by unfold gapsV; rw [if_pos he]; rfl, hs.chg0⟩
end Go.Proofs.YtcmpdmobmbbplaaGreat

/- Walks: lists compared. -/
namespace Go.Proofs.YtcmpdmobmbbplaaGreat
set_option maxRecDepth 4000
open Go Go.Eng

def eqIB (a b : List Int) : Bool := decide (a = b) && true
theorem eqIB_iff {a b : List Int} : eqIB a b = true ↔ a = b := by simp [eqIB]
set_option maxHeartbeats 1000000 in
theorem eqIF_ca (w : World) (lo hi lo2 hi2 : Nat) (v u : Value) (l m : List Int) (h1 : RdI w lo hi v l) (h2 : RdI w lo2 hi2 u m) (hlen : l.length ≤ 1000000) (hlen2 : m.length ≤ 1000000) :
    Ca Tryz.prog 40 [v, u] w fun r w' => r = .bool (eqIB l m) ∧ Chg [] w w' := by
  obtain ⟨a, ca, rfl, hsa⟩ := RdI.outI h1
  obtain ⟨b, cb, rfl, hsb⟩ := RdI.outI h2
  refine q_of (Sat.nil w M0) Tryz.func40 rfl (by simp [Tryz.ntmps40]) ?_
  (refine q_seq (q_region (ql_pure tabOk rfl rfl (q_nil (q_seq (q_seq (q_region ?_)))))); (iterate 5 refine ql_pure tabOk rfl rfl ?_); refine q_nil ?_)
  by_cases hll : l.length = m.length
  · rw [decide_eq_true (show (l.length : Int) = m.length by omega)]
    (refine q_cond_false rfl (q_skip (q_seq (q_seq (q_region ?_)))); (iterate 3 refine ql_pure tabOk rfl rfl ?_); refine q_nil (q_block ?_))
    refine q_loop (σ := Nat) (fun s => s ≤ l.length ∧ l.take s = m.take s) (fun s => l.length - s) (fun s => [(0, .slice a l.length ca), (1, .slice b m.length cb), (12, .int .i64 l.length), (13, .int .i64 s)]) (fun _ => []) 0 (by simp) ⟨rfl, rfl, rfl, rfl, trivial⟩ (by repeat constructor) ?_
    rintro i ⟨hi, ht⟩ K hK
    (refine q_seq (q_region (ql_pure tabOk rfl rfl (q_nil (q_seq ?_)))))
    refine q_if rfl (fun hc => ?_) (fun hc => ?_)
    · have hi2 : i < l.length := by omega
      have hi3 : i < m.length := by omega
      clear hc
      obtain ⟨ba, oa, rfl⟩ := hsa (by omega)
      obtain ⟨bb, ob, rfl⟩ := hsb (by omega)
      (refine q_skip (q_seq (q_block (q_seq (q_region (ql_pure tabOk rfl rfl (ql_pure tabOk rfl rfl (q_nil (q_seq ?_)))))))))
      refine q_draw _ [] (Sp.refl _) (by kernel_rfl) (by kernel_rfl) ?_
      (refine qf_pure tabOk rfl rfl rfl (qf_pure tabOk rfl rfl rfl ?_))
      (refine qf_index tabOk rfl rfl rfl rfl rfl (by omega) (by omega) ?_; refine qf_load1 tabOk rfl rfl rfl (fun w hs => RdI.at (RdE.keep h1 hs.chg0) i hi2) ?_)
      (refine qf_pure tabOk rfl rfl rfl (qf_pure tabOk rfl rfl rfl ?_))
      (refine qf_index tabOk rfl rfl rfl rfl rfl (by omega) (by omega) ?_; refine qf_load1 tabOk rfl rfl rfl (fun w hs => RdI.at (RdE.keep h2 hs.chg0) i hi3) ?_)
      (refine qf_pure tabOk rfl rfl rfl (qf_nil ?_))
      by_cases he : l[i] = m[i]
      · skip
        rw [decide_eq_true he]
        (refine q_cond_false rfl (q_skip (q_blk (q_region (ql_ar tabOk rfl rfl rfl rfl (by omega) (by omega) (ql_pure tabOk rfl rfl (q_nil ?_)))))))
        exact hK (i + 1) _ _ ⟨by omega, by rw [List.take_succ_eq_append_getElem hi2, List.take_succ_eq_append_getElem hi3, ht, he]⟩ (by omega) ⟨rfl, rfl, rfl, rfl, trivial⟩ (by repeat constructor)
      · have e : eqIB l m = false := Bool.eq_false_iff.2 fun hh => he (by have := eqIB_iff.1 hh; subst this; rfl)
        rw [e, decide_eq_false he]
        (refine q_cond_true rfl (q_seq (q_region (ql_pure tabOk rfl rfl (q_nil (q_ret ?_))))))
        refine q_fin tabOk rfl (by repeat constructor) fun w hs => ?_
        exact ⟨rfl, hs.chg0⟩
    · obtain rfl : i = l.length := by omega
      have e : eqIB l m = true := eqIB_iff.2 (by rw [List.take_length] at ht; rw [hll, List.take_length] at ht; exact ht)
      rw [e]
      (refine q_exit _ rfl (q_seq (q_region (ql_pure tabOk rfl rfl (q_nil (q_ret ?_))))))
      refine q_fin tabOk rfl (by repeat constructor) fun w hs => ?_
      exact ⟨rfl, hs.chg0⟩
  · have e : eqIB l m = false := Bool.eq_false_iff.2 fun hh => hll (by rw [eqIB_iff.1 hh])
    rw [e, decide_eq_false (show ¬ (l.length : Int) = m.length by omega)]
    (refine q_cond_true rfl (q_seq (q_region (ql_pure tabOk rfl rfl (q_nil (q_ret ?_))))))
    refine q_fin tabOk rfl (by repeat constructor) fun w hs => ?_
    exact ⟨rfl, hs.chg0⟩
theorem eqI_ca (w : World) (lo hi lo2 hi2 : Nat) (v u : Value) (l : List Int) (h1 : RdI w lo hi v l) (h2 : RdI w lo2 hi2 u l) (hlen : l.length ≤ 1000000) :
    Ca Tryz.prog 40 [v, u] w fun r w' => r = .bool true ∧ Chg [] w w' := by
  have h := eqIF_ca w lo hi lo2 hi2 v u l l h1 h2 hlen hlen
  rwa [eqIB_iff.2 rfl] at h

theorem spn_flat : flatB Tryz.prog 64 [some .i64, some .i64] = true := by kernel_rfl
set_option maxHeartbeats 1000000 in
theorem eqS_ca (w : World) (lo hi lo2 hi2 : Nat) (v u : Value) (l : List (Int × Int)) (h1 : RdS w lo hi v l) (h2 : RdS w lo2 hi2 u l) (hlen : l.length ≤ 1000000) :
    Ca Tryz.prog 38 [v, u] w fun r w' => r = .bool true ∧ Chg [] w w' := by
  obtain ⟨a, ca, rfl, hsa⟩ := RdS.outI h1
  obtain ⟨b, cb, rfl, hsb⟩ := RdS.outI h2
  refine q_of (Sat.nil w M0) Tryz.func38 rfl (by simp [Tryz.ntmps38]) ?_
  (refine q_seq (q_region (ql_pure tabOk rfl rfl (q_nil (q_seq (q_seq (q_region ?_)))))); (iterate 4 refine ql_pure tabOk rfl rfl ?_); refine ql_neqF tabOk rfl rfl rfl (by omega) (q_nil (q_cond_false rfl (q_skip (q_seq (q_seq (q_region ?_)))))); (iterate 3 refine ql_pure tabOk rfl rfl ?_); refine q_nil (q_block ?_))
  refine q_loop (σ := Nat) (fun s => s ≤ l.length) (fun s => l.length - s) (fun s => [(0, .slice a l.length ca), (1, .slice b l.length cb), (12, .int .i64 l.length), (13, .int .i64 s)]) (fun _ => []) 0 (by omega) ⟨rfl, rfl, rfl, rfl, trivial⟩ (by repeat constructor) ?_
  intro i hi K hK
  (refine q_seq (q_region (ql_pure tabOk rfl rfl (q_nil (q_seq ?_)))))
  refine q_if rfl (fun hc => ?_) (fun hc => ?_)
  · have hi2 : i < l.length := by omega
    clear hc
    obtain ⟨ba, oa, rfl⟩ := hsa (by omega)
    obtain ⟨bb, ob, rfl⟩ := hsb (by omega)
    (refine q_skip (q_seq (q_block (q_seq (q_region (ql_pure tabOk rfl rfl (ql_pure tabOk rfl rfl (q_nil (q_seq ?_)))))))))
    refine q_draw _ [] (Sp.refl _) (by kernel_rfl) (by kernel_rfl) ?_
    (refine qf_pure tabOk rfl rfl rfl (qf_pure tabOk rfl rfl rfl ?_))
    refine qf_index tabOk rfl rfl rfl rfl rfl (by omega) (by omega) ?_
    refine qf_loadA tabOk rfl rfl rfl rfl (fun w hs => RdS.at (RdE.keep h1 hs.chg0) i hi2) ?_
    (refine qf_pure tabOk rfl rfl rfl (qf_pure tabOk rfl rfl rfl ?_))
    refine qf_index tabOk rfl rfl rfl rfl rfl (by omega) (by omega) ?_
    refine qf_loadA tabOk rfl rfl rfl rfl (fun w hs => RdS.at (RdE.keep h2 hs.chg0) i hi2) ?_
    skip
    refine qf_neF [some .i64, some .i64] spn_flat rfl rfl rfl rfl rfl ?_
    rw [eqL_refl]
    (refine qf_nil (q_cond_false rfl (q_skip (q_blk (q_region (ql_ar tabOk rfl rfl rfl rfl (by omega) (by omega) (ql_pure tabOk rfl rfl (q_nil ?_))))))))
    exact hK (i + 1) _ _ (by omega) (by omega) ⟨rfl, rfl, rfl, rfl, trivial⟩ (by repeat constructor)
  · (refine q_exit _ rfl (q_seq (q_region (ql_pure tabOk rfl rfl (q_nil (q_ret ?_))))))
    refine q_fin tabOk rfl (by repeat constructor) fun w hs => ?_
    exact ⟨rfl, hs.chg0⟩

theorem run_flat : flatB Tryz.prog 40 [some .i64, some .i64, some .i64] = true := by kernel_rfl
set_option maxHeartbeats 1000000 in
theorem eqR_ca (w : World) (lo hi lo2 hi2 : Nat) (v u : Value) (l : List Rn) (h1 : RdR w lo hi v l) (h2 : RdR w lo2 hi2 u l) (hlen : l.length ≤ 1000000) :
    Ca Tryz.prog 74 [v, u] w fun r w' => r = .bool true ∧ Chg [] w w' := by
  obtain ⟨a, ca, rfl, hsa⟩ := RdR.outI h1
  obtain ⟨b, cb, rfl, hsb⟩ := RdR.outI h2
  refine q_of (Sat.nil w M0) Tryz.func74 rfl (by simp [Tryz.ntmps74]) ?_
  (refine q_seq (q_region (ql_pure tabOk rfl rfl (q_nil (q_seq (q_seq (q_region ?_)))))); (iterate 4 refine ql_pure tabOk rfl rfl ?_); refine ql_neqF tabOk rfl rfl rfl (by omega) (q_nil (q_cond_false rfl (q_skip (q_seq (q_seq (q_region ?_)))))); (iterate 3 refine ql_pure tabOk rfl rfl ?_); refine q_nil (q_block ?_))
  refine q_loop (σ := Nat) (fun s => s ≤ l.length) (fun s => l.length - s) (fun s => [(0, .slice a l.length ca), (1, .slice b l.length cb), (12, .int .i64 l.length), (13, .int .i64 s)]) (fun _ => []) 0 (by omega) ⟨rfl, rfl, rfl, rfl, trivial⟩ (by repeat constructor) ?_
  intro i hi K hK
  (refine q_seq (q_region (ql_pure tabOk rfl rfl (q_nil (q_seq ?_)))))
  refine q_if rfl (fun hc => ?_) (fun hc => ?_)
  · have hi2 : i < l.length := by omega
    clear hc
    obtain ⟨ba, oa, rfl⟩ := hsa (by omega)
    obtain ⟨bb, ob, rfl⟩ := hsb (by omega)
    (refine q_skip (q_seq (q_block (q_seq (q_region (ql_pure tabOk rfl rfl (ql_pure tabOk rfl rfl (q_nil (q_seq ?_)))))))))
    refine q_draw _ [] (Sp.refl _) (by kernel_rfl) (by kernel_rfl) ?_
    (refine qf_pure tabOk rfl rfl rfl (qf_pure tabOk rfl rfl rfl ?_))
    refine qf_index tabOk rfl rfl rfl rfl rfl (by omega) (by omega) ?_
    refine qf_loadA tabOk rfl rfl rfl rfl (fun w hs => RdR.at (RdE.keep h1 hs.chg0) i hi2) ?_
    (refine qf_pure tabOk rfl rfl rfl (qf_pure tabOk rfl rfl rfl ?_))
    refine qf_index tabOk rfl rfl rfl rfl rfl (by omega) (by omega) ?_
    refine qf_loadA tabOk rfl rfl rfl rfl (fun w hs => RdR.at (RdE.keep h2 hs.chg0) i hi2) ?_
    skip
    refine qf_neF [some .i64, some .i64, some .i64] run_flat rfl rfl rfl rfl rfl ?_
    rw [eqL_refl]
    (refine qf_nil (q_cond_false rfl (q_skip (q_blk (q_region (ql_ar tabOk rfl rfl rfl rfl (by omega) (by omega) (ql_pure tabOk rfl rfl (q_nil ?_))))))))
    exact hK (i + 1) _ _ (by omega) (by omega) ⟨rfl, rfl, rfl, rfl, trivial⟩ (by repeat constructor)
  · (refine q_exit _ rfl (q_seq (q_region (ql_pure tabOk rfl rfl (q_nil (q_ret ?_))))))
    refine q_fin tabOk rfl (by repeat constructor) fun w hs => ?_
    exact ⟨rfl, hs.chg0⟩

theorem zone_flat : flatB Tryz.prog 111 [some .i64, some .i64, some .i64] = true := by kernel_rfl
set_option maxHeartbeats 1000000 in
theorem eqZ_ca (w : World) (lo hi lo2 hi2 : Nat) (v u : Value) (l : List Rn) (h1 : RdR w lo hi v l) (h2 : RdR w lo2 hi2 u l) (hlen : l.length ≤ 1000000) :
    Ca Tryz.prog 60 [v, u] w fun r w' => r = .bool true ∧ Chg [] w w' := by
  obtain ⟨a, ca, rfl, hsa⟩ := RdR.outI h1
  obtain ⟨b, cb, rfl, hsb⟩ := RdR.outI h2
  refine q_of (Sat.nil w M0) Tryz.func60 rfl (by simp [Tryz.ntmps60]) ?_
  (refine q_seq (q_region (ql_pure tabOk rfl rfl (q_nil (q_seq (q_seq (q_region ?_)))))); (iterate 4 refine ql_pure tabOk rfl rfl ?_); refine ql_neqF tabOk rfl rfl rfl (by omega) (q_nil (q_cond_false rfl (q_skip (q_seq (q_seq (q_region ?_)))))); (iterate 3 refine ql_pure tabOk rfl rfl ?_); refine q_nil (q_block ?_))
  refine q_loop (σ := Nat) (fun s => s ≤ l.length) (fun s => l.length - s) (fun s => [(0, .slice a l.length ca), (1, .slice b l.length cb), (12, .int .i64 l.length), (13, .int .i64 s)]) (fun _ => []) 0 (by omega) ⟨rfl, rfl, rfl, rfl, trivial⟩ (by repeat constructor) ?_
  intro i hi K hK
  (refine q_seq (q_region (ql_pure tabOk rfl rfl (q_nil (q_seq ?_)))))
  refine q_if rfl (fun hc => ?_) (fun hc => ?_)
  · have hi2 : i < l.length := by omega
    clear hc
    obtain ⟨ba, oa, rfl⟩ := hsa (by omega)
    obtain ⟨bb, ob, rfl⟩ := hsb (by omega)
    (refine q_skip (q_seq (q_block (q_seq (q_region (ql_pure tabOk rfl rfl (ql_pure tabOk rfl rfl (q_nil (q_seq ?_)))))))))
    refine q_draw _ [] (Sp.refl _) (by kernel_rfl) (by kernel_rfl) ?_
    (refine qf_pure tabOk rfl rfl rfl (qf_pure tabOk rfl rfl rfl ?_))
    refine qf_index tabOk rfl rfl rfl rfl rfl (by omega) (by omega) ?_
    refine qf_loadA tabOk rfl rfl rfl rfl (fun w hs => RdR.at (RdE.keep h1 hs.chg0) i hi2) ?_
    (refine qf_pure tabOk rfl rfl rfl (qf_pure tabOk rfl rfl rfl ?_))
    refine qf_index tabOk rfl rfl rfl rfl rfl (by omega) (by omega) ?_
    refine qf_loadA tabOk rfl rfl rfl rfl (fun w hs => RdR.at (RdE.keep h2 hs.chg0) i hi2) ?_
    skip
    refine qf_neF [some .i64, some .i64, some .i64] zone_flat rfl rfl rfl rfl rfl ?_
    rw [eqL_refl]
    (refine qf_nil (q_cond_false rfl (q_skip (q_blk (q_region (ql_ar tabOk rfl rfl rfl rfl (by omega) (by omega) (ql_pure tabOk rfl rfl (q_nil ?_))))))))
    exact hK (i + 1) _ _ (by omega) (by omega) ⟨rfl, rfl, rfl, rfl, trivial⟩ (by repeat constructor)
  · (refine q_exit _ rfl (q_seq (q_region (ql_pure tabOk rfl rfl (q_nil (q_ret ?_))))))
    refine q_fin tabOk rfl (by repeat constructor) fun w hs => ?_
    exact ⟨rfl, hs.chg0⟩
end Go.Proofs.YtcmpdmobmbbplaaGreat

/- Walks: the examples of the chapter. -/
namespace Go.Proofs.YtcmpdmobmbbplaaGreat
set_option maxRecDepth 4000
open Go Go.Eng

theorem Blk.rdS' {w : World} {b c n : Nat} {l : List (Int × Int)} {t : TypeId} (h : Blk w b (spC l) t) (hn : n = l.length) : RdS w 0 w.heap.size (.slice (some ⟨b, 0, none⟩) n c) l := by
  subst hn
  exact RdS.of (Blk.rdN (sz := 2) h (spC_length l))
theorem Blk.rdR' {w : World} {b c n : Nat} {l : List Rn} {t : TypeId} (h : Blk w b (rnC l) t) (hn : n = l.length) : RdR w 0 w.heap.size (.slice (some ⟨b, 0, none⟩) n c) l := by
  subst hn
  exact RdR.of (Blk.rdN (sz := 3) h (rnC_length l))
theorem four_ca (w : World) : Ca Tryz.prog 48 [] w fun x w' => ∃ b : Nat, x = .agg (lbC fourL (.slice (some ⟨b, 0, none⟩) 4 4)).toArray ∧ Sat w M0 [.pt b (rnC fourL.runs) 40] w' := by
  refine q_of (Sat.nil w M0) Tryz.func48 rfl (by simp [Tryz.ntmps48]) ?_
  (refine q_seq (q_region ?_))
  refine ql_alloc zero24 rfl (fun b0 => ?_)
  (refine q_nil (q_seq (q_region ?_)))
  refine ql_mk #[.int .i64 0, .int .i64 1, .int .i64 8] rfl (by kernel_rfl) rfl ?_
  refine ql_mk #[.int .i64 1, .int .i64 2, .int .i64 3] rfl (by kernel_rfl) rfl ?_
  refine ql_mk #[.int .i64 2, .int .i64 1, .int .i64 (-9)] rfl (by kernel_rfl) rfl ?_
  refine ql_mk #[.int .i64 3, .int .i64 0, .int .i64 (-6)] rfl (by kernel_rfl) rfl ?_
  refine ql_mkS 40 (rnC fourL.runs) rfl (by kernel_rfl) rfl (fun b5 => ?_)
  refine ql_mk #[.int .i64 4, .int .i64 5, .slice (some ⟨b5, 0, none⟩) 4 4] rfl (by kernel_rfl) rfl ?_
  (refine ql_setA tabOk rfl rfl rfl rfl rfl (by repeat constructor) rfl ?_; refine q_nil (q_ret ?_))
  refine q_fin tabOk rfl (by repeat constructor) fun w hs => ?_
  exact ⟨b5, rfl, hs.sp (by repeat constructor)⟩
theorem three_ca (w : World) : Ca Tryz.prog 50 [] w fun x w' => ∃ y : Nat × Nat × Nat × Nat, x = .slice (some ⟨y.2.2.2, 0, none⟩) 3 3 ∧ Sat w M0 [.pt y.2.2.2 [.slice (some ⟨y.1, 0, none⟩) 4 4, .slice (some ⟨y.2.1, 0, none⟩) 4 4, .slice (some ⟨y.2.2.1, 0, none⟩) 4 4] 48, .pt y.2.2.1 (ints [9, 9, 2, 1]) 3, .pt y.2.1 (ints [6, 2, 3, 8]) 3, .pt y.1 (ints [5, 4, 9, 9]) 3] w' := by
  refine q_of (Sat.nil w M0) Tryz.func50 rfl (by simp [Tryz.ntmps50]) ?_
  (refine q_seq (q_region (ql_pure tabOk rfl rfl (q_nil (q_seq (q_region ?_))))))
  refine ql_mkS 3 (ints [5, 4, 9, 9]) rfl (by kernel_rfl) rfl (fun c1 => ?_)
  refine ql_mkS 3 (ints [6, 2, 3, 8]) rfl (by kernel_rfl) rfl (fun c2 => ?_)
  refine ql_mkS 3 (ints [9, 9, 2, 1]) rfl (by kernel_rfl) rfl (fun c3 => ?_)
  refine ql_mkS 48 [.slice (some ⟨c1, 0, none⟩) 4 4, .slice (some ⟨c2, 0, none⟩) 4 4, .slice (some ⟨c3, 0, none⟩) 4 4] rfl (by kernel_rfl) rfl (fun c4 => ?_)
  (refine ql_pure tabOk rfl rfl (q_nil (q_ret ?_)))
  refine q_fin tabOk rfl (by repeat constructor) fun w hs => ?_
  exact ⟨(c1, c2, c3, c4), rfl, hs.sp (by repeat constructor)⟩
theorem six_ca (w : World) : Ca Tryz.prog 51 [] w fun x w' => ∃ b : Nat, x = .slice (some ⟨b, 0, none⟩) 6 6 ∧ Sat w M0 [.pt b (ints sixL) 3] w' := by
  refine q_of (Sat.nil w M0) Tryz.func51 rfl (by simp [Tryz.ntmps51]) ?_
  (refine q_seq (q_region (ql_pure tabOk rfl rfl (q_nil (q_seq (q_region ?_))))))
  refine ql_mkS 3 (ints sixL) rfl (by kernel_rfl) rfl (fun c1 => ?_)
  (refine ql_pure tabOk rfl rfl (q_nil (q_ret ?_)))
  refine q_fin tabOk rfl (by repeat constructor) fun w hs => ?_
  exact ⟨c1, rfl, hs.sp (by repeat constructor)⟩
theorem span_ca (lo hi : Int) (w : World) : Ca Tryz.prog 52 [.int .i64 lo, .int .i64 hi] w fun x w' => x = rtV (lo, hi) ∧ Chg [] w w' := by
  refine q_of (Sat.nil w M0) Tryz.func52 rfl (by simp [Tryz.ntmps52]) ?_
  (refine q_seq (q_region ?_))
  refine ql_alloc zero64 rfl (fun b4 => ?_)
  (refine q_nil (q_seq (q_region (ql_pure tabOk rfl rfl (ql_pure tabOk rfl rfl ?_)))))
  refine ql_mk #[.int .i64 lo, .int .i64 hi] rfl (by kernel_rfl) rfl ?_
  (refine ql_setA tabOk rfl rfl rfl rfl rfl (by repeat constructor) rfl ?_; refine q_nil (q_ret ?_))
  refine q_fin tabOk rfl (by repeat constructor) fun w hs => ?_
  exact ⟨rfl, hs.chg0⟩
theorem blk_II {w : World} {c1 c2 c3 c4 : Nat} {t1 t2 t3 t4 : TypeId} {l1 l2 l3 : List Int} {n1 n2 n3 : Nat} (e1 : n1 = l1.length) (e2 : n2 = l2.length) (e3 : n3 = l3.length) (h1 : Blk w c1 (ints l1) t1) (h2 : Blk w c2 (ints l2) t2) (h3 : Blk w c3 (ints l3) t3)
    (h4 : Blk w c4 [.slice (some ⟨c1, 0, none⟩) n1 n1, .slice (some ⟨c2, 0, none⟩) n2 n2, .slice (some ⟨c3, 0, none⟩) n3 n3] t4) : RdII w 0 w.heap.size (.slice (some ⟨c4, 0, none⟩) 3 3) [l1, l2, l3] := by
  subst e1 e2 e3
  refine ⟨[.slice (some ⟨c1, 0, none⟩) l1.length l1.length, .slice (some ⟨c2, 0, none⟩) l2.length l2.length, .slice (some ⟨c3, 0, none⟩) l3.length l3.length], RdE.one (by have := Blk.rdN (c := 3) (sz := 1) (q := 3) h4 rfl; exact this) (by simp [oneV]), rfl, fun i hi hi' => ?_⟩
  obtain rfl | rfl | rfl : i = 0 ∨ i = 1 ∨ i = 2 := by simp at hi; omega
  · exact Blk.rdI h1
  · exact Blk.rdI h2
  · exact Blk.rdI h3
theorem aw_ok : fourL.Ok ∧ NoC fourL.ord fourL.n := agreed_iff.1 aw_check
theorem aw_plan : PlanOk fourL 4 := planned_iff.1 (by decide +kernel)
theorem aw_few2 : planO fourL.n 4 fourL.ord = 2 := by decide +kernel
theorem aw_n : fourL.n = 4 := by decide
theorem aw_ord2 : cnt fourL.ord fourL.n (2 ^ fourL.n - 1) = 3 := aw_orders
theorem aw_pl2 : plC fourL fourL.ord fourL.n = [(1, 1), (2, 3), (3, 4), (2, 4)] := aw_places
theorem aw_wax2 : bestV threeT 0 2 = (1, 1, 0) := by decide +kernel
theorem aw_lim : limitV threeT 1 = 0 := by decide +kernel
set_option maxHeartbeats 4000000 in
set_option maxRecDepth 4000 in
theorem awake_ca (w : World) : Ca Tryz.prog 10 [] w fun v w' => v = .bool true ∧ Chg [] w w' := by
  refine q_of (Sat.nil w M0) Tryz.func10 rfl (by simp [Tryz.ntmps10]) ?_
  have hF : ∀ w' b, Blk w' b (rnC fourL.runs) 40 → RdR w' 0 w'.heap.size (.slice (some ⟨b, 0, none⟩) 4 4) fourL.runs := fun w' b hb => Blk.rdR' hb rfl
  (refine q_seq (q_region (ql_pure tabOk rfl rfl (q_nil (q_seq (q_region ?_))))))
  refine ql_call (β := Nat) tabOk [] _ M0 rfl rfl rfl rfl (Sp.refl _) (fun _ h => h.elim) (fun w' hs => four_ca w') ?_
  rintro b1 _ rfl
  dsimp only [List.cons_append, List.nil_append]
  refine ql_call (β := Value) tabOk [] _ M0 rfl rfl rfl rfl (Sp.refl _) (fun _ h => h.elim) (fun w' hs => places_ok w' 0 w'.heap.size fourL _ (hF w' b1 (hs.blk (by repeat constructor))) aw_ok.1 aw_ok.2) ?_
  rintro va _ rfl
  rw [aw_pl2, aw_n]
  dsimp only [List.cons_append, List.nil_append]
  refine ql_fact (fun w hs => hs.ownSome (v := va) (by repeat constructor) (by decide)) ?_
  rintro ⟨a1, a2, rfl⟩
  (refine ql_pure tabOk rfl rfl (ql_ext tabOk rfl rfl rfl (ql_ext tabOk rfl rfl rfl (ql_pure tabOk rfl rfl (ql_pure tabOk rfl rfl (q_nil (q_seq (q_region ?_))))))))
  refine ql_call (β := Nat) tabOk [] _ M0 rfl rfl rfl rfl (Sp.refl _) (fun _ h => h.elim) (fun w' hs => four_ca w') ?_
  rintro b2 _ rfl
  dsimp only [List.cons_append, List.nil_append]
  refine ql_callv (val := .tuple #[.int .i64 3, .int .i64 0]) tabOk rfl rfl rfl rfl (fun w hs => ?_) ?_; exact by have := orders_ok w 0 w.heap.size fourL _ (hF w b2 (hs.blk (by repeat constructor))) aw_ok.1 aw_ok.2; rw [aw_ord2] at this; exact this
  (refine ql_pure tabOk rfl rfl (ql_ext tabOk rfl rfl rfl (ql_ext tabOk rfl rfl rfl (ql_pure tabOk rfl rfl (ql_pure tabOk rfl rfl (q_nil (q_seq (q_region ?_))))))))
  refine ql_call (β := Nat) tabOk [] _ M0 rfl rfl rfl rfl (Sp.refl _) (fun _ h => h.elim) (fun w' hs => four_ca w') ?_
  rintro b3 _ rfl
  dsimp only [List.cons_append, List.nil_append]
  refine ql_mkS 3 (ints [0, 2]) rfl (by kernel_rfl) rfl (fun c1 => ?_)
  refine ql_callv (val := .tuple #[.bool true, .int .i64 0]) tabOk rfl rfl rfl rfl (fun w hs => ?_) ?_; exact by have := chainShows_ca w 0 w.heap.size 0 w.heap.size fourL _ 0 2 _ [0, 2] (hF w b3 (hs.blk (by repeat constructor))) (by decide) (Blk.rdI (c := 2) (hs.blk (b := c1) (by repeat constructor))) (by decide); rw [aw_chain] at this; exact this
  (refine ql_pure tabOk rfl rfl (ql_ext tabOk rfl rfl rfl (ql_ext tabOk rfl rfl rfl (ql_pure tabOk rfl rfl (ql_pure tabOk rfl rfl (q_nil (q_seq (q_region ?_))))))))
  refine ql_call (β := Nat) tabOk [] _ M0 rfl rfl rfl rfl (Sp.refl _) (fun _ h => h.elim) (fun w' hs => four_ca w') ?_
  rintro b4 _ rfl
  dsimp only [List.cons_append, List.nil_append]
  refine ql_callv (val := .tuple #[.int .i64 2, .int .i64 0]) tabOk rfl rfl rfl rfl (fun w hs => ?_) ?_; exact by have := fewest_ok w 0 w.heap.size fourL _ 4 (hF w b4 (hs.blk (by repeat constructor))) aw_plan; rw [aw_few2] at this; exact this
  (refine ql_pure tabOk rfl rfl (ql_ext tabOk rfl rfl rfl (ql_ext tabOk rfl rfl rfl (ql_pure tabOk rfl rfl (ql_pure tabOk rfl rfl (q_nil (q_seq (q_seq (q_region (ql_pure tabOk rfl rfl (ql_neqF tabOk rfl rfl rfl (by omega) (ql_pure tabOk rfl rfl ?_))))))))))); refine ql_gyes rfl (ql_pure tabOk rfl rfl (ql_gyes rfl (ql_neqF tabOk rfl rfl rfl (by omega) (ql_pure tabOk rfl rfl (ql_pure tabOk rfl rfl (ql_gyes rfl (ql_pure tabOk rfl rfl (ql_gyes rfl (ql_neqF tabOk rfl rfl rfl (by omega) (ql_pure tabOk rfl rfl (ql_pure tabOk rfl rfl ?_))))))))))); refine ql_gyes rfl (ql_pure tabOk rfl rfl (ql_gyes rfl (ql_neqF tabOk rfl rfl rfl (by omega) (ql_pure tabOk rfl rfl (ql_pure tabOk rfl rfl (ql_gyes rfl (ql_pure tabOk rfl rfl (ql_gyes rfl ?_)))))))))
  refine ql_callv (val := rtV (1, 1)) tabOk rfl rfl rfl rfl (fun w hs => ?_) ?_; exact span_ca 1 1 w
  refine ql_gyes rfl ?_
  refine ql_callv (val := rtV (2, 3)) tabOk rfl rfl rfl rfl (fun w hs => ?_) ?_; exact span_ca 2 3 w
  refine ql_gyes rfl ?_
  refine ql_callv (val := rtV (3, 4)) tabOk rfl rfl rfl rfl (fun w hs => ?_) ?_; exact span_ca 3 4 w
  refine ql_gyes rfl ?_
  refine ql_callv (val := rtV (2, 4)) tabOk rfl rfl rfl rfl (fun w hs => ?_) ?_; exact span_ca 2 4 w
  refine ql_gyes rfl ?_
  refine ql_mkS 64 (spC [(1, 1), (2, 3), (3, 4), (2, 4)]) rfl (by kernel_rfl) rfl (fun c2 => ?_)
  refine ql_gyes rfl ?_
  refine ql_callv (val := .bool true) tabOk rfl rfl rfl rfl (fun w hs => ?_) ?_; exact eqS_ca w 0 w.heap.size 0 w.heap.size _ _ [(1, 1), (2, 3), (3, 4), (2, 4)] (own_rdS (t := 64) (hs.mem (c := .ow (.slice (some ⟨a1, 0, none⟩) 4 a2) 64 2 4 (spC [(1, 1), (2, 3), (3, 4), (2, 4)])) (by repeat constructor)) rfl) (Blk.rdS' (c := 4) (hs.blk (b := c2) (by repeat constructor)) rfl) (by decide)
  (refine ql_gyes rfl ?_; (iterate 3 refine ql_pure tabOk rfl rfl ?_); refine ql_gyes rfl (ql_pure tabOk rfl rfl (ql_gyes rfl (ql_neqF tabOk rfl rfl rfl (by omega) (ql_pure tabOk rfl rfl (ql_pure tabOk rfl rfl (ql_gyes rfl (ql_pure tabOk rfl rfl (ql_gyes rfl ?_)))))))); (iterate 3 refine ql_pure tabOk rfl rfl ?_); refine ql_gyes rfl (ql_pure tabOk rfl rfl (ql_gyes rfl (ql_neqF tabOk rfl rfl rfl (by omega) (ql_pure tabOk rfl rfl (q_nil (q_cond_false rfl (q_skip (q_seq (q_region ?_))))))))))
  have hT : ∀ w' x1 x2 x3 x4, Blk w' x4 [.slice (some ⟨x1, 0, none⟩) 4 4, .slice (some ⟨x2, 0, none⟩) 4 4, .slice (some ⟨x3, 0, none⟩) 4 4] 48 → Blk w' x3 (ints [9, 9, 2, 1]) 3 → Blk w' x2 (ints [6, 2, 3, 8]) 3 → Blk w' x1 (ints [5, 4, 9, 9]) 3 → RdII w' 0 w'.heap.size (.slice (some ⟨x4, 0, none⟩) 3 3) threeT := fun w' x1 x2 x3 x4 h4 h3 h2 h1 => blk_II (l1 := [5, 4, 9, 9]) (l2 := [6, 2, 3, 8]) (l3 := [9, 9, 2, 1]) rfl rfl rfl h1 h2 h3 h4
  refine ql_call (β := Nat × Nat × Nat × Nat) tabOk [] _ M0 rfl rfl rfl rfl (Sp.refl _) (fun _ h => h.elim) (fun w' hs => three_ca w') ?_
  rintro ⟨x1, x2, x3, x4⟩ _ rfl
  dsimp only [List.cons_append, List.nil_append]
  refine ql_callv (val := .tuple #[.int .i64 1, .int .i64 1, .int .i64 0]) tabOk rfl rfl rfl rfl (fun w hs => ?_) ?_; exact by have := wax_ca w 0 w.heap.size _ threeT 0 2 (hT w x1 x2 x3 x4 (hs.blk (by repeat constructor)) (hs.blk (by repeat constructor)) (hs.blk (by repeat constructor)) (hs.blk (by repeat constructor))); rw [aw_wax2] at this; exact this
  (refine ql_pure tabOk rfl rfl ?_; (iterate 3 refine ql_ext tabOk rfl rfl rfl ?_); (iterate 3 refine ql_pure tabOk rfl rfl ?_); refine q_nil (q_seq (q_region ?_)))
  refine ql_call (β := Nat × Nat × Nat × Nat) tabOk [] _ M0 rfl rfl rfl rfl (Sp.refl _) (fun _ h => h.elim) (fun w' hs => three_ca w') ?_
  rintro ⟨y1, y2, y3, y4⟩ _ rfl
  dsimp only [List.cons_append, List.nil_append]
  refine ql_call (β := Value) tabOk [] _ M0 rfl rfl rfl rfl (Sp.refl _) (fun _ h => h.elim) (fun w' hs => zones_ok w' 0 w'.heap.size _ threeT 1 (hT w' y1 y2 y3 y4 (hs.blk (by repeat constructor)) (hs.blk (by repeat constructor)) (hs.blk (by repeat constructor)) (hs.blk (by repeat constructor))) aw_lim) ?_
  rintro vz _ rfl
  rw [aw_zones]
  dsimp only [List.cons_append, List.nil_append, List.length_cons, List.length_nil]
  refine ql_fact (fun w hs => hs.ownSome (v := vz) (by repeat constructor) (by decide)) ?_
  rintro ⟨z1, z2, rfl⟩
  (refine ql_pure tabOk rfl rfl (ql_ext tabOk rfl rfl rfl (ql_ext tabOk rfl rfl rfl (ql_pure tabOk rfl rfl (ql_pure tabOk rfl rfl (q_nil (q_seq (q_region ?_))))))))
  refine ql_call (β := Nat × Nat × Nat × Nat) tabOk [] _ M0 rfl rfl rfl rfl (Sp.refl _) (fun _ h => h.elim) (fun w' hs => three_ca w') ?_
  rintro ⟨u1, u2, u3, u4⟩ _ rfl
  dsimp only [List.cons_append, List.nil_append]
  refine ql_mkS 3 (ints [0, 3]) rfl (by kernel_rfl) rfl (fun c3 => ?_)
  refine ql_callv (val := .tuple #[.bool true, .int .i64 0]) tabOk rfl rfl rfl rfl (fun w hs => ?_) ?_; exact by have := breaksShow_ca w 0 w.heap.size 0 w.heap.size _ _ threeT 1 [0, 3] (hT w u1 u2 u3 u4 (hs.blk (by repeat constructor)) (hs.blk (by repeat constructor)) (hs.blk (by repeat constructor)) (hs.blk (by repeat constructor))) (Blk.rdI (c := 2) (hs.blk (b := c3) (by repeat constructor))) (by decide); rw [aw_breaks] at this; exact this
  (refine ql_pure tabOk rfl rfl (ql_ext tabOk rfl rfl rfl (ql_ext tabOk rfl rfl rfl (ql_pure tabOk rfl rfl (ql_pure tabOk rfl rfl (q_nil (q_seq (q_region ?_))))))))
  refine ql_call (β := Nat) tabOk [] _ M0 rfl rfl rfl rfl (Sp.refl _) (fun _ h => h.elim) (fun w' hs => six_ca w') ?_
  rintro s1 _ rfl
  dsimp only [List.cons_append, List.nil_append]
  refine ql_call (β := Value) tabOk [] _ M0 rfl rfl rfl rfl (Sp.refl _) (fun _ h => h.elim) (fun w' hs => match_ok w' 0 w'.heap.size _ sixL (show RdI w' 0 w'.heap.size (.slice (some ⟨s1, 0, none⟩) 6 6) sixL from Blk.rdI (c := 6) (l := sixL) (hs.blk (b := s1) (by repeat constructor))) (sing_iff.1 aw_sing)) ?_
  rintro vm _ rfl
  rw [aw_cost]
  dsimp only [List.cons_append, List.nil_append]
  (refine ql_pure tabOk rfl rfl ?_; (iterate 3 refine ql_ext tabOk rfl rfl rfl ?_); (iterate 3 refine ql_pure tabOk rfl rfl ?_); refine q_nil (q_seq (q_region ?_)))
  refine ql_call (β := Nat) tabOk [] _ M0 rfl rfl rfl rfl (Sp.refl _) (fun _ h => h.elim) (fun w' hs => six_ca w') ?_
  rintro s2 _ rfl
  dsimp only [List.cons_append, List.nil_append]
  refine ql_callv (val := rtV (20, 23)) tabOk rfl rfl rfl rfl (fun w hs => ?_) ?_; exact span_ca 20 23 w
  refine ql_callv (val := rtV (38, 41)) tabOk rfl rfl rfl rfl (fun w hs => ?_) ?_; exact span_ca 38 41 w
  refine ql_callv (val := rtV (50, 60)) tabOk rfl rfl rfl rfl (fun w hs => ?_) ?_; exact span_ca 50 60 w
  refine ql_mkS 64 (spC [(20, 23), (38, 41), (50, 60)]) rfl (by kernel_rfl) rfl (fun c4 => ?_)
  refine ql_callv (val := .tuple #[.int .i64 16, .int .i64 0]) tabOk rfl rfl rfl rfl (fun w hs => ?_) ?_; exact by have := gapsShow_ca w 0 w.heap.size 0 w.heap.size _ _ sixL [(20, 23), (38, 41), (50, 60)] (show RdI w 0 w.heap.size (.slice (some ⟨s2, 0, none⟩) 6 6) sixL from Blk.rdI (c := 6) (l := sixL) (hs.blk (b := s2) (by repeat constructor))) (Blk.rdS' (c := 3) (hs.blk (b := c4) (by repeat constructor)) rfl) (by decide); rw [aw_gaps] at this; exact this
  (refine ql_pure tabOk rfl rfl (ql_ext tabOk rfl rfl rfl (ql_ext tabOk rfl rfl rfl (ql_pure tabOk rfl rfl (ql_pure tabOk rfl rfl (q_nil (q_seq (q_region (ql_pure tabOk rfl rfl (ql_eqlT tabOk rfl rfl rfl (by omega) (ql_pure tabOk rfl rfl (ql_gyes rfl ?_))))))))))); refine ql_pure tabOk rfl rfl (ql_gyes rfl (ql_eqlT tabOk rfl rfl rfl (by omega) (ql_pure tabOk rfl rfl (ql_pure tabOk rfl rfl (ql_gyes rfl (ql_pure tabOk rfl rfl (ql_gyes rfl (ql_eqlT tabOk rfl rfl rfl (by omega) (ql_pure tabOk rfl rfl (ql_pure tabOk rfl rfl (ql_gyes rfl ?_))))))))))); refine ql_pure tabOk rfl rfl (ql_gyes rfl (ql_eqlT tabOk rfl rfl rfl (by omega) (ql_pure tabOk rfl rfl (ql_pure tabOk rfl rfl (ql_gyes rfl (ql_pure tabOk rfl rfl (ql_gyes rfl (ql_eqlT tabOk rfl rfl rfl (by omega) (ql_pure tabOk rfl rfl (ql_pure tabOk rfl rfl (ql_gyes rfl ?_))))))))))); refine ql_pure tabOk rfl rfl (ql_gyes rfl (ql_eqlT tabOk rfl rfl rfl (by omega) (ql_pure tabOk rfl rfl (ql_pure tabOk rfl rfl (ql_gyes rfl (ql_pure tabOk rfl rfl (ql_gyes rfl (ql_eqlT tabOk rfl rfl rfl (by omega) (ql_pure tabOk rfl rfl (ql_pure tabOk rfl rfl (ql_gyes rfl ?_))))))))))); refine ql_pure tabOk rfl rfl (ql_gyes rfl ?_))
  refine ql_mk #[.int .i64 0, .int .i64 2, .int .i64 1] rfl (by kernel_rfl) rfl ?_
  refine ql_gyes rfl ?_
  refine ql_mk #[.int .i64 3, .int .i64 3, .int .i64 2] rfl (by kernel_rfl) rfl ?_
  refine ql_gyes rfl ?_
  refine ql_mkS 111 (rnC [⟨0, 2, 1⟩, ⟨3, 3, 2⟩]) rfl (by kernel_rfl) rfl (fun c5 => ?_)
  refine ql_gyes rfl ?_
  refine ql_callv (val := .bool true) tabOk rfl rfl rfl rfl (fun w hs => ?_) ?_; exact eqZ_ca w 0 w.heap.size 0 w.heap.size _ _ [⟨0, 2, 1⟩, ⟨3, 3, 2⟩] (own_rdR (t := 111) (hs.mem (c := .ow (.slice (some ⟨z1, 0, none⟩) 2 z2) 111 3 2 (rnC [⟨0, 2, 1⟩, ⟨3, 3, 2⟩])) (by repeat constructor)) rfl) (Blk.rdR' (c := 2) (hs.blk (b := c5) (by repeat constructor)) rfl) (by decide)
  (refine ql_pure tabOk rfl rfl (ql_pure tabOk rfl rfl (ql_gyes rfl ?_)); (iterate 3 refine ql_pure tabOk rfl rfl ?_); refine ql_gyes rfl (ql_pure tabOk rfl rfl (ql_gyes rfl (ql_eqlT tabOk rfl rfl rfl (by omega) (ql_pure tabOk rfl rfl (ql_pure tabOk rfl rfl (ql_gyes rfl (ql_pure tabOk rfl rfl (ql_gyes rfl (ql_pure tabOk rfl rfl (ql_gyes rfl (ql_eqlT tabOk rfl rfl rfl (by omega) ?_))))))))))); refine ql_pure tabOk rfl rfl (ql_pure tabOk rfl rfl (q_nil (q_ret ?_))))
  refine q_fin tabOk rfl (by repeat constructor) fun w hs => ?_
  exact ⟨rfl, hs.chg0⟩
end Go.Proofs.YtcmpdmobmbbplaaGreat

/- Walks: klisterkit's deck. Only the ranges of what it deals are told. -/
namespace Go.Proofs.YtcmpdmobmbbplaaGreat
set_option maxRecDepth 4000
open Go Go.Eng

section
attribute [local irreducible] IntKind.wrap Int.tmod Int.tdiv

/-- The deck's own variable, after at most K cards. -/
def DkS (w : World) (b : Nat) (bs : Value) (K : Nat) : Prop :=
  ∃ next st, Blk w b [bs, .int .i64 next, .int .u32 st] 137 ∧ 0 ≤ next ∧ next ≤ K ∧ 0 ≤ st ∧ st < 4294967296
/-- Its bytes. -/
def DkB (w : World) (lo hi : Nat) (bs : Value) : Prop := ∃ nb cs, Rd w lo hi bs 1 nb cs ∧ (∀ c ∈ cs, ∃ x, c = .int .u8 x ∧ 0 ≤ x ∧ x < 256)
theorem DkB.keep {w w' : World} {lo hi : Nat} {bs : Value} (h : DkB w lo hi bs) (c : Chg [] w w') : DkB w' lo hi bs := by
  obtain ⟨nb, cs, h1, h2⟩ := h
  exact ⟨nb, cs, h1.keep c, h2⟩

end
/-- A deck, after at most K cards. -/
def dkP (bs : Value) (b K : Nat) : Ck := .gn (fun x => x = b) (fun w => DkS w b bs K) (fun w w' N h hc hN => by
  obtain ⟨next, st, h1, h2⟩ := h
  exact ⟨next, st, (hc.block b h1.lt (hN b rfl)).trans h1, h2⟩)

theorem DkS.mono {w : World} {b K K' : Nat} {bs : Value} (h : DkS w b bs K) (hk : K ≤ K') : DkS w b bs K' := by
  obtain ⟨next, st, h1, h2, h3, h4⟩ := h
  exact ⟨next, st, h1, h2, by omega, h4⟩
theorem Sat.dk {w0 w : World} {M : Nat → Prop} {R : List Ck} {b K K' : Nat} {bs : Value} (h : Sat w0 M (dkP bs b K :: R) w) (hk : K ≤ K') : Sat w0 M (dkP bs b K' :: R) w := h.turn (fun _ h => h) (fun h => DkS.mono h hk)



section
variable {K b : Nat} {bs : Value} {w0 w : World} {R : List Ck}
end
end Go.Proofs.YtcmpdmobmbbplaaGreat

/- Walks: a lab is made of numbers. -/
namespace Go.Proofs.YtcmpdmobmbbplaaGreat
set_option maxRecDepth 4000
open Go Go.Eng

/-- What a lab that was made has. -/
structure MadeL (most runs : Nat) (l : Lb) (real : List Int) : Prop where
  ok : l.Ok
  s2 : 2 ≤ l.skis
  sm : l.skis ≤ most
  e12 : l.err ≤ 11
  len : l.runs.length ≤ runs
  tr : l.True real
  rl : real.length = l.n
  rb : ∀ x ∈ real, 0 ≤ x ∧ x ≤ 96
theorem slR : SlT Tryz.prog 22 40 3 24 (.agg #[.int .i64 0, .int .i64 0, .int .i64 0]) := ⟨by kernel_rfl, by kernel_rfl, by kernel_rfl, by decide⟩
theorem rnC_snoc (l : List Rn) (r : Rn) : rnC (l ++ [r]) = rnC l ++ [.int .i64 r.a, .int .i64 r.b, .int .i64 r.lead] := by simp [rnC]
end Go.Proofs.YtcmpdmobmbbplaaGreat

/- Walks: tables are made of numbers, and copied. -/
namespace Go.Proofs.YtcmpdmobmbbplaaGreat
set_option maxRecDepth 4000
open Go Go.Eng

theorem slII : SlT Tryz.prog 70 48 1 24 (.slice none 0 0) := ⟨by kernel_rfl, by kernel_rfl, by kernel_rfl, by decide⟩
theorem rows_add {w0 w : World} {M : Nat → Prop} {R : List Ck} {t : Nat} {xs : List (Value × List Int)} {u : Value} {r : List Int} (h : Sat w0 M (.ow u t 1 r.length (ints r) :: un (rowsO t xs) :: R) w) : Sat w0 M (un (rowsO t (xs ++ [(u, r)])) :: R) w :=
  (Sat.un_in h).un_perm (L' := rowsO t (xs ++ [(u, r)])) (by unfold rowsO; rw [List.map_append]; exact (List.perm_append_comm (l₁ := [_])))
end Go.Proofs.YtcmpdmobmbbplaaGreat

/- Walks: the regrets of a table; lists of lists copied. -/
namespace Go.Proofs.YtcmpdmobmbbplaaGreat
set_option maxRecDepth 4000
open Go Go.Eng

end Go.Proofs.YtcmpdmobmbbplaaGreat

/- Walks: breaks; slices.Clone; waxes that are good on a snow. -/
namespace Go.Proofs.YtcmpdmobmbbplaaGreat
set_option maxRecDepth 4000
open Go Go.Eng

/-- Chosen waxes as numbers. -/
def chI (ch : List Nat) : List Int := ch.map fun (x : Nat) => (x : Int)
theorem chI_len (ch : List Nat) : (chI ch).length = ch.length := by simp [chI]
def pGd (R : List (List Int)) (most : Int) (s : Nat) : Value → Bool
  | .int _ i => decide ((R.getD i.toNat []).getD s 0 ≤ most)
  | _ => false
end Go.Proofs.YtcmpdmobmbbplaaGreat

/- SkiWaxed. -/
namespace Go.Proofs.YtcmpdmobmbbplaaGreat
set_option maxRecDepth 4000
open Go Go.Eng

theorem row_cell {w0 w : World} {M : Nat → Prop} {H : List Ck} {t g c n m : Nat} {X : List (Value × List Int)} {u : Value} (hs : Sat w0 M H w) (hm : Ck.ow (.slice (some ⟨g, 0, none⟩) m c) t 1 m (X.map (·.1)) ∈ H) {i : Nat} (hi : i < X.length) (hu : X[i].1 = u) (hin : n = 0 + i * 1) : w.cell? ⟨g, n, none⟩ = some u := by
  subst hin
  rw [Nat.mul_one, Nat.zero_add]
  exact own_cellS (hs.mem hm) i (by rw [List.getElem?_map, List.getElem?_eq_getElem hi, Option.map_some, hu])
theorem row_at {w0 w : World} {M : Nat → Prop} {H : List Ck} {t g c n m : Nat} {X : List (Value × List Int)} {x : Int} (hs : Sat w0 M H w) (hm : un (rowsO t X) ∈ H) {i : Nat} (hi : i < X.length) (hu : X[i].1 = .slice (some ⟨g, 0, none⟩) m c) {s : Nat} (hss : s < X[i].2.length) (hx : X[i].2.getD s 0 = x) (hin : n = 0 + s * 1) : w.cell? ⟨g, n, none⟩ = some (.int .i64 x) := by
  subst hin
  have h := (wx_row hs hm i hi).1
  rw [hu] at h
  have := RdI.at h s hss
  rw [this, ← hx, getD_get hss]
def addR (s : Nat) (d : Int) (p : Value × List Int) : Value × List Int := (p.1, p.2.set s (p.2.getD s 0 + d))
/-- The first rows are changed. -/
def addK (s : Nat) (d : Int) (X : List (Value × List Int)) (k : Nat) : List (Value × List Int) := (X.take k).map (addR s d) ++ X.drop k
end Go.Proofs.YtcmpdmobmbbplaaGreat

/- Walks of the reference: all orders of skis. -/
namespace Go.Proofs.YtcmpdmobmbbplaaGreat
set_option maxRecDepth 4000
open Go Go.Eng
def extP (n : Nat) (p : List Nat) : List (List Nat) := ((List.range n).filter fun s => !decide (s ∈ p)).map fun s => p ++ [s]
theorem permN_succ (n i : Nat) : permN n (i + 1) = (permN n i).flatMap (extP n) := rfl
def nxt (PL : List (List Nat)) (n k s : Nat) : List (List Nat) := (PL.take k).flatMap (extP n) ++ ((List.range s).filter fun x => !decide (x ∈ PL.getD k [])).map fun x => PL.getD k [] ++ [x]
section
variable {PL : List (List Nat)} {n k s : Nat}
theorem nxt_zero : nxt PL n 0 0 = [] := by simp [nxt]
theorem nxt_yes (h : s ∉ PL.getD k []) : nxt PL n k (s + 1) = nxt PL n k s ++ [PL.getD k [] ++ [s]] := by
  unfold nxt
  rw [List.range_succ, List.filter_append, List.map_append, ← List.append_assoc]
  congr 1
  have h2 : ¬ s ∈ PL[k]?.getD [] := by rw [← List.getD_eq_getElem?_getD]; exact h
  simp [h2]
theorem nxt_no (h : s ∈ PL.getD k []) : nxt PL n k (s + 1) = nxt PL n k s := by
  unfold nxt
  rw [List.range_succ, List.filter_append, List.map_append]
  have h2 : s ∈ PL[k]?.getD [] := by rw [← List.getD_eq_getElem?_getD]; exact h
  simp [h2]
theorem nxt_row (h : k < PL.length) : nxt PL n k n = nxt PL n (k + 1) 0 := by
  unfold nxt
  rw [List.take_succ_eq_append_getElem h, List.flatMap_append]
  have e : PL.getD k [] = PL[k] := by rw [List.getD_eq_getElem?_getD, List.getElem?_eq_getElem h, Option.getD_some]
  rw [e]
  simp [extP]
theorem nxt_all : nxt PL n PL.length 0 = PL.flatMap (extP n) := by simp [nxt]
theorem flat_le {α β : Type} (f : α → List β) (c : Nat) : ∀ l : List α, (∀ a ∈ l, (f a).length ≤ c) → (l.flatMap f).length ≤ l.length * c
  | [], _ => by simp
  | a :: l, h => by
    have h1 := h a List.mem_cons_self
    have h2 := flat_le f c l fun b hb => h b (List.mem_cons_of_mem _ hb)
    rw [List.flatMap_cons, List.length_append, List.length_cons, Nat.add_mul, Nat.one_mul]
    omega
theorem ext_le (n : Nat) (p : List Nat) : (extP n p).length ≤ n := by
  unfold extP
  rw [List.length_map]
  have := List.length_filter_le (fun s => !decide (s ∈ p)) (List.range n)
  rwa [List.length_range] at this
theorem perm_le (hn : n ≤ 6) : ∀ i, (permN n i).length ≤ 6 ^ i
  | 0 => by simp [permN]
  | i + 1 => by
    have h1 := flat_le (extP n) 6 (permN n i) fun p _ => Nat.le_trans (ext_le n p) hn
    have h2 := perm_le hn i
    rw [permN_succ, Nat.pow_succ]
    exact Nat.le_trans h1 (Nat.mul_le_mul_right 6 h2)
theorem perm_bd (hn : n ≤ 6) {i : Nat} (hi : i ≤ 6) : (permN n i).length ≤ 46656 := Nat.le_trans (perm_le hn i) (by have := Nat.pow_le_pow_right (show 0 < 6 by omega) hi; simpa using this)
theorem nxt_le (hn : n ≤ 6) (hs : s ≤ 6) (hP : PL.length ≤ 46656) : (nxt PL n k s).length ≤ 300000 := by
  unfold nxt
  have h1 := flat_le (extP n) 6 (PL.take k) fun p _ => Nat.le_trans (ext_le n p) hn
  have h2 := List.length_take_le' k PL
  have h3 := List.length_filter_le (fun x => !decide (x ∈ PL.getD k [])) (List.range s)
  rw [List.length_range] at h3
  rw [List.length_append, List.length_map]
  have h4 : (PL.take k).length * 6 ≤ 46656 * 6 := Nat.mul_le_mul_right 6 (Nat.le_trans h2 hP)
  omega
end
theorem rowN {w0 w : World} {M : Nat → Prop} {H : List Ck} {t : Nat} {X : List (Value × List Int)} (hs : Sat w0 M H w) (hm : un (rowsO t X) ∈ H) {i : Nat} (hi : i < X.length) : ∃ a c, X[i].1 = .slice a X[i].2.length c ∧ (0 < X[i].2.length → ∃ g, a = some ⟨g, 0, none⟩) := by
  have h2 : w.ownsRow 0 t 1 X[i].1 X[i].2.length (ints X[i].2) := (hs.mem hm).1 (.ow X[i].1 t 1 X[i].2.length (ints X[i].2)) (List.mem_map.2 ⟨_, List.getElem_mem hi, rfl⟩)
  rcases h2.2 with ⟨h3, h4⟩ | ⟨g, cap, cur, h3, _⟩
  · exact ⟨none, 0, by rw [h3, h4], fun h => by omega⟩
  · exact ⟨_, _, h3, fun _ => ⟨g, rfl⟩⟩
set_option maxHeartbeats 4000000 in
theorem perms_ca (n : Nat) (hn : n ≤ 6) (w : World) :
    Ca Tryz.prog 87 [.int .i64 n] w fun x w' => ∃ y : Value × List (Value × List Int), (x = y.1 ∧ y.2.map (·.2) = (permN n n).map chI) ∧ Sat w M0 [un (rowsO 3 y.2), .ow y.1 48 1 y.2.length (y.2.map (·.1))] w' := by
  refine q_of (Sat.nil w M0) Tryz.func87 rfl (by simp [Tryz.ntmps87]) ?_
  (refine q_seq (q_region (ql_pure tabOk rfl rfl (q_nil (q_seq (q_region ?_))))))
  refine ql_mkS0 3 rfl (by kernel_rfl) rfl (fun b10 => ?_)
  skip
  refine ql_mkS 48 [.slice (some ⟨b10, 0, none⟩) 0 0] rfl (by kernel_rfl) rfl (fun b11 => ?_)
  (refine ql_pure tabOk rfl rfl (q_nil (q_seq (q_seq (q_region (ql_pure tabOk rfl rfl (q_nil (q_block ?_))))))))
  refine q_conv (H' := [un (rowsO 3 [(.slice (some ⟨b10, 0, none⟩) 0 0, [])]), .ow (.slice (some ⟨b11, 0, none⟩) 1 1) 48 1 1 [.slice (some ⟨b10, 0, none⟩) 0 0]]) (fun w' hs => by
    have h1 := Sat.un_nil (Sat.pt_ow (sz := 1) (m := 1) rfl (by omega) (hs.sp (H' := [.pt b11 [.slice (some ⟨b10, 0, none⟩) 0 0] 48, .ow (.slice (some ⟨b10, 0, none⟩) 0 0) 3 1 0 []]) (by repeat constructor)))
    have h2 := rows_add (xs := []) (u := .slice (some ⟨b10, 0, none⟩) 0 0) (r := []) (t := 3) (R := [.ow (.slice (some ⟨b11, 0, none⟩) 1 1) 48 1 1 [.slice (some ⟨b10, 0, none⟩) 0 0]]) (h1.sp (H' := [.ow (.slice (some ⟨b10, 0, none⟩) 0 0) 3 1 0 [], un (rowsO 3 []), .ow (.slice (some ⟨b11, 0, none⟩) 1 1) 48 1 1 [.slice (some ⟨b10, 0, none⟩) 0 0]]) (by repeat constructor))
    exact h2.sp (by repeat constructor)) ?_
  refine q_loop (σ := Nat × Value × List (Value × List Int)) (fun z => z.1 ≤ n ∧ z.2.2.map (·.2) = (permN n z.1).map chI) (fun z => n - z.1) (fun z => [(0, .int .i64 n), (3, z.2.1), (4, .int .i64 z.1)]) (fun z => [un (rowsO 3 z.2.2), .ow z.2.1 48 1 z.2.2.length (z.2.2.map (·.1))]) (0, .slice (some ⟨b11, 0, none⟩) 1 1, [(.slice (some ⟨b10, 0, none⟩) 0 0, [])]) ⟨by simp, rfl⟩ ⟨rfl, rfl, rfl, trivial⟩ (by repeat constructor) ?_
  rintro ⟨i, v3, Y⟩ ⟨hi, hY⟩ K hK
  dsimp only at hi hY hK ⊢
  have hYl : Y.length = (permN n i).length := by have := congrArg List.length hY; simpa using this
  have hPb := perm_bd hn (i := i) (by omega)
  (refine q_seq (q_seq (q_region ?_)); (iterate 3 refine ql_pure tabOk rfl rfl ?_); refine q_nil ?_)
  refine q_if rfl (fun hc => ?_) (fun hc => ?_)
  · have hi2 : i < n := by omega
    clear hc
    obtain ⟨PL, hPL⟩ : ∃ PL, PL = permN n i := ⟨_, rfl⟩
    have hsuc := permN_succ n i
    rw [← hPL] at hY hYl hPb hsuc
    refine q_fact (fun w hs => hs.slice2 (v := v3) (by repeat constructor)) ?_
    rintro ⟨a3, c3, rfl⟩
    (refine q_skip (q_seq (q_block (q_seq (q_region (ql_pure tabOk rfl rfl (q_nil (q_seq (q_seq (q_region (ql_pure tabOk rfl rfl (q_nil ?_))))))))))); refine q_block ?_)
    refine q_conv (H' := [un (rowsO 3 []), .ow (.slice none 0 0) 48 1 0 [], un (rowsO 3 Y), .ow (.slice a3 Y.length c3) 48 1 Y.length (Y.map (·.1))]) (fun w' hs => (Sat.un_nil (Sat.ownil hs 48 1)).sp (by repeat constructor)) ?_
    refine q_loop (σ := Nat × Value × List (Value × List Int)) (fun z => z.1 ≤ Y.length ∧ z.2.2.map (·.2) = (nxt PL n z.1 0).map chI) (fun z => Y.length - z.1) (fun z => [(0, .int .i64 n), (3, .slice a3 Y.length c3), (4, .int .i64 i), (5, z.2.1), (6, .int .i64 z.1)]) (fun z => [un (rowsO 3 z.2.2), .ow z.2.1 48 1 z.2.2.length (z.2.2.map (·.1)), un (rowsO 3 Y), .ow (.slice a3 Y.length c3) 48 1 Y.length (Y.map (·.1))]) (0, .slice none 0 0, []) ⟨by simp, by rw [nxt_zero]; rfl⟩ ⟨rfl, rfl, rfl, rfl, rfl, trivial⟩ (by repeat constructor) ?_
    rintro ⟨k, v5, Z⟩ ⟨hk, hZ⟩ K1 hK1
    dsimp only at hk hZ hK1 ⊢
    (refine q_seq (q_seq (q_region ?_)); (iterate 4 refine ql_pure tabOk rfl rfl ?_); refine q_nil ?_)
    refine q_if rfl (fun hc => ?_) (fun hc => ?_)
    · have hk2 : k < Y.length := by omega
      clear hc
      obtain ⟨p, hp⟩ : ∃ p, p = PL.getD k [] := ⟨_, rfl⟩
      have hYk : Y[k].2 = chI p := by
        have h1 : (Y.map (·.2))[k]? = (PL.map chI)[k]? := by rw [hY]
        rw [List.getElem?_map, List.getElem?_map, List.getElem?_eq_getElem hk2, List.getElem?_eq_getElem (by omega), Option.map_some, Option.map_some] at h1
        rw [hp, List.getD_eq_getElem?_getD, List.getElem?_eq_getElem (by omega), Option.getD_some]
        exact Option.some.inj h1
      have hpl : Y[k].2.length = p.length := by rw [hYk, chI_len]
      have hpb : p.length ≤ 6 := by
        have hm : p ∈ permN n i := by
          rw [← hPL, hp, List.getD_eq_getElem?_getD, List.getElem?_eq_getElem (by omega), Option.getD_some]
          exact List.getElem_mem _
        have := (perm_mem.1 hm).2.2
        omega
      refine q_fact (fun w hs => rowN hs (t := 3) (X := Y) (by repeat constructor) hk2) ?_
      rintro ⟨ka, kc, ek, hka⟩
      rw [hpl] at ek hka
      refine q_fact (fun w hs => hs.ownSome (v := .slice a3 Y.length c3) (by repeat constructor) (by omega)) ?_
      rintro ⟨g3, q3, ev⟩
      cases ev
      (refine q_skip (q_seq (q_block (q_seq (q_region (ql_pure tabOk rfl rfl (q_nil (q_block ?_))))))))
      refine q_loop (σ := Nat × Value × List (Value × List Int)) (fun z => z.1 ≤ n ∧ z.2.2.map (·.2) = (nxt PL n k z.1).map chI) (fun z => n - z.1) (fun z => [(0, .int .i64 n), (3, .slice (some ⟨g3, 0, none⟩) Y.length c3), (4, .int .i64 i), (5, z.2.1), (6, .int .i64 k), (7, .int .i64 z.1)]) (fun z => [un (rowsO 3 z.2.2), .ow z.2.1 48 1 z.2.2.length (z.2.2.map (·.1)), un (rowsO 3 Y), .ow (.slice (some ⟨g3, 0, none⟩) Y.length c3) 48 1 Y.length (Y.map (·.1))]) (0, v5, Z) ⟨by simp, hZ⟩ ⟨rfl, rfl, rfl, rfl, rfl, rfl, trivial⟩ (by repeat constructor) ?_
      rintro ⟨s, v5, Z⟩ ⟨hs', hZ⟩ K2 hK2
      dsimp only at hs' hZ hK2 ⊢
      (refine q_seq (q_seq (q_region ?_)); (iterate 3 refine ql_pure tabOk rfl rfl ?_); refine q_nil ?_)
      refine q_if rfl (fun hc => ?_) (fun hc => ?_)
      · have hs2 : s < n := by omega
        clear hc
        have hZb : Z.length ≤ 300000 := by
          have h1 := congrArg List.length hZ
          have h2 := nxt_le (PL := PL) (k := k) (s := s) hn (by omega) hPb
          simp only [List.length_map] at h1
          omega
        (refine q_skip (q_seq (q_block (q_seq (q_region (ql_pure tabOk rfl rfl (q_nil (q_seq (q_seq (q_region (ql_pure tabOk rfl rfl (q_nil ?_))))))))))); refine q_block ?_)
        refine q_loop (σ := Nat) (fun m => m ≤ p.length) (fun m => p.length - m) (fun m => [(0, .int .i64 n), (3, .slice (some ⟨g3, 0, none⟩) Y.length c3), (4, .int .i64 i), (5, v5), (6, .int .i64 k), (7, .int .i64 s), (8, .bool (decide (s ∈ p.take m) && true)), (9, .int .i64 m)]) (fun m => [un (rowsO 3 Z), .ow v5 48 1 Z.length (Z.map (·.1)), un (rowsO 3 Y), .ow (.slice (some ⟨g3, 0, none⟩) Y.length c3) 48 1 Y.length (Y.map (·.1))]) 0 (by omega) ⟨rfl, rfl, rfl, rfl, rfl, rfl, by rw [show (decide (s ∈ p.take 0) && true) = false from by simp]; rfl, rfl, trivial⟩ (by repeat constructor) ?_
        rintro m hm K3 hK3
        (refine q_seq (q_seq (q_region ?_)); (iterate 3 refine ql_pure tabOk rfl rfl ?_))
        refine ql_index tabOk rfl rfl rfl rfl rfl (by omega) (by omega) ?_
        refine ql_load1 (v := .slice ka p.length kc) tabOk rfl rfl rfl (fun w hs => row_cell hs (t := 48) (X := Y) (by repeat constructor) hk2 ek rfl) ?_
        (refine ql_pure tabOk rfl rfl (ql_pure tabOk rfl rfl (q_nil ?_)))
        refine q_if rfl (fun hc => ?_) (fun hc => ?_)
        · have hm2 : m < p.length := by omega
          clear hc
          obtain ⟨gk, rfl⟩ := hka (by omega)
          have htk : (s ∈ p.take (m + 1)) ↔ (s ∈ p.take m ∨ p[m] = s) := by
            rw [List.take_succ_eq_append_getElem hm2, List.mem_append, List.mem_singleton]
            exact ⟨fun h => h.imp_right Eq.symm, fun h => h.imp_right Eq.symm⟩
          by_cases hu : s ∈ p.take m
          · rw [decide_eq_true hu]
            (refine q_skip (q_seq (q_block (q_region (ql_pure tabOk rfl rfl (ql_pure tabOk rfl rfl ?_))))); (iterate 9 refine ql_gno rfl rfl rfl ?_); refine ql_pure tabOk rfl rfl (ql_pure tabOk rfl rfl (q_nil (q_blk (q_region (ql_pure tabOk rfl rfl (ql_ar tabOk rfl rfl rfl rfl (by omega) (by omega) (ql_pure tabOk rfl rfl (q_nil ?_)))))))))
            exact hK3 (m + 1) _ _ (by omega) (by omega) ⟨rfl, rfl, rfl, rfl, rfl, rfl, by rw [decide_eq_true (htk.2 (.inl hu))]; rfl, rfl, trivial⟩ (by repeat constructor)
          · rw [decide_eq_false hu]
            have hval : (chI p)[m]'(by rw [chI_len]; exact hm2) = ((p[m] : Nat) : Int) := by simp [chI]
            (refine q_skip (q_seq (q_block (q_region (ql_pure tabOk rfl rfl (ql_pure tabOk rfl rfl (ql_gyes rfl (ql_pure tabOk rfl rfl (ql_gyes rfl (ql_pure tabOk rfl rfl (ql_gyes rfl ?_)))))))))))
            refine ql_index tabOk rfl rfl rfl rfl rfl (by omega) (by omega) ?_
            (refine ql_gyes rfl ?_)
            refine ql_load1 (v := .slice (some ⟨gk, 0, none⟩) p.length kc) tabOk rfl rfl rfl (fun w hs => row_cell hs (t := 48) (X := Y) (by repeat constructor) hk2 ek rfl) ?_
            (refine ql_gyes rfl (ql_pure tabOk rfl rfl (ql_gyes rfl ?_)))
            refine ql_index tabOk rfl rfl rfl rfl rfl (by omega) (by omega) ?_
            (refine ql_gyes rfl ?_)
            refine ql_load1 (v := .int .i64 (p[m] : Nat)) tabOk rfl rfl rfl (fun w hs => row_at hs (t := 3) (X := Y) (by repeat constructor) hk2 ek (by rw [hpl]; exact hm2) (by rw [hYk, List.getD_eq_getElem?_getD, List.getElem?_eq_getElem (by rw [chI_len]; exact hm2), Option.getD_some]; exact hval) rfl) ?_
            by_cases he : p[m] = s
            · (refine ql_gyes rfl (ql_pure tabOk rfl rfl (ql_gyes rfl (ql_eqlT tabOk rfl rfl rfl (by omega) (ql_pure tabOk rfl rfl (ql_pure tabOk rfl rfl (q_nil (q_blk (q_region (ql_pure tabOk rfl rfl (ql_ar tabOk rfl rfl rfl rfl (by omega) (by omega) (ql_pure tabOk rfl rfl ?_))))))))))); refine q_nil ?_)
              exact hK3 (m + 1) _ _ (by omega) (by omega) ⟨rfl, rfl, rfl, rfl, rfl, rfl, by rw [decide_eq_true (htk.2 (.inr he))]; rfl, rfl, trivial⟩ (by repeat constructor)
            · (refine ql_gyes rfl (ql_pure tabOk rfl rfl (ql_gyes rfl (ql_eqlF tabOk rfl rfl rfl (by omega) (ql_pure tabOk rfl rfl (ql_pure tabOk rfl rfl (q_nil (q_blk (q_region (ql_pure tabOk rfl rfl (ql_ar tabOk rfl rfl rfl rfl (by omega) (by omega) (ql_pure tabOk rfl rfl ?_))))))))))); refine q_nil ?_)
              exact hK3 (m + 1) _ _ (by omega) (by omega) ⟨rfl, rfl, rfl, rfl, rfl, rfl, by rw [decide_eq_false (fun h => (htk.1 h).elim hu he)]; rfl, rfl, trivial⟩ (by repeat constructor)
        · obtain rfl : m = p.length := by omega
          clear hc hK3 hm
          rw [List.take_length]
          by_cases hu : s ∈ p
          · rw [decide_eq_true hu]
            (refine q_exit _ rfl (q_seq (q_region (ql_pure tabOk rfl rfl (ql_pure tabOk rfl rfl (q_nil (q_cond_false rfl (q_skip (q_blk (q_region (ql_pure tabOk rfl rfl (ql_ar tabOk rfl rfl rfl rfl (by omega) (by omega) ?_))))))))))); refine ql_pure tabOk rfl rfl (q_nil ?_))
            exact hK2 (s + 1, v5, Z) _ _ ⟨by simp only; omega, by dsimp only; rw [nxt_no (by rw [← hp]; exact hu)]; exact hZ⟩ (by simp only; omega) ⟨rfl, rfl, rfl, rfl, rfl, rfl, trivial⟩ (by repeat constructor)
          · rw [decide_eq_false hu]
            (refine q_exit _ rfl (q_seq (q_region (ql_pure tabOk rfl rfl (ql_pure tabOk rfl rfl (q_nil (q_cond_true rfl (q_region (ql_pure tabOk rfl rfl ?_)))))))))
            refine ql_mkS0 3 rfl (by kernel_rfl) rfl (fun be => ?_)
            (refine ql_pure tabOk rfl rfl (ql_pure tabOk rfl rfl ?_))
            refine ql_index tabOk rfl rfl rfl rfl rfl (by omega) (by omega) ?_
            refine ql_load1 (v := .slice ka p.length kc) tabOk rfl rfl rfl (fun w hs => row_cell hs (t := 48) (X := Y) (by repeat constructor) hk2 ek rfl) ?_
            skip
            refine ql_append (q := p.length) (news := ints (chI p)) slI rfl rfl rfl (fun v' => by repeat constructor) (fun w' hs => ⟨_, _, by have := ((wx_row hs (t := 3) (xs := Y) (by repeat constructor) k hk2).1).row; rw [ek, hYk, chI_len] at this; exact this⟩) (by simp [ints, oneV]) (by omega) (by omega) (fun u1 => ?_)
            (refine ql_pure tabOk rfl rfl ?_)
            refine ql_mkS 3 [.int .i64 s] rfl (by kernel_rfl) rfl (fun bn => ?_)
            skip
            refine ql_append (q := 1) (news := [.int .i64 s]) slI rfl rfl rfl (fun v' => by repeat constructor) (fun w' hs => ⟨_, _, Blk.rdN (hs.blk (b := bn) (by repeat constructor)) rfl⟩) (by simp [oneV]) (by omega) (by omega) (fun u2 => ?_)
            refine ql_fact (fun w hs => hs.ownSome (v := u2) (by repeat constructor) (by omega)) ?_
            rintro ⟨g2, c2, rfl⟩
            skip
            refine ql_mkS 48 [.slice (some ⟨g2, 0, none⟩) (0 + p.length + 1) c2] rfl (by kernel_rfl) rfl (fun bm => ?_)
            skip
            refine ql_append (q := 1) (news := [.slice (some ⟨g2, 0, none⟩) (0 + p.length + 1) c2]) slII rfl rfl rfl (fun v' => by repeat constructor) (fun w' hs => ⟨_, _, Blk.rdN (hs.blk (b := bm) (by repeat constructor)) rfl⟩) (by simp [oneV]) (by omega) (by omega) (fun u5 => ?_)
            (refine ql_pure tabOk rfl rfl (q_nil (q_blk (q_region (ql_pure tabOk rfl rfl (ql_ar tabOk rfl rfl rfl rfl (by omega) (by omega) (ql_pure tabOk rfl rfl (q_nil ?_))))))))
            have hrl : (chI (p ++ [s])).length = 0 + p.length + 1 := by rw [chI_len, List.length_append, List.length_singleton]; omega
            have hri : ints (chI (p ++ [s])) = [] ++ ints (chI p) ++ [.int .i64 s] := by simp [ints, chI]
            refine q_conv (H' := [un (rowsO 3 (Z ++ [(.slice (some ⟨g2, 0, none⟩) (0 + p.length + 1) c2, chI (p ++ [s]))])), .ow u5 48 1 (Z.length + 1) (Z.map (·.1) ++ [.slice (some ⟨g2, 0, none⟩) (0 + p.length + 1) c2]), un (rowsO 3 Y), .ow (.slice (some ⟨g3, 0, none⟩) Y.length c3) 48 1 Y.length (Y.map (·.1))]) (fun w' hs => by
              refine rows_add ?_
              rw [hrl, hri]
              exact hs.sp (by repeat constructor)) ?_
            have elen : (Z ++ [(Value.slice (some ⟨g2, 0, none⟩) (0 + p.length + 1) c2, chI (p ++ [s]))]).length = Z.length + 1 := by simp
            exact hK2 (s + 1, u5, Z ++ [(.slice (some ⟨g2, 0, none⟩) (0 + p.length + 1) c2, chI (p ++ [s]))]) _ _ ⟨by simp only; omega, by dsimp only; rw [nxt_yes (by rw [← hp]; exact hu), List.map_append, hZ, List.map_append, ← hp]; rfl⟩ (by simp only; omega) ⟨rfl, rfl, rfl, rfl, rfl, rfl, trivial⟩ (by dsimp only; rw [elen, List.map_append]; exact Sp.refl _)
      · obtain rfl : s = n := by omega
        clear hc hK2
        (refine q_exit _ rfl (q_blk (q_region (ql_pure tabOk rfl rfl (ql_ar tabOk rfl rfl rfl rfl (by omega) (by omega) (ql_pure tabOk rfl rfl (q_nil ?_)))))))
        exact hK1 (k + 1, v5, Z) _ _ ⟨by simp only; omega, by dsimp only; rw [← nxt_row (by omega)]; exact hZ⟩ (by simp only; omega) ⟨rfl, rfl, rfl, rfl, rfl, trivial⟩ (by repeat constructor)
    · obtain rfl : k = Y.length := by omega
      clear hc hK1
      rw [hYl, nxt_all, ← hsuc] at hZ
      (refine q_exit _ rfl (q_region (ql_pure tabOk rfl rfl (ql_pure tabOk rfl rfl (q_nil (q_blk (q_region (ql_pure tabOk rfl rfl (ql_ar tabOk rfl rfl rfl rfl (by omega) (by omega) (ql_pure tabOk rfl rfl (q_nil ?_)))))))))))
      exact hK (i + 1, v5, Z) _ _ ⟨by simp only; omega, hZ⟩ (by simp only; omega) ⟨rfl, rfl, rfl, trivial⟩ (by repeat constructor)
  · obtain rfl : i = n := by omega
    (refine q_exit _ rfl (q_seq (q_region (ql_pure tabOk rfl rfl (ql_pure tabOk rfl rfl (q_nil (q_ret ?_)))))))
    refine q_fin tabOk rfl (by repeat constructor) fun w hs => ?_
    exact ⟨(v3, Y), ⟨rfl, hY⟩, hs.sp (by repeat constructor)⟩
end Go.Proofs.YtcmpdmobmbbplaaGreat

/- Walks: labs are copied, and get a run more. -/
namespace Go.Proofs.YtcmpdmobmbbplaaGreat
set_option maxRecDepth 4000
open Go Go.Eng

theorem rnC_one (l : List Rn) : ∀ c ∈ rnC l, oneV c = true := fun c hc => by obtain ⟨y, _, hy⟩ := List.mem_flatMap.1 hc; simp at hy; rcases hy with rfl | rfl | rfl <;> rfl
theorem cloneR_ca (w : World) (lo hi : Nat) (v : Value) (l : List Rn) (h : RdR w lo hi v l) (hlen : l.length ≤ 1000) : Ca Tryz.prog 61 [v] w fun x w' => ∃ u : Value, x = u ∧ Sat w M0 [.ow u 40 3 l.length (rnC l)] w' := by
  obtain ⟨a, c, rfl, ha⟩ := RdR.outI h
  refine q_of (Sat.nil w M0) Tryz.func61 rfl (by simp [Tryz.ntmps61]) ?_
  refine q_conv (H' := [.ow (.slice none 0 0) 40 3 0 (rnC [])]) (fun w' hs => Sat.ownil hs 40 3) ?_
  (refine q_seq (q_region (ql_pure tabOk rfl rfl (q_nil (q_seq (q_region (ql_pure tabOk rfl rfl ?_)))))))
  refine ql_append (q := l.length) (news := rnC l) slR rfl rfl rfl (fun v' => by repeat constructor) (fun w' hs => ⟨_, _, RdR.row (RdE.keep h hs.chg0)⟩) (rnC_one l) (by omega) (by omega) (fun u' => ?_)
  (refine ql_pure tabOk rfl rfl (q_nil (q_ret ?_)))
  refine q_fin tabOk rfl (by repeat constructor) fun w hs => ?_
  exact ⟨u', rfl, hs.sp (by simp only [rnC, List.flatMap_nil, List.nil_append, Nat.zero_add]; repeat constructor)⟩
def tD3_563eb24 : OT := chainT [0, 1, 2, 3, 4, 5, 6, 7, 8] (.nil)
theorem cloneL_ca (w : World) (lo hi : Nat) (l : Lb) (v : Value) (h : RdR w lo hi v l.runs) (hlen : l.runs.length ≤ 1000) : Ca Tryz.prog 11 [.agg (lbC l v).toArray] w fun x w' => ∃ u : Value, x = .agg (lbC l u).toArray ∧ Sat w M0 [.ow u 40 3 l.runs.length (rnC l.runs)] w' := by
  obtain ⟨a, c, rfl, ha⟩ := RdR.outI h
  refine q_of (Sat.nil w M0) Tryz.func11 rfl (by simp [Tryz.ntmps11]) ?_
  (refine q_seq (q_region ?_))
  refine ql_box rfl rfl (fun b1 => ?_)
  skip
  refine ql_alloc zero24 rfl (fun b2 => ?_)
  (refine q_nil (q_seq ?_))
  refine q_cut (σ := Value) (fun u => [(2, .pointer (some ⟨b2, 0, none⟩))])
      (fun u => [.pt b2 [.int .i64 l.skis, .int .i64 l.err, u] 24, .ow u 40 3 l.runs.length (rnC l.runs)]) ?_ ?_
  rotate_left
  · intro K2 hK2
    refine q_drawT (tD3_563eb24) _ [.pt b2 [.int .i64 0, .int .i64 0, .slice none 0 0] 24] (Sp.cons (by repeat constructor) (Sp.refl _)) (by kernel_rfl) (by kernel_rfl) ?_
    refine qt_seg (by repeat (first | exact PickL.nil | (apply PickL.cons; rfl))) fun K1 hK1 => ?_
    (refine qf_pure tabOk rfl rfl rfl ?_; refine qf_loadBa tabOk rfl rfl rfl ?_; refine qf_pure tabOk rfl rfl rfl ?_; refine qf_loadBa tabOk rfl rfl rfl ?_; refine qf_pure tabOk rfl rfl rfl ?_; refine qf_loadBa tabOk rfl rfl rfl ?_)
    refine qf_call (β := Value) tabOk [] _ M0 rfl rfl rfl rfl (Sp.refl _) (fun _ h => h.elim) (fun w' hs => cloneR_ca w' lo hi _ l.runs (RdE.keep h hs.chg0) (by omega)) ?_
    rintro _ u rfl
    dsimp only [List.cons_append, List.nil_append]
    refine qf_fact (fun w hs => hs.slice2 (v := u) (by repeat constructor)) ?_
    rintro ⟨a1, c1, rfl⟩
    skip
    refine qf_mk #[.int .i64 l.skis, .int .i64 l.err, .slice a1 l.runs.length c1] rfl (by kernel_rfl) rfl ?_
    (refine qf_setA tabOk rfl rfl rfl rfl rfl (by repeat constructor) rfl ?_; refine qf_nil ?_)
    exact hK1 _ _ (qt_nil (hK2 (.slice a1 l.runs.length c1) _ _ ⟨rfl, trivial⟩ (by repeat constructor)))
  intro u
  (refine q_ret ?_)
  refine q_fin tabOk rfl (by repeat constructor) fun w hs => ?_
  exact ⟨u, rfl, hs.sp (by repeat constructor)⟩
end Go.Proofs.YtcmpdmobmbbplaaGreat

/- Lists of labs, and what is told of them. -/
namespace Go.Proofs.YtcmpdmobmbbplaaGreat
set_option maxRecDepth 4000
open Go Go.Eng

abbrev LbM := Lb × Option Addr × Nat
def labCs (M : List LbM) : List Value := M.flatMap fun m => [.int .i64 m.1.skis, .int .i64 m.1.err, .slice m.2.1 m.1.runs.length m.2.2]
def labOs (t : Nat) (M : List LbM) : List Ck := M.map fun m => .ow (.slice m.2.1 m.1.runs.length m.2.2) t 3 m.1.runs.length (rnC m.1.runs)
/-- Places that were told. -/
def plOs (t : Nat) (M : List LbM) (ps : List Value) : List Ck := (M.zip ps).map fun x => .ow x.2 t 2 x.1.1.n (spC (plC x.1.1 x.1.1.ord x.1.1.n))
/-- An array that is filled. -/
def filA (f : Nat → Int) (n j : Nat) : List Int := (List.range n).map fun i => if i < j then f i else 0
theorem plC_get (l : Lb) (o : Nat) {k s : Nat} (hs : s < k) : (plC l o k)[s]? = some (((1 + upN o s l.n : Nat) : Int), l.skis - dnN o s l.n) := by
  unfold plC
  rw [List.getElem?_map, List.getElem?_range hs]
  rfl
def lbM (M : List LbM) (i : Nat) : Lb := (M.getD i (⟨0, 0, []⟩, none, 0)).1
def oM (M : List LbM) (i : Nat) : Int := cnt (lbM M i).ord (lbM M i).n (2 ^ (lbM M i).n - 1)
def rM (M : List LbM) (k i : Nat) : Int := (planO (lbM M i).n k (lbM M i).ord : Nat)
/-- What all labs of a list have. -/
structure AllOk (sk : Nat) (m : LbM) : Prop where
  ok : m.1.Ok
  noC : NoC m.1.ord m.1.n
  skis : m.1.skis = (sk : Int)
theorem AllOk.n {sk : Nat} {m : LbM} (h : AllOk sk m) : m.1.n = sk := by unfold Lb.n; rw [h.skis]; omega
end Go.Proofs.YtcmpdmobmbbplaaGreat

/- Walks: all pairs of skis of which one is faster; whether a pair is among them. -/
namespace Go.Proofs.YtcmpdmobmbbplaaGreat
set_option maxRecDepth 4000
open Go Go.Eng

/-- The pairs with a faster ski of a list of skis. -/
def prA (o n : Nat) (L : List Nat) : List (Int × Int) := L.flatMap fun a => ((List.range n).filter fun b => fa o a b).map fun (b : Nat) => ((a : Int), (b : Int))
/-- All pairs of skis of which one is faster. -/
def fasL (o n : Nat) : List (Int × Int) := prA o n (List.range n)
/-- Those of the skis ahead of the k-th one, and the first ones of its own. -/
def fasI (o n a b : Nat) : List (Int × Int) := prA o n (List.range a) ++ ((List.range b).filter fun b => fa o a b).map fun (b : Nat) => ((a : Int), (b : Int))
/-- Where a pair is, or -1. -/
def idxP (L : List (Int × Int)) (p : Int × Int) : Int := if p ∈ L then (L.idxOf p : Int) else -1
end Go.Proofs.YtcmpdmobmbbplaaGreat

/- Labs that grow, and what is read of them. -/
namespace Go.Proofs.YtcmpdmobmbbplaaGreat
set_option maxRecDepth 4000
open Go Go.Eng

theorem runs_rdK {w0 w : World} {M : Nat → Prop} {H : List Ck} {v : Value} {t n : Nat} {l : List Rn} (hs : Sat w0 M H w) (hm : .ow v t 3 n (rnC l) ∈ H) (hn : n = l.length) : RdR w 0 w.heap.size v l := own_rdR (t := t) (hs.mem hm) hn
/-- The slice of a lab's runs. -/
abbrev slV (m : LbM) : Value := .slice m.2.1 m.1.runs.length m.2.2
end Go.Proofs.YtcmpdmobmbbplaaGreat

/- The engine: loops in which each round leaves marks; the end of a function with many marks. -/
namespace Go.Eng
set_option maxRecDepth 4000
open Go Go.RowKit

section
variable {P : Program} {n : Nat} {F : Fin} {k : List It} {e : Env} {w : World}
theorem y_loopD {r : Option Nat} {ds : List Deferred} {body : Code} (I : List Deferred → Nat → Env → World → Prop) {m : Nat} {l : Env} (h0 : I ds m l w) (hs : Sub l e)
    (round : ∀ ds m l w, I ds m l w → ∀ K : Act → World → Prop, (∀ ds' m' l' e' w', I ds' m' l' w' → m' < m → Sub l' e' → ∀ a, Fits n e' a → a.defers = ds' → K a w') → Y P ⟨r, ds⟩ n F (.code body :: .k K :: k) l w) :
    Y P ⟨r, ds⟩ n F (.code (.loop body) :: k) e w := by
  intro a hf hd
  have key : ∀ m ds l w, I ds m l w → ∀ a, Fits n l a → a.defers = ds → Code.roundsIn (FR r) 0 P body (S P r F k) (m + 1) a w := by
    intro m
    induction m using Nat.strongRecOn with
    | _ m ih =>
      intro ds l w hI a hf hd
      exact round ds m l w hI (Code.roundsIn (FR r) 0 P body (S P r F k) m) (fun ds' m' l' e' w' hI' hlt hs' a' hf' hd' => roundsIn_mono (by omega) (ih m' hlt ds' l' w' hI' a' (hf'.sub hs') hd')) a hf hd
  exact wpIn_loop_rounds (m + 1) (key m ds l w h0 a (hf.sub hs) hd)
end
section
variable {P : Program} {n : Nat} {F : Fin} {w0 : World} {M : Nat → Prop} {k : List It} {e : Env} {H : List Ck}
/-- A loop whose rounds may leave marks. -/
theorem q_loopD {r : Option Nat} {σ : Type} {body : Code} (dsf : σ → List Deferred) (inv : σ → Prop) (m : σ → Nat) (env : σ → Env) (hp : σ → List Ck) (s0 : σ) (h0 : inv s0) (hs : Sub (env s0) e) (hH : Sp H (hp s0))
    (round : ∀ s, inv s → ∀ K : Act → World → Prop, (∀ s' e' H', inv s' → m s' < m s → Sub (env s') e' → Sp H' (hp s') → Q P ⟨r, dsf s'⟩ n F w0 M (.k K :: k) e' H') → Q P ⟨r, dsf s⟩ n F w0 M (.code body :: .k K :: k) (env s) (hp s)) :
    Q P ⟨r, dsf s0⟩ n F w0 M (.code (.loop body) :: k) e H := .mk fun w hw =>
  y_loopD (fun ds m' l w' => ∃ s, inv s ∧ ds = dsf s ∧ m' = m s ∧ l = env s ∧ Sat w0 M (hp s) w') (m := m s0) (l := env s0) ⟨s0, h0, rfl, rfl, rfl, hw.sp hH⟩ hs (by
    rintro ds m' l w' ⟨s, hi, rfl, rfl, rfl, hsat⟩ K hK
    exact (round s hi K (fun s' e' H' hi' hlt hsub hsp => .mk fun w'' hw'' a hf hd => hK (dsf s') (m s') (env s') e' w'' ⟨s', hi', rfl, rfl, rfl, hw''.sp hsp⟩ hlt hsub a hf hd)).h w' hsat)
theorem leaves_marks {fn : Func} {tmps : Array Value} {R : Ending → World → Prop} {H' : List Ck} (hl : ∀ w, Sat w0 M H' w → LeavesInM (FR none) 0 P fn tmps R [] .returning w) : ∀ (Ds : List Nat) (w : World), Sat w0 M (Ds.map dfr ++ H') w → LeavesInM (FR none) 0 P fn tmps R (Ds.map mark) .returning w
  | [], w, h => hl w h
  | D :: Ds, w, h1 => by
    have hp : w.heap[D]? = some (.deferred (some [])) := h1.all _ List.mem_cons_self
    have h2 : Sat w0 M (Ds.map dfr ++ H') (w.putObj D (.deferred none)) := by
      have hsep := List.pairwise_cons.1 h1.sep
      refine ⟨h1.chg.up (putObj_chg w D _) (fun b hb => ?_), fun c hc => Ck.st (h1.all c (List.mem_cons_of_mem _ hc)) (putObj_chg w D _).P (fun b hb hm => ?_), hsep.2, fun c hc b hb => ?_⟩
      · simp at hb
        subst hb
        exact (h1.bd _ List.mem_cons_self b rfl).2
      · simp at hm
        subst hm
        exact hsep.1 c hc b rfl hb
      · rw [World.putObj_size]
        exact h1.bd c (List.mem_cons_of_mem _ hc) b hb
    refine ⟨by simp, .inl ⟨D, _, rfl, run_takeDeferred hp, ?_⟩⟩
    exact leaves_marks hl Ds _ h2
theorem q_finMs {T : Tab} (hT : T.Ok P) (Ds : List Nat) {fn : Func} {R : Value → World → Prop} {rs : List ResultVar} {vs : List Value} {H' : List Ck} (hH : Rm H (un (Ds.map dfr)) H') (hres : fn.results = rs.toArray) (h : RVs T e H' rs vs) (hR : ∀ w, Sat w0 M H' w → R (retV vs) w) : Q P ⟨none, Ds.map mark⟩ n (fun _ => finM P fn R .ret) w0 M [] e H := .mk fun w hs a hf hd => by
  show LeavesInM (FR none) 0 P fn a.tmps _ a.defers .returning w
  rw [show a.defers = Ds.map mark from hd]
  exact leaves_marks (fun w hs => leaves_nil (results_run hT hres h hf hs) ⟨retV vs, rfl, hR w hs⟩) Ds w (Sat.un_iff.1 (hs.perm hH.perm))
end
end Go.Eng

/- Walks: the search of a shortest chain of runs. -/
namespace Go.Proofs.YtcmpdmobmbbplaaGreat
set_option maxRecDepth 4000
open Go Go.Eng

/-- Turned round at both ends, so far. -/
def RevI (l : List Int) (k : Nat) (l' : List Int) : Prop := l'.length = l.length ∧ 2 * k ≤ l.length ∧ ∀ m, m < l.length → l'.getD m 0 = if m < k ∨ l.length ≤ m + k then l.getD (l.length - 1 - m) 0 else l.getD m 0
theorem RevI.zero (l : List Int) : RevI l 0 l := ⟨rfl, by omega, fun m hm => by rw [if_neg (by omega)]⟩
theorem RevI.step {l l' : List Int} {k : Nat} (h : RevI l k l') (hk : k < l.length - 1 - k) (h1 : k < l'.length) (h2 : l.length - 1 - k < l'.length) : RevI l (k + 1) ((l'.set k l'[l.length - 1 - k]).set (l.length - 1 - k) l'[k]) := by
  obtain ⟨hl, hk2, hv⟩ := h
  refine ⟨by simp [hl], by omega, fun m hm => ?_⟩
  have e1 : l'[l.length - 1 - k] = l.getD (l.length - 1 - k) 0 := by
    have := hv (l.length - 1 - k) (by omega)
    rw [if_neg (by omega), List.getD_eq_getElem?_getD, List.getElem?_eq_getElem h2] at this
    exact this
  have e2 : l'[k] = l.getD k 0 := by
    have := hv k (by omega)
    rw [if_neg (by omega), List.getD_eq_getElem?_getD, List.getElem?_eq_getElem h1] at this
    exact this
  rw [set_getD _ _ _ _ (by simpa using h2), set_getD _ _ _ _ h1, e1, e2]
  by_cases c1 : m = l.length - 1 - k
  · rw [if_pos c1, if_pos (by omega), c1]
    congr 1
    omega
  · rw [if_neg c1]
    by_cases c2 : m = k
    · rw [if_pos c2, if_pos (by omega), c2]
    · rw [if_neg c2, hv m hm]
      by_cases c3 : m < k ∨ l.length ≤ m + k
      · rw [if_pos c3, if_pos (by omega)]
      · rw [if_neg c3, if_neg (by omega)]
theorem RevI.end {l l' : List Int} {k : Nat} (h : RevI l k l') (hk : l.length ≤ 2 * k + 1) : l' = l.reverse := by
  obtain ⟨hl, hk2, hv⟩ := h
  refine List.ext_getElem (by simp [hl]) (fun m h1 h2 => ?_)
  have := hv m (by omega)
  rw [List.getD_eq_getElem?_getD, List.getElem?_eq_getElem h1] at this
  rw [List.getElem_reverse]
  have e : l.getD (l.length - 1 - m) 0 = l[l.length - 1 - m] := by
    rw [List.getD_eq_getElem?_getD, List.getElem?_eq_getElem (by omega)]; rfl
  rw [← e, ← Option.getD_some (a := l'[m]) (b := 0), this]
  split
  · rfl
  · congr 1
    omega

set_option maxHeartbeats 4000000 in
theorem rev_ca (w : World) (g c : Nat) (l : List Int) (hl : l.length ≤ 1000000) (hb : w.ownsRow 0 3 1 (.slice (some ⟨g, 0, none⟩) l.length c) l.length (ints l)) :
    Ca Tryz.prog 139 [.slice (some ⟨g, 0, none⟩) l.length c] w fun v w' => v = .tuple #[] ∧ Sat w (fun x => x = g) [.ow (.slice (some ⟨g, 0, none⟩) l.length c) 3 1 l.length (ints l.reverse)] w' := by
  refine q_of (Sat.own0 hb) Tryz.func139 rfl (by simp [Tryz.ntmps139]) ?_
  (refine q_seq (q_region (ql_pure tabOk rfl rfl (ql_pure tabOk rfl rfl (ql_ar tabOk rfl rfl rfl rfl (by omega) (by omega) (ql_pure tabOk rfl rfl (ql_pure tabOk rfl rfl (q_nil (q_block ?_)))))))))
  refine q_loop (σ := Nat × List Int) (fun s => RevI l s.1 s.2) (fun s => l.length - s.1) (fun s => [(0, .slice (some ⟨g, 0, none⟩) l.length c), (2, .int .i64 s.1), (3, .int .i64 (l.length - 1 - s.1))])
    (fun s => [.ow (.slice (some ⟨g, 0, none⟩) l.length c) 3 1 l.length (ints s.2)]) (0, l) (RevI.zero l) ⟨rfl, rfl, lookI rfl (by simp), trivial⟩ (by repeat constructor) ?_
  rintro ⟨k, l'⟩ hI K hK
  simp only at hI
  have hI2 := hI
  obtain ⟨hl', hk2, _⟩ := hI2
  dsimp only
  (refine q_seq (q_seq (q_region ?_)); (iterate 3 refine ql_pure tabOk rfl rfl ?_); refine q_nil ?_)
  refine q_if rfl (fun hc => ?_) (fun hc => ?_)
  · have hk : k < l.length - 1 - k := by omega
    have h1 : k < l'.length := by omega
    have h2 : l.length - 1 - k < l'.length := by omega
    clear hc
    have hst := hI.step hk h1 h2
    obtain ⟨q, hq⟩ : ∃ q : Nat, (q : Int) = (l.length : Int) - 1 - k := ⟨l.length - 1 - k, by omega⟩
    have hq2 : l.length - 1 - k = q := by omega
    simp only [hq2] at hst
    rw [hq2] at h2
    rw [← hq]
    (refine q_skip (q_seq (q_block ?_)))
    refine q_drawB [true, true, false, false, true, true, true, true, true, true, true, true, false, false, false, false] [] [.ow (.slice (some ⟨g, 0, none⟩) l.length c) 3 1 l.length (ints l')] (by repeat constructor) (by kernel_rfl) (by kernel_rfl) (by kernel_rfl) ?_
    refine qb_T 2 rfl rfl (Sp.refl _) fun K1 hK1 => ?_
    (refine qf_pure tabOk rfl rfl rfl (qf_pure tabOk rfl rfl rfl (qf_nil ?_)))
    refine hK1 _ _ (qb_F 2 [.ow (.slice (some ⟨g, 0, none⟩) l.length c) 3 1 l.length (ints l')] rfl rfl (by repeat constructor) fun K1 hK1 => ?_)
    (refine qf_pure tabOk rfl rfl rfl (qf_pure tabOk rfl rfl rfl (qf_nil ?_)))
    refine hK1 _ _ (qb_T 8 rfl rfl (by repeat constructor) fun K1 hK1 => ?_)
    (refine qf_pure tabOk rfl rfl rfl (qf_pure tabOk rfl rfl rfl ?_))
    (refine qf_index tabOk rfl rfl rfl rfl rfl (by omega) (by omega) ?_; refine qf_load1 tabOk rfl rfl rfl (fun w hs => RdI.at (hs.rdI (l := l') (t := 3) (n := l.length) (by repeat constructor) hl'.symm) q h2) ?_)
    (refine qf_pure tabOk rfl rfl rfl (qf_pure tabOk rfl rfl rfl ?_))
    (refine qf_index tabOk rfl rfl rfl rfl rfl (by omega) (by omega) ?_; refine qf_load1 tabOk rfl rfl rfl (fun w hs => RdI.at (hs.rdI (l := l') (t := 3) (n := l.length) (by repeat constructor) hl'.symm) k h1) ?_)
    (refine qf_nil ?_)
    refine hK1 _ _ (qb_F 4 [.ow (.slice (some ⟨g, 0, none⟩) l.length c) 3 1 l.length (ints l')] rfl rfl (by repeat constructor) fun K1 hK1 => ?_)
    skip
    refine qf_index tabOk rfl rfl rfl rfl rfl (by omega) (by omega) ?_
    refine qf_storeW tabOk k rfl rfl rfl rfl (by repeat constructor) (by omega) (by simpa using h1) ?_
    skip
    refine qf_index tabOk rfl rfl rfl rfl rfl (by omega) (by omega) ?_
    refine qf_storeW tabOk q rfl rfl rfl rfl (by repeat constructor) (by omega) (by simpa using h2) ?_
    rw [← List.map_set, ← List.map_set]
    (refine qf_nil ?_)
    refine hK1 _ _ (qb_nil ?_)
    (refine q_blk (q_region (ql_pure tabOk rfl rfl (ql_ar tabOk rfl rfl rfl rfl (by omega) (by omega) (ql_pure tabOk rfl rfl (ql_ar tabOk rfl rfl rfl rfl (by omega) (by omega) (ql_pure tabOk rfl rfl (ql_pure tabOk rfl rfl (q_nil ?_)))))))))
    exact hK (k + 1, _) _ _ hst (by simp only; omega) ⟨rfl, rfl, lookI rfl (by omega), trivial⟩ (by repeat constructor)
  · obtain rfl := hI.end (by omega)
    (refine q_exit _ rfl ?_)
    refine q_end tabOk rfl (by repeat constructor) fun w hs => ?_
    exact ⟨rfl, hs⟩

/-- Numbers that are set to -1, so far. -/
def filP (k : Nat) : List Int := (List.range 8).map fun i => if i < k then -1 else 0
theorem filP_len (k : Nat) : (filP k).length = 8 := by simp [filP]
theorem filP_set {k : Nat} (hk : k < 8) : (filP k).set k (-1) = filP (k + 1) := by
  refine List.ext_getElem (by simp [filP]) (fun i h1 h2 => ?_)
  rw [List.getElem_set]
  simp only [filP, List.getElem_map, List.getElem_range]
  by_cases e : k = i
  · subst e; simp
  · rw [if_neg e]
    by_cases e2 : i < k
    · rw [if_pos e2, if_pos (by omega)]
    · rw [if_neg e2, if_neg (by omega)]
theorem filP_8 : filP 8 = List.replicate 8 (-1) := by decide
theorem i_arr : arrB Tryz.prog 200 8 3 1 = true := by kernel_rfl
theorem chI_add (l : List Nat) (x : Nat) : ints (chI (l ++ [x])) = ints (chI l) ++ [.int .i64 x] := by simp [chI]
theorem sh_run {l : Lb} (hl : l.Ok) {i f s : Nat} (h : Sh l i f s) : ∃ hi : i < l.runs.length, runI l.err l.runs[i] = some ((f : Int), (s : Int)) := by
  obtain ⟨h1, h2⟩ := h
  refine ⟨h1, ?_⟩
  rw [List.getD_eq_getElem?_getD, List.getElem?_eq_getElem h1, Option.getD_some] at h2
  have hr := hl.run _ (List.getElem_mem h1)
  have h3 := hr.a0
  have h5 := hr.b0
  unfold runV at h2
  unfold runI
  split at h2
  · rename_i hc
    rw [if_pos hc]
    have e1 := congrArg Prod.fst (Option.some.inj h2)
    have e2 := congrArg Prod.snd (Option.some.inj h2)
    dsimp only at e1 e2
    rw [← e1, ← e2, Int.toNat_of_nonneg h3, Int.toNat_of_nonneg h5]
  · rename_i hc
    rw [if_neg hc]
    split at h2
    · rename_i hc2
      rw [if_pos hc2]
      have e1 := congrArg Prod.fst (Option.some.inj h2)
      have e2 := congrArg Prod.snd (Option.some.inj h2)
      dsimp only at e1 e2
      rw [← e1, ← e2, Int.toNat_of_nonneg h3, Int.toNat_of_nonneg h5]
    · cases h2
/-- The search ahead of a round. -/
def BIx (l : Lb) (fast slow n : Nat) (by' : List Int) (met lev : List Nat) : Prop := (n < met.length ∧ BI l fast slow n [] by' met lev) ∨ ∃ m, n = m + 1 ∧ n = met.length ∧ BI l fast slow m (shL l) by' met lev
theorem BI.bd {l : Lb} {fast slow n : Nat} {pre : List (Nat × Int × Int)} {by' : List Int} {met lev : List Nat} (h : BI l fast slow n pre by' met lev) : met.length ≤ 9 := by
  have h2 := h.sz
  have h3 := List.length_filter_le (fun s => decide (0 ≤ by'.getD s 0)) (List.range 8)
  rw [List.length_range] at h3
  omega
theorem BIx.bd {l : Lb} {fast slow n : Nat} {by' : List Int} {met lev : List Nat} (h : BIx l fast slow n by' met lev) : n ≤ met.length ∧ met.length ≤ 9 := by
  rcases h with ⟨h1, h2⟩ | ⟨m, h1, h2, h3⟩
  · exact ⟨by omega, h2.bd⟩
  · exact ⟨by omega, h3.bd⟩
theorem BIx.go {l : Lb} {fast slow n : Nat} {by' : List Int} {met lev : List Nat} (h : BIx l fast slow n by' met lev) (hn : n < met.length) : BI l fast slow n [] by' met lev := by
  rcases h with ⟨_, h2⟩ | ⟨m, h1, h2, h3⟩
  · exact h2
  · omega
theorem BIx.after {l : Lb} {fast slow n : Nat} {by' : List Int} {met lev : List Nat} (h : BI l fast slow n (shL l) by' met lev) : BIx l fast slow (n + 1) by' met lev := by
  have := h.nl
  by_cases h1 : n + 1 < met.length
  · exact .inl ⟨h1, h.next h1⟩
  · exact .inr ⟨n, rfl, by omega, h⟩
theorem BIx.none {l : Lb} {fast slow n : Nat} {by' : List Int} {met lev : List Nat} (he : 0 ≤ l.err) (h : BIx l fast slow n by' met lev) (hn : n = met.length) : NoCh l fast slow ∧ by'.getD slow 0 < 0 ∧ by'.length = 8 := by
  rcases h with ⟨h1, _⟩ | ⟨m, h1, h2, h3⟩
  · omega
  · exact ⟨h3.none he (by omega), h3.slow, h3.bl⟩
def tK41_bd78311 : OT := .alt (chainT [11, 0, 1, 2, 3, 4, 5, 6, 7, 8, 9, 10, 12, 13] (.nil)) (chainT [0, 1, 2, 3, 4, 5, 6, 7, 11, 8, 9, 10, 12, 13] (.nil))
set_option maxHeartbeats 4000000 in
theorem chain_ca (w : World) (b : Nat) (lo hi : Nat) (l : Lb) (v : Value) (o : Nat) (t : TypeId) (hb : Blk w b (dkC l v o) t) (h : RdR w lo hi v l.runs) (hl : l.Ok) (fast slow : Nat) (hf8 : fast < 8) (hs8 : slow < 8) :
    Ca Tryz.prog 80 [.pointer (some ⟨b, 0, none⟩), .int .i64 fast, .int .i64 slow] w fun x w' => (x = .slice none 0 0 ∧ NoCh l fast slow ∧ Chg [] w w') ∨ ∃ g cp : Nat, ∃ c : List Int, x = .slice (some ⟨g, 0, none⟩) c.length cp ∧ Short l fast slow c ∧ Sat w M0 [.ow x 3 1 c.length (ints c)] w' := by
  have hlen : l.runs.length ≤ maxLen := by have := hl.len; simp only [maxLen]; omega
  refine q_ofM (Sat.nil w M0) Tryz.func80 rfl (by simp [Tryz.ntmps80]) ?_
  (refine q_seq (q_region ?_))
  refine ql_box rfl rfl (fun b5 => ?_)
  (refine ql_pure tabOk rfl rfl (q_nil ?_))
  refine q_scope (fun _ _ _ h => h) ?_
  (refine q_seq (q_region ?_))
  refine ql_alloc zero200 rfl (fun b7 => ?_)
  (refine q_nil (q_seq (q_seq (q_region (ql_pure tabOk rfl rfl (q_nil (q_block ?_)))))))
  refine q_loop (σ := Nat) (fun k => k ≤ 8) (fun k => 8 - k) (fun k => [(0, .pointer (some ⟨b, 0, none⟩)), (1, .int .i64 fast), (5, .pointer (some ⟨b5, 0, none⟩)), (7, .pointer (some ⟨b7, 0, none⟩)), (17, .int .i64 k)]) (fun k => [.pt b7 (ints (filP k)) 200, .pt b5 [.int .i64 slow] 3]) 0 (by omega) ⟨rfl, rfl, rfl, rfl, rfl, trivial⟩ (by repeat constructor) ?_
  · rintro k hk K hK
    (refine q_seq (q_region (ql_pure tabOk rfl rfl (q_nil (q_seq ?_)))))
    refine q_if rfl (fun hc => ?_) (fun hc => ?_)
    · have hk2 : k < 8 := by omega
      clear hc
      (refine q_skip (q_seq (q_block (q_seq (q_region (ql_pure tabOk rfl rfl (ql_pure tabOk rfl rfl (q_nil (q_region (ql_pure tabOk rfl rfl ?_))))))))))
      refine ql_indexA (len := 8) i_arr rfl rfl rfl (by omega) (by omega) ?_
      have hi : k < (filP k).length := by rw [filP_len]; omega
      refine ql_storeI tabOk (k) rfl rfl rfl (by repeat constructor) (by first | rfl | omega | simp) hi ?_
      rw [filP_set hk2]
      (refine q_nil (q_blk (q_region (ql_ar tabOk rfl rfl rfl rfl (by omega) (by omega) (ql_pure tabOk rfl rfl (q_nil ?_))))))
      exact hK (k + 1) _ _ (by omega) (by omega) ⟨rfl, rfl, rfl, rfl, rfl, trivial⟩ (by repeat constructor)
    · have hk8 : k = 8 := by omega
      subst hk8
      rw [filP_8]
      clear hc hK hk
      (refine q_exit _ rfl (q_seq (q_region (ql_pure tabOk rfl rfl ?_))))
      refine ql_mkS 3 [.int .i64 fast] rfl (by kernel_rfl) rfl (fun b24 => ?_)
      skip
      refine ql_alloc zero48 rfl (fun b9 => ?_)
      (refine ql_set tabOk rfl rfl rfl rfl (by repeat constructor) ?_; refine q_nil (q_seq (q_label (q_seq (q_seq (q_region ?_))))))
      refine ql_alloc zero3 rfl (fun b10 => ?_)
      (refine ql_set tabOk rfl rfl rfl rfl (by repeat constructor) ?_; refine q_nil (q_block ?_))
      refine q_conv (H' := [.ow (.slice (some ⟨b24, 0, none⟩) 1 1) 3 1 1 (ints (chI [fast])), .pt b9 [.slice (some ⟨b24, 0, none⟩) 1 1] 48, .pt b10 [.int .i64 0] 3, .pt b7 (ints (List.replicate 8 (-1))) 200, .pt b5 [.int .i64 slow] 3, un (([] : List Nat).map dfr)]) (fun w' hs => (Sat.un_nil (Sat.pt_ow (sz := 1) (m := 1) rfl (by omega) (hs.sp (H' := [.pt b24 [.int .i64 fast] 3, .pt b9 [.slice (some ⟨b24, 0, none⟩) 1 1] 48, .pt b10 [.int .i64 0] 3, .pt b7 (ints (List.replicate 8 (-1))) 200, .pt b5 [.int .i64 slow] 3]) (by repeat constructor)))).sp (by repeat constructor)) ?_
      refine q_loopD (σ := Nat × List Int × (List Nat × List Nat) × List Nat × Nat × Value) (fun s => s.2.2.2.1.map Eng.mark) (fun s => BIx l fast slow s.1 s.2.1 s.2.2.1.1 s.2.2.1.2) (fun s => 10 - s.1)
        (fun s => [(0, .pointer (some ⟨b, 0, none⟩)), (1, .int .i64 fast), (5, .pointer (some ⟨b5, 0, none⟩)), (7, .pointer (some ⟨b7, 0, none⟩)), (9, .pointer (some ⟨b9, 0, none⟩)), (10, .pointer (some ⟨s.2.2.2.2.1, 0, none⟩))])
        (fun s => [.ow s.2.2.2.2.2 3 1 s.2.2.1.1.length (ints (chI s.2.2.1.1)), .pt b9 [s.2.2.2.2.2] 48, .pt s.2.2.2.2.1 [.int .i64 s.1] 3, .pt b7 (ints s.2.1) 200, .pt b5 [.int .i64 slow] 3, un (s.2.2.2.1.map dfr)])
        (0, List.replicate 8 (-1), ([fast], [0]), [], b10, .slice (some ⟨b24, 0, none⟩) 1 1) (.inl ⟨by simp, BI.start l hf8 hs8⟩) ⟨rfl, rfl, rfl, rfl, rfl, rfl, trivial⟩ (by repeat constructor) ?_
      rintro ⟨n, by', ⟨met, lev⟩, Ds, x10, vm⟩ hI K hK
      dsimp only at hI hK ⊢
      have hmc : n ≤ met.length ∧ met.length ≤ 9 := hI.bd
      refine q_fact (fun w hs => hs.slice2 (v := vm) (by repeat constructor)) ?_
      rintro ⟨ga, gc, rfl⟩
      (refine q_seq (q_seq (q_region ?_)); (iterate 2 refine ql_loadBa tabOk rfl rfl rfl ?_); refine ql_pure tabOk rfl rfl (ql_pure tabOk rfl rfl (q_nil ?_)))
      refine q_if rfl (fun hc => ?_) (fun hc => ?_)
      · have hn : n < met.length := by omega
        clear hc
        have hB := hI.go hn
        (refine q_skip (q_seq (q_block (q_seq (q_region ?_)))); (iterate 3 refine ql_pure tabOk rfl rfl ?_); refine ql_loadPA tabOk rfl rfl rfl (by assumption) (by rfl) (by rfl) ?_)
        refine ql_call (β := Nat) tabOk [] _ M0 rfl rfl rfl rfl (Sp.refl _) (fun _ h => h.elim) (fun w' hs => shown_ca w' l v) ?_
        rintro bs _ rfl
        dsimp only [List.cons_append, List.nil_append]
        (refine q_nil (q_block ?_))
        obtain ⟨he0, he1⟩ : 0 ≤ l.err ∧ l.err ≤ 1000 := ⟨hl.e0, hl.e1⟩
        refine q_range shE (List Int × (List Nat × List Nat) × Value) (shL l) (fun pre s => BI l fast slow n pre s.1 s.2.1.1 s.2.1.2) (fun c s => c = .exit 2 ∧ ∃ K, BK l fast slow s.1 slow [] K)
          (fun s => [.ow s.2.2 3 1 s.2.1.1.length (ints (chI s.2.1.1)), .pt b9 [s.2.2] 48, .pt b7 (ints s.1) 200]) [.pt x10 [.int .i64 n] 3, .pt b5 [.int .i64 slow] 3, un (Ds.map dfr), .pt bs (lbC l v) 24] (by', (met, lev), .slice ga met.length gc)
          rfl (by kernel_rfl) rfl (fun _ _ => rfl) hB (by repeat constructor) ?_ ?_ ?_ ?_
        · intro w1 D hs hD
          exact shown_it w w1 D lo hi bs l v h ⟨hl.e0, hl.e1⟩ (by have := hl.len; omega) (fun w' hc => hs.chg0.old hc (fun k hk => (hD k hk).2.resolve_left (fun h => h))) (hs.blk (by repeat constructor)) (fun h => (hD _ h).1 ⟨.pt bs (lbC l v) _, (by repeat constructor), rfl⟩)
        · clear hB hI K hK
          rintro pre ⟨i, p1, p2⟩ post ⟨by', ⟨met, lev⟩, vm⟩ w1 lb rdy bsy K F' hx hB hsat hR hbegin hend hret hexit
          dsimp only at hB hend hexit hbegin ⊢
          have hxm : (i, p1, p2) ∈ shL l := by rw [hx]; simp
          have hxl := shL_in hl _ hxm
          have hxs := sh_mem hxm
          have h8 := hl.s1
          obtain ⟨f, hf⟩ := Int.eq_ofNat_of_zero_le hxl.1
          obtain ⟨g, hg⟩ := Int.eq_ofNat_of_zero_le hxl.2.2.1
          dsimp only at hf hg hxl hxs
          subst hf hg
          have hg8 : g < 8 := by omega
          rw [Int.toNat_natCast, Int.toNat_natCast] at hxs
          dsimp only [shE, List.zip_cons_cons, List.zip_nil_left, List.zip_nil_right, List.foldl_cons, List.foldl_nil]
          (refine q_seq (q_region (ql_pure tabOk rfl rfl (q_nil (q_region ?_)))))
          refine ql_alloc zero86 rfl (fun b12 => ?_)
          (refine ql_setA tabOk rfl rfl rfl rfl rfl (by repeat constructor) rfl ?_; refine q_nil ?_)
          refine q_conv (H' := [rdy, .pt b12 [.int .i64 f, .int .i64 g] 86, .ow vm 3 1 met.length (ints (chI met)), .pt b9 [vm] 48, .pt b7 (ints by') 200]) (fun w' hs => hs.sp (by repeat constructor)) ?_
          refine hbegin _ _ ?_
          have hnl := hB.nl
          have hm9 := hB.bd
          have hbl := hB.bl
          have hgb : g < by'.length := by omega
          obtain ⟨mn, hmn⟩ : ∃ mn, mn = met.getD n 0 := ⟨_, rfl⟩
          have hmI : (chI met)[n]'(by rw [chI_len]; exact hnl) = (mn : Int) := by rw [hmn, List.getD_eq_getElem?_getD, List.getElem?_eq_getElem hnl]; simp [chI]
          have hnc : n < (chI met).length := by rw [chI_len]; exact hnl
          obtain ⟨bg, hbg⟩ : ∃ bg, bg = by'.getD g 0 := ⟨_, rfl⟩
          have hbI : by'[g] = bg := by rw [hbg, List.getD_eq_getElem?_getD, List.getElem?_eq_getElem hgb]; rfl
          refine q_fact (fun w hs => hs.ownSome (v := vm) (by repeat constructor) (by omega)) ?_
          rintro ⟨gn, gm, rfl⟩
          (refine q_block (q_seq ?_))
          by_cases hfm : f = mn
          · by_cases hbn : bg < 0
            · skip
              refine q_draw _ [] (Sp.refl _) (by kernel_rfl) (by kernel_rfl) ?_
              (refine qf_pure tabOk rfl rfl rfl ?_; (iterate 2 refine qf_loadBa tabOk rfl rfl rfl ?_))
              refine qf_load1 (v := .int .i64 n) tabOk rfl rfl rfl (fun w hs => by rw [Blk.cell ((hR w hs.chg).blk (b := x10) (cs := [.int .i64 n]) (t := 3) (by repeat constructor))]; rfl) ?_
              skip
              (refine qf_index tabOk rfl rfl rfl rfl rfl (by omega) (by omega) ?_; refine qf_load1 tabOk rfl rfl rfl (fun w hs => RdI.at (hs.rdI (l := chI met) (t := 3) (n := met.length) (by repeat constructor) (chI_len _).symm) n hnc) ?_)
              rw [hmI]
              (refine qf_eqlT tabOk rfl rfl rfl (by omega) (qf_pure tabOk rfl rfl rfl (qf_gyes rfl (qf_pure tabOk rfl rfl rfl (qf_gyes rfl ?_)))); refine qf_loadBa tabOk rfl rfl rfl ?_; refine qf_gyes rfl ?_)
              refine qf_indexA (len := 8) i_arr rfl rfl rfl (by omega) (by omega) ?_
              (refine qf_gyes rfl ?_)
              refine qf_loadI tabOk (g) rfl rfl rfl (by repeat constructor) (by first | rfl | omega | simp) hgb ?_
              rw [hbI]
              (refine qf_gyes rfl (qf_lssT tabOk rfl rfl rfl (by omega) (qf_pure tabOk rfl rfl rfl (qf_nil (q_cond_true rfl (q_seq (q_region (ql_pure tabOk rfl rfl ?_))))))); refine ql_loadBa tabOk rfl rfl rfl ?_; refine ql_pure tabOk rfl rfl ?_)
              refine ql_indexA (len := 8) i_arr rfl rfl rfl (by omega) (by omega) ?_
              refine ql_storeI tabOk (g) rfl rfl rfl (by repeat constructor) (by first | rfl | omega | simp) hgb ?_
              (refine q_nil (q_seq (q_seq (q_region (ql_pure tabOk rfl rfl ?_)))); refine ql_loadBa tabOk rfl rfl rfl ?_)
              refine ql_load1 (v := .int .i64 slow) tabOk rfl rfl rfl (fun w hs => by rw [Blk.cell ((hR w hs.chg).blk (b := b5) (cs := [.int .i64 slow]) (t := 3) (by repeat constructor))]; rfl) ?_
              by_cases hgs : g = slow
              · have hstop : BK l fast slow (by'.set g (i : Int)) slow [] (lev.getD n 0 + 1) := by
                  have := hB.stop (x := (i, (f : Int), (g : Int))) hl.e0 (by rw [Int.toNat_natCast, Int.toNat_natCast]; exact hxs) hs8 (by rw [Int.toNat_natCast, ← hmn]; exact hfm) (by rw [Int.toNat_natCast]; exact hgs)
                  rw [hgs]
                  exact this
                (refine ql_eqlT tabOk rfl rfl rfl (by omega) (q_nil (q_cond_true rfl ?_)))
                refine q_exit_out rfl ?_
                exact hexit 2 _ _ (by'.set g i, (met, lev), _) ⟨rfl, lev.getD n 0 + 1, hstop⟩ (by repeat constructor)
              · (refine ql_eqlF tabOk rfl rfl rfl (by omega) (q_nil (q_cond_false rfl (q_skip (q_region ?_)))); refine ql_loadBa tabOk rfl rfl rfl ?_; refine ql_pure tabOk rfl rfl ?_; refine ql_loadBa tabOk rfl rfl rfl ?_)
                refine ql_mkS 3 [.int .i64 g] rfl (by kernel_rfl) rfl (fun bn => ?_)
                skip
                refine ql_append (q := 1) (news := [.int .i64 g]) slI rfl rfl rfl (fun v' => by repeat constructor) (fun w' hs => ⟨_, _, Blk.rdN (hs.blk (b := bn) (by repeat constructor)) rfl⟩) (by simp [oneV]) (by omega) (by omega) (fun u' => ?_)
                refine ql_fact (fun w' hs => hs.own_one (v := u') (by repeat constructor)) (fun hone => ?_)
                refine ql_store1 tabOk rfl rfl rfl hone (by repeat constructor) (by simp) ?_
                (refine q_nil (q_blk ?_))
                have hA := hB.add (x := (i, (f : Int), (g : Int))) (by rw [Int.toNat_natCast, Int.toNat_natCast]; exact hxs) (by rw [Int.toNat_natCast]; exact hg8) (by show Int.toNat (f : Int) = met.getD n 0; rw [Int.toNat_natCast, ← hmn]; exact hfm) (by show by'.getD (Int.toNat (g : Int)) 0 < 0; rw [Int.toNat_natCast, ← hbg]; exact hbn) (by show Int.toNat (g : Int) ≠ slow; rw [Int.toNat_natCast]; exact hgs)
                simp only [Int.toNat_natCast] at hA
                exact hend _ _ (by'.set g i, (met ++ [g], lev ++ [lev.getD n 0 + 1]), u') hA (by dsimp only; rw [List.length_append, List.length_singleton, chI_add]; repeat constructor)
            · skip
              refine q_draw _ [] (Sp.refl _) (by kernel_rfl) (by kernel_rfl) ?_
              (refine qf_pure tabOk rfl rfl rfl ?_; (iterate 2 refine qf_loadBa tabOk rfl rfl rfl ?_))
              refine qf_load1 (v := .int .i64 n) tabOk rfl rfl rfl (fun w hs => by rw [Blk.cell ((hR w hs.chg).blk (b := x10) (cs := [.int .i64 n]) (t := 3) (by repeat constructor))]; rfl) ?_
              skip
              (refine qf_index tabOk rfl rfl rfl rfl rfl (by omega) (by omega) ?_; refine qf_load1 tabOk rfl rfl rfl (fun w hs => RdI.at (hs.rdI (l := chI met) (t := 3) (n := met.length) (by repeat constructor) (chI_len _).symm) n hnc) ?_)
              rw [hmI]
              (refine qf_eqlT tabOk rfl rfl rfl (by omega) (qf_pure tabOk rfl rfl rfl (qf_gyes rfl (qf_pure tabOk rfl rfl rfl (qf_gyes rfl ?_)))); refine qf_loadBa tabOk rfl rfl rfl ?_; refine qf_gyes rfl ?_)
              refine qf_indexA (len := 8) i_arr rfl rfl rfl (by omega) (by omega) ?_
              (refine qf_gyes rfl ?_)
              refine qf_loadI tabOk (g) rfl rfl rfl (by repeat constructor) (by first | rfl | omega | simp) hgb ?_
              rw [hbI]
              (refine qf_gyes rfl (qf_lssF tabOk rfl rfl rfl (by omega) (qf_pure tabOk rfl rfl rfl (qf_nil (q_cond_false rfl (q_skip (q_blk ?_)))))))
              exact hend _ _ (by', (met, lev), _) (hB.skip hg8 (.inr (by show 0 ≤ by'.getD (Int.toNat (g : Int)) 0; rw [Int.toNat_natCast, ← hbg]; omega))) (by repeat constructor)
          · skip
            refine q_draw _ [] (Sp.refl _) (by kernel_rfl) (by kernel_rfl) ?_
            (refine qf_pure tabOk rfl rfl rfl ?_; (iterate 2 refine qf_loadBa tabOk rfl rfl rfl ?_))
            refine qf_load1 (v := .int .i64 n) tabOk rfl rfl rfl (fun w hs => by rw [Blk.cell ((hR w hs.chg).blk (b := x10) (cs := [.int .i64 n]) (t := 3) (by repeat constructor))]; rfl) ?_
            skip
            (refine qf_index tabOk rfl rfl rfl rfl rfl (by omega) (by omega) ?_; refine qf_load1 tabOk rfl rfl rfl (fun w hs => RdI.at (hs.rdI (l := chI met) (t := 3) (n := met.length) (by repeat constructor) (chI_len _).symm) n hnc) ?_)
            rw [hmI]
            (refine qf_eqlF tabOk rfl rfl rfl (by omega) (qf_pure tabOk rfl rfl rfl ?_); (iterate 5 refine qf_gno rfl rfl rfl ?_); refine qf_pure tabOk rfl rfl rfl (qf_nil (q_cond_false rfl (q_skip (q_blk ?_)))))
            exact hend _ _ (by', (met, lev), _) (hB.skip hg8 (.inl (by show Int.toNat (f : Int) ≠ met.getD n 0; rw [Int.toNat_natCast, ← hmn]; exact hfm))) (by repeat constructor)
        · intro D s hI2
          obtain ⟨by', ⟨met, lev⟩, vm⟩ := s
          dsimp only at hI2 ⊢
          (refine q_blk (q_blk (q_seq (q_seq (q_region ?_)))); refine ql_loadBa tabOk rfl rfl rfl ?_; refine q_nil (q_region ?_))
          refine ql_alloc zero3 rfl (fun y10 => ?_)
          (refine ql_set tabOk rfl rfl rfl rfl (by repeat constructor) ?_; refine q_nil (q_region ?_); refine ql_loadBa tabOk rfl rfl rfl ?_; refine ql_ar tabOk rfl rfl rfl rfl (by omega) (by omega) ?_; refine ql_set tabOk rfl rfl rfl rfl (by repeat constructor) ?_; refine q_nil ?_)
          refine q_conv (H' := [.ow vm 3 1 met.length (ints (chI met)), .pt b9 [vm] 48, .pt y10 [.int .i64 (n + 1)] 3, .pt b7 (ints by') 200, .pt b5 [.int .i64 slow] 3, un ((D :: Ds).map dfr)]) (fun w' hs => (Sat.un_in (hs.sp (H' := [dfr D, un (Ds.map dfr), .ow vm 3 1 met.length (ints (chI met)), .pt b9 [vm] 48, .pt y10 [.int .i64 (n + 1)] 3, .pt b7 (ints by') 200, .pt b5 [.int .i64 slow] 3]) (by repeat constructor))).sp (by repeat constructor)) ?_
          exact hK (n + 1, by', (met, lev), D :: Ds, y10, vm) _ _ (BIx.after hI2) (by dsimp only; omega) ⟨rfl, rfl, rfl, rfl, rfl, rfl, trivial⟩ (Sp.refl _)
        · rintro D ⟨by', ⟨met, lev⟩, vm⟩ c ⟨rfl, KK, hBK⟩
          dsimp only at hBK ⊢
          (refine q_exit _ rfl (q_seq (q_seq (q_region ?_))); refine ql_loadBa tabOk rfl rfl rfl ?_)
          have hb8 := hBK.bl
          have hge : 0 ≤ by'.getD slow 0 := by
            rcases hBK.ge with h1 | ⟨_, h2⟩
            · exact h1
            · exact absurd rfl h2
          refine ql_indexA (len := 8) i_arr rfl rfl rfl (by omega) (by omega) ?_
          have his : slow < by'.length := by omega
          refine ql_loadI tabOk (slow) rfl rfl rfl (by repeat constructor) (by first | rfl | omega | simp) his ?_
          rw [show by'[slow] = by'.getD slow 0 from by rw [List.getD_eq_getElem?_getD, List.getElem?_eq_getElem his]; rfl]
          (refine ql_lssF tabOk rfl rfl rfl (by omega) (q_nil (q_cond_false rfl (q_skip (q_seq (q_region (ql_pure tabOk rfl rfl (q_nil (q_seq (q_seq (q_region ?_)))))))))); refine ql_loadBa tabOk rfl rfl rfl ?_; refine ql_pure tabOk rfl rfl (q_nil (q_block ?_)))
          refine q_conv (H' := [.ow (.slice none 0 0) 3 1 0 (ints []), .pt b7 (ints by') 200, un ((D :: Ds).map dfr)]) (fun w' hs => Sat.ownil ((Sat.un_in (hs.sp (H' := [dfr D, un (Ds.map dfr), .pt b7 (ints by') 200]) (by repeat constructor))).sp (by repeat constructor)) _ _) ?_
          refine q_loop (σ := Nat × List Int × Value) (fun s => BK l fast slow by' s.1 s.2.1 KK) (fun s => KK + 1 - s.2.1.length)
            (fun s => [(0, .pointer (some ⟨b, 0, none⟩)), (1, .int .i64 fast), (7, .pointer (some ⟨b7, 0, none⟩)), (13, s.2.2), (14, .int .i64 s.1)])
            (fun s => [.ow s.2.2 3 1 s.2.1.length (ints s.2.1), .pt b7 (ints by') 200, un ((D :: Ds).map dfr)]) (slow, [], .slice none 0 0) hBK ⟨rfl, rfl, rfl, rfl, rfl, trivial⟩ (Sp.refl _) ?_
          rintro ⟨at', out, vo⟩ hO K3 hK3
          dsimp only at hO hK3 ⊢
          have hob := hO.bound
          have hk9 := hO.kb
          have ha8 := hO.at8
          refine q_fact (fun w hs => hs.slice2 (v := vo) (by repeat constructor)) ?_
          rintro ⟨vg, vc, rfl⟩
          by_cases hol : out.length = 0
          · have hgo : out = [] ∨ at' ≠ fast := .inl (List.length_eq_zero_iff.1 hol)
            (refine q_seq (q_seq (q_region (ql_pure tabOk rfl rfl (ql_pure tabOk rfl rfl (ql_eqlT tabOk rfl rfl rfl (by omega) (ql_pure tabOk rfl rfl ?_)))))); (iterate 3 refine ql_gno rfl rfl rfl ?_); refine ql_pure tabOk rfl rfl (q_nil (q_cond_true rfl (q_skip (q_block (q_seq (q_region (ql_pure tabOk rfl rfl (ql_pure tabOk rfl rfl ?_)))))))))
            obtain ⟨f, hf0, hsh, hO2⟩ := hO.step hgo
            have hib : at' < by'.length := by omega
            obtain ⟨bi, hbi⟩ : ∃ bi : Nat, (bi : Int) = by'.getD at' 0 := ⟨(by'.getD at' 0).toNat, by omega⟩
            rw [← hbi] at hO2 hsh
            rw [Int.toNat_natCast] at hsh
            have hbI : by'[at'] = bi := by rw [hbi, List.getD_eq_getElem?_getD, List.getElem?_eq_getElem hib]; rfl
            skip
            refine ql_indexA (len := 8) i_arr rfl rfl rfl (by omega) (by omega) ?_
            refine ql_loadI tabOk (at') rfl rfl rfl (by repeat constructor) (by first | rfl | omega | simp) hib ?_
            rw [hbI]
            skip
            refine ql_mkS 3 [.int .i64 bi] rfl (by kernel_rfl) rfl (fun bn => ?_)
            skip
            refine ql_append (q := 1) (news := [.int .i64 bi]) slI rfl rfl rfl (fun v' => by repeat constructor) (fun w' hs => ⟨_, _, Blk.rdN (hs.blk (b := bn) (by repeat constructor)) rfl⟩) (by simp [oneV]) (by omega) (by omega) (fun u' => ?_)
            (refine ql_pure tabOk rfl rfl (q_nil (q_seq ?_)))
            obtain ⟨hbl, hrun⟩ := sh_run hl hsh
            refine q_cut (σ := Nat) (fun z => [(0, .pointer (some ⟨b, 0, none⟩)), (1, .int .i64 fast), (7, .pointer (some ⟨b7, 0, none⟩)), (13, u'), (14, .int .i64 at'), (15, .pointer (some ⟨z, 0, none⟩))])
              (fun z => [.pt z [.int .i64 f, .int .i64 at'] 86, .ow u' 3 1 (out.length + 1) (ints out ++ [.int .i64 bi]), .pt b7 (ints by') 200, un ((D :: Ds).map dfr)]) ?_ ?_
            rotate_left
            · intro K4 hK4
              refine q_drawT (tK41_bd78311) _ [] (Sp.refl _) (by kernel_rfl) (by kernel_rfl) ?_
              refine qt_alt ?_ ?_
              · skip
                refine qt_seg (by repeat (first | exact PickL.nil | (apply PickL.cons; rfl))) fun K1 hK1 => ?_
                skip
                refine qf_alloc zero86 rfl (fun b15 => ?_)
                ((iterate 3 refine qf_pure tabOk rfl rfl rfl ?_); refine qf_loadPA tabOk rfl rfl rfl (by assumption) (by rfl) (by rfl) ?_; refine qf_pure tabOk rfl rfl rfl ?_)
                refine qf_indexA (len := 8) i_arr rfl rfl rfl (by omega) (by omega) ?_
                refine qf_loadI tabOk (at') rfl rfl rfl (by repeat constructor) (by first | rfl | omega | simp) hib ?_
                rw [hbI]
                skip
                refine qf_callv (val := .tuple #[.agg #[.int .i64 f, .int .i64 at'], .bool true]) tabOk rfl rfl rfl rfl (fun w hs => ?_) ?_; exact by have := shows_ca w lo hi l v (RdE.keep h hs.chg0) ⟨hl.e0, hl.e1⟩ bi hbl; rw [hrun] at this; exact this
                (refine qf_pure tabOk rfl rfl rfl (qf_ext tabOk rfl rfl rfl (qf_ext tabOk rfl rfl rfl ?_)); refine qf_setA tabOk rfl rfl rfl rfl rfl (by repeat constructor) rfl ?_; refine qf_pure tabOk rfl rfl rfl (qf_nil ?_))
                skip
                exact hK1 _ _ (qt_nil (hK4 b15 _ _ ⟨rfl, rfl, rfl, rfl, rfl, rfl, trivial⟩ (by repeat constructor)))
              · skip
                refine qt_seg (by repeat (first | exact PickL.nil | (apply PickL.cons; rfl))) fun K1 hK1 => ?_
                ((iterate 3 refine qf_pure tabOk rfl rfl rfl ?_); refine qf_loadPA tabOk rfl rfl rfl (by assumption) (by rfl) (by rfl) ?_; refine qf_pure tabOk rfl rfl rfl ?_)
                refine qf_indexA (len := 8) i_arr rfl rfl rfl (by omega) (by omega) ?_
                refine qf_loadI tabOk (at') rfl rfl rfl (by repeat constructor) (by first | rfl | omega | simp) hib ?_
                rw [hbI]
                skip
                refine qf_callv (val := .tuple #[.agg #[.int .i64 f, .int .i64 at'], .bool true]) tabOk rfl rfl rfl rfl (fun w hs => ?_) ?_; exact by have := shows_ca w lo hi l v (RdE.keep h hs.chg0) ⟨hl.e0, hl.e1⟩ bi hbl; rw [hrun] at this; exact this
                skip
                refine qf_alloc zero86 rfl (fun b15 => ?_)
                (refine qf_pure tabOk rfl rfl rfl (qf_ext tabOk rfl rfl rfl (qf_ext tabOk rfl rfl rfl ?_)); refine qf_setA tabOk rfl rfl rfl rfl rfl (by repeat constructor) rfl ?_; refine qf_pure tabOk rfl rfl rfl (qf_nil ?_))
                skip
                exact hK1 _ _ (qt_nil (hK4 b15 _ _ ⟨rfl, rfl, rfl, rfl, rfl, rfl, trivial⟩ (by repeat constructor)))
            intro b15
            (refine q_region (ql_pure tabOk rfl rfl ?_); refine ql_loadBa tabOk rfl rfl rfl ?_; refine ql_pure tabOk rfl rfl (q_nil (q_blk ?_)))
            have hb2 := hO2.bound
            rw [List.length_append, List.length_singleton] at hb2
            exact hK3 (f, out ++ [(bi : Int)], u') _ _ hO2 (by dsimp only; rw [List.length_append, List.length_singleton]; omega) ⟨rfl, rfl, rfl, rfl, rfl, trivial⟩ (by dsimp only; rw [List.length_append, List.length_singleton, show ints (out ++ [(bi : Int)]) = ints out ++ [.int .i64 bi] from by simp]; repeat constructor)
          · by_cases haf : at' = fast
            · have hne : out ≠ [] := fun e => hol (by rw [e]; rfl)
              have hsh := (show BK l fast slow by' fast out KK from haf ▸ hO).end hne
              refine q_fact (fun w hs => hs.ownSome (v := .slice vg out.length vc) (by repeat constructor) (by omega)) ?_
              rintro ⟨qg, qc, hq⟩
              cases hq
              (refine q_seq (q_seq (q_region (ql_pure tabOk rfl rfl (ql_pure tabOk rfl rfl (ql_eqlF tabOk rfl rfl rfl (by omega) (ql_pure tabOk rfl rfl (ql_gyes rfl (ql_pure tabOk rfl rfl (ql_gyes rfl (ql_pure tabOk rfl rfl (ql_gyes rfl ?_))))))))))); refine ql_neqF tabOk rfl rfl rfl (by omega) (ql_pure tabOk rfl rfl (q_nil (q_cond_false rfl (q_exit _ rfl (q_seq (q_region (ql_pure tabOk rfl rfl ?_))))))))
              refine ql_call (β := Unit) (ψ := fun _ v => v = .tuple #[]) (L' := fun _ => [.ow (.slice (some ⟨qg, 0, none⟩) out.length vc) 3 1 out.length (ints out.reverse)]) tabOk [.ow (.slice (some ⟨qg, 0, none⟩) out.length vc) 3 1 out.length (ints out)] _ (fun x => x = qg) rfl rfl rfl rfl (Sp.cons (by repeat constructor) (Sp.refl _)) (fun x hx => ⟨_, .head _, by subst hx; rfl⟩) (fun w' hs => (rev_ca w' qg vc out (by omega) (hs.all _ (.head _))).mono fun v w'' h => ⟨(), h⟩) ?_
              rintro _ _ rfl
              (refine q_nil (q_seq (q_region (ql_pure tabOk rfl rfl (ql_pure tabOk rfl rfl (q_nil (q_ret ?_)))))))
              refine q_finMs tabOk (D :: Ds) (by repeat constructor) rfl (by repeat constructor) fun w hs => ?_
              exact .inr ⟨qg, vc, out.reverse, by rw [List.length_reverse]; rfl, hsh, by rw [List.length_reverse]; exact hs.sp (by repeat constructor)⟩
            · have hgo : out = [] ∨ at' ≠ fast := .inr haf
              (refine q_seq (q_seq (q_region (ql_pure tabOk rfl rfl (ql_pure tabOk rfl rfl (ql_eqlF tabOk rfl rfl rfl (by omega) (ql_pure tabOk rfl rfl (ql_gyes rfl (ql_pure tabOk rfl rfl (ql_gyes rfl (ql_pure tabOk rfl rfl (ql_gyes rfl ?_))))))))))); refine ql_neqT tabOk rfl rfl rfl (by omega) (ql_pure tabOk rfl rfl (q_nil (q_cond_true rfl (q_skip (q_block (q_seq (q_region (ql_pure tabOk rfl rfl (ql_pure tabOk rfl rfl ?_))))))))))
              obtain ⟨f, hf0, hsh, hO2⟩ := hO.step hgo
              have hib : at' < by'.length := by omega
              obtain ⟨bi, hbi⟩ : ∃ bi : Nat, (bi : Int) = by'.getD at' 0 := ⟨(by'.getD at' 0).toNat, by omega⟩
              rw [← hbi] at hO2 hsh
              rw [Int.toNat_natCast] at hsh
              have hbI : by'[at'] = bi := by rw [hbi, List.getD_eq_getElem?_getD, List.getElem?_eq_getElem hib]; rfl
              skip
              refine ql_indexA (len := 8) i_arr rfl rfl rfl (by omega) (by omega) ?_
              refine ql_loadI tabOk (at') rfl rfl rfl (by repeat constructor) (by first | rfl | omega | simp) hib ?_
              rw [hbI]
              skip
              refine ql_mkS 3 [.int .i64 bi] rfl (by kernel_rfl) rfl (fun bn => ?_)
              skip
              refine ql_append (q := 1) (news := [.int .i64 bi]) slI rfl rfl rfl (fun v' => by repeat constructor) (fun w' hs => ⟨_, _, Blk.rdN (hs.blk (b := bn) (by repeat constructor)) rfl⟩) (by simp [oneV]) (by omega) (by omega) (fun u' => ?_)
              (refine ql_pure tabOk rfl rfl (q_nil (q_seq ?_)))
              obtain ⟨hbl, hrun⟩ := sh_run hl hsh
              refine q_cut (σ := Nat) (fun z => [(0, .pointer (some ⟨b, 0, none⟩)), (1, .int .i64 fast), (7, .pointer (some ⟨b7, 0, none⟩)), (13, u'), (14, .int .i64 at'), (15, .pointer (some ⟨z, 0, none⟩))])
                (fun z => [.pt z [.int .i64 f, .int .i64 at'] 86, .ow u' 3 1 (out.length + 1) (ints out ++ [.int .i64 bi]), .pt b7 (ints by') 200, un ((D :: Ds).map dfr)]) ?_ ?_
              rotate_left
              · intro K4 hK4
                refine q_drawT (tK41_bd78311) _ [] (Sp.refl _) (by kernel_rfl) (by kernel_rfl) ?_
                refine qt_alt ?_ ?_
                · skip
                  refine qt_seg (by repeat (first | exact PickL.nil | (apply PickL.cons; rfl))) fun K1 hK1 => ?_
                  skip
                  refine qf_alloc zero86 rfl (fun b15 => ?_)
                  ((iterate 3 refine qf_pure tabOk rfl rfl rfl ?_); refine qf_loadPA tabOk rfl rfl rfl (by assumption) (by rfl) (by rfl) ?_; refine qf_pure tabOk rfl rfl rfl ?_)
                  refine qf_indexA (len := 8) i_arr rfl rfl rfl (by omega) (by omega) ?_
                  refine qf_loadI tabOk (at') rfl rfl rfl (by repeat constructor) (by first | rfl | omega | simp) hib ?_
                  rw [hbI]
                  skip
                  refine qf_callv (val := .tuple #[.agg #[.int .i64 f, .int .i64 at'], .bool true]) tabOk rfl rfl rfl rfl (fun w hs => ?_) ?_; exact by have := shows_ca w lo hi l v (RdE.keep h hs.chg0) ⟨hl.e0, hl.e1⟩ bi hbl; rw [hrun] at this; exact this
                  (refine qf_pure tabOk rfl rfl rfl (qf_ext tabOk rfl rfl rfl (qf_ext tabOk rfl rfl rfl ?_)); refine qf_setA tabOk rfl rfl rfl rfl rfl (by repeat constructor) rfl ?_; refine qf_pure tabOk rfl rfl rfl (qf_nil ?_))
                  skip
                  exact hK1 _ _ (qt_nil (hK4 b15 _ _ ⟨rfl, rfl, rfl, rfl, rfl, rfl, trivial⟩ (by repeat constructor)))
                · skip
                  refine qt_seg (by repeat (first | exact PickL.nil | (apply PickL.cons; rfl))) fun K1 hK1 => ?_
                  ((iterate 3 refine qf_pure tabOk rfl rfl rfl ?_); refine qf_loadPA tabOk rfl rfl rfl (by assumption) (by rfl) (by rfl) ?_; refine qf_pure tabOk rfl rfl rfl ?_)
                  refine qf_indexA (len := 8) i_arr rfl rfl rfl (by omega) (by omega) ?_
                  refine qf_loadI tabOk (at') rfl rfl rfl (by repeat constructor) (by first | rfl | omega | simp) hib ?_
                  rw [hbI]
                  skip
                  refine qf_callv (val := .tuple #[.agg #[.int .i64 f, .int .i64 at'], .bool true]) tabOk rfl rfl rfl rfl (fun w hs => ?_) ?_; exact by have := shows_ca w lo hi l v (RdE.keep h hs.chg0) ⟨hl.e0, hl.e1⟩ bi hbl; rw [hrun] at this; exact this
                  skip
                  refine qf_alloc zero86 rfl (fun b15 => ?_)
                  (refine qf_pure tabOk rfl rfl rfl (qf_ext tabOk rfl rfl rfl (qf_ext tabOk rfl rfl rfl ?_)); refine qf_setA tabOk rfl rfl rfl rfl rfl (by repeat constructor) rfl ?_; refine qf_pure tabOk rfl rfl rfl (qf_nil ?_))
                  skip
                  exact hK1 _ _ (qt_nil (hK4 b15 _ _ ⟨rfl, rfl, rfl, rfl, rfl, rfl, trivial⟩ (by repeat constructor)))
              intro b15
              (refine q_region (ql_pure tabOk rfl rfl ?_); refine ql_loadBa tabOk rfl rfl rfl ?_; refine ql_pure tabOk rfl rfl (q_nil (q_blk ?_)))
              have hb2 := hO2.bound
              rw [List.length_append, List.length_singleton] at hb2
              exact hK3 (f, out ++ [(bi : Int)], u') _ _ hO2 (by dsimp only; rw [List.length_append, List.length_singleton]; omega) ⟨rfl, rfl, rfl, rfl, rfl, trivial⟩ (by dsimp only; rw [List.length_append, List.length_singleton, show ints (out ++ [(bi : Int)]) = ints out ++ [.int .i64 bi] from by simp]; repeat constructor)
      · have hn : n = met.length := by omega
        clear hc
        (refine q_exit _ rfl (q_seq (q_seq (q_region ?_))); refine ql_loadBa tabOk rfl rfl rfl ?_)
        obtain ⟨hno, hb0, hb8⟩ := hI.none hl.e0 hn
        refine ql_indexA (len := 8) i_arr rfl rfl rfl (by omega) (by omega) ?_
        have hi : slow < by'.length := by omega
        refine ql_loadI tabOk (slow) rfl rfl rfl (by repeat constructor) (by first | rfl | omega | simp) hi ?_
        rw [show by'[slow] = by'.getD slow 0 from by rw [List.getD_eq_getElem?_getD, List.getElem?_eq_getElem hi]; rfl]
        (refine ql_lssT tabOk rfl rfl rfl (by omega) (q_nil (q_cond_true rfl (q_seq (q_region (ql_pure tabOk rfl rfl (q_nil (q_ret ?_))))))))
        refine q_finMs tabOk Ds (by repeat constructor) rfl (by repeat constructor) fun w hs => ?_
        exact .inl ⟨rfl, hno, hs.chg0⟩
end Go.Proofs.YtcmpdmobmbbplaaGreat

/- The engine: make of a list whose elements are one cell each. -/
namespace Go.Eng
set_option maxRecDepth 4000
open Go Go.RowKit
section
variable {P : Program} {T : Tab} {ro : Cx} {n : Nat} {F : Fin} {w0 : World} {M : Nat → Prop} {k : List It} {ops : Array Oper} {rest : List Oper} {e : Env} {H Hq : List Ck}
theorem ql_makeZ {d t et m bytes : Nat} {z : Value} {x y : Operand} {ty : TypeId} {pos : String} {af : Array Edge} (hS : SlT P t et 1 bytes z) (hz1 : z.cells = #[z]) (hx : opv e x = some (.int .i64 m)) (hy : opv e y = some (.int .i64 m)) (hd : Nat.blt d n = true) (hm : m ≤ 1000000) (hb8 : bytes ≤ 8)
    (h : ∀ b, QL P ro n F w0 M k ops rest ((d, .slice (some ⟨b, 0, none⟩) m m) :: e) (.pt b (List.replicate m z) et :: H)) :
    QL P ro n F w0 M k ops (⟨some d, .makeSlice t x y, ty, pos, af, none⟩ :: rest) e H := .mk fun w hs => by
  obtain ⟨ht, hi', hzs, hsz⟩ := hS
  cases hinf : P.info? et with
  | none => simp [hinf] at hi'
  | some i =>
    simp [hinf] at hi'
    obtain ⟨hz, hsize, hby⟩ := hi'
    subst hby
    have hm8 : m * i.bytes ≤ 1000000 * 8 := Nat.mul_le_mul hm hb8
    have hr := run_makeSlice (P := P) w t et i _ ht hinf hz .i64 .i64 m m (by omega) (Int.le_refl _) (by rw [hsize]; simp; omega) (by rw [Int.mul_comm]; omega) (by omega)
    have hcells : (madeCells z.cells ((m : Int).toNat * i.size)) = (List.replicate m z).toArray := by
      apply Array.ext'
      rw [hsize, hz1, toList_madeCells_one]
      simp
    rw [hcells] at hr
    refine yl_val (w' := w.alloc (.cells (List.replicate m z).toArray et)) (by simp) hd (fun ac hf => ?_) ((h w.heap.size).h _ (hs.addPt (alloc_chg _ _) (by simp) (alloc_blk w _ _)))
    simp only [execOp, hf.op hx, hf.op hy]
    simp [hr]
theorem ql_storeBo (hT : T.Ok P) {t : Nat} {x y : Operand} {b off : Nat} {l : List Bool} {z : Bool} {bt : TypeId} {H' : List Ck} {ty : TypeId} {pos : String} {af : Array Edge} (i : Nat)
    (hx : opv e x = some (.pointer (some ⟨b, off, none⟩))) (hy : opv e y = some (.bool z)) (h1 : has T.one t = true) (hr : Rp H (.pt b (bools l) bt) (.pt b (bools (l.set i z)) bt) H') (ho : off = i) (hi : i < l.length)
    (h : QL P ro n F w0 M k ops rest e H') : QL P ro n F w0 M k ops (⟨none, .store t x y, ty, pos, af, none⟩ :: rest) e H :=
  ql_store1 hT hx hy h1 rfl (by subst ho; rw [← List.map_set]; exact hr) (by subst ho; simpa using hi) h
theorem bcell {w : World} {b : Nat} {sl : List Bool} {t : TypeId} (hb : Blk w b (bools sl) t) (f : Nat) (hf : f < sl.length) : w.cell? ⟨b, 0 + (f : Int).toNat * 1, none⟩ = some (.bool (sl.getD f false)) := by
  rw [Blk.cell hb, Int.toNat_natCast, Nat.zero_add, Nat.mul_one, List.getElem?_map, List.getD_eq_getElem?_getD, List.getElem?_eq_getElem hf]
  rfl
end
end Go.Eng

/- The plain law of SkiChains: how far skis are, which are faster, what a chain shows. -/
namespace Go.Proofs.YtcmpdmobmbbplaaGreat
set_option maxRecDepth 4000
open Go Go.Eng
theorem sh_pair {l : Lb} {i f s : Nat} (h : Sh l i f s) : (f, s) ∈ l.pairs := by
  obtain ⟨h1, h2⟩ := h
  rw [List.getD_eq_getElem?_getD, List.getElem?_eq_getElem h1, Option.getD_some] at h2
  exact List.mem_filterMap.2 ⟨_, List.getElem_mem h1, h2⟩
theorem pair_sh {l : Lb} {p : Nat × Nat} (h : p ∈ l.pairs) : ∃ i, Sh l i p.1 p.2 := by
  obtain ⟨r, hr, h1⟩ := List.mem_filterMap.1 h
  obtain ⟨i, hi, rfl⟩ := List.getElem_of_mem hr
  exact ⟨i, hi, by rw [List.getD_eq_getElem?_getD, List.getElem?_eq_getElem hi, Option.getD_some]; exact h1⟩
theorem sh_in {l : Lb} (hl : l.Ok) {i f s : Nat} (h : Sh l i f s) : f < l.n ∧ s < l.n := ⟨(hl.in _ (sh_pair h)).1, (hl.in _ (sh_pair h)).2.1⟩
theorem wk_one {l : Lb} {i a b : Nat} (h : Sh l i a b) : Wk l a 1 b := ⟨a, i, rfl, h⟩
theorem wk_app {l : Lb} {a b k : Nat} (h : Wk l a k b) : ∀ m c, Wk l b m c → Wk l a (k + m) c
  | 0, c, h2 => by
    have e : c = b := h2
    rw [e]; exact h
  | m + 1, c, ⟨s, i, h2, h3⟩ => ⟨s, i, wk_app h m s h2, h3⟩
theorem wk_in {l : Lb} (hl : l.Ok) {a k b : Nat} (h : Wk l a (k + 1) b) : b < l.n := by
  obtain ⟨s, i, _, h3⟩ := h
  exact (sh_in hl h3).2
theorem wk_fa {l : Lb} (hl : l.Ok) {a : Nat} (ha : a < 8) : ∀ k b, Wk l a (k + 1) b → fa l.ord a b = true
  | 0, b, ⟨s, i, h2, h3⟩ => by
    have e : s = a := h2
    rw [e] at h3
    exact order_has hl.in8 (sh_pair h3)
  | k + 1, b, ⟨s, i, h2, h3⟩ => by
    have h8 := hl.n8
    have hi := sh_in hl h3
    exact hl.o.tr a s b ha (by omega) (by omega) (wk_fa hl ha k s h2) (order_has hl.in8 (sh_pair h3))
theorem fa_wk {l : Lb} (hl : l.Ok) {a b : Nat} (ha : a < 8) (hb : b < 8) (h : fa l.ord a b = true) : ∃ k, Wk l a (k + 1) b :=
  order_sub (R := fun a b => ∃ k, Wk l a (k + 1) b) hl.in8 (fun a b c _ _ _ ⟨k, h1⟩ ⟨m, h2⟩ => ⟨k + 1 + m, wk_app h1 (m + 1) c h2⟩) (fun p hp => by
    obtain ⟨i, hi⟩ := pair_sh hp
    exact ⟨0, wk_one hi⟩) a b ha hb h
theorem wk_lead {l : Lb} {a : Nat} : ∀ k b, Wk l a k b → ∃ c : List Int, c.length = k ∧ leadV l a c = some (b : Int)
  | 0, b, h => ⟨[], rfl, by rw [show b = a from h]; rfl⟩
  | k + 1, b, ⟨s, i, h2, h3⟩ => by
    obtain ⟨c, hc, h4⟩ := wk_lead k s h2
    refine ⟨c ++ [(i : Int)], by simp [hc], ?_⟩
    rw [lead_snoc, h4, Option.bind_some, lead_cons h3]
    rfl
/-- The fewest runs of a chain. -/
def IsD (l : Lb) (a b k : Nat) : Prop := 1 ≤ k ∧ Wk l a k b ∧ ∀ j, 1 ≤ j → j < k → ¬ Wk l a j b
theorem isD_of {l : Lb} {a b : Nat} : ∀ k, 1 ≤ k → Wk l a k b → ∃ j, j ≤ k ∧ IsD l a b j := by
  intro k
  induction k using Nat.strongRecOn with
  | _ k ih =>
    intro h1 hw
    by_cases hx : ∃ j, 1 ≤ j ∧ j < k ∧ Wk l a j b
    · obtain ⟨j, h2, h3, h4⟩ := hx
      obtain ⟨i, h5, h6⟩ := ih j h3 h2 h4
      exact ⟨i, by omega, h6⟩
    · exact ⟨k, Nat.le_refl _, h1, hw, fun j h2 h3 h4 => hx ⟨j, h2, h3, h4⟩⟩
theorem isD_eq {l : Lb} {a b j k : Nat} (h : IsD l a b j) (g : IsD l a b k) : j = k := by
  rcases Nat.lt_trichotomy j k with h1 | h1 | h1
  · exact absurd h.2.1 (g.2.2 j h.1 h1)
  · exact h1
  · exact absurd g.2.1 (h.2.2 k g.1 h1)
theorem isD_pred {l : Lb} {a b k : Nat} (h : IsD l a b (k + 2)) : ∃ f i, IsD l a f (k + 1) ∧ Sh l i f b := by
  obtain ⟨_, ⟨f, i, h2, h3⟩, h4⟩ := h
  exact ⟨f, i, ⟨by omega, h2, fun j hj hk hw => h4 (j + 1) (by omega) (by omega) ⟨f, i, hw, h3⟩⟩, h3⟩
theorem isD_one {l : Lb} {a b : Nat} (h : IsD l a b 1) : ∃ i, Sh l i a b := by
  obtain ⟨_, ⟨f, i, h2, h3⟩, _⟩ := h
  rw [show f = a from h2] at h3
  exact ⟨i, h3⟩
theorem isD_nodes {l : Lb} (hl : l.Ok) {a : Nat} : ∀ k b, IsD l a b (k + 1) → ∃ L : List Nat, L.length = k + 1 ∧ L.Nodup ∧ ∀ x ∈ L, x < l.n ∧ ∃ j, j ≤ k + 1 ∧ IsD l a x j
  | 0, b, h => ⟨[b], rfl, by simp, fun x hx => by rw [List.mem_singleton.1 hx]; exact ⟨wk_in hl h.2.1, 1, by omega, h⟩⟩
  | k + 1, b, h => by
    obtain ⟨f, i, h1, h2⟩ := isD_pred h
    obtain ⟨L, h3, h4, h5⟩ := isD_nodes hl k f h1
    refine ⟨b :: L, by simp [h3], List.nodup_cons.2 ⟨fun hb => ?_, h4⟩, fun x hx => ?_⟩
    · obtain ⟨_, j, hj, hd⟩ := h5 b hb
      have := isD_eq hd h
      omega
    · rcases List.mem_cons.1 hx with rfl | hx
      · exact ⟨wk_in hl h.2.1, k + 2, by omega, h⟩
      · obtain ⟨g1, j, g2, g3⟩ := h5 x hx
        exact ⟨g1, j, by omega, g3⟩
theorem nodup_len : ∀ {n : Nat} {L : List Nat}, L.Nodup → (∀ x ∈ L, x < n) → L.length ≤ n
  | 0, L, _, hn => by
    cases L with
    | nil => simp
    | cons x L => exact absurd (hn x List.mem_cons_self) (by omega)
  | n + 1, L, h, hn => by
    have h1 := nodup_len (n := n) (h.erase n) (fun x hx => by
      have := (h.mem_erase_iff).1 hx
      have := hn x this.2
      omega)
    rw [List.length_erase] at h1
    split at h1 <;> omega
theorem isD_le {l : Lb} (hl : l.Ok) {a b k : Nat} (h : IsD l a b k) : k ≤ l.n := by
  obtain ⟨m, rfl⟩ : ∃ m, k = m + 1 := ⟨k - 1, by have := h.1; omega⟩
  obtain ⟨L, h1, h2, h3⟩ := isD_nodes hl m b h
  have := nodup_len h2 (fun x hx => (h3 x hx).1)
  omega
/-- Which skis are reached so far. -/
structure FI (l : Lb) (a : Nat) (sl : List Bool) : Prop where
  len : sl.length = l.n
  ok : ∀ s, sl.getD s false = true → ∃ k, Wk l a (k + 1) s
theorem bset_getD (sl : List Bool) (s t : Nat) (hs : s < sl.length) : (sl.set s true).getD t false = if t = s then true else sl.getD t false := by
  rw [List.getD_eq_getElem?_getD, List.getElem?_set]
  by_cases h : s = t
  · subst h; simp [hs]
  · rw [if_neg h, if_neg (fun h' => h h'.symm), List.getD_eq_getElem?_getD]
theorem FI.start {l : Lb} {a : Nat} : FI l a (List.replicate l.n false) := ⟨by simp, fun s h => by
  rw [List.getD_eq_getElem?_getD, List.getElem?_replicate] at h
  split at h <;> cases h⟩
theorem FI.add {l : Lb} (hl : l.Ok) {a i f s : Nat} {sl : List Bool} (h : FI l a sl) (hs : Sh l i f s) (hf : f = a ∨ sl.getD f false = true) : FI l a (sl.set s true) := by
  have hin := sh_in hl hs
  refine ⟨by simp [h.len], fun t ht => ?_⟩
  rw [bset_getD _ _ _ (by rw [h.len]; exact hin.2)] at ht
  split at ht
  · rename_i e
    subst e
    rcases hf with rfl | hf
    · exact ⟨0, wk_one hs⟩
    · obtain ⟨k, hk⟩ := h.ok f hf
      exact ⟨k + 1, f, i, hk, hs⟩
  · exact h.ok t ht
theorem FI.done {l : Lb} (hl : l.Ok) {a : Nat} (ha : a < 8) {sl : List Bool} (h : FI l a sl) (hc : ∀ i f s, Sh l i f s → (f = a ∨ sl.getD f false = true) → sl.getD s false = true) {b : Nat} (hb : b < l.n) : sl.getD b false = fa l.ord a b := by
  have key : ∀ k s, Wk l a (k + 1) s → sl.getD s false = true := by
    intro k
    induction k with
    | zero =>
      rintro s ⟨t, i, h2, h3⟩
      rw [show t = a from h2] at h3
      exact hc i a s h3 (.inl rfl)
    | succ k ih =>
      rintro s ⟨t, i, h2, h3⟩
      exact hc i t s h3 (.inr (ih t h2))
  have h8 := hl.n8
  cases hx : fa l.ord a b with
  | true =>
    obtain ⟨k, hk⟩ := fa_wk hl ha (by omega) hx
    exact key k b hk
  | false =>
    cases hy : sl.getD b false with
    | false => rfl
    | true =>
      obtain ⟨k, hk⟩ := h.ok b hy
      rw [wk_fa hl ha k b hk] at hx
      cases hx
def falses (sl : List Bool) : Nat := (sl.filter fun b => !b).length
theorem falses_set : ∀ (sl : List Bool) (s : Nat), s < sl.length → sl.getD s false = false → falses (sl.set s true) + 1 = falses sl
  | [], s, h, _ => by simp at h
  | b :: sl, 0, _, h => by
    have : b = false := h
    subst this
    simp [falses]
  | b :: sl, s + 1, h, h2 => by
    have ih := falses_set sl s (by simpa using h) h2
    cases b <;> simp [falses] at ih ⊢ <;> omega
/-- Distances so far: rounds before the n-th one, and the runs before the i-th one. -/
structure LI (l : Lb) (a n i : Nat) (far : List Int) : Prop where
  len : far.length = l.n
  ok : ∀ s, far.getD s 0 ≠ 0 → ∃ k, far.getD s 0 = (k : Nat) ∧ k ≤ n ∧ IsD l a s k
  old : ∀ s k, k < n → IsD l a s k → far.getD s 0 = k
  cur : ∀ j f s, j < i → Sh l j f s → (n = 1 ∧ f = a ∨ ∃ m, n = m + 2 ∧ IsD l a f (m + 1)) → far.getD s 0 ≠ 0
theorem LI.start (l : Lb) (a : Nat) : LI l a 1 0 (List.replicate l.n 0) where
  len := by simp
  ok := fun s h => by
    rw [List.getD_eq_getElem?_getD, List.getElem?_replicate] at h
    split at h <;> simp at h
  old := fun s k hk h => by have := h.1; omega
  cur := fun j f s hj => by omega
theorem LI.fin {l : Lb} (hl : l.Ok) {a n : Nat} {far : List Int} (h : LI l a n l.runs.length far) (hn : 1 ≤ n) : LI l a (n + 1) 0 far where
  len := h.len
  ok := fun s hs => by
    obtain ⟨k, h1, h2, h3⟩ := h.ok s hs
    exact ⟨k, h1, by omega, h3⟩
  old := fun s k hk hd => by
    by_cases e : k < n
    · exact h.old s k e hd
    · obtain rfl : k = n := by omega
      have hne : far.getD s 0 ≠ 0 := by
        rcases Nat.lt_or_ge 1 k with h1 | h1
        · obtain ⟨m, rfl⟩ : ∃ m, k = m + 2 := ⟨k - 2, by omega⟩
          obtain ⟨f, i, h3, h4⟩ := isD_pred hd
          exact h.cur i f s h4.1 h4 (.inr ⟨m, rfl, h3⟩)
        · obtain rfl : k = 1 := by omega
          obtain ⟨i, h4⟩ := isD_one hd
          exact h.cur i a s h4.1 h4 (.inl ⟨rfl, rfl⟩)
      obtain ⟨j, h1, h2, h3⟩ := h.ok s hne
      rw [h1, isD_eq h3 hd]
  cur := fun j f s hj => by omega
theorem LI.skip {l : Lb} {a n i : Nat} {far : List Int} (h : LI l a n i far) (hx : ∀ f s, Sh l i f s → (n = 1 ∧ f = a ∨ ∃ m, n = m + 2 ∧ IsD l a f (m + 1)) → far.getD s 0 ≠ 0) : LI l a n (i + 1) far :=
  { h with
    cur := fun j f s hj hsh hf => by
      by_cases e : j = i
      · rw [e] at hsh; exact hx f s hsh hf
      · exact h.cur j f s (by omega) hsh hf }
theorem LI.set {l : Lb} (hl : l.Ok) {a n i f s : Nat} {far : List Int} (h : LI l a n i far) (hn : 1 ≤ n) (hsh : Sh l i f s) (h0 : far.getD s 0 = 0) (hf : n = 1 ∧ f = a ∨ ∃ m, n = m + 2 ∧ IsD l a f (m + 1)) : LI l a n (i + 1) (far.set s n) := by
  have hin := sh_in hl hsh
  have hg : ∀ t, (far.set s (n : Int)).getD t 0 = if t = s then (n : Int) else far.getD t 0 := fun t => set_getD _ _ _ _ (by rw [h.len]; exact hin.2)
  have hw : Wk l a n s := by
    rcases hf with ⟨rfl, rfl⟩ | ⟨m, rfl, hd⟩
    · exact wk_one hsh
    · exact ⟨f, i, hd.2.1, hsh⟩
  have hd : IsD l a s n := ⟨hn, hw, fun j h1 h2 h3 => by
    obtain ⟨k, hk, hk2⟩ := isD_of j h1 h3
    have := h.old s k (by omega) hk2
    have := hk2.1
    omega⟩
  refine ⟨by simp [h.len], fun t ht => ?_, fun t k hk hkd => ?_, fun j f' t hj hs' hf' => ?_⟩
  · rw [hg] at ht ⊢
    by_cases e : t = s
    · rw [if_pos e, e]; exact ⟨n, rfl, Nat.le_refl _, hd⟩
    · rw [if_neg e] at ht ⊢; exact h.ok t ht
  · rw [hg]
    by_cases e : t = s
    · rw [e] at hkd
      have := isD_eq hkd hd
      omega
    · rw [if_neg e]; exact h.old t k hk hkd
  · rw [hg]
    by_cases e : t = s
    · rw [if_pos e]; omega
    · rw [if_neg e]
      by_cases e2 : j = i
      · rw [e2] at hs'
        have := hs'.2.symm.trans hsh.2
        cases this
        exact absurd rfl e
      · exact h.cur j f' t (by omega) hs' hf'
/-- How many runs the shortest chain has, 0 if there is none. -/
def LenP (l : Lb) (a b : Nat) (n : Int) : Prop := (n = 0 ∧ ∀ k, 1 ≤ k → ¬ Wk l a k b) ∨ ∃ k : Nat, n = k ∧ IsD l a b k
theorem LI.end {l : Lb} (hl : l.Ok) {a : Nat} {far : List Int} (h : LI l a (l.n + 1) 0 far) (b : Nat) : LenP l a b (far.getD b 0) := by
  by_cases h0 : far.getD b 0 = 0
  · refine .inl ⟨h0, fun k hk hw => ?_⟩
    obtain ⟨j, _, hd⟩ := isD_of k hk hw
    have := h.old b j (by have := isD_le hl hd; omega) hd
    have := hd.1
    omega
  · obtain ⟨k, h1, _, h3⟩ := h.ok b h0
    exact .inr ⟨k, h1, h3⟩
theorem leadV_cons (l : Lb) (a i : Int) (c : List Int) : leadV l a (i :: c) = match runV l.err (l.runs.getD i.toNat ⟨0, 0, 0⟩) with
    | none => none
    | some p => if (p.1 : Int) = a then leadV l p.2 c else none := by
  (conv => lhs; unfold leadV) <;> rfl
theorem lead_app (l : Lb) : ∀ (c d : List Int) (a : Int), leadV l a (c ++ d) = (leadV l a c).bind fun x => leadV l x d
  | [], d, a => rfl
  | j :: c, d, a => by
    rw [List.cons_append, leadV_cons, leadV_cons]
    split
    · rfl
    · rename_i p hp
      split
      · exact lead_app l c d p.2
      · rfl
/-- What a run shows, in the reference. -/
def shR (e : Int) (r : Rn) : Int × Int := (runI e r).getD (-1, -1)
def rqL (l : Lb) (j : Int) : Int × Int := shR l.err (l.runs.getD j.toNat ⟨0, 0, 0⟩)
theorem lead_one2 {l : Lb} (hl : l.Ok) {j : Int} (h0 : 0 ≤ j) (h1 : j < l.runs.length) (x : Int) : leadV l x [j] = if 0 ≤ (rqL l j).1 ∧ (rqL l j).1 = x then some (rqL l j).2 else none := by
  have hj : j.toNat < l.runs.length := by omega
  have hr := hl.run _ (List.getElem_mem hj)
  have a0 := hr.a0
  have b0 := hr.b0
  unfold leadV rqL shR
  rw [List.getD_eq_getElem?_getD, List.getElem?_eq_getElem hj, Option.getD_some]
  generalize l.runs[j.toNat] = r at *
  unfold runV runI
  by_cases h2 : l.err < r.lead
  · rw [if_pos h2, if_pos h2]
    simp only [Option.getD_some, Int.toNat_of_nonneg a0, Int.toNat_of_nonneg b0]
    by_cases h3 : r.a = x
    · rw [if_pos h3, if_pos ⟨a0, h3⟩]; rfl
    · rw [if_neg h3, if_neg (fun h => h3 h.2)]
  · rw [if_neg h2, if_neg h2]
    by_cases h4 : r.lead < -l.err
    · rw [if_pos h4, if_pos h4]
      simp only [Option.getD_some, Int.toNat_of_nonneg a0, Int.toNat_of_nonneg b0]
      by_cases h3 : r.b = x
      · rw [if_pos h3, if_pos ⟨b0, h3⟩]; rfl
      · rw [if_neg h3, if_neg (fun h => h3 h.2)]
    · rw [if_neg h4, if_neg h4, if_neg (by simp)]
def chainB (l : Lb) (a b : Int) (c : List Int) : Bool := match leadV l a c with | none => false | some x => decide (x = b) && (!c.isEmpty && true)
/-- A chain, as far as it has been looked at. -/
structure CI (l : Lb) (a b : Int) (c : List Int) (i : Nat) : Prop where
  le : i ≤ c.length
  ok : leadV l a (c.take i) = some (if i = 0 then a else (rqL l (c.getD (i - 1) 0)).2)
  fin : 0 < i → i = c.length → (rqL l (c.getD (i - 1) 0)).2 = b
theorem CI.start (l : Lb) (a b : Int) (c : List Int) : CI l a b c 0 := ⟨by omega, rfl, by omega⟩
section
variable {l : Lb} {a b : Int} {c : List Int} {i : Nat}
theorem CI.next (hl : l.Ok) (h : CI l a b c i) (hi : i < c.length) (hc : ∀ j ∈ c, 0 ≤ j ∧ j < l.runs.length) : leadV l a (c.take (i + 1)) = if 0 ≤ (rqL l (c.getD i 0)).1 ∧ (rqL l (c.getD i 0)).1 = (if i = 0 then a else (rqL l (c.getD (i - 1) 0)).2) then some (rqL l (c.getD i 0)).2 else none := by
  have hg : c.getD i 0 = c[i] := by rw [List.getD_eq_getElem?_getD, List.getElem?_eq_getElem hi]; rfl
  have hm := hc _ (List.getElem_mem hi)
  rw [← List.take_append_getElem hi, lead_app, h.ok, Option.bind_some, lead_one2 hl hm.1 hm.2, hg]
theorem CI.step (hl : l.Ok) (h : CI l a b c i) (hi : i < c.length) (hc : ∀ j ∈ c, 0 ≤ j ∧ j < l.runs.length) (h0 : 0 ≤ (rqL l (c.getD i 0)).1) (h1 : (rqL l (c.getD i 0)).1 = (if i = 0 then a else (rqL l (c.getD (i - 1) 0)).2)) (h2 : (rqL l (c.getD i 0)).2 = (if i + 1 < c.length then (rqL l (c.getD (i + 1) 0)).1 else b)) : CI l a b c (i + 1) := by
  refine ⟨by omega, ?_, fun _ h3 => ?_⟩
  · rw [h.next hl hi hc, if_pos ⟨h0, h1⟩, if_neg (by omega), Nat.add_sub_cancel]
  · rw [Nat.add_sub_cancel, h2, if_neg (by omega)]
theorem chainB_none {m : Nat} (h : leadV l a (c.take m) = none) : chainB l a b c = false := by
  unfold chainB
  have : leadV l a c = none := by rw [← List.take_append_drop m c, lead_app, h]; rfl
  rw [this]
theorem CI.bad (hl : l.Ok) (h : CI l a b c i) (hi : i < c.length) (hc : ∀ j ∈ c, 0 ≤ j ∧ j < l.runs.length) (h1 : ¬ (0 ≤ (rqL l (c.getD i 0)).1 ∧ (rqL l (c.getD i 0)).1 = (if i = 0 then a else (rqL l (c.getD (i - 1) 0)).2))) : chainB l a b c = false :=
  chainB_none (m := i + 1) (by rw [h.next hl hi hc, if_neg h1])
theorem CI.bad2 (hl : l.Ok) (h : CI l a b c i) (hi : i < c.length) (hc : ∀ j ∈ c, 0 ≤ j ∧ j < l.runs.length) (h0 : 0 ≤ (rqL l (c.getD i 0)).1) (h1 : (rqL l (c.getD i 0)).1 = (if i = 0 then a else (rqL l (c.getD (i - 1) 0)).2)) (h2 : (rqL l (c.getD i 0)).2 ≠ (if i + 1 < c.length then (rqL l (c.getD (i + 1) 0)).1 else b)) : chainB l a b c = false := by
  have h3 := h.next hl hi hc
  rw [if_pos ⟨h0, h1⟩] at h3
  by_cases e : i + 1 < c.length
  · rw [if_pos e] at h2
    refine chainB_none (m := i + 2) ?_
    have hg : c.getD (i + 1) 0 = c[i + 1] := by rw [List.getD_eq_getElem?_getD, List.getElem?_eq_getElem e]; rfl
    have hm := hc _ (List.getElem_mem e)
    rw [show i + 2 = (i + 1) + 1 from rfl, ← List.take_append_getElem e, lead_app, h3, Option.bind_some, lead_one2 hl hm.1 hm.2, if_neg (fun h => h2 (by rw [hg, h.2]))]
  · rw [if_neg e] at h2
    rw [List.take_of_length_le (by omega)] at h3
    unfold chainB
    rw [h3]
    show (decide (_ = b) && _) = false
    rw [decide_eq_false h2]
    rfl
theorem CI.end (h : CI l a b c c.length) : chainB l a b c = decide (0 < c.length) := by
  have h1 := h.ok
  rw [List.take_length] at h1
  unfold chainB
  rw [h1]
  by_cases e : c.length = 0
  · have : c = [] := List.length_eq_zero_iff.1 e
    subst this
    simp
  · rw [if_neg e, h.fin (by omega) rfl]
    cases c with
    | nil => simp at e
    | cons x c => simp
end
end Go.Proofs.YtcmpdmobmbbplaaGreat

/- Walks of the reference: the error of a lab, what a run shows. -/
namespace Go.Proofs.YtcmpdmobmbbplaaGreat
set_option maxRecDepth 4000
open Go Go.Eng

theorem out_ca (n lo hi : Int) (w : World) : Ca Tryz.prog 71 [.int .i64 n, .int .i64 lo, .int .i64 hi] w fun v w' => v = .bool (!(inB n lo hi)) ∧ Chg [] w w' := by
  refine q_of (Sat.nil w M0) Tryz.func71 rfl (by simp [Tryz.ntmps71]) ?_
  by_cases h1 : n < lo
  · (refine q_seq (q_region (ql_pure tabOk rfl rfl (q_nil (q_seq (q_region (ql_pure tabOk rfl rfl (ql_pure tabOk rfl rfl (ql_lssT tabOk rfl rfl rfl (by omega) (ql_pure tabOk rfl rfl ?_))))))))); (iterate 3 refine ql_gno rfl rfl rfl ?_); refine ql_pure tabOk rfl rfl (ql_pure tabOk rfl rfl (q_nil (q_ret ?_))))
    refine q_fin tabOk rfl (by repeat constructor) fun w hs => ?_
    exact ⟨by simp [inB, retV]; omega, hs.chg0⟩
  · by_cases h2 : n > hi
    · (refine q_seq (q_region (ql_pure tabOk rfl rfl (q_nil (q_seq (q_region (ql_pure tabOk rfl rfl (ql_pure tabOk rfl rfl (ql_lssF tabOk rfl rfl rfl (by omega) (ql_pure tabOk rfl rfl (ql_gyes rfl (ql_pure tabOk rfl rfl ?_))))))))))); refine ql_gyes rfl (ql_pure tabOk rfl rfl (ql_gyes rfl (ql_gtrT tabOk rfl rfl rfl (by omega) (ql_pure tabOk rfl rfl (ql_pure tabOk rfl rfl (q_nil (q_ret ?_))))))))
      refine q_fin tabOk rfl (by repeat constructor) fun w hs => ?_
      exact ⟨by simp [inB, retV]; omega, hs.chg0⟩
    · (refine q_seq (q_region (ql_pure tabOk rfl rfl (q_nil (q_seq (q_region (ql_pure tabOk rfl rfl (ql_pure tabOk rfl rfl (ql_lssF tabOk rfl rfl rfl (by omega) (ql_pure tabOk rfl rfl (ql_gyes rfl (ql_pure tabOk rfl rfl ?_))))))))))); refine ql_gyes rfl (ql_pure tabOk rfl rfl (ql_gyes rfl (ql_gtrF tabOk rfl rfl rfl (by omega) (ql_pure tabOk rfl rfl (ql_pure tabOk rfl rfl (q_nil (q_ret ?_))))))))
      refine q_fin tabOk rfl (by repeat constructor) fun w hs => ?_
      exact ⟨by simp [inB, retV]; omega, hs.chg0⟩
theorem rshows_ca (w : World) (lo hi : Nat) (l : Lb) (v : Value) (h : RdR w lo hi v l.runs) (he : 0 ≤ l.err ∧ l.err ≤ 1000) (i : Nat) (hi' : i < l.runs.length) (hr : -10000 ≤ l.runs[i].lead) :
    Ca Tryz.prog 86 [.agg (lbC l v).toArray, .int .i64 i] w fun x w' => x = .tuple #[.int .i64 (shR l.err l.runs[i]).1, .int .i64 (shR l.err l.runs[i]).2] ∧ Chg [] w w' := by
  obtain ⟨a, ca, rfl, hsa⟩ := RdR.outI h
  obtain ⟨b, off, rfl⟩ := hsa (by omega)
  refine q_of (Sat.nil w M0) Tryz.func86 rfl (by simp [Tryz.ntmps86]) ?_
  (refine q_seq (q_region ?_))
  refine ql_box rfl rfl (fun b2 => ?_)
  (refine ql_pure tabOk rfl rfl (ql_pure tabOk rfl rfl (q_nil (q_seq (q_region (ql_pure tabOk rfl rfl ?_))))); refine ql_loadBa tabOk rfl rfl rfl ?_; refine ql_pure tabOk rfl rfl ?_)
  refine ql_index tabOk rfl rfl rfl rfl rfl (by omega) (by omega) ?_
  refine ql_loadA tabOk rfl rfl rfl rfl (fun w hs => RdR.at (RdE.keep h hs.chg0) i hi') ?_
  skip
  refine ql_alloc zero113 rfl (fun b6 => ?_)
  (refine ql_setA tabOk rfl rfl rfl rfl rfl (by repeat constructor) rfl ?_; refine q_nil (q_seq (q_seq (q_region (ql_pure tabOk rfl rfl ?_)))); refine ql_loadBa tabOk rfl rfl rfl ?_; refine ql_pure tabOk rfl rfl ?_; refine ql_loadBa tabOk rfl rfl rfl ?_; refine ql_pure tabOk rfl rfl (q_nil ?_))
  refine q_if rfl (fun hc => ?_) (fun hc => ?_)
  · (refine q_seq ?_)
    refine q_draw _ [] (Sp.refl _) (by kernel_rfl) (by kernel_rfl) ?_
    (refine qf_pure tabOk rfl rfl rfl ?_; refine qf_loadBa tabOk rfl rfl rfl ?_; refine qf_pure tabOk rfl rfl rfl ?_; refine qf_loadBa tabOk rfl rfl rfl ?_; refine qf_pure tabOk rfl rfl rfl (qf_pure tabOk rfl rfl rfl (qf_nil (q_ret ?_))))
    refine q_fin tabOk rfl (by repeat constructor) fun w hs => ?_
    exact ⟨by simp [retV, shR, runI, hc], hs.chg0⟩
  · have h1 := hc
    clear hc
    (refine q_skip (q_seq (q_seq (q_region (ql_pure tabOk rfl rfl ?_)))); refine ql_loadBa tabOk rfl rfl rfl ?_; refine ql_neg tabOk rfl rfl (by omega) (by omega) (ql_pure tabOk rfl rfl ?_); refine ql_loadBa tabOk rfl rfl rfl ?_; refine ql_pure tabOk rfl rfl (q_nil ?_))
    refine q_if rfl (fun hc => ?_) (fun hc => ?_)
    · have h2 : l.runs[i].lead < -l.err := by omega
      (refine q_seq ?_)
      refine q_draw _ [] (Sp.refl _) (by kernel_rfl) (by kernel_rfl) ?_
      (refine qf_pure tabOk rfl rfl rfl ?_; refine qf_loadBa tabOk rfl rfl rfl ?_; refine qf_pure tabOk rfl rfl rfl ?_; refine qf_loadBa tabOk rfl rfl rfl ?_; refine qf_pure tabOk rfl rfl rfl (qf_pure tabOk rfl rfl rfl (qf_nil (q_ret ?_))))
      refine q_fin tabOk rfl (by repeat constructor) fun w hs => ?_
      exact ⟨by simp [retV, shR, runI, h1, h2], hs.chg0⟩
    · have h2 : ¬ l.runs[i].lead < -l.err := by omega
      (refine q_skip (q_seq (q_region (ql_pure tabOk rfl rfl (ql_pure tabOk rfl rfl (q_nil (q_ret ?_)))))))
      refine q_fin tabOk rfl (by repeat constructor) fun w hs => ?_
      exact ⟨by simp [retV, shR, runI, h1, h2], hs.chg0⟩
theorem all_take {α : Type} (p : α → Bool) (l : List α) {i : Nat} (hi : i < l.length) (h : (l.take i).all p = true) (hx : p l[i] = true) : (l.take (i + 1)).all p = true := by
  rw [← List.take_append_getElem hi, List.all_append, h]
  simp [hx]
theorem all_stop {α : Type} (p : α → Bool) (l : List α) {i : Nat} (hi : i < l.length) (hx : p l[i] = false) : l.all p = false := by
  rw [List.all_eq_false]
  exact ⟨l[i], List.getElem_mem hi, by rw [hx]; simp⟩
theorem rcheck_ca (w : World) (lo hi : Nat) (l : Lb) (v : Value) (h : RdR w lo hi v l.runs) (hlen : l.runs.length ≤ maxLen) : Ca Tryz.prog 30 [.agg (lbC l v).toArray] w fun x w' => x = .int .i64 (checkV l) ∧ Chg [] w w' := by
  obtain ⟨a, ca, rfl, hsa⟩ := RdR.outI h
  simp only [maxLen] at hlen
  refine q_of (Sat.nil w M0) Tryz.func30 rfl (by simp [Tryz.ntmps30]) ?_
  (refine q_seq (q_region ?_))
  refine ql_box rfl rfl (fun b1 => ?_)
  rw [agg_cells]
  (refine ql_pure tabOk rfl rfl (q_nil (q_seq (q_seq (q_region (ql_pure tabOk rfl rfl ?_))))); refine ql_loadBa tabOk rfl rfl rfl ?_)
  refine ql_callv (val := .bool (!(inB l.skis 1 8))) tabOk rfl rfl rfl rfl (fun w hs => ?_) ?_; exact out_ca l.skis 1 8 w
  have ec : ∀ x : Bool, (!x) = false → x = true := fun x => by cases x <;> simp
  cases h1 : inB l.skis 1 8 with
  | false =>
    (refine ql_pure tabOk rfl rfl ?_; (iterate 3 refine ql_gno rfl rfl rfl ?_); refine ql_pure tabOk rfl rfl (q_nil (q_cond_true rfl (q_seq (q_region (ql_pure tabOk rfl rfl (q_nil (q_ret ?_))))))))
    refine q_fin tabOk rfl (by repeat constructor) fun w hs => ?_
    exact ⟨by simp [retV, checkV, h1], hs.chg0⟩
  | true =>
    (refine ql_pure tabOk rfl rfl (ql_gyes rfl (ql_pure tabOk rfl rfl (ql_gyes rfl ?_))); refine ql_loadBa tabOk rfl rfl rfl ?_; refine ql_gyes rfl ?_)
    refine ql_callv (val := .bool (!(inB l.err 0 1000))) tabOk rfl rfl rfl rfl (fun w hs => ?_) ?_; exact out_ca l.err 0 1000 w
    cases h2 : inB l.err 0 1000 with
    | false =>
      (refine ql_pure tabOk rfl rfl (q_nil (q_cond_true rfl (q_seq (q_region (ql_pure tabOk rfl rfl (q_nil (q_ret ?_))))))))
      refine q_fin tabOk rfl (by repeat constructor) fun w hs => ?_
      exact ⟨by simp [retV, checkV, h1, h2], hs.chg0⟩
    | true =>
      have hsk := inB_iff.1 h1
      (refine ql_pure tabOk rfl rfl (q_nil (q_cond_false rfl (q_skip (q_seq (q_seq (q_region (ql_pure tabOk rfl rfl ?_))))))); refine ql_loadBa tabOk rfl rfl rfl ?_; refine ql_pure tabOk rfl rfl (ql_pure tabOk rfl rfl (q_nil ?_)))
      refine q_if rfl (fun hc => ?_) (fun hc => ?_)
      · have h3 : 40 < l.runs.length := by omega
        (refine q_seq (q_region (ql_pure tabOk rfl rfl (q_nil (q_ret ?_)))))
        refine q_fin tabOk rfl (by repeat constructor) fun w hs => ?_
        exact ⟨by simp [retV, checkV, h1, h2, h3], hs.chg0⟩
      · have h3 : ¬ 40 < l.runs.length := by omega
        clear hc
        (refine q_skip (q_seq (q_seq (q_region (ql_pure tabOk rfl rfl (q_nil (q_block ?_)))))))
        refine q_loop (σ := Nat) (fun k => k ≤ l.runs.length ∧ (l.runs.take k).all (knP l.skis) = true) (fun k => l.runs.length - k) (fun k => [(1, .pointer (some ⟨b1, 0, none⟩)), (3, .int .i64 k)]) (fun _ => [.pt b1 (lbC l (.slice a l.runs.length ca)) 30]) 0 ⟨by omega, by simp⟩ ⟨rfl, rfl, trivial⟩ (by repeat constructor) ?_
        rintro k ⟨hk, hall⟩ K hK
        (refine q_seq (q_seq (q_region (ql_pure tabOk rfl rfl (ql_pure tabOk rfl rfl ?_)))); refine ql_loadBa tabOk rfl rfl rfl ?_; refine ql_pure tabOk rfl rfl (ql_pure tabOk rfl rfl (q_nil ?_)))
        refine q_if rfl (fun hc => ?_) (fun hc => ?_)
        · have hk2 : k < l.runs.length := by omega
          clear hc
          obtain ⟨b, off, hab⟩ := hsa (by omega)
          cases hab
          (refine q_skip (q_seq (q_block (q_seq (q_region (ql_pure tabOk rfl rfl ?_))))); refine ql_loadBa tabOk rfl rfl rfl ?_; refine ql_pure tabOk rfl rfl ?_)
          refine ql_index tabOk rfl rfl rfl rfl rfl (by omega) (by omega) ?_
          refine ql_loadA tabOk rfl rfl rfl rfl (fun w hs => RdR.at (RdE.keep h hs.chg0) k hk2) ?_
          skip
          refine ql_alloc zero113 rfl (fun b4 => ?_)
          (refine ql_setA tabOk rfl rfl rfl rfl rfl (by repeat constructor) rfl ?_; refine q_nil (q_seq (q_region (ql_pure tabOk rfl rfl ?_))); refine ql_loadBa tabOk rfl rfl rfl ?_; refine ql_pure tabOk rfl rfl ?_; refine ql_loadBa tabOk rfl rfl rfl ?_; refine ql_ar tabOk rfl rfl rfl rfl (by omega) (by omega) ?_)
          refine ql_callv (val := .bool (!(inB l.runs[k].a 0 (l.skis - 1)))) tabOk rfl rfl rfl rfl (fun w hs => ?_) ?_; exact out_ca l.runs[k].a 0 (l.skis - 1) w
          cases ha : inB l.runs[k].a 0 (l.skis - 1) with
          | false =>
            have hkn : knP l.skis l.runs[k] = false := by unfold knP; simp_all
            (refine ql_pure tabOk rfl rfl ?_; (iterate 6 refine ql_gno rfl rfl rfl ?_); refine ql_pure tabOk rfl rfl (ql_pure tabOk rfl rfl ?_); (iterate 5 refine ql_gno rfl rfl rfl ?_); refine ql_pure tabOk rfl rfl (q_nil (q_cond_true rfl (q_seq (q_region (ql_pure tabOk rfl rfl (q_nil (q_ret ?_))))))))
            refine q_fin tabOk rfl (by repeat constructor) fun w hs => ?_
            have hbad : knownB l = false := all_stop _ _ hk2 hkn
            exact ⟨by simp [retV, checkV, h1, h2, h3, hbad], hs.chg0⟩
          | true =>
            (refine ql_pure tabOk rfl rfl (ql_gyes rfl (ql_pure tabOk rfl rfl (ql_gyes rfl ?_))); refine ql_loadBa tabOk rfl rfl rfl ?_; refine ql_gyes rfl (ql_pure tabOk rfl rfl (ql_gyes rfl ?_)); refine ql_loadBa tabOk rfl rfl rfl ?_; refine ql_gyes rfl (ql_ar tabOk rfl rfl rfl rfl (by omega) (by omega) (ql_gyes rfl ?_)))
            refine ql_callv (val := .bool (!(inB l.runs[k].b 0 (l.skis - 1)))) tabOk rfl rfl rfl rfl (fun w hs => ?_) ?_; exact out_ca l.runs[k].b 0 (l.skis - 1) w
            cases hb : inB l.runs[k].b 0 (l.skis - 1) with
            | false =>
              have hkn : knP l.skis l.runs[k] = false := by unfold knP; simp_all
              (refine ql_pure tabOk rfl rfl (ql_pure tabOk rfl rfl ?_); (iterate 5 refine ql_gno rfl rfl rfl ?_); refine ql_pure tabOk rfl rfl (q_nil (q_cond_true rfl (q_seq (q_region (ql_pure tabOk rfl rfl (q_nil (q_ret ?_))))))))
              refine q_fin tabOk rfl (by repeat constructor) fun w hs => ?_
              have hbad : knownB l = false := all_stop _ _ hk2 hkn
              exact ⟨by simp [retV, checkV, h1, h2, h3, hbad], hs.chg0⟩
            | true =>
              by_cases hab : l.runs[k].a = l.runs[k].b
              · skip
                have hkn : knP l.skis l.runs[k] = false := by unfold knP; simp_all
                (refine ql_pure tabOk rfl rfl (ql_pure tabOk rfl rfl (ql_gyes rfl (ql_pure tabOk rfl rfl (ql_gyes rfl ?_)))); refine ql_loadBa tabOk rfl rfl rfl ?_; refine ql_gyes rfl (ql_pure tabOk rfl rfl (ql_gyes rfl ?_)); refine ql_loadBa tabOk rfl rfl rfl ?_; refine ql_gyes rfl (ql_eqlT tabOk rfl rfl rfl (by omega) (ql_pure tabOk rfl rfl (q_nil (q_cond_true rfl (q_seq (q_region (ql_pure tabOk rfl rfl (q_nil (q_ret ?_))))))))))
                refine q_fin tabOk rfl (by repeat constructor) fun w hs => ?_
                have hbad : knownB l = false := all_stop _ _ hk2 hkn
                exact ⟨by simp [retV, checkV, h1, h2, h3, hbad], hs.chg0⟩
              · have hkn : knP l.skis l.runs[k] = true := by unfold knP; simp [ha, hb, hab]
                (refine ql_pure tabOk rfl rfl (ql_pure tabOk rfl rfl (ql_gyes rfl (ql_pure tabOk rfl rfl (ql_gyes rfl ?_)))); refine ql_loadBa tabOk rfl rfl rfl ?_; refine ql_gyes rfl (ql_pure tabOk rfl rfl (ql_gyes rfl ?_)); refine ql_loadBa tabOk rfl rfl rfl ?_; refine ql_gyes rfl (ql_eqlF tabOk rfl rfl rfl (by omega) (ql_pure tabOk rfl rfl (q_nil (q_cond_false rfl (q_skip (q_blk (q_region (ql_pure tabOk rfl rfl (ql_ar tabOk rfl rfl rfl rfl (by omega) (by omega) (ql_pure tabOk rfl rfl (q_nil ?_))))))))))))
                exact hK (k + 1) _ _ ⟨by omega, all_take _ _ hk2 hall hkn⟩ (by omega) ⟨rfl, rfl, trivial⟩ (by repeat constructor)
        · obtain rfl : k = l.runs.length := by omega
          clear hc hK hk
          rw [List.take_length] at hall
          have hkb : knownB l = true := hall
          (refine q_exit _ rfl (q_seq (q_seq (q_region (ql_pure tabOk rfl rfl (q_nil (q_block ?_)))))))
          refine q_loop (σ := Nat) (fun k => k ≤ l.runs.length ∧ (l.runs.take k).all (fun r => inB r.lead (-10000) 10000) = true) (fun k => l.runs.length - k) (fun k => [(1, .pointer (some ⟨b1, 0, none⟩)), (5, .int .i64 k)]) (fun _ => [.pt b1 (lbC l (.slice a l.runs.length ca)) 30]) 0 ⟨by omega, by simp⟩ ⟨rfl, rfl, trivial⟩ (by repeat constructor) ?_
          rintro k ⟨hk, hall2⟩ K hK
          (refine q_seq (q_seq (q_region (ql_pure tabOk rfl rfl (ql_pure tabOk rfl rfl ?_)))); refine ql_loadBa tabOk rfl rfl rfl ?_; refine ql_pure tabOk rfl rfl (ql_pure tabOk rfl rfl (q_nil ?_)))
          refine q_if rfl (fun hc => ?_) (fun hc => ?_)
          · have hk2 : k < l.runs.length := by omega
            clear hc
            obtain ⟨b, off, hab⟩ := hsa (by omega)
            cases hab
            (refine q_skip (q_seq (q_block (q_seq (q_region (ql_pure tabOk rfl rfl ?_))))); refine ql_loadBa tabOk rfl rfl rfl ?_; refine ql_pure tabOk rfl rfl ?_)
            refine ql_index tabOk rfl rfl rfl rfl rfl (by omega) (by omega) ?_
            (refine ql_pure tabOk rfl rfl ?_)
            refine ql_load1 (v := .int .i64 l.runs[k].lead) tabOk rfl rfl rfl (fun w hs => RdR.at (RdE.keep h hs.chg0) k hk2 2 (by omega)) ?_
            refine ql_callv (val := .bool (!(inB l.runs[k].lead (-10000) 10000))) tabOk rfl rfl rfl rfl (fun w hs => ?_) ?_; exact out_ca l.runs[k].lead (-10000) 10000 w
            cases hx : inB l.runs[k].lead (-10000) 10000 with
            | false =>
              (refine q_nil (q_cond_true rfl (q_seq (q_region (ql_pure tabOk rfl rfl (q_nil (q_ret ?_)))))))
              refine q_fin tabOk rfl (by repeat constructor) fun w hs => ?_
              have hbad : leadB l = false := all_stop (fun r : Rn => inB r.lead (-10000) 10000) _ hk2 hx
              exact ⟨by simp [retV, checkV, h1, h2, h3, hkb, hbad], hs.chg0⟩
            | true =>
              (refine q_nil (q_cond_false rfl (q_skip (q_blk (q_region (ql_pure tabOk rfl rfl (ql_ar tabOk rfl rfl rfl rfl (by omega) (by omega) (ql_pure tabOk rfl rfl (q_nil ?_)))))))))
              exact hK (k + 1) _ _ ⟨by omega, all_take _ _ hk2 hall2 hx⟩ (by omega) ⟨rfl, rfl, trivial⟩ (by repeat constructor)
          · obtain rfl : k = l.runs.length := by omega
            rw [List.take_length] at hall2
            have hlb : leadB l = true := hall2
            (refine q_exit _ rfl (q_seq (q_region (ql_pure tabOk rfl rfl (q_nil (q_ret ?_))))))
            refine q_fin tabOk rfl (by repeat constructor) fun w hs => ?_
            exact ⟨by simp [retV, checkV, h1, h2, h3, hkb, hlb], hs.chg0⟩
end Go.Proofs.YtcmpdmobmbbplaaGreat

/- Walks of the reference: two skis; which skis are faster. -/
namespace Go.Proofs.YtcmpdmobmbbplaaGreat
set_option maxRecDepth 4000
open Go Go.Eng

theorem rtwo_ca (w : World) (lo hi : Nat) (l : Lb) (v : Value) (a b : Int) (h : RdR w lo hi v l.runs) (hlen : l.runs.length ≤ maxLen) : Ca Tryz.prog 85 [.agg (lbC l v).toArray, .int .i64 a, .int .i64 b] w fun x w' => x = .int .i64 (twoV l a b) ∧ Chg [] w w' := by
  refine q_of (Sat.nil w M0) Tryz.func85 rfl (by simp [Tryz.ntmps85]) ?_
  (refine q_seq (q_region ?_))
  refine ql_box rfl rfl (fun b3 => ?_)
  (refine ql_pure tabOk rfl rfl (q_nil (q_seq (q_seq (q_region ?_)))); refine ql_loadABa tabOk rfl rfl rfl ?_)
  refine ql_callv (val := .int .i64 (checkV l)) tabOk rfl rfl rfl rfl (fun w hs => ?_) ?_; exact rcheck_ca w lo hi l v (RdE.keep h hs.chg0) hlen
  by_cases h0 : checkV l = 0
  · have hl := check_iff.1 h0
    have s0 := hl.s0
    have s1 := hl.s1
    rw [h0]
    (refine ql_pure tabOk rfl rfl (q_nil (q_seq (q_region (ql_pure tabOk rfl rfl (ql_neqF tabOk rfl rfl rfl (by omega) (q_nil (q_cond_false rfl (q_skip (q_seq (q_seq (q_region ?_))))))))))); refine ql_pure tabOk rfl rfl (ql_pure tabOk rfl rfl ?_); refine ql_loadBa tabOk rfl rfl rfl ?_; refine ql_ar tabOk rfl rfl rfl rfl (by omega) (by omega) ?_)
    refine ql_callv (val := .bool (!(inB a 0 (l.skis - 1)))) tabOk rfl rfl rfl rfl (fun w hs => ?_) ?_; exact out_ca a 0 (l.skis - 1) w
    cases ha : inB a 0 (l.skis - 1) with
    | false =>
      (refine ql_pure tabOk rfl rfl ?_; (iterate 5 refine ql_gno rfl rfl rfl ?_); refine ql_pure tabOk rfl rfl (q_nil (q_cond_true rfl (q_seq (q_region (ql_pure tabOk rfl rfl (q_nil (q_ret ?_))))))))
      refine q_fin tabOk rfl (by repeat constructor) fun w hs => ?_
      exact ⟨by simp [retV, twoV, h0, ha], hs.chg0⟩
    | true =>
      (refine ql_pure tabOk rfl rfl (ql_gyes rfl (ql_pure tabOk rfl rfl (ql_gyes rfl (ql_pure tabOk rfl rfl (ql_gyes rfl ?_))))); refine ql_loadBa tabOk rfl rfl rfl ?_; refine ql_gyes rfl (ql_ar tabOk rfl rfl rfl rfl (by omega) (by omega) (ql_gyes rfl ?_)))
      refine ql_callv (val := .bool (!(inB b 0 (l.skis - 1)))) tabOk rfl rfl rfl rfl (fun w hs => ?_) ?_; exact out_ca b 0 (l.skis - 1) w
      cases hb : inB b 0 (l.skis - 1) with
      | false =>
        (refine ql_pure tabOk rfl rfl (q_nil (q_cond_true rfl (q_seq (q_region (ql_pure tabOk rfl rfl (q_nil (q_ret ?_))))))))
        refine q_fin tabOk rfl (by repeat constructor) fun w hs => ?_
        exact ⟨by simp [retV, twoV, h0, ha, hb], hs.chg0⟩
      | true =>
        (refine ql_pure tabOk rfl rfl (q_nil (q_cond_false rfl (q_skip (q_seq (q_region (ql_pure tabOk rfl rfl (q_nil (q_ret ?_)))))))))
        refine q_fin tabOk rfl (by repeat constructor) fun w hs => ?_
        exact ⟨by simp [retV, twoV, h0, ha, hb], hs.chg0⟩
  · (refine ql_pure tabOk rfl rfl (q_nil (q_seq (q_region (ql_pure tabOk rfl rfl (ql_neqT tabOk rfl rfl rfl (by omega) (q_nil (q_cond_true rfl (q_seq (q_region (ql_pure tabOk rfl rfl (ql_pure tabOk rfl rfl ?_))))))))))); refine q_nil (q_ret ?_))
    refine q_fin tabOk rfl (by repeat constructor) fun w hs => ?_
    exact ⟨by simp [retV, twoV, h0], hs.chg0⟩
theorem runI_sh {l : Lb} (hl : l.Ok) {i : Nat} (hi : i < l.runs.length) {p q : Int} (h : runI l.err l.runs[i] = some (p, q)) : ∃ f s : Nat, p = f ∧ q = s ∧ Sh l i f s := by
  have hr := hl.run _ (List.getElem_mem hi)
  have a0 := hr.a0
  have b0 := hr.b0
  have hpq : 0 ≤ p ∧ 0 ≤ q := by
    unfold runI at h
    split at h
    · cases h; exact ⟨a0, b0⟩
    · split at h
      · cases h; exact ⟨b0, a0⟩
      · cases h
  refine ⟨p.toNat, q.toNat, by omega, by omega, hi, ?_⟩
  rw [List.getD_eq_getElem?_getD, List.getElem?_eq_getElem hi, Option.getD_some, runI_nat, h]
  rfl
theorem runI_no {l : Lb} {i : Nat} (hi : i < l.runs.length) (h : runI l.err l.runs[i] = none) {f s : Nat} : ¬ Sh l i f s := by
  rintro ⟨_, h2⟩
  rw [List.getD_eq_getElem?_getD, List.getElem?_eq_getElem hi, Option.getD_some, runI_nat, h] at h2
  cases h2
theorem slBo : SlT Tryz.prog 201 4 1 1 (.bool false) := ⟨by kernel_rfl, by kernel_rfl, rfl, by omega⟩
set_option maxHeartbeats 2000000 in
theorem rfast_ca (w : World) (lo hi : Nat) (l : Lb) (v : Value) (h : RdR w lo hi v l.runs) (hl : l.Ok) (a b : Nat) (ha : a < l.n) (hb : b < l.n) : Ca Tryz.prog 83 [.agg (lbC l v).toArray, .int .i64 a, .int .i64 b] w fun x w' => x = .bool (fa l.ord a b) ∧ Chg [] w w' := by
  have h8 := hl.n8
  have s0 := hl.s0
  have hlen := hl.len
  obtain ⟨n, hn⟩ := Int.eq_ofNat_of_zero_le (show 0 ≤ l.skis by omega)
  have hn' : l.n = n := by unfold Lb.n; omega
  rw [hn'] at h8 ha hb
  obtain ⟨va, vc, rfl, hsa⟩ := RdR.outI h
  refine q_of (Sat.nil w M0) Tryz.func83 rfl (by simp [Tryz.ntmps83]) ?_
  (refine q_seq (q_region ?_))
  refine ql_box rfl rfl (fun b3 => ?_)
  rw [agg_cells]
  (refine ql_pure tabOk rfl rfl (q_nil (q_seq (q_region (ql_pure tabOk rfl rfl ?_)))); refine ql_loadBa tabOk rfl rfl rfl ?_)
  rw [hn]
  refine ql_makeZ slBo rfl rfl rfl rfl (by omega) (by omega) (fun b14 => ?_)
  (refine ql_pure tabOk rfl rfl (q_nil (q_seq (q_seq (q_region (ql_pure tabOk rfl rfl (q_nil (q_block ?_))))))))
  refine q_conv (H' := [.pt b14 (bools (List.replicate n false)) 4, .pt b3 (lbC l (.slice va l.runs.length vc)) 30]) (fun w' hs => by rw [show bools (List.replicate n false) = List.replicate n (.bool false) from List.map_replicate]; exact hs.sp (by repeat constructor)) ?_
  refine q_loop (σ := Bool × List Bool) (fun s => FI l a s.2 ∧ (s.1 = false → ∀ i f t, Sh l i f t → (f = a ∨ s.2.getD f false = true) → s.2.getD t false = true)) (fun s => falses s.2 + (if s.1 then 1 else 0)) (fun s => [(1, .int .i64 a), (2, .int .i64 b), (3, .pointer (some ⟨b3, 0, none⟩)), (7, .slice (some ⟨b14, 0, none⟩) n n), (8, .bool s.1)])
    (fun s => [.pt b14 (bools s.2) 4, .pt b3 (lbC l (.slice va l.runs.length vc)) 30]) (true, List.replicate n false) ⟨by rw [← hn']; exact FI.start, by simp⟩ ⟨rfl, rfl, rfl, rfl, rfl, trivial⟩ (Sp.refl _) ?_
  rintro ⟨gr, sl⟩ ⟨hF, hcl⟩ K hK
  dsimp only at hF hcl hK ⊢
  cases gr with
  | false =>
    have hbl : b < sl.length := by rw [hF.len, hn']; exact hb
    (refine q_seq (q_seq (q_region (ql_pure tabOk rfl rfl (q_nil (q_cond_false rfl (q_exit _ rfl (q_seq (q_region (ql_pure tabOk rfl rfl (ql_pure tabOk rfl rfl ?_)))))))))))
    refine ql_index tabOk rfl rfl rfl rfl rfl (by omega) (by omega) ?_
    refine ql_load1 (v := .bool (sl.getD b false)) tabOk rfl rfl rfl (fun w hs => bcell (hs.blk (b := b14) (by repeat constructor)) b hbl) ?_
    (refine ql_pure tabOk rfl rfl (q_nil (q_ret ?_)))
    refine q_fin tabOk rfl (by repeat constructor) fun w hs => ?_
    exact ⟨by rw [hF.done hl (by omega) (hcl rfl) (by rw [hn']; exact hb)]; rfl, hs.chg0⟩
  | true =>
    clear hcl
    (refine q_seq (q_seq (q_region (ql_pure tabOk rfl rfl (q_nil (q_cond_true rfl (q_skip (q_block (q_seq (q_region (ql_pure tabOk rfl rfl (q_nil ?_))))))))))); refine q_seq (q_region (ql_pure tabOk rfl rfl (q_nil (q_block ?_)))))
    refine q_loop (σ := Nat × Bool × List Bool) (fun s => s.1 ≤ l.runs.length ∧ FI l a s.2.2 ∧ (s.2.1 = false → s.2.2 = sl ∧ ∀ j f t, j < s.1 → Sh l j f t → (f = a ∨ s.2.2.getD f false = true) → s.2.2.getD t false = true) ∧ falses s.2.2 + (if s.2.1 then 1 else 0) ≤ falses sl) (fun s => l.runs.length - s.1) (fun s => [(1, .int .i64 a), (2, .int .i64 b), (3, .pointer (some ⟨b3, 0, none⟩)), (7, .slice (some ⟨b14, 0, none⟩) n n), (8, .bool s.2.1), (9, .int .i64 s.1)])
      (fun s => [.pt b14 (bools s.2.2) 4, .pt b3 (lbC l (.slice va l.runs.length vc)) 30]) (0, false, sl) ⟨by simp, hF, fun _ => ⟨rfl, fun j f t hj => by simp at hj⟩, by simp⟩ ⟨rfl, rfl, rfl, rfl, rfl, rfl, trivial⟩ (Sp.refl _) ?_
    rintro ⟨i, gr, sl'⟩ ⟨hir, hF', hcl, hfl⟩ K2 hK2
    dsimp only at hir hF' hcl hfl hK2 ⊢
    (refine q_seq (q_seq (q_region (ql_pure tabOk rfl rfl (ql_pure tabOk rfl rfl ?_)))); refine ql_loadBa tabOk rfl rfl rfl ?_; refine ql_pure tabOk rfl rfl (ql_pure tabOk rfl rfl (q_nil ?_)))
    refine q_if rfl (fun hc => ?_) (fun hc => ?_)
    · have hi2 : i < l.runs.length := by omega
      clear hc
      have hrl := (hl.run _ (List.getElem_mem hi2)).l0
      (refine q_skip (q_seq (q_block (q_seq (q_region ?_)))); refine ql_loadABa tabOk rfl rfl rfl ?_; refine ql_pure tabOk rfl rfl ?_)
      cases hr : runI l.err l.runs[i] with
      | none =>
        refine ql_callv (val := .tuple #[.int .i64 (-1), .int .i64 (-1)]) tabOk rfl rfl rfl rfl (fun w hs => ?_) ?_; exact by have := rshows_ca w lo hi l _ (RdE.keep h hs.chg0) ⟨hl.e0, hl.e1⟩ i hi2 hrl; rw [show shR l.err l.runs[i] = (-1, -1) from by unfold shR; rw [hr]; rfl] at this; exact this
        (refine ql_pure tabOk rfl rfl (ql_ext tabOk rfl rfl rfl (ql_ext tabOk rfl rfl rfl (ql_pure tabOk rfl rfl (ql_pure tabOk rfl rfl (q_nil (q_seq (q_region (ql_pure tabOk rfl rfl (ql_geqF tabOk rfl rfl rfl (by omega) (ql_pure tabOk rfl rfl ?_)))))))))); (iterate 4 refine ql_gno rfl rfl rfl ?_); (iterate 4 refine ql_gnone rfl rfl ?_); refine ql_gno rfl rfl rfl (ql_pure tabOk rfl rfl (ql_pure tabOk rfl rfl ?_)); (iterate 5 refine ql_gno rfl rfl rfl ?_); refine ql_pure tabOk rfl rfl (q_nil (q_cond_false rfl (q_skip (q_blk (q_region (ql_pure tabOk rfl rfl (ql_ar tabOk rfl rfl rfl rfl (by omega) (by omega) (ql_pure tabOk rfl rfl (q_nil ?_))))))))))
        exact hK2 (i + 1, gr, sl') _ _ ⟨by omega, hF', fun hg => ⟨(hcl hg).1, fun j f t hj hsh => by
          by_cases e : j = i
          · rw [e] at hsh; exact absurd hsh (runI_no hi2 hr)
          · exact (hcl hg).2 j f t (by omega) hsh⟩, hfl⟩ (by dsimp only; omega) ⟨rfl, rfl, rfl, rfl, rfl, rfl, trivial⟩ (Sp.refl _)
      | some pq =>
        obtain ⟨p, q⟩ := pq
        obtain ⟨f, t, rfl, rfl, hsh⟩ := runI_sh hl hi2 hr
        have hin := sh_in hl hsh
        rw [hn'] at hin
        have hfl2 : f < sl'.length := by rw [hF'.len, hn']; exact hin.1
        have htl2 : t < sl'.length := by rw [hF'.len, hn']; exact hin.2
        have hso : ∀ f' t', Sh l i f' t' → f' = f ∧ t' = t := fun f' t' h' => by
          have := h'.2.symm.trans hsh.2
          cases this
          exact ⟨rfl, rfl⟩
        refine ql_callv (val := .tuple #[.int .i64 f, .int .i64 t]) tabOk rfl rfl rfl rfl (fun w hs => ?_) ?_; exact by have := rshows_ca w lo hi l _ (RdE.keep h hs.chg0) ⟨hl.e0, hl.e1⟩ i hi2 hrl; rw [show shR l.err l.runs[i] = ((f : Int), (t : Int)) from by unfold shR; rw [hr]; rfl] at this; exact this
        by_cases hfa : f = a
        · have hfa' : f = a ∨ sl'.getD f false = true := .inl hfa
          (refine ql_pure tabOk rfl rfl (ql_ext tabOk rfl rfl rfl (ql_ext tabOk rfl rfl rfl (ql_pure tabOk rfl rfl (ql_pure tabOk rfl rfl (q_nil (q_seq (q_region (ql_pure tabOk rfl rfl (ql_geqT tabOk rfl rfl rfl (by omega) (ql_pure tabOk rfl rfl (ql_gyes rfl ?_))))))))))); refine ql_pure tabOk rfl rfl (ql_gyes rfl (ql_pure tabOk rfl rfl (ql_gyes rfl (ql_eqlT tabOk rfl rfl rfl (by omega) (ql_gyes rfl (ql_pure tabOk rfl rfl ?_)))))); (iterate 4 refine ql_gno rfl rfl rfl ?_); refine ql_gyes rfl ?_; (iterate 3 refine ql_pure tabOk rfl rfl ?_); refine ql_gyes rfl (ql_pure tabOk rfl rfl (ql_gyes rfl (ql_pure tabOk rfl rfl (ql_gyes rfl ?_)))))
          refine ql_index tabOk rfl rfl rfl rfl rfl (by omega) (by omega) ?_
          (refine ql_gyes rfl ?_)
          refine ql_load1 (v := .bool (sl'.getD t false)) tabOk rfl rfl rfl (fun w hs => bcell (hs.blk (b := b14) (by repeat constructor)) t htl2) ?_
          cases ht : sl'.getD t false with
          | true =>
            have hskip : (f = a ∨ sl'.getD f false = true) → sl'.getD t false = true := fun _ => ht
            (refine ql_gyes rfl (ql_pure tabOk rfl rfl (ql_pure tabOk rfl rfl (q_nil (q_cond_false rfl (q_skip (q_blk (q_region (ql_pure tabOk rfl rfl (ql_ar tabOk rfl rfl rfl rfl (by omega) (by omega) (ql_pure tabOk rfl rfl (q_nil ?_))))))))))))
            exact hK2 (i + 1, gr, sl') _ _ ⟨by omega, hF', fun hg => ⟨(hcl hg).1, fun j f' t' hj hs' hf' => by
              by_cases e : j = i
              · rw [e] at hs'
                obtain ⟨rfl, rfl⟩ := hso f' t' hs'
                exact hskip hf'
              · exact (hcl hg).2 j f' t' (by omega) hs' hf'⟩, hfl⟩ (by dsimp only; omega) ⟨rfl, rfl, rfl, rfl, rfl, rfl, trivial⟩ (Sp.refl _)
          | false =>
            (refine ql_gyes rfl (ql_pure tabOk rfl rfl (ql_pure tabOk rfl rfl (q_nil (q_cond_true rfl (q_seq (q_region (ql_pure tabOk rfl rfl (ql_pure tabOk rfl rfl ?_)))))))))
            refine ql_index tabOk rfl rfl rfl rfl rfl (by omega) (by omega) ?_
            refine ql_storeBo tabOk t rfl rfl rfl (by repeat constructor) (by simp) htl2 ?_
            (refine q_nil (q_region (ql_pure tabOk rfl rfl (q_nil (q_blk (q_region (ql_pure tabOk rfl rfl (ql_ar tabOk rfl rfl rfl rfl (by omega) (by omega) (ql_pure tabOk rfl rfl (q_nil ?_))))))))))
            have hfs := falses_set sl' t htl2 ht
            have hfl3 : falses (sl'.set t true) + 1 ≤ falses sl := by split at hfl <;> omega
            exact hK2 (i + 1, true, sl'.set t true) _ _ ⟨by dsimp only; omega, hF'.add hl hsh hfa', fun hg => (by cases hg), hfl3⟩ (by dsimp only; omega) ⟨rfl, rfl, rfl, rfl, rfl, rfl, trivial⟩ (Sp.refl _)
        · (refine ql_pure tabOk rfl rfl (ql_ext tabOk rfl rfl rfl (ql_ext tabOk rfl rfl rfl (ql_pure tabOk rfl rfl (ql_pure tabOk rfl rfl (q_nil (q_seq (q_region (ql_pure tabOk rfl rfl (ql_geqT tabOk rfl rfl rfl (by omega) (ql_pure tabOk rfl rfl (ql_gyes rfl ?_))))))))))); refine ql_pure tabOk rfl rfl (ql_gyes rfl (ql_pure tabOk rfl rfl (ql_gyes rfl (ql_eqlF tabOk rfl rfl rfl (by omega) (ql_gyes rfl (ql_pure tabOk rfl rfl (ql_gyes rfl (ql_pure tabOk rfl rfl (ql_gyes rfl (ql_pure tabOk rfl rfl (ql_gyes rfl ?_))))))))))))
          refine ql_index tabOk rfl rfl rfl rfl rfl (by omega) (by omega) ?_
          (refine ql_gyes rfl ?_)
          refine ql_load1 (v := .bool (sl'.getD f false)) tabOk rfl rfl rfl (fun w hs => bcell (hs.blk (b := b14) (by repeat constructor)) f hfl2) ?_
          cases hsf : sl'.getD f false with
          | true =>
            have hfa' : f = a ∨ sl'.getD f false = true := .inr hsf
            (refine ql_gyes rfl ?_; (iterate 3 refine ql_pure tabOk rfl rfl ?_); refine ql_gyes rfl (ql_pure tabOk rfl rfl (ql_gyes rfl (ql_pure tabOk rfl rfl (ql_gyes rfl ?_)))))
            refine ql_index tabOk rfl rfl rfl rfl rfl (by omega) (by omega) ?_
            (refine ql_gyes rfl ?_)
            refine ql_load1 (v := .bool (sl'.getD t false)) tabOk rfl rfl rfl (fun w hs => bcell (hs.blk (b := b14) (by repeat constructor)) t htl2) ?_
            cases ht : sl'.getD t false with
            | true =>
              have hskip : (f = a ∨ sl'.getD f false = true) → sl'.getD t false = true := fun _ => ht
              (refine ql_gyes rfl (ql_pure tabOk rfl rfl (ql_pure tabOk rfl rfl (q_nil (q_cond_false rfl (q_skip (q_blk (q_region (ql_pure tabOk rfl rfl (ql_ar tabOk rfl rfl rfl rfl (by omega) (by omega) (ql_pure tabOk rfl rfl (q_nil ?_))))))))))))
              exact hK2 (i + 1, gr, sl') _ _ ⟨by omega, hF', fun hg => ⟨(hcl hg).1, fun j f' t' hj hs' hf' => by
                by_cases e : j = i
                · rw [e] at hs'
                  obtain ⟨rfl, rfl⟩ := hso f' t' hs'
                  exact hskip hf'
                · exact (hcl hg).2 j f' t' (by omega) hs' hf'⟩, hfl⟩ (by dsimp only; omega) ⟨rfl, rfl, rfl, rfl, rfl, rfl, trivial⟩ (Sp.refl _)
            | false =>
              (refine ql_gyes rfl (ql_pure tabOk rfl rfl (ql_pure tabOk rfl rfl (q_nil (q_cond_true rfl (q_seq (q_region (ql_pure tabOk rfl rfl (ql_pure tabOk rfl rfl ?_)))))))))
              refine ql_index tabOk rfl rfl rfl rfl rfl (by omega) (by omega) ?_
              refine ql_storeBo tabOk t rfl rfl rfl (by repeat constructor) (by simp) htl2 ?_
              (refine q_nil (q_region (ql_pure tabOk rfl rfl (q_nil (q_blk (q_region (ql_pure tabOk rfl rfl (ql_ar tabOk rfl rfl rfl rfl (by omega) (by omega) (ql_pure tabOk rfl rfl (q_nil ?_))))))))))
              have hfs := falses_set sl' t htl2 ht
              have hfl3 : falses (sl'.set t true) + 1 ≤ falses sl := by split at hfl <;> omega
              exact hK2 (i + 1, true, sl'.set t true) _ _ ⟨by dsimp only; omega, hF'.add hl hsh hfa', fun hg => (by cases hg), hfl3⟩ (by dsimp only; omega) ⟨rfl, rfl, rfl, rfl, rfl, rfl, trivial⟩ (Sp.refl _)
          | false =>
            have hskip : (f = a ∨ sl'.getD f false = true) → sl'.getD t false = true := fun h' => by
              rcases h' with h' | h'
              · exact absurd h' hfa
              · rw [hsf] at h'; cases h'
            (refine ql_gyes rfl ?_; (iterate 3 refine ql_pure tabOk rfl rfl ?_); (iterate 5 refine ql_gno rfl rfl rfl ?_); refine ql_pure tabOk rfl rfl (q_nil (q_cond_false rfl (q_skip (q_blk (q_region (ql_pure tabOk rfl rfl (ql_ar tabOk rfl rfl rfl rfl (by omega) (by omega) (ql_pure tabOk rfl rfl (q_nil ?_))))))))))
            exact hK2 (i + 1, gr, sl') _ _ ⟨by omega, hF', fun hg => ⟨(hcl hg).1, fun j f' t' hj hs' hf' => by
              by_cases e : j = i
              · rw [e] at hs'
                obtain ⟨rfl, rfl⟩ := hso f' t' hs'
                exact hskip hf'
              · exact (hcl hg).2 j f' t' (by omega) hs' hf'⟩, hfl⟩ (by dsimp only; omega) ⟨rfl, rfl, rfl, rfl, rfl, rfl, trivial⟩ (Sp.refl _)
    · have hie : i = l.runs.length := by omega
      clear hc hK2
      (refine q_exit _ rfl (q_blk ?_))
      exact hK (gr, sl') _ _ ⟨hF', fun hg j f t hsh hf => (hcl hg).2 j f t (by have := hsh.1; omega) hsh hf⟩ (by dsimp only; simp only [if_true]; omega) ⟨rfl, rfl, rfl, rfl, rfl, trivial⟩ (Sp.refl _)
end Go.Proofs.YtcmpdmobmbbplaaGreat

/- Walks of the reference: whether runs contradict each other; the length of the shortest chain. -/
namespace Go.Proofs.YtcmpdmobmbbplaaGreat
set_option maxRecDepth 4000
open Go Go.Eng

theorem ragreed_ca (w : World) (lo hi : Nat) (l : Lb) (v : Value) (h : RdR w lo hi v l.runs) (hlen : l.runs.length ≤ maxLen) : Ca Tryz.prog 31 [.agg (lbC l v).toArray] w fun x w' => x = .int .i64 (agreedV l) ∧ Chg [] w w' := by
  refine q_of (Sat.nil w M0) Tryz.func31 rfl (by simp [Tryz.ntmps31]) ?_
  (refine q_seq (q_region ?_))
  refine ql_box rfl rfl (fun b1 => ?_)
  rw [agg_cells]
  (refine ql_pure tabOk rfl rfl (q_nil (q_seq (q_seq (q_region ?_)))); refine ql_loadABa tabOk rfl rfl rfl ?_)
  refine ql_callv (val := .int .i64 (checkV l)) tabOk rfl rfl rfl rfl (fun w hs => ?_) ?_; exact rcheck_ca w lo hi l v (RdE.keep h hs.chg0) hlen
  by_cases h0 : checkV l = 0
  · have hl := check_iff.1 h0
    have h8 := hl.n8
    have s0 := hl.s0
    obtain ⟨n, hn⟩ := Int.eq_ofNat_of_zero_le (show 0 ≤ l.skis by omega)
    have hn' : l.n = n := by unfold Lb.n; omega
    rw [hn'] at h8
    rw [h0]
    (refine ql_pure tabOk rfl rfl (q_nil (q_seq (q_region (ql_pure tabOk rfl rfl (ql_neqF tabOk rfl rfl rfl (by omega) (q_nil (q_cond_false rfl (q_skip (q_seq (q_seq (q_region ?_))))))))))); refine ql_pure tabOk rfl rfl (q_nil (q_block ?_)))
    refine q_loop (σ := Nat) (fun s => s ≤ n ∧ ∀ t, t < s → fa l.ord t t = false) (fun s => n - s) (fun s => [(1, .pointer (some ⟨b1, 0, none⟩)), (4, .int .i64 s)]) (fun _ => [.pt b1 (lbC l v) 30]) 0 ⟨by omega, fun t ht => by omega⟩ ⟨rfl, rfl, trivial⟩ (by repeat constructor) ?_
    rintro s ⟨hs1, hb1⟩ K hK
    (refine q_seq (q_seq (q_region (ql_pure tabOk rfl rfl (ql_pure tabOk rfl rfl ?_)))); refine ql_loadBa tabOk rfl rfl rfl ?_; refine ql_pure tabOk rfl rfl (q_nil ?_))
    rw [hn]
    refine q_if rfl (fun hc => ?_) (fun hc => ?_)
    · have hs2 : s < n := by omega
      clear hc
      (refine q_skip (q_seq (q_block (q_seq (q_region ?_)))); refine ql_loadABa tabOk rfl rfl rfl ?_; refine ql_pure tabOk rfl rfl (ql_pure tabOk rfl rfl ?_))
      refine ql_callv (val := .bool (fa l.ord s s)) tabOk rfl rfl rfl rfl (fun w hs => ?_) ?_; exact rfast_ca w lo hi l v (RdE.keep h hs.chg0) hl s s (by rw [hn']; exact hs2) (by rw [hn']; exact hs2)
      cases hx : fa l.ord s s with
      | true =>
        (refine q_nil (q_cond_true rfl (q_seq (q_region (ql_pure tabOk rfl rfl (q_nil (q_ret ?_)))))))
        refine q_fin tabOk rfl (by repeat constructor) fun w hs => ?_
        have hcf : conflB l.ord l.n = true := by
          cases hcc : conflB l.ord l.n with
          | true => rfl
          | false => rw [confl_iff.1 hcc s (by rw [hn']; exact hs2)] at hx; cases hx
        exact ⟨by simp [retV, agreedV, h0, hcf], hs.chg0⟩
      | false =>
        (refine q_nil (q_cond_false rfl (q_skip (q_blk (q_region (ql_pure tabOk rfl rfl (ql_ar tabOk rfl rfl rfl rfl (by omega) (by omega) (ql_pure tabOk rfl rfl (q_nil ?_)))))))))
        exact hK (s + 1) _ _ ⟨by omega, fun t ht => by
          by_cases e : t = s
          · rw [e]; exact hx
          · exact hb1 t (by omega)⟩ (by omega) ⟨rfl, rfl, trivial⟩ (Sp.refl _)
    · have hsn : s = n := by omega
      subst hsn
      (refine q_exit _ rfl (q_seq (q_region (ql_pure tabOk rfl rfl (q_nil (q_ret ?_))))))
      refine q_fin tabOk rfl (by repeat constructor) fun w hs => ?_
      have hcf : conflB l.ord l.n = false := confl_iff.2 (by rw [hn']; exact hb1)
      exact ⟨by simp [retV, agreedV, h0, hcf], hs.chg0⟩
  · (refine ql_pure tabOk rfl rfl (q_nil (q_seq (q_region (ql_pure tabOk rfl rfl (ql_neqT tabOk rfl rfl rfl (by omega) (q_nil (q_cond_true rfl (q_seq (q_region (ql_pure tabOk rfl rfl (ql_pure tabOk rfl rfl ?_))))))))))); refine q_nil (q_ret ?_))
    refine q_fin tabOk rfl (by repeat constructor) fun w hs => ?_
    exact ⟨by simp [retV, agreedV, h0], hs.chg0⟩
end Go.Proofs.YtcmpdmobmbbplaaGreat

/- Walks of the reference: what a chain shows. -/
namespace Go.Proofs.YtcmpdmobmbbplaaGreat
set_option maxRecDepth 4000
open Go Go.Eng

theorem rshows2_ca (w : World) (lo hi : Nat) (l : Lb) (v : Value) (h : RdR w lo hi v l.runs) (hl : l.Ok) (j : Int) (h0 : 0 ≤ j) (h1 : j < l.runs.length) :
    Ca Tryz.prog 86 [.agg (lbC l v).toArray, .int .i64 j] w fun x w' => x = .tuple #[.int .i64 (rqL l j).1, .int .i64 (rqL l j).2] ∧ Chg [] w w' := by
  obtain ⟨i, rfl⟩ := Int.eq_ofNat_of_zero_le h0
  have hi' : i < l.runs.length := by omega
  have := rshows_ca w lo hi l v h ⟨hl.e0, hl.e1⟩ i hi' (hl.run _ (List.getElem_mem hi')).l0
  unfold rqL
  rw [show ((i : Nat) : Int).toNat = i from rfl, List.getD_eq_getElem?_getD, List.getElem?_eq_getElem hi', Option.getD_some]
  exact this
theorem chainV_eq {l : Lb} {a b : Int} {c : List Int} (h2 : twoV l a b = 0) (ha : (c.all fun i => inB i 0 (l.runs.length - 1)) = true) : chainV l a b c = (chainB l a b c, 0) := chain_yes h2 ha
theorem getD_at {l : List Int} {i : Nat} (h : i < l.length) : l[i] = l.getD i 0 := by rw [List.getD_eq_getElem?_getD, List.getElem?_eq_getElem h]; rfl
set_option maxHeartbeats 4000000 in
theorem rchain_ca (w : World) (lo hi lo2 hi2 : Nat) (l : Lb) (v : Value) (a b : Int) (u : Value) (c : List Int) (h : RdR w lo hi v l.runs) (hlen : l.runs.length ≤ maxLen) (hu : RdI w lo2 hi2 u c) (hc : c.length ≤ 1000000) : Ca Tryz.prog 33 [.agg (lbC l v).toArray, .int .i64 a, .int .i64 b, u] w fun x w' => x = .tuple #[.bool (chainV l a b c).1, .int .i64 (chainV l a b c).2] ∧ Chg [] w w' := by
  obtain ⟨va, vc, rfl, hsa⟩ := RdR.outI h
  obtain ⟨ua, uc, rfl, hsu⟩ := RdI.outI hu
  refine q_of (Sat.nil w M0) Tryz.func33 rfl (by simp [Tryz.ntmps33]) ?_
  (refine q_seq (q_region ?_))
  refine ql_box rfl rfl (fun b4 => ?_)
  rw [agg_cells]
  (refine ql_pure tabOk rfl rfl (ql_pure tabOk rfl rfl (q_nil (q_seq (q_seq (q_region ?_))))); refine ql_loadABa tabOk rfl rfl rfl ?_; refine ql_pure tabOk rfl rfl (ql_pure tabOk rfl rfl ?_))
  refine ql_callv (val := .int .i64 (twoV l a b)) tabOk rfl rfl rfl rfl (fun w hs => ?_) ?_; exact rtwo_ca w lo hi l _ a b (RdE.keep h hs.chg0) hlen
  by_cases h2 : twoV l a b = 0
  · have hl := (two_iff.1 h2).1
    have hll := hl.len
    rw [h2]
    (refine ql_pure tabOk rfl rfl (q_nil (q_seq (q_region (ql_pure tabOk rfl rfl (ql_neqF tabOk rfl rfl rfl (by omega) (q_nil (q_cond_false rfl (q_skip (q_seq (q_seq (q_region ?_))))))))))); refine ql_pure tabOk rfl rfl (q_nil (q_block ?_)))
    refine q_loop (σ := Nat) (fun i => i ≤ c.length ∧ (c.take i).all (fun i => inB i 0 (l.runs.length - 1)) = true) (fun i => c.length - i) (fun i => [(1, .int .i64 a), (2, .int .i64 b), (3, .slice ua c.length uc), (4, .pointer (some ⟨b4, 0, none⟩)), (11, .int .i64 i)]) (fun _ => [.pt b4 (lbC l (.slice va l.runs.length vc)) 30]) 0 ⟨by omega, by simp⟩ ⟨rfl, rfl, rfl, rfl, rfl, trivial⟩ (by repeat constructor) ?_
    rintro i ⟨hi1, hall⟩ K hK
    (refine q_seq (q_seq (q_region ?_)); (iterate 4 refine ql_pure tabOk rfl rfl ?_); refine q_nil ?_)
    refine q_if rfl (fun hc => ?_) (fun hc => ?_)
    · have hi2 : i < c.length := by omega
      clear hc
      obtain ⟨ub, uo, hab⟩ := hsu (by omega)
      cases hab
      (refine q_skip (q_seq (q_block (q_seq ?_))))
      refine q_draw _ [] (Sp.refl _) (by kernel_rfl) (by kernel_rfl) ?_
      (refine qf_pure tabOk rfl rfl rfl (qf_pure tabOk rfl rfl rfl ?_))
      (refine qf_index tabOk rfl rfl rfl rfl rfl (by omega) (by omega) ?_; refine qf_load1 tabOk rfl rfl rfl (fun w hs => RdI.at (RdE.keep hu hs.chg0) i hi2) ?_)
      (refine qf_pure tabOk rfl rfl rfl ?_; refine qf_loadBa tabOk rfl rfl rfl ?_; refine qf_pure tabOk rfl rfl rfl (qf_ar tabOk rfl rfl rfl rfl (by omega) (by omega) ?_))
      refine qf_callv (val := .bool (!(inB c[i] 0 (l.runs.length - 1)))) tabOk rfl rfl rfl rfl (fun w hs => ?_) ?_; exact out_ca c[i] 0 (l.runs.length - 1) w
      cases hx : inB c[i] 0 (l.runs.length - 1) with
      | false =>
        (refine qf_nil (q_cond_true rfl (q_seq (q_region (ql_pure tabOk rfl rfl (ql_pure tabOk rfl rfl (q_nil (q_ret ?_))))))))
        refine q_fin tabOk rfl (by repeat constructor) fun w hs => ?_
        have hbad : (c.all fun i => inB i 0 (l.runs.length - 1)) = false := all_stop _ _ hi2 hx
        exact ⟨by rw [chain_un h2 hbad]; rfl, hs.chg0⟩
      | true =>
        (refine qf_nil (q_cond_false rfl (q_skip (q_blk (q_region (ql_pure tabOk rfl rfl (ql_ar tabOk rfl rfl rfl rfl (by omega) (by omega) (ql_pure tabOk rfl rfl (q_nil ?_)))))))))
        exact hK (i + 1) _ _ ⟨by omega, all_take _ _ hi2 hall hx⟩ (by omega) ⟨rfl, rfl, rfl, rfl, rfl, trivial⟩ (Sp.refl _)
    · obtain rfl : i = c.length := by omega
      rw [List.take_length] at hall
      clear hc hK hi1
      have hcv := chainV_eq (a := a) (b := b) h2 hall
      have hrc : ∀ j ∈ c, 0 ≤ j ∧ j < l.runs.length := fun j hj => by
        have := inB_iff.1 (List.all_eq_true.1 hall j hj)
        omega
      (refine q_exit _ rfl (q_seq (q_seq (q_region (ql_pure tabOk rfl rfl (q_nil (q_block ?_)))))))
      refine q_loop (σ := Nat) (fun i => CI l a b c i) (fun i => c.length - i) (fun i => [(1, .int .i64 a), (2, .int .i64 b), (3, .slice ua c.length uc), (4, .pointer (some ⟨b4, 0, none⟩)), (12, .int .i64 i)]) (fun _ => [.pt b4 (lbC l (.slice va l.runs.length vc)) 30]) 0 (CI.start l a b c) ⟨rfl, rfl, rfl, rfl, rfl, trivial⟩ (Sp.refl _) ?_
      rintro i hI K hK
      have hile := hI.le
      (refine q_seq (q_seq (q_region ?_)); (iterate 4 refine ql_pure tabOk rfl rfl ?_); refine q_nil ?_)
      refine q_if rfl (fun hc => ?_) (fun hc => ?_)
      · have hi2 : i < c.length := by omega
        clear hc
        obtain ⟨ub, uo, hab⟩ := hsu (by omega)
        cases hab
        have hm := hrc _ (List.getElem_mem hi2)
        (refine q_skip (q_seq (q_block (q_seq ?_))))
        refine q_draw _ [] (Sp.refl _) (by kernel_rfl) (by kernel_rfl) ?_
        (refine qf_loadABa tabOk rfl rfl rfl ?_; refine qf_pure tabOk rfl rfl rfl (qf_pure tabOk rfl rfl rfl ?_))
        (refine qf_index tabOk rfl rfl rfl rfl rfl (by omega) (by omega) ?_; refine qf_load1 tabOk rfl rfl rfl (fun w hs => RdI.at (RdE.keep hu hs.chg0) i hi2) ?_)
        rw [getD_at hi2] at hm ⊢
        refine qf_callv (val := .tuple #[.int .i64 (rqL l (c.getD i 0)).1, .int .i64 (rqL l (c.getD i 0)).2]) tabOk rfl rfl rfl rfl (fun w hs => ?_) ?_; exact rshows2_ca w lo hi l _ (RdE.keep h hs.chg0) hl (c.getD i 0) hm.1 hm.2
        (refine qf_pure tabOk rfl rfl rfl (qf_ext tabOk rfl rfl rfl (qf_ext tabOk rfl rfl rfl (qf_pure tabOk rfl rfl rfl (qf_pure tabOk rfl rfl rfl (qf_nil (q_seq (q_region ?_))))))); (iterate 4 refine ql_pure tabOk rfl rfl ?_); refine q_nil (q_seq (q_seq (q_region (ql_pure tabOk rfl rfl (ql_pure tabOk rfl rfl (q_nil ?_)))))))
        have hstep := hI.step hl hi2 hrc
        have hbad := hI.bad hl hi2 hrc
        have hbad2 := hI.bad2 hl hi2 hrc
        generalize (rqL l (c.getD i 0)).1 = x1 at *
        generalize (rqL l (c.getD i 0)).2 = x2 at *
        dsimp only [List.nil_append]
        refine q_if rfl (fun hc => ?_) (fun hc => ?_)
        · obtain ⟨m, hmi⟩ : ∃ m, i = m + 1 := ⟨i - 1, by omega⟩
          have hm1 : m < c.length := by omega
          have hm2 := hrc _ (List.getElem_mem hm1)
          clear hc
          rw [if_neg (by omega), show i - 1 = m from by omega] at hstep hbad hbad2
          skip
          refine q_draw _ [] (Sp.refl _) (by kernel_rfl) (by kernel_rfl) ?_
          (refine qf_loadABa tabOk rfl rfl rfl ?_; refine qf_pure tabOk rfl rfl rfl (qf_pure tabOk rfl rfl rfl (qf_ar tabOk rfl rfl rfl rfl (by omega) (by omega) ?_)))
          rw [show (i : Int) - 1 = (m : Int) from by omega]
          (refine qf_index tabOk rfl rfl rfl rfl rfl (by omega) (by omega) ?_; refine qf_load1 tabOk rfl rfl rfl (fun w hs => RdI.at (RdE.keep hu hs.chg0) m hm1) ?_)
          rw [getD_at hm1] at hm2 ⊢
          refine qf_callv (val := .tuple #[.int .i64 (rqL l (c.getD m 0)).1, .int .i64 (rqL l (c.getD m 0)).2]) tabOk rfl rfl rfl rfl (fun w hs => ?_) ?_; exact rshows2_ca w lo hi l _ (RdE.keep h hs.chg0) hl (c.getD m 0) hm2.1 hm2.2
          (refine qf_pure tabOk rfl rfl rfl (qf_ext tabOk rfl rfl rfl (qf_ext tabOk rfl rfl rfl (qf_pure tabOk rfl rfl rfl (qf_nil (q_seq (q_seq (q_region ?_))))))); (iterate 3 refine ql_pure tabOk rfl rfl ?_); refine ql_ar tabOk rfl rfl rfl rfl (by omega) (by omega) (ql_pure tabOk rfl rfl (q_nil ?_)))
          generalize (rqL l (c.getD m 0)).2 = y at *
          have hy : y = y := rfl
          dsimp only [List.nil_append]
          skip
          refine q_if rfl (fun hc => ?_) (fun hc => ?_)
          · have hn2 : i + 1 < c.length := by omega
            clear hc
            have hm2 := hrc _ (List.getElem_mem hn2)
            rw [if_pos hn2] at hstep hbad2
            skip
            refine q_draw _ [] (Sp.refl _) (by kernel_rfl) (by kernel_rfl) ?_
            (refine qf_loadABa tabOk rfl rfl rfl ?_; refine qf_pure tabOk rfl rfl rfl (qf_pure tabOk rfl rfl rfl (qf_ar tabOk rfl rfl rfl rfl (by omega) (by omega) ?_)))
            (refine qf_index tabOk rfl rfl rfl rfl rfl (by omega) (by omega) ?_; refine qf_load1 tabOk rfl rfl rfl (fun w hs => RdI.at (RdE.keep hu hs.chg0) (i + 1) hn2) ?_)
            rw [getD_at hn2] at hm2 ⊢
            refine qf_callv (val := .tuple #[.int .i64 (rqL l (c.getD (i + 1) 0)).1, .int .i64 (rqL l (c.getD (i + 1) 0)).2]) tabOk rfl rfl rfl rfl (fun w hs => ?_) ?_; exact rshows2_ca w lo hi l _ (RdE.keep h hs.chg0) hl (c.getD (i + 1) 0) hm2.1 hm2.2
            (refine qf_pure tabOk rfl rfl rfl (qf_ext tabOk rfl rfl rfl (qf_ext tabOk rfl rfl rfl (qf_pure tabOk rfl rfl rfl (qf_nil (q_seq ?_))))))
            generalize (rqL l (c.getD (i + 1) 0)).1 = z at *
            have hz : z = z := rfl
            dsimp only [List.nil_append]
            by_cases g1 : x1 < 0
            · (refine q_region (ql_pure tabOk rfl rfl (ql_lssT tabOk rfl rfl rfl (by omega) (ql_pure tabOk rfl rfl ?_))); (iterate 3 refine ql_gno rfl rfl rfl ?_); refine ql_pure tabOk rfl rfl (ql_pure tabOk rfl rfl ?_); (iterate 3 refine ql_gno rfl rfl rfl ?_); refine ql_pure tabOk rfl rfl (q_nil (q_cond_true rfl (q_seq (q_region (ql_pure tabOk rfl rfl (ql_pure tabOk rfl rfl (q_nil (q_ret ?_)))))))))
              refine q_fin tabOk rfl (by repeat constructor) fun w hs => ?_
              exact ⟨by rw [hcv, hbad (fun h => by omega)]; rfl, hs.chg0⟩
            · by_cases g2 : x1 = y
              · by_cases g3 : x2 = z
                · (refine q_region (ql_pure tabOk rfl rfl (ql_lssF tabOk rfl rfl rfl (by omega) (ql_pure tabOk rfl rfl (ql_gyes rfl (ql_pure tabOk rfl rfl (ql_gyes rfl (ql_pure tabOk rfl rfl (ql_gyes rfl (ql_neqF tabOk rfl rfl rfl (by omega) (ql_pure tabOk rfl rfl (ql_pure tabOk rfl rfl ?_))))))))))); refine ql_gyes rfl (ql_pure tabOk rfl rfl (ql_gyes rfl (ql_pure tabOk rfl rfl (ql_gyes rfl (ql_neqF tabOk rfl rfl rfl (by omega) (ql_pure tabOk rfl rfl (q_nil (q_cond_false rfl (q_skip (q_blk (q_region ?_))))))))))); refine ql_pure tabOk rfl rfl (ql_ar tabOk rfl rfl rfl rfl (by omega) (by omega) (ql_pure tabOk rfl rfl (q_nil ?_))))
                  exact hK (i + 1) _ _ (hstep (by omega) (g2.trans hy) (g3.trans hz)) (by omega) ⟨rfl, rfl, rfl, rfl, rfl, trivial⟩ (Sp.refl _)
                · (refine q_region (ql_pure tabOk rfl rfl (ql_lssF tabOk rfl rfl rfl (by omega) (ql_pure tabOk rfl rfl (ql_gyes rfl (ql_pure tabOk rfl rfl (ql_gyes rfl (ql_pure tabOk rfl rfl (ql_gyes rfl (ql_neqF tabOk rfl rfl rfl (by omega) (ql_pure tabOk rfl rfl (ql_pure tabOk rfl rfl ?_))))))))))); refine ql_gyes rfl (ql_pure tabOk rfl rfl (ql_gyes rfl (ql_pure tabOk rfl rfl (ql_gyes rfl (ql_neqT tabOk rfl rfl rfl (by omega) (ql_pure tabOk rfl rfl (q_nil (q_cond_true rfl (q_seq (q_region (ql_pure tabOk rfl rfl ?_))))))))))); refine ql_pure tabOk rfl rfl (q_nil (q_ret ?_)))
                  refine q_fin tabOk rfl (by repeat constructor) fun w hs => ?_
                  exact ⟨by rw [hcv, hbad2 (by omega) (g2.trans hy) (fun h => g3 (h.trans hz.symm))]; rfl, hs.chg0⟩
              · (refine q_region (ql_pure tabOk rfl rfl (ql_lssF tabOk rfl rfl rfl (by omega) (ql_pure tabOk rfl rfl (ql_gyes rfl (ql_pure tabOk rfl rfl (ql_gyes rfl (ql_pure tabOk rfl rfl (ql_gyes rfl (ql_neqT tabOk rfl rfl rfl (by omega) (ql_pure tabOk rfl rfl (ql_pure tabOk rfl rfl ?_))))))))))); (iterate 3 refine ql_gno rfl rfl rfl ?_); refine ql_pure tabOk rfl rfl (q_nil (q_cond_true rfl (q_seq (q_region (ql_pure tabOk rfl rfl (ql_pure tabOk rfl rfl (q_nil (q_ret ?_)))))))))
                refine q_fin tabOk rfl (by repeat constructor) fun w hs => ?_
                exact ⟨by rw [hcv, hbad (fun h => g2 (h.2.trans hy.symm))]; rfl, hs.chg0⟩
          · rw [if_neg (by omega)] at hstep hbad2
            obtain ⟨z, hz⟩ : ∃ z, z = b := ⟨b, rfl⟩
            by_cases g1 : x1 < 0
            · (refine q_skip (q_seq (q_region (ql_pure tabOk rfl rfl (ql_lssT tabOk rfl rfl rfl (by omega) (ql_pure tabOk rfl rfl ?_))))); (iterate 3 refine ql_gno rfl rfl rfl ?_); refine ql_pure tabOk rfl rfl (ql_pure tabOk rfl rfl ?_); (iterate 3 refine ql_gno rfl rfl rfl ?_); refine ql_pure tabOk rfl rfl (q_nil (q_cond_true rfl (q_seq (q_region (ql_pure tabOk rfl rfl (ql_pure tabOk rfl rfl (q_nil (q_ret ?_)))))))))
              refine q_fin tabOk rfl (by repeat constructor) fun w hs => ?_
              exact ⟨by rw [hcv, hbad (fun h => by omega)]; rfl, hs.chg0⟩
            · by_cases g2 : x1 = y
              · by_cases g3 : x2 = z
                · (refine q_skip (q_seq (q_region (ql_pure tabOk rfl rfl (ql_lssF tabOk rfl rfl rfl (by omega) (ql_pure tabOk rfl rfl (ql_gyes rfl (ql_pure tabOk rfl rfl (ql_gyes rfl (ql_pure tabOk rfl rfl (ql_gyes rfl (ql_neqF tabOk rfl rfl rfl (by omega) ?_))))))))))); refine ql_pure tabOk rfl rfl (ql_pure tabOk rfl rfl (ql_gyes rfl (ql_pure tabOk rfl rfl (ql_gyes rfl (ql_pure tabOk rfl rfl (ql_gyes rfl (ql_neqF tabOk rfl rfl rfl (by omega) (ql_pure tabOk rfl rfl (q_nil (q_cond_false rfl (q_skip ?_))))))))))); refine q_blk (q_region (ql_pure tabOk rfl rfl (ql_ar tabOk rfl rfl rfl rfl (by omega) (by omega) (ql_pure tabOk rfl rfl (q_nil ?_))))))
                  exact hK (i + 1) _ _ (hstep (by omega) (g2.trans hy) (g3.trans hz)) (by omega) ⟨rfl, rfl, rfl, rfl, rfl, trivial⟩ (Sp.refl _)
                · (refine q_skip (q_seq (q_region (ql_pure tabOk rfl rfl (ql_lssF tabOk rfl rfl rfl (by omega) (ql_pure tabOk rfl rfl (ql_gyes rfl (ql_pure tabOk rfl rfl (ql_gyes rfl (ql_pure tabOk rfl rfl (ql_gyes rfl (ql_neqF tabOk rfl rfl rfl (by omega) ?_))))))))))); refine ql_pure tabOk rfl rfl (ql_pure tabOk rfl rfl (ql_gyes rfl (ql_pure tabOk rfl rfl (ql_gyes rfl (ql_pure tabOk rfl rfl (ql_gyes rfl (ql_neqT tabOk rfl rfl rfl (by omega) (ql_pure tabOk rfl rfl (q_nil (q_cond_true rfl (q_seq ?_))))))))))); refine q_region (ql_pure tabOk rfl rfl (ql_pure tabOk rfl rfl (q_nil (q_ret ?_)))))
                  refine q_fin tabOk rfl (by repeat constructor) fun w hs => ?_
                  exact ⟨by rw [hcv, hbad2 (by omega) (g2.trans hy) (fun h => g3 (h.trans hz.symm))]; rfl, hs.chg0⟩
              · (refine q_skip (q_seq (q_region (ql_pure tabOk rfl rfl (ql_lssF tabOk rfl rfl rfl (by omega) (ql_pure tabOk rfl rfl (ql_gyes rfl (ql_pure tabOk rfl rfl (ql_gyes rfl (ql_pure tabOk rfl rfl (ql_gyes rfl (ql_neqT tabOk rfl rfl rfl (by omega) ?_))))))))))); refine ql_pure tabOk rfl rfl (ql_pure tabOk rfl rfl ?_); (iterate 3 refine ql_gno rfl rfl rfl ?_); refine ql_pure tabOk rfl rfl (q_nil (q_cond_true rfl (q_seq (q_region (ql_pure tabOk rfl rfl (ql_pure tabOk rfl rfl (q_nil (q_ret ?_)))))))))
                refine q_fin tabOk rfl (by repeat constructor) fun w hs => ?_
                exact ⟨by rw [hcv, hbad (fun h => g2 (h.2.trans hy.symm))]; rfl, hs.chg0⟩
        · have hi0 : i = 0 := by omega
          clear hc
          rw [if_pos hi0] at hstep hbad hbad2
          obtain ⟨y, hy⟩ : ∃ y, y = a := ⟨a, rfl⟩
          (refine q_skip (q_seq (q_seq (q_region ?_))); (iterate 3 refine ql_pure tabOk rfl rfl ?_); refine ql_ar tabOk rfl rfl rfl rfl (by omega) (by omega) (ql_pure tabOk rfl rfl (q_nil ?_)))
          refine q_if rfl (fun hc => ?_) (fun hc => ?_)
          · have hn2 : i + 1 < c.length := by omega
            clear hc
            have hm2 := hrc _ (List.getElem_mem hn2)
            rw [if_pos hn2] at hstep hbad2
            skip
            refine q_draw _ [] (Sp.refl _) (by kernel_rfl) (by kernel_rfl) ?_
            (refine qf_loadABa tabOk rfl rfl rfl ?_; refine qf_pure tabOk rfl rfl rfl (qf_pure tabOk rfl rfl rfl (qf_ar tabOk rfl rfl rfl rfl (by omega) (by omega) ?_)))
            (refine qf_index tabOk rfl rfl rfl rfl rfl (by omega) (by omega) ?_; refine qf_load1 tabOk rfl rfl rfl (fun w hs => RdI.at (RdE.keep hu hs.chg0) (i + 1) hn2) ?_)
            rw [getD_at hn2] at hm2 ⊢
            refine qf_callv (val := .tuple #[.int .i64 (rqL l (c.getD (i + 1) 0)).1, .int .i64 (rqL l (c.getD (i + 1) 0)).2]) tabOk rfl rfl rfl rfl (fun w hs => ?_) ?_; exact rshows2_ca w lo hi l _ (RdE.keep h hs.chg0) hl (c.getD (i + 1) 0) hm2.1 hm2.2
            (refine qf_pure tabOk rfl rfl rfl (qf_ext tabOk rfl rfl rfl (qf_ext tabOk rfl rfl rfl (qf_pure tabOk rfl rfl rfl (qf_nil (q_seq ?_))))))
            generalize (rqL l (c.getD (i + 1) 0)).1 = z at *
            have hz : z = z := rfl
            dsimp only [List.nil_append]
            by_cases g1 : x1 < 0
            · (refine q_region (ql_pure tabOk rfl rfl (ql_lssT tabOk rfl rfl rfl (by omega) (ql_pure tabOk rfl rfl ?_))); (iterate 3 refine ql_gno rfl rfl rfl ?_); refine ql_pure tabOk rfl rfl (ql_pure tabOk rfl rfl ?_); (iterate 3 refine ql_gno rfl rfl rfl ?_); refine ql_pure tabOk rfl rfl (q_nil (q_cond_true rfl (q_seq (q_region (ql_pure tabOk rfl rfl (ql_pure tabOk rfl rfl (q_nil (q_ret ?_)))))))))
              refine q_fin tabOk rfl (by repeat constructor) fun w hs => ?_
              exact ⟨by rw [hcv, hbad (fun h => by omega)]; rfl, hs.chg0⟩
            · by_cases g2 : x1 = y
              · by_cases g3 : x2 = z
                · (refine q_region (ql_pure tabOk rfl rfl (ql_lssF tabOk rfl rfl rfl (by omega) (ql_pure tabOk rfl rfl (ql_gyes rfl (ql_pure tabOk rfl rfl (ql_gyes rfl (ql_pure tabOk rfl rfl (ql_gyes rfl (ql_neqF tabOk rfl rfl rfl (by omega) (ql_pure tabOk rfl rfl (ql_pure tabOk rfl rfl ?_))))))))))); refine ql_gyes rfl (ql_pure tabOk rfl rfl (ql_gyes rfl (ql_pure tabOk rfl rfl (ql_gyes rfl (ql_neqF tabOk rfl rfl rfl (by omega) (ql_pure tabOk rfl rfl (q_nil (q_cond_false rfl (q_skip (q_blk (q_region ?_))))))))))); refine ql_pure tabOk rfl rfl (ql_ar tabOk rfl rfl rfl rfl (by omega) (by omega) (ql_pure tabOk rfl rfl (q_nil ?_))))
                  exact hK (i + 1) _ _ (hstep (by omega) (g2.trans hy) (g3.trans hz)) (by omega) ⟨rfl, rfl, rfl, rfl, rfl, trivial⟩ (Sp.refl _)
                · (refine q_region (ql_pure tabOk rfl rfl (ql_lssF tabOk rfl rfl rfl (by omega) (ql_pure tabOk rfl rfl (ql_gyes rfl (ql_pure tabOk rfl rfl (ql_gyes rfl (ql_pure tabOk rfl rfl (ql_gyes rfl (ql_neqF tabOk rfl rfl rfl (by omega) (ql_pure tabOk rfl rfl (ql_pure tabOk rfl rfl ?_))))))))))); refine ql_gyes rfl (ql_pure tabOk rfl rfl (ql_gyes rfl (ql_pure tabOk rfl rfl (ql_gyes rfl (ql_neqT tabOk rfl rfl rfl (by omega) (ql_pure tabOk rfl rfl (q_nil (q_cond_true rfl (q_seq (q_region (ql_pure tabOk rfl rfl ?_))))))))))); refine ql_pure tabOk rfl rfl (q_nil (q_ret ?_)))
                  refine q_fin tabOk rfl (by repeat constructor) fun w hs => ?_
                  exact ⟨by rw [hcv, hbad2 (by omega) (g2.trans hy) (fun h => g3 (h.trans hz.symm))]; rfl, hs.chg0⟩
              · (refine q_region (ql_pure tabOk rfl rfl (ql_lssF tabOk rfl rfl rfl (by omega) (ql_pure tabOk rfl rfl (ql_gyes rfl (ql_pure tabOk rfl rfl (ql_gyes rfl (ql_pure tabOk rfl rfl (ql_gyes rfl (ql_neqT tabOk rfl rfl rfl (by omega) (ql_pure tabOk rfl rfl (ql_pure tabOk rfl rfl ?_))))))))))); (iterate 3 refine ql_gno rfl rfl rfl ?_); refine ql_pure tabOk rfl rfl (q_nil (q_cond_true rfl (q_seq (q_region (ql_pure tabOk rfl rfl (ql_pure tabOk rfl rfl (q_nil (q_ret ?_)))))))))
                refine q_fin tabOk rfl (by repeat constructor) fun w hs => ?_
                exact ⟨by rw [hcv, hbad (fun h => g2 (h.2.trans hy.symm))]; rfl, hs.chg0⟩
          · rw [if_neg (by omega)] at hstep hbad2
            obtain ⟨z, hz⟩ : ∃ z, z = b := ⟨b, rfl⟩
            by_cases g1 : x1 < 0
            · (refine q_skip (q_seq (q_region (ql_pure tabOk rfl rfl (ql_lssT tabOk rfl rfl rfl (by omega) (ql_pure tabOk rfl rfl ?_))))); (iterate 3 refine ql_gno rfl rfl rfl ?_); refine ql_pure tabOk rfl rfl (ql_pure tabOk rfl rfl ?_); (iterate 3 refine ql_gno rfl rfl rfl ?_); refine ql_pure tabOk rfl rfl (q_nil (q_cond_true rfl (q_seq (q_region (ql_pure tabOk rfl rfl (ql_pure tabOk rfl rfl (q_nil (q_ret ?_)))))))))
              refine q_fin tabOk rfl (by repeat constructor) fun w hs => ?_
              exact ⟨by rw [hcv, hbad (fun h => by omega)]; rfl, hs.chg0⟩
            · by_cases g2 : x1 = y
              · by_cases g3 : x2 = z
                · (refine q_skip (q_seq (q_region (ql_pure tabOk rfl rfl (ql_lssF tabOk rfl rfl rfl (by omega) (ql_pure tabOk rfl rfl (ql_gyes rfl (ql_pure tabOk rfl rfl (ql_gyes rfl (ql_pure tabOk rfl rfl (ql_gyes rfl (ql_neqF tabOk rfl rfl rfl (by omega) ?_))))))))))); refine ql_pure tabOk rfl rfl (ql_pure tabOk rfl rfl (ql_gyes rfl (ql_pure tabOk rfl rfl (ql_gyes rfl (ql_pure tabOk rfl rfl (ql_gyes rfl (ql_neqF tabOk rfl rfl rfl (by omega) (ql_pure tabOk rfl rfl (q_nil (q_cond_false rfl (q_skip ?_))))))))))); refine q_blk (q_region (ql_pure tabOk rfl rfl (ql_ar tabOk rfl rfl rfl rfl (by omega) (by omega) (ql_pure tabOk rfl rfl (q_nil ?_))))))
                  exact hK (i + 1) _ _ (hstep (by omega) (g2.trans hy) (g3.trans hz)) (by omega) ⟨rfl, rfl, rfl, rfl, rfl, trivial⟩ (Sp.refl _)
                · (refine q_skip (q_seq (q_region (ql_pure tabOk rfl rfl (ql_lssF tabOk rfl rfl rfl (by omega) (ql_pure tabOk rfl rfl (ql_gyes rfl (ql_pure tabOk rfl rfl (ql_gyes rfl (ql_pure tabOk rfl rfl (ql_gyes rfl (ql_neqF tabOk rfl rfl rfl (by omega) ?_))))))))))); refine ql_pure tabOk rfl rfl (ql_pure tabOk rfl rfl (ql_gyes rfl (ql_pure tabOk rfl rfl (ql_gyes rfl (ql_pure tabOk rfl rfl (ql_gyes rfl (ql_neqT tabOk rfl rfl rfl (by omega) (ql_pure tabOk rfl rfl (q_nil (q_cond_true rfl (q_seq ?_))))))))))); refine q_region (ql_pure tabOk rfl rfl (ql_pure tabOk rfl rfl (q_nil (q_ret ?_)))))
                  refine q_fin tabOk rfl (by repeat constructor) fun w hs => ?_
                  exact ⟨by rw [hcv, hbad2 (by omega) (g2.trans hy) (fun h => g3 (h.trans hz.symm))]; rfl, hs.chg0⟩
              · (refine q_skip (q_seq (q_region (ql_pure tabOk rfl rfl (ql_lssF tabOk rfl rfl rfl (by omega) (ql_pure tabOk rfl rfl (ql_gyes rfl (ql_pure tabOk rfl rfl (ql_gyes rfl (ql_pure tabOk rfl rfl (ql_gyes rfl (ql_neqT tabOk rfl rfl rfl (by omega) ?_))))))))))); refine ql_pure tabOk rfl rfl (ql_pure tabOk rfl rfl ?_); (iterate 3 refine ql_gno rfl rfl rfl ?_); refine ql_pure tabOk rfl rfl (q_nil (q_cond_true rfl (q_seq (q_region (ql_pure tabOk rfl rfl (ql_pure tabOk rfl rfl (q_nil (q_ret ?_)))))))))
                refine q_fin tabOk rfl (by repeat constructor) fun w hs => ?_
                exact ⟨by rw [hcv, hbad (fun h => g2 (h.2.trans hy.symm))]; rfl, hs.chg0⟩
      · obtain rfl : i = c.length := by omega
        have he := hI.end
        (refine q_exit _ rfl (q_seq (q_region ?_)); (iterate 5 refine ql_pure tabOk rfl rfl ?_); refine q_nil (q_ret ?_))
        refine q_fin tabOk rfl (by repeat constructor) fun w hs => ?_
        refine ⟨?_, hs.chg0⟩
        rw [hcv, he]
        simp [retV]
  · (refine ql_pure tabOk rfl rfl (q_nil (q_seq (q_region (ql_pure tabOk rfl rfl (ql_neqT tabOk rfl rfl rfl (by omega) (q_nil (q_cond_true rfl (q_seq (q_region ?_))))))))); (iterate 3 refine ql_pure tabOk rfl rfl ?_); refine q_nil (q_ret ?_))
    refine q_fin tabOk rfl (by repeat constructor) fun w hs => ?_
    exact ⟨by rw [chain_no h2]; rfl, hs.chg0⟩
end Go.Proofs.YtcmpdmobmbbplaaGreat

/- Walks: the shortest chain, or the error. -/
namespace Go.Proofs.YtcmpdmobmbbplaaGreat
set_option maxRecDepth 4000
open Go Go.Eng

/-- What comes of asking for a chain. -/
def ChR (l : Lb) (a b : Int) (c : List Int) (e : Int) : Prop := (twoV l a b ≠ 0 ∧ c = [] ∧ e = twoV l a b) ∨ (twoV l a b = 0 ∧ NoCh l a.toNat b.toNat ∧ c = [] ∧ e = 6) ∨ (twoV l a b = 0 ∧ Short l a.toNat b.toNat c ∧ e = 0)
end Go.Proofs.YtcmpdmobmbbplaaGreat

/- Walks: a lab of the reference; labs compared. -/
namespace Go.Proofs.YtcmpdmobmbbplaaGreat
set_option maxRecDepth 4000
open Go Go.Eng

theorem slRr : SlT Tryz.prog 28 113 3 24 (.agg #[.int .i64 0, .int .i64 0, .int .i64 0]) := ⟨by kernel_rfl, by kernel_rfl, rfl, by omega⟩
theorem rlab_ca (w : World) (lo hi : Nat) (l : Lb) (v : Value) (h : RdR w lo hi v l.runs) (hlen : l.runs.length ≤ 1000) : Ca Tryz.prog 12 [.agg (lbC l v).toArray] w fun x w' => ∃ u : Value, x = .agg (lbC l u).toArray ∧ Sat w M0 [.ow u 113 3 l.runs.length (rnC l.runs)] w' := by
  obtain ⟨a, c, rfl, ha⟩ := RdR.outI h
  refine q_of (Sat.nil w M0) Tryz.func12 rfl (by simp [Tryz.ntmps12]) ?_
  (refine q_seq (q_region ?_))
  refine ql_box rfl rfl (fun b1 => ?_)
  rw [agg_cells]
  skip
  refine ql_alloc zero30 rfl (fun b2 => ?_)
  (refine q_nil (q_seq (q_region (ql_pure tabOk rfl rfl ?_))); refine ql_loadBa tabOk rfl rfl rfl ?_; refine ql_pure tabOk rfl rfl ?_; refine ql_loadBa tabOk rfl rfl rfl ?_)
  refine ql_mk #[.int .i64 l.skis, .int .i64 l.err, .slice none 0 0] rfl (by kernel_rfl) rfl ?_
  skip
  refine ql_alloc zero30 rfl (fun b3 => ?_)
  (refine ql_setA tabOk rfl rfl rfl rfl rfl (by repeat constructor) rfl ?_; refine q_nil (q_seq (q_seq (q_region (ql_pure tabOk rfl rfl ?_)))); refine ql_loadBa tabOk rfl rfl rfl ?_; refine ql_pure tabOk rfl rfl (ql_pure tabOk rfl rfl (q_nil (q_block ?_))))
  refine q_conv (H' := [.ow (.slice none 0 0) 113 3 0 (rnC (l.runs.take 0)), .pt b3 [.int .i64 l.skis, .int .i64 l.err, .slice none 0 0] 30, .pt b2 [.int .i64 0, .int .i64 0, .slice none 0 0] 30, .pt b1 (lbC l (.slice a l.runs.length c)) 24]) (fun w' hs => Sat.ownil (hs.sp (by repeat constructor)) _ _) ?_
  refine q_loop (σ := Nat × Value) (fun s => s.1 ≤ l.runs.length) (fun s => l.runs.length - s.1) (fun s => [(2, .pointer (some ⟨b2, 0, none⟩)), (3, .pointer (some ⟨b3, 0, none⟩)), (12, .slice a l.runs.length c), (13, .int .i64 l.runs.length), (14, .int .i64 s.1)])
    (fun s => [.ow s.2 113 3 s.1 (rnC (l.runs.take s.1)), .pt b3 [.int .i64 l.skis, .int .i64 l.err, s.2] 30, .pt b2 [.int .i64 0, .int .i64 0, .slice none 0 0] 30]) (0, .slice none 0 0) (by simp) ⟨rfl, rfl, rfl, rfl, rfl, trivial⟩ (by repeat constructor) ?_
  rintro ⟨i, u⟩ hi K hK
  dsimp only at hi hK ⊢
  refine q_fact (fun w hs => hs.slice2 (v := u) (by repeat constructor)) ?_
  rintro ⟨ua, uc, rfl⟩
  (refine q_seq (q_region (ql_pure tabOk rfl rfl (q_nil (q_seq ?_)))))
  refine q_if rfl (fun hc => ?_) (fun hc => ?_)
  · have hi2 : i < l.runs.length := by omega
    clear hc
    obtain ⟨b, off, hab⟩ := ha (by omega)
    cases hab
    (refine q_skip (q_seq (q_block (q_seq (q_region ?_)))))
    refine ql_index tabOk rfl rfl rfl rfl rfl (by omega) (by omega) ?_
    refine ql_loadA tabOk rfl rfl rfl rfl (fun w hs => RdR.at (RdE.keep h hs.chg0) i hi2) ?_
    skip
    refine ql_alloc zero40 rfl (fun b5 => ?_)
    (refine ql_setA tabOk rfl rfl rfl rfl rfl (by repeat constructor) rfl ?_; refine q_nil (q_region (ql_pure tabOk rfl rfl ?_)); refine ql_loadBa tabOk rfl rfl rfl ?_; refine ql_loadABa tabOk rfl rfl rfl ?_)
    refine ql_mkS 113 [.int .i64 l.runs[i].a, .int .i64 l.runs[i].b, .int .i64 l.runs[i].lead] rfl (by kernel_rfl) rfl (fun bn => ?_)
    skip
    refine ql_append (q := 1) (news := [.int .i64 l.runs[i].a, .int .i64 l.runs[i].b, .int .i64 l.runs[i].lead]) slRr rfl rfl rfl (fun v' => by repeat constructor) (fun w' hs => ⟨_, _, Blk.rdN (hs.blk (b := bn) (by repeat constructor)) rfl⟩) (by simp [oneV]) (by omega) (by omega) (fun u' => ?_)
    refine ql_fact (fun w' hs => hs.own_one (v := u') (by repeat constructor)) (fun hone => ?_)
    (refine ql_pure tabOk rfl rfl ?_)
    refine ql_store1 tabOk rfl rfl rfl hone (by repeat constructor) (by simp) ?_
    (refine q_nil (q_blk (q_region (ql_ar tabOk rfl rfl rfl rfl (by omega) (by omega) (ql_pure tabOk rfl rfl (q_nil ?_))))))
    exact hK (i + 1, u') _ _ (by dsimp only; omega) (by dsimp only; omega) ⟨rfl, rfl, rfl, rfl, rfl, trivial⟩ (by dsimp only; rw [show rnC (l.runs.take (i + 1)) = rnC (l.runs.take i) ++ [.int .i64 l.runs[i].a, .int .i64 l.runs[i].b, .int .i64 l.runs[i].lead] from by rw [← List.take_append_getElem hi2, rnC, List.flatMap_append]; rfl]; repeat constructor)
  · obtain rfl : i = l.runs.length := by omega
    rw [List.take_length]
    (refine q_exit _ rfl (q_seq (q_region ?_)); refine ql_loadABa tabOk rfl rfl rfl ?_; refine ql_setA tabOk rfl rfl rfl rfl rfl (by repeat constructor) rfl ?_; refine q_nil (q_ret ?_))
    refine q_fin tabOk rfl (by repeat constructor) fun w hs => ?_
    exact ⟨_, rfl, hs.sp (by repeat constructor)⟩
theorem same_ca (w : World) (lo hi lo2 hi2 : Nat) (l : Lb) (v u : Value) (h : RdR w lo hi v l.runs) (h2 : RdR w lo2 hi2 u l.runs) (hlen : l.runs.length ≤ 1000) : Ca Tryz.prog 20 [.agg (lbC l v).toArray, .agg (lbC l u).toArray] w fun x w' => x = .bool true ∧ Chg [] w w' := by
  refine q_of (Sat.nil w M0) Tryz.func20 rfl (by simp [Tryz.ntmps20]) ?_
  (refine q_seq (q_region ?_))
  refine ql_box rfl rfl (fun b2 => ?_)
  skip
  refine ql_box rfl rfl (fun b3 => ?_)
  rw [agg_cells, agg_cells]
  (refine ql_pure tabOk rfl rfl (q_nil (q_seq (q_region (ql_pure tabOk rfl rfl ?_)))); refine ql_loadBa tabOk rfl rfl rfl ?_; refine ql_pure tabOk rfl rfl ?_; refine ql_loadBa tabOk rfl rfl rfl ?_; refine ql_eqlT tabOk rfl rfl rfl (by omega) (ql_pure tabOk rfl rfl (ql_gyes rfl (ql_pure tabOk rfl rfl (ql_gyes rfl ?_)))); refine ql_loadBa tabOk rfl rfl rfl ?_; refine ql_gyes rfl (ql_pure tabOk rfl rfl (ql_gyes rfl ?_)); refine ql_loadBa tabOk rfl rfl rfl ?_; refine ql_gyes rfl (ql_eqlT tabOk rfl rfl rfl (by omega) (ql_pure tabOk rfl rfl (ql_pure tabOk rfl rfl (ql_gyes rfl (ql_pure tabOk rfl rfl (ql_gyes rfl ?_)))))); refine ql_loadBa tabOk rfl rfl rfl ?_; refine ql_gyes rfl (ql_pure tabOk rfl rfl (ql_gyes rfl ?_)); refine ql_loadBa tabOk rfl rfl rfl ?_; refine ql_gyes rfl ?_)
  refine ql_callv (val := .bool true) tabOk rfl rfl rfl rfl (fun w hs => ?_) ?_; exact eqR_ca w lo hi lo2 hi2 v u l.runs (RdE.keep h hs.chg0) (RdE.keep h2 hs.chg0) (by omega)
  (refine ql_pure tabOk rfl rfl (ql_pure tabOk rfl rfl (q_nil (q_ret ?_))))
  refine q_fin tabOk rfl (by repeat constructor) fun w hs => ?_
  exact ⟨rfl, hs.chg0⟩
end Go.Proofs.YtcmpdmobmbbplaaGreat

/- The walk of SkiChains. -/
namespace Go.Proofs.YtcmpdmobmbbplaaGreat
set_option maxRecDepth 4000
open Go Go.Eng

/-- All pairs that Faster returns. -/
def fasA (l : Lb) : List (Int × Int) := if agreedV l = 0 then fasL l.ord l.n else []
def tE5_d1a7a2f : OT := chainT [8, 9, 10] (.nil)
def tE5_4827765 : OT := chainT [7] (tE5_d1a7a2f)
def tE5_cadd481 : OT := chainT [6] (tE5_d1a7a2f)
def tE5_2bd7652 : OT := .alt (chainT [6] (tE5_4827765)) (chainT [7] (tE5_cadd481))
def tE5_69d16bf : OT := chainT [4, 5] (tE5_d1a7a2f)
def tE5_cad8bc1 : OT := .alt (chainT [4, 5] (tE5_4827765)) (chainT [7] (tE5_69d16bf))
def tE5_db7f0e3 : OT := .alt (chainT [4, 5] (tE5_cadd481)) (chainT [6] (tE5_69d16bf))
def tE5_c7f8ae7 : OT := .alt (chainT [4, 5] (tE5_2bd7652)) (.alt (chainT [6] (tE5_cad8bc1)) (chainT [7] (tE5_db7f0e3)))
def tE5_8ca2305 : OT := chainT [2, 3] (tE5_69d16bf)
def tE5_9e62ff0 : OT := .alt (chainT [2, 3] (tE5_cad8bc1)) (chainT [7] (tE5_8ca2305))
def tE5_62186b2 : OT := .alt (chainT [2, 3] (tE5_db7f0e3)) (chainT [6] (tE5_8ca2305))
def tE5_ed18e2b : OT := .alt (chainT [2, 3] (tE5_c7f8ae7)) (.alt (chainT [6] (tE5_9e62ff0)) (chainT [7] (tE5_62186b2)))
def tE5_f770ffc : OT := chainT [0, 1] (tE5_8ca2305)
def tE5_bb7b8ba : OT := .alt (chainT [0, 1] (tE5_9e62ff0)) (chainT [7] (tE5_f770ffc))
def tE5_02d9108 : OT := .alt (chainT [0, 1] (tE5_62186b2)) (chainT [6] (tE5_f770ffc))
def tE5_cb8a7af : OT := .alt (chainT [0, 1] (tE5_ed18e2b)) (.alt (chainT [6] (tE5_bb7b8ba)) (chainT [7] (tE5_02d9108)))
end Go.Proofs.YtcmpdmobmbbplaaGreat

/- The plain law of SkiPlans: orders that are left, and their first places. -/
namespace Go.Proofs.YtcmpdmobmbbplaaGreat
set_option maxRecDepth 4000
open Go Go.Eng
/-- Lists without those that came before. -/
def dl {α : Type} [DecidableEq α] (X : List α) : List α := X.foldl (fun acc x => if x ∈ acc then acc else acc ++ [x]) []
section
variable {α : Type} [DecidableEq α]
end
/-- How many beginnings of so many skis there are. -/
def preN (X : List (List Nat)) (k : Nat) : Nat := (dl (X.map (·.take k))).length
/-- Orders with one ski before another one. -/
def bfB (a b : Nat) (L : List Nat) : Bool := decide (L.idxOf a < L.idxOf b)
theorem InO.with {o n a b : Nat} (h : InO o n) (hn : n ≤ 8) (ha : a < n) (hb : b < n) : InO (withO o a b) n := with_sub (R := fun a b => a < n ∧ b < n) (by omega) (by omega) (fun _ _ _ _ _ _ h1 h2 => ⟨h1.1, h2.2⟩) h ⟨ha, hb⟩
theorem LinO.mono {o p n : Nat} {L : List Nat} (h : LinO p n L) (hl : LeO o p) : LinO o n L := ⟨h.perm, fun a b ha hb hf => h.idx a b ha hb (hl a b ha hb hf)⟩
/-- Whether so many further runs are enough if a run of two skis is the next one. -/
def enoB (n k r o a b : Nat) : Bool := (!fa o a b && (!fa o b a && decide (worthO n k o a b ≤ r))) && true
end Go.Proofs.YtcmpdmobmbbplaaGreat

/- The plain law of SkiNamed: skis and runs in another order. -/
namespace Go.Proofs.YtcmpdmobmbbplaaGreat
set_option maxRecDepth 4000
open Go Go.Eng
/-- Numbers in another order. -/
structure Bij (n : Nat) (t u : Nat → Nat) : Prop where
  t1 : ∀ i, i < n → t i < n
  u1 : ∀ i, i < n → u i < n
  tu : ∀ i, i < n → t (u i) = i
  ut : ∀ i, i < n → u (t i) = i
theorem Bij.symm {n : Nat} {t u : Nat → Nat} (h : Bij n t u) : Bij n u t := ⟨h.u1, h.t1, h.ut, h.tu⟩
theorem Bij.inj {n : Nat} {t u : Nat → Nat} (h : Bij n t u) {i j : Nat} (hi : i < n) (hj : j < n) (e : t i = t j) : i = j := by
  rw [← h.ut i hi, ← h.ut j hj, e]
/-- Orders of skis that are numbered otherwise. -/
structure RenO (n : Nat) (t u : Nat → Nat) (o p : Nat) : Prop where
  n8 : n ≤ 8
  bij : Bij n t u
  oo : Ord o
  op : Ord p
  io : InO o n
  ip : InO p n
  eq : ∀ a b, a < n → b < n → fa p (t a) (t b) = fa o a b
theorem RenO.symm {n : Nat} {t u : Nat → Nat} {o p : Nat} (h : RenO n t u o p) : RenO n u t p o := ⟨h.n8, h.bij.symm, h.op, h.oo, h.ip, h.io, fun a b ha hb => by
  rw [← h.eq _ _ (h.bij.u1 a ha) (h.bij.u1 b hb), h.bij.tu a ha, h.bij.tu b hb]⟩
theorem RenO.noC {n : Nat} {t u : Nat → Nat} {o p : Nat} (h : RenO n t u o p) (hc : NoC o n) : NoC p n := fun s hs => by
  have := h.eq _ _ (h.bij.u1 s hs) (h.bij.u1 s hs)
  rw [h.bij.tu s hs] at this
  rw [this]
  exact hc _ (h.bij.u1 s hs)
theorem RenO.with {n : Nat} {t u : Nat → Nat} {o p x y : Nat} (h : RenO n t u o p) (hx : x < n) (hy : y < n) : RenO n t u (withO o x y) (withO p (t x) (t y)) := by
  have h8 := h.n8
  have tx := h.bij.t1 x hx
  have ty := h.bij.t1 y hy
  refine ⟨h8, h.bij, h.oo.with (by omega) (by omega), h.op.with (by omega) (by omega), h.io.with h8 hx hy, h.ip.with h8 tx ty, fun a b ha hb => ?_⟩
  have ta := h.bij.t1 a ha
  have tb := h.bij.t1 b hb
  rw [Bool.eq_iff_iff, with_iff (by omega) (by omega), with_iff (by omega) (by omega), h.eq a b ha hb, h.eq a x ha hx, h.eq y b hy hb]
  have e1 : t a = t x ↔ a = x := ⟨h.bij.inj ha hx, fun e => by rw [e]⟩
  have e2 : t b = t y ↔ b = y := ⟨h.bij.inj hb hy, fun e => by rw [e]⟩
  rw [e1, e2]
theorem count_ren {n : Nat} {t u : Nat → Nat} (h : Bij n t u) {q r : Nat → Bool} (hq : ∀ i, i < n → q i = true → r (t i) = true) : ((List.range n).filter q).length ≤ ((List.range n).filter r).length := by
  rw [← List.length_map (f := t)]
  refine sub_len ?_ fun x hx => ?_
  · refine List.pairwise_map.2 (List.Pairwise.imp_of_mem ?_ (List.nodup_range.sublist List.filter_sublist))
    intro a b ha hb hne e
    exact hne (h.inj (List.mem_range.1 (List.mem_filter.1 ha).1) (List.mem_range.1 (List.mem_filter.1 hb).1) e)
  · obtain ⟨i, hi, rfl⟩ := List.mem_map.1 hx
    obtain ⟨h1, h2⟩ := List.mem_filter.1 hi
    have h3 := List.mem_range.1 h1
    exact List.mem_filter.2 ⟨List.mem_range.2 (h.t1 i h3), hq i h3 h2⟩
theorem RenO.up {n : Nat} {t u : Nat → Nat} {o p s : Nat} (h : RenO n t u o p) (hs : s < n) : upN p (t s) n = upN o s n := by
  refine Nat.le_antisymm ?_ ?_
  · refine count_ren h.bij.symm fun i hi hf => ?_
    have := h.eq (u i) s (h.bij.u1 i hi) hs
    rw [h.bij.tu i hi] at this
    rw [← this]; exact hf
  · refine count_ren h.bij fun i hi hf => ?_
    rw [h.eq i s hi hs]; exact hf
theorem RenO.dn {n : Nat} {t u : Nat → Nat} {o p s : Nat} (h : RenO n t u o p) (hs : s < n) : dnN p (t s) n = dnN o s n := by
  refine Nat.le_antisymm ?_ ?_
  · refine count_ren h.bij.symm fun i hi hf => ?_
    have := h.eq s (u i) hs (h.bij.u1 i hi)
    rw [h.bij.tu i hi] at this
    rw [← this]; exact hf
  · refine count_ren h.bij fun i hi hf => ?_
    rw [h.eq s i hs hi]; exact hf
theorem RenO.known {n k : Nat} {t u : Nat → Nat} {o p : Nat} (h : RenO n t u o p) (hk : knownO o n k = true) : knownO p n k = true := by
  rw [known_iff] at hk ⊢
  intro place hp
  obtain ⟨s, hs, h1, h2⟩ := hk place hp
  exact ⟨t s, h.bij.t1 s hs, by rw [h.up hs]; exact h1, by rw [h.dn hs]; exact h2⟩
theorem ren_plan_le {n k : Nat} {t u : Nat → Nat} (hn : n ≤ 8) (h1 : 1 ≤ n) (hk : k ≤ n) : ∀ v o p, undN o n ≤ v → NoC o n → RenO n t u o p → planO n k p ≤ planO n k o
  | v, o, p, hv, hc, h => by
    rcases Classical.em (knownO o n k = true) with hkn | hkn
    · rw [plan_eq hn h.op, if_pos (h.known hkn)]
      omega
    · obtain ⟨q, hq, hup, hw⟩ := plan_at hn h1 hk h.oo hc hkn
      have hU := Und.of h.oo hn hq hup
      have l1 := und_lt hU
      have l2 := und_lt hU.swap
      match v with
      | 0 => omega
      | v + 1 =>
        have q1 := hU.hx
        have q2 := hU.hy
        have g1 := ren_plan_le (k := k) hn h1 hk v _ _ (by omega) (hc.with hU) (h.with q1 q2)
        have g2 := ren_plan_le (k := k) hn h1 hk v _ _ (by omega) (hc.with hU.swap) (h.with q2 q1)
        have hU2 : Und p n (t q.1) (t q.2) := ⟨h.op, hn, h.bij.t1 _ q1, h.bij.t1 _ q2, fun e => hU.ne (h.bij.inj q1 q2 e), by rw [h.eq _ _ q1 q2]; exact hU.xy, by rw [h.eq _ _ q2 q1]; exact hU.yx⟩
        have g3 := plan_worth (k := k) hU2
        unfold worthO at g3 hw
        omega
theorem RenO.plan {n k : Nat} {t u : Nat → Nat} {o p : Nat} (h : RenO n t u o p) (h1 : 1 ≤ n) (hk : k ≤ n) (hc : NoC o n) : planO n k p = planO n k o :=
  Nat.le_antisymm (ren_plan_le h.n8 h1 hk _ _ _ (Nat.le_refl _) hc h) (ren_plan_le h.n8 h1 hk _ _ _ (Nat.le_refl _) (h.noC hc) h.symm)
theorem perm_nodup (n : Nat) : ∀ i, (permN n i).Nodup
  | 0 => by simp [permN]
  | i + 1 => by
    rw [permN]
    refine List.pairwise_flatMap.2 ⟨fun p _ => ?_, ?_⟩
    · refine List.pairwise_map.2 (List.Pairwise.imp ?_ (List.nodup_range.sublist List.filter_sublist))
      intro a b hne e
      exact hne (by simpa using e)
    · refine List.Pairwise.imp ?_ (perm_nodup n i)
      intro p q hne x hx y hy e
      obtain ⟨a, _, rfl⟩ := List.mem_map.1 hx
      obtain ⟨b, _, rfl⟩ := List.mem_map.1 hy
      exact hne (List.append_inj_left' e rfl)
theorem fl_nodup (o n i : Nat) : (FL o n i).Nodup := by
  rw [← FL_eq]
  exact (perm_nodup n i).sublist List.filter_sublist
theorem map_idx {n : Nat} {t u : Nat → Nat} (h : Bij n t u) : ∀ {L : List Nat}, (∀ x ∈ L, x < n) → ∀ {s : Nat}, s < n → (L.map t).idxOf (t s) = L.idxOf s
  | [], _, _, _ => rfl
  | x :: L, hL, s, hs => by
    have hx := hL x List.mem_cons_self
    have ih := map_idx h (L := L) (fun y hy => hL y (List.mem_cons_of_mem _ hy)) hs
    rw [List.map_cons]
    by_cases e : x = s
    · subst e; rw [List.idxOf_cons_self, List.idxOf_cons_self]
    · have e2 : t x ≠ t s := fun h2 => e (h.inj hx hs h2)
      rw [idx_cons_ne e2, idx_cons_ne e, ih]
theorem map_perm {n : Nat} {t u : Nat → Nat} (h : Bij n t u) {L : List Nat} (hp : L.Perm (List.range n)) : (L.map t).Perm (List.range n) := by
  have h1 : ∀ x ∈ L, x < n := fun x hx => List.mem_range.1 (hp.mem_iff.1 hx)
  refine full_perm ?_ (fun x hx => ?_) (by rw [List.length_map, hp.length_eq, List.length_range])
  · refine List.pairwise_map.2 (List.Pairwise.imp_of_mem ?_ (hp.nodup_iff.2 List.nodup_range))
    intro a b ha hb hne e
    exact hne (h.inj (h1 a ha) (h1 b hb) e)
  · obtain ⟨y, hy, rfl⟩ := List.mem_map.1 hx
    exact h.t1 y (h1 y hy)
theorem ren_lin {n : Nat} {t u : Nat → Nat} {o p : Nat} (h : RenO n t u o p) {L : List Nat} (hL : LinO o n L) : LinO p n (L.map t) := by
  have h1 : ∀ x ∈ L, x < n := fun x hx => hL.mem.1 hx
  refine ⟨map_perm h.bij hL.perm, fun a b ha hb hf => ?_⟩
  obtain ⟨h2, h3⟩ := h.ip a b ha hb hf
  refine ⟨h2, h3, ?_⟩
  have h8 := h.n8
  have ha2 := h.bij.u1 a h2
  have hb2 := h.bij.u1 b h3
  have h4 := h.eq _ _ ha2 hb2
  rw [h.bij.tu a h2, h.bij.tu b h3, hf] at h4
  have h5 := (hL.idx _ _ (by omega) (by omega) h4.symm).2.2
  have e1 := map_idx h.bij h1 ha2
  have e2 := map_idx h.bij h1 hb2
  rw [h.bij.tu a h2] at e1
  rw [h.bij.tu b h3] at e2
  omega
theorem ren_cnt_le {n : Nat} {t u : Nat → Nat} {o p : Nat} (h : RenO n t u o p) : (FL o n n).length ≤ (FL p n n).length := by
  rw [← List.length_map (f := fun L => L.map t)]
  refine sub_len ?_ fun x hx => ?_
  · refine List.pairwise_map.2 (List.Pairwise.imp_of_mem ?_ (fl_nodup o n n))
    intro a b ha hb hne e
    have h1 := (fl_mem h.n8 h.io).1 ha
    have h2 := (fl_mem h.n8 h.io).1 hb
    have k : ∀ L : List Nat, (∀ x ∈ L, x < n) → (L.map t).map u = L := fun L hL => by
      rw [List.map_map]
      exact (List.map_congr_left (fun x hx => h.bij.ut x (hL x hx))).trans (List.map_id _)
    refine hne ?_
    rw [← k a (fun x hx => h1.mem.1 hx), ← k b (fun x hx => h2.mem.1 hx), e]
  · obtain ⟨L, hL, rfl⟩ := List.mem_map.1 hx
    exact (fl_mem h.n8 h.ip).2 (ren_lin h ((fl_mem h.n8 h.io).1 hL))
theorem RenO.cnt {n : Nat} {t u : Nat → Nat} {o p : Nat} (h : RenO n t u o p) : cnt p n (2 ^ n - 1) = cnt o n (2 ^ n - 1) := by
  rw [← fl_len, ← fl_len]
  exact Nat.le_antisymm (ren_cnt_le h.symm) (ren_cnt_le h)
/-- A run that is told with other numbers, perhaps from the other side. -/
def RenR (t : Nat → Nat) (r r' : Rn) : Prop := (r'.a = (t r.a.toNat : Nat) ∧ r'.b = (t r.b.toNat : Nat) ∧ r'.lead = r.lead) ∨ (r'.a = (t r.b.toNat : Nat) ∧ r'.b = (t r.a.toNat : Nat) ∧ r'.lead = -r.lead)
theorem renR_run {t : Nat → Nat} {r r' : Rn} (h : RenR t r r') {e : Int} (he : 0 ≤ e) : runV e r' = (runV e r).map fun p => (t p.1, t p.2) := by
  rcases h with ⟨h1, h2, h3⟩ | ⟨h1, h2, h3⟩
  · unfold runV
    rw [h1, h2, h3, Int.toNat_natCast, Int.toNat_natCast]
    split
    · rfl
    · split <;> rfl
  · unfold runV
    rw [h1, h2, h3, Int.toNat_natCast, Int.toNat_natCast]
    by_cases c1 : e < r.lead
    · rw [if_neg (by omega), if_pos (by omega), if_pos c1]; rfl
    · by_cases c2 : r.lead < -e
      · rw [if_pos (by omega), if_neg c1, if_pos c2]; rfl
      · rw [if_neg (by omega), if_neg (by omega), if_neg c1, if_neg c2]; rfl
def rnG (l : Lb) (i : Nat) : Rn := l.runs.getD i ⟨0, 0, 0⟩
structure RenL (l m : Lb) (t : Nat → Nat) (σ : List Nat) : Prop where
  sk : m.skis = l.skis
  err : m.err = l.err
  len : m.runs.length = l.runs.length
  perm : σ.Perm (List.range l.runs.length)
  run : ∀ j, j < l.runs.length → RenR t (rnG l (σ.getD j 0)) (rnG m j)
section
variable {l m : Lb} {t u : Nat → Nat} {σ : List Nat}
theorem RenL.n (h : RenL l m t σ) : m.n = l.n := by unfold Lb.n; rw [h.sk]
theorem RenL.sl (h : RenL l m t σ) : σ.length = l.runs.length := by rw [h.perm.length_eq, List.length_range]
theorem RenL.lt (h : RenL l m t σ) {j : Nat} (hj : j < l.runs.length) : σ.getD j 0 < l.runs.length := by
  have := h.sl
  rw [List.getD_eq_getElem?_getD, List.getElem?_eq_getElem (by omega), Option.getD_some]
  exact List.mem_range.1 (h.perm.mem_iff.1 (List.getElem_mem _))
theorem RenL.at (h : RenL l m t σ) {i : Nat} (hi : i < l.runs.length) : ∃ j, j < l.runs.length ∧ σ.getD j 0 = i := by
  obtain ⟨j, hj, e⟩ := List.mem_iff_getElem.1 (h.perm.mem_iff.2 (List.mem_range.2 hi))
  have := h.sl
  exact ⟨j, by omega, by rw [List.getD_eq_getElem?_getD, List.getElem?_eq_getElem hj, Option.getD_some, e]⟩
theorem RenL.inj (h : RenL l m t σ) {i j : Nat} (hi : i < l.runs.length) (hj : j < l.runs.length) (e : σ.getD i 0 = σ.getD j 0) : i = j := by
  have := h.sl
  rw [List.getD_eq_getElem?_getD, List.getElem?_eq_getElem (by omega), Option.getD_some, List.getD_eq_getElem?_getD, List.getElem?_eq_getElem (by omega), Option.getD_some] at e
  exact (List.getElem_inj (h.perm.nodup_iff.2 List.nodup_range)).1 e
theorem RenL.sh (h : RenL l m t σ) (hl : l.Ok) {j f s : Nat} (hs : Sh l (σ.getD j 0) f s) (hj : j < l.runs.length) : Sh m j (t f) (t s) := ⟨by rw [h.len]; exact hj, by
  have h1 := renR_run (h.run j hj) hl.e0
  have h2 := hs.2
  unfold rnG at h1
  rw [h.err, h1, h2]; rfl⟩
theorem RenL.hs (h : RenL l m t σ) (hl : l.Ok) {j f s : Nat} (hs : Sh m j f s) : ∃ f' s', Sh l (σ.getD j 0) f' s' ∧ f = t f' ∧ s = t s' := by
  have hj : j < l.runs.length := by rw [← h.len]; exact hs.1
  have h1 := renR_run (h.run j hj) hl.e0
  have h2 := hs.2
  unfold rnG at h1
  rw [h.err, h1] at h2
  obtain ⟨p, h3, h4⟩ := Option.map_eq_some_iff.1 h2
  exact ⟨p.1, p.2, ⟨h.lt hj, h3⟩, (congrArg Prod.fst h4).symm, (congrArg Prod.snd h4).symm⟩
theorem RenL.ok (h : RenL l m t σ) (hl : l.Ok) (hb : Bij l.n t u) : m.Ok := ⟨by rw [h.sk]; exact hl.s0, by rw [h.sk]; exact hl.s1, by rw [h.err]; exact hl.e0, by rw [h.err]; exact hl.e1, by rw [h.len]; exact hl.len, fun r hr => by
  obtain ⟨j, hj, rfl⟩ := List.mem_iff_getElem.1 hr
  have hj2 : j < l.runs.length := by rw [← h.len]; exact hj
  have h1 := h.run j hj2
  have hlt := h.lt hj2
  have e1 : rnG m j = m.runs[j] := by unfold rnG; rw [List.getD_eq_getElem?_getD, List.getElem?_eq_getElem hj, Option.getD_some]
  have e2 : rnG l (σ.getD j 0) = l.runs[σ.getD j 0] := by unfold rnG; rw [List.getD_eq_getElem?_getD, List.getElem?_eq_getElem hlt, Option.getD_some]
  have ho := hl.run _ (List.getElem_mem hlt)
  rw [e1, e2] at h1
  have hn : (l.n : Int) = l.skis := by have := hl.s0; unfold Lb.n; omega
  have a0 := ho.a0
  have a1 := ho.a1
  have b0 := ho.b0
  have b1 := ho.b1
  have hne := ho.ne
  have l0 := ho.l0
  have l1 := ho.l1
  have ta := hb.t1 (l.runs[σ.getD j 0].a.toNat) (by omega)
  have tb := hb.t1 (l.runs[σ.getD j 0].b.toNat) (by omega)
  have tne : t l.runs[σ.getD j 0].a.toNat ≠ t l.runs[σ.getD j 0].b.toNat := fun e => by
    have := hb.inj (by omega) (by omega) e
    omega
  have hsk := h.sk
  rcases h1 with ⟨g1, g2, g3⟩ | ⟨g1, g2, g3⟩
  · exact ⟨by omega, by omega, by omega, by omega, by omega, by omega, by omega⟩
  · exact ⟨by omega, by omega, by omega, by omega, by omega, by omega, by omega⟩⟩
theorem RenL.o (h : RenL l m t σ) (hl : l.Ok) (hb : Bij l.n t u) : RenO l.n t u l.ord m.ord := by
  have hm := h.ok hl hb
  have h8 := hl.n8
  have him : InO m.ord l.n := by rw [← h.n]; exact hm.inO
  refine ⟨h8, hb, hl.o, hm.o, hl.inO, him, fun a b ha hb' => Bool.eq_iff_iff.2 ⟨fun hf => ?_, fun hf => ?_⟩⟩
  · have ta := hb.t1 a ha
    have tb := hb.t1 b hb'
    obtain ⟨x, y, hx, hy, e1, e2, h3⟩ := order_sub (l := m.pairs) (R := fun p q => ∃ x y, x < l.n ∧ y < l.n ∧ p = t x ∧ q = t y ∧ fa l.ord x y = true) hm.in8 (fun p q r _ _ _ h1 h2 => by
      obtain ⟨x, y, hx, hy, rfl, rfl, h3⟩ := h1
      obtain ⟨x', y', hx', hy', e1, rfl, h4⟩ := h2
      obtain rfl := hb.inj hy hx' e1
      exact ⟨x, y', hx, hy', rfl, rfl, hl.o.tr x y y' (by omega) (by omega) (by omega) h3 h4⟩) (fun p hp => by
      obtain ⟨j, hj⟩ := pair_sh hp
      obtain ⟨f, s, h3, h4, h5⟩ := h.hs hl hj
      have h6 := sh_pair h3
      obtain ⟨h7, h9, _⟩ := hl.in _ h6
      exact ⟨f, s, h7, h9, h4, h5, order_has hl.in8 h6⟩) (t a) (t b) (by omega) (by omega) hf
    rw [hb.inj ha hx e1, hb.inj hb' hy e2]
    exact h3
  · refine order_sub (l := l.pairs) (R := fun p q => p < l.n ∧ q < l.n ∧ fa m.ord (t p) (t q) = true) hl.in8 (fun p q r _ _ _ h1 h2 => ⟨h1.1, h2.2.1, ?_⟩) (fun p hp => ?_) a b (by omega) (by omega) hf |>.2.2
    · have tp := hb.t1 p h1.1
      have tq := hb.t1 q h1.2.1
      have tr := hb.t1 r h2.2.1
      exact hm.o.tr _ _ _ (by omega) (by omega) (by omega) h1.2.2 h2.2.2
    · obtain ⟨h7, h9, _⟩ := hl.in _ hp
      obtain ⟨i, hi⟩ := pair_sh hp
      obtain ⟨j, hj, e⟩ := h.at hi.1
      rw [← e] at hi
      exact ⟨h7, h9, order_has hm.in8 (sh_pair (h.sh hl hi hj))⟩
theorem short_wk {a b : Nat} {c : List Int} (he : 0 ≤ l.err) (h : Short l a b c) : Wk l a c.length b := by
  obtain ⟨b', e, hw⟩ := lead_wk he a c.length c b rfl h.ok
  have : b' = b := by omega
  rw [← this]; exact hw
theorem short_min {a b k : Nat} {c : List Int} (h : Short l a b c) (hk : 1 ≤ k) (hw : Wk l a k b) : c.length ≤ k := by
  obtain ⟨c', h1, h2⟩ := wk_lead k b hw
  rw [← h1]
  exact h.min c' (fun e => by rw [e] at h1; simp at h1; omega) h2
end
end Go.Proofs.YtcmpdmobmbbplaaGreat

/- Walks of the reference: runs against an order. -/
namespace Go.Proofs.YtcmpdmobmbbplaaGreat
set_option maxRecDepth 4000
open Go Go.Eng
/-- Whether a run is against an order. -/
def agW (l : Lb) (L : List Nat) (i : Nat) : Bool := match runI l.err (l.runs.getD i ⟨0, 0, 0⟩) with
  | some p => decide (L.idxOf p.2.toNat < L.idxOf p.1.toNat)
  | none => false
def agK (l : Lb) (L : List Nat) (k : Nat) : Nat := ((List.range k).filter (agW l L)).length
def agN (l : Lb) (L : List Nat) : Nat := agK l L l.runs.length
theorem agK_succ (l : Lb) (L : List Nat) (k : Nat) : agK l L (k + 1) = agK l L k + (if agW l L k = true then 1 else 0) := by
  unfold agK
  rw [List.range_succ, List.filter_append, List.length_append]
  congr 1
  cases h : agW l L k <;> simp [h]
theorem agK_le (l : Lb) (L : List Nat) (k : Nat) : agK l L k ≤ k := by
  have := List.length_filter_le (agW l L) (List.range k)
  rwa [List.length_range] at this
def plI (n : Nat) (L : List Nat) (i : Nat) : List Int := (List.range n).map fun x => if L.idxOf x < i then (L.idxOf x : Int) else 0
theorem plI_len (n : Nat) (L : List Nat) (i : Nat) : (plI n L i).length = n := by simp [plI]
theorem plI_zero (n : Nat) (L : List Nat) : List.replicate n (0 : Int) = plI n L 0 := by
  refine List.ext_getElem (by simp [plI]) fun x h1 h2 => ?_
  simp [plI]
theorem plI_next {n : Nat} {L : List Nat} (hn : L.Nodup) {i : Nat} (hi : i < L.length) : (plI n L i).set L[i] (i : Int) = plI n L (i + 1) := by
  refine List.ext_getElem (by simp [plI]) fun x h1 h2 => ?_
  rw [List.getElem_set]
  simp only [plI, List.getElem_map, List.getElem_range]
  have hix := hn.idxOf_getElem i hi
  by_cases e : L[i] = x
  · rw [if_pos e, ← e, hix, if_pos (by omega)]
  · rw [if_neg e]
    have h3 : L.idxOf x ≠ i := fun h => e (by
      have h4 : L.idxOf x < L.length := by omega
      have h5 := List.getElem_idxOf h4
      simp only [h] at h5
      exact h5)
    by_cases h4 : L.idxOf x < i
    · rw [if_pos h4, if_pos (by omega)]
    · rw [if_neg h4, if_neg (by omega)]
theorem plI_at {n : Nat} {L : List Nat} (hp : L.Perm (List.range n)) {x : Nat} (hx : x < n) (h : x < (plI n L L.length).length) : (plI n L L.length)[x] = (L.idxOf x : Int) := by
  simp only [plI, List.getElem_map, List.getElem_range]
  rw [if_pos (List.idxOf_lt_length_iff.2 (hp.mem_iff.2 (List.mem_range.2 hx)))]
set_option maxHeartbeats 2000000 in
theorem ragainst_ca (w : World) (lo hi lo2 hi2 : Nat) (l : Lb) (v u : Value) (L : List Nat) (h : RdR w lo hi v l.runs) (hl : l.Ok) (hp : L.Perm (List.range l.n)) (hu : RdI w lo2 hi2 u (chI L)) :
    Ca Tryz.prog 88 [.agg (lbC l v).toArray, u] w fun x w' => x = .int .i64 (agN l L : Nat) ∧ Chg [] w w' := by
  obtain ⟨n, en, hn', h8, h1⟩ := hl.nat
  have hLl : L.length = n := by rw [hp.length_eq, List.length_range, hn']
  have hnd : L.Nodup := hp.nodup_iff.2 List.nodup_range
  have hlen := hl.len
  obtain ⟨ua, uc, rfl, hua⟩ := RdI.outI hu
  rw [chI_len] at hua hu ⊢
  obtain ⟨va, vc, rfl, _⟩ := RdR.outI h
  rw [hn'] at hp
  refine q_of (Sat.nil w M0) Tryz.func88 rfl (by simp [Tryz.ntmps88]) ?_
  (refine q_seq (q_region ?_))
  refine ql_box rfl rfl (fun b2 => ?_)
  rw [agg_cells]
  (refine ql_pure tabOk rfl rfl (q_nil (q_seq (q_region (ql_pure tabOk rfl rfl ?_)))); refine ql_loadBa tabOk rfl rfl rfl ?_)
  rw [en]
  refine ql_makeI slI rfl rfl rfl (by omega) (fun b5 => ?_)
  rw [plI_zero n L]
  (refine ql_pure tabOk rfl rfl (q_nil (q_seq (q_seq (q_region (ql_pure tabOk rfl rfl (q_nil (q_block ?_))))))))
  refine q_loop (σ := Nat) (fun i => i ≤ n) (fun i => n - i) (fun i => [(1, .slice ua L.length uc), (2, .pointer (some ⟨b2, 0, none⟩)), (5, .slice (some ⟨b5, 0, none⟩) n n), (6, .int .i64 i)]) (fun i => [.pt b5 (ints (plI n L i)) 3, .pt b2 (lbC l (.slice va l.runs.length vc)) 30]) 0 (by omega) ⟨rfl, rfl, rfl, rfl, trivial⟩ (by repeat constructor) ?_
  rintro i hi' K hK
  (refine q_seq (q_seq (q_region ?_)); (iterate 4 refine ql_pure tabOk rfl rfl ?_); refine q_nil ?_)
  refine q_if rfl (fun hc => ?_) (fun hc => ?_)
  · have hi2 : i < L.length := by omega
    clear hc
    obtain ⟨gu, ou, rfl⟩ := hua (by omega)
    have hi3 : i < (chI L).length := by rw [chI_len]; exact hi2
    have hLi : L[i] < n := List.mem_range.1 (hp.mem_iff.1 (List.getElem_mem hi2))
    have hnx := plI_next (n := n) hnd hi2
    obtain ⟨x, hx⟩ : ∃ x, x = L[i] := ⟨_, rfl⟩
    rw [← hx] at hLi hnx
    have hxl : x < (plI n L i).length := by rw [plI_len]; exact hLi
    (refine q_skip (q_seq (q_block (q_region ?_))); (iterate 3 refine ql_pure tabOk rfl rfl ?_))
    refine ql_index tabOk rfl rfl rfl rfl rfl (by omega) (by omega) ?_
    refine ql_load1 (v := .int .i64 x) tabOk rfl rfl rfl (fun w hs => by
      have := RdI.at (RdE.keep hu hs.chg0) i hi3
      rw [show (chI L)[i] = ((L[i] : Nat) : Int) from by simp [chI], ← hx] at this
      exact this) ?_
    (refine ql_pure tabOk rfl rfl ?_)
    refine ql_index tabOk rfl rfl rfl rfl rfl (by omega) (by omega) ?_
    refine ql_storeI tabOk (x) rfl rfl rfl (by repeat constructor) (by first | rfl | omega | simp) hxl ?_
    rw [hnx]
    (refine q_nil (q_blk (q_region (ql_pure tabOk rfl rfl (ql_ar tabOk rfl rfl rfl rfl (by omega) (by omega) (ql_pure tabOk rfl rfl (q_nil ?_)))))))
    exact hK (i + 1) _ _ (by omega) (by omega) ⟨rfl, rfl, rfl, rfl, trivial⟩ (by repeat constructor)
  · obtain rfl : i = n := by omega
    clear hc hK hi'
    (refine q_exit _ rfl (q_seq (q_region (ql_pure tabOk rfl rfl (q_nil (q_seq (q_seq (q_region (ql_pure tabOk rfl rfl (q_nil (q_block ?_)))))))))))
    refine q_loop (σ := Nat) (fun k => k ≤ l.runs.length) (fun k => l.runs.length - k) (fun k => [(2, .pointer (some ⟨b2, 0, none⟩)), (5, .slice (some ⟨b5, 0, none⟩) i i), (7, .int .i64 (agK l L k : Nat)), (8, .int .i64 k)]) (fun _ => [.pt b5 (ints (plI i L i)) 3, .pt b2 (lbC l (.slice va l.runs.length vc)) 30]) 0 (by omega) ⟨rfl, rfl, rfl, rfl, trivial⟩ (by repeat constructor) ?_
    rintro k hk K hK
    (refine q_seq (q_seq (q_region (ql_pure tabOk rfl rfl (ql_pure tabOk rfl rfl ?_)))); refine ql_loadBa tabOk rfl rfl rfl ?_; refine ql_pure tabOk rfl rfl (ql_pure tabOk rfl rfl (q_nil ?_)))
    refine q_if rfl (fun hc => ?_) (fun hc => ?_)
    · have hk2 : k < l.runs.length := by omega
      clear hc
      have hro := hl.run l.runs[k] (List.getElem_mem hk2)
      have hst := agK_succ l L k
      have hkl := agK_le l L k
      have hrg : l.runs.getD k ⟨0, 0, 0⟩ = l.runs[k] := by rw [List.getD_eq_getElem?_getD, List.getElem?_eq_getElem hk2, Option.getD_some]
      (refine q_skip (q_seq (q_block (q_seq (q_region ?_)))); refine ql_loadABa tabOk rfl rfl rfl ?_; refine ql_pure tabOk rfl rfl ?_)
      obtain ⟨sh, hsh0⟩ : ∃ sh, sh = shR l.err l.runs[k] := ⟨_, rfl⟩
      refine ql_callv (val := .tuple #[.int .i64 sh.1, .int .i64 sh.2]) tabOk rfl rfl rfl rfl (fun w hs => ?_) ?_; exact by rw [hsh0]; exact rshows_ca w lo hi l (.slice va l.runs.length vc) (RdE.keep h hs.chg0) ⟨hl.e0, hl.e1⟩ k hk2 hro.l0
      unfold agW at hst
      rw [hrg] at hst
      cases hri : runI l.err l.runs[k] with
      | none =>
        have e : sh = (-1, -1) := by rw [hsh0]; unfold shR; rw [hri]; rfl
        rw [hri] at hst
        subst e
        clear hsh0
        (refine ql_pure tabOk rfl rfl (ql_ext tabOk rfl rfl rfl (ql_ext tabOk rfl rfl rfl (ql_pure tabOk rfl rfl (ql_pure tabOk rfl rfl (q_nil (q_seq ?_)))))))
        refine q_draw _ [] (Sp.refl _) (by kernel_rfl) (by kernel_rfl) ?_
        (refine qf_pure tabOk rfl rfl rfl (qf_geqF tabOk rfl rfl rfl (by omega) (qf_pure tabOk rfl rfl rfl ?_)); (iterate 9 refine qf_gno rfl rfl rfl ?_); refine qf_pure tabOk rfl rfl rfl (qf_nil (q_cond_false rfl (q_skip (q_blk (q_region (ql_pure tabOk rfl rfl (ql_ar tabOk rfl rfl rfl rfl (by omega) (by omega) (ql_pure tabOk rfl rfl (q_nil ?_))))))))))
        exact hK (k + 1) _ _ (by omega) (by omega) ⟨rfl, rfl, (by first | (rw [hst]; rfl) | (simp only [hst]; rfl)), rfl, trivial⟩ (by repeat constructor)
      | some p =>
        obtain ⟨p1, p2⟩ := p
        obtain ⟨f, s, hf, hs', hsh⟩ := runI_sh hl hk2 (p := p1) (q := p2) hri
        subst hf hs'
        have hpr := hl.in _ (sh_pair hsh)
        have e : sh = ((f : Int), (s : Int)) := by rw [hsh0]; unfold shR; rw [hri]; rfl
        clear hsh0
        subst e
        rw [hri] at hst
        simp only [Int.toNat_natCast] at hst
        have hf2 : f < i := by have := hpr.1; omega
        have hs2 : s < i := by have := hpr.2.1; omega
        have hfl : f < (plI i L i).length := by rw [plI_len]; exact hf2
        have hsl : s < (plI i L i).length := by rw [plI_len]; exact hs2
        have hpf : (plI i L i)[f] = (L.idxOf f : Int) := by have := plI_at hp hf2 (by rw [plI_len]; exact hf2); simp only [hLl] at this; exact this
        have hps : (plI i L i)[s] = (L.idxOf s : Int) := by have := plI_at hp hs2 (by rw [plI_len]; exact hs2); simp only [hLl] at this; exact this
        (refine ql_pure tabOk rfl rfl (ql_ext tabOk rfl rfl rfl (ql_ext tabOk rfl rfl rfl (ql_pure tabOk rfl rfl (ql_pure tabOk rfl rfl (q_nil (q_seq ?_)))))))
        refine q_draw _ [] (Sp.refl _) (by kernel_rfl) (by kernel_rfl) ?_
        (refine qf_pure tabOk rfl rfl rfl (qf_geqT tabOk rfl rfl rfl (by omega) (qf_pure tabOk rfl rfl rfl (qf_gyes rfl (qf_pure tabOk rfl rfl rfl (qf_gyes rfl (qf_pure tabOk rfl rfl rfl (qf_gyes rfl ?_))))))))
        refine qf_index tabOk rfl rfl rfl rfl rfl (by omega) (by omega) ?_
        (refine qf_gyes rfl ?_)
        refine qf_loadI tabOk (f) rfl rfl rfl (by repeat constructor) (by first | rfl | omega | simp) hfl ?_
        rw [hpf]
        (refine qf_gyes rfl (qf_pure tabOk rfl rfl rfl (qf_gyes rfl (qf_pure tabOk rfl rfl rfl (qf_gyes rfl ?_)))))
        refine qf_index tabOk rfl rfl rfl rfl rfl (by omega) (by omega) ?_
        (refine qf_gyes rfl ?_)
        refine qf_loadI tabOk (s) rfl rfl rfl (by repeat constructor) (by first | rfl | omega | simp) hsl ?_
        rw [hps]
        by_cases hlt : L.idxOf s < L.idxOf f
        · simp only [hlt, decide_true, if_true] at hst
          (refine qf_gyes rfl (qf_gtrT tabOk rfl rfl rfl (by omega) (qf_pure tabOk rfl rfl rfl (qf_nil (q_cond_true rfl (q_region (ql_pure tabOk rfl rfl (ql_ar tabOk rfl rfl rfl rfl (by omega) (by omega) (ql_pure tabOk rfl rfl (q_nil (q_blk (q_region ?_))))))))))); refine ql_pure tabOk rfl rfl (ql_ar tabOk rfl rfl rfl rfl (by omega) (by omega) (ql_pure tabOk rfl rfl (q_nil ?_))))
          exact hK (k + 1) _ _ (by omega) (by omega) ⟨rfl, rfl, (by first | (rw [hst]; rfl) | (simp only [hst]; rfl)), rfl, trivial⟩ (by repeat constructor)
        · simp only [hlt, decide_false, Bool.false_eq_true, if_false, Nat.add_zero] at hst
          (refine qf_gyes rfl (qf_gtrF tabOk rfl rfl rfl (by omega) (qf_pure tabOk rfl rfl rfl (qf_nil (q_cond_false rfl (q_skip (q_blk (q_region (ql_pure tabOk rfl rfl (ql_ar tabOk rfl rfl rfl rfl (by omega) (by omega) (ql_pure tabOk rfl rfl (q_nil ?_))))))))))))
          exact hK (k + 1) _ _ (by omega) (by omega) ⟨rfl, rfl, (by first | (rw [hst]; rfl) | (simp only [hst]; rfl)), rfl, trivial⟩ (by repeat constructor)
    · obtain rfl : k = l.runs.length := by omega
      (refine q_exit _ rfl (q_seq (q_region (ql_pure tabOk rfl rfl (ql_pure tabOk rfl rfl (q_nil (q_ret ?_)))))))
      refine q_fin tabOk rfl (by repeat constructor) fun w hs => ?_
      exact ⟨rfl, hs.chg0⟩
end Go.Proofs.YtcmpdmobmbbplaaGreat
