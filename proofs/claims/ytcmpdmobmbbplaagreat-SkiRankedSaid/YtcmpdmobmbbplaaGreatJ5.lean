/- My texts L7, joined: a claim takes at most 60 files. -/
import Derived.Test.YtcmpdmobmbbplaaGreatJ4

/- SkiRanked. -/
namespace Go.Proofs.YtcmpdmobmbbplaaGreat
set_option maxRecDepth 4000
open Go Go.Eng
theorem cont_fa' {o n a b : Nat} (ha : a < n) (hb : b < n) : (decide ((((a : Nat) : Int), ((b : Nat) : Int)) ∈ fasL o n) && true) = fa o a b := by
  cases h : fa o a b with
  | true => rw [decide_eq_true (fas_mem.2 ⟨ha, hb, h⟩)]; rfl
  | false => rw [decide_eq_false (fun h2 => by rw [(fas_mem.1 h2).2.2] at h; cases h)]; rfl
theorem ro_none {l : Lb} (hl : l.Ok) (hc : NoC l.ord l.n) {c : List Int} {e : Int} (h : RoR l c e) : c = [] ∧ e = 6 := by
  rcases h with ⟨h1, _⟩ | ⟨_, _, h1, h2⟩ | ⟨_, _, s, h1, h2, _⟩
  · exact absurd (check_iff.2 hl) h1
  · exact ⟨h1, h2⟩
  · rw [hc s h1] at h2; cases h2
set_option maxHeartbeats 8000000 in
set_option maxRecDepth 20000 in
theorem skiRanked_ca (w : World) (a : Option Addr) (nb cb : Nat) (hbyb1 : DkB w 0 w.heap.size (.slice a nb cb)) :
    Ca Tryz.prog 7 [.slice a nb cb] w fun r w' => r = .bool true ∧ Chg [] w w' := by
  refine q_of (Sat.nil w M0) Tryz.func7 rfl (by simp [Tryz.ntmps7]) ?_
  (refine q_seq (q_region (ql_pure tabOk rfl rfl (q_nil (q_seq (q_region (ql_pure tabOk rfl rfl ?_)))))))
  refine ql_call (β := Nat) tabOk [] _ M0 rfl rfl rfl rfl (Sp.refl _) (fun _ h => h.elim) (fun w' hs => of_ca w' a nb cb) ?_
  rintro b1 _ rfl
  dsimp only [List.cons_append, List.nil_append]
  refine ql_call (β := Value × Value × Lb × List Int) (ψ := fun y v => v = .tuple #[.agg (lbC y.2.2.1 y.1).toArray, y.2.1] ∧ MadeL 8 20 y.2.2.1 y.2.2.2) (L' := fun y => [.ow y.1 40 3 y.2.2.1.runs.length (rnC y.2.2.1.runs), .ow y.2.1 3 1 y.2.2.2.length (ints y.2.2.2), dkP (.slice a nb cb) b1 (0 + 100)]) tabOk [dkP (.slice a nb cb) b1 0] _ (fun x => x = b1) rfl rfl rfl rfl (Sp.cons (by repeat constructor) (Sp.refl _)) (fun x hx => ⟨_, .head _, hx⟩) (fun w' hs => madeK (most := 8) (runs := 20) hbyb1 hs (by omega) (by omega) (by omega) (by omega)) ?_
  rintro ⟨v, rv, ⟨ls, err, runs⟩, real⟩ _ ⟨rfl, hm⟩
  dsimp only [List.cons_append, List.nil_append, lbC] at hm ⊢
  have hok := hm.ok
  have hs2 : 2 ≤ ls := hm.s2
  have hsm : ls ≤ 8 := hm.sm
  have he0 : 0 ≤ err := hok.e0
  have he12 : err ≤ 11 := hm.e12
  have hlen : runs.length ≤ 20 := hm.len
  obtain ⟨sk, rfl⟩ := Int.eq_ofNat_of_zero_le (show 0 ≤ ls by omega)
  have hln : (⟨(sk : Int), err, runs⟩ : Lb).n = sk := by unfold Lb.n; simp
  have hNC := true_noC hok hm.tr
  refine ql_fact (fun w hs => hs.slice2 (v := v) (by repeat constructor)) ?_
  rintro ⟨va, vc, rfl⟩
  have hrl2 : real.length = sk := by rw [hm.rl, hln]
  refine ql_fact (fun w hs => hs.ownSome (v := rv) (by repeat constructor) (by omega)) ?_
  rintro ⟨rg, rc, rfl⟩
  (refine ql_pure tabOk rfl rfl (ql_ext tabOk rfl rfl rfl (ql_ext tabOk rfl rfl rfl ?_)))
  refine ql_alloc zero24 rfl (fun b3 => ?_)
  have hrb := hm.rb
  (refine ql_setA tabOk rfl rfl rfl rfl rfl (by repeat constructor) rfl ?_; refine ql_pure tabOk rfl rfl (q_nil (q_seq ?_)))
  generalize hL : (⟨(sk : Int), err, runs⟩ : Lb) = l at hm hok hln hNC
  have hls : l.skis = (sk : Int) := by rw [← hL]
  have hle : l.err = err := by rw [← hL]
  have hlr : l.runs = runs := by rw [← hL]
  rw [hrl2]
  refine q_conv (H' := [.pt b3 (lbC l (.slice va l.runs.length vc)) 24, un (labOs 40 [(l, va, vc)]), .ow (.slice (some ⟨rg, 0, none⟩) sk rc) 3 1 sk (ints real)]) (fun w' hs => by
    subst hL
    exact ((labOs_one (m := ((⟨(sk : Int), err, runs⟩ : Lb), va, vc)) (R := [.pt b3 (lbC (⟨(sk : Int), err, runs⟩ : Lb) (.slice va runs.length vc)) 24, .ow (.slice (some ⟨rg, 0, none⟩) sk rc) 3 1 sk (ints real)]) (hs.sp (by repeat constructor))).sp (by repeat constructor))) ?_
  have htr := hm.tr
  have hmax : l.runs.length ≤ maxLen := by rw [hlr]; have : maxLen = 9223372036854775807 := rfl; omega
  (refine q_region ?_; refine ql_loadABa tabOk rfl rfl rfl ?_)
  refine ql_call (β := Value) tabOk [] _ M0 rfl rfl rfl rfl (Sp.refl _) (fun _ h => h.elim) (fun w' hs => faster_ok w' 0 w'.heap.size l (.slice va l.runs.length vc) (lab_in hs (m := (l, va, vc)) (by repeat constructor) (by simp)) hok hNC) ?_
  rintro v5 _ rfl
  dsimp only [List.cons_append, List.nil_append]
  rw [hln]
  refine ql_fact (fun w hs => hs.slice2 (v := v5) (by repeat constructor)) ?_
  rintro ⟨a5, c5, rfl⟩
  have hfl : (fasL l.ord sk).length ≤ 1000000 := by
    have h8 : sk * sk ≤ 8 * 8 := Nat.mul_le_mul (by omega) (by omega)
    have := fasI_len (o := l.ord) (n := sk) sk 0 (by omega)
    rw [fasI_all] at this
    omega
  (refine ql_pure tabOk rfl rfl (ql_ext tabOk rfl rfl rfl (ql_ext tabOk rfl rfl rfl (ql_pure tabOk rfl rfl (ql_pure tabOk rfl rfl (q_nil (q_seq (q_region ?_))))))); refine ql_loadABa tabOk rfl rfl rfl ?_)
  refine ql_call (β := Value × List Int × Int) tabOk [] _ M0 rfl rfl rfl rfl (Sp.refl _) (fun _ h => h.elim) (fun w' hs => round_ca w' 0 w'.heap.size l (.slice va l.runs.length vc) (lab_in hs (m := (l, va, vc)) (by repeat constructor) (by simp)) hmax) ?_
  rintro ⟨v7, c7, e7⟩ _ ⟨rfl, hro⟩
  obtain ⟨rfl, rfl⟩ := ro_none hok hNC hro
  dsimp only [List.cons_append, List.nil_append]
  (refine ql_pure tabOk rfl rfl (ql_ext tabOk rfl rfl rfl (ql_ext tabOk rfl rfl rfl (ql_pure tabOk rfl rfl (ql_pure tabOk rfl rfl (q_nil (q_seq (q_region ?_))))))); refine ql_loadABa tabOk rfl rfl rfl ?_)
  refine ql_call (β := Value × List Nat) tabOk [] _ M0 rfl rfl rfl rfl (Sp.refl _) (fun _ h => h.elim) (fun w' hs => drop_ok w' 0 w'.heap.size l (.slice va l.runs.length vc) (lab_in hs (m := (l, va, vc)) (by repeat constructor) (by simp)) hok) ?_
  rintro ⟨v9, d9⟩ _ ⟨rfl, hdr⟩
  obtain rfl := drop_nil hok hNC hdr
  dsimp only [List.cons_append, List.nil_append]
  refine ql_fact (fun w hs => hs.slice2 (v := v9) (by repeat constructor)) ?_
  rintro ⟨a9, c9, rfl⟩
  (refine ql_pure tabOk rfl rfl (ql_ext tabOk rfl rfl rfl (ql_ext tabOk rfl rfl rfl (ql_pure tabOk rfl rfl (ql_pure tabOk rfl rfl (q_nil (q_seq (q_region ?_))))))); refine ql_loadABa tabOk rfl rfl rfl ?_)
  refine ql_call (β := Value) tabOk [] _ M0 rfl rfl rfl rfl (Sp.refl _) (fun _ h => h.elim) (fun w' hs => places_ok w' 0 w'.heap.size l (.slice va l.runs.length vc) (lab_in hs (m := (l, va, vc)) (by repeat constructor) (by simp)) hok hNC) ?_
  rintro v11 _ rfl
  dsimp only [List.cons_append, List.nil_append]
  rw [hln]
  refine ql_fact (fun w hs => hs.ownSome (v := v11) (by repeat constructor) (by omega)) ?_
  rintro ⟨g11, c11, rfl⟩
  (refine ql_pure tabOk rfl rfl (ql_ext tabOk rfl rfl rfl (ql_ext tabOk rfl rfl rfl (ql_pure tabOk rfl rfl (ql_pure tabOk rfl rfl (q_nil (q_seq (q_region ?_))))))); refine ql_loadABa tabOk rfl rfl rfl ?_)
  refine ql_call (β := Value) tabOk [] _ M0 rfl rfl rfl rfl (Sp.refl _) (fun _ h => h.elim) (fun w' hs => first_ok w' 0 w'.heap.size l (.slice va l.runs.length vc) (lab_in hs (m := (l, va, vc)) (by repeat constructor) (by simp)) hok hNC) ?_
  rintro v13 _ rfl
  dsimp only [List.cons_append, List.nil_append]
  rw [hln]
  refine ql_fact (fun w hs => hs.ownSome (v := v13) (by repeat constructor) (by omega)) ?_
  rintro ⟨g13, c13, rfl⟩
  have hlin := first_lin hNC hok.o hok.n8 hok.inO
  rw [hln] at hlin
  have hQg : ∀ s, s < sk → ∃ h : s < (plC l l.ord sk).length, (plC l l.ord sk)[s] = (((1 + upN l.ord s sk : Nat) : Int), (sk : Int) - dnN l.ord s sk) := fun s hs => by
    have := plC_get l l.ord (k := sk) hs
    rw [hln, hls] at this
    exact List.getElem?_eq_some_iff.1 this
  have hQl : sk = (plC l l.ord sk).length := (plC_len _ _ _).symm
  have hrp : ∀ k (hk : k < (rankL real).length), ∃ s : Nat, (rankL real)[k] = (s : Int) ∧ s < sk ∧ upN l.ord s sk ≤ k ∧ k + dnN l.ord s sk + 1 ≤ sk := fun k hk => by
    have := rank_place hok htr (by rw [hrl2, hln]) hk
    rw [hln] at this
    exact this
  have hrkl : (rankL real).length = sk := by have := ordK_len (rnkK real) real.length; unfold rankL; omega
  have hcf : ∀ a b : Nat, a < sk → b < sk → (decide (((a : Int), (b : Int)) ∈ fasL l.ord sk) && true) = fa l.ord a b := fun a b ha hb => cont_fa' ha hb
  refine ql_conv (H' := [.ow (.slice (some ⟨g13, 0, none⟩) sk c13) 3 1 sk (ints (chI (firF l.ord sk sk).1)), .ow (.slice (some ⟨g11, 0, none⟩) sk c11) 64 2 sk (spC (plC l l.ord sk)), .ow (.slice a5 (fasL l.ord sk).length c5) 86 2 (fasL l.ord sk).length (spC (fasL l.ord sk)), .pt b3 (lbC l (.slice va l.runs.length vc)) 24, un (labOs 40 [(l, va, vc)]), .ow (.slice (some ⟨rg, 0, none⟩) sk rc) 3 1 sk (ints real)]) (fun w' hs => hs.sp (by repeat constructor)) ?_
  generalize fasL l.ord sk = Pp at hfl hcf ⊢
  generalize plC l l.ord sk = Q at hQg hQl ⊢
  generalize (firF l.ord sk sk).1 = F at hlin ⊢
  have hFl : F.length = sk := hlin.len
  have hFc : (chI F).length = sk := by rw [chI_len, hFl]
  have c8 : sk ≤ 8 := by omega
  clear hm hL
  (refine ql_pure tabOk rfl rfl (ql_ext tabOk rfl rfl rfl (ql_ext tabOk rfl rfl rfl (ql_pure tabOk rfl rfl (ql_pure tabOk rfl rfl (q_nil (q_seq (q_seq (q_region (ql_pure tabOk rfl rfl (ql_neqF tabOk rfl rfl rfl (by omega) (ql_pure tabOk rfl rfl ?_))))))))))); refine ql_gyes rfl (ql_pure tabOk rfl rfl (ql_gyes rfl (ql_neqF tabOk rfl rfl rfl (by omega) (ql_pure tabOk rfl rfl (ql_pure tabOk rfl rfl (ql_gyes rfl (ql_pure tabOk rfl rfl (ql_gyes rfl (ql_neqF tabOk rfl rfl rfl (by omega) (ql_pure tabOk rfl rfl (ql_pure tabOk rfl rfl ?_))))))))))); refine ql_gyes rfl (ql_pure tabOk rfl rfl (ql_gyes rfl (ql_neqF tabOk rfl rfl rfl (by omega) (ql_pure tabOk rfl rfl (ql_pure tabOk rfl rfl (ql_gyes rfl (ql_pure tabOk rfl rfl (ql_gyes rfl (ql_neqF tabOk rfl rfl rfl (by omega) (ql_pure tabOk rfl rfl (ql_pure tabOk rfl rfl ?_))))))))))); refine ql_gyes rfl (ql_pure tabOk rfl rfl (ql_gyes rfl (ql_pure tabOk rfl rfl (ql_gyes rfl ?_)))); (iterate 3 refine ql_pure tabOk rfl rfl ?_); refine ql_gyes rfl (ql_pure tabOk rfl rfl (ql_gyes rfl (ql_pure tabOk rfl rfl (ql_gyes rfl (ql_pure tabOk rfl rfl (ql_gyes rfl ?_)))))); refine ql_loadBa tabOk rfl rfl rfl ?_; refine ql_gyes rfl (ql_neqF tabOk rfl rfl rfl (by omega) (ql_pure tabOk rfl rfl (ql_pure tabOk rfl rfl (ql_gyes rfl (ql_pure tabOk rfl rfl (ql_gyes rfl (ql_pure tabOk rfl rfl (ql_gyes rfl (ql_pure tabOk rfl rfl (ql_gyes rfl ?_)))))))))); refine ql_loadBa tabOk rfl rfl rfl ?_; refine ql_gyes rfl (ql_neqF tabOk rfl rfl rfl (by omega) (ql_pure tabOk rfl rfl (q_nil (q_cond_false rfl (q_skip (q_seq (q_seq (q_region (ql_pure tabOk rfl rfl ?_))))))))))
  rw [hls]
  skip
  refine ql_call (β := Value) tabOk [] _ M0 rfl rfl rfl rfl (Sp.refl _) (fun _ h => h.elim) (fun w' hs => ranked_ca w' 0 w'.heap.size _ real (hs.rdI (v := .slice (some ⟨rg, 0, none⟩) sk rc) (l := real) (t := 3) (n := sk) (by repeat constructor) hrl2.symm) (by omega) (by omega) (fun x hx => by have := hrb x hx; omega)) ?_
  rintro _ v92 rfl
  dsimp only [List.cons_append, List.nil_append]
  rw [hrl2]
  refine ql_fact (fun w hs => hs.ownSome (v := v92) (by repeat constructor) (by omega)) ?_
  rintro ⟨g92, c92, rfl⟩
  (refine ql_pure tabOk rfl rfl (ql_pure tabOk rfl rfl (q_nil (q_block ?_))))
  refine q_loop (σ := Nat) (fun k => k ≤ sk) (fun k => sk - k) (fun k => [(3, .pointer (some ⟨b3, 0, none⟩)), (4, .slice (some ⟨rg, 0, none⟩) sk rc), (5, .slice a5 Pp.length c5), (11, .slice (some ⟨g11, 0, none⟩) sk c11), (13, .slice (some ⟨g13, 0, none⟩) sk c13), (92, .slice (some ⟨g92, 0, none⟩) sk c92), (93, .int .i64 sk), (94, .int .i64 k)]) (fun _ => [.ow (.slice (some ⟨g92, 0, none⟩) sk c92) 3 1 sk (ints (rankL real)), .ow (.slice (some ⟨g13, 0, none⟩) sk c13) 3 1 sk (ints (chI F)), .ow (.slice (some ⟨g11, 0, none⟩) sk c11) 64 2 sk (spC Q), .ow (.slice a5 Pp.length c5) 86 2 Pp.length (spC Pp), .pt b3 (lbC l (.slice va l.runs.length vc)) 24, un (labOs 40 [(l, va, vc)]), .ow (.slice (some ⟨rg, 0, none⟩) sk rc) 3 1 sk (ints real)]) 0 (by omega) ⟨rfl, rfl, rfl, rfl, rfl, rfl, rfl, rfl, trivial⟩ (by repeat constructor) ?_
  rintro k hk K hK
  (refine q_seq (q_region (ql_pure tabOk rfl rfl (q_nil (q_seq ?_)))))
  refine q_if rfl (fun hc => ?_) (fun hc => ?_)
  · have hk2 : k < sk := by omega
    clear hc
    have hk3 : k < (rankL real).length := by omega
    obtain ⟨s, hs1, hs2', hs3, hs4⟩ := hrp k hk3
    obtain ⟨hs5, hs6⟩ := hQg s hs2'
    (refine q_skip (q_seq (q_block (q_seq (q_region (ql_pure tabOk rfl rfl ?_))))))
    refine ql_index tabOk rfl rfl rfl rfl rfl (by omega) (by omega) ?_
    refine ql_load1 (v := .int .i64 s) tabOk rfl rfl rfl (fun w hs => by rw [← hs1]; exact RdI.at (hs.rdI (v := .slice (some ⟨g92, 0, none⟩) sk c92) (l := rankL real) (t := 3) (n := sk) (by repeat constructor) hrkl.symm) k hk3) ?_
    (refine ql_pure tabOk rfl rfl (ql_pure tabOk rfl rfl (q_nil (q_seq (q_region (ql_pure tabOk rfl rfl (ql_pure tabOk rfl rfl ?_)))))))
    refine ql_index tabOk rfl rfl rfl rfl rfl (by omega) (by omega) ?_
    refine ql_loadA (cs := [.int .i64 ((1 + upN l.ord s sk : Nat) : Int), .int .i64 ((sk : Int) - dnN l.ord s sk)]) tabOk rfl rfl rfl rfl (fun w hs q hq => sp_at hs (t := 64) (L := Q) (by repeat constructor) hQl hs5 hs6 q hq) ?_
    skip
    refine ql_alloc zero64 rfl (fun b17 => ?_)
    (refine ql_setA tabOk rfl rfl rfl rfl rfl (by repeat constructor) rfl ?_; refine q_nil (q_seq (q_region (ql_pure tabOk rfl rfl ?_))); refine ql_loadBa tabOk rfl rfl rfl ?_; refine ql_pure tabOk rfl rfl (ql_ar tabOk rfl rfl rfl rfl (by omega) (by omega) (ql_gtrF tabOk rfl rfl rfl (by omega) (ql_pure tabOk rfl rfl (ql_gyes rfl (ql_pure tabOk rfl rfl (ql_gyes rfl (ql_ar tabOk rfl rfl rfl rfl (by omega) (by omega) (ql_gyes rfl (ql_pure tabOk rfl rfl (ql_gyes rfl ?_)))))))))); refine ql_loadBa tabOk rfl rfl rfl ?_; refine ql_gyes rfl (ql_gtrF tabOk rfl rfl rfl (by omega) (ql_pure tabOk rfl rfl (q_nil (q_cond_false rfl (q_skip (q_blk (q_region (ql_ar tabOk rfl rfl rfl rfl (by omega) (by omega) (ql_pure tabOk rfl rfl (q_nil ?_)))))))))))
    exact hK (k + 1) _ _ (by omega) (by omega) ⟨rfl, rfl, rfl, rfl, rfl, rfl, rfl, rfl, trivial⟩ (by repeat constructor)
  · clear hc hK hk
    (refine q_exit _ rfl (q_seq (q_seq (q_region (ql_pure tabOk rfl rfl ?_)))); refine ql_loadBa tabOk rfl rfl rfl ?_; refine ql_pure tabOk rfl rfl (q_nil (q_block ?_)))
    rw [hls]
    refine q_loop (σ := Nat) (fun a => a ≤ sk) (fun a => sk - a) (fun a => [(3, .pointer (some ⟨b3, 0, none⟩)), (4, .slice (some ⟨rg, 0, none⟩) sk rc), (5, .slice a5 Pp.length c5), (13, .slice (some ⟨g13, 0, none⟩) sk c13), (117, .int .i64 sk), (118, .int .i64 a)]) (fun _ => [.ow (.slice (some ⟨g13, 0, none⟩) sk c13) 3 1 sk (ints (chI F)), .ow (.slice (some ⟨g11, 0, none⟩) sk c11) 64 2 sk (spC Q), .ow (.slice a5 Pp.length c5) 86 2 Pp.length (spC Pp), .pt b3 (lbC l (.slice va l.runs.length vc)) 24, un (labOs 40 [(l, va, vc)]), .ow (.slice (some ⟨rg, 0, none⟩) sk rc) 3 1 sk (ints real)]) 0 (by omega) ⟨rfl, rfl, rfl, rfl, rfl, rfl, trivial⟩ (by repeat constructor) ?_
    rintro x hx K hK
    (refine q_seq (q_region (ql_pure tabOk rfl rfl (q_nil (q_seq ?_)))))
    refine q_if rfl (fun hc => ?_) (fun hc => ?_)
    · have hx2 : x < sk := by omega
      clear hc
      (refine q_skip (q_seq (q_block (q_seq (q_region (ql_pure tabOk rfl rfl (ql_pure tabOk rfl rfl (q_nil (q_seq (q_region (ql_pure tabOk rfl rfl ?_)))))))))); refine ql_loadBa tabOk rfl rfl rfl ?_; refine ql_pure tabOk rfl rfl (q_nil (q_block ?_)))
      rw [hls]
      refine q_loop (σ := Nat) (fun b => b ≤ sk) (fun b => sk - b) (fun b => [(3, .pointer (some ⟨b3, 0, none⟩)), (4, .slice (some ⟨rg, 0, none⟩) sk rc), (5, .slice a5 Pp.length c5), (13, .slice (some ⟨g13, 0, none⟩) sk c13), (18, .int .i64 x), (117, .int .i64 sk), (118, .int .i64 x), (122, .int .i64 sk), (123, .int .i64 b)]) (fun _ => [.ow (.slice (some ⟨g13, 0, none⟩) sk c13) 3 1 sk (ints (chI F)), .ow (.slice (some ⟨g11, 0, none⟩) sk c11) 64 2 sk (spC Q), .ow (.slice a5 Pp.length c5) 86 2 Pp.length (spC Pp), .pt b3 (lbC l (.slice va l.runs.length vc)) 24, un (labOs 40 [(l, va, vc)]), .ow (.slice (some ⟨rg, 0, none⟩) sk rc) 3 1 sk (ints real)]) 0 (by omega) ⟨rfl, rfl, rfl, rfl, rfl, rfl, rfl, rfl, rfl, trivial⟩ (by repeat constructor) ?_
      rintro y hy K2 hK2
      (refine q_seq (q_region (ql_pure tabOk rfl rfl (q_nil (q_seq ?_)))))
      refine q_if rfl (fun hc => ?_) (fun hc => ?_)
      · have hy2 : y < sk := by omega
        clear hc
        have t0 := two_ok' hok (a := x) (b := y) (by omega) (by omega)
        (refine q_skip (q_seq (q_block (q_seq (q_region (ql_pure tabOk rfl rfl (ql_pure tabOk rfl rfl (q_nil (q_seq (q_region ?_))))))))); refine ql_loadABa tabOk rfl rfl rfl ?_; refine ql_pure tabOk rfl rfl (ql_pure tabOk rfl rfl ?_))
        refine ql_call (β := Value × List Int × Int) tabOk [] _ M0 rfl rfl rfl rfl (Sp.refl _) (fun _ h => h.elim) (fun w' hs => chain0_ca w' 0 w'.heap.size l (.slice va l.runs.length vc) x y (lab_in hs (m := (l, va, vc)) (by repeat constructor) (by simp)) hmax) ?_
        rintro ⟨v20, c20, e20⟩ _ ⟨rfl, hch⟩
        dsimp only [List.cons_append, List.nil_append] at hch ⊢
        rcases hch with ⟨h1, _⟩ | ⟨_, hno, rfl, rfl⟩ | ⟨_, hsh, rfl⟩
        · exact absurd t0 h1
        · rw [Int.toNat_natCast, Int.toNat_natCast] at hno
          (refine ql_pure tabOk rfl rfl (ql_ext tabOk rfl rfl rfl (ql_ext tabOk rfl rfl rfl (ql_pure tabOk rfl rfl (ql_pure tabOk rfl rfl (q_nil (q_seq (q_seq (q_region (ql_pure tabOk rfl rfl (ql_eqlF tabOk rfl rfl rfl (by omega) ?_)))))))))); (iterate 3 refine ql_pure tabOk rfl rfl ?_))
          refine ql_mk #[.int .i64 x, .int .i64 y] rfl (by kernel_rfl) rfl ?_
          skip
          refine ql_callv (val := .bool (fa l.ord x y)) tabOk rfl rfl rfl rfl (fun w hs => ?_) ?_; exact by have := containsP_ca w 0 w.heap.size (.slice a5 Pp.length c5) Pp x y (own_rdS (t := 86) (hs.mem (c := .ow (.slice a5 Pp.length c5) 86 2 Pp.length (spC Pp)) (by repeat constructor)) rfl) hfl; rw [hcf x y hx2 hy2] at this; exact this
          rw [noCh_fa hok (by omega) (by omega) hno]
          skip
          refine ql_neb (by kernel_rfl) rfl rfl rfl ?_
          (refine ql_pure tabOk rfl rfl (ql_gyes rfl (ql_pure tabOk rfl rfl (ql_gyes rfl (ql_neqT tabOk rfl rfl rfl (by omega) (ql_gyes rfl (ql_pure tabOk rfl rfl (ql_gyes rfl (ql_pure tabOk rfl rfl (ql_gyes rfl (ql_neqF tabOk rfl rfl rfl (by omega) (ql_gyes rfl ?_))))))))))); refine ql_pure tabOk rfl rfl (ql_pure tabOk rfl rfl (q_nil (q_cond_false rfl (q_skip (q_seq (q_seq (q_region (ql_pure tabOk rfl rfl (ql_neqT tabOk rfl rfl rfl (by omega) (q_nil (q_cond_true rfl ?_))))))))))); refine q_exit _ rfl (q_region (ql_ar tabOk rfl rfl rfl rfl (by omega) (by omega) (ql_pure tabOk rfl rfl (q_nil ?_)))))
          exact hK2 (y + 1) _ _ (by omega) (by omega) ⟨rfl, rfl, rfl, rfl, rfl, rfl, rfl, rfl, rfl, trivial⟩ (by repeat constructor)
        · rw [Int.toNat_natCast, Int.toNat_natCast] at hsh
          have hxy := short_fa hok (by omega) hsh
          have hcl := short_lt hok hNC (a := x) (by omega) hsh
          have hc1 := List.length_pos_iff.2 hsh.ne
          have hreal := true_sub hok htr x y (by omega) (by omega) hxy
          have hidx := (hlin.idx x y (by omega) (by omega) hxy).2.2
          have hxi := idx_lt hlin hx2 hy2
          have hyi := idx_lt hlin hy2 hx2
          have hxr : x < real.length := by omega
          have hyr : y < real.length := by omega
          rw [getD_get hxr, getD_get hyr] at hreal
          (refine ql_pure tabOk rfl rfl (ql_ext tabOk rfl rfl rfl (ql_ext tabOk rfl rfl rfl (ql_pure tabOk rfl rfl (ql_pure tabOk rfl rfl (q_nil (q_seq (q_seq (q_region (ql_pure tabOk rfl rfl (ql_eqlT tabOk rfl rfl rfl (by omega) ?_)))))))))); (iterate 3 refine ql_pure tabOk rfl rfl ?_))
          refine ql_mk #[.int .i64 x, .int .i64 y] rfl (by kernel_rfl) rfl ?_
          skip
          refine ql_callv (val := .bool (fa l.ord x y)) tabOk rfl rfl rfl rfl (fun w hs => ?_) ?_; exact by have := containsP_ca w 0 w.heap.size (.slice a5 Pp.length c5) Pp x y (own_rdS (t := 86) (hs.mem (c := .ow (.slice a5 Pp.length c5) 86 2 Pp.length (spC Pp)) (by repeat constructor)) rfl) hfl; rw [hcf x y hx2 hy2] at this; exact this
          rw [hxy]
          skip
          refine ql_neb (by kernel_rfl) rfl rfl rfl ?_
          (refine ql_pure tabOk rfl rfl (ql_gyes rfl (ql_pure tabOk rfl rfl (ql_gyes rfl (ql_neqF tabOk rfl rfl rfl (by omega) (ql_gyes rfl (ql_pure tabOk rfl rfl (ql_gno rfl rfl rfl (ql_gno rfl rfl rfl (ql_gyes rfl (ql_pure tabOk rfl rfl (ql_pure tabOk rfl rfl ?_))))))))))); refine q_nil (q_cond_false rfl (q_skip (q_seq (q_seq (q_region (ql_pure tabOk rfl rfl (ql_neqF tabOk rfl rfl rfl (by omega) (q_nil (q_cond_false rfl (q_skip (q_seq ?_))))))))))); refine q_region ?_; refine ql_loadABa tabOk rfl rfl rfl ?_; (iterate 3 refine ql_pure tabOk rfl rfl ?_))
          refine ql_fact (fun w hs => hs.slice2 (v := v20) (by repeat constructor)) ?_
          rintro ⟨a20, q20, rfl⟩
          skip
          refine ql_callv (val := .tuple #[.bool true, .int .i64 0]) tabOk rfl rfl rfl rfl (fun w hs => ?_) ?_; exact by have := chainShows_ca w 0 w.heap.size 0 w.heap.size l (.slice va l.runs.length vc) x y (.slice a20 c20.length q20) c20 (lab_in hs (m := (l, va, vc)) (by repeat constructor) (by simp)) hmax (hs.rdI (v := .slice a20 c20.length q20) (l := c20) (t := 3) (n := c20.length) (by repeat constructor) rfl) (by omega); rw [short_shows t0 hsh] at this; exact this
          (refine ql_pure tabOk rfl rfl (ql_ext tabOk rfl rfl rfl (ql_ext tabOk rfl rfl rfl (ql_pure tabOk rfl rfl (ql_pure tabOk rfl rfl (q_nil (q_seq ?_)))))))
          refine q_draw _ [] (Sp.refl _) (by kernel_rfl) (by kernel_rfl) ?_
          have hF6 : F.length ≤ 1000000 := by rw [hFl]; omega
          have hI : idxN F x < idxN F y := by
            rcases hxi with h9 | h9
            · exact h9.1.2 hidx
            · omega
          (refine qf_pure tabOk rfl rfl rfl (qf_neqF tabOk rfl rfl rfl (by omega) (qf_pure tabOk rfl rfl rfl (qf_gyes rfl (qf_pure tabOk rfl rfl rfl (qf_gyes rfl ?_))))); (iterate 3 refine qf_pure tabOk rfl rfl rfl ?_); refine qf_gyes rfl (qf_pure tabOk rfl rfl rfl (qf_gyes rfl (qf_pure tabOk rfl rfl rfl (qf_gyes rfl (qf_lssF tabOk rfl rfl rfl (by omega) (qf_pure tabOk rfl rfl rfl (qf_pure tabOk rfl rfl rfl (qf_gyes rfl (qf_pure tabOk rfl rfl rfl (qf_gyes rfl (qf_pure tabOk rfl rfl rfl ?_))))))))))); refine qf_gyes rfl (qf_pure tabOk rfl rfl rfl (qf_gyes rfl ?_)); refine qf_loadBa tabOk rfl rfl rfl ?_; refine qf_gyes rfl (qf_geqF tabOk rfl rfl rfl (by omega) (qf_pure tabOk rfl rfl rfl (qf_pure tabOk rfl rfl rfl (qf_gyes rfl (qf_pure tabOk rfl rfl rfl (qf_gyes rfl (qf_pure tabOk rfl rfl rfl (qf_gyes rfl ?_)))))))))
          refine qf_index tabOk rfl rfl rfl rfl rfl (by omega) (by omega) ?_
          (refine qf_gyes rfl ?_)
          refine qf_load1 (v := .int .i64 real[x]) tabOk rfl rfl rfl (fun w hs => RdI.at (hs.rdI (v := .slice (some ⟨rg, 0, none⟩) sk rc) (l := real) (t := 3) (n := sk) (by repeat constructor) hrl2.symm) x hxr) ?_
          (refine qf_gyes rfl (qf_pure tabOk rfl rfl rfl (qf_gyes rfl (qf_pure tabOk rfl rfl rfl (qf_gyes rfl ?_)))))
          refine qf_index tabOk rfl rfl rfl rfl rfl (by omega) (by omega) ?_
          (refine qf_gyes rfl ?_)
          refine qf_load1 (v := .int .i64 real[y]) tabOk rfl rfl rfl (fun w hs => RdI.at (hs.rdI (v := .slice (some ⟨rg, 0, none⟩) sk rc) (l := real) (t := 3) (n := sk) (by repeat constructor) hrl2.symm) y hyr) ?_
          (refine qf_gyes rfl (qf_leqF tabOk rfl rfl rfl (by omega) (qf_pure tabOk rfl rfl rfl (qf_pure tabOk rfl rfl rfl (qf_gyes rfl (qf_pure tabOk rfl rfl rfl (qf_gyes rfl (qf_pure tabOk rfl rfl rfl (qf_gyes rfl ?_)))))))))
          refine qf_callv (val := .int .i64 (idxN F x)) tabOk rfl rfl rfl rfl (fun w hs => ?_) ?_; exact indexN_ca w 0 w.heap.size (.slice (some ⟨g13, 0, none⟩) sk c13) F x (hs.rdI (v := .slice (some ⟨g13, 0, none⟩) sk c13) (l := chI F) (t := 3) (n := sk) (by repeat constructor) hFc.symm) hF6
          (refine qf_gyes rfl (qf_pure tabOk rfl rfl rfl (qf_gyes rfl (qf_pure tabOk rfl rfl rfl (qf_gyes rfl ?_)))))
          refine qf_callv (val := .int .i64 (idxN F y)) tabOk rfl rfl rfl rfl (fun w hs => ?_) ?_; exact indexN_ca w 0 w.heap.size (.slice (some ⟨g13, 0, none⟩) sk c13) F y (hs.rdI (v := .slice (some ⟨g13, 0, none⟩) sk c13) (l := chI F) (t := 3) (n := sk) (by repeat constructor) hFc.symm) hF6
          generalize idxN F x = ix at hI hxi hyi ⊢
          generalize idxN F y = iy at hI hxi hyi ⊢
          (refine qf_gyes rfl (qf_geqF tabOk rfl rfl rfl (by omega) (qf_pure tabOk rfl rfl rfl (qf_nil (q_cond_false rfl (q_skip (q_blk (q_region (ql_ar tabOk rfl rfl rfl rfl (by omega) (by omega) (ql_pure tabOk rfl rfl (q_nil ?_)))))))))))
          exact hK2 (y + 1) _ _ (by omega) (by omega) ⟨rfl, rfl, rfl, rfl, rfl, rfl, rfl, rfl, rfl, trivial⟩ (by repeat constructor)
      · clear hc hK2 hy
        (refine q_exit _ rfl (q_blk (q_region (ql_ar tabOk rfl rfl rfl rfl (by omega) (by omega) (ql_pure tabOk rfl rfl (q_nil ?_))))))
        exact hK (x + 1) _ _ (by omega) (by omega) ⟨rfl, rfl, rfl, rfl, rfl, rfl, trivial⟩ (by repeat constructor)
    · clear hc hK hx
      (refine q_exit _ rfl (q_seq (q_region ?_)))
      refine ql_callv (val := .bool true) tabOk rfl rfl rfl rfl (fun w hs => ?_) ?_; exact awake_ca w
      (refine ql_pure tabOk rfl rfl (q_nil (q_ret ?_)))
      refine q_fin tabOk rfl (by repeat constructor) fun w hs => ?_
      exact ⟨rfl, hs.chg0⟩
end Go.Proofs.YtcmpdmobmbbplaaGreat
