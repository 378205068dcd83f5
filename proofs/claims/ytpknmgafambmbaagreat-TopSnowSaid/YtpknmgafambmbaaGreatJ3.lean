/- My texts K4, K5, K6, K7, K8, K9, K10, K11, K12, K13, K14, K15, K16, K17, K18, B26, K19, K20, K21, K22, B27, K23, K24, K25, K1, K26, K27, L0, E0, E16, E17, E18, E19, E20, E21, E22, E1, E2, E3, E4, E5, L7, E6, E7, E8, E9, E10, E11, E12, E13, E14, T0, T1, E15, E23, K28, P0, L8, W6, L9, H0, B28, B29, joined: a claim takes at most 60 files. -/
import Derived.Test.YtpknmgafambmbaaGreatJ2
import Derived.ChangeKeysEq
import Derived.ChangeSlices
import Derived.ChangeArms
import Derived.ChangeShapes

/- Walks: what happens in a weather. -/
/- long -/
namespace Go.Proofs.YtpknmgafambmbaaGreat
open Go Go.Eng

/-- Numbers of piles. -/
def PB (l : List (Int × Int)) : Prop := ∀ y ∈ l, 0 ≤ y.2 ∧ y.2 ≤ 10000000
theorem remP_pb : ∀ (l : List (Int × Int)) (much : Int), PB l → PB (remP much l) ∧ (remP much l).length ≤ l.length
  | [], _, _ => ⟨by simp [remP, PB], by simp [remP]⟩
  | (d, m) :: r, much, h => by
    have hm := h (d, m) List.mem_cons_self
    have hr : PB r := fun y hy => h y (List.mem_cons_of_mem _ hy)
    simp only at hm
    unfold remP
    split
    · split
      · have ih := remP_pb r (much - min much m) hr
        exact ⟨ih.1, by simp only [List.length_cons]; omega⟩
      · refine ⟨fun y hy => ?_, by simp⟩
        rcases List.mem_cons.1 hy with rfl | hy
        · simp only; omega
        · exact hr y hy
    · exact ⟨h, Nat.le_refl _⟩
theorem addP_pb {l : List (Int × Int)} {d m : Int} (h : PB l) (hm : m ≤ 10000000) : PB (addP d m l) ∧ (addP d m l).length ≤ l.length + 1 := by
  unfold addP
  split
  · refine ⟨fun y hy => ?_, by simp⟩
    rcases List.mem_append.1 hy with hy | hy
    · exact h y hy
    · obtain rfl := List.mem_singleton.1 hy
      simp only; omega
  · exact ⟨h, by omega⟩
theorem hap_pb (x : Wn) (t : Wt) (h0 : 0 ≤ x.stock ∧ x.stock ≤ x.store ∧ x.store ≤ 1000000) (hn : ∀ y ∈ t.need, 0 ≤ y ∧ y ≤ 200000) (hm : ∀ y ∈ t.make, 0 ≤ y ∧ y ≤ 200000) : ∀ k, PB (hapP x t k).piles ∧ (hapP x t k).piles.length ≤ k + 1
  | 0 => by
    have := addP_pb (l := []) (d := -1) (m := x.stock) (by simp [PB]) (by omega)
    exact ⟨this.1, this.2⟩
  | k + 1 => by
    obtain ⟨h1, h2⟩ := hap_pb x t h0 hn hm k
    rw [hapP]
    split
    · unfold dayS
      split
      · exact ⟨h1, by simp only; omega⟩
      · have g1 := remP_pb _ (lossOf (hapP x t k).stock (t.loss.getD k 0)) h1
        have hmd : madeOf x.store (hapP x t k).stock (t.make.getD k 0) (t.loss.getD k 0) ≤ 10000000 := by
          have := getD_in hm (by omega) (by omega) k
          unfold madeOf
          omega
        have g2 := addP_pb (d := (k : Int)) g1.1 hmd
        have g3 := remP_pb _ (t.need.getD k 0) g2.1
        exact ⟨g3.1, by simp only; omega⟩
    · exact ⟨h1, by omega⟩

theorem nil_plK {w0 w : World} {M : Nat → Prop} {R : List Ck} (h : Sat w0 M R w) : Sat w0 M (plK (.slice none 0 0) [] :: R) w :=
  h.add (Chg.refl _ _) ⟨rfl, .inl ⟨.inl rfl, rfl⟩⟩ (fun b hb => by obtain ⟨_, _, _, hv⟩ := hb; cases hv)

/-- A weather that can be read. -/
structure WtR (w : World) (t : Wt) (v1 v2 v3 : Value) : Prop where
  n : ∃ lo hi, RdI w lo hi v1 t.need
  m : ∃ lo hi, RdI w lo hi v2 t.make
  l : ∃ lo hi, RdI w lo hi v3 t.loss
theorem WtR.keep {w w' : World} {t : Wt} {v1 v2 v3 : Value} (h : WtR w t v1 v2 v3) (c : Chg [] w w') : WtR w' t v1 v2 v3 := by
  obtain ⟨⟨a, b, h1⟩, ⟨a2, b2, h2⟩, a3, b3, h3⟩ := h
  exact ⟨⟨a, b, RdE.keep h1 c⟩, ⟨a2, b2, RdE.keep h2 c⟩, a3, b3, RdE.keep h3 c⟩

set_option maxHeartbeats 4000000 in
theorem happens_ca (w : World) (x : Wn) (ad : Option Addr) (c : Nat) (t : Wt) (v1 v2 v3 : Value) (hx : 0 ≤ x.stock ∧ x.stock ≤ x.store ∧ x.store ≤ 1000000) (hlen : x.days.length ≤ 60) (ht : t.Fine x.days.length) (hw : WtR w t v1 v2 v3) :
    Ca Tryz.prog 48 [.agg (wnC x ad c).toArray, .agg #[v1, v2, v3]] w fun r w' => ∃ y : Nat × Value × Value × Value, r = .pointer (some ⟨y.1, 0, none⟩) ∧
      Sat w M0 [runK y.1 x ad c (hapV x t).fails (hapV x t).full y.2.1 y.2.2.1 y.2.2.2, .ow y.2.1 3 1 (hapV x t).stocks.length (ints (hapV x t).stocks), .ow y.2.2.1 3 1 (hapV x t).made.length (ints (hapV x t).made), plK y.2.2.2 (hapV x t).piles] w' := by
  obtain ⟨⟨n1, n2, hn⟩, ⟨m1, m2, hm⟩, l1, l2, hl⟩ := hw
  obtain ⟨an, cn, rfl, hsn⟩ := RdI.outI hn
  obtain ⟨am, cm, rfl, hsm⟩ := RdI.outI hm
  obtain ⟨al, cl, rfl, hsl⟩ := RdI.outI hl
  have tn := ht.need
  have tm := ht.make
  have tl := ht.loss
  refine q_of (Sat.nil w M0) Tryz.func48 rfl (by simp [Tryz.ntmps48]) ?_
  (refine q_seq (q_region ?_))
  refine ql_box rfl rfl (fun b2 => ?_)
  refine ql_box rfl rfl (fun b3 => ?_)
  (refine ql_pure tabOk rfl rfl (q_nil ?_))
  refine q_scope (fun _ _ _ h => h) ?_
  (refine q_seq (q_region ?_); refine ql_loadAB tabOk rfl rfl rfl (by repeat first | exact .head _ | refine .tail _ ?_) (by rfl) (by rfl) ?_)
  refine ql_mk #[.int .i64 x.stock, .int .i64 x.store, .slice ad x.days.length c, .int .i64 (-1), .slice none 0 0, .slice none 0 0, .int .i64 (-1), .slice none 0 0] rfl (by kernel_rfl) rfl ?_
  refine ql_box rfl rfl (fun br => ?_)
  (refine ql_pure tabOk rfl rfl (q_nil (q_seq (q_region ?_))); (iterate 5 refine ql_pure tabOk rfl rfl ?_); refine ql_loadB tabOk rfl rfl rfl (by repeat first | exact .head _ | refine .tail _ ?_) (by rfl) ?_)
  refine ql_conv (H' := [runK br x ad c (-1) (-1) (.slice none 0 0) (.slice none 0 0) (.slice none 0 0), plK (.slice none 0 0) [], .ow (.slice none 0 0) 3 1 0 (ints []), .ow (.slice none 0 0) 3 1 0 (ints []), .pt b3 [.slice an t.need.length cn, .slice am t.make.length cm, .slice al t.loss.length cl] 122])
    (fun w' hs => (nil_plK (Sat.ownil (Sat.ownil hs 3 1) 3 1)).sp (by repeat (first | exact Sp.nil | exact Sp.refl _ | refine Sp.cons (by repeat constructor) ?_))) ?_
  refine ql_call (β := Value) (ψ := fun pv _ => ∃ a' c', pv = .slice a' (addP (-1) x.stock []).length c') (L' := fun pv => [runK br x ad c (-1) (-1) (.slice none 0 0) (.slice none 0 0) pv, plK pv (addP (-1) x.stock [])]) tabOk [runK br x ad c (-1) (-1) (.slice none 0 0) (.slice none 0 0) (.slice none 0 0), plK (.slice none 0 0) []] _ (DL [runK br x ad c (-1) (-1) (.slice none 0 0) (.slice none 0 0) (.slice none 0 0), plK (.slice none 0 0) []]) rfl rfl rfl rfl (by repeat (first | exact Sp.nil | exact Sp.refl _ | refine Sp.cons (by repeat constructor) ?_)) (fun _ h => h)
    (fun w' hs => (addR_ca w' br x ad c (-1) (-1) (-1) x.stock _ _ none [] (by simp) (Sat.self hs)).mono fun v w'' ⟨pv, h1, h2⟩ => ⟨pv, h1, h2⟩) ?_
  rintro pv _ ⟨a0, c0, rfl⟩
  (refine q_nil (q_seq (q_region ?_)); (iterate 4 refine ql_pure tabOk rfl rfl ?_); refine ql_loadB tabOk rfl rfl rfl (by repeat first | exact .head _ | refine .tail _ ?_) (by rfl) ?_; refine ql_pure tabOk rfl rfl (q_nil (q_seq (q_label (q_seq (q_seq (q_region ?_)))))); (iterate 4 refine ql_pure tabOk rfl rfl ?_); refine ql_loadB tabOk rfl rfl rfl (by repeat first | exact .head _ | refine .tail _ ?_) (by rfl) ?_; refine ql_pure tabOk rfl rfl (ql_pure tabOk rfl rfl (q_nil (q_block ?_))))
  refine q_loop (σ := Nat × Value × Value × Option Addr × Nat) (fun s => s.1 ≤ x.days.length ∧ (hapP x t s.1).fails = -1) (fun s => x.days.length - s.1)
    (fun s => [(3, .pointer (some ⟨b3, 0, none⟩)), (5, .pointer (some ⟨br, 0, none⟩)), (6, .int .i64 (hapP x t s.1).stock), (31, .int .i64 x.days.length), (32, .int .i64 s.1)])
    (fun s => [runK br x ad c (-1) (hapP x t s.1).full s.2.1 s.2.2.1 (.slice s.2.2.2.1 (hapP x t s.1).piles.length s.2.2.2.2), plK (.slice s.2.2.2.1 (hapP x t s.1).piles.length s.2.2.2.2) (hapP x t s.1).piles, .ow s.2.1 3 1 s.1 (ints (hapP x t s.1).stocks), .ow s.2.2.1 3 1 s.1 (ints (hapP x t s.1).made), .pt b3 [.slice an t.need.length cn, .slice am t.make.length cm, .slice al t.loss.length cl] 122])
    (0, .slice none 0 0, .slice none 0 0, a0, c0) ⟨by simp, rfl⟩ ⟨rfl, rfl, rfl, rfl, rfl, trivial⟩ (by repeat (first | exact Sp.nil | exact Sp.refl _ | refine Sp.cons (by repeat constructor) ?_)) ?_
  rintro ⟨k, sv, mv, pa, pc⟩ ⟨hk, hf⟩ K hK
  simp only at hk hf
  dsimp only
  have hok := hap_ok x t ⟨hx.1, hx.2.1⟩ ht.need0 k hf
  have hpb := hap_pb x t hx ht.need0 ht.make0 k
  have hs0 := hok.nn k (Nat.le_refl _)
  have hs1 := hok.top
  rw [← hok.stock] at hs0 hs1
  (refine q_seq (q_region (ql_pure tabOk rfl rfl (q_nil (q_seq ?_)))))
  refine q_if rfl (fun hc => ?_) (fun hc => ?_)
  · have hk2 : k < x.days.length := by omega
    clear hc
    obtain ⟨bn, on, rfl⟩ := hsn (by omega)
    obtain ⟨bm, om, rfl⟩ := hsm (by omega)
    obtain ⟨bl, ol, rfl⟩ := hsl (by omega)
    have hnk : k < t.need.length := by omega
    have hmk : k < t.make.length := by omega
    have hlk : k < t.loss.length := by omega
    have en := getD_at hnk
    have em := getD_at hmk
    have el := getD_at hlk
    have bn1 := ht.need0 _ (List.getElem_mem hnk)
    have bm1 := ht.make0 _ (List.getElem_mem hmk)
    have bl1 := ht.loss0 _ (List.getElem_mem hlk)
    have eday : hapP x t (k + 1) = dayS x.store k t.need[k] t.make[k] t.loss[k] (hapP x t k) := by rw [hapP, if_pos hf, en, em, el]
    have hlens : (hapP x t k).stocks.length = k := by rw [hok.stocks]; simp
    have hlenm : (hapP x t k).made.length = k := by rw [hok.made]; simp
    generalize hS : hapP x t k = S at *
    obtain ⟨stk, sts, mds, ful, pls, fl⟩ := S
    simp only at hf hs0 hs1 hpb hlens hlenm
    subst hf
    dsimp only
    (refine q_skip (q_seq (q_block (q_seq (q_region (ql_pure tabOk rfl rfl (ql_pure tabOk rfl rfl (q_nil (q_seq (q_region ?_))))))))); (iterate 3 refine ql_pure tabOk rfl rfl ?_); refine ql_loadB tabOk rfl rfl rfl (by repeat first | exact .head _ | refine .tail _ ?_) (by rfl) ?_; refine ql_pure tabOk rfl rfl (q_nil (q_seq (q_region (ql_pure tabOk rfl rfl (ql_pure tabOk rfl rfl ?_))))); refine ql_loadB tabOk rfl rfl rfl (by repeat first | exact .head _ | refine .tail _ ?_) (by rfl) ?_; refine ql_pure tabOk rfl rfl ?_)
    (refine ql_index tabOk rfl rfl rfl rfl rfl (by omega) (by omega) ?_; refine ql_load1 tabOk rfl rfl rfl (fun w hs => RdI.at (RdE.keep hl hs.chg0) k hlk) ?_)
    generalize hle : t.loss[k] = ls at *
    generalize hme : t.make[k] = mk at *
    generalize hne : t.need[k] = nd at *
    obtain ⟨lo_, hlo⟩ : ∃ z, z = min stk ls := ⟨_, rfl⟩
    (refine ql_pure tabOk rfl rfl (ql_pure tabOk rfl rfl (q_nil (q_seq (q_region (ql_pure tabOk rfl rfl (ql_pure tabOk rfl rfl ?_)))))))
    rw [← hlo]
    refine ql_call (β := Option Addr) (ψ := fun _ _ => True) (L' := fun a' => [runK br x ad c (-1) ful sv mv (.slice a' (remP lo_ pls).length (remP lo_ pls).length), plK (.slice a' (remP lo_ pls).length (remP lo_ pls).length) (remP lo_ pls), plK (.slice pa pls.length pc) pls]) tabOk [runK br x ad c (-1) ful sv mv (.slice pa pls.length pc), plK (.slice pa pls.length pc) pls] _ (DL [runK br x ad c (-1) ful sv mv (.slice pa pls.length pc), plK (.slice pa pls.length pc) pls]) rfl rfl rfl rfl (by repeat (first | exact Sp.nil | exact Sp.refl _ | refine Sp.cons (by repeat constructor) ?_)) (fun _ h => h)
      (fun w' hs => (remR_ca w' br x ad c (-1) ful lo_ sv mv pa pc pls (by omega) hpb.1 (by omega) (Sat.self hs)).mono fun v w'' ⟨a', h2⟩ => ⟨a', trivial, h2⟩) ?_
    rintro a' v' -
    have hp1 := remP_pb pls lo_ hpb.1
    (refine q_nil (q_seq (q_region (ql_pure tabOk rfl rfl (ql_pure tabOk rfl rfl (ql_ar tabOk rfl rfl rfl rfl (by omega) (by omega) (ql_pure tabOk rfl rfl (q_nil (q_seq ?_)))))))))
    refine q_draw _ [] (Sp.refl _) (by kernel_rfl) (by kernel_rfl) ?_
    (refine qf_pure tabOk rfl rfl rfl ?_; refine qf_loadB tabOk rfl rfl rfl (by repeat first | exact .head _ | refine .tail _ ?_) (by rfl) ?_; refine qf_pure tabOk rfl rfl rfl ?_)
    (refine qf_index tabOk rfl rfl rfl rfl rfl (by omega) (by omega) ?_; refine qf_load1 tabOk rfl rfl rfl (fun w hs => RdI.at (RdE.keep hm hs.chg0) k hmk) ?_)
    rw [hme]
    ((iterate 4 refine qf_pure tabOk rfl rfl rfl ?_); refine qf_loadB tabOk rfl rfl rfl (by repeat first | exact .head _ | refine .tail _ ?_) (by rfl) ?_; refine qf_pure tabOk rfl rfl rfl (qf_ar tabOk rfl rfl rfl rfl (by omega) (by omega) (qf_pure tabOk rfl rfl rfl (qf_pure tabOk rfl rfl rfl (qf_nil (q_seq (q_region (ql_pure tabOk rfl rfl (ql_pure tabOk rfl rfl (ql_ar tabOk rfl rfl rfl rfl (by omega) (by omega) (ql_pure tabOk rfl rfl (q_nil ?_))))))))))); refine q_seq (q_seq (q_region ?_)); (iterate 5 refine ql_pure tabOk rfl rfl ?_); refine ql_loadB tabOk rfl rfl rfl (by repeat first | exact .head _ | refine .tail _ ?_) (by rfl) ?_; refine ql_pure tabOk rfl rfl (q_nil ?_))
    obtain ⟨md, hmd⟩ : ∃ z, z = min mk (x.store - (stk - lo_)) := ⟨_, rfl⟩
    rw [← hmd]
    have hdef : dayS x.store k nd mk ls ⟨stk, sts, mds, ful, pls, -1⟩ = if stk - lo_ + md < nd then ⟨stk - lo_ + md, sts, mds, if stk - lo_ + md = x.store then (k : Int) else ful, pls, k⟩
        else ⟨stk - lo_ + md - nd, sts ++ [stk - lo_ + md - nd], mds ++ [md], if stk - lo_ + md = x.store then (k : Int) else ful, remP nd (addP k md (remP lo_ pls)), -1⟩ := by
      rw [hmd, hlo]
      rfl
    skip
    obtain ⟨ful', hful⟩ : ∃ z, z = if stk - lo_ + md = x.store then (k : Int) else ful := ⟨_, rfl⟩
    rw [← hful] at hdef
    refine q_cut (σ := Unit) (fun _ => [(3, .pointer (some ⟨b3, 0, none⟩)), (5, .pointer (some ⟨br, 0, none⟩)), (6, .int .i64 (stk - lo_ + md)), (7, .int .i64 k), (8, .slice pa pls.length pc), (10, .int .i64 md), (31, .int .i64 x.days.length), (32, .int .i64 k)])
      (fun _ => [runK br x ad c (-1) ful' sv mv (.slice a' (remP lo_ pls).length (remP lo_ pls).length), plK (.slice a' (remP lo_ pls).length (remP lo_ pls).length) (remP lo_ pls), plK (.slice pa pls.length pc) pls, .ow sv 3 1 k (ints sts), .ow mv 3 1 k (ints mds), .pt b3 [.slice (some ⟨bn, on, none⟩) t.need.length cn, .slice (some ⟨bm, om, none⟩) t.make.length cm, .slice (some ⟨bl, ol, none⟩) t.loss.length cl] 122]) ?_ ?_
    · intro _
      clear hful
      (refine q_seq (q_seq (q_region (ql_pure tabOk rfl rfl (ql_pure tabOk rfl rfl ?_)))); refine ql_loadB tabOk rfl rfl rfl (by repeat first | exact .head _ | refine .tail _ ?_) (by rfl) ?_; refine ql_pure tabOk rfl rfl ?_)
      (refine ql_index tabOk rfl rfl rfl rfl rfl (by omega) (by omega) ?_; refine ql_load1 tabOk rfl rfl rfl (fun w hs => RdI.at (RdE.keep hn hs.chg0) k hnk) ?_)
      rw [hne]
      (refine ql_pure tabOk rfl rfl (q_nil ?_))
      refine q_if rfl (fun hc => ?_) (fun hc => ?_)
      · have hfl : stk - lo_ + md < nd := by assumption
        rw [if_pos hfl] at hdef
        rw [hdef] at eday
        have estay : hapV x t = ⟨stk - lo_ + md, sts, mds, ful', pls, k⟩ := by
          unfold hapV
          rw [hapP_stay x t (k := k + 1) (by rw [eday]; simp only; omega) _ (by omega), eday]
        (refine q_seq (q_region ?_); (iterate 6 refine ql_pure tabOk rfl rfl ?_); refine ql_st7 tabOk rfl rfl rfl rfl (by repeat constructor) ?_; refine ql_pure tabOk rfl rfl (ql_pure tabOk rfl rfl ?_); refine ql_st3 tabOk rfl rfl rfl rfl (by repeat constructor) ?_; refine q_nil (q_exit _ rfl (q_seq (q_region (ql_pure tabOk rfl rfl (ql_pure tabOk rfl rfl (q_nil (q_ret ?_))))))))
        refine q_fin tabOk rfl (by repeat (first | exact RVs.nil | apply RVs.tmp rfl | apply RVs.cellA rfl rfl (by repeat first | exact .head _ | refine .tail _ ?_) (by rfl) | apply RVs.cell1 rfl rfl (by repeat first | exact .head _ | refine .tail _ ?_))) fun w hs => ?_
        rw [estay]
        refine ⟨(br, sv, mv, .slice pa pls.length pc), rfl, ?_⟩
        simp only [hlens, hlenm]
        exact hs.sp (by repeat (first | exact Sp.nil | exact Sp.refl _ | refine Sp.cons (by repeat constructor) ?_))
      · have hfl : ¬ stk - lo_ + md < nd := by assumption
        rw [if_neg hfl] at hdef
        rw [hdef] at eday
        have hp2 := addP_pb (d := (k : Int)) (m := md) hp1.1 (by omega)
        (refine q_skip (q_seq (q_region ?_)); (iterate 3 refine ql_pure tabOk rfl rfl ?_))
        refine ql_call (β := Value) (ψ := fun pv _ => ∃ a' c', pv = .slice a' (addP k md (remP lo_ pls)).length c') (L' := fun pv => [runK br x ad c (-1) ful' sv mv pv, plK pv (addP k md (remP lo_ pls))]) tabOk [runK br x ad c (-1) ful' sv mv (.slice a' (remP lo_ pls).length (remP lo_ pls).length), plK (.slice a' (remP lo_ pls).length (remP lo_ pls).length) (remP lo_ pls)] _ (DL [runK br x ad c (-1) ful' sv mv (.slice a' (remP lo_ pls).length (remP lo_ pls).length), plK (.slice a' (remP lo_ pls).length (remP lo_ pls).length) (remP lo_ pls)]) rfl rfl rfl rfl (by repeat (first | exact Sp.nil | exact Sp.refl _ | refine Sp.cons (by repeat constructor) ?_)) (fun _ h => h)
          (fun w' hs => (addR_ca w' br x ad c (-1) ful' k md sv mv a' (remP lo_ pls) (by omega) (Sat.self hs)).mono fun v w'' ⟨pv, h1, h2⟩ => ⟨pv, h1, h2⟩) ?_
        rintro pv2 _ ⟨a2, c2, rfl⟩
        generalize hl2 : addP k md (remP lo_ pls) = pl2 at *
        (refine q_nil (q_seq (q_region (ql_pure tabOk rfl rfl (ql_pure tabOk rfl rfl ?_)))); refine ql_loadB tabOk rfl rfl rfl (by repeat first | exact .head _ | refine .tail _ ?_) (by rfl) ?_; refine ql_pure tabOk rfl rfl ?_)
        (refine ql_index tabOk rfl rfl rfl rfl rfl (by omega) (by omega) ?_; refine ql_load1 tabOk rfl rfl rfl (fun w hs => RdI.at (RdE.keep hn hs.chg0) k hnk) ?_)
        rw [hne]
        skip
        refine ql_call (β := Option Addr) (ψ := fun _ _ => True) (L' := fun a' => [runK br x ad c (-1) ful' sv mv (.slice a' (remP nd pl2).length (remP nd pl2).length), plK (.slice a' (remP nd pl2).length (remP nd pl2).length) (remP nd pl2), plK (.slice a2 pl2.length c2) pl2]) tabOk [runK br x ad c (-1) ful' sv mv (.slice a2 pl2.length c2), plK (.slice a2 pl2.length c2) pl2] _ (DL [runK br x ad c (-1) ful' sv mv (.slice a2 pl2.length c2), plK (.slice a2 pl2.length c2) pl2]) rfl rfl rfl rfl (by repeat (first | exact Sp.nil | exact Sp.refl _ | refine Sp.cons (by repeat constructor) ?_)) (fun _ h => h)
          (fun w' hs => (remR_ca w' br x ad c (-1) ful' nd sv mv a2 c2 pl2 (by omega) hp2.1 (by omega) (Sat.self hs)).mono fun v w'' ⟨a', h2⟩ => ⟨a', trivial, h2⟩) ?_
        rintro a3 v3 -
        (refine q_nil (q_seq (q_region (ql_pure tabOk rfl rfl (ql_pure tabOk rfl rfl ?_)))); refine ql_loadB tabOk rfl rfl rfl (by repeat first | exact .head _ | refine .tail _ ?_) (by rfl) ?_; refine ql_pure tabOk rfl rfl ?_)
        (refine ql_index tabOk rfl rfl rfl rfl rfl (by omega) (by omega) ?_; refine ql_load1 tabOk rfl rfl rfl (fun w hs => RdI.at (RdE.keep hn hs.chg0) k hnk) ?_)
        rw [hne]
        (refine ql_ar tabOk rfl rfl rfl rfl (by omega) (by omega) (ql_pure tabOk rfl rfl (q_nil ?_)))
        refine q_drawX (chainT [0, 2, 3, 4, 5, 6, 9, 10, 11, 12, 13] (.alt (chainT [7] (.alt (chainT [8] (chainT [14] (chainT [15] (chainT [1, 16, 17, 18, 19, 20, 21] .nil)))) (chainT [14] (chainT [8] (chainT [15] (chainT [1, 16, 17, 18, 19, 20, 21] .nil)))))) (chainT [14] (chainT [7] (chainT [8] (chainT [15] (chainT [1, 16, 17, 18, 19, 20, 21] .nil))))))) [true, false, true, true, true, true, true, true, true, true, true, true, true, true, true, true, false, false, false, false, false, false] [runK br x ad c (-1) ful' sv mv (.slice a3 (remP nd pl2).length (remP nd pl2).length), plK (.slice a3 (remP nd pl2).length (remP nd pl2).length) (remP nd pl2), .pt b3 [.slice (some ⟨bn, on, none⟩) t.need.length cn, .slice (some ⟨bm, om, none⟩) t.make.length cm, .slice (some ⟨bl, ol, none⟩) t.loss.length cl] 122] [.ow sv 3 1 k (ints sts), .ow mv 3 1 k (ints mds)] [plK (.slice a3 (remP nd pl2).length (remP nd pl2).length) (remP nd pl2), .pt b3 [.slice (some ⟨bn, on, none⟩) t.need.length cn, .slice (some ⟨bm, om, none⟩) t.make.length cm, .slice (some ⟨bl, ol, none⟩) t.loss.length cl] 122] [runK br x ad c (-1) ful' sv mv (.slice a3 (remP nd pl2).length (remP nd pl2).length)]
          (by repeat (first | exact Sp.nil | exact Sp.refl _ | refine Sp.cons (by repeat constructor) ?_)) (by repeat (first | exact Sp.nil | exact Sp.refl _ | refine Sp.cons (by repeat constructor) ?_)) (by kernel_rfl) (by kernel_rfl) (by kernel_rfl) ?_
        refine qx_T [.ow sv 3 1 k (ints sts), .ow mv 3 1 k (ints mds)] (by repeat (first | exact PickL.nil | (apply PickL.cons; rfl))) rfl (by repeat (first | exact Sp.nil | exact Sp.refl _ | refine Sp.cons (by repeat constructor) ?_)) fun K1 hK1 => ?_
        ((iterate 4 refine qf_pure tabOk rfl rfl rfl ?_); refine qf_loadB tabOk rfl rfl rfl (by repeat first | exact .head _ | refine .tail _ ?_) (by rfl) ?_; (iterate 4 refine qf_pure tabOk rfl rfl rfl ?_); refine qf_loadB tabOk rfl rfl rfl (by repeat first | exact .head _ | refine .tail _ ?_) (by rfl) ?_; refine qf_pure tabOk rfl rfl rfl (qf_nil ?_))
        refine hK1 _ _ ?_
        refine qx_let (σ := Value × Nat) (chainT [15] (chainT [1, 16, 17, 18, 19, 20, 21] .nil)) (fun y => [(3, .pointer (some ⟨b3, 0, none⟩)), (5, .pointer (some ⟨br, 0, none⟩)), (6, .int .i64 (stk - lo_ + md - nd)), (31, .int .i64 x.days.length), (32, .int .i64 k), (112, .pointer (some ⟨br, 0, none⟩)), (120, y.1), (124, mv), (126, .slice (some ⟨y.2, 0, none⟩) 1 1)]) (fun y => [.ow y.1 3 1 (k + 1) (ints sts ++ [.int .i64 (stk - lo_ + md - nd)]), .ow mv 3 1 k (ints mds), .pt y.2 [.int .i64 md] 3, runK br x ad c (-1) ful' sv mv (.slice a3 (remP nd pl2).length (remP nd pl2).length), plK (.slice a3 (remP nd pl2).length (remP nd pl2).length) (remP nd pl2), .pt b3 [.slice (some ⟨bn, on, none⟩) t.need.length cn, .slice (some ⟨bm, om, none⟩) t.make.length cm, .slice (some ⟨bl, ol, none⟩) t.loss.length cl] 122]) ?_ ?_
        · rintro ⟨u1, c14⟩
          dsimp only
          refine qx_T [.ow u1 3 1 (k + 1) (ints sts ++ [.int .i64 (stk - lo_ + md - nd)]), .ow mv 3 1 k (ints mds), .pt c14 [.int .i64 md] 3] (by repeat (first | exact PickL.nil | (apply PickL.cons; rfl))) rfl (by repeat (first | exact Sp.nil | exact Sp.refl _ | refine Sp.cons (by repeat constructor) ?_)) fun K1 hK1 => ?_
          skip
          refine qf_append (q := 1) slI rfl rfl rfl (fun v' => by repeat constructor) (fun w' hs => ⟨_, _, Blk.rd (hs.blk (b := c14) (by repeat first | exact .head _ | refine .tail _ ?_)) rfl 1⟩) (by simp [oneV]) (by omega) (by omega) (fun u2 => ?_)
          (refine qf_nil ?_)
          refine hK1 _ _ ?_
          refine qx_F [.ow u1 3 1 (k + 1) (ints sts ++ [.int .i64 (stk - lo_ + md - nd)]), .ow u2 3 1 (k + 1) (ints mds ++ [.int .i64 md]), runK br x ad c (-1) ful' sv mv (.slice a3 (remP nd pl2).length (remP nd pl2).length)] (by repeat (first | exact PickL.nil | (apply PickL.cons; rfl))) rfl (by repeat (first | exact Sp.nil | exact Sp.refl _ | refine Sp.cons (by repeat constructor) ?_)) fun K1 hK1 => ?_
          refine qf_fact (fun w hs => hs.slice (v := u1) (by repeat first | exact .head _ | refine .tail _ ?_)) ?_
          rintro ⟨d1, e1, g1, rfl⟩
          refine qf_fact (fun w hs => hs.slice (v := u2) (by repeat first | exact .head _ | refine .tail _ ?_)) ?_
          rintro ⟨d2, e2, g2, rfl⟩
          ((iterate 3 refine qf_pure tabOk rfl rfl rfl ?_); refine qf_st4 tabOk rfl rfl rfl rfl (by repeat constructor) ?_; refine qf_pure tabOk rfl rfl rfl (qf_pure tabOk rfl rfl rfl ?_); refine qf_st5 tabOk rfl rfl rfl rfl (by repeat constructor) ?_; refine qf_nil ?_)
          refine hK1 _ _ (qx_nil ?_)
          (refine q_blk (q_region (ql_ar tabOk rfl rfl rfl rfl (by omega) (by omega) (ql_pure tabOk rfl rfl (q_nil ?_)))))
          have f1 : ints (sts ++ [(stk - lo_ + md - nd)]) = ints sts ++ [.int .i64 (stk - lo_ + md - nd)] := by simp [ints]
          have f2 : ints (mds ++ [md]) = ints mds ++ [.int .i64 md] := by simp [ints]
          refine hK (k + 1, .slice d1 e1 g1, .slice d2 e2 g2, a3, (remP nd pl2).length) _ _ ⟨by simp only; omega, by simp only; rw [eday]⟩ (by simp only; omega) ⟨rfl, rfl, by simp only; rw [eday]; rfl, rfl, rfl, trivial⟩ (by dsimp only; rw [eday]; dsimp only; rw [f1, f2]; repeat (first | exact Sp.nil | exact Sp.refl _ | refine Sp.cons (by repeat constructor) ?_))
        · intro use
          refine qx_alt ?_ ?_
          · skip
            refine qx_T [.ow sv 3 1 k (ints sts), .ow mv 3 1 k (ints mds)] (by repeat (first | exact PickL.nil | (apply PickL.cons; rfl))) rfl (by repeat (first | exact Sp.nil | exact Sp.refl _ | refine Sp.cons (by repeat constructor) ?_)) fun K1 hK1 => ?_
            skip
            refine qf_mkS 3 [.int .i64 (stk - lo_ + md - nd)] rfl (by kernel_rfl) rfl (fun c7 => ?_)
            (refine qf_nil ?_)
            refine hK1 _ _ ?_
            refine qx_alt ?_ ?_
            · skip
              refine qx_T [.ow sv 3 1 k (ints sts), .ow mv 3 1 k (ints mds), .pt c7 [.int .i64 (stk - lo_ + md - nd)] 3] (by repeat (first | exact PickL.nil | (apply PickL.cons; rfl))) rfl (by repeat (first | exact Sp.nil | exact Sp.refl _ | refine Sp.cons (by repeat constructor) ?_)) fun K1 hK1 => ?_
              skip
              refine qf_append (q := 1) slI rfl rfl rfl (fun v' => by repeat constructor) (fun w' hs => ⟨_, _, Blk.rd (hs.blk (b := c7) (by repeat first | exact .head _ | refine .tail _ ?_)) rfl 1⟩) (by simp [oneV]) (by omega) (by omega) (fun u1 => ?_)
              (refine qf_nil ?_)
              refine hK1 _ _ ?_
              refine qx_T [.ow u1 3 1 (k + 1) (ints sts ++ [.int .i64 (stk - lo_ + md - nd)]), .ow mv 3 1 k (ints mds), .pt c7 [.int .i64 (stk - lo_ + md - nd)] 3] (by repeat (first | exact PickL.nil | (apply PickL.cons; rfl))) rfl (by repeat (first | exact Sp.nil | exact Sp.refl _ | refine Sp.cons (by repeat constructor) ?_)) fun K1 hK1 => ?_
              skip
              refine qf_mkS 3 [.int .i64 md] rfl (by kernel_rfl) rfl (fun c14 => ?_)
              (refine qf_nil ?_)
              refine hK1 _ _ ?_
              exact use (u1, c14) _ _ ⟨rfl, rfl, rfl, rfl, rfl, rfl, rfl, rfl, rfl, trivial⟩ (by repeat (first | exact Sp.nil | exact Sp.refl _ | refine Sp.cons (by repeat constructor) ?_))
            · skip
              refine qx_T [.ow sv 3 1 k (ints sts), .ow mv 3 1 k (ints mds), .pt c7 [.int .i64 (stk - lo_ + md - nd)] 3] (by repeat (first | exact PickL.nil | (apply PickL.cons; rfl))) rfl (by repeat (first | exact Sp.nil | exact Sp.refl _ | refine Sp.cons (by repeat constructor) ?_)) fun K1 hK1 => ?_
              skip
              refine qf_mkS 3 [.int .i64 md] rfl (by kernel_rfl) rfl (fun c14 => ?_)
              (refine qf_nil ?_)
              refine hK1 _ _ ?_
              refine qx_T [.ow sv 3 1 k (ints sts), .ow mv 3 1 k (ints mds), .pt c7 [.int .i64 (stk - lo_ + md - nd)] 3, .pt c14 [.int .i64 md] 3] (by repeat (first | exact PickL.nil | (apply PickL.cons; rfl))) rfl (by repeat (first | exact Sp.nil | exact Sp.refl _ | refine Sp.cons (by repeat constructor) ?_)) fun K1 hK1 => ?_
              skip
              refine qf_append (q := 1) slI rfl rfl rfl (fun v' => by repeat constructor) (fun w' hs => ⟨_, _, Blk.rd (hs.blk (b := c7) (by repeat first | exact .head _ | refine .tail _ ?_)) rfl 1⟩) (by simp [oneV]) (by omega) (by omega) (fun u1 => ?_)
              (refine qf_nil ?_)
              refine hK1 _ _ ?_
              exact use (u1, c14) _ _ ⟨rfl, rfl, rfl, rfl, rfl, rfl, rfl, rfl, rfl, trivial⟩ (by repeat (first | exact Sp.nil | exact Sp.refl _ | refine Sp.cons (by repeat constructor) ?_))
          · skip
            refine qx_T [.ow sv 3 1 k (ints sts), .ow mv 3 1 k (ints mds)] (by repeat (first | exact PickL.nil | (apply PickL.cons; rfl))) rfl (by repeat (first | exact Sp.nil | exact Sp.refl _ | refine Sp.cons (by repeat constructor) ?_)) fun K1 hK1 => ?_
            skip
            refine qf_mkS 3 [.int .i64 md] rfl (by kernel_rfl) rfl (fun c14 => ?_)
            (refine qf_nil ?_)
            refine hK1 _ _ ?_
            refine qx_T [.ow sv 3 1 k (ints sts), .ow mv 3 1 k (ints mds), .pt c14 [.int .i64 md] 3] (by repeat (first | exact PickL.nil | (apply PickL.cons; rfl))) rfl (by repeat (first | exact Sp.nil | exact Sp.refl _ | refine Sp.cons (by repeat constructor) ?_)) fun K1 hK1 => ?_
            skip
            refine qf_mkS 3 [.int .i64 (stk - lo_ + md - nd)] rfl (by kernel_rfl) rfl (fun c7 => ?_)
            (refine qf_nil ?_)
            refine hK1 _ _ ?_
            refine qx_T [.ow sv 3 1 k (ints sts), .ow mv 3 1 k (ints mds), .pt c14 [.int .i64 md] 3, .pt c7 [.int .i64 (stk - lo_ + md - nd)] 3] (by repeat (first | exact PickL.nil | (apply PickL.cons; rfl))) rfl (by repeat (first | exact Sp.nil | exact Sp.refl _ | refine Sp.cons (by repeat constructor) ?_)) fun K1 hK1 => ?_
            skip
            refine qf_append (q := 1) slI rfl rfl rfl (fun v' => by repeat constructor) (fun w' hs => ⟨_, _, Blk.rd (hs.blk (b := c7) (by repeat first | exact .head _ | refine .tail _ ?_)) rfl 1⟩) (by simp [oneV]) (by omega) (by omega) (fun u1 => ?_)
            (refine qf_nil ?_)
            refine hK1 _ _ ?_
            exact use (u1, c14) _ _ ⟨rfl, rfl, rfl, rfl, rfl, rfl, rfl, rfl, rfl, trivial⟩ (by repeat (first | exact Sp.nil | exact Sp.refl _ | refine Sp.cons (by repeat constructor) ?_))
    · intro K2 hK2
      refine q_if rfl (fun hc => ?_) (fun hc => ?_)
      · have hq : ful' = k := by rw [hful, if_pos (by assumption)]
        subst hq
        (refine q_region ?_; (iterate 4 refine ql_pure tabOk rfl rfl ?_); refine ql_st6 tabOk rfl rfl rfl rfl (by repeat constructor) ?_; refine q_nil ?_)
        exact hK2 () _ _ ⟨rfl, rfl, rfl, rfl, rfl, rfl, rfl, rfl, trivial⟩ (by repeat (first | exact Sp.nil | exact Sp.refl _ | refine Sp.cons (by repeat constructor) ?_))
      · have hq : ful' = ful := by rw [hful, if_neg (by assumption)]
        subst hq
        (refine q_skip ?_)
        exact hK2 () _ _ ⟨rfl, rfl, rfl, rfl, rfl, rfl, rfl, rfl, trivial⟩ (by repeat (first | exact Sp.nil | exact Sp.refl _ | refine Sp.cons (by repeat constructor) ?_))
  · obtain rfl : k = x.days.length := by omega
    clear hK
    (refine q_exit _ rfl (q_seq (q_region (ql_pure tabOk rfl rfl (ql_pure tabOk rfl rfl (q_nil (q_ret ?_)))))))
    refine q_fin tabOk rfl (by repeat (first | exact RVs.nil | apply RVs.tmp rfl | apply RVs.cellA rfl rfl (by repeat first | exact .head _ | refine .tail _ ?_) (by rfl) | apply RVs.cell1 rfl rfl (by repeat first | exact .head _ | refine .tail _ ?_))) fun w hs => ?_
    have e1 : (hapP x t x.days.length).stocks.length = x.days.length := by rw [hok.stocks]; simp
    have e2 : (hapP x t x.days.length).made.length = x.days.length := by rw [hok.made]; simp
    refine ⟨(br, sv, mv, .slice pa (hapP x t x.days.length).piles.length pc), rfl, ?_⟩
    unfold hapV
    rw [e1, e2, hf]
    exact hs.sp (by repeat (first | exact Sp.nil | exact Sp.refl _ | refine Sp.cons (by repeat constructor) ?_))
end Go.Proofs.YtpknmgafambmbaaGreat

/- Walks: the first day that can fail, and why; the worst weather. -/
namespace Go.Proofs.YtpknmgafambmbaaGreat
open Go Go.Eng

theorem Wn.Right.x {x : Wn} (h : x.Right) : 0 ≤ x.stock ∧ x.stock ≤ x.store ∧ x.store ≤ 1000000 := ⟨h.stock.1, h.stock.2, h.store.2⟩
theorem wtK_R {w0 w : World} {M : Nat → Prop} {H : List Ck} {v1 v2 v3 : Value} {t : Wt} (h : Sat w0 M H w) (m1 : .ow v1 3 1 t.need.length (ints t.need) ∈ H) (m2 : .ow v2 3 1 t.make.length (ints t.make) ∈ H) (m3 : .ow v3 3 1 t.loss.length (ints t.loss) ∈ H) : WtR w t v1 v2 v3 :=
  ⟨⟨0, _, h.rdI m1 rfl⟩, ⟨0, _, h.rdI m2 rfl⟩, ⟨0, _, h.rdI m3 rfl⟩⟩

set_option maxHeartbeats 1000000 in
theorem failing_ok (w : World) (lo hi : Nat) (x : Wn) (a : Option Addr) (c : Nat) (h : RdD w lo hi (.slice a x.days.length c) x.days) (hx : x.Right) (hf : (hapV x (worstW x)).fails ≠ -1) :
    Ca Tryz.prog 30 [.agg (wnC x a c).toArray] w fun r w' => ∃ y : Nat × Value × Value × Value, r = .tuple #[.pointer (some ⟨y.1, 0, none⟩), .int .i64 0] ∧ Sat w M0 [runK y.1 x a c (hapV x (worstW x)).fails (hapV x (worstW x)).full y.2.1 y.2.2.1 y.2.2.2] w' := by
  have hn := hx.d2
  refine q_of (Sat.nil w M0) Tryz.func30 rfl (by simp [Tryz.ntmps30]) ?_
  (refine q_seq (q_region ?_))
  refine ql_box rfl rfl (fun b1 => ?_)
  (refine ql_pure tabOk rfl rfl (ql_pure tabOk rfl rfl (q_nil (q_seq (q_seq (q_region ?_))))); refine ql_loadABa tabOk rfl rfl rfl ?_)
  refine ql_callv (val := .int .i64 0) tabOk rfl rfl rfl rfl (fun w hs => ?_) ?_; exact by have := checkW_ca w lo hi x a c (RdE.keep h hs.chg0) (by omega); rw [checkW_iff.2 hx] at this; exact this
  (refine ql_pure tabOk rfl rfl (q_nil (q_seq (q_region (ql_pure tabOk rfl rfl (ql_neqF tabOk rfl rfl rfl (by omega) (q_nil (q_cond_false rfl (q_skip (q_seq ?_))))))))))
  refine q_draw _ [] (Sp.refl _) (by kernel_rfl) (by kernel_rfl) ?_
  ((iterate 2 refine qf_loadABa tabOk rfl rfl rfl ?_))
  refine qf_call (β := Value × Value × Value) tabOk [] _ M0 rfl rfl rfl rfl (Sp.refl _) (fun _ h => h.elim) (fun w' hs => worst_ca w' lo hi x a c (RdE.keep h hs.chg0) (by omega)) ?_
  rintro ⟨v1, v2, v3⟩ _ rfl
  dsimp only
  skip
  refine qf_call (β := Nat × Value × Value × Value) (ψ := fun y v => v = .pointer (some ⟨y.1, 0, none⟩)) (L' := fun y => [runK y.1 x a c (hapV x (worstW x)).fails (hapV x (worstW x)).full y.2.1 y.2.2.1 y.2.2.2, .ow y.2.1 3 1 (hapV x (worstW x)).stocks.length (ints (hapV x (worstW x)).stocks), .ow y.2.2.1 3 1 (hapV x (worstW x)).made.length (ints (hapV x (worstW x)).made), plK y.2.2.2 (hapV x (worstW x)).piles]) tabOk [] _ M0 rfl rfl rfl rfl (Sp.refl _) (fun _ h => h.elim)
    (fun w' hs => happens_ca w' x a c (worstW x) v1 v2 v3 hx.x hn (worst_fine hx) (wtK_R hs (by repeat constructor) (by repeat constructor) (by repeat constructor))) ?_
  rintro ⟨br, sv, mv, pv⟩ _ rfl
  dsimp only [List.cons_append, List.nil_append, wtK]
  generalize hS : hapV x (worstW x) = S at *
  (refine qf_pure tabOk rfl rfl rfl (qf_nil (q_seq (q_seq (q_region ?_)))); (iterate 3 refine ql_pure tabOk rfl rfl ?_); refine ql_loadBa tabOk rfl rfl rfl ?_; refine ql_eqlF tabOk rfl rfl rfl (by omega) (q_nil (q_cond_false rfl (q_skip (q_seq (q_region ?_))))); (iterate 3 refine ql_pure tabOk rfl rfl ?_); refine q_nil (q_ret ?_))
  refine q_fin tabOk rfl (by repeat constructor) fun w hs => ?_
  exact ⟨(br, sv, mv, pv), rfl, hs.sp (by repeat constructor)⟩

set_option maxHeartbeats 1000000 in
theorem failing_no (w : World) (lo hi : Nat) (x : Wn) (a : Option Addr) (c : Nat) (h : RdD w lo hi (.slice a x.days.length c) x.days) (hlen : x.days.length ≤ 1000000) (hf : (firstV x).2 ≠ 0) :
    Ca Tryz.prog 30 [.agg (wnC x a c).toArray] w fun r w' => r = .tuple #[.pointer none, .int .i64 (firstV x).2] ∧ Chg [] w w' := by
  refine q_of (Sat.nil w M0) Tryz.func30 rfl (by simp [Tryz.ntmps30]) ?_
  (refine q_seq (q_region ?_))
  refine ql_box rfl rfl (fun b1 => ?_)
  (refine ql_pure tabOk rfl rfl (ql_pure tabOk rfl rfl (q_nil (q_seq (q_seq (q_region ?_))))); refine ql_loadABa tabOk rfl rfl rfl ?_)
  refine ql_callv (val := .int .i64 (checkW x)) tabOk rfl rfl rfl rfl (fun w hs => ?_) ?_; exact checkW_ca w lo hi x a c (RdE.keep h hs.chg0) (by omega)
  (refine ql_pure tabOk rfl rfl (q_nil (q_seq (q_region (ql_pure tabOk rfl rfl (ql_pure tabOk rfl rfl (q_nil ?_)))))))
  by_cases h0 : checkW x = 0
  · have hx := checkW_iff.1 h0
    have hn := hx.d2
    have hf2 : (hapV x (worstW x)).fails = -1 := by
      unfold firstV at hf
      rw [if_neg (by omega)] at hf
      split at hf
      · assumption
      · exact absurd rfl hf
    have hfv : (firstV x).2 = 6 := by unfold firstV; rw [if_neg (by omega), if_pos hf2]
    rw [hfv, h0]
    (refine q_cond_false rfl (q_skip (q_seq ?_)))
    refine q_draw _ [] (Sp.refl _) (by kernel_rfl) (by kernel_rfl) ?_
    ((iterate 2 refine qf_loadABa tabOk rfl rfl rfl ?_))
    refine qf_call (β := Value × Value × Value) tabOk [] _ M0 rfl rfl rfl rfl (Sp.refl _) (fun _ h => h.elim) (fun w' hs => worst_ca w' lo hi x a c (RdE.keep h hs.chg0) (by omega)) ?_
    rintro ⟨v1, v2, v3⟩ _ rfl
    dsimp only
    skip
    refine qf_call (β := Nat × Value × Value × Value) (ψ := fun y v => v = .pointer (some ⟨y.1, 0, none⟩)) (L' := fun y => [runK y.1 x a c (hapV x (worstW x)).fails (hapV x (worstW x)).full y.2.1 y.2.2.1 y.2.2.2, .ow y.2.1 3 1 (hapV x (worstW x)).stocks.length (ints (hapV x (worstW x)).stocks), .ow y.2.2.1 3 1 (hapV x (worstW x)).made.length (ints (hapV x (worstW x)).made), plK y.2.2.2 (hapV x (worstW x)).piles]) tabOk [] _ M0 rfl rfl rfl rfl (Sp.refl _) (fun _ h => h.elim)
      (fun w' hs => happens_ca w' x a c (worstW x) v1 v2 v3 hx.x hn (worst_fine hx) (wtK_R hs (by repeat constructor) (by repeat constructor) (by repeat constructor))) ?_
    rintro ⟨br, sv, mv, pv⟩ _ rfl
    dsimp only [List.cons_append, List.nil_append, wtK]
    generalize hS : hapV x (worstW x) = S at *
    rw [hf2]
    (refine qf_pure tabOk rfl rfl rfl (qf_nil (q_seq (q_seq (q_region ?_)))); (iterate 3 refine ql_pure tabOk rfl rfl ?_); refine ql_loadBa tabOk rfl rfl rfl ?_; refine ql_eqlT tabOk rfl rfl rfl (by omega) (q_nil (q_cond_true rfl (q_seq (q_region (ql_pure tabOk rfl rfl (ql_pure tabOk rfl rfl (q_nil (q_ret ?_)))))))))
    refine q_fin tabOk rfl (by repeat constructor) fun w hs => ?_
    exact ⟨rfl, hs.chg0⟩
  · have hfv : (firstV x).2 = checkW x := by unfold firstV; rw [if_pos h0]
    rw [hfv, decide_eq_false h0]
    (refine q_cond_true rfl (q_seq (q_region ?_)); (iterate 3 refine ql_pure tabOk rfl rfl ?_); refine q_nil (q_ret ?_))
    refine q_fin tabOk rfl (by repeat constructor) fun w hs => ?_
    exact ⟨rfl, hs.chg0⟩

set_option maxHeartbeats 1000000 in
theorem first_ca (w : World) (lo hi : Nat) (x : Wn) (a : Option Addr) (c : Nat) (h : RdD w lo hi (.slice a x.days.length c) x.days) (hlen : x.days.length ≤ 1000000) :
    Ca Tryz.prog 12 [.agg (wnC x a c).toArray] w fun r w' => r = .tuple #[.int .i64 (firstV x).1, .int .i64 (firstV x).2] ∧ Chg [] w w' := by
  refine q_of (Sat.nil w M0) Tryz.func12 rfl (by simp [Tryz.ntmps12]) ?_
  (refine q_seq (q_region ?_))
  refine ql_box rfl rfl (fun b1 => ?_)
  (refine ql_pure tabOk rfl rfl (ql_pure tabOk rfl rfl (q_nil (q_seq (q_region ?_)))); refine ql_loadABa tabOk rfl rfl rfl ?_)
  by_cases hf : (firstV x).2 = 0
  · have h0 : checkW x = 0 := by
      refine Classical.byContradiction fun hh => ?_
      unfold firstV at hf
      rw [if_pos hh] at hf
      exact hh hf
    have hx := checkW_iff.1 h0
    have hf2 : (hapV x (worstW x)).fails ≠ -1 := by
      unfold firstV at hf
      rw [if_neg (by omega)] at hf
      split at hf
      · cases hf
      · assumption
    have hfv : firstV x = ((hapV x (worstW x)).fails, 0) := by unfold firstV; rw [if_neg (by omega), if_neg hf2]
    rw [hfv]
    refine ql_call (β := Nat × Value × Value × Value) tabOk [] _ M0 rfl rfl rfl rfl (Sp.refl _) (fun _ h => h.elim) (fun w' hs => failing_ok w' lo hi x a c (RdE.keep h hs.chg0) hx hf2) ?_
    rintro ⟨br, sv, mv, pv⟩ _ rfl
    dsimp only [List.cons_append, List.nil_append]
    generalize hS : hapV x (worstW x) = S at *
    (refine ql_pure tabOk rfl rfl (ql_ext tabOk rfl rfl rfl (ql_ext tabOk rfl rfl rfl (ql_pure tabOk rfl rfl (ql_pure tabOk rfl rfl (q_nil (q_seq (q_seq (q_region (ql_pure tabOk rfl rfl (ql_neqF tabOk rfl rfl rfl (by omega) (q_nil ?_))))))))))); refine q_cond_false rfl (q_skip (q_seq (q_region ?_))); (iterate 3 refine ql_pure tabOk rfl rfl ?_); refine ql_loadBa tabOk rfl rfl rfl ?_; refine ql_pure tabOk rfl rfl (ql_pure tabOk rfl rfl (q_nil (q_ret ?_))))
    refine q_fin tabOk rfl (by repeat constructor) fun w hs => ?_
    exact ⟨rfl, hs.chg0⟩
  · refine ql_callv (val := .tuple #[.pointer none, .int .i64 (firstV x).2]) tabOk rfl rfl rfl rfl (fun w hs => ?_) ?_; exact failing_no w lo hi x a c (RdE.keep h hs.chg0) hlen hf
    have h1 : (firstV x).1 = 0 := by
      unfold firstV at hf ⊢
      split
      · rfl
      · split
        · rfl
        · rename_i g1 g2
          rw [if_neg g1, if_neg g2] at hf
          exact absurd rfl hf
    rw [h1]
    generalize (firstV x).2 = e at *
    (refine ql_pure tabOk rfl rfl (ql_ext tabOk rfl rfl rfl (ql_ext tabOk rfl rfl rfl (ql_pure tabOk rfl rfl (ql_pure tabOk rfl rfl (q_nil (q_seq (q_seq (q_region (ql_pure tabOk rfl rfl (ql_neqT tabOk rfl rfl rfl (by omega) (q_nil ?_))))))))))); refine q_cond_true rfl (q_seq (q_region ?_)); (iterate 3 refine ql_pure tabOk rfl rfl ?_); refine q_nil (q_ret ?_))
    refine q_fin tabOk rfl (by repeat constructor) fun w hs => ?_
    exact ⟨rfl, hs.chg0⟩
end Go.Proofs.YtpknmgafambmbaaGreat

/- Walks: the worst weather, why, what happens in a weather that is told. -/
namespace Go.Proofs.YtpknmgafambmbaaGreat
open Go Go.Eng

end Go.Proofs.YtpknmgafambmbaaGreat

/- Walks: a weather that is told. -/
namespace Go.Proofs.YtpknmgafambmbaaGreat
open Go Go.Eng

/-- A run that is handed out. -/
abbrev runH (y : Nat × Value × Value × Value) (x : Wn) (a : Option Addr) (c : Nat) (t : Wt) : List Ck :=
  [runK y.1 x a c (hapV x t).fails (hapV x t).full y.2.1 y.2.2.1 y.2.2.2, .ow y.2.1 3 1 (hapV x t).stocks.length (ints (hapV x t).stocks), .ow y.2.2.1 3 1 (hapV x t).made.length (ints (hapV x t).made), plK y.2.2.2 (hapV x t).piles]

end Go.Proofs.YtpknmgafambmbaaGreat

/- Walks: what happens in a weather: stocks, the day that fails, what is made, the piles. -/
namespace Go.Proofs.YtpknmgafambmbaaGreat
open Go Go.Eng

end Go.Proofs.YtpknmgafambmbaaGreat

/- Walks: what a proof proves. -/
namespace Go.Proofs.YtpknmgafambmbaaGreat
open Go Go.Eng

end Go.Proofs.YtpknmgafambmbaaGreat

/- Walks: what is needed; the least stock and the least store. -/
namespace Go.Proofs.YtpknmgafambmbaaGreat
open Go Go.Eng

/-- Days from the last one back. -/
def dyD (l : List Dy) (i : Nat) : Dy := l.getD i ⟨0, 0, 0, 0, 0, 0⟩
def bwL (l : List Dy) : List (Nat × Dy) := (List.range l.length).map fun k => (l.length - 1 - k, dyD l (l.length - 1 - k))
def encB (p : Nat × Dy) : List Value := [.int .i64 p.1, dyV p.2]
theorem bwL_split (l : List Dy) {k : Nat} (h : k < l.length) : ∃ post, bwL l = (bwL l).take k ++ (l.length - 1 - k, dyD l (l.length - 1 - k)) :: post := by
  refine ⟨(bwL l).drop (k + 1), ?_⟩
  have hk : k < (bwL l).length := by simpa [bwL] using h
  have e : (bwL l)[k] = (l.length - 1 - k, dyD l (l.length - 1 - k)) := by simp [bwL]
  rw [← e, ← List.drop_eq_getElem_cons hk, List.take_append_drop]
theorem bwL_take_succ (l : List Dy) {k : Nat} (h : k < l.length) : (bwL l).take (k + 1) = (bwL l).take k ++ [(l.length - 1 - k, dyD l (l.length - 1 - k))] := by
  have hk : k < (bwL l).length := by simpa [bwL] using h
  rw [List.take_succ_eq_append_getElem hk]
  simp [bwL]
theorem backward_ca (w : World) (a : Option Addr) (n c : Nat) : Ca Tryz.prog 52 [.slice a n c] w fun v w' =>
    ∃ b : Nat, v = .func (.func 74) #[] #[.pointer (some ⟨b, 0, none⟩)] ∧ Sat w M0 [.pt b [.slice a n c] 32] w' := by
  refine q_of (Sat.nil w M0) Tryz.func52 rfl (by simp [Tryz.ntmps52]) ?_
  (refine q_seq (q_region ?_))
  refine ql_box rfl rfl (fun b1 => ?_)
  (refine ql_pure tabOk rfl rfl (q_nil (q_seq (q_region (ql_pure tabOk rfl rfl (ql_pure tabOk rfl rfl (q_nil (q_ret ?_))))))))
  refine q_fin tabOk rfl (by repeat constructor) fun w hs => ?_
  exact ⟨b1, rfl, hs⟩

set_option maxHeartbeats 1000000 in
theorem back_it (w0 w : World) (D : Nat → Prop) (b lo hi : Nat) (a : Option Addr) (c : Nat) (l : List Dy) (h : RdD w0 lo hi (.slice a l.length c) l) (hlen : l.length ≤ 1000000) (h0 : ∀ w', ChgP D w w' → Chg [] w0 w') {t1 : TypeId} (hb : Blk w b [.slice a l.length c] t1) (hD : ¬ D b) :
    ItOk Tryz.prog 74 [.pointer (some ⟨b, 0, none⟩)] encB (bwL l) w D := by
  intro fv σ L I E s0 hI0 hLD hsat hcb
  obtain ⟨_, _, e0, hsa⟩ := RdD.outI h
  cases e0
  have hm : ∀ w', ChgP (DL (L s0)) w w' → ChgP D w w' := fun w' hc => ⟨hc.os, hc.tape, hc.output, hc.size, fun k hk hk2 => hc.block k hk (fun h => hk2 (hLD k h))⟩
  have hP1 : ∀ w', ChgP (DL (L s0)) w w' → Blk w' b [.slice a l.length c] t1 := fun w' hc => (hc.block b hb.lt (fun h => hD (hLD b h))).trans hb
  refine q_of (H := [un (L s0)]) (Sat.un1.2 hsat) Tryz.func74 rfl (by simp [Tryz.ntmps74]) ?_
  (refine q_seq (q_region ?_); refine ql_loadG tabOk rfl rfl rfl (by assumption) (by rfl) ?_; refine ql_pure tabOk rfl rfl (ql_ar tabOk rfl rfl rfl rfl (by omega) (by omega) (ql_pure tabOk rfl rfl (q_nil (q_block ?_)))))
  refine q_loop (σ := Nat × σ) (fun s => s.1 ≤ l.length ∧ I ((bwL l).take s.1) s.2) (fun s => l.length - s.1) (fun s => [(0, fv), (1, .pointer (some ⟨b, 0, none⟩)), (3, .int .i64 ((l.length : Int) - 1 - s.1))])
    (fun s => [un (L s.2)]) (0, s0) ⟨by simp, by simpa using hI0⟩ ⟨rfl, rfl, lookI rfl (by simp), trivial⟩ (Sp.refl _) ?_
  rintro ⟨k, s⟩ ⟨hk, hI⟩ K hK
  simp only at hk hI
  dsimp only
  (refine q_seq (q_seq (q_region (ql_pure tabOk rfl rfl (ql_pure tabOk rfl rfl (q_nil ?_))))))
  refine q_if rfl (fun hc => ?_) (fun hc => ?_)
  · have hk2 : k < l.length := by omega
    clear hc
    obtain ⟨ba, oa, rfl⟩ := hsa (by omega)
    obtain ⟨post, hx⟩ := bwL_split l hk2
    have hi2 : l.length - 1 - k < l.length := by omega
    have ed : dyD l (l.length - 1 - k) = l[l.length - 1 - k] := by simp [dyD, List.getD_eq_getElem?_getD, hi2]
    have ei : ((l.length : Int) - 1 - (k : Int)) = ((l.length - 1 - k : Nat) : Int) := by omega
    rw [ei]
    (refine q_skip (q_seq (q_block (q_seq (q_region (ql_pure tabOk rfl rfl (ql_pure tabOk rfl rfl ?_)))))); refine ql_loadG tabOk rfl rfl rfl (by assumption) (by rfl) ?_; refine ql_pure tabOk rfl rfl ?_)
    refine ql_index tabOk rfl rfl rfl rfl rfl (by omega) (by omega) ?_
    refine ql_loadA tabOk rfl rfl rfl rfl (fun w' hs => RdD.at (RdE.keep h (h0 w' (hm w' hs.chg))) (l.length - 1 - k) hi2) ?_
    skip
    refine ql_callF [un (L s)] [] (DL (L s)) rfl rfl rfl (Sp.refl _) (fun b hb => ⟨_, .head _, hb⟩) (by rw [← ed]; exact yieldF hcb hx hI) ?_
    rintro s' v (⟨rfl, hI'⟩ | ⟨rfl, hE⟩)
    · (refine ql_pure tabOk rfl rfl (q_nil (q_cond_false rfl (q_skip (q_blk (q_region (ql_pure tabOk rfl rfl (ql_ar tabOk rfl rfl rfl rfl (by omega) (by omega) (ql_pure tabOk rfl rfl (q_nil ?_))))))))))
      refine hK (k + 1, s') _ _ ⟨by simp only; omega, by simp only; rw [bwL_take_succ l hk2]; exact hI'⟩ (by simp only; omega) ⟨rfl, rfl, lookI rfl (by simp only; omega), trivial⟩ (by repeat constructor)
    · (refine ql_pure tabOk rfl rfl (q_nil (q_cond_true rfl (q_ret ?_))))
      refine q_fin tabOk rfl (by repeat constructor) fun w hs => ?_
      exact ⟨s', .inr hE, Sat.un1.1 (hs.sp (Sp.refl _))⟩
  · obtain rfl : k = l.length := by omega
    (refine q_exit _ rfl ?_)
    refine q_end tabOk rfl (by repeat constructor) fun w hs => ?_
    refine ⟨s, .inl ?_, Sat.un1.1 (hs.sp (Sp.refl _))⟩
    rw [List.take_of_length_le (by simp [bwL])] at hI
    exact hI

theorem bwL_at {l : List Dy} {pre post : List (Nat × Dy)} {p : Nat × Dy} (h : bwL l = pre ++ p :: post) : pre.length < l.length ∧ p.1 = l.length - 1 - pre.length := by
  have hl : (bwL l).length = l.length := by simp [bwL]
  have hk : pre.length < l.length := by rw [h] at hl; simp at hl; omega
  refine ⟨hk, ?_⟩
  have h1 : (bwL l)[pre.length]? = some p := by rw [h]; simp
  have h2 : (bwL l)[pre.length]? = some (l.length - 1 - pre.length, dyD l (l.length - 1 - pre.length)) := by simp [bwL, hk]
  rw [h1] at h2
  rw [Option.some.inj h2]

set_option maxHeartbeats 4000000 in
theorem needed_ca (w : World) (lo hi : Nat) (x : Wn) (a : Option Addr) (c : Nat) (h : RdD w lo hi (.slice a x.days.length c) x.days) (hx : x.Right) :
    Ca Tryz.prog 32 [.agg (wnC x a c).toArray] w fun r w' => r = .tuple #[.int .i64 (neededV x).1, .int .i64 (neededV x).2] ∧ Chg [] w w' := by
  have hn := hx.d2
  have hn1 := hx.d1
  refine q_ofM (Sat.nil w M0) Tryz.func32 rfl (by simp [Tryz.ntmps32]) ?_
  (refine q_seq (q_region ?_))
  refine ql_box rfl rfl (fun b1 => ?_)
  (refine ql_pure tabOk rfl rfl (ql_pure tabOk rfl rfl (q_nil (q_seq (q_region ?_)))); refine ql_loadABa tabOk rfl rfl rfl ?_)
  refine ql_call (β := Value × Value × Value) tabOk [] _ M0 rfl rfl rfl rfl (Sp.refl _) (fun _ h => h.elim) (fun w' hs => worst_ca w' lo hi x a c (RdE.keep h hs.chg0) (by omega)) ?_
  rintro ⟨v1, v2, v3⟩ _ rfl
  dsimp only [wtK, List.cons_append, List.nil_append]
  have tf := worst_fine hx
  have hnb := nd_bd hx
  have hnd : ∀ k, ndP x (k + 1) = (if max 0 ((ndP x k).1 + (worstW x).need.getD (x.days.length - 1 - k) 0 - (worstW x).make.getD (x.days.length - 1 - k) 0) > 0 then max 0 ((ndP x k).1 + (worstW x).need.getD (x.days.length - 1 - k) 0 - (worstW x).make.getD (x.days.length - 1 - k) 0) + (worstW x).loss.getD (x.days.length - 1 - k) 0 else 0,
      max (ndP x k).2 ((ndP x k).1 + (worstW x).need.getD (x.days.length - 1 - k) 0)) := fun k => rfl
  generalize hT : worstW x = T at *
  have n1 := tf.need
  have n2 := tf.make
  have n3 := tf.loss
  refine ql_fact (fun w hs => hs.ownSome (v := v1) (by repeat constructor) (by omega)) ?_
  rintro ⟨e1, f1, rfl⟩
  refine ql_fact (fun w hs => hs.ownSome (v := v2) (by repeat constructor) (by omega)) ?_
  rintro ⟨e2, f2, rfl⟩
  refine ql_fact (fun w hs => hs.ownSome (v := v3) (by repeat constructor) (by omega)) ?_
  rintro ⟨e3, f3, rfl⟩
  skip
  refine ql_alloc zero122 rfl (fun b4 => ?_)
  (refine ql_setA tabOk rfl rfl rfl rfl rfl (by repeat constructor) rfl ?_; refine q_nil (q_seq (q_region ?_)))
  refine ql_alloc zero3 rfl (fun b5 => ?_)
  refine ql_alloc zero3 rfl (fun b6 => ?_)
  ((iterate 2 refine ql_set tabOk rfl rfl rfl rfl (by repeat constructor) ?_); refine q_nil (q_seq (q_seq (q_region (ql_pure tabOk rfl rfl ?_)))); refine ql_loadBa tabOk rfl rfl rfl ?_)
  refine ql_call (β := Nat) tabOk [] _ M0 rfl rfl rfl rfl (Sp.refl _) (fun _ h => h.elim) (fun w' hs => backward_ca w' a x.days.length c) ?_
  rintro bb _ rfl
  (refine q_nil (q_block ?_))
  refine q_range encB Nat (bwL x.days) (fun pre s => s = pre.length) (fun _ _ => False)
    (fun s => [.pt b6 [.int .i64 (ndP x s).2] 3, .pt b5 [.int .i64 (ndP x s).1] 3, .pt b4 [.slice (some ⟨e1, 0, none⟩) T.need.length f1, .slice (some ⟨e2, 0, none⟩) T.make.length f2, .slice (some ⟨e3, 0, none⟩) T.loss.length f3] 122, .ow (.slice (some ⟨e1, 0, none⟩) T.need.length f1) 3 1 T.need.length (ints T.need), .ow (.slice (some ⟨e2, 0, none⟩) T.make.length f2) 3 1 T.make.length (ints T.make), .ow (.slice (some ⟨e3, 0, none⟩) T.loss.length f3) 3 1 T.loss.length (ints T.loss)])
    [.pt bb [.slice a x.days.length c] 32] 0
    rfl (by kernel_rfl) rfl (fun _ _ => rfl) rfl (by repeat constructor) ?_ ?_ ?_ (fun _ _ _ h => h.elim)
  · intro w1 D hs hD
    exact back_it w w1 D bb lo hi a c x.days h (by omega) (fun w' hc => hs.chg0.old hc (fun k hk => (hD k hk).2.resolve_left (fun h => h))) (hs.blk (by repeat constructor)) (fun h => (hD _ h).1 ⟨.pt bb [.slice a x.days.length c] _, (by repeat constructor), rfl⟩)
  · rintro pre ⟨i, d⟩ post s w1 l rdy bsy K F' hxx hI hsat hR hbegin hend hret hexit
    subst hI
    obtain ⟨hk, hi'⟩ := bwL_at hxx
    simp only at hi'
    subst hi'
    have hb0 := hnb pre.length
    have hb1 := hnb (pre.length + 1)
    have hs1 := hnd pre.length
    have y1 : x.days.length - 1 - pre.length < T.need.length := by omega
    have y2 : x.days.length - 1 - pre.length < T.make.length := by omega
    have y3 : x.days.length - 1 - pre.length < T.loss.length := by omega
    rw [getD_at y1, getD_at y2, getD_at y3] at hs1
    have z1 := tf.need0 _ (List.getElem_mem y1)
    have z2 := tf.make0 _ (List.getElem_mem y2)
    have z3 := tf.loss0 _ (List.getElem_mem y3)
    (refine q_region (ql_pure tabOk rfl rfl (q_nil ?_)))
    refine hbegin _ _ ?_
    generalize hP : ndP x pre.length = nd at *
    obtain ⟨st, rm⟩ := nd
    dsimp only at hb0 hs1 ⊢
    (refine q_block (q_seq ?_))
    refine q_drawS 7 _ [.pt b5 _ _] (Sp.cons (by repeat constructor) (Sp.refl _)) (by kernel_rfl) (by kernel_rfl) (by kernel_rfl) fun K1 hK1 => ?_
    (refine qf_loadBa tabOk rfl rfl rfl ?_; refine qf_pure tabOk rfl rfl rfl ?_; refine qf_loadBa tabOk rfl rfl rfl ?_; refine qf_pure tabOk rfl rfl rfl ?_)
    refine qf_index tabOk rfl rfl rfl rfl rfl (by omega) (by omega) ?_
    refine qf_load1 (v := .int .i64 T.need[x.days.length - 1 - pre.length]) tabOk rfl rfl rfl (fun w hs => RdI.at (hs.rdI (v := .slice (some ⟨e1, 0, none⟩) T.need.length f1) (l := T.need) (by repeat constructor) rfl) (x.days.length - 1 - pre.length) y1) ?_
    (refine qf_ar tabOk rfl rfl rfl rfl (by omega) (by omega) (qf_nil ?_))
    refine hK1 _ _ [.pt b5 _ _] (Sp.cons (by repeat constructor) ((by repeat constructor))) ?_
    (refine qf_set tabOk rfl rfl rfl rfl (by repeat constructor) ?_; refine qf_nil (q_seq (q_region ?_)); (iterate 2 refine ql_loadBa tabOk rfl rfl rfl ?_); refine ql_pure tabOk rfl rfl ?_; refine ql_set tabOk rfl rfl rfl rfl (by repeat constructor) ?_; refine q_nil (q_seq ?_))
    refine q_drawS 8 _ [.pt b5 _ _] (Sp.cons (by repeat constructor) (Sp.refl _)) (by kernel_rfl) (by kernel_rfl) (by kernel_rfl) fun K1 hK1 => ?_
    (refine qf_loadBa tabOk rfl rfl rfl ?_; refine qf_pure tabOk rfl rfl rfl ?_; refine qf_loadBa tabOk rfl rfl rfl ?_; refine qf_pure tabOk rfl rfl rfl ?_)
    refine qf_index tabOk rfl rfl rfl rfl rfl (by omega) (by omega) ?_
    refine qf_load1 (v := .int .i64 T.make[x.days.length - 1 - pre.length]) tabOk rfl rfl rfl (fun w hs => RdI.at (hs.rdI (v := .slice (some ⟨e2, 0, none⟩) T.make.length f2) (l := T.make) (by repeat constructor) rfl) (x.days.length - 1 - pre.length) y2) ?_
    (refine qf_ar tabOk rfl rfl rfl rfl (by omega) (by omega) (qf_pure tabOk rfl rfl rfl (qf_nil ?_)))
    refine hK1 _ _ [.pt b5 _ _] (Sp.cons (by repeat constructor) ((by repeat constructor))) ?_
    (refine qf_set tabOk rfl rfl rfl rfl (by repeat constructor) ?_; refine qf_nil (q_seq (q_region ?_)); refine ql_loadBa tabOk rfl rfl rfl ?_; refine ql_pure tabOk rfl rfl (q_nil ?_))
    refine q_if rfl (fun hc => ?_) (fun hc => ?_)
    · have hp : 0 < max 0 (st + T.need[x.days.length - 1 - pre.length] - T.make[x.days.length - 1 - pre.length]) := by assumption
      rw [if_pos hp] at hs1
      skip
      refine q_drawS 7 _ [.pt b5 _ _] (Sp.cons (by repeat constructor) (Sp.refl _)) (by kernel_rfl) (by kernel_rfl) (by kernel_rfl) fun K1 hK1 => ?_
      (refine qf_loadBa tabOk rfl rfl rfl ?_; refine qf_pure tabOk rfl rfl rfl ?_; refine qf_loadBa tabOk rfl rfl rfl ?_; refine qf_pure tabOk rfl rfl rfl ?_)
      refine qf_index tabOk rfl rfl rfl rfl rfl (by omega) (by omega) ?_
      refine qf_load1 (v := .int .i64 T.loss[x.days.length - 1 - pre.length]) tabOk rfl rfl rfl (fun w hs => RdI.at (hs.rdI (v := .slice (some ⟨e3, 0, none⟩) T.loss.length f3) (l := T.loss) (by repeat constructor) rfl) (x.days.length - 1 - pre.length) y3) ?_
      (refine qf_ar tabOk rfl rfl rfl rfl (by omega) (by omega) (qf_nil ?_))
      refine hK1 _ _ [.pt b5 _ _] (Sp.cons (by repeat constructor) ((by repeat constructor))) ?_
      (refine qf_set tabOk rfl rfl rfl rfl (by repeat constructor) ?_; refine qf_nil (q_blk ?_))
      exact hend _ _ (pre.length + 1) (by simp) (by rw [hs1]; repeat constructor)
    · have hp : ¬ 0 < max 0 (st + T.need[x.days.length - 1 - pre.length] - T.make[x.days.length - 1 - pre.length]) := by assumption
      rw [if_neg hp] at hs1
      have hz : max 0 (st + T.need[x.days.length - 1 - pre.length] - T.make[x.days.length - 1 - pre.length]) = 0 := by omega
      rw [hz]
      (refine q_skip (q_blk ?_))
      exact hend _ _ (pre.length + 1) (by simp) (by rw [hs1]; repeat constructor)
  · rintro D s rfl
    have hl : (bwL x.days).length = x.days.length := by simp [bwL]
    rw [hl]
    dsimp only [List.cons_append, List.nil_append]
    have e0 : neededV x = ndP x x.days.length := rfl
    rw [e0]
    generalize ndP x x.days.length = nd at *
    (refine q_blk (q_seq ?_))
    refine q_draw _ [] (Sp.refl _) (by kernel_rfl) (by kernel_rfl) ?_
    ((iterate 2 refine qf_loadBa tabOk rfl rfl rfl ?_); refine qf_pure tabOk rfl rfl rfl (qf_pure tabOk rfl rfl rfl (qf_nil (q_ret ?_))))
    refine q_finMD tabOk (by repeat constructor) rfl (by repeat constructor) fun w hs => ?_
    exact ⟨rfl, hs.chg0⟩
end Go.Proofs.YtpknmgafambmbaaGreat

/- Walks: the least stock and the least store. -/
namespace Go.Proofs.YtpknmgafambmbaaGreat
open Go Go.Eng

set_option maxHeartbeats 1000000 in
theorem least_ca (w : World) (lo hi : Nat) (x : Wn) (a : Option Addr) (c : Nat) (h : RdD w lo hi (.slice a x.days.length c) x.days) (hlen : x.days.length ≤ 1000000) :
    Ca Tryz.prog 13 [.agg (wnC x a c).toArray] w fun r w' => r = .tuple #[.int .i64 (leastV x).1, .int .i64 (leastV x).2] ∧ Chg [] w w' := by
  refine q_of (Sat.nil w M0) Tryz.func13 rfl (by simp [Tryz.ntmps13]) ?_
  (refine q_seq (q_region ?_))
  refine ql_box rfl rfl (fun b1 => ?_)
  (refine ql_pure tabOk rfl rfl (ql_pure tabOk rfl rfl (q_nil (q_seq (q_seq (q_region ?_))))); refine ql_loadABa tabOk rfl rfl rfl ?_)
  refine ql_callv (val := .int .i64 (checkW x)) tabOk rfl rfl rfl rfl (fun w hs => ?_) ?_; exact checkW_ca w lo hi x a c (RdE.keep h hs.chg0) (by omega)
  (refine ql_pure tabOk rfl rfl (q_nil (q_seq (q_region (ql_pure tabOk rfl rfl (ql_pure tabOk rfl rfl (q_nil ?_)))))))
  by_cases h0 : checkW x = 0
  · have hx := checkW_iff.1 h0
    have hnb := nd_bd hx x.days.length
    have hd2 := hx.d2
    have hst := hx.store
    have hv : leastV x = if x.store < max (ndP x x.days.length).1 (ndP x x.days.length).2 then (0, 6) else ((ndP x x.days.length).1, 0) := by unfold leastV neededV; rw [if_neg (by omega)]
    rw [h0]
    (refine q_cond_false rfl (q_skip (q_seq (q_region ?_))); refine ql_loadABa tabOk rfl rfl rfl ?_)
    refine ql_callv (val := .tuple #[.int .i64 (ndP x x.days.length).1, .int .i64 (ndP x x.days.length).2]) tabOk rfl rfl rfl rfl (fun w hs => ?_) ?_; exact needed_ca w lo hi x a c (RdE.keep h hs.chg0) hx
    generalize ndP x x.days.length = nd at *
    obtain ⟨s, r⟩ := nd
    dsimp only at hnb hv ⊢
    (refine ql_pure tabOk rfl rfl (ql_ext tabOk rfl rfl rfl (ql_ext tabOk rfl rfl rfl (ql_pure tabOk rfl rfl (ql_pure tabOk rfl rfl (q_nil (q_seq (q_seq (q_region ?_)))))))); (iterate 4 refine ql_pure tabOk rfl rfl ?_); refine ql_loadBa tabOk rfl rfl rfl ?_; refine ql_pure tabOk rfl rfl (q_nil ?_))
    refine q_if rfl (fun hc => ?_) (fun hc => ?_)
    · have hb : x.store < max s r := by assumption
      rw [hv, if_pos hb]
      (refine q_seq (q_region (ql_pure tabOk rfl rfl (ql_pure tabOk rfl rfl (q_nil (q_ret ?_))))))
      refine q_fin tabOk rfl (by repeat constructor) fun w hs => ?_
      exact ⟨rfl, hs.chg0⟩
    · have hb : ¬ x.store < max s r := by assumption
      rw [hv, if_neg hb]
      (refine q_skip (q_seq (q_region ?_)); (iterate 3 refine ql_pure tabOk rfl rfl ?_); refine q_nil (q_ret ?_))
      refine q_fin tabOk rfl (by repeat constructor) fun w hs => ?_
      exact ⟨rfl, hs.chg0⟩
  · have e : leastV x = (0, checkW x) := by unfold leastV; rw [if_pos h0]
    rw [decide_eq_false h0, e]
    generalize checkW x = z at *
    (refine q_cond_true rfl (q_seq (q_region ?_)); (iterate 3 refine ql_pure tabOk rfl rfl ?_); refine q_nil (q_ret ?_))
    refine q_fin tabOk rfl (by repeat constructor) fun w hs => ?_
    exact ⟨rfl, hs.chg0⟩

end Go.Proofs.YtpknmgafambmbaaGreat

/- Walks: the ranges of stocks. -/
namespace Go.Proofs.YtpknmgafambmbaaGreat
open Go Go.Eng

def rngL (A B : List Int) : List (Int × Int) := (List.range A.length).map fun i => (A.getD i 0, B.getD i 0)
def rngP (A B : List Int) (k : Nat) : List (Int × Int) := (List.range k).map fun i => (A.getD i 0, B.getD i 0)
end Go.Proofs.YtpknmgafambmbaaGreat

/- Walks: whether a course is listed. -/
namespace Go.Proofs.YtpknmgafambmbaaGreat
open Go Go.Eng

theorem srtB_iff : ∀ (l : List Int), srtB l = true ↔ ∀ i, i + 1 < l.length → l.getD i 0 ≤ l.getD (i + 1) 0
  | [] => by simp [srtB]
  | [_] => by simp [srtB]
  | a :: b :: l => by
    rw [srtB, Bool.and_eq_true, decide_eq_true_eq, srtB_iff (b :: l)]
    constructor
    · rintro ⟨h1, h2⟩ i hi
      cases i with
      | zero => exact h1
      | succ i => exact h2 i (by simpa using hi)
    · intro h
      exact ⟨h 0 (by simp), fun i hi => h (i + 1) (by simpa using hi)⟩

theorem isNaN_ca (x : Int) (w : World) : Ca Tryz.prog 114 [.int .i64 x] w fun v w' => v = .bool false ∧ Chg [] w w' := by
  refine q_of (Sat.nil w M0) Tryz.func114 rfl (by simp [Tryz.ntmps114]) ?_
  (refine q_seq (q_region (ql_pure tabOk rfl rfl (q_nil (q_seq (q_region (ql_pure tabOk rfl rfl (ql_pure tabOk rfl rfl (ql_neqF tabOk rfl rfl rfl (by omega) (ql_pure tabOk rfl rfl (q_nil (q_ret ?_))))))))))))
  refine q_fin tabOk rfl (by repeat constructor) fun w hs => ?_
  exact ⟨by simp [retV], hs.chg0⟩
set_option maxRecDepth 4000 in
theorem lessI_ca (x y : Int) (w : World) : Ca Tryz.prog 93 [.int .i64 x, .int .i64 y] w fun v w' => v = .bool (decide (x < y)) ∧ Chg [] w w' := by
  refine q_of (Sat.nil w M0) Tryz.func93 rfl (by simp [Tryz.ntmps93]) ?_
  (refine q_seq (q_region (ql_pure tabOk rfl rfl (q_nil (q_seq (q_region (ql_pure tabOk rfl rfl ?_)))))))
  refine ql_callv (val := .bool false) tabOk rfl rfl rfl rfl (fun w hs => ?_) ?_; exact isNaN_ca x w
  (refine ql_pure tabOk rfl rfl ?_; (iterate 3 refine ql_gno rfl rfl rfl ?_); refine ql_pure tabOk rfl rfl (ql_pure tabOk rfl rfl (ql_gyes rfl (ql_pure tabOk rfl rfl (ql_gyes rfl (ql_pure tabOk rfl rfl (ql_gyes rfl ?_)))))); (iterate 3 refine ql_pure tabOk rfl rfl ?_); refine q_nil (q_ret ?_))
  refine q_fin tabOk rfl (by repeat constructor) fun w hs => ?_
  exact ⟨rfl, hs.chg0⟩
theorem sorted_ca (w : World) (lo hi : Nat) (v : Value) (l : List Int) (h : RdI w lo hi v l) (hlen : l.length ≤ 1000000) : Ca Tryz.prog 77 [v] w fun r w' => r = .bool (srtB l) ∧ Chg [] w w' := by
  obtain ⟨a, ca, rfl, hsa⟩ := RdI.outI h
  refine q_of (Sat.nil w M0) Tryz.func77 rfl (by simp [Tryz.ntmps77]) ?_
  (refine q_seq (q_region (ql_pure tabOk rfl rfl (q_nil (q_seq (q_seq (q_region (ql_pure tabOk rfl rfl (ql_pure tabOk rfl rfl (ql_ar tabOk rfl rfl rfl rfl (by omega) (by omega) (ql_pure tabOk rfl rfl (q_nil ?_))))))))))); refine q_block ?_)
  refine q_loop (σ := Nat) (fun k => k ≤ l.length - 1 ∧ ∀ i, l.length - 1 - k ≤ i → i + 1 < l.length → l.getD i 0 ≤ l.getD (i + 1) 0) (fun k => l.length - k) (fun k => [(0, .slice a l.length ca), (3, .int .i64 ((l.length : Int) - 1 - k))]) (fun _ => []) 0 ⟨by omega, fun i h1 h2 => by omega⟩ ⟨rfl, lookI rfl (by simp), trivial⟩ .nil ?_
  rintro k ⟨hk, hS⟩ K hK
  (refine q_seq (q_seq (q_region (ql_pure tabOk rfl rfl (ql_pure tabOk rfl rfl (q_nil ?_))))))
  refine q_if rfl (fun hc => ?_) (fun hc => ?_)
  · obtain ⟨b, off, rfl⟩ := hsa (by omega)
    obtain ⟨i, hi⟩ : ∃ i : Nat, (l.length : Int) - 1 - k = ((i + 1 : Nat) : Int) := ⟨l.length - 2 - k, by omega⟩
    rw [hi]
    have y1 : i + 1 < l.length := by omega
    have y2 : i < l.length := by omega
    clear hc
    (refine q_skip (q_seq (q_block (q_seq ?_))))
    refine q_draw _ [] (Sp.refl _) (by kernel_rfl) (by kernel_rfl) ?_
    (refine qf_pure tabOk rfl rfl rfl (qf_pure tabOk rfl rfl rfl ?_))
    (refine qf_index tabOk rfl rfl rfl rfl rfl (by omega) (by omega) ?_; refine qf_load1 tabOk rfl rfl rfl (fun w hs => RdI.at (h.keep hs.chg0) (i + 1) y1) ?_)
    (refine qf_pure tabOk rfl rfl rfl (qf_pure tabOk rfl rfl rfl (qf_ar tabOk rfl rfl rfl rfl (by omega) (by omega) ?_)))
    rw [show ((i + 1 : Nat) : Int) - 1 = (i : Int) by omega]
    (refine qf_index tabOk rfl rfl rfl rfl rfl (by omega) (by omega) ?_; refine qf_load1 tabOk rfl rfl rfl (fun w hs => RdI.at (h.keep hs.chg0) i y2) ?_)
    skip
    refine qf_callv (val := .bool (decide (l[i + 1] < l[i]))) tabOk rfl rfl rfl rfl (fun w hs => ?_) ?_; exact lessI_ca _ _ w
    (refine qf_nil ?_)
    refine q_if rfl (fun hc => ?_) (fun hc => ?_)
    · have hlt : l[i + 1] < l[i] := by assumption
      have e : srtB l = false := by
        refine Bool.eq_false_iff.2 fun hh => ?_
        have := (srtB_iff l).1 hh i y1
        rw [getD_at y1, getD_at y2] at this
        omega
      rw [e]
      (refine q_seq (q_region (ql_pure tabOk rfl rfl (q_nil (q_ret ?_)))))
      refine q_fin tabOk rfl (by repeat constructor) fun w hs => ?_
      exact ⟨rfl, hs.chg0⟩
    · have hlt : ¬ l[i + 1] < l[i] := by assumption
      (refine q_skip (q_blk (q_region (ql_pure tabOk rfl rfl (ql_ar tabOk rfl rfl rfl rfl (by omega) (by omega) (ql_pure tabOk rfl rfl (q_nil ?_)))))))
      refine hK (k + 1) _ _ ⟨by omega, fun j h1 h2 => ?_⟩ (by omega) ⟨rfl, lookI rfl (by omega), trivial⟩ .nil
      by_cases hj : j = i
      · subst hj
        rw [getD_at y1, getD_at y2]
        omega
      · exact hS j (by omega) h2
  · have e : srtB l = true := (srtB_iff l).2 fun i hi => hS i (by omega) hi
    rw [e]
    (refine q_exit _ rfl (q_seq (q_region (ql_pure tabOk rfl rfl (q_nil (q_ret ?_))))))
    refine q_fin tabOk rfl (by repeat constructor) fun w hs => ?_
    exact ⟨rfl, hs.chg0⟩

def pIn (n : Nat) : Value → Bool
  | .int _ i => wiB i 0 ((n : Int) - 1)
  | _ => false
theorem pIn_all (n : Nat) (l : List Int) : (ints l).all (pIn n) = inL n l := by
  unfold ints inL
  rw [List.all_map]
  rfl
theorem listed1_p (w : World) (b : Nat) (a : Option Addr) (c n : Nat) (t : TypeId) (l : List Int) (hn : n ≤ 1000000) (hb : Blk w b [.slice a n c] t) : PredAt Tryz.prog tab w (.func (.func 76) #[] #[.pointer (some ⟨b, 0, none⟩)]) (ints l) (pIn n) := by
  refine ⟨_, _, _, rfl, rfl, fun w' hw' x hx => ?_⟩
  have hb' := hb.keep hw'
  obtain ⟨y, hy, rfl⟩ := List.mem_map.1 hx
  refine q_of (Sat.nil w' M0) Tryz.func76 rfl (by simp [Tryz.ntmps76]) ?_
  (refine q_seq (q_region (ql_pure tabOk rfl rfl (q_nil (q_seq (q_region (ql_pure tabOk rfl rfl ?_)))))); refine ql_loadP tabOk rfl rfl rfl (by assumption) (by rfl) ?_; refine ql_pure tabOk rfl rfl (ql_ar tabOk rfl rfl rfl rfl (by omega) (by omega) ?_))
  refine ql_callv (val := .bool (wiB y 0 ((n : Int) - 1))) tabOk rfl rfl rfl rfl (fun w hs => ?_) ?_; exact within_ca y 0 _ w
  (refine ql_pure tabOk rfl rfl (q_nil (q_ret ?_)))
  refine q_fin tabOk rfl (by repeat constructor) fun w hs => ?_
  exact ⟨rfl, hs.chg0⟩
theorem listed_ca (w : World) (lo hi : Nat) (a : Option Addr) (c n : Nat) (v : Value) (l : List Int) (h : RdI w lo hi v l) (hlen : l.length ≤ 1000000) (hn : n ≤ 1000000) :
    Ca Tryz.prog 53 [.slice a n c, v] w fun r w' => r = .int .i64 (listedV n l) ∧ Chg [] w w' := by
  obtain ⟨al, cl, rfl, _⟩ := RdI.outI h
  refine q_of (Sat.nil w M0) Tryz.func53 rfl (by simp [Tryz.ntmps53]) ?_
  (refine q_seq (q_region ?_))
  refine ql_box rfl rfl (fun b2 => ?_)
  (refine ql_pure tabOk rfl rfl (q_nil (q_seq (q_block (q_seq (q_region (ql_pure tabOk rfl rfl (ql_pure tabOk rfl rfl ?_))))))))
  refine ql_callv (val := .bool (wiB l.length 1 6)) tabOk rfl rfl rfl rfl (fun w hs => ?_) ?_; exact within_ca l.length 1 6 w
  (refine ql_pure tabOk rfl rfl (ql_pure tabOk rfl rfl (q_nil ?_)))
  by_cases h1 : wiB l.length 1 6 = true
  · rw [h1]
    have h2 := wiB_iff.1 h1
    (refine q_cond_false rfl (q_seq (q_region (ql_pure tabOk rfl rfl (ql_pure tabOk rfl rfl ?_)))))
    refine ql_callv (val := .bool (inL n l)) tabOk rfl rfl rfl rfl (fun w hs => ?_) ?_; exact by have := all_int w lo hi _ _ (ints l) (pIn n) (RdE.keep h hs.chg0) (fun i hi => by simp [ints, oneV]) (by simp [ints]; omega) (listed1_p w b2 a c n _ l hn (hs.blk (by repeat constructor))); rw [pIn_all] at this; simpa [ints] using this
    (refine ql_pure tabOk rfl rfl (ql_pure tabOk rfl rfl (q_nil ?_)))
    by_cases h3 : inL n l = true
    · rw [h3]
      (refine q_cond_false rfl (q_seq (q_region (ql_pure tabOk rfl rfl ?_))))
      refine ql_callv (val := .bool (srtB l)) tabOk rfl rfl rfl rfl (fun w hs => ?_) ?_; exact sorted_ca w lo hi _ l (RdE.keep h hs.chg0) hlen
      (refine ql_pure tabOk rfl rfl (ql_pure tabOk rfl rfl (q_nil ?_)))
      by_cases h4 : srtB l = true
      · rw [h4]
        (refine q_cond_false rfl (q_skip (q_blk (q_seq (q_region (ql_pure tabOk rfl rfl (q_nil (q_ret ?_))))))))
        refine q_fin tabOk rfl (by repeat constructor) fun w hs => ?_
        exact ⟨by simp only [retV, listedV, h3, h4]; rw [if_neg (by omega)]; rfl, hs.chg0⟩
      · rw [Bool.eq_false_iff.2 h4]
        (refine q_cond_true rfl (q_seq (q_region (ql_pure tabOk rfl rfl (q_nil (q_ret ?_))))))
        refine q_fin tabOk rfl (by repeat constructor) fun w hs => ?_
        exact ⟨by simp only [retV, listedV, h3, Bool.eq_false_iff.2 h4]; rw [if_neg (by omega)]; rfl, hs.chg0⟩
    · rw [Bool.eq_false_iff.2 h3]
      (refine q_cond_true rfl (q_seq (q_region (ql_pure tabOk rfl rfl (q_nil (q_ret ?_))))))
      refine q_fin tabOk rfl (by repeat constructor) fun w hs => ?_
      exact ⟨by simp only [retV, listedV, Bool.eq_false_iff.2 h3]; rw [if_neg (by omega)]; rfl, hs.chg0⟩
  · rw [Bool.eq_false_iff.2 h1]
    have h2 : ¬(1 ≤ l.length ∧ l.length ≤ 6) := fun h => h1 (wiB_iff.2 (by omega))
    (refine q_cond_true rfl (q_seq (q_region (ql_pure tabOk rfl rfl (q_nil (q_ret ?_))))))
    refine q_fin tabOk rfl (by repeat constructor) fun w hs => ?_
    exact ⟨by simp only [retV, listedV]; rw [if_pos h2], hs.chg0⟩
end Go.Proofs.YtpknmgafambmbaaGreat

/- Walks: which rules a course breaks. -/
namespace Go.Proofs.YtpknmgafambmbaaGreat
open Go Go.Eng

theorem Blk.rdI {w : World} {b : Nat} {l : List Int} {t : TypeId} {c : Nat} (h : Blk w b (ints l) t) : RdI w 0 w.heap.size (.slice (some ⟨b, 0, none⟩) l.length c) l :=
  RdI.of ((Blk.rd h (by simp) c).wide (Nat.zero_le _) h.lt)
theorem sum2_ca (w : World) (b : Nat) (x y : Int) (t : TypeId) (hb : Blk w b [.int .i64 x, .int .i64 y] t) (h1 : -400000000 ≤ x ∧ x ≤ 400000000) (h2 : -400000000 ≤ y ∧ y ≤ 400000000) :
    Ca Tryz.prog 44 [.slice (some ⟨b, 0, none⟩) 2 2] w fun r w' => r = .int .i64 (x + y) ∧ Chg [] w w' := by
  have h := sum_ca w 0 w.heap.size (.slice (some ⟨b, 0, none⟩) 2 2) [x, y] (Blk.rdI (c := 2) (l := [x, y]) hb) (by simp) (fun k hk => by
    have hk2 : k = 0 ∨ k = 1 ∨ k = 2 := by simp at hk; omega
    rcases hk2 with rfl | rfl | rfl <;> simp <;> omega)
  simpa using h

theorem kI : KeyT Tryz.prog 3 (keyI .i64) eqV := keyT_int (by kernel_rfl)
theorem mapT : Tryz.prog.underlying 113 = some (.map 3 3) := by kernel_rfl
theorem mk_arr : arrB Tryz.prog 82 5 4 1 = true := by kernel_rfl
/-- A desk's cells. -/
abbrev dkC (r : Rl) (a : Option Addr) (n c : Nat) : List Value := [.int .i64 r.laps, .int .i64 r.g0, .int .i64 r.g1, .int .i64 r.c0, .int .i64 r.c1, .int .i64 r.p0, .int .i64 r.p1, .int .i64 r.wide, .int .i64 r.uses, .slice a n c]
/-- How often the loops of the first laps occur. -/
def cntF (c : List Int) : Nat → Value → Option Value
  | 0 => fun _ => none
  | k + 1 => fun x => if eqV x (.int .i64 (c.getD k 0)) then some (.int .i64 (cntI (c.take (k + 1)) (c.getD k 0))) else cntF c k x
theorem cntF_get (c : List Int) (i : Int) : ∀ k, k ≤ c.length → (cntF c k (.int .i64 i)).getD (.int .i64 0) = .int .i64 (cntI (c.take k) i)
  | 0, _ => by simp [cntF, cntI]
  | k + 1, h => by
    have ih := cntF_get c i k (by omega)
    have e := cnt_take_succ c i k (by omega)
    have hd : c.getD k 0 = c[k] := getD_at (by omega)
    by_cases hi : i = c[k]
    · simp only [cntF, eqV, hd, hi, decide_true, if_true, Option.getD_some]
    · simp only [cntF, eqV, hd, hi, decide_false, Bool.false_eq_true, if_false, ih]
      rw [e, if_neg (fun h => hi h.symm)]
      rfl
def lenP (s : List Lp) (c : List Int) (k : Nat) : Int := ((c.take k).map fun i => (lpAt s i).len).sum
def clbP (s : List Lp) (c : List Int) (k : Nat) : Int := ((c.take k).map fun i => (lpAt s i).climb).sum
def lapP (s : List Lp) (r : Rl) (c : List Int) (k : Nat) : Bool := (c.take k).any fun i => !wiB (lpAt s i).len r.p0 r.p1
def widP (s : List Lp) (r : Rl) (c : List Int) (k : Nat) : Bool := (c.take k).any fun i => decide ((lpAt s i).wide < r.wide) && true
theorem lenP_bd {s : List Lp} (hs : StadR s) {c : List Int} (hc : ∀ x ∈ c, 0 ≤ x ∧ x < s.length) (k : Nat) (hk : k ≤ c.length) (h6 : c.length ≤ 6) : (0 ≤ lenP s c k ∧ lenP s c k ≤ 120000) ∧ 0 ≤ clbP s c k ∧ clbP s c k ≤ 12000 := by
  have h := lenS_bd hs (c := c.take k) (fun x hx => hc x (List.mem_of_mem_take hx))
  have hl : (c.take k).length = k := by simp; omega
  rw [hl] at h
  unfold lenP clbP
  unfold lenS clbS at h
  omega
abbrev mkA (s : List Lp) (r : Rl) (c : List Int) : Value := .agg #[.bool (!wiB (lenS s c) r.g0 r.g1), .bool (!wiB (clbS s c) r.c0 r.c1), .bool (lapB s r c), .bool (widB s r c), .bool (oftB r c)]
theorem mem_at {c : List Int} {P : Int → Prop} (h : ∀ x ∈ c, P x) {k : Nat} (hk : k < c.length) : P c[k] := h _ (List.getElem_mem hk)

def tK14_3863c99 : OT := .alt (chainT [4, 5, 6, 7, 8, 9, 10, 11] (.nil)) (chainT [5, 6, 7, 8, 4, 9, 10, 11] (.nil))
def tK14_21644a5 : OT := .alt (chainT [0, 1, 2, 3] (tK14_3863c99)) (chainT [5, 6, 7, 8, 0, 1, 2, 3, 4, 9, 10, 11] (.nil))
set_option maxHeartbeats 4000000 in
theorem broken_ca (w : World) (lo hi lo2 hi2 : Nat) (a : Option Addr) (cp : Nat) (v : Value) (s : List Lp) (r : Rl) (c : List Int) (h : RdL w lo hi (.slice a s.length cp) s) (hcr : CR s r) (hv : RdI w lo2 hi2 v c) (hc1 : ∀ x ∈ c, 0 ≤ x ∧ x < s.length) (hc2 : c.length ≤ 6) :
    Ca Tryz.prog 25 [.agg (dkC r a s.length cp).toArray, v] w fun x w' => x = mkA s r c ∧ Chg [] w w' := by
  obtain ⟨av, cv, rfl, hsv⟩ := RdI.outI hv
  obtain ⟨_, _, e0, hsa⟩ := RdL.outI h
  cases e0
  have hn2 := hcr.s.n2
  refine q_of (Sat.nil w M0) Tryz.func25 rfl (by simp [Tryz.ntmps25]) ?_
  (refine q_seq (q_region ?_))
  refine ql_box rfl rfl (fun b2 => ?_)
  refine ql_alloc zero82 rfl (fun b4 => ?_)
  (refine q_nil (q_seq (q_region ?_)); (iterate 3 refine ql_pure tabOk rfl rfl ?_); refine q_nil (q_seq (q_region ?_)))
  refine ql_makeMap (keyI .i64) eqV rfl (fun bm => ?_)
  (refine ql_pure tabOk rfl rfl (q_nil (q_seq (q_region ?_))))
  refine ql_alloc zero82 rfl (fun b9 => ?_)
  (refine q_nil (q_seq (q_seq (q_region ?_))); (iterate 3 refine ql_pure tabOk rfl rfl ?_); refine q_nil (q_block ?_))
  refine q_loop (σ := Nat) (fun k => k ≤ c.length) (fun k => c.length - k) (fun k => [(2, .pointer (some ⟨b2, 0, none⟩)), (4, .pointer (some ⟨b4, 0, none⟩)), (5, .int .i64 (lenP s c k)), (6, .int .i64 (clbP s c k)), (7, .int .i64 (mostP c k)), (8, .map (some bm)), (9, .pointer (some ⟨b9, 0, none⟩)), (14, .slice av c.length cv), (15, .int .i64 c.length), (16, .int .i64 k)])
    (fun k => [.pt b9 [.bool false, .bool false, .bool (lapP s r c k), .bool (widP s r c k), .bool false] 82, mpP (keyI .i64) eqV bm (cntF c k), .pt b4 [.bool false, .bool false, .bool false, .bool false, .bool false] 82, .pt b2 (dkC r a s.length cp) 77]) 0 (by simp) ⟨rfl, rfl, rfl, rfl, rfl, rfl, rfl, rfl, rfl, rfl, trivial⟩ (by repeat constructor) ?_
  rintro k hk K hK
  (refine q_seq (q_region (ql_pure tabOk rfl rfl (q_nil (q_seq ?_)))))
  refine q_if rfl (fun hc => ?_) (fun hc => ?_)
  · have hk2 : k < c.length := by omega
    clear hc
    obtain ⟨bv, ov, rfl⟩ := hsv (by omega)
    have hi := mem_at hc1 hk2
    obtain ⟨ba, oa, rfl⟩ := hsa (by omega)
    have el := map_take_sum (fun i => (lpAt s i).len) c k hk2
    have ec := map_take_sum (fun i => (lpAt s i).climb) c k hk2
    have ep := any_take (fun i => !wiB (lpAt s i).len r.p0 r.p1) c k hk2
    have ew := any_take (fun i => decide ((lpAt s i).wide < r.wide) && true) c k hk2
    have em := cnt_take_succ c c[k] k hk2
    have eg := cntF_get c c[k] k hk
    have eM : mostP c (k + 1) = max (mostP c k) (cntI (c.take (k + 1)) c[k]) := by rw [mostP, getD_at hk2]
    have eF : cntF c (k + 1) = fun x => if eqV x (.int .i64 c[k]) then some (.int .i64 (cntI (c.take (k + 1)) c[k])) else cntF c k x := by
      funext x
      rw [cntF, getD_at hk2]
    have b0 := lenP_bd hcr.s hc1 k hk hc2
    have bm0 := mostP_bd c k
    have hcl := cnt_le (c := c.take k) (i := c[k])
    have htl : (c.take k).length = k := by simp; omega
    have hR := lpAt_right hcr.s hi
    have eat := lpAt_at hi
    have hR1 := hR.len
    have hR2 := hR.climb
    have hR3 := hR.wide
    change lenP s c (k + 1) = lenP s c k + _ at el
    change clbP s c (k + 1) = clbP s c k + _ at ec
    change lapP s r c (k + 1) = (lapP s r c k || _) at ep
    change widP s r c (k + 1) = (widP s r c k || _) at ew
    (refine q_skip (q_seq (q_block (q_seq (q_region ?_)))))
    (refine ql_index tabOk rfl rfl rfl rfl rfl (by omega) (by omega) ?_; refine ql_load1 tabOk rfl rfl rfl (fun w hs => RdI.at (hv.keep hs.chg0) k hk2) ?_)
    generalize c[k] = ck at *
    obtain ⟨i, rfl⟩ := Int.eq_ofNat_of_zero_le hi.1
    have hi2 : i < s.length := by omega
    replace eat : lpAt s (i : Int) = s[i] := eat
    (refine ql_pure tabOk rfl rfl (q_nil (q_seq (q_region (ql_pure tabOk rfl rfl ?_)))); refine ql_loadBa tabOk rfl rfl rfl ?_; refine ql_pure tabOk rfl rfl ?_)
    refine ql_index tabOk rfl rfl rfl rfl rfl (by omega) (by omega) ?_
    refine ql_loadA tabOk rfl rfl rfl rfl (fun w hs => RdL.at (RdE.keep h hs.chg0) i hi2) ?_
    rw [eat] at hR1 hR2 hR3 el ec ep ew
    clear eat hR
    generalize s[i] = lp at *
    obtain ⟨ln, cl, wd⟩ := lp
    dsimp only at *
    skip
    refine ql_alloc zero61 rfl (fun b12 => ?_)
    (refine ql_setA tabOk rfl rfl rfl rfl rfl (by repeat constructor) rfl ?_; refine q_nil (q_seq ?_))
    refine q_cut (σ := Unit) (fun _ => [(2, .pointer (some ⟨b2, 0, none⟩)), (4, .pointer (some ⟨b4, 0, none⟩)), (5, .int .i64 (lenP s c k + ln)), (6, .int .i64 (clbP s c k + cl)), (7, .int .i64 (mostP c k)), (8, .map (some bm)), (9, .pointer (some ⟨b9, 0, none⟩)), (11, .int .i64 i), (12, .pointer (some ⟨b12, 0, none⟩)), (14, .slice (some ⟨bv, ov, none⟩) c.length cv), (15, .int .i64 c.length), (16, .int .i64 k)])
      (fun _ => [.pt b12 [.int .i64 ln, .int .i64 cl, .int .i64 wd] 61, .pt b9 [.bool false, .bool false, .bool (lapP s r c k), .bool (widP s r c k), .bool false] 82, mpP (keyI .i64) eqV bm (cntF c k), .pt b4 [.bool false, .bool false, .bool false, .bool false, .bool false] 82, .pt b2 (dkC r (some ⟨ba, oa, none⟩) s.length cp) 77]) ?_ (fun K2 hK2 => ?_)
    rotate_left
    · skip
      refine q_drawT (tK14_21644a5) _ [] (Sp.refl _) (by kernel_rfl) (by kernel_rfl) ?_
      refine qt_alt ?_ ?_
      · skip
        refine qt_seg (by repeat (first | exact PickL.nil | (apply PickL.cons; rfl))) fun K1 hK1 => ?_
        (refine qf_pure tabOk rfl rfl rfl (qf_pure tabOk rfl rfl rfl ?_); refine qf_loadBa tabOk rfl rfl rfl ?_)
        refine qf_mkS 3 [.int .i64 (lenP s c k), .int .i64 ln] rfl (by kernel_rfl) rfl (fun c1 => ?_)
        (refine qf_nil ?_)
        refine hK1 _ _ ?_
        refine qt_alt ?_ ?_
        · skip
          refine qt_seg (by repeat (first | exact PickL.nil | (apply PickL.cons; rfl))) fun K1 hK1 => ?_
          skip
          refine qf_callv (val := .int .i64 (lenP s c k + ln)) tabOk rfl rfl rfl rfl (fun w hs => ?_) ?_; exact sum2_ca w c1 _ _ _ (hs.blk (b := c1) (by repeat constructor)) (by omega) (by omega)
          (refine qf_pure tabOk rfl rfl rfl (qf_pure tabOk rfl rfl rfl ?_); refine qf_loadBa tabOk rfl rfl rfl ?_)
          refine qf_mkS 3 [.int .i64 (clbP s c k), .int .i64 cl] rfl (by kernel_rfl) rfl (fun c2 => ?_)
          skip
          refine qf_callv (val := .int .i64 (clbP s c k + cl)) tabOk rfl rfl rfl rfl (fun w hs => ?_) ?_; exact sum2_ca w c2 _ _ _ (hs.blk (b := c2) (by repeat constructor)) (by omega) (by omega)
          (refine qf_pure tabOk rfl rfl rfl (qf_pure tabOk rfl rfl rfl (qf_nil ?_)))
          exact hK1 _ _ (qt_nil (hK2 () _ _ ⟨rfl, rfl, rfl, rfl, rfl, rfl, rfl, rfl, rfl, rfl, rfl, rfl, trivial⟩ (by repeat constructor)))
        · skip
          refine qt_seg (by repeat (first | exact PickL.nil | (apply PickL.cons; rfl))) fun K1 hK1 => ?_
          (refine qf_pure tabOk rfl rfl rfl (qf_pure tabOk rfl rfl rfl ?_); refine qf_loadBa tabOk rfl rfl rfl ?_)
          refine qf_mkS 3 [.int .i64 (clbP s c k), .int .i64 cl] rfl (by kernel_rfl) rfl (fun c2 => ?_)
          skip
          refine qf_callv (val := .int .i64 (lenP s c k + ln)) tabOk rfl rfl rfl rfl (fun w hs => ?_) ?_; exact sum2_ca w c1 _ _ _ (hs.blk (b := c1) (by repeat constructor)) (by omega) (by omega)
          skip
          refine qf_callv (val := .int .i64 (clbP s c k + cl)) tabOk rfl rfl rfl rfl (fun w hs => ?_) ?_; exact sum2_ca w c2 _ _ _ (hs.blk (b := c2) (by repeat constructor)) (by omega) (by omega)
          (refine qf_pure tabOk rfl rfl rfl (qf_pure tabOk rfl rfl rfl (qf_nil ?_)))
          exact hK1 _ _ (qt_nil (hK2 () _ _ ⟨rfl, rfl, rfl, rfl, rfl, rfl, rfl, rfl, rfl, rfl, rfl, rfl, trivial⟩ (by repeat constructor)))
      · skip
        refine qt_seg (by repeat (first | exact PickL.nil | (apply PickL.cons; rfl))) fun K1 hK1 => ?_
        (refine qf_pure tabOk rfl rfl rfl (qf_pure tabOk rfl rfl rfl ?_); refine qf_loadBa tabOk rfl rfl rfl ?_)
        refine qf_mkS 3 [.int .i64 (clbP s c k), .int .i64 cl] rfl (by kernel_rfl) rfl (fun c2 => ?_)
        (refine qf_pure tabOk rfl rfl rfl (qf_pure tabOk rfl rfl rfl ?_); refine qf_loadBa tabOk rfl rfl rfl ?_)
        refine qf_mkS 3 [.int .i64 (lenP s c k), .int .i64 ln] rfl (by kernel_rfl) rfl (fun c1 => ?_)
        skip
        refine qf_callv (val := .int .i64 (lenP s c k + ln)) tabOk rfl rfl rfl rfl (fun w hs => ?_) ?_; exact sum2_ca w c1 _ _ _ (hs.blk (b := c1) (by repeat constructor)) (by omega) (by omega)
        skip
        refine qf_callv (val := .int .i64 (clbP s c k + cl)) tabOk rfl rfl rfl rfl (fun w hs => ?_) ?_; exact sum2_ca w c2 _ _ _ (hs.blk (b := c2) (by repeat constructor)) (by omega) (by omega)
        (refine qf_pure tabOk rfl rfl rfl (qf_pure tabOk rfl rfl rfl (qf_nil ?_)))
        exact hK1 _ _ (qt_nil (hK2 () _ _ ⟨rfl, rfl, rfl, rfl, rfl, rfl, rfl, rfl, rfl, rfl, rfl, rfl, trivial⟩ (by repeat constructor)))
    intro _
    (refine q_seq (q_region (ql_pure tabOk rfl rfl (ql_pure tabOk rfl rfl ?_))))
    refine ql_look kI mapT zero3 rfl rfl rfl (by repeat constructor) ⟨_, rfl⟩ eg ?_
    (refine ql_ar tabOk rfl rfl rfl rfl (by omega) (by omega) ?_)
    refine ql_mapUpd (v := .int .i64 (cntI (c.take (k + 1)) i)) kI mapT rfl rfl (lookI rfl (by rw [em, if_pos rfl]; omega)) ⟨_, rfl⟩ (by repeat constructor) ?_
    rw [← eF]
    (refine q_nil (q_seq (q_region ?_)); (iterate 3 refine ql_pure tabOk rfl rfl ?_))
    refine ql_look (v := .int .i64 (cntI (c.take (k + 1)) i)) kI mapT zero3 rfl rfl rfl (by repeat constructor) ⟨_, rfl⟩ (cntF_get c i (k + 1) (by omega)) ?_
    (refine ql_pure tabOk rfl rfl (ql_pure tabOk rfl rfl (q_nil (q_seq (q_region ?_)))))
    rw [← eM]
    refine ql_indexA mk_arr rfl rfl rfl (by omega) (by omega) ?_
    (refine ql_loadBa tabOk rfl rfl rfl ?_; refine ql_pure tabOk rfl rfl ?_)
    cases hlp : lapP s r c k
    · skip
      rw [hlp] at ep
      (refine ql_gyes rfl (ql_pure tabOk rfl rfl (ql_gyes rfl ?_)); refine ql_loadBa tabOk rfl rfl rfl ?_; refine ql_gyes rfl (ql_pure tabOk rfl rfl (ql_gyes rfl (ql_pure tabOk rfl rfl (ql_gyes rfl (ql_pure tabOk rfl rfl (ql_gyes rfl ?_)))))); refine ql_loadBa tabOk rfl rfl rfl ?_; refine ql_gyes rfl (ql_pure tabOk rfl rfl (ql_gyes rfl (ql_pure tabOk rfl rfl (ql_gyes rfl (ql_pure tabOk rfl rfl (ql_gyes rfl ?_)))))); refine ql_loadBa tabOk rfl rfl rfl ?_; refine ql_gyes rfl ?_)
      refine ql_callv (val := .bool (wiB ln r.p0 r.p1)) tabOk rfl rfl rfl rfl (fun w hs => ?_) ?_; exact within_ca ln r.p0 r.p1 w
      (refine ql_gyes rfl (ql_pure tabOk rfl rfl (ql_pure tabOk rfl rfl ?_)))
      refine ql_indexA mk_arr rfl rfl rfl (by omega) (by omega) ?_
      (refine ql_st2 tabOk rfl rfl rfl rfl (by repeat constructor) ?_; refine q_nil (q_region ?_))
      refine ql_indexA mk_arr rfl rfl rfl (by omega) (by omega) ?_
      (refine ql_loadBa tabOk rfl rfl rfl ?_; refine ql_pure tabOk rfl rfl ?_)
      cases hwp : widP s r c k
      · skip
        rw [hwp] at ew
        (refine ql_gyes rfl (ql_pure tabOk rfl rfl (ql_gyes rfl ?_)); refine ql_loadBa tabOk rfl rfl rfl ?_; refine ql_gyes rfl (ql_pure tabOk rfl rfl (ql_gyes rfl (ql_pure tabOk rfl rfl (ql_gyes rfl ?_)))); refine ql_loadBa tabOk rfl rfl rfl ?_; refine ql_gyes rfl (ql_pure tabOk rfl rfl (ql_pure tabOk rfl rfl ?_)))
        refine ql_indexA mk_arr rfl rfl rfl (by omega) (by omega) ?_
        (refine ql_st3 tabOk rfl rfl rfl rfl (by repeat constructor) ?_; refine q_nil (q_blk (q_region (ql_ar tabOk rfl rfl rfl rfl (by omega) (by omega) (ql_pure tabOk rfl rfl (q_nil ?_))))))
        refine hK (k + 1) _ _ (by omega) (by omega) ⟨rfl, rfl, lookI rfl el.symm, lookI rfl ec.symm, rfl, rfl, rfl, rfl, rfl, lookI rfl (by omega), trivial⟩ (by rw [ep, ew]; simp only [Bool.or_false, Bool.or_true, Bool.true_or, Bool.false_or, Bool.and_true]; repeat constructor)
      · skip
        rw [hwp] at ew
        ((iterate 6 refine ql_gno rfl rfl rfl ?_); refine ql_pure tabOk rfl rfl ?_)
        refine ql_indexA mk_arr rfl rfl rfl (by omega) (by omega) ?_
        (refine ql_st3 tabOk rfl rfl rfl rfl (by repeat constructor) ?_; refine q_nil (q_blk (q_region (ql_ar tabOk rfl rfl rfl rfl (by omega) (by omega) (ql_pure tabOk rfl rfl (q_nil ?_))))))
        refine hK (k + 1) _ _ (by omega) (by omega) ⟨rfl, rfl, lookI rfl el.symm, lookI rfl ec.symm, rfl, rfl, rfl, rfl, rfl, lookI rfl (by omega), trivial⟩ (by rw [ep, ew]; simp only [Bool.or_false, Bool.or_true, Bool.true_or, Bool.false_or, Bool.and_true]; repeat constructor)
    · skip
      rw [hlp] at ep
      ((iterate 12 refine ql_gno rfl rfl rfl ?_); refine ql_pure tabOk rfl rfl ?_)
      refine ql_indexA mk_arr rfl rfl rfl (by omega) (by omega) ?_
      (refine ql_st2 tabOk rfl rfl rfl rfl (by repeat constructor) ?_; refine q_nil (q_region ?_))
      refine ql_indexA mk_arr rfl rfl rfl (by omega) (by omega) ?_
      (refine ql_loadBa tabOk rfl rfl rfl ?_; refine ql_pure tabOk rfl rfl ?_)
      cases hwp : widP s r c k
      · skip
        rw [hwp] at ew
        (refine ql_gyes rfl (ql_pure tabOk rfl rfl (ql_gyes rfl ?_)); refine ql_loadBa tabOk rfl rfl rfl ?_; refine ql_gyes rfl (ql_pure tabOk rfl rfl (ql_gyes rfl (ql_pure tabOk rfl rfl (ql_gyes rfl ?_)))); refine ql_loadBa tabOk rfl rfl rfl ?_; refine ql_gyes rfl (ql_pure tabOk rfl rfl (ql_pure tabOk rfl rfl ?_)))
        refine ql_indexA mk_arr rfl rfl rfl (by omega) (by omega) ?_
        (refine ql_st3 tabOk rfl rfl rfl rfl (by repeat constructor) ?_; refine q_nil (q_blk (q_region (ql_ar tabOk rfl rfl rfl rfl (by omega) (by omega) (ql_pure tabOk rfl rfl (q_nil ?_))))))
        refine hK (k + 1) _ _ (by omega) (by omega) ⟨rfl, rfl, lookI rfl el.symm, lookI rfl ec.symm, rfl, rfl, rfl, rfl, rfl, lookI rfl (by omega), trivial⟩ (by rw [ep, ew]; simp only [Bool.or_false, Bool.or_true, Bool.true_or, Bool.false_or, Bool.and_true]; repeat constructor)
      · skip
        rw [hwp] at ew
        ((iterate 6 refine ql_gno rfl rfl rfl ?_); refine ql_pure tabOk rfl rfl ?_)
        refine ql_indexA mk_arr rfl rfl rfl (by omega) (by omega) ?_
        (refine ql_st3 tabOk rfl rfl rfl rfl (by repeat constructor) ?_; refine q_nil (q_blk (q_region (ql_ar tabOk rfl rfl rfl rfl (by omega) (by omega) (ql_pure tabOk rfl rfl (q_nil ?_))))))
        refine hK (k + 1) _ _ (by omega) (by omega) ⟨rfl, rfl, lookI rfl el.symm, lookI rfl ec.symm, rfl, rfl, rfl, rfl, rfl, lookI rfl (by omega), trivial⟩ (by rw [ep, ew]; simp only [Bool.or_false, Bool.or_true, Bool.true_or, Bool.false_or, Bool.and_true]; repeat constructor)
  · obtain rfl : k = c.length := by omega
    clear hc hK
    have e1 : lenP s c c.length = lenS s c := by simp [lenP, lenS]
    have e2 : clbP s c c.length = clbS s c := by simp [clbP, clbS]
    have e3 : lapP s r c c.length = lapB s r c := by simp [lapP, lapB]
    have e4 : widP s r c c.length = widB s r c := by simp [widP, widB]
    rw [e1, e2, e3, e4]
    (refine q_exit _ rfl (q_seq (q_region ?_)); (iterate 4 refine ql_pure tabOk rfl rfl ?_); refine ql_loadBa tabOk rfl rfl rfl ?_; (iterate 3 refine ql_pure tabOk rfl rfl ?_); refine ql_loadBa tabOk rfl rfl rfl ?_)
    refine ql_callv (val := .bool (wiB (lenS s c) r.g0 r.g1)) tabOk rfl rfl rfl rfl (fun w hs => ?_) ?_; exact within_ca _ r.g0 r.g1 w
    (refine ql_pure tabOk rfl rfl ?_)
    refine ql_indexA mk_arr rfl rfl rfl (by omega) (by omega) ?_
    (refine ql_st0 tabOk rfl rfl rfl rfl (by repeat constructor) ?_; refine q_nil (q_seq (q_region ?_)); (iterate 4 refine ql_pure tabOk rfl rfl ?_); refine ql_loadBa tabOk rfl rfl rfl ?_; (iterate 3 refine ql_pure tabOk rfl rfl ?_); refine ql_loadBa tabOk rfl rfl rfl ?_)
    refine ql_callv (val := .bool (wiB (clbS s c) r.c0 r.c1)) tabOk rfl rfl rfl rfl (fun w hs => ?_) ?_; exact within_ca _ r.c0 r.c1 w
    (refine ql_pure tabOk rfl rfl ?_)
    refine ql_indexA mk_arr rfl rfl rfl (by omega) (by omega) ?_
    (refine ql_st1 tabOk rfl rfl rfl rfl (by repeat constructor) ?_; refine q_nil (q_seq (q_region ?_)); (iterate 3 refine ql_pure tabOk rfl rfl ?_); refine ql_loadBa tabOk rfl rfl rfl ?_; refine ql_pure tabOk rfl rfl ?_)
    refine ql_indexA mk_arr rfl rfl rfl (by omega) (by omega) ?_
    (refine ql_st4 tabOk rfl rfl rfl rfl (by repeat constructor) ?_; refine q_nil (q_seq (q_region ?_)); refine ql_loadABa tabOk rfl rfl rfl ?_; refine ql_setA tabOk rfl rfl rfl rfl rfl (by repeat constructor) rfl ?_; refine q_nil (q_ret ?_))
    refine q_fin tabOk rfl (by repeat constructor) fun w hs => ?_
    exact ⟨by simp [retV, mkA, oftB], hs.chg0⟩
end Go.Proofs.YtpknmgafambmbaaGreat

/- Walks: the rules that are marked; Broken. -/
namespace Go.Proofs.YtpknmgafambmbaaGreat
open Go Go.Eng

abbrev bls (m : List Bool) : List Value := m.map Value.bool

end Go.Proofs.YtpknmgafambmbaaGreat

/- Walks: all courses, handed out one by one. -/
namespace Go.Proofs.YtpknmgafambmbaaGreat
open Go Go.Eng

theorem sclone_ca (w : World) (lo hi : Nat) (v : Value) (l : List Int) (hl : RdI w lo hi v l) (hlen : l.length < 1000000) : Ca Tryz.prog 43 [v] w fun v w' => ∃ x : Value, v = x ∧ Sat w M0 [.ow x 3 1 l.length (ints l)] w' := by
  obtain ⟨a, c, rfl, hs⟩ := RdI.outI hl
  refine q_of (Sat.nil w M0) Tryz.func43 rfl (by simp [Tryz.ntmps43]) ?_
  (refine q_seq (q_region (ql_pure tabOk rfl rfl (q_nil (q_seq (q_seq (q_region (ql_pure tabOk rfl rfl ?_))))))))
  refine ql_eqnil tabOk rfl rfl rfl rfl ?_
  cases a with
  | none =>
    have h0 : l = [] := by
      cases l with
      | nil => rfl
      | cons x l =>
        obtain ⟨b, off, hb⟩ := hs (by simp)
        cases hb
    subst h0
    (refine q_nil (q_cond_true rfl (q_seq (q_region (ql_pure tabOk rfl rfl (q_nil (q_ret ?_)))))))
    refine q_fin tabOk rfl (by repeat constructor) fun w hs => ?_
    exact ⟨_, rfl, by simpa [ints, retV] using Sat.ownil hs 3 1⟩
  | some ad =>
    (refine q_nil (q_cond_false rfl (q_skip (q_seq (q_region ?_)))))
    refine ql_mkS0 3 (by kernel_rfl) (by kernel_rfl) rfl (fun x => ?_)
    (refine ql_pure tabOk rfl rfl ?_)
    refine ql_append (q := l.length) slI rfl rfl rfl (fun v' => by repeat constructor) (fun w' hs => ⟨lo, hi, RdI.row (RdE.keep hl hs.chg0)⟩) (by simp [oneV]) (by omega) (by omega) (fun v' => ?_)
    (refine ql_pure tabOk rfl rfl (q_nil (q_ret ?_)))
    refine q_fin tabOk rfl (by repeat constructor) fun w hs => ?_
    exact ⟨v', rfl, by simpa using hs⟩

theorem courses_ca (w : World) (a : Option Addr) (n c : Nat) (r : Rl) : Ca Tryz.prog 24 [.agg (dkC r a n c).toArray] w fun v w' =>
    ∃ b : Nat, v = .func (.func 41) #[] #[.pointer (some ⟨b, 0, none⟩)] ∧ Sat w M0 [.pt b (dkC r a n c) 77] w' := by
  refine q_of (Sat.nil w M0) Tryz.func24 rfl (by simp [Tryz.ntmps24]) ?_
  (refine q_seq (q_region ?_))
  refine ql_box rfl rfl (fun b1 => ?_)
  (refine ql_pure tabOk rfl rfl (q_nil (q_seq (q_region (ql_pure tabOk rfl rfl (ql_pure tabOk rfl rfl (q_nil (q_ret ?_))))))))
  refine q_fin tabOk rfl (by repeat constructor) fun w hs => ?_
  exact ⟨b1, rfl, hs⟩

/-- What later changes leave alone. -/
theorem Sat.base {w1 w' wc : World} {M : Nat → Prop} {A B : List Ck} (h : Sat w1 M A w') (hs : Sat w' (DL A) B wc) : Sat w1 M B wc :=
  ⟨h.chg.upP hs.chg (fun k ⟨x, hx, hk⟩ => (h.bd x hx k hk).2), hs.all, hs.sep, fun c hc b hb => ⟨(hs.bd c hc b hb).1, by
    rcases (hs.bd c hc b hb).2 with ⟨x, hx, hk⟩ | h1
    · exact (h.bd x hx b hk).2
    · exact .inr (Nat.le_trans h.chg.size h1)⟩⟩
theorem Sat.front {w0 w1 w : World} {M : Nat → Prop} {A : List Ck} (c : Chg [] w0 w1) (h : Sat w1 M A w) : Sat w0 M A w :=
  ⟨⟨h.chg.os.trans c.os, h.chg.tape.trans c.tape, h.chg.output.trans c.output, Nat.le_trans c.size h.chg.size, fun k hk hn => (h.chg.block k (Nat.lt_of_lt_of_le hk c.size) hn).trans (c.block k hk (by simp))⟩, h.all, h.sep, fun x hx b hb => ⟨(h.bd x hx b hb).1, (h.bd x hx b hb).2.imp id (fun h1 => Nat.le_trans c.size h1)⟩⟩

theorem flat_at {α : Type} (f : Nat → List α) (s m j : Nat) (h : j < m) : (List.range' s m).flatMap f = (List.range' s j).flatMap f ++ f (s + j) ++ (List.range' (s + j + 1) (m - j - 1)).flatMap f := by
  have e : List.range' s m = List.range' s j ++ (s + j) :: List.range' (s + j + 1) (m - j - 1) := by
    have h1 : m = j + ((m - j - 1) + 1) := by omega
    rw [← List.range'_succ, List.range'_append_1, ← h1]
  rw [e]
  simp
theorem flat_next {α : Type} (f : Nat → List α) (s j : Nat) : (List.range' s (j + 1)).flatMap f = (List.range' s j).flatMap f ++ f (s + j) := by
  rw [← List.range'_append_1]
  simp

theorem un_D {A R : List Ck} {b : Nat} (h : DL (A ++ R) b) : ∃ c ∈ un A :: R, c.D b := by
  obtain ⟨c, hc, hb⟩ := h
  rcases List.mem_append.1 hc with hc | hc
  · exact ⟨un A, .head _, c, hc, hb⟩
  · exact ⟨c, .tail _ hc, hb⟩
abbrev cK (x : Value × List Int) : List Ck := [.ow x.1 3 1 x.2.length (ints x.2)]
def LeastOf (l : List Int) (least : Nat) : Prop := (l.length = 0 ∧ least = 0) ∨ (0 < l.length ∧ l.getD (l.length - 1) 0 = (least : Int))

def tK16_b58bdae : OT := .alt (chainT [1, 2, 3, 4, 5, 0, 6, 7] (.nil)) (chainT [3, 4, 1, 2, 5, 0, 6, 7] (.nil))
set_option maxHeartbeats 4000000 in
theorem grow_ca {σ : Type} {L : σ → List Ck} {I : List (List Int) → σ → Prop} {E : σ → Prop} {s0 : σ} (w1 : World) (b1 b2 b3 : Nat) (a : Option Addr) (n cp : Nat) (r : Rl) (fv : Value) (laps : Nat) (hla : r.laps = laps) (hl6 : laps ≤ 6) (hn : n ≤ 12)
    {t1 t2 t3 : TypeId} (hb1 : ∀ w', ChgP (DL (L s0)) w1 w' → Blk w' b1 (dkC r a n cp) t1) (hb2 : ∀ w', ChgP (DL (L s0)) w1 w' → Blk w' b2 [fv] t2)
    (hb3 : ∀ w', ChgP (DL (L s0)) w1 w' → Blk w' b3 [.func (.func 42) #[] #[.pointer (some ⟨b1, 0, none⟩), .pointer (some ⟨b2, 0, none⟩), .pointer (some ⟨b3, 0, none⟩)]] t3) (xs : List (List Int))
    (hcb : ∀ pre (x : Value × List Int) post s w', xs = pre ++ x.2 :: post → I pre s → Sat w1 (DL (L s0)) (L s ++ cK x) w' → CaF Tryz.prog fv [x.1] w' (fun v w'' => ∃ s', ((v = .bool true ∧ I (pre ++ [x.2]) s') ∨ (v = .bool false ∧ E s')) ∧ Sat w' (DL (L s ++ cK x)) (L s') w'')) :
    ∀ (m : Nat) (l : List Int) (lv : Value) (least : Nat) (pre post : List (List Int)) (s : σ) (w' : World), l.length + m = laps → LeastOf l least → xs = pre ++ growL n m least l ++ post → I pre s → Sat w1 (DL (L s0)) (L s ++ cK (lv, l)) w' →
      Ca Tryz.prog 42 [lv, .pointer (some ⟨b1, 0, none⟩), .pointer (some ⟨b2, 0, none⟩), .pointer (some ⟨b3, 0, none⟩)] w' fun v w'' => ∃ s', ((v = .bool true ∧ I (pre ++ growL n m least l) s') ∨ (v = .bool false ∧ E s')) ∧ Sat w' (DL (L s ++ cK (lv, l))) (L s') w'' := by
  intro m
  induction m with
  | zero =>
    intro l lv least pre post s w' hlm hle hxs hI hsat
    obtain ⟨av, cv, rfl⟩ : ∃ a c, lv = .slice a l.length c := hsat.slice2 (List.mem_append_right _ (.head _))
    have hm : ∀ w'', ChgP (DL (L s ++ cK (.slice av l.length cv, l))) w' w'' → ChgP (DL (L s0)) w1 w'' := fun w'' hc => hsat.later hc
    have hp1 := fun w'' hc => hb1 w'' (hm w'' hc)
    have hp2 := fun w'' hc => hb2 w'' (hm w'' hc)
    refine q_of (H := [un (L s), .ow (.slice av l.length cv) 3 1 l.length (ints l)]) (Sat.un_iff.2 hsat.self') Tryz.func42 rfl (by simp [Tryz.ntmps42]) ?_
    have e0 : growL n 0 least l = [l] := rfl
    rw [e0] at hxs ⊢
    (refine q_seq (q_region (ql_pure tabOk rfl rfl (q_nil (q_seq (q_seq (q_region ?_)))))); (iterate 4 refine ql_pure tabOk rfl rfl ?_); refine ql_loadG tabOk rfl rfl rfl (by assumption) (by rfl) ?_; refine ql_eqlT tabOk rfl rfl rfl (by omega) (q_nil (q_cond_true rfl (q_seq (q_region ?_)))); refine ql_loadG tabOk rfl rfl rfl (by assumption) (by rfl) ?_; refine ql_pure tabOk rfl rfl ?_)
    refine ql_callF (β := σ) (ψ := fun s' v => (v = .bool true ∧ I (pre ++ [l]) s') ∨ (v = .bool false ∧ E s')) (L' := fun s' => [un (L s')]) [un (L s), .ow (.slice av l.length cv) 3 1 l.length (ints l)] [] (DL (L s ++ cK (.slice av l.length cv, l))) rfl rfl rfl (Sp.refl _) (fun b hb => un_D hb)
      (fun w'' hs => (hcb pre (.slice av l.length cv, l) post s w'' (by rw [hxs]; simp) hI (Sat.base hsat (Sat.un_iff.1 hs))).mono fun v w3 ⟨s', h1, h2⟩ => ⟨s', h1, Sat.un1.2 h2⟩) ?_
    rintro s' v (⟨rfl, hI'⟩ | ⟨rfl, hE⟩)
    · (refine ql_pure tabOk rfl rfl (q_nil (q_ret ?_)))
      refine q_fin tabOk rfl (by repeat constructor) fun w hs => ?_
      exact ⟨s', .inl ⟨rfl, hI'⟩, Sat.un1.1 hs⟩
    · (refine ql_pure tabOk rfl rfl (q_nil (q_ret ?_)))
      refine q_fin tabOk rfl (by repeat constructor) fun w hs => ?_
      exact ⟨s', .inr ⟨rfl, hE⟩, Sat.un1.1 hs⟩
  | succ m ih =>
    intro l lv least pre post s w' hlm hle hxs hI hsat
    obtain ⟨av, cv, rfl⟩ : ∃ a c, lv = .slice a l.length c := hsat.slice2 (List.mem_append_right _ (.head _))
    have hm : ∀ w'', ChgP (DL (L s ++ cK (.slice av l.length cv, l))) w' w'' → ChgP (DL (L s0)) w1 w'' := fun w'' hc => hsat.later hc
    have hp1 := fun w'' hc => hb1 w'' (hm w'' hc)
    have hp2 := fun w'' hc => hb2 w'' (hm w'' hc)
    have hp3 := fun w'' hc => hb3 w'' (hm w'' hc)
    refine q_of (H := [un (L s), .ow (.slice av l.length cv) 3 1 l.length (ints l)]) (Sat.un_iff.2 hsat.self') Tryz.func42 rfl (by simp [Tryz.ntmps42]) ?_
    have e0 : growL n (m + 1) least l = (List.range' least (n - least)).flatMap fun i => growL n m i (l ++ [(i : Int)]) := rfl
    rw [e0] at hxs ⊢
    (refine q_seq (q_region (ql_pure tabOk rfl rfl (q_nil (q_seq (q_seq (q_region ?_)))))); (iterate 4 refine ql_pure tabOk rfl rfl ?_); refine ql_loadG tabOk rfl rfl rfl (by assumption) (by rfl) ?_; refine ql_eqlF tabOk rfl rfl rfl (by omega) (q_nil (q_cond_false rfl (q_skip (q_seq (q_region (ql_pure tabOk rfl rfl (q_nil (q_seq (q_seq (q_region ?_)))))))))); (iterate 3 refine ql_pure tabOk rfl rfl ?_); refine q_nil ?_)
    refine q_cut (σ := Unit) (fun _ => [(0, .slice av l.length cv), (1, .pointer (some ⟨b1, 0, none⟩)), (2, .pointer (some ⟨b2, 0, none⟩)), (3, .pointer (some ⟨b3, 0, none⟩)), (6, .int .i64 least)]) (fun _ => [un (L s), .ow (.slice av l.length cv) 3 1 l.length (ints l)]) ?_ (fun K2 hK2 => ?_)
    rotate_left
    · rcases hle with ⟨h0, rfl⟩ | ⟨h0, h1⟩
      · refine q_if rfl (fun hc => ?_) (fun hc => ?_)
        · exfalso
          first | omega | (simp at hc; omega)
        · (refine q_skip ?_)
          exact hK2 () _ _ ⟨rfl, rfl, rfl, rfl, rfl, trivial⟩ (by repeat constructor)
      · refine q_if rfl (fun hc => ?_) (fun hc => ?_)
        · (refine q_region ?_; (iterate 3 refine ql_pure tabOk rfl rfl ?_); refine ql_ar tabOk rfl rfl rfl rfl (by omega) (by omega) ?_)
          refine ql_fact (fun w hs => hs.ownSome (v := .slice av l.length cv) (by repeat constructor) h0) ?_
          rintro ⟨g1, c1, z1⟩
          cases z1
          have hk1 : l.length - 1 < l.length := by omega
          rw [getD_at hk1] at h1
          rw [show (l.length : Int) - 1 = ((l.length - 1 : Nat) : Int) by omega]
          (refine ql_index tabOk rfl rfl rfl rfl rfl (by omega) (by omega) ?_; refine ql_load1 tabOk rfl rfl rfl (fun w hs => RdI.at (hs.rdI (v := .slice (some ⟨g1, 0, none⟩) l.length cv) (l := l) (by repeat constructor) rfl) (l.length - 1) hk1) ?_)
          rw [h1]
          (refine ql_pure tabOk rfl rfl (q_nil ?_))
          exact hK2 () _ _ ⟨rfl, rfl, rfl, rfl, rfl, trivial⟩ (by repeat constructor)
        · exfalso
          first | omega | (simp at hc; omega)
    intro _
    (refine q_seq (q_seq (q_region (ql_pure tabOk rfl rfl (ql_pure tabOk rfl rfl (q_nil (q_block ?_)))))))
    refine q_loop (σ := Nat × σ) (fun x => x.1 ≤ n - least ∧ I (pre ++ (List.range' least x.1).flatMap fun i => growL n m i (l ++ [(i : Int)])) x.2) (fun x => n - least - x.1) (fun x => [(0, .slice av l.length cv), (1, .pointer (some ⟨b1, 0, none⟩)), (2, .pointer (some ⟨b2, 0, none⟩)), (3, .pointer (some ⟨b3, 0, none⟩)), (7, .int .i64 ((least : Int) + x.1))])
      (fun x => [un (L x.2), .ow (.slice av l.length cv) 3 1 l.length (ints l)]) (0, s) ⟨by simp, by simpa using hI⟩ ⟨rfl, rfl, rfl, rfl, lookI rfl (by simp), trivial⟩ (Sp.refl _) ?_
    rintro ⟨j, s1⟩ ⟨hj, hI1⟩ K hK
    simp only at hj hI1
    dsimp only
    (refine q_seq (q_seq (q_region (ql_pure tabOk rfl rfl (ql_pure tabOk rfl rfl ?_)))); refine ql_loadG tabOk rfl rfl rfl (by assumption) (by rfl) ?_; refine ql_pure tabOk rfl rfl (ql_pure tabOk rfl rfl (q_nil ?_)))
    refine q_if rfl (fun hc => ?_) (fun hc => ?_)
    · have hj2 : j < n - least := by omega
      clear hc
      have hfl := flat_at (fun i => growL n m i (l ++ [(i : Int)])) least (n - least) j hj2
      have hfn := flat_next (fun i => growL n m i (l ++ [(i : Int)])) least j
      rw [hfl] at hxs
      rw [show (least : Int) + (j : Int) = ((least + j : Nat) : Int) by omega]
      (refine q_skip (q_seq (q_block (q_seq ?_))))
      have hpc : ∀ u1, Ck.ow u1 3 1 (l.length + 1) (ints l ++ [.int .i64 ((least + j : Nat) : Int)]) = Ck.ow u1 3 1 (l ++ [((least + j : Nat) : Int)]).length (ints (l ++ [((least + j : Nat) : Int)])) := fun u1 => by simp [ints]
      refine q_cut (σ := {x : Bool × σ // (x.1 = true ∧ I (pre ++ (List.range' least (j + 1)).flatMap fun i => growL n m i (l ++ [(i : Int)])) x.2) ∨ (x.1 = false ∧ E x.2)}) (fun x => [(0, .slice av l.length cv), (1, .pointer (some ⟨b1, 0, none⟩)), (2, .pointer (some ⟨b2, 0, none⟩)), (3, .pointer (some ⟨b3, 0, none⟩)), (7, .int .i64 ((least + j : Nat) : Int)), (41, .bool (!x.1.1))]) (fun x => [un (L x.1.2), .ow (.slice av l.length cv) 3 1 l.length (ints l)]) ?_ (fun K2 hK2 => ?_)
      rotate_left
      · skip
        refine q_drawT (tK16_b58bdae) _ [un (L s1)] (Sp.cons (by repeat constructor) (Sp.refl _)) (by kernel_rfl) (by kernel_rfl) ?_
        refine qt_alt ?_ ?_
        · skip
          refine qt_seg (by repeat (first | exact PickL.nil | (apply PickL.cons; rfl))) fun K1 hK1 => ?_
          (refine qf_pure tabOk rfl rfl rfl ?_)
          refine qf_call (β := Value) tabOk [] _ M0 rfl rfl rfl rfl (Sp.refl _) (fun _ h => h.elim) (fun w' hs => sclone_ca w' _ _ _ l (hs.rdI (v := .slice av l.length cv) (l := l) (by repeat constructor) rfl) (by omega)) ?_
          rintro _ u rfl
          (refine qf_pure tabOk rfl rfl rfl ?_)
          refine qf_mkS 3 [.int .i64 ((least + j : Nat) : Int)] rfl (by kernel_rfl) rfl (fun c1 => ?_)
          skip
          refine qf_append (q := 1) slI rfl rfl rfl (fun v' => by repeat constructor) (fun w' hs => ⟨_, _, Blk.rd (hs.blk (b := c1) (by repeat constructor)) rfl 1⟩) (by simp [oneV]) (by omega) (by omega) (fun u1 => ?_)
          (refine qf_loadG tabOk rfl rfl rfl (by assumption) (by rfl) ?_)
          refine qf_callF (β := {x : Bool × σ // (x.1 = true ∧ I (pre ++ (List.range' least (j + 1)).flatMap fun i => growL n m i (l ++ [(i : Int)])) x.2) ∨ (x.1 = false ∧ E x.2)}) (ψ := fun x v => v = .bool x.1.1) (L' := fun x => [un (L x.1.2)]) [un (L s1), .ow u1 3 1 (l.length + 1) (ints l ++ [.int .i64 ((least + j : Nat) : Int)])] [] (DL (L s1 ++ cK (u1, l ++ [((least + j : Nat) : Int)]))) rfl rfl rfl (by repeat constructor) (fun b hb => un_D (by rw [hpc]; exact hb)) (fun w'' hs => by have h2 := Sat.un_iff.1 (Sat.sp (H' := [un (L s1), .ow u1 3 1 (l.length + 1) (ints l ++ [.int .i64 ((least + j : Nat) : Int)])]) hs (by repeat constructor)); rw [hpc] at h2; exact CaF.of tabOk rfl ((ih (l ++ [((least + j : Nat) : Int)]) u1 (least + j) _ ((List.range' (least + j + 1) (n - least - j - 1)).flatMap (fun i => growL n m i (l ++ [(i : Int)])) ++ post) s1 w'' (by simp; omega) (.inr ⟨by simp, by simp⟩) (by rw [hxs]; simp only [List.append_assoc]) hI1 (Sat.base hsat h2)).mono fun v w3 ⟨s', h3, h4⟩ => by rw [List.append_assoc, ← hfn] at h3; rcases h3 with ⟨e, h3⟩ | ⟨e, h3⟩ <;> first | exact ⟨⟨(true, s'), .inl ⟨rfl, h3⟩⟩, e, Sat.un1.2 h4⟩ | exact ⟨⟨(false, s'), .inr ⟨rfl, h3⟩⟩, e, Sat.un1.2 h4⟩)) ?_
          rintro x2 _ rfl
          (refine qf_pure tabOk rfl rfl rfl (qf_nil ?_))
          exact hK1 _ _ (qt_nil (hK2 x2 _ _ ⟨rfl, rfl, rfl, rfl, rfl, rfl, trivial⟩ (by repeat constructor)))
        · skip
          refine qt_seg (by repeat (first | exact PickL.nil | (apply PickL.cons; rfl))) fun K1 hK1 => ?_
          (refine qf_pure tabOk rfl rfl rfl ?_)
          refine qf_mkS 3 [.int .i64 ((least + j : Nat) : Int)] rfl (by kernel_rfl) rfl (fun c1 => ?_)
          (refine qf_pure tabOk rfl rfl rfl ?_)
          refine qf_call (β := Value) tabOk [] _ M0 rfl rfl rfl rfl (Sp.refl _) (fun _ h => h.elim) (fun w' hs => sclone_ca w' _ _ _ l (hs.rdI (v := .slice av l.length cv) (l := l) (by repeat constructor) rfl) (by omega)) ?_
          rintro _ u rfl
          skip
          refine qf_append (q := 1) slI rfl rfl rfl (fun v' => by repeat constructor) (fun w' hs => ⟨_, _, Blk.rd (hs.blk (b := c1) (by repeat constructor)) rfl 1⟩) (by simp [oneV]) (by omega) (by omega) (fun u1 => ?_)
          (refine qf_loadG tabOk rfl rfl rfl (by assumption) (by rfl) ?_)
          refine qf_callF (β := {x : Bool × σ // (x.1 = true ∧ I (pre ++ (List.range' least (j + 1)).flatMap fun i => growL n m i (l ++ [(i : Int)])) x.2) ∨ (x.1 = false ∧ E x.2)}) (ψ := fun x v => v = .bool x.1.1) (L' := fun x => [un (L x.1.2)]) [un (L s1), .ow u1 3 1 (l.length + 1) (ints l ++ [.int .i64 ((least + j : Nat) : Int)])] [] (DL (L s1 ++ cK (u1, l ++ [((least + j : Nat) : Int)]))) rfl rfl rfl (by repeat constructor) (fun b hb => un_D (by rw [hpc]; exact hb)) (fun w'' hs => by have h2 := Sat.un_iff.1 (Sat.sp (H' := [un (L s1), .ow u1 3 1 (l.length + 1) (ints l ++ [.int .i64 ((least + j : Nat) : Int)])]) hs (by repeat constructor)); rw [hpc] at h2; exact CaF.of tabOk rfl ((ih (l ++ [((least + j : Nat) : Int)]) u1 (least + j) _ ((List.range' (least + j + 1) (n - least - j - 1)).flatMap (fun i => growL n m i (l ++ [(i : Int)])) ++ post) s1 w'' (by simp; omega) (.inr ⟨by simp, by simp⟩) (by rw [hxs]; simp only [List.append_assoc]) hI1 (Sat.base hsat h2)).mono fun v w3 ⟨s', h3, h4⟩ => by rw [List.append_assoc, ← hfn] at h3; rcases h3 with ⟨e, h3⟩ | ⟨e, h3⟩ <;> first | exact ⟨⟨(true, s'), .inl ⟨rfl, h3⟩⟩, e, Sat.un1.2 h4⟩ | exact ⟨⟨(false, s'), .inr ⟨rfl, h3⟩⟩, e, Sat.un1.2 h4⟩)) ?_
          rintro x2 _ rfl
          (refine qf_pure tabOk rfl rfl rfl (qf_nil ?_))
          exact hK1 _ _ (qt_nil (hK2 x2 _ _ ⟨rfl, rfl, rfl, rfl, rfl, rfl, trivial⟩ (by repeat constructor)))
      rintro ⟨⟨bb, s2⟩, hx⟩
      dsimp only at hx ⊢
      rcases hx with ⟨rfl, hI2⟩ | ⟨rfl, hE⟩
      · (refine q_cond_false rfl (q_skip (q_blk (q_region (ql_pure tabOk rfl rfl (ql_ar tabOk rfl rfl rfl rfl (by omega) (by omega) (ql_pure tabOk rfl rfl (q_nil ?_))))))))
        exact hK (j + 1, s2) _ _ ⟨by simp only; omega, hI2⟩ (by simp only; omega) ⟨rfl, rfl, rfl, rfl, lookI rfl (by simp only; omega), trivial⟩ (by repeat constructor)
      · (refine q_cond_true rfl (q_seq (q_region (ql_pure tabOk rfl rfl (q_nil (q_ret ?_))))))
        refine q_fin tabOk rfl (by repeat constructor) fun w hs => ?_
        exact ⟨s2, .inr ⟨rfl, hE⟩, Sat.un1.1 (hs.sp (by repeat constructor))⟩
    · obtain rfl : j = n - least := by omega
      (refine q_exit _ rfl (q_seq (q_region (ql_pure tabOk rfl rfl (q_nil (q_ret ?_))))))
      refine q_fin tabOk rfl (by repeat constructor) fun w hs => ?_
      exact ⟨s1, .inl ⟨rfl, hI1⟩, Sat.un1.1 (hs.sp (by repeat constructor))⟩
end Go.Proofs.YtpknmgafambmbaaGreat

/- Walks: the iterator over all courses. -/
namespace Go.Proofs.YtpknmgafambmbaaGreat
open Go Go.Eng

theorem Sat.front2 {w0 w1 w : World} {M : Nat → Prop} {A : List Ck} (c : ChgP M w0 w1) (h : Sat w1 M A w) : Sat w0 M A w :=
  ⟨c.upP h.chg (fun k hk => .inl hk), h.all, h.sep, fun x hx b hb => ⟨(h.bd x hx b hb).1, (h.bd x hx b hb).2.imp id (fun h1 => Nat.le_trans c.size h1)⟩⟩
set_option maxHeartbeats 2000000 in
theorem courses_it (w : World) (D : Nat → Prop) (b1 : Nat) (a : Option Addr) (n cp : Nat) (r : Rl) (hr : 1 ≤ r.laps ∧ r.laps ≤ 6) (hn : n ≤ 12) {t1 : TypeId} (hb : Blk w b1 (dkC r a n cp) t1) (hD : ¬ D b1) :
    ItOkP (α := Value × List Int) Tryz.prog 41 [.pointer (some ⟨b1, 0, none⟩)] (fun x => [x.1]) (·.2) cK (coursesL n (nL r)) w D := by
  intro fv σ L I E s0 hfv hI0 hLD hsat hcb
  have hce : fv.cells.toList = [fv] := by cases fv <;> first | rfl | simp [oneV] at hfv
  refine q_of (H := [un (L s0)]) (Sat.un1.2 hsat) Tryz.func41 rfl (by simp [Tryz.ntmps41]) ?_
  (refine q_seq (q_region ?_))
  refine ql_box rfl rfl (fun b2 => ?_)
  rw [hce]
  (refine q_nil (q_seq (q_region ?_)))
  refine ql_alloc zero111 rfl (fun b3 => ?_)
  (refine q_nil (q_seq (q_region (ql_pure tabOk rfl rfl ?_))); refine ql_set tabOk rfl rfl rfl rfl (by repeat constructor) ?_; refine q_nil (q_region ?_); refine ql_loadBa tabOk rfl rfl rfl ?_)
  refine ql_conv (H' := [un (L s0), .ow (.slice none 0 0) 3 1 0 (ints []), .pt b3 [.func (.func 42) #[] #[.pointer (some ⟨b1, 0, none⟩), .pointer (some ⟨b2, 0, none⟩), .pointer (some ⟨b3, 0, none⟩)]] 111, .pt b2 [fv] 111]) (fun w' hs => (Sat.ownil hs 3 1).sp (by repeat constructor)) ?_
  refine ql_callF (β := σ) (ψ := fun s' _ => I (coursesL n (nL r)) s' ∨ E s') (L' := fun s' => [un (L s')]) [un (L s0), .ow (.slice none 0 0) 3 1 0 (ints [])] [.pt b3 [.func (.func 42) #[] #[.pointer (some ⟨b1, 0, none⟩), .pointer (some ⟨b2, 0, none⟩), .pointer (some ⟨b3, 0, none⟩)]] 111, .pt b2 [fv] 111] (DL (L s0 ++ cK (.slice none 0 0, []))) rfl rfl rfl (by repeat constructor) (fun b hb => un_D hb)
      (fun w1 hs => ?_) ?_
  · have hs1 : Sat w (DL (L s0)) (L s0 ++ ([.ow (.slice none 0 0) 3 1 0 (ints []), .pt b3 [.func (.func 42) #[] #[.pointer (some ⟨b1, 0, none⟩), .pointer (some ⟨b2, 0, none⟩), .pointer (some ⟨b3, 0, none⟩)]] 111, .pt b2 [fv] 111])) w1 := Sat.un_iff.1 hs
    have hs2 : Sat w (DL (L s0)) (L s0 ++ cK (.slice none 0 0, [])) w1 := Sat.un_iff.1 (hs.sp (H' := [un (L s0), .ow (.slice none 0 0) 3 1 0 (ints [])]) (by repeat constructor))
    have hg : growL n (nL r) 0 [] = coursesL n (nL r) := coursesL_grow n (nL r)
    have hk := grow_ca (L := L) (I := I) (E := E) (s0 := s0) w1 b1 b2 b3 a n cp r fv (nL r) (by unfold nL; omega) (by unfold nL; omega) hn
      (fun w' hc => (hc.block b1 (Nat.lt_of_lt_of_le hb.lt hs.chg.size) (fun h => hD (hLD b1 h))).trans ((hs.chg.block b1 hb.lt (fun h => hD (hLD b1 h))).trans hb))
      (fun w' hc => (hs1.aside hc (x := .pt b2 [fv] 111) (by repeat constructor)))
      (fun w' hc => (hs1.aside hc (x := .pt b3 [.func (.func 42) #[] #[.pointer (some ⟨b1, 0, none⟩), .pointer (some ⟨b2, 0, none⟩), .pointer (some ⟨b3, 0, none⟩)]] 111) (by repeat constructor)))
      (coursesL n (nL r)) (fun pre x post s w' h1 h2 h3 => hcb pre x post s w' h1 h2 (Sat.front2 hs.chg h3))
      (nL r) [] (.slice none 0 0) 0 [] [] s0 w1 (by simp) (.inl ⟨rfl, rfl⟩) (by simp [hg]) hI0
      ⟨ChgP.refl _ _, hs2.all, hs2.sep, fun c hc b hb => ⟨(hs2.bd c hc b hb).1, ?_⟩⟩
    · exact CaF.of tabOk rfl (hk.mono fun v w3 ⟨s', h1, h2⟩ => ⟨s', by
        rcases h1 with ⟨_, h1⟩ | ⟨_, h1⟩
        · rw [hg] at h1; exact .inl (by simpa using h1)
        · exact .inr h1, Sat.un1.2 h2⟩)
    · rcases List.mem_append.1 hc with hc | hc
      · exact .inl ⟨c, hc, hb⟩
      · obtain rfl : c = .ow (.slice none 0 0) 3 1 0 (ints []) := by simpa using hc
        cases hb
  · intro s' v hx
    (refine q_nil ?_)
    refine q_end tabOk rfl (by repeat constructor) fun w hs => ?_
    exact ⟨s', hx, Sat.un1.1 (hs.sp (by repeat constructor))⟩
end Go.Proofs.YtpknmgafambmbaaGreat

/- Walks: the area and the snow of a course. -/
namespace Go.Proofs.YtpknmgafambmbaaGreat
open Go Go.Eng

theorem index_ca (w : World) (lo hi : Nat) (v : Value) (c : List Int) (x : Int) (h : RdI w lo hi v c) (hlen : c.length ≤ 1000000) :
    Ca Tryz.prog 108 [v, .int .i64 x] w fun r w' => ∃ z : Int, (r = .int .i64 z ∧ -1 ≤ z ∧ z ≤ 1000000 ∧ (0 ≤ z ↔ x ∈ c)) ∧ Sat w M0 [] w' := by
  obtain ⟨a, ca, rfl, hsa⟩ := RdI.outI h
  refine q_of (Sat.nil w M0) Tryz.func108 rfl (by simp [Tryz.ntmps108]) ?_
  (refine q_seq (q_region (ql_pure tabOk rfl rfl (q_nil (q_seq (q_seq (q_region ?_)))))); (iterate 3 refine ql_pure tabOk rfl rfl ?_); refine q_nil (q_block ?_))
  refine q_loop (σ := Nat) (fun k => k ≤ c.length ∧ x ∉ c.take k) (fun k => c.length - k) (fun k => [(0, .slice a c.length ca), (1, .int .i64 x), (7, .int .i64 c.length), (8, .int .i64 k)]) (fun _ => []) 0 (by simp) ⟨rfl, rfl, rfl, rfl, trivial⟩ .nil ?_
  rintro k ⟨hk, hS⟩ K hK
  (refine q_seq (q_region (ql_pure tabOk rfl rfl (q_nil (q_seq ?_)))))
  refine q_if rfl (fun hc => ?_) (fun hc => ?_)
  · have hk2 : k < c.length := by omega
    obtain ⟨b, off, rfl⟩ := hsa (by omega)
    clear hc
    (refine q_skip (q_seq (q_block (q_seq (q_region (ql_pure tabOk rfl rfl (ql_pure tabOk rfl rfl (q_nil (q_seq (q_region ?_))))))))); (iterate 3 refine ql_pure tabOk rfl rfl ?_))
    (refine ql_index tabOk rfl rfl rfl rfl rfl (by omega) (by omega) ?_; refine ql_load1 tabOk rfl rfl rfl (fun w hs => RdI.at (h.keep hs.chg0) k hk2) ?_)
    (refine ql_pure tabOk rfl rfl (q_nil ?_))
    refine q_if rfl (fun hc => ?_) (fun hc => ?_)
    · have hlt : x = c[k] := by assumption
      (refine q_seq (q_region (ql_pure tabOk rfl rfl (ql_pure tabOk rfl rfl (q_nil (q_ret ?_))))))
      refine q_fin tabOk rfl (by repeat constructor) fun w hs => ?_
      exact ⟨(k : Int), ⟨rfl, by omega, by omega, ⟨fun _ => hlt ▸ List.getElem_mem _, fun _ => by omega⟩⟩, hs⟩
    · have hlt : ¬ x = c[k] := by assumption
      (refine q_skip (q_blk (q_region (ql_ar tabOk rfl rfl rfl rfl (by omega) (by omega) (ql_pure tabOk rfl rfl (q_nil ?_))))))
      refine hK (k + 1) _ _ ⟨by omega, ?_⟩ (by omega) ⟨rfl, rfl, rfl, rfl, trivial⟩ .nil
      rw [List.take_succ_eq_append_getElem hk2]
      simp only [List.mem_append, List.mem_singleton, not_or]
      exact ⟨hS, hlt⟩
  · obtain rfl : k = c.length := by omega
    rw [List.take_length] at hS
    (refine q_exit _ rfl (q_seq (q_region (ql_pure tabOk rfl rfl (q_nil (q_ret ?_))))))
    refine q_fin tabOk rfl (by repeat constructor) fun w hs => ?_
    exact ⟨-1, ⟨rfl, by omega, by omega, ⟨fun h => by omega, fun h => absurd h hS⟩⟩, hs⟩
def hasB (c : List Int) (x : Int) : Bool := c.any (fun y => decide (y = x) && true)
theorem hasB_iff {c : List Int} {x : Int} : hasB c x = true ↔ x ∈ c := by simp [hasB]
theorem contains_ca (w : World) (lo hi : Nat) (v : Value) (c : List Int) (x : Int) (h : RdI w lo hi v c) (hlen : c.length ≤ 1000000) :
    Ca Tryz.prog 84 [v, .int .i64 x] w fun r w' => r = .bool (hasB c x) ∧ Chg [] w w' := by
  refine q_of (Sat.nil w M0) Tryz.func84 rfl (by simp [Tryz.ntmps84]) ?_
  (refine q_seq (q_region (ql_pure tabOk rfl rfl (q_nil (q_seq (q_region (ql_pure tabOk rfl rfl (ql_pure tabOk rfl rfl ?_))))))))
  refine ql_call (β := Int) (ψ := fun z v => v = .int .i64 z ∧ -1 ≤ z ∧ z ≤ 1000000 ∧ (0 ≤ z ↔ x ∈ c)) (L' := fun _ => []) tabOk [] _ M0 rfl rfl rfl rfl (Sp.refl _) (fun _ h => h.elim) (fun w' hs => index_ca w' lo hi v c x (h.keep hs.chg0) hlen) ?_
  rintro z _ ⟨rfl, h1, h2, h3⟩
  by_cases hz : 0 ≤ z
  · rw [show hasB c x = true from hasB_iff.2 (h3.1 hz)]
    (refine ql_geqT tabOk rfl rfl rfl (by omega) (ql_pure tabOk rfl rfl (q_nil (q_ret ?_))))
    refine q_fin tabOk rfl (by repeat constructor) fun w hs => ?_
    exact ⟨rfl, hs.chg0⟩
  · rw [show hasB c x = false from Bool.eq_false_iff.2 fun hh => hz (h3.2 (hasB_iff.1 hh))]
    (refine ql_geqF tabOk rfl rfl rfl (by omega) (ql_pure tabOk rfl rfl (q_nil (q_ret ?_))))
    refine q_fin tabOk rfl (by repeat constructor) fun w hs => ?_
    exact ⟨rfl, hs.chg0⟩
theorem has_ca (w : World) (lo hi : Nat) (v : Value) (c : List Int) (x : Int) (h : RdI w lo hi v c) (hlen : c.length ≤ 1000000) :
    Ca Tryz.prog 61 [v, .int .i64 x] w fun r w' => r = .bool (hasB c x) ∧ Chg [] w w' := by
  refine q_of (Sat.nil w M0) Tryz.func61 rfl (by simp [Tryz.ntmps61]) ?_
  (refine q_seq (q_region (ql_pure tabOk rfl rfl (q_nil (q_seq (q_region (ql_pure tabOk rfl rfl (ql_pure tabOk rfl rfl ?_))))))))
  refine ql_callv (val := .bool (hasB c x)) tabOk rfl rfl rfl rfl (fun w hs => ?_) ?_; exact contains_ca w lo hi v c x (h.keep hs.chg0) hlen
  (refine ql_pure tabOk rfl rfl (q_nil (q_ret ?_)))
  refine q_fin tabOk rfl (by repeat constructor) fun w hs => ?_
  exact ⟨rfl, hs.chg0⟩

set_option maxHeartbeats 2000000 in
theorem area_ca (w : World) (lo hi lo2 hi2 : Nat) (a : Option Addr) (cp : Nat) (v : Value) (s : List Lp) (c : List Int) (h : RdL w lo hi (.slice a s.length cp) s) (hst : StadR s) (hv : RdI w lo2 hi2 v c) (hlc : c.length ≤ 1000000) :
    Ca Tryz.prog 45 [.slice a s.length cp, v] w fun x w' => x = .int .i64 (areaV s c) ∧ Chg [] w w' := by
  obtain ⟨_, _, e0, hsa⟩ := RdL.outI h
  cases e0
  have hn2 := hst.n2
  refine q_of (Sat.nil w M0) Tryz.func45 rfl (by simp [Tryz.ntmps45]) ?_
  (refine q_seq (q_region (ql_pure tabOk rfl rfl (q_nil (q_seq (q_region ?_))))); (iterate 3 refine ql_pure tabOk rfl rfl ?_); refine q_nil (q_seq (q_region (ql_pure tabOk rfl rfl (q_nil (q_seq (q_seq (q_region ?_))))))); (iterate 3 refine ql_pure tabOk rfl rfl ?_); refine q_nil (q_block ?_))
  refine q_loop (σ := Nat) (fun k => k ≤ s.length) (fun k => s.length - k) (fun k => [(5, .func (.func 61) #[v] #[]), (6, .int .i64 (areaP s c k)), (11, .slice a s.length cp), (12, .int .i64 s.length), (13, .int .i64 k)])
    (fun k => []) 0 (by simp) ⟨rfl, rfl, rfl, rfl, rfl, trivial⟩ .nil ?_
  rintro k hk K hK
  (refine q_seq (q_region (ql_pure tabOk rfl rfl (q_nil (q_seq ?_)))))
  refine q_if rfl (fun hc => ?_) (fun hc => ?_)
  · have hk2 : k < s.length := by omega
    clear hc
    obtain ⟨ba, oa, rfl⟩ := hsa (by omega)
    have hb1 := areaP_bd hst c k hk
    have hb2 := areaP_bd hst c (k + 1) (by omega)
    have es := areaP_succ s c k
    have hR := lpAt_right hst (i := (k : Int)) (by omega)
    rw [show lpAt s (k : Int) = s[k] from lpAt_at (i := (k : Int)) (by omega)] at es hR
    change areaP s c (k + 1) = areaP s c k + if hasB c k then _ else _ at es
    (refine q_skip (q_seq (q_block (q_seq (q_region (ql_pure tabOk rfl rfl ?_))))))
    refine ql_index tabOk rfl rfl rfl rfl rfl (by omega) (by omega) ?_
    refine ql_loadA tabOk rfl rfl rfl rfl (fun w hs => RdL.at (RdE.keep h hs.chg0) k hk2) ?_
    generalize s[k] = lp at *
    obtain ⟨ln, cl, wd⟩ := lp
    have hR1 := hR.len
    have hR3 := hR.wide
    dsimp only at *
    have hm1 : 0 ≤ ln * wd := Int.mul_nonneg (by omega) (by omega)
    have hm2 : ln * wd ≤ 20000 * 20 := Int.mul_le_mul hR1.2 hR3.2 (by omega) (by omega)
    skip
    refine ql_alloc zero61 rfl (fun b8 => ?_)
    (refine ql_pure tabOk rfl rfl ?_; refine ql_setA tabOk rfl rfl rfl rfl rfl (by repeat constructor) rfl ?_; refine q_nil (q_seq (q_region (ql_pure tabOk rfl rfl (ql_pure tabOk rfl rfl ?_)))))
    refine ql_callFv (val := .bool (hasB c k)) rfl rfl rfl (fun w hs => CaF.of tabOk rfl (has_ca w lo2 hi2 v c k (hv.keep hs.chg0) hlc)) ?_
    (refine q_nil ?_)
    cases hh : hasB c k
    · rw [hh] at es
      simp only [Bool.false_eq_true, if_false] at es
      (refine q_cond_false rfl (q_skip (q_blk (q_region (ql_ar tabOk rfl rfl rfl rfl (by omega) (by omega) (ql_pure tabOk rfl rfl (q_nil ?_)))))))
      exact hK (k + 1) _ _ (by omega) (by omega) ⟨rfl, lookI rfl (by omega), rfl, rfl, lookI rfl (by omega), trivial⟩ (by repeat constructor)
    · rw [hh] at es
      simp only [if_true] at es
      (refine q_cond_true rfl (q_region (ql_pure tabOk rfl rfl (ql_pure tabOk rfl rfl ?_))); refine ql_loadBa tabOk rfl rfl rfl ?_; refine ql_pure tabOk rfl rfl ?_; refine ql_loadBa tabOk rfl rfl rfl ?_; refine ql_ar tabOk rfl rfl rfl rfl (by omega) (by omega) (ql_ar tabOk rfl rfl rfl rfl (by omega) (by omega) (ql_pure tabOk rfl rfl (q_nil (q_blk (q_region (ql_ar tabOk rfl rfl rfl rfl (by omega) (by omega) (ql_pure tabOk rfl rfl (q_nil ?_)))))))))
      exact hK (k + 1) _ _ (by omega) (by omega) ⟨rfl, lookI rfl (by omega), rfl, rfl, lookI rfl (by omega), trivial⟩ (by repeat constructor)
  · obtain rfl : k = s.length := by omega
    (refine q_exit _ rfl (q_seq (q_region (ql_pure tabOk rfl rfl (ql_pure tabOk rfl rfl (q_nil (q_ret ?_)))))))
    refine q_fin tabOk rfl (by repeat constructor) fun w hs => ?_
    exact ⟨rfl, hs.chg0⟩

theorem snow_ca (w : World) (lo hi lo2 hi2 : Nat) (a : Option Addr) (cp : Nat) (v : Value) (s : List Lp) (c : List Int) (depth : Int) (h : RdL w lo hi (.slice a s.length cp) s) (hst : StadR s) (hv : RdI w lo2 hi2 v c) (hlc : c.length ≤ 1000000) (hd : 1 ≤ depth ∧ depth ≤ 200) :
    Ca Tryz.prog 27 [.slice a s.length cp, v, .int .i64 depth] w fun x w' => x = .int .i64 (snowV s c depth) ∧ Chg [] w w' := by
  have hb := snowV_bd hst c hd
  refine q_of (Sat.nil w M0) Tryz.func27 rfl (by simp [Tryz.ntmps27]) ?_
  (refine q_seq (q_region (ql_pure tabOk rfl rfl (q_nil (q_seq (q_region (ql_pure tabOk rfl rfl (ql_pure tabOk rfl rfl ?_))))))))
  refine ql_callv (val := .int .i64 (areaV s c)) tabOk rfl rfl rfl rfl (fun w hs => ?_) ?_; exact area_ca w lo hi lo2 hi2 a cp v s c (RdE.keep h hs.chg0) hst (hv.keep hs.chg0) hlc
  (refine ql_pure tabOk rfl rfl (ql_ar tabOk rfl rfl rfl rfl (by omega) (by omega) (ql_ar tabOk rfl rfl rfl rfl (by omega) (by omega) (ql_quoN rfl rfl rfl (by omega) (by omega) (by omega) (ql_pure tabOk rfl rfl (q_nil (q_ret ?_)))))))
  refine q_fin tabOk rfl (by repeat constructor) fun w hs => ?_
  exact ⟨rfl, hs.chg0⟩
theorem meas_ca (w : World) (lo hi lo2 hi2 : Nat) (a : Option Addr) (cp : Nat) (v : Value) (s : List Lp) (c : List Int) (h : RdL w lo hi (.slice a s.length cp) s) (hlen : s.length ≤ 1000000) (hv : RdI w lo2 hi2 v c) (hlc : c.length ≤ 1000000) :
    Ca Tryz.prog 33 [.slice a s.length cp, v] w fun x w' => x = .int .i64 (measV s c) ∧ Chg [] w w' := by
  refine q_of (Sat.nil w M0) Tryz.func33 rfl (by simp [Tryz.ntmps33]) ?_
  (refine q_seq (q_region (ql_pure tabOk rfl rfl (q_nil (q_seq (q_seq (q_region (ql_pure tabOk rfl rfl ?_))))))))
  refine ql_callv (val := .int .i64 (stadV s)) tabOk rfl rfl rfl rfl (fun w hs => ?_) ?_; exact stadium_ca w lo hi _ s (RdE.keep h hs.chg0) hlen
  (refine ql_pure tabOk rfl rfl (q_nil (q_seq (q_region (ql_pure tabOk rfl rfl (ql_pure tabOk rfl rfl (q_nil ?_)))))))
  by_cases h1 : stadV s = 0
  · have e : measV s c = listedV s.length c := by unfold measV; rw [if_neg (by omega)]
    rw [h1, e]
    (refine q_cond_false rfl (q_skip (q_seq (q_region (ql_pure tabOk rfl rfl (ql_pure tabOk rfl rfl ?_))))))
    refine ql_callv (val := .int .i64 (listedV s.length c)) tabOk rfl rfl rfl rfl (fun w hs => ?_) ?_; exact listed_ca w lo2 hi2 a cp s.length v c (hv.keep hs.chg0) hlc hlen
    (refine ql_pure tabOk rfl rfl (q_nil (q_ret ?_)))
    refine q_fin tabOk rfl (by repeat constructor) fun w hs => ?_
    exact ⟨rfl, hs.chg0⟩
  · have e : measV s c = stadV s := by unfold measV; rw [if_pos h1]
    rw [e, decide_eq_false h1]
    generalize stadV s = z at *
    (refine q_cond_true rfl (q_seq (q_region (ql_pure tabOk rfl rfl (ql_pure tabOk rfl rfl (q_nil (q_ret ?_)))))))
    refine q_fin tabOk rfl (by repeat constructor) fun w hs => ?_
    exact ⟨rfl, hs.chg0⟩
theorem meas_iff {s : List Lp} {c : List Int} : measV s c = 0 ↔ StadR s ∧ listedV s.length c = 0 := by
  unfold measV
  rw [← stadV_iff]
  split <;> constructor <;> intro h <;> first | exact ⟨by omega, h⟩ | exact h.2 | (exfalso; omega)
theorem snowE_ca (w : World) (lo hi lo2 hi2 : Nat) (a : Option Addr) (cp : Nat) (v : Value) (s : List Lp) (c : List Int) (depth : Int) (h : RdL w lo hi (.slice a s.length cp) s) (hlen : s.length ≤ 1000000) (hv : RdI w lo2 hi2 v c) (hlc : c.length ≤ 1000000) :
    Ca Tryz.prog 14 [.slice a s.length cp, v, .int .i64 depth] w fun x w' => x = .tuple #[.int .i64 (snowE s c depth).1, .int .i64 (snowE s c depth).2] ∧ Chg [] w w' := by
  refine q_of (Sat.nil w M0) Tryz.func14 rfl (by simp [Tryz.ntmps14]) ?_
  (refine q_seq (q_region (ql_pure tabOk rfl rfl (ql_pure tabOk rfl rfl (q_nil (q_seq (q_region (ql_pure tabOk rfl rfl (ql_pure tabOk rfl rfl ?_)))))))))
  refine ql_callv (val := .int .i64 (measV s c)) tabOk rfl rfl rfl rfl (fun w hs => ?_) ?_; exact meas_ca w lo hi lo2 hi2 a cp v s c (RdE.keep h hs.chg0) hlen (hv.keep hs.chg0) hlc
  (refine ql_pure tabOk rfl rfl (q_nil (q_seq (q_block (q_seq (q_region ?_))))); (iterate 3 refine ql_pure tabOk rfl rfl ?_); refine q_nil ?_)
  by_cases h1 : measV s c = 0
  · rw [h1]
    (refine q_cond_false rfl (q_seq (q_region (ql_pure tabOk rfl rfl ?_))))
    refine ql_callv (val := .bool (wiB depth 1 200)) tabOk rfl rfl rfl rfl (fun w hs => ?_) ?_; exact within_ca depth 1 200 w
    (refine ql_pure tabOk rfl rfl (ql_pure tabOk rfl rfl (q_nil ?_)))
    by_cases h2 : wiB depth 1 200 = true
    · have e : snowE s c depth = (snowV s c depth, 0) := by unfold snowE; rw [if_neg (by omega), if_neg (by simp [h2])]
      rw [h2, e]
      (refine q_cond_false rfl (q_skip (q_blk (q_seq (q_region ?_)))); (iterate 3 refine ql_pure tabOk rfl rfl ?_))
      refine ql_callv (val := .int .i64 (snowV s c depth)) tabOk rfl rfl rfl rfl (fun w hs => ?_) ?_; exact snow_ca w lo hi lo2 hi2 a cp v s c depth (RdE.keep h hs.chg0) (meas_iff.1 h1).1 (hv.keep hs.chg0) hlc (wiB_iff.1 h2)
      (refine ql_pure tabOk rfl rfl (ql_pure tabOk rfl rfl (q_nil (q_ret ?_))))
      refine q_fin tabOk rfl (by repeat constructor) fun w hs => ?_
      exact ⟨rfl, hs.chg0⟩
    · have e : snowE s c depth = (0, 3) := by unfold snowE; rw [if_neg (by omega), if_pos (Bool.eq_false_iff.2 h2)]
      rw [Bool.eq_false_iff.2 h2, e]
      (refine q_cond_true rfl (q_seq (q_region (ql_pure tabOk rfl rfl (ql_pure tabOk rfl rfl (q_nil (q_ret ?_)))))))
      refine q_fin tabOk rfl (by repeat constructor) fun w hs => ?_
      exact ⟨rfl, hs.chg0⟩
  · have e : snowE s c depth = (0, measV s c) := by unfold snowE; rw [if_pos h1]
    rw [e, decide_eq_false h1]
    generalize measV s c = z at *
    (refine q_cond_true rfl (q_seq (q_region ?_)); (iterate 3 refine ql_pure tabOk rfl rfl ?_); refine q_nil (q_ret ?_))
    refine q_fin tabOk rfl (by repeat constructor) fun w hs => ?_
    exact ⟨rfl, hs.chg0⟩
end Go.Proofs.YtpknmgafambmbaaGreat

/- The engine, part B26: arrays of Bools compared. -/
namespace Go.Eng
open Go Go.RowKit

section
variable {P : Program}
def eqBL : List Bool → List Bool → Bool
  | a :: l, b :: m => (a == b) && eqBL l m
  | _, _ => true
def arrQB (P : Program) (t n e : Nat) : Bool :=
  !(P.eqGuardType P.depth t) && oneB P e && Nat.beq (P.cellsOf e) 1 && (P.info? e).isSome && (match P.underlying t with | some (.array n' e') => Nat.beq n' n && Nat.beq e' e | _ => false) && (match P.underlying e with | some .bool => true | _ => false)
theorem eqItems_bool {e : Nat} (he : P.underlying e = some .bool) (h1 : oneB P e = true) (d : Nat) (w : World) (xs ys : Array Value) : ∀ (l m : List Bool) (k : Nat), l.length = m.length → (∀ i (h : i < l.length), xs[k + i]? = some (.bool l[i])) → (∀ i (h : i < m.length), ys[k + i]? = some (.bool m[i])) →
    (Go.Op.eqItems (d + 1) e 1 xs ys (List.range' k l.length)).run P w = .ok (eqBL l m) w
  | [], [], _, _, _, _ => by simp [Go.Op.eqItems, eqBL]
  | a :: l, b :: m, k, h, hx, hy => by
    have ih := eqItems_bool he h1 d w xs ys l m (k + 1) (by simpa using h) (fun i hi => by have := hx (i + 1) (by simpa using hi); rw [show k + 1 + i = k + (i + 1) by omega]; simpa using this) (fun i hi => by have := hy (i + 1) (by simpa using hi); rw [show k + 1 + i = k + (i + 1) by omega]; simpa using this)
    have h0 := hx 0 (by simp)
    have g0 := hy 0 (by simp)
    simp only [Nat.add_zero, List.getElem_cons_zero] at h0 g0
    rw [List.length_cons, List.range'_succ]
    have p1 := run_part1 (P := P) (o := k * 1) h1 (by rw [Nat.mul_one]; exact h0) w
    have p2 := run_part1 (P := P) (o := k * 1) h1 (by rw [Nat.mul_one]; exact g0) w
    simp only [Go.Op.eqItems, Sem.run_bind, p1, p2, Result.andThen_ok, run_equalIn_bool' w d e a b he, eqBL]
    cases hab : (a == b)
    · simp
    · simpa using ih
theorem run_eqArr {t n e : Nat} (h : arrQB P t n e = true) {l m : List Bool} (hl : l.length = n) (hm : m.length = n) (d : Nat) (w : World) : (Go.Op.equalIn (d + 2) t (.agg (l.map Value.bool).toArray) (.agg (m.map Value.bool).toArray)).run P w = .ok (eqBL l m) w := by
  simp only [arrQB, Bool.and_eq_true, Bool.not_eq_true'] at h
  obtain ⟨⟨⟨⟨⟨h1, h2⟩, h3⟩, h4⟩, h5⟩, h6⟩ := h
  split at h5
  · rename_i n' e' hu
    simp only [Bool.and_eq_true] at h5
    have hn := Nat.eq_of_beq_eq_true h5.1
    have he := Nat.eq_of_beq_eq_true h5.2
    subst hn
    subst he
    split at h6
    · rename_i hb
      obtain ⟨i, hi⟩ := Option.isSome_iff_exists.1 h4
      rw [run_equalIn_array w (d + 1) _ _ hu hi, Nat.eq_of_beq_eq_true h3, List.range_eq_range', ← hl]
      exact eqItems_bool hb h2 d w _ _ l m 0 (by omega) (fun i hi => by simp [hi]) (fun i hi => by simp [hi])
    · cases h6
  · cases h5
variable {ro : Cx} {n : Nat} {F : Fin} {w0 : World} {M : Nat → Prop} {k : List It} {ops : Array Oper} {rest : List Oper} {e : Env} {H Hq : List Ck}
theorem exec_eqArr {a : Act} {d t t' q et : Nat} {x y : Operand} {l m : List Bool} {ty : TypeId} {pos : String} {af : Array Edge} (hf : Fits n e a) (hx : opv e x = some (.agg (l.map Value.bool).toArray)) (hy : opv e y = some (.agg (m.map Value.bool).toArray)) (hA : arrQB P t q et = true) (h1 : l.length = q) (h2 : m.length = q) (w : World) :
    (execOp a.eval ⟨some d, .binOp .eql t x y t', ty, pos, af, none⟩).run P w = .ok (.value (.bool (eqBL l m))) w := by
  have e1 := hf.op hx
  have e2 := hf.op hy
  have h3 := run_eqArr hA h1 h2 9998 w
  have hg : P.eqGuardType P.depth t = false := by
    simp only [arrQB, Bool.and_eq_true, Bool.not_eq_true'] at hA
    exact hA.1.1.1.1.1
  simp [execOp, e1, e2, run_eqGuard_agg, hg, run_eql_struct, h3]
theorem ql_eqA {d t t' q et : Nat} {x y : Operand} {l m : List Bool} {ty : TypeId} {pos : String} {af : Array Edge} (hA : arrQB P t q et = true) (hx : opv e x = some (.agg (l.map Value.bool).toArray)) (hy : opv e y = some (.agg (m.map Value.bool).toArray)) (h1 : l.length = q) (h2 : m.length = q) (hd : Nat.blt d n = true)
    (h : QL P ro n F w0 M k ops rest ((d, .bool (eqBL l m)) :: e) H) : QL P ro n F w0 M k ops (⟨some d, .binOp .eql t x y t', ty, pos, af, none⟩ :: rest) e H := .mk fun w hw =>
  yl_val (by simp) hd (fun _ hf => exec_eqArr hf hx hy hA h1 h2 w) (h.h w hw)
theorem qf_eqA {d t t' q et : Nat} {x y : Operand} {l m : List Bool} {ty : TypeId} {pos : String} {af : Array Edge} (hA : arrQB P t q et = true) (hx : opv e x = some (.agg (l.map Value.bool).toArray)) (hy : opv e y = some (.agg (m.map Value.bool).toArray)) (h1 : l.length = q) (h2 : m.length = q) (hd : Nat.blt d n = true)
    (h : QF P ro n F w0 M k ops Hq rest ((d, .bool (eqBL l m)) :: e) H) : QF P ro n F w0 M k ops Hq (⟨some d, .binOp .eql t x y t', ty, pos, af, none⟩ :: rest) e H := .mk fun w hw =>
  yf_quiet rfl hd (fun _ hf w' _ => exec_eqArr hf hx hy hA h1 h2 w') (h.h w hw)
theorem qf_eqnil {T : Tab} (hT : T.Ok P) {d t t' : Nat} {x y : Operand} {a : Option Addr} {m c m' c' : Nat} {ty : TypeId} {pos : String} {af : Array Edge} (h : has T.len t = true)
    (hx : opv e x = some (.slice a m c)) (hy : opv e y = some (.slice none m' c')) (hd : Nat.blt d n = true)
    (hk : QF P ro n F w0 M k ops Hq rest ((d, .bool a.isNone) :: e) H) : QF P ro n F w0 M k ops Hq (⟨some d, .binOp .eql t x y t', ty, pos, af, none⟩ :: rest) e H := .mk fun w hw =>
  yf_quiet rfl hd (fun _ hf w' _ => by
    obtain ⟨el, hu⟩ := len_slice hT h
    simp only [execOp, hf.op hx, hf.op hy]
    simp [eqGuard_at_slice, Lib.run_eql_slice_nil w' t el a m c m' c' hu]) (hk.h w hw)
/-- A struct stored into a part of a block; cs' is what the block holds then. -/
theorem ql_stA {T : Tab} (cs' : List Value) (hT : T.Ok P) {t m : Nat} {x y : Operand} {b off : Nat} {cs us : List Value} {bt : TypeId} {H' : List Ck} {ty : TypeId} {pos : String} {af : Array Edge}
    (hx : opv e x = some (.pointer (some ⟨b, off, none⟩))) (hy : opv e y = some (.agg us.toArray)) (h1 : find1 T.agg t = some m) (hm : us.length = m) (h1v : (us.all oneV) = true) (hr : Rp H (.pt b cs bt) (.pt b cs' bt) H') (he : setL cs off us = cs') (hl : Nat.ble (off + m) cs.length = true)
    (h : QL P ro n F w0 M k ops rest e H') : QL P ro n F w0 M k ops (⟨none, .store t x y, ty, pos, af, none⟩ :: rest) e H := by
  subst he
  exact ql_storeA hT hx hy h1 hm (List.all_eq_true.1 h1v) hr (Nat.le_of_ble_eq_true hl) h
end
end Go.Eng

/- Walks: all right courses. -/
/- spr -/
namespace Go.Proofs.YtpknmgafambmbaaGreat
open Go Go.Eng

theorem flat_le {α β : Type} (f : α → List β) (B : Nat) : ∀ (l : List α), (∀ x ∈ l, (f x).length ≤ B) → (l.flatMap f).length ≤ l.length * B
  | [], _ => by simp
  | x :: l, h => by
    have h1 := flat_le f B l (fun y hy => h y (List.mem_cons_of_mem _ hy))
    have h2 := h x List.mem_cons_self
    rw [List.flatMap_cons, List.length_append, List.length_cons, Nat.succ_mul]
    omega
theorem sortL_le (n : Nat) (hn : n ≤ 12) : ∀ k least, (sortL n k least).length ≤ 12 ^ k
  | 0, _ => by simp [sortL]
  | k + 1, least => by
    have h := flat_le (fun (i : Nat) => (sortL n k i).map ((i : Int) :: ·)) (12 ^ k) (List.range' least (n - least)) (fun x _ => by simpa using sortL_le n hn k x)
    have h2 : (List.range' least (n - least)).length * 12 ^ k ≤ 12 * 12 ^ k := Nat.mul_le_mul_right _ (by simp; omega)
    rw [Nat.pow_succ, Nat.mul_comm]
    exact Nat.le_trans h h2
theorem courses_le (n laps : Nat) (hn : n ≤ 12) (hl : laps ≤ 6) : (coursesL n laps).length ≤ 2985984 :=
  Nat.le_trans (sortL_le n hn laps 0) (Nat.pow_le_pow_right (by omega) hl)
theorem pre_le {α : Type} {xs pre post : List α} {x : α} (h : xs = pre ++ x :: post) (p : α → Bool) : (pre.filter p).length < xs.length := by
  have h1 := List.length_filter_le p pre
  rw [h, List.length_append, List.length_cons]
  omega
theorem slII : SlT Tryz.prog 42 46 1 24 (.slice none 0 0) := ⟨by kernel_rfl, by kernel_rfl, by kernel_rfl, by decide⟩
theorem mk_eq : arrQB Tryz.prog 82 5 4 = true := by kernel_rfl
theorem rightB_eq (s : List Lp) (r : Rl) (c : List Int) : eqBL (marksV s r c) [false, false, false, false, false] = rightB s r c := by
  unfold rightB marksV
  simp only [eqBL, List.all_cons, List.all_nil, Bool.and_true]
  generalize wiB (lenS s c) r.g0 r.g1 = b1
  generalize wiB (clbS s c) r.c0 r.c1 = b2
  generalize lapB s r c = b3
  generalize widB s r c = b4
  generalize oftB r c = b5
  cases b1 <;> cases b2 <;> cases b3 <;> cases b4 <;> cases b5 <;> rfl
theorem memC {n laps : Nat} {pre post : List (List Int)} {c : List Int} (h : coursesL n laps = pre ++ c :: post) : c.length = laps ∧ (∀ x ∈ c, 0 ≤ x ∧ x < n) ∧ srtB c = true := coursesL_mem.1 (by rw [h]; simp)
/-- A list of lists of our own. -/
abbrev lsK (v : Value) (xs : List (Value × List Int)) : List Ck := [.ow v 46 1 xs.length (xs.map (·.1)), un (rowsO 3 xs)]
theorem rows_add {w0 w : World} {M : Nat → Prop} {v : Value} {xs : List (Value × List Int)} {R : List Ck} {u : Value} {c : List Int} (h : Sat w0 M (.ow v 46 1 (xs.length + 1) (xs.map (·.1) ++ [u]) :: .ow u 3 1 c.length (ints c) :: un (rowsO 3 xs) :: R) w) : Sat w0 M (lsK v (xs ++ [(u, c)]) ++ R) w := by
  have h1 : Sat w0 M (.ow u 3 1 c.length (ints c) :: un (rowsO 3 xs) :: .ow v 46 1 (xs.length + 1) (xs.map (·.1) ++ [u]) :: R) w := h.sp (by repeat first | constructor | exact Sp.refl _)
  have h2 := h1.un_in.un_perm (L' := rowsO 3 (xs ++ [(u, c)])) (by unfold rowsO; rw [List.map_append]; exact (List.perm_append_comm (l₁ := [_])))
  have h3 : Sat w0 M (.ow v 46 1 (xs.length + 1) (xs.map (·.1) ++ [u]) :: un (rowsO 3 (xs ++ [(u, c)])) :: R) w := h2.sp (by repeat first | constructor | exact Sp.refl _)
  simpa [lsK] using h3

set_option maxHeartbeats 4000000 in
theorem all_main (w : World) (lo hi : Nat) (a : Option Addr) (cp : Nat) (s : List Lp) (r : Rl) (h : RdL w lo hi (.slice a s.length cp) s) (hcr : CR s r) :
    Ca Tryz.prog 9 [.slice a s.length cp, .agg (rlC r).toArray] w fun x w' => ∃ y : Value × List (Value × List Int), (((x = .tuple #[y.1, .int .i64 0] ∧ (allC s r).length ≤ 300) ∨ (x = .tuple #[.slice none 0 0, .int .i64 10] ∧ 300 < (allC s r).length)) ∧ y.2.map (·.2) = allC s r) ∧ Sat w M0 (lsK y.1 y.2) w' := by
  have hn2 := hcr.s.n2
  have hla := hcr.r.laps
  refine q_ofM (Sat.nil w M0) Tryz.func9 rfl (by simp [Tryz.ntmps9]) ?_
  (refine q_seq (q_region ?_))
  refine ql_box rfl rfl (fun b3 => ?_)
  (refine ql_pure tabOk rfl rfl (ql_pure tabOk rfl rfl (q_nil (q_seq (q_seq (q_region (ql_pure tabOk rfl rfl ?_)))))); refine ql_loadABa tabOk rfl rfl rfl ?_)
  refine ql_callv (val := .int .i64 0) tabOk rfl rfl rfl rfl (fun w hs => ?_) ?_; exact by have := checkS_ca w lo hi _ s r (RdE.keep h hs.chg0) (by omega); rw [checkS_iff.2 hcr] at this; exact this
  (refine ql_pure tabOk rfl rfl (q_nil (q_seq (q_region (ql_pure tabOk rfl rfl (ql_neqF tabOk rfl rfl rfl (by omega) (q_nil (q_cond_false rfl (q_skip (q_seq (q_region ?_)))))))))); refine ql_loadABa tabOk rfl rfl rfl ?_; refine ql_pure tabOk rfl rfl ?_)
  refine ql_mk #[.int .i64 r.laps, .int .i64 r.g0, .int .i64 r.g1, .int .i64 r.c0, .int .i64 r.c1, .int .i64 r.p0, .int .i64 r.p1, .int .i64 r.wide, .int .i64 r.uses, .slice a s.length cp] rfl (by kernel_rfl) rfl ?_
  skip
  refine ql_alloc zero77 rfl (fun b7 => ?_)
  (refine ql_setA tabOk rfl rfl rfl rfl rfl (by repeat constructor) rfl ?_; refine q_nil (q_seq (q_region ?_)))
  refine ql_alloc zero42 rfl (fun b8 => ?_)
  (refine q_nil (q_seq (q_seq (q_region ?_))); refine ql_loadABa tabOk rfl rfl rfl ?_)
  refine ql_call (β := Nat) tabOk [] _ M0 rfl rfl rfl rfl (Sp.refl _) (fun _ h => h.elim) (fun w' hs => courses_ca w' a s.length cp r) ?_
  rintro bb _ rfl
  (refine q_nil (q_block ?_))
  refine q_conv (H' := [.pt b8 [.slice none 0 0] 42, .ow (.slice none 0 0) 46 1 ([] : List (Value × List Int)).length (([] : List (Value × List Int)).map (·.1)), un (rowsO 3 []), .pt bb (dkC r a s.length cp) 77, .pt b7 (dkC r a s.length cp) 77])
    (fun w' hs => (Sat.un_nil (Sat.ownil hs 46 1)).sp (by repeat first | constructor | exact Sp.refl _)) ?_
  refine q_rangeP (α := Value × List Int) (fun x => [x.1]) (·.2) cK (Value × List (Value × List Int)) (coursesL s.length (nL r)) (fun pre st => st.2.map (·.2) = pre.filter (rightB s r)) (fun _ _ => False)
    (fun st => .pt b8 [st.1] 42 :: lsK st.1 st.2) [.pt bb (dkC r a s.length cp) 77, .pt b7 (dkC r a s.length cp) 77] (.slice none 0 0, [])
    rfl (by kernel_rfl) rfl (fun _ => rfl) rfl (by repeat first | constructor | exact Sp.refl _) ?_ ?_ ?_ (fun _ _ _ h => h.elim)
  · intro w1 D hs hD
    exact courses_it w1 D bb a s.length cp r hla hn2 (hs.blk (by repeat constructor)) (fun h => (hD _ h).1 ⟨.pt bb (dkC r a s.length cp) _, (by repeat constructor), rfl⟩)
  · rintro pre ⟨u, c⟩ post ⟨v, xs⟩ w1 l rdy bsy K F' hxx hI hsat hR hbegin hend hret hexit
    simp only at hI hxx
    dsimp only
    obtain ⟨m1, m2, m3⟩ := memC hxx
    have hlm : c.length ≤ 6 := by unfold nL at m1; omega
    have hpl := pre_le hxx (rightB s r)
    have hcl := courses_le s.length (nL r) hn2 (by unfold nL; omega)
    have hxl : xs.length = (pre.filter (rightB s r)).length := by rw [← hI]; simp
    dsimp only [lsK, cK, List.cons_append, List.nil_append] at hsat hR hbegin hend ⊢
    obtain ⟨ua, uc, rfl⟩ := hsat.slice2 (v := u) (by repeat constructor)
    obtain ⟨va, vn, vc, rfl⟩ := hsat.slice (v := v) (by repeat constructor)
    have hd : ∀ w', ChgP _ w1 w' → Blk w' b7 (dkC r a s.length cp) 77 := fun w' hc => (hR w' hc).blk (by repeat constructor)
    (refine q_region (ql_pure tabOk rfl rfl (q_nil ?_)))
    refine hbegin _ _ ?_
    (refine q_block (q_seq (q_region ?_)); refine ql_loadGA tabOk rfl rfl rfl (by assumption) (by rfl) (by rfl) ?_; refine ql_pure tabOk rfl rfl ?_)
    refine ql_callv (val := mkA s r c) tabOk rfl rfl rfl rfl (fun w hs => ?_) ?_; exact broken_ca w lo hi 0 w.heap.size a cp _ s r c (RdE.keep h (hR w hs.chg).chg0) hcr (hs.rdI (v := .slice ua c.length uc) (l := c) (by repeat constructor) rfl) m2 hlm
    skip
    refine ql_mk #[.bool false, .bool false, .bool false, .bool false, .bool false] rfl (by kernel_rfl) rfl ?_
    refine ql_eqA (l := marksV s r c) (m := [false, false, false, false, false]) mk_eq rfl rfl rfl rfl rfl ?_
    rw [rightB_eq]
    (refine q_nil ?_)
    cases hb : rightB s r c
    · (refine q_cond_false rfl (q_skip (q_blk ?_)))
      exact hend _ _ (.slice va vn vc, xs) (by simp only; rw [hI, List.filter_append]; simp [hb]) (by repeat first | constructor | exact Sp.refl _)
    · (refine q_cond_true rfl (q_region ?_); refine ql_loadBa tabOk rfl rfl rfl ?_; refine ql_pure tabOk rfl rfl ?_)
      refine ql_mkS 46 [.slice ua c.length uc] rfl (by kernel_rfl) rfl (fun bn => ?_)
      refine ql_append (q := 1) slII rfl rfl rfl (fun v' => by repeat constructor) (fun w' hs => ⟨_, _, Blk.rd (hs.blk (b := bn) (by repeat constructor)) rfl 1⟩) (by simp [oneV]) (by omega) (by omega) (fun v2 => ?_)
      refine ql_fact (fun w hs => hs.slice (v := v2) (by repeat constructor)) ?_
      rintro ⟨a2, n2, c2, rfl⟩
      (refine ql_set tabOk rfl rfl rfl rfl (by repeat constructor) ?_; refine q_nil (q_blk ?_))
      refine q_conv (H' := bsy :: .pt b8 [.slice a2 n2 c2] 42 :: lsK (.slice a2 n2 c2) (xs ++ [(.slice ua c.length uc, c)])) (fun w' hs => by
        have h1 : Sat _ _ (lsK (.slice a2 n2 c2) (xs ++ [(.slice ua c.length uc, c)]) ++ [bsy, .pt b8 [.slice a2 n2 c2] 42]) w' := rows_add (hs.sp (by repeat first | constructor | exact Sp.refl _))
        exact h1.sp (by repeat first | constructor | exact Sp.refl _)) ?_
      exact hend _ _ (.slice a2 n2 c2, xs ++ [(.slice ua c.length uc, c)]) (by simp only; rw [List.map_append, hI, List.filter_append]; simp [hb]) (by repeat first | constructor | exact Sp.refl _)
  · rintro D ⟨v, xs⟩ hI
    simp only at hI
    change xs.map (·.2) = allC s r at hI
    have hl : xs.length = (allC s r).length := by rw [← hI]; simp
    dsimp only [lsK, cK, List.cons_append, List.nil_append]
    (refine q_blk (q_seq (q_seq (q_region ?_))); refine ql_loadBa tabOk rfl rfl rfl ?_)
    refine ql_fact (fun w hs => hs.slice2 (v := v) (by repeat constructor)) ?_
    rintro ⟨va, vc, rfl⟩
    (refine ql_pure tabOk rfl rfl (ql_pure tabOk rfl rfl (q_nil ?_)))
    refine q_if rfl (fun hc => ?_) (fun hc => ?_)
    · have h3 : 300 < xs.length := by first | omega | (simp at hc; omega)
      (refine q_seq (q_region (ql_pure tabOk rfl rfl (ql_pure tabOk rfl rfl (q_nil (q_ret ?_))))))
      refine q_finMD tabOk (by repeat constructor) rfl (by repeat constructor) fun w hs => ?_
      exact ⟨(_, xs), ⟨.inr ⟨rfl, by omega⟩, hI⟩, hs.sp (by repeat first | constructor | exact Sp.refl _)⟩
    · have h3 : ¬ 300 < xs.length := by first | omega | (simp at hc; omega)
      (refine q_skip (q_seq (q_region ?_)); refine ql_loadBa tabOk rfl rfl rfl ?_; refine ql_pure tabOk rfl rfl (ql_pure tabOk rfl rfl (q_nil (q_ret ?_))))
      refine q_finMD tabOk (by repeat constructor) rfl (by repeat constructor) fun w hs => ?_
      exact ⟨(_, xs), ⟨.inl ⟨rfl, by omega⟩, hI⟩, hs.sp (by repeat first | constructor | exact Sp.refl _)⟩
theorem all_ok (w : World) (lo hi : Nat) (a : Option Addr) (cp : Nat) (s : List Lp) (r : Rl) (h : RdL w lo hi (.slice a s.length cp) s) (hcr : CR s r) (h300 : (allC s r).length ≤ 300) :
    Ca Tryz.prog 9 [.slice a s.length cp, .agg (rlC r).toArray] w fun x w' => ∃ y : Value × List (Value × List Int), (x = .tuple #[y.1, .int .i64 0] ∧ y.2.map (·.2) = allC s r) ∧ Sat w M0 (lsK y.1 y.2) w' :=
  (all_main w lo hi a cp s r h hcr).mono fun v w' ⟨y, ⟨h1, h2⟩, h3⟩ => by
    rcases h1 with ⟨h1, _⟩ | ⟨_, h1⟩
    · exact ⟨y, ⟨h1, h2⟩, h3⟩
    · omega
end Go.Proofs.YtpknmgafambmbaaGreat

/- Walks: the right courses that a volume covers. -/
namespace Go.Proofs.YtpknmgafambmbaaGreat
open Go Go.Eng

def covP (s : List Lp) (r : Rl) (depth volume : Int) (c : List Int) : Bool := rightB s r c && (decide (snowV s c depth ≤ volume) && true)
set_option maxHeartbeats 4000000 in
theorem cov_main (w : World) (lo hi : Nat) (a : Option Addr) (cp : Nat) (s : List Lp) (r : Rl) (depth volume : Int) (h : RdL w lo hi (.slice a s.length cp) s) (hcr : CR s r) (hdp : 1 ≤ depth ∧ depth ≤ 200) (hvo : 0 ≤ volume ∧ volume ≤ 10000000) :
    Ca Tryz.prog 15 [.slice a s.length cp, .agg (rlC r).toArray, .int .i64 depth, .int .i64 volume] w fun x w' => ∃ y : Value × List (Value × List Int), (((x = .tuple #[y.1, .int .i64 0] ∧ (covL s r depth volume).length ≤ 300) ∨ (x = .tuple #[.slice none 0 0, .int .i64 10] ∧ 300 < (covL s r depth volume).length)) ∧ y.2.map (·.2) = covL s r depth volume) ∧ Sat w M0 (lsK y.1 y.2) w' := by
  have hn2 := hcr.s.n2
  have hla := hcr.r.laps
  refine q_ofM (Sat.nil w M0) Tryz.func15 rfl (by simp [Tryz.ntmps15]) ?_
  (refine q_seq (q_region ?_))
  refine ql_box rfl rfl (fun b4 => ?_)
  refine ql_box rfl rfl (fun b5 => ?_)
  refine ql_box rfl rfl (fun b6 => ?_)
  refine ql_box rfl rfl (fun b7 => ?_)
  (refine ql_pure tabOk rfl rfl (ql_pure tabOk rfl rfl (q_nil (q_seq (q_region ?_)))); refine ql_loadBa tabOk rfl rfl rfl ?_; refine ql_loadABa tabOk rfl rfl rfl ?_)
  refine ql_callv (val := .int .i64 0) tabOk rfl rfl rfl rfl (fun w hs => ?_) ?_; exact by have := checkS_ca w lo hi _ s r (RdE.keep h hs.chg0) (by omega); rw [checkS_iff.2 hcr] at this; exact this
  (refine ql_pure tabOk rfl rfl (q_nil (q_seq (q_block (q_seq (q_region (ql_pure tabOk rfl rfl (ql_neqF tabOk rfl rfl rfl (by omega) (ql_pure tabOk rfl rfl (q_nil (q_cond_false rfl (q_seq ?_))))))))))); refine q_region ?_; refine ql_loadBa tabOk rfl rfl rfl ?_)
  refine ql_callv (val := .bool true) tabOk rfl rfl rfl rfl (fun w hs => ?_) ?_; exact by have := within_ca depth 1 200 w; rw [wiB_iff.2 hdp] at this; exact this
  (refine ql_pure tabOk rfl rfl (ql_pure tabOk rfl rfl (ql_gyes rfl ?_)); refine ql_loadBa tabOk rfl rfl rfl ?_; refine ql_gyes rfl ?_)
  refine ql_callv (val := .bool true) tabOk rfl rfl rfl rfl (fun w hs => ?_) ?_; exact by have := within_ca volume 0 10000000 w; rw [wiB_iff.2 hvo] at this; exact this
  (refine ql_gyes rfl ?_; (iterate 3 refine ql_pure tabOk rfl rfl ?_); refine q_nil (q_cond_false rfl (q_skip (q_blk (q_seq (q_region ?_))))); refine ql_loadABa tabOk rfl rfl rfl ?_; refine ql_loadBa tabOk rfl rfl rfl ?_)
  refine ql_mk #[.int .i64 r.laps, .int .i64 r.g0, .int .i64 r.g1, .int .i64 r.c0, .int .i64 r.c1, .int .i64 r.p0, .int .i64 r.p1, .int .i64 r.wide, .int .i64 r.uses, .slice a s.length cp] rfl (by kernel_rfl) rfl ?_
  skip
  refine ql_alloc zero77 rfl (fun b11 => ?_)
  (refine ql_setA tabOk rfl rfl rfl rfl rfl (by repeat constructor) rfl ?_; refine q_nil (q_seq (q_region ?_)))
  refine ql_alloc zero42 rfl (fun b12 => ?_)
  (refine q_nil (q_seq (q_seq (q_region ?_))); refine ql_loadABa tabOk rfl rfl rfl ?_)
  refine ql_call (β := Nat) tabOk [] _ M0 rfl rfl rfl rfl (Sp.refl _) (fun _ h => h.elim) (fun w' hs => courses_ca w' a s.length cp r) ?_
  rintro bb _ rfl
  (refine q_nil (q_block ?_))
  refine q_conv (H' := [.pt b12 [.slice none 0 0] 42, .ow (.slice none 0 0) 46 1 ([] : List (Value × List Int)).length (([] : List (Value × List Int)).map (·.1)), un (rowsO 3 []), .pt bb (dkC r a s.length cp) 77, .pt b11 (dkC r a s.length cp) 77, .pt b7 [.int .i64 volume] 3, .pt b6 [.int .i64 depth] 3, .pt b4 [.slice a s.length cp] 25])
    (fun w' hs => (Sat.un_nil (Sat.ownil hs 46 1)).sp (by repeat constructor)) ?_
  refine q_rangeP (α := Value × List Int) (fun x => [x.1]) (·.2) cK (Value × List (Value × List Int)) (coursesL s.length (nL r)) (fun pre st => st.2.map (·.2) = pre.filter (covP s r depth volume)) (fun _ _ => False)
    (fun st => .pt b12 [st.1] 42 :: lsK st.1 st.2) [.pt bb (dkC r a s.length cp) 77, .pt b11 (dkC r a s.length cp) 77, .pt b7 [.int .i64 volume] 3, .pt b6 [.int .i64 depth] 3, .pt b4 [.slice a s.length cp] 25] (.slice none 0 0, [])
    rfl (by kernel_rfl) rfl (fun _ => rfl) rfl (by repeat constructor) ?_ ?_ ?_ (fun _ _ _ h => h.elim)
  · intro w1 D hs hD
    exact courses_it w1 D bb a s.length cp r hla hn2 (hs.blk (by repeat constructor)) (fun h => (hD _ h).1 ⟨.pt bb (dkC r a s.length cp) _, (by repeat constructor), rfl⟩)
  · rintro pre ⟨u, c⟩ post ⟨v, xs⟩ w1 l rdy bsy K F' hxx hI hsat hR hbegin hend hret hexit
    simp only at hI hxx
    dsimp only
    obtain ⟨m1, m2, m3⟩ := memC hxx
    have hlm : c.length ≤ 6 := by unfold nL at m1; omega
    have hpl := pre_le hxx (covP s r depth volume)
    have hcl := courses_le s.length (nL r) hn2 (by unfold nL; omega)
    have hxl : xs.length = (pre.filter (covP s r depth volume)).length := by rw [← hI]; simp
    dsimp only [lsK, cK, List.cons_append, List.nil_append] at hsat hR hbegin hend ⊢
    obtain ⟨ua, uc, rfl⟩ := hsat.slice2 (v := u) (by repeat constructor)
    obtain ⟨va, vn, vc, rfl⟩ := hsat.slice (v := v) (by repeat constructor)
    have hd : ∀ w', ChgP _ w1 w' → Blk w' b11 (dkC r a s.length cp) 77 := fun w' hc => (hR w' hc).blk (by repeat constructor)
    have hd7 : ∀ w', ChgP _ w1 w' → Blk w' b7 [.int .i64 volume] 3 := fun w' hc => (hR w' hc).blk (by repeat constructor)
    have hd6 : ∀ w', ChgP _ w1 w' → Blk w' b6 [.int .i64 depth] 3 := fun w' hc => (hR w' hc).blk (by repeat constructor)
    have hd4 : ∀ w', ChgP _ w1 w' → Blk w' b4 [.slice a s.length cp] 25 := fun w' hc => (hR w' hc).blk (by repeat constructor)
    (refine q_region (ql_pure tabOk rfl rfl (q_nil ?_)))
    refine hbegin _ _ ?_
    (refine q_block (q_seq ?_))
    refine q_draw _ [] (Sp.refl _) (by kernel_rfl) (by kernel_rfl) ?_
    (refine qf_loadGA tabOk rfl rfl rfl (by assumption) (by rfl) (by rfl) ?_; refine qf_pure tabOk rfl rfl rfl ?_)
    refine qf_callv (val := mkA s r c) tabOk rfl rfl rfl rfl (fun w hs => ?_) ?_; exact broken_ca w lo hi 0 w.heap.size a cp _ s r c (RdE.keep h (hR w hs.chg).chg0) hcr (hs.rdI (v := .slice ua c.length uc) (l := c) (by repeat constructor) rfl) m2 hlm
    skip
    refine qf_mk #[.bool false, .bool false, .bool false, .bool false, .bool false] rfl (by kernel_rfl) rfl ?_
    refine qf_eqA (l := marksV s r c) (m := [false, false, false, false, false]) mk_eq rfl rfl rfl rfl rfl ?_
    rw [rightB_eq]
    (refine qf_pure tabOk rfl rfl rfl ?_)
    have hno : covP s r depth volume c = false → xs.map (·.2) = (pre ++ [c]).filter (covP s r depth volume) := fun hh => by rw [hI, List.filter_append]; simp [hh]
    have hyes : covP s r depth volume c = true → xs.map (·.2) ++ [c] = (pre ++ [c]).filter (covP s r depth volume) := fun hh => by rw [hI, List.filter_append]; simp [hh]
    cases hb : rightB s r c
    · ((iterate 6 refine qf_gno rfl rfl rfl ?_); refine qf_pure tabOk rfl rfl rfl (qf_nil (q_cond_false rfl (q_skip (q_blk ?_)))))
      exact hend _ _ (.slice va vn vc, xs) (hno (by simp [covP, hb])) (by repeat constructor)
    · (refine qf_gyes rfl ?_; refine qf_loadG tabOk rfl rfl rfl (by assumption) (by rfl) ?_; refine qf_gyes rfl (qf_pure tabOk rfl rfl rfl (qf_gyes rfl ?_)); refine qf_loadG tabOk rfl rfl rfl (by assumption) (by rfl) ?_; refine qf_gyes rfl ?_)
      refine qf_callv (val := .int .i64 (snowV s c depth)) tabOk rfl rfl rfl rfl (fun w hs => ?_) ?_; exact snow_ca w lo hi 0 w.heap.size a cp _ s c depth (RdE.keep h (hR w hs.chg).chg0) hcr.s (hs.rdI (v := .slice ua c.length uc) (l := c) (by repeat constructor) rfl) (by omega) hdp
      (refine qf_gyes rfl ?_; refine qf_loadG tabOk rfl rfl rfl (by assumption) (by rfl) ?_; refine qf_gyes rfl (qf_pure tabOk rfl rfl rfl (qf_pure tabOk rfl rfl rfl (qf_nil ?_))))
      refine q_if rfl (fun hc => ?_) (fun hc => ?_)
      · have hle : snowV s c depth ≤ volume := by first | assumption | (simpa using hc)
        clear hc
        (refine q_region ?_; refine ql_loadBa tabOk rfl rfl rfl ?_; refine ql_pure tabOk rfl rfl ?_)
        refine ql_mkS 46 [.slice ua c.length uc] rfl (by kernel_rfl) rfl (fun bn => ?_)
        refine ql_append (q := 1) slII rfl rfl rfl (fun v' => by repeat constructor) (fun w' hs => ⟨_, _, Blk.rd (hs.blk (b := bn) (by repeat constructor)) rfl 1⟩) (by simp [oneV]) (by omega) (by omega) (fun v2 => ?_)
        refine ql_fact (fun w hs => hs.slice (v := v2) (by repeat constructor)) ?_
        rintro ⟨a2, n2, c2, rfl⟩
        (refine ql_set tabOk rfl rfl rfl rfl (by repeat constructor) ?_; refine q_nil (q_blk ?_))
        refine q_conv (H' := bsy :: .pt b12 [.slice a2 n2 c2] 42 :: lsK (.slice a2 n2 c2) (xs ++ [(.slice ua c.length uc, c)])) (fun w' hs => by
          have h1 : Sat _ _ (lsK (.slice a2 n2 c2) (xs ++ [(.slice ua c.length uc, c)]) ++ [bsy, .pt b12 [.slice a2 n2 c2] 42]) w' := rows_add (hs.sp (by repeat constructor))
          exact h1.sp (by repeat constructor)) ?_
        exact hend _ _ (.slice a2 n2 c2, xs ++ [(.slice ua c.length uc, c)]) (by rw [← hyes (by simp [covP, hb, hle])]; simp) (by repeat constructor)
      · have hle : ¬ snowV s c depth ≤ volume := by first | assumption | (simpa using hc)
        clear hc
        (refine q_skip (q_blk ?_))
        exact hend _ _ (.slice va vn vc, xs) (hno (by simp [covP, hb, hle])) (by repeat constructor)
  · rintro D ⟨v, xs⟩ hI
    simp only at hI
    change xs.map (·.2) = covL s r depth volume at hI
    have hl : xs.length = (covL s r depth volume).length := by rw [← hI]; simp
    dsimp only [lsK, cK, List.cons_append, List.nil_append]
    (refine q_blk (q_seq (q_seq (q_region ?_))); refine ql_loadBa tabOk rfl rfl rfl ?_)
    refine ql_fact (fun w hs => hs.slice2 (v := v) (by repeat constructor)) ?_
    rintro ⟨va, vc, rfl⟩
    (refine ql_pure tabOk rfl rfl (ql_pure tabOk rfl rfl (q_nil ?_)))
    refine q_if rfl (fun hc => ?_) (fun hc => ?_)
    · have h3 : 300 < xs.length := by first | omega | (simp at hc; omega)
      (refine q_seq (q_region (ql_pure tabOk rfl rfl (ql_pure tabOk rfl rfl (q_nil (q_ret ?_))))))
      refine q_finMD tabOk (by repeat constructor) rfl (by repeat constructor) fun w hs => ?_
      exact ⟨(_, xs), ⟨.inr ⟨rfl, by omega⟩, hI⟩, hs.sp (by repeat constructor)⟩
    · have h3 : ¬ 300 < xs.length := by first | omega | (simp at hc; omega)
      (refine q_skip (q_seq (q_region ?_)); refine ql_loadBa tabOk rfl rfl rfl ?_; refine ql_pure tabOk rfl rfl (ql_pure tabOk rfl rfl (q_nil (q_ret ?_))))
      refine q_finMD tabOk (by repeat constructor) rfl (by repeat constructor) fun w hs => ?_
      exact ⟨(_, xs), ⟨.inl ⟨rfl, by omega⟩, hI⟩, hs.sp (by repeat constructor)⟩
theorem cov_ok (w : World) (lo hi : Nat) (a : Option Addr) (cp : Nat) (s : List Lp) (r : Rl) (depth volume : Int) (h : RdL w lo hi (.slice a s.length cp) s) (hlen : s.length ≤ 1000000) (e : (coveredV s r depth volume).2 = 0) :
    Ca Tryz.prog 15 [.slice a s.length cp, .agg (rlC r).toArray, .int .i64 depth, .int .i64 volume] w fun x w' => ∃ y : Value × List (Value × List Int), (x = .tuple #[y.1, .int .i64 0] ∧ y.2.map (·.2) = covL s r depth volume) ∧ Sat w M0 (lsK y.1 y.2) w' := by
  unfold coveredV at e
  split at e
  · rename_i hh; exact absurd e hh
  rename_i h0
  split at e
  · cases e
  rename_i h1
  split at e
  · cases e
  rename_i h2
  have h1' : wiB depth 1 200 = true ∧ wiB volume 0 10000000 = true := by simpa using h1
  exact (cov_main w lo hi a cp s r depth volume h (checkS_iff.1 (by omega)) (wiB_iff.1 h1'.1) (wiB_iff.1 h1'.2)).mono fun v w' ⟨y, ⟨h1, h4⟩, h3⟩ => by
    rcases h1 with ⟨h1, _⟩ | ⟨_, h1⟩
    · exact ⟨y, ⟨h1, h4⟩, h3⟩
    · omega
end Go.Proofs.YtpknmgafambmbaaGreat

/- Walks: the cheapest course. -/
namespace Go.Proofs.YtpknmgafambmbaaGreat
open Go Go.Eng

/-- What is known of the best one so far. -/
def BestI (o : Option (List Int)) (v : Value) (l : List Int) : Prop := (l = [] ∧ v = .slice none 0 0 ∧ o = none) ∨ (0 < l.length ∧ o = some l)
theorem cheapO_snoc (s : List Lp) (r : Rl) (depth : Int) (pre : List (List Int)) (c : List Int) : cheapO s r depth (pre ++ [c]) = cheapS s r depth (cheapO s r depth pre) c := by simp [cheapO, List.foldl_append]

set_option maxHeartbeats 4000000 in
theorem cheap_main (w : World) (lo hi : Nat) (a : Option Addr) (cp : Nat) (s : List Lp) (r : Rl) (depth : Int) (h : RdL w lo hi (.slice a s.length cp) s) (hcr : CR s r) (hdp : 1 ≤ depth ∧ depth ≤ 200) :
    Ca Tryz.prog 10 [.slice a s.length cp, .agg (rlC r).toArray, .int .i64 depth] w fun x w' => ∃ y : Value × List Int, ((x = .tuple #[y.1, .int .i64 (snowV s y.2 depth), .int .i64 0] ∧ cheapO s r depth (coursesL s.length (nL r)) = some y.2) ∨ (x = .tuple #[.slice none 0 0, .int .i64 0, .int .i64 6] ∧ cheapO s r depth (coursesL s.length (nL r)) = none)) ∧ Sat w M0 [.ow y.1 3 1 y.2.length (ints y.2)] w' := by
  have hn2 := hcr.s.n2
  have hla := hcr.r.laps
  refine q_ofM (Sat.nil w M0) Tryz.func10 rfl (by simp [Tryz.ntmps10]) ?_
  (refine q_seq (q_region ?_))
  refine ql_box rfl rfl (fun b3 => ?_)
  refine ql_box rfl rfl (fun b4 => ?_)
  refine ql_box rfl rfl (fun b5 => ?_)
  ((iterate 3 refine ql_pure tabOk rfl rfl ?_); refine q_nil (q_seq (q_region ?_)); refine ql_loadBa tabOk rfl rfl rfl ?_; refine ql_loadABa tabOk rfl rfl rfl ?_)
  refine ql_callv (val := .int .i64 0) tabOk rfl rfl rfl rfl (fun w hs => ?_) ?_; exact by have := checkS_ca w lo hi _ s r (RdE.keep h hs.chg0) (by omega); rw [checkS_iff.2 hcr] at this; exact this
  (refine ql_pure tabOk rfl rfl (q_nil (q_seq (q_block (q_seq (q_region (ql_pure tabOk rfl rfl (ql_neqF tabOk rfl rfl rfl (by omega) (ql_pure tabOk rfl rfl (q_nil (q_cond_false rfl (q_seq ?_))))))))))); refine q_region ?_; refine ql_loadBa tabOk rfl rfl rfl ?_)
  refine ql_callv (val := .bool true) tabOk rfl rfl rfl rfl (fun w hs => ?_) ?_; exact by have := within_ca depth 1 200 w; rw [wiB_iff.2 hdp] at this; exact this
  (refine ql_pure tabOk rfl rfl (ql_pure tabOk rfl rfl (q_nil (q_cond_false rfl (q_skip (q_blk (q_seq (q_region ?_))))))); refine ql_loadABa tabOk rfl rfl rfl ?_; refine ql_loadBa tabOk rfl rfl rfl ?_)
  refine ql_mk #[.int .i64 r.laps, .int .i64 r.g0, .int .i64 r.g1, .int .i64 r.c0, .int .i64 r.c1, .int .i64 r.p0, .int .i64 r.p1, .int .i64 r.wide, .int .i64 r.uses, .slice a s.length cp] rfl (by kernel_rfl) rfl ?_
  skip
  refine ql_alloc zero77 rfl (fun b10 => ?_)
  (refine ql_setA tabOk rfl rfl rfl rfl rfl (by repeat constructor) rfl ?_; refine q_nil (q_seq (q_region ?_)))
  refine ql_alloc zero46 rfl (fun b11 => ?_)
  (refine q_nil (q_seq (q_seq (q_region ?_))); refine ql_loadABa tabOk rfl rfl rfl ?_)
  refine ql_call (β := Nat) tabOk [] _ M0 rfl rfl rfl rfl (Sp.refl _) (fun _ h => h.elim) (fun w' hs => courses_ca w' a s.length cp r) ?_
  rintro bb _ rfl
  (refine q_nil (q_block ?_))
  refine q_conv (H' := [.pt b11 [.slice none 0 0] 46, .ow (.slice none 0 0) 3 1 ([] : List Int).length (ints []), .pt bb (dkC r a s.length cp) 77, .pt b10 (dkC r a s.length cp) 77, .pt b5 [.int .i64 depth] 3, .pt b3 [.slice a s.length cp] 25])
    (fun w' hs => (Sat.ownil hs 3 1).sp (by repeat constructor)) ?_
  refine q_rangeP (α := Value × List Int) (fun x => [x.1]) (·.2) cK (Value × List Int) (coursesL s.length (nL r)) (fun pre st => BestI (cheapO s r depth pre) st.1 st.2 ∧ st.2.length ≤ 6) (fun _ _ => False)
    (fun st => [.pt b11 [st.1] 46, .ow st.1 3 1 st.2.length (ints st.2)]) [.pt bb (dkC r a s.length cp) 77, .pt b10 (dkC r a s.length cp) 77, .pt b5 [.int .i64 depth] 3, .pt b3 [.slice a s.length cp] 25] (.slice none 0 0, [])
    rfl (by kernel_rfl) rfl (fun _ => rfl) ⟨.inl ⟨rfl, rfl, rfl⟩, by simp⟩ (by repeat constructor) ?_ ?_ ?_ (fun _ _ _ h => h.elim)
  · intro w1 D hs hD
    exact courses_it w1 D bb a s.length cp r hla hn2 (hs.blk (by repeat constructor)) (fun h => (hD _ h).1 ⟨.pt bb (dkC r a s.length cp) _, (by repeat constructor), rfl⟩)
  · rintro pre ⟨u, c⟩ post ⟨v, bl⟩ w1 l rdy bsy K F' hxx ⟨hI, h6⟩ hsat hR hbegin hend hret hexit
    simp only at hI hxx h6
    dsimp only
    obtain ⟨m1, m2, m3⟩ := memC hxx
    have hlm : c.length ≤ 6 := by unfold nL at m1; omega
    have hlp : 0 < c.length := by unfold nL at m1; omega
    have hsn := cheapO_snoc s r depth pre c
    dsimp only [lsK, cK, List.cons_append, List.nil_append] at hsat hR hbegin hend ⊢
    obtain ⟨ug, uc, rfl⟩ := hsat.ownSome (v := u) (by repeat constructor) hlp
    have hd : ∀ w', ChgP _ w1 w' → Blk w' b10 (dkC r a s.length cp) 77 := fun w' hc => (hR w' hc).blk (by repeat constructor)
    have hd5 : ∀ w', ChgP _ w1 w' → Blk w' b5 [.int .i64 depth] 3 := fun w' hc => (hR w' hc).blk (by repeat constructor)
    have hd3 : ∀ w', ChgP _ w1 w' → Blk w' b3 [.slice a s.length cp] 25 := fun w' hc => (hR w' hc).blk (by repeat constructor)
    have hkeep : cheapS s r depth (cheapO s r depth pre) c = cheapO s r depth pre → BestI (cheapO s r depth (pre ++ [c])) v bl := fun hh => by rw [hsn, hh]; exact hI
    have htake : cheapS s r depth (cheapO s r depth pre) c = some c → ∀ x, BestI (cheapO s r depth (pre ++ [c])) x c := fun hh x => by rw [hsn, hh]; exact .inr ⟨hlp, rfl⟩
    (refine q_region (ql_pure tabOk rfl rfl (q_nil ?_)))
    refine hbegin _ _ ?_
    (refine q_block (q_seq ?_))
    refine q_draw _ [] (Sp.refl _) (by kernel_rfl) (by kernel_rfl) ?_
    (refine qf_loadGA tabOk rfl rfl rfl (by assumption) (by rfl) (by rfl) ?_; refine qf_pure tabOk rfl rfl rfl ?_)
    refine qf_callv (val := mkA s r c) tabOk rfl rfl rfl rfl (fun w hs => ?_) ?_; exact broken_ca w lo hi 0 w.heap.size a cp _ s r c (RdE.keep h (hR w hs.chg).chg0) hcr (hs.rdI (v := .slice (some ⟨ug, 0, none⟩) c.length uc) (l := c) (by repeat constructor) rfl) m2 hlm
    skip
    refine qf_mk #[.bool false, .bool false, .bool false, .bool false, .bool false] rfl (by kernel_rfl) rfl ?_
    refine qf_eqA (l := marksV s r c) (m := [false, false, false, false, false]) mk_eq rfl rfl rfl rfl rfl ?_
    rw [rightB_eq]
    (refine qf_pure tabOk rfl rfl rfl ?_)
    cases hb : rightB s r c
    · have hk := hkeep (by simp [cheapS, hb])
      ((iterate 3 refine qf_gno rfl rfl rfl ?_); (iterate 9 refine qf_gnone rfl rfl ?_); refine qf_gno rfl rfl rfl (qf_pure tabOk rfl rfl rfl (qf_nil (q_cond_false rfl (q_skip (q_blk ?_))))))
      exact hend _ _ (v, bl) ⟨hk, h6⟩ (by repeat constructor)
    · rcases hI with ⟨rfl, rfl, ho⟩ | ⟨hbl, ho⟩
      · have ht := htake (by simp [cheapS, hb, ho, bestS])
        (refine qf_gyes rfl ?_; refine qf_loadBa tabOk rfl rfl rfl ?_; refine qf_gyes rfl ?_)
        refine qf_eqnil tabOk rfl rfl rfl rfl ?_
        (refine qf_gyes rfl (qf_pure tabOk rfl rfl rfl ?_); (iterate 9 refine qf_gno rfl rfl rfl ?_); refine qf_gyes rfl (qf_pure tabOk rfl rfl rfl (qf_pure tabOk rfl rfl rfl (qf_nil (q_cond_true rfl (q_region (ql_pure tabOk rfl rfl ?_)))))); refine ql_set tabOk rfl rfl rfl rfl (by repeat constructor) ?_; refine q_nil (q_blk ?_))
        exact hend _ _ (_, c) ⟨ht _, hlm⟩ (by repeat constructor)
      · obtain ⟨vg, vc, rfl⟩ := hsat.ownSome (v := v) (by repeat constructor) hbl
        (refine qf_gyes rfl ?_; refine qf_loadBa tabOk rfl rfl rfl ?_; refine qf_gyes rfl ?_)
        refine qf_eqnil tabOk rfl rfl rfl rfl ?_
        (refine qf_gyes rfl (qf_pure tabOk rfl rfl rfl (qf_gyes rfl ?_)); refine qf_loadG tabOk rfl rfl rfl (by assumption) (by rfl) ?_; refine qf_gyes rfl (qf_pure tabOk rfl rfl rfl (qf_gyes rfl ?_)); refine qf_loadG tabOk rfl rfl rfl (by assumption) (by rfl) ?_; refine qf_gyes rfl ?_)
        refine qf_callv (val := .int .i64 (snowV s c depth)) tabOk rfl rfl rfl rfl (fun w hs => ?_) ?_; exact snow_ca w lo hi 0 w.heap.size a cp _ s c depth (RdE.keep h (hR w hs.chg).chg0) hcr.s (hs.rdI (v := .slice (some ⟨ug, 0, none⟩) c.length uc) (l := c) (by repeat constructor) rfl) (by omega) hdp
        (refine qf_gyes rfl ?_; refine qf_loadG tabOk rfl rfl rfl (by assumption) (by rfl) ?_; refine qf_gyes rfl ?_; refine qf_loadBa tabOk rfl rfl rfl ?_; refine qf_gyes rfl ?_; refine qf_loadG tabOk rfl rfl rfl (by assumption) (by rfl) ?_; refine qf_gyes rfl ?_)
        refine qf_callv (val := .int .i64 (snowV s bl depth)) tabOk rfl rfl rfl rfl (fun w hs => ?_) ?_; exact snow_ca w lo hi 0 w.heap.size a cp _ s bl depth (RdE.keep h (hR w hs.chg).chg0) hcr.s (hs.rdI (v := .slice (some ⟨vg, 0, none⟩) bl.length vc) (l := bl) (by repeat constructor) rfl) (by omega) hdp
        (refine qf_gyes rfl (qf_pure tabOk rfl rfl rfl (qf_gyes rfl (qf_pure tabOk rfl rfl rfl (qf_pure tabOk rfl rfl rfl (qf_nil ?_))))))
        refine q_if rfl (fun hc => ?_) (fun hc => ?_)
        · have hlt : snowV s c depth < snowV s bl depth := by first | assumption | (simpa using hc)
          clear hc
          have ht := htake (by simp [cheapS, hb, ho, bestS, hlt])
          (refine q_region (ql_pure tabOk rfl rfl ?_); refine ql_set tabOk rfl rfl rfl rfl (by repeat constructor) ?_; refine q_nil (q_blk ?_))
          exact hend _ _ (_, c) ⟨ht _, hlm⟩ (by repeat constructor)
        · have hlt : ¬ snowV s c depth < snowV s bl depth := by first | assumption | (simpa using hc)
          clear hc
          have hk := hkeep (by simp [cheapS, hb, ho, bestS, hlt])
          (refine q_skip (q_blk ?_))
          exact hend _ _ (_, bl) ⟨hk, h6⟩ (by repeat constructor)
  · rintro D ⟨v, bl⟩ ⟨hI, h6⟩
    simp only at hI h6
    dsimp only [lsK, cK, List.cons_append, List.nil_append]
    (refine q_blk (q_seq (q_seq (q_region ?_))); refine ql_loadBa tabOk rfl rfl rfl ?_)
    rcases hI with ⟨rfl, rfl, ho⟩ | ⟨hbl, ho⟩
    · skip
      refine ql_eqnil tabOk rfl rfl rfl rfl ?_
      (refine q_nil (q_cond_true rfl (q_seq (q_region ?_))); (iterate 3 refine ql_pure tabOk rfl rfl ?_); refine q_nil (q_ret ?_))
      refine q_finMD tabOk (by repeat constructor) rfl (by repeat constructor) fun w hs => ?_
      exact ⟨(.slice none 0 0, []), .inr ⟨rfl, ho⟩, hs.sp (by repeat constructor)⟩
    · refine ql_fact (fun w hs => hs.ownSome (v := v) (by repeat constructor) hbl) ?_
      rintro ⟨vg, vc, rfl⟩
      skip
      refine ql_eqnil tabOk rfl rfl rfl rfl ?_
      (refine q_nil (q_cond_false rfl (q_skip (q_seq ?_))))
      refine q_draw _ [] (Sp.refl _) (by kernel_rfl) (by kernel_rfl) ?_
      ((iterate 4 refine qf_loadBa tabOk rfl rfl rfl ?_))
      refine qf_callv (val := .int .i64 (snowV s bl depth)) tabOk rfl rfl rfl rfl (fun w hs => ?_) ?_; exact snow_ca w lo hi 0 w.heap.size a cp _ s bl depth (RdE.keep h hs.chg0) hcr.s (hs.rdI (v := .slice (some ⟨vg, 0, none⟩) bl.length vc) (l := bl) (by repeat constructor) rfl) (by omega) hdp
      ((iterate 3 refine qf_pure tabOk rfl rfl rfl ?_); refine qf_nil (q_ret ?_))
      refine q_finMD tabOk (by repeat constructor) rfl (by repeat constructor) fun w hs => ?_
      exact ⟨(_, bl), .inl ⟨rfl, ho⟩, hs.sp (by repeat constructor)⟩
theorem cheap_ok (w : World) (lo hi : Nat) (a : Option Addr) (cp : Nat) (s : List Lp) (r : Rl) (depth : Int) (c : List Int) (h : RdL w lo hi (.slice a s.length cp) s) (hcr : CR s r) (hdp : 1 ≤ depth ∧ depth ≤ 200) (ho : cheapO s r depth (coursesL s.length (nL r)) = some c) :
    Ca Tryz.prog 10 [.slice a s.length cp, .agg (rlC r).toArray, .int .i64 depth] w fun x w' => ∃ v : Value, x = .tuple #[v, .int .i64 (snowV s c depth), .int .i64 0] ∧ Sat w M0 [.ow v 3 1 c.length (ints c)] w' :=
  (cheap_main w lo hi a cp s r depth h hcr hdp).mono fun x w' ⟨y, h1, h2⟩ => by
    rcases h1 with ⟨h1, h3⟩ | ⟨_, h3⟩
    · rw [ho] at h3
      cases h3
      exact ⟨y.1, h1, h2⟩
    · rw [ho] at h3; cases h3
theorem cheap_no (w : World) (lo hi : Nat) (a : Option Addr) (cp : Nat) (s : List Lp) (r : Rl) (depth : Int) (h : RdL w lo hi (.slice a s.length cp) s) (hlen : s.length ≤ 1000000) (e : (cheapV s r depth).2.2 ≠ 0) :
    Ca Tryz.prog 10 [.slice a s.length cp, .agg (rlC r).toArray, .int .i64 depth] w fun x w' => x = .tuple #[.slice none 0 0, .int .i64 0, .int .i64 (cheapV s r depth).2.2] ∧ Chg [] w w' := by
  by_cases h0 : checkS s r = 0
  · by_cases h1 : wiB depth 1 200 = true
    · cases ho : cheapO s r depth (coursesL s.length (nL r)) with
      | none =>
        have ev : (cheapV s r depth).2.2 = 6 := by unfold cheapV; rw [if_neg (by omega), if_neg (by simp [h1]), ho]
        rw [ev]
        exact (cheap_main w lo hi a cp s r depth h (checkS_iff.1 h0) (wiB_iff.1 h1)).mono fun v w' ⟨y, h1, h4⟩ => by
          rcases h1 with ⟨_, h1⟩ | ⟨h1, _⟩
          · rw [ho] at h1; cases h1
          · exact ⟨h1, h4.chg0⟩
      | some c => exact absurd (by unfold cheapV; rw [if_neg (by omega), if_neg (by simp [h1]), ho]) e
    · have ev : (cheapV s r depth).2.2 = 3 := by unfold cheapV; rw [if_neg (by omega), if_pos (Bool.eq_false_iff.2 h1)]
      rw [ev]
      refine q_of (Sat.nil w M0) Tryz.func10 rfl (by simp [Tryz.ntmps10]) ?_
      (refine q_seq (q_region ?_))
      refine ql_box rfl rfl (fun b4 => ?_)
      refine ql_box rfl rfl (fun b5 => ?_)
      refine ql_box rfl rfl (fun b6 => ?_)
      ((iterate 3 refine ql_pure tabOk rfl rfl ?_); refine q_nil (q_seq (q_region ?_)); refine ql_loadBa tabOk rfl rfl rfl ?_; refine ql_loadABa tabOk rfl rfl rfl ?_)
      refine ql_callv (val := .int .i64 0) tabOk rfl rfl rfl rfl (fun w hs => ?_) ?_; exact by have := checkS_ca w lo hi _ s r (RdE.keep h hs.chg0) hlen; rw [h0] at this; exact this
      (refine ql_pure tabOk rfl rfl (q_nil (q_seq (q_block (q_seq (q_region (ql_pure tabOk rfl rfl (ql_neqF tabOk rfl rfl rfl (by omega) (ql_pure tabOk rfl rfl (q_nil (q_cond_false rfl (q_seq ?_))))))))))); refine q_region ?_; refine ql_loadBa tabOk rfl rfl rfl ?_)
      refine ql_callv (val := .bool (wiB depth 1 200)) tabOk rfl rfl rfl rfl (fun w hs => ?_) ?_; exact within_ca depth 1 200 w
      rw [Bool.eq_false_iff.2 h1]
      (refine ql_pure tabOk rfl rfl (ql_pure tabOk rfl rfl (q_nil (q_cond_true rfl (q_seq (q_region ?_))))); (iterate 3 refine ql_pure tabOk rfl rfl ?_); refine q_nil (q_ret ?_))
      refine q_fin tabOk rfl (by repeat constructor) fun w hs => ?_
      exact ⟨rfl, hs.chg0⟩
  · have ev : (cheapV s r depth).2.2 = checkS s r := by unfold cheapV; rw [if_pos h0]
    rw [ev]
    refine q_of (Sat.nil w M0) Tryz.func10 rfl (by simp [Tryz.ntmps10]) ?_
    (refine q_seq (q_region ?_))
    refine ql_box rfl rfl (fun b4 => ?_)
    refine ql_box rfl rfl (fun b5 => ?_)
    refine ql_box rfl rfl (fun b6 => ?_)
    ((iterate 3 refine ql_pure tabOk rfl rfl ?_); refine q_nil (q_seq (q_region ?_)); refine ql_loadBa tabOk rfl rfl rfl ?_; refine ql_loadABa tabOk rfl rfl rfl ?_)
    refine ql_callv (val := .int .i64 (checkS s r)) tabOk rfl rfl rfl rfl (fun w hs => ?_) ?_; exact checkS_ca w lo hi _ s r (RdE.keep h hs.chg0) hlen
    generalize checkS s r = z at *
    (refine ql_pure tabOk rfl rfl (q_nil (q_seq (q_block (q_seq (q_region (ql_pure tabOk rfl rfl (ql_neqT tabOk rfl rfl rfl (by omega) (ql_pure tabOk rfl rfl (q_nil (q_cond_true rfl (q_seq ?_))))))))))); refine q_region ?_; (iterate 4 refine ql_pure tabOk rfl rfl ?_); refine q_nil (q_ret ?_))
    refine q_fin tabOk rfl (by repeat constructor) fun w hs => ?_
    exact ⟨rfl, hs.chg0⟩
end Go.Proofs.YtpknmgafambmbaaGreat

/- Walks: lists compared; the fewest rules to be given up. -/
namespace Go.Proofs.YtpknmgafambmbaaGreat
open Go Go.Eng

def cmpI (x y : Int) : Int := if x < y then -1 else if y < x then 1 else 0
end Go.Proofs.YtpknmgafambmbaaGreat

/- The engine, part B27: structs of flat structs compared. -/
namespace Go.Eng
open Go Go.RowKit

section
variable {P : Program}
def nestF (P : Program) : Nat → List Field → List (List (Option IntKind)) → Bool
  | _, [], [] => true
  | o, f :: fs, k :: ks => !(f.name == "_") && Nat.beq f.offset o && flatB P f.type k && Nat.beq (P.cellsOf f.type) k.length && (P.info? f.type).isSome && nestF P (o + k.length) fs ks
  | _, _, _ => false
def nestB (P : Program) (t : Nat) (ks : List (List (Option IntKind))) : Bool :=
  !(P.stoodInHeld t) && !(P.eqGuardType P.depth t) && (match P.underlying t with | some (.struct fs) => nestF P 0 fs.toList ks | _ => false)
theorem run_partA {t n : Nat} {ks : List (Option IntKind)} (h : flatB P t ks = true) (hc : P.cellsOf t = n) (hi : (P.info? t).isSome = true) (xs : List Value) (o : Nat) (w : World) : (part t xs.toArray o).run P w = .ok (.agg ((xs.drop o).take n).toArray) w := by
  obtain ⟨h1, h2, h3, h4⟩ := flat_under h
  obtain ⟨i, hi⟩ := Option.isSome_iff_exists.1 hi
  have e : xs.toArray.extract o (o + n) = ((xs.drop o).take n).toArray := by
    apply Array.ext'
    simp [List.extract_eq_take_drop]
  simp [part, isAgg, run_underlying h3, run_sizeOf w hi, hc, e]
variable {ro : Cx} {n : Nat} {F : Fin} {w0 : World} {M : Nat → Prop} {k : List It} {ops : Array Oper} {rest : List Oper} {e : Env} {H Hq : List Ck}
end
end Go.Eng

/- Walks: lists compared. -/
namespace Go.Proofs.YtpknmgafambmbaaGreat
open Go Go.Eng

def eqIB (a b : List Int) : Bool := decide (a = b) && true
theorem eqIB_iff {a b : List Int} : eqIB a b = true ↔ a = b := by simp [eqIB]
set_option maxHeartbeats 1000000 in
theorem eqIF_ca (w : World) (lo hi lo2 hi2 : Nat) (v u : Value) (l m : List Int) (h1 : RdI w lo hi v l) (h2 : RdI w lo2 hi2 u m) (hlen : l.length ≤ 1000000) (hlen2 : m.length ≤ 1000000) :
    Ca Tryz.prog 34 [v, u] w fun r w' => r = .bool (eqIB l m) ∧ Chg [] w w' := by
  obtain ⟨a, ca, rfl, hsa⟩ := RdI.outI h1
  obtain ⟨b, cb, rfl, hsb⟩ := RdI.outI h2
  refine q_of (Sat.nil w M0) Tryz.func34 rfl (by simp [Tryz.ntmps34]) ?_
  (refine q_seq (q_region (ql_pure tabOk rfl rfl (q_nil (q_seq (q_seq (q_region ?_)))))); (iterate 5 refine ql_pure tabOk rfl rfl ?_); refine q_nil ?_)
  by_cases hll : l.length = m.length
  · rw [decide_eq_true (show (l.length : Int) = m.length by omega)]
    (refine q_cond_false rfl (q_skip (q_seq (q_seq (q_region ?_)))); (iterate 3 refine ql_pure tabOk rfl rfl ?_); refine q_nil (q_block ?_))
    refine q_loop (σ := Nat) (fun s => s ≤ l.length ∧ l.take s = m.take s) (fun s => l.length - s) (fun s => [(0, .slice a l.length ca), (1, .slice b m.length cb), (12, .int .i64 l.length), (13, .int .i64 s)]) (fun _ => []) 0 (by simp) ⟨rfl, rfl, rfl, rfl, trivial⟩ (by repeat constructor) ?_
    rintro i ⟨hi, ht⟩ K hK
    (refine q_seq (q_region (ql_pure tabOk rfl rfl (q_nil (q_seq ?_)))))
    refine q_if rfl (fun hc => ?_) (fun hc => ?_)
    · have hi2 : i < l.length := by omega
      have hi3 : i < m.length := by omega
      clear hc
      obtain ⟨ba, oa, rfl⟩ := hsa (by omega)
      obtain ⟨bb, ob, rfl⟩ := hsb (by omega)
      (refine q_skip (q_seq (q_block (q_seq (q_region (ql_pure tabOk rfl rfl (ql_pure tabOk rfl rfl (q_nil (q_seq ?_)))))))))
      refine q_draw _ [] (Sp.refl _) (by kernel_rfl) (by kernel_rfl) ?_
      (refine qf_pure tabOk rfl rfl rfl (qf_pure tabOk rfl rfl rfl ?_))
      (refine qf_index tabOk rfl rfl rfl rfl rfl (by omega) (by omega) ?_; refine qf_load1 tabOk rfl rfl rfl (fun w hs => RdI.at (RdE.keep h1 hs.chg0) i hi2) ?_)
      (refine qf_pure tabOk rfl rfl rfl (qf_pure tabOk rfl rfl rfl ?_))
      (refine qf_index tabOk rfl rfl rfl rfl rfl (by omega) (by omega) ?_; refine qf_load1 tabOk rfl rfl rfl (fun w hs => RdI.at (RdE.keep h2 hs.chg0) i hi3) ?_)
      (refine qf_pure tabOk rfl rfl rfl (qf_nil ?_))
      by_cases he : l[i] = m[i]
      · skip
        rw [decide_eq_true he]
        (refine q_cond_false rfl (q_skip (q_blk (q_region (ql_ar tabOk rfl rfl rfl rfl (by omega) (by omega) (ql_pure tabOk rfl rfl (q_nil ?_)))))))
        exact hK (i + 1) _ _ ⟨by omega, by rw [List.take_succ_eq_append_getElem hi2, List.take_succ_eq_append_getElem hi3, ht, he]⟩ (by omega) ⟨rfl, rfl, rfl, rfl, trivial⟩ (by repeat constructor)
      · have e : eqIB l m = false := Bool.eq_false_iff.2 fun hh => he (by have := eqIB_iff.1 hh; subst this; rfl)
        rw [e, decide_eq_false he]
        (refine q_cond_true rfl (q_seq (q_region (ql_pure tabOk rfl rfl (q_nil (q_ret ?_))))))
        refine q_fin tabOk rfl (by repeat constructor) fun w hs => ?_
        exact ⟨rfl, hs.chg0⟩
    · obtain rfl : i = l.length := by omega
      have e : eqIB l m = true := eqIB_iff.2 (by rw [List.take_length] at ht; rw [hll, List.take_length] at ht; exact ht)
      rw [e]
      (refine q_exit _ rfl (q_seq (q_region (ql_pure tabOk rfl rfl (q_nil (q_ret ?_))))))
      refine q_fin tabOk rfl (by repeat constructor) fun w hs => ?_
      exact ⟨rfl, hs.chg0⟩
  · have e : eqIB l m = false := Bool.eq_false_iff.2 fun hh => hll (by rw [eqIB_iff.1 hh])
    rw [e, decide_eq_false (show ¬ (l.length : Int) = m.length by omega)]
    (refine q_cond_true rfl (q_seq (q_region (ql_pure tabOk rfl rfl (q_nil (q_ret ?_))))))
    refine q_fin tabOk rfl (by repeat constructor) fun w hs => ?_
    exact ⟨rfl, hs.chg0⟩
theorem eqI_ca (w : World) (lo hi lo2 hi2 : Nat) (v u : Value) (l : List Int) (h1 : RdI w lo hi v l) (h2 : RdI w lo2 hi2 u l) (hlen : l.length ≤ 1000000) :
    Ca Tryz.prog 34 [v, u] w fun r w' => r = .bool true ∧ Chg [] w w' := by
  have h := eqIF_ca w lo hi lo2 hi2 v u l l h1 h2 hlen hlen
  rwa [eqIB_iff.2 rfl] at h

set_option maxHeartbeats 1000000 in
theorem eqII_ca (w : World) (lo hi lo2 hi2 : Nat) (v u : Value) (ll : List (List Int)) (h1 : RdII w lo hi v ll) (h2 : RdII w lo2 hi2 u ll) (hlen : ll.length ≤ 1000000) (hrow : ∀ l ∈ ll, l.length ≤ 1000000) :
    Ca Tryz.prog 16 [v, u] w fun r w' => r = .bool true ∧ Chg [] w w' := by
  obtain ⟨a, ca, rfl, hsa⟩ := RdII.outI h1
  obtain ⟨b, cb, rfl, hsb⟩ := RdII.outI h2
  refine q_of (Sat.nil w M0) Tryz.func16 rfl (by simp [Tryz.ntmps16]) ?_
  (refine q_seq (q_region (ql_pure tabOk rfl rfl (q_nil (q_seq (q_seq (q_region ?_)))))); (iterate 4 refine ql_pure tabOk rfl rfl ?_); refine ql_neqF tabOk rfl rfl rfl (by omega) (q_nil (q_cond_false rfl (q_skip (q_seq (q_seq (q_region ?_)))))); (iterate 3 refine ql_pure tabOk rfl rfl ?_); refine q_nil (q_block ?_))
  refine q_loop (σ := Nat) (fun s => s ≤ ll.length) (fun s => ll.length - s) (fun s => [(0, .slice a ll.length ca), (1, .slice b ll.length cb), (12, .int .i64 ll.length), (13, .int .i64 s)]) (fun _ => []) 0 (by omega) ⟨rfl, rfl, rfl, rfl, trivial⟩ (by repeat constructor) ?_
  intro i hi K hK
  (refine q_seq (q_region (ql_pure tabOk rfl rfl (q_nil (q_seq ?_)))))
  refine q_if rfl (fun hc => ?_) (fun hc => ?_)
  · have hi2 : i < ll.length := by omega
    clear hc
    obtain ⟨ba, oa, rfl⟩ := hsa (by omega)
    obtain ⟨bb, ob, rfl⟩ := hsb (by omega)
    obtain ⟨ar, cr, hr1, hc1⟩ := h1.row i hi2
    obtain ⟨br, dr, hr2, hc2⟩ := h2.row i hi2
    have hrl := hrow _ (List.getElem_mem hi2)
    (refine q_skip (q_seq (q_block (q_seq (q_region (ql_pure tabOk rfl rfl (ql_pure tabOk rfl rfl (q_nil (q_seq ?_)))))))))
    refine q_draw _ [] (Sp.refl _) (by kernel_rfl) (by kernel_rfl) ?_
    (refine qf_pure tabOk rfl rfl rfl (qf_pure tabOk rfl rfl rfl ?_))
    refine qf_index tabOk rfl rfl rfl rfl rfl (by omega) (by omega) ?_
    refine qf_load1 (v := .slice ar ll[i].length cr) tabOk rfl rfl rfl (fun w' hs => hc1 w' hs.chg0) ?_
    (refine qf_pure tabOk rfl rfl rfl (qf_pure tabOk rfl rfl rfl ?_))
    refine qf_index tabOk rfl rfl rfl rfl rfl (by omega) (by omega) ?_
    refine qf_load1 (v := .slice br ll[i].length dr) tabOk rfl rfl rfl (fun w' hs => hc2 w' hs.chg0) ?_
    skip
    refine qf_callv (val := .bool true) tabOk rfl rfl rfl rfl (fun w hs => ?_) ?_; exact eqI_ca w _ _ _ _ _ _ ll[i] (RdE.keep hr1 hs.chg0) (RdE.keep hr2 hs.chg0) hrl
    (refine qf_pure tabOk rfl rfl rfl (qf_nil (q_cond_false rfl (q_skip (q_blk (q_region (ql_ar tabOk rfl rfl rfl rfl (by omega) (by omega) (ql_pure tabOk rfl rfl (q_nil ?_)))))))))
    exact hK (i + 1) _ _ (by omega) (by omega) ⟨rfl, rfl, rfl, rfl, trivial⟩ (by repeat constructor)
  · (refine q_exit _ rfl (q_seq (q_region (ql_pure tabOk rfl rfl (q_nil (q_ret ?_))))))
    refine q_fin tabOk rfl (by repeat constructor) fun w hs => ?_
    exact ⟨rfl, hs.chg0⟩

end Go.Proofs.YtpknmgafambmbaaGreat

/- Walks: the examples; awake. -/
namespace Go.Proofs.YtpknmgafambmbaaGreat
open Go Go.Eng

theorem Blk.rdD {w : World} {b : Nat} {l : List Dy} {cs : List Value} {t : TypeId} {c : Nat} (h : Blk w b cs t) (hc : cs = dyC l) : RdD w 0 w.heap.size (.slice (some ⟨b, 0, none⟩) l.length c) l := by
  subst hc
  exact RdD.of ⟨dyC_length l, .inr ⟨b, 0, c, rfl, fun _ => ⟨Nat.zero_le _, h.lt, h.lt⟩, fun j _ => by rw [Blk.cell h]; simp⟩⟩
theorem RdII.of {w : World} {lo hi : Nat} {v : Value} {ll : List (List Int)} {vs : List Value} (h : Rd w lo hi v 1 vs.length vs) (h1 : vs.length = ll.length) (h2 : ∀ i (h : i < vs.length) (h' : i < ll.length), RdI w lo hi vs[i] ll[i]) (h3 : ∀ e ∈ vs, oneV e = true) : RdII w lo hi v ll :=
  ⟨vs, RdE.one h h3, h1, h2⟩
theorem spanM_ca (a b : Int) (w : World) : Ca Tryz.prog 20 [.int .i64 a, .int .i64 b] w fun v w' => v = .agg #[.int .i64 a, .int .i64 b] ∧ Chg [] w w' := by
  refine q_of (Sat.nil w M0) Tryz.func20 rfl (by simp [Tryz.ntmps20]) ?_
  (refine q_seq (q_region ?_))
  refine ql_alloc zero27 rfl (fun b2 => ?_)
  (refine q_nil (q_seq (q_region (ql_pure tabOk rfl rfl (ql_pure tabOk rfl rfl ?_)))))
  refine ql_mk #[.int .i64 a, .int .i64 b] rfl (by kernel_rfl) rfl ?_
  (refine ql_setA tabOk rfl rfl rfl rfl rfl (by repeat constructor) rfl ?_; refine q_nil (q_ret ?_))
  refine q_fin tabOk rfl (by repeat constructor) fun w hs => ?_
  exact ⟨rfl, hs.chg0⟩
def threeS : List Lp := [⟨2000, 60, 6⟩, ⟨2500, 90, 6⟩, ⟨3000, 100, 6⟩]
def threeR : Rl := ⟨3, 7000, 7500, 200, 270, 2000, 3000, 6, 2⟩
def threeQ : Rl := ⟨3, 7000, 7000, 200, 270, 2000, 3000, 6, 1⟩
def shortW (n : Int) : Wn := ⟨500, 800, [⟨300, 300, 100, 200, 10, 20⟩, ⟨200, 400, 300, 600, 10, 20⟩, ⟨min n 500, n, 0, 100, 10, 20⟩]⟩
theorem short_ca (w : World) (n : Int) : Ca Tryz.prog 28 [.int .i64 n] w fun v w' => ∃ b : Nat, v = .agg #[.int .i64 500, .int .i64 800, .slice (some ⟨b, 0, none⟩) 3 3] ∧ Sat w M0 [.pt b (dyC (shortW n).days) 38] w' := by
  refine q_of (Sat.nil w M0) Tryz.func28 rfl (by simp [Tryz.ntmps28]) ?_
  (refine q_seq (q_region ?_))
  refine ql_alloc zero34 rfl (fun b2 => ?_)
  (refine q_nil (q_seq (q_region ?_)))
  refine ql_callv tabOk rfl rfl rfl rfl (fun w hs => spanM_ca _ _ w) ?_
  refine ql_callv tabOk rfl rfl rfl rfl (fun w hs => spanM_ca _ _ w) ?_
  refine ql_callv tabOk rfl rfl rfl rfl (fun w hs => spanM_ca _ _ w) ?_
  refine ql_mk #[.int .i64 300, .int .i64 300, .int .i64 100, .int .i64 200, .int .i64 10, .int .i64 20] rfl (by kernel_rfl) rfl ?_
  refine ql_callv tabOk rfl rfl rfl rfl (fun w hs => spanM_ca _ _ w) ?_
  refine ql_callv tabOk rfl rfl rfl rfl (fun w hs => spanM_ca _ _ w) ?_
  refine ql_callv tabOk rfl rfl rfl rfl (fun w hs => spanM_ca _ _ w) ?_
  refine ql_mk #[.int .i64 200, .int .i64 400, .int .i64 300, .int .i64 600, .int .i64 10, .int .i64 20] rfl (by kernel_rfl) rfl ?_
  ((iterate 3 refine ql_pure tabOk rfl rfl ?_))
  refine ql_callv tabOk rfl rfl rfl rfl (fun w hs => spanM_ca _ _ w) ?_
  refine ql_callv tabOk rfl rfl rfl rfl (fun w hs => spanM_ca _ _ w) ?_
  refine ql_callv tabOk rfl rfl rfl rfl (fun w hs => spanM_ca _ _ w) ?_
  refine ql_mk #[.int .i64 (min n 500), .int .i64 n, .int .i64 0, .int .i64 100, .int .i64 10, .int .i64 20] rfl (by kernel_rfl) rfl ?_
  refine ql_mkS 38 (dyC (shortW n).days) rfl (by kernel_rfl) rfl (fun bn => ?_)
  refine ql_mk #[.int .i64 500, .int .i64 800, .slice (some ⟨bn, 0, none⟩) 3 3] rfl (by kernel_rfl) rfl ?_
  (refine ql_setA tabOk rfl rfl rfl rfl rfl (by repeat constructor) rfl ?_; refine q_nil (q_ret ?_))
  refine q_fin tabOk rfl (by repeat constructor) fun w hs => ?_
  exact ⟨bn, rfl, hs.sp (by repeat constructor)⟩
theorem aw_first : firstV (shortW 500) = (2, 0) := by decide +kernel
end Go.Proofs.YtpknmgafambmbaaGreat

/- Walks: awake. -/
namespace Go.Proofs.YtpknmgafambmbaaGreat
open Go Go.Eng

end Go.Proofs.YtpknmgafambmbaaGreat

/- Walks: klisterkit's deck. Only the ranges of what it deals are told. -/
namespace Go.Proofs.YtpknmgafambmbaaGreat
open Go Go.Eng

section
attribute [local irreducible] IntKind.wrap Int.tmod Int.tdiv

/-- The deck's own variable, after at most K cards. -/
def DkS (w : World) (b : Nat) (bs : Value) (K : Nat) : Prop :=
  ∃ next st, Blk w b [bs, .int .i64 next, .int .u32 st] 69 ∧ 0 ≤ next ∧ next ≤ K ∧ 0 ≤ st ∧ st < 4294967296
/-- Its bytes. -/
def DkB (w : World) (lo hi : Nat) (bs : Value) : Prop := ∃ nb cs, Rd w lo hi bs 1 nb cs ∧ (∀ c ∈ cs, ∃ x, c = .int .u8 x ∧ 0 ≤ x ∧ x < 256)
theorem DkB.keep {w w' : World} {lo hi : Nat} {bs : Value} (h : DkB w lo hi bs) (c : Chg [] w w') : DkB w' lo hi bs := by
  obtain ⟨nb, cs, h1, h2⟩ := h
  exact ⟨nb, cs, h1.keep c, h2⟩

set_option maxHeartbeats 1000000 in
theorem draw_ca (n : Int) (K : Nat) (hK : K < 4611686018427387904) (w : World) (b lo hi : Nat) (bs : Value) (hby : DkB w lo hi bs) (hlh : hi ≤ b) (hd : DkS w b bs K) :
    Ca Tryz.prog 19 [.pointer (some ⟨b, 0, none⟩), .int .i64 n] w fun v w' => ∃ r, v = .int .i64 r ∧ 0 ≤ r ∧ (r < n ∨ r = 0) ∧ Chg [b] w w' ∧ w'.heap.size = w.heap.size ∧ DkS w' b bs (K + 1) := by
  obtain ⟨nb, cs, hrd, hcs⟩ := hby
  obtain ⟨next, st, hb, hn0, hnK, hs0, hs1⟩ := hd
  have hd : DkS w b bs (K + 1) := ⟨next, st, hb, hn0, by omega, hs0, hs1⟩
  obtain ⟨a, cap, rfl, hsl⟩ := hrd.out
  refine ca_of Tryz.func19 rfl (by simp [Tryz.ntmps19]) ?_
  (refine y_seq (y_region (yl_pure tabOk rfl rfl (y_seq (y_seq (y_region ?_))))); (iterate 3 refine yl_pure tabOk rfl rfl ?_))
  refine yl_split rfl rfl (fun hc => ?_) (fun hc => ?_)
  · ((iterate 6 refine yl_guard_no rfl rfl rfl ?_); refine yl_pure tabOk rfl rfl (y_cond_true rfl (y_seq (y_region (yl_pure tabOk rfl rfl (y_ret ?_))))))
    exact y_fin1 rfl rfl ⟨0, rfl, by omega, .inr rfl, Chg.refl _ _, rfl, hd⟩
  (refine yl_guard_yes rfl (yl_pure tabOk rfl rfl (yl_guard_yes rfl (yl_pure tabOk rfl rfl (yl_guard_yes rfl (yl_pure tabOk rfl rfl (yl_guard_yes rfl ?_)))))); refine yl_loadB tabOk rfl rfl rfl (by assumption) (by rfl) ?_; refine yl_guard_yes rfl (yl_pure tabOk rfl rfl (yl_guard_yes rfl (yl_pure tabOk rfl rfl (yl_pure tabOk rfl rfl (yl_nil ?_))))))
  have hn := of_decide_eq_false hc
  refine y_if rfl (fun hc => ?_) (fun hc => ?_)
  · (refine y_seq (y_region (yl_pure tabOk rfl rfl (y_ret ?_))))
    exact y_fin1 rfl rfl ⟨0, rfl, by omega, .inr rfl, Chg.refl _ _, rfl, hd⟩
  have hnb : 0 < nb := by omega
  obtain ⟨bb, off, rfl, hcell⟩ := hsl hnb
  (refine y_skip (y_seq ?_))
  refine y_draw [] (by kernel_rfl) (by kernel_rfl) (fun w1 hc1 hs1 => ?_)
  have hb1 := hb.keep hc1
  ((iterate 3 refine yf_pure tabOk rfl rfl rfl ?_); refine yf_loadB tabOk rfl rfl rfl (by assumption) (by first | assumption | simp) (by rfl) ?_; (iterate 3 refine yf_pure tabOk rfl rfl rfl ?_); refine yf_loadB tabOk rfl rfl rfl (by assumption) (by first | assumption | simp) (by rfl) ?_; (iterate 3 refine yf_pure tabOk rfl rfl rfl ?_); refine yf_loadB tabOk rfl rfl rfl (by assumption) (by first | assumption | simp) (by rfl) ?_; refine yf_pure tabOk rfl rfl rfl ?_)
  have hlen : cs.length = nb := by have := hrd.1; omega
  have hm := tmod_pos hn0 (by omega : (0 : Int) < nb)
  refine yf_rem rfl rfl (by omega) rfl ?_
  refine yf_index tabOk rfl rfl rfl rfl rfl hm.1 hm.2 ?_
  obtain ⟨x, hx, hx0, hx1⟩ := hcs (cs[(next.tmod nb).toNat]'(by omega)) (List.getElem_mem _)
  refine yf_load1 tabOk rfl rfl rfl (fun w' hw' => ?_) (v := .int .u8 x) ?_
  · have h1 := ((hrd.keep hc1).keep hw').cell rfl (next.tmod nb).toNat (by omega)
    rw [Nat.mul_one, h1, List.getElem?_eq_getElem (by omega), hx]
  ((iterate 4 refine yf_pure tabOk rfl rfl rfl ?_); refine yf_loadB tabOk rfl rfl rfl (by assumption) (by first | assumption | simp) (by rfl) ?_; (iterate 3 refine yf_pure tabOk rfl rfl rfl ?_); refine yf_loadB tabOk rfl rfl rfl (by assumption) (by first | assumption | simp) (by rfl) ?_; refine yf_pure tabOk rfl rfl rfl ?_)
  refine yf_quo rfl rfl (by omega) rfl ?_
  ((iterate 3 refine yf_pure tabOk rfl rfl rfl ?_); refine y_seq (y_region ?_); (iterate 3 refine yl_pure tabOk rfl rfl ?_); refine yl_loadB tabOk rfl rfl rfl (by assumption) (by rfl) ?_; (iterate 3 refine yl_pure tabOk rfl rfl ?_))
  refine yl_store1 tabOk rfl rfl rfl rfl (by assumption) (by simp) (fun w2 hc2 hs2 hb2 => ?_)
  (refine y_seq (y_region ?_); (iterate 4 refine yl_pure tabOk rfl rfl ?_); refine yl_loadB tabOk rfl rfl rfl (by assumption) (by rfl) ?_; (iterate 7 refine yl_pure tabOk rfl rfl ?_))
  refine yl_rem rfl rfl (by omega) rfl ?_
  (refine yl_pure tabOk rfl rfl (yl_pure tabOk rfl rfl ?_))
  refine yl_store1 tabOk rfl rfl rfl rfl (by assumption) (by simp) (fun w3 hc3 hs3 hb3 => ?_)
  have hc03 : Chg [b] w w3 := (hc1.nil.trans hc2).trans hc3
  generalize hq : IntKind.u32.wrap (IntKind.i64.wrap (next.tdiv nb)) = q at *
  clear hq
  generalize hz : Int.tmod _ 65519 = z at *
  have hz0 : 0 ≤ z ∧ z < 65519 := by rw [← hz]; exact tmod_pos (wu32_range _).1 (by omega)
  clear hz
  have hd3 : DkS w3 b (.slice (some ⟨bb, off, none⟩) nb cap) (K + 1) := by
    refine ⟨next + 1, z, ?_, by omega, by omega, hz0.1, by omega⟩
    rw [w64 (by omega) (by omega)] at hb3
    exact hb3
  have hfin : ∀ y : Int, ∃ r, Value.int .i64 ((IntKind.i64.wrap (IntKind.u32.wrap y)).tmod n) = .int .i64 r ∧ 0 ≤ r ∧ (r < n ∨ r = 0) ∧ Chg [b] w w3 ∧ w3.heap.size = w.heap.size ∧ DkS w3 b (.slice (some ⟨bb, off, none⟩) nb cap) (K + 1) := by
    intro y
    have h1 := wu32_range y
    have h2 : IntKind.i64.wrap (IntKind.u32.wrap y) = IntKind.u32.wrap y := w64 (by omega) (by omega)
    rw [h2]
    have h3 := tmod_pos h1.1 (by omega : (0 : Int) < n)
    exact ⟨_, rfl, h3.1, .inl h3.2, hc03, by omega, hd3⟩
  (refine y_seq (y_seq (y_region ?_)); (iterate 3 refine yl_pure tabOk rfl rfl ?_))
  refine yl_split rfl rfl (fun hc => ?_) (fun hc => ?_)
  · (refine yl_guard_yes rfl (yl_pure tabOk rfl rfl (yl_guard_yes rfl (yl_pure tabOk rfl rfl (yl_pure tabOk rfl rfl (yl_nil ?_))))))
    refine y_if rfl (fun hc => ?_) (fun hc => ?_)
    · (refine y_seq (y_region ?_); (iterate 3 refine yl_pure tabOk rfl rfl ?_))
      refine yl_rem rfl rfl (by omega) rfl ?_
      (refine yl_pure tabOk rfl rfl (y_ret ?_))
      exact y_fin1 rfl rfl (hfin _)
    · (refine y_skip (y_seq (y_region ?_)); (iterate 3 refine yl_pure tabOk rfl rfl ?_); refine yl_loadB tabOk rfl rfl rfl (by assumption) (by rfl) ?_; (iterate 5 refine yl_pure tabOk rfl rfl ?_))
      refine yl_rem rfl rfl (by omega) rfl ?_
      (refine yl_pure tabOk rfl rfl (y_ret ?_))
      exact y_fin1 rfl rfl (hfin _)
  · (refine yl_guard_no rfl rfl rfl (yl_guard_no rfl rfl rfl (yl_pure tabOk rfl rfl (y_cond_false rfl (y_skip (y_seq (y_region ?_)))))); (iterate 3 refine yl_pure tabOk rfl rfl ?_); refine yl_loadB tabOk rfl rfl rfl (by assumption) (by rfl) ?_; (iterate 5 refine yl_pure tabOk rfl rfl ?_))
    refine yl_rem rfl rfl (by omega) rfl ?_
    (refine yl_pure tabOk rfl rfl (y_ret ?_))
    exact y_fin1 rfl rfl (hfin _)


end
/-- A deck, after at most K cards. -/
def dkP (bs : Value) (b K : Nat) : Ck := .gn (fun x => x = b) (fun w => DkS w b bs K) (fun w w' N h hc hN => by
  obtain ⟨next, st, h1, h2⟩ := h
  exact ⟨next, st, (hc.block b h1.lt (hN b rfl)).trans h1, h2⟩)

theorem drawP_ca (n : Int) (K : Nat) (hK : K < 4611686018427387904) (w : World) (b lo hi : Nat) (bs : Value) (hby : DkB w lo hi bs) (hlh : hi ≤ b) (hd : DkS w b bs K) :
    Ca Tryz.prog 19 [.pointer (some ⟨b, 0, none⟩), .int .i64 n] w fun v w' => ∃ x : Int, (v = .int .i64 x ∧ 0 ≤ x ∧ (x < n ∨ x = 0)) ∧ Sat w (fun x => x = b) [dkP bs b (K + 1)] w' :=
  (draw_ca n K hK w b lo hi bs hby hlh hd).mono fun v w' ⟨r, h1, h2, h3, h4, h5, h6⟩ =>
    ⟨r, ⟨h1, h2, h3⟩, ⟨h4.os, h4.tape, h4.output, h4.size, fun k hk hkb => h4.block k hk (by simpa using hkb)⟩, by simpa [dkP, Ck.p] using h6, .cons (by simp) .nil, fun c hc x hx => by
      obtain rfl : c = dkP bs b (K + 1) := by simpa using hc
      obtain rfl : x = b := hx
      obtain ⟨_, _, h7, _⟩ := h6
      exact ⟨h7.lt, .inl rfl⟩⟩



theorem dk_sat {w : World} {b K : Nat} {bs : Value} (hd : DkS w b bs K) : Sat w (fun x => x = b) [dkP bs b K] w :=
  ⟨ChgP.refl _ _, by simpa [dkP, Ck.p] using hd, .cons (by simp) .nil, fun c hc x hx => by
    obtain rfl : c = dkP bs b K := by simpa using hc
    obtain rfl : x = b := hx
    obtain ⟨_, _, h7, _⟩ := hd
    exact ⟨h7.lt, .inl rfl⟩⟩

theorem between_ca (l h : Int) (hl : -1000000 ≤ l) (hh : h ≤ 1000000) (hlh2 : l ≤ h) (K : Nat) (hK : K < 4611686018427387904) (w : World) (b lo hi : Nat) (bs : Value) (hby : DkB w lo hi bs) (hlh : hi ≤ b) (hd : DkS w b bs K) :
    Ca Tryz.prog 18 [.pointer (some ⟨b, 0, none⟩), .int .i64 l, .int .i64 h] w fun v w' => ∃ x : Int, (v = .int .i64 x ∧ l ≤ x ∧ x ≤ h) ∧ Sat w (fun x => x = b) [dkP bs b (K + 1)] w' := by
  refine q_of (dk_sat hd) Tryz.func18 rfl (by simp [Tryz.ntmps18]) ?_
  (refine q_seq (q_region (ql_pure tabOk rfl rfl (q_nil (q_seq (q_region ?_))))); (iterate 4 refine ql_pure tabOk rfl rfl ?_); refine ql_ar tabOk rfl rfl rfl rfl (by omega) (by omega) (ql_ar tabOk rfl rfl rfl rfl (by omega) (by omega) ?_))
  refine ql_call (β := Int) (ψ := fun x v => v = .int .i64 x ∧ 0 ≤ x ∧ (x < h - l + 1 ∨ x = 0)) (L' := fun _ => [dkP bs b (K + 1)]) tabOk [dkP bs b K] [] (fun x => x = b) rfl rfl rfl rfl (Sp.refl _) (fun x hx => ⟨_, .head _, hx⟩) (fun w' hs => drawP_ca (h - l + 1) K hK w' b lo hi bs (by
    obtain ⟨nb, cs, h1, h2⟩ := hby
    exact ⟨nb, cs, h1.chg (N := [b]) ⟨hs.chg.os, hs.chg.tape, hs.chg.output, hs.chg.size, fun k hk hkb => hs.chg.block k hk (by simpa using hkb)⟩ (fun k hk => .inr (by simp at hk; omega)), h2⟩) hlh (hs.all _ (.head _))) ?_
  rintro x _ ⟨rfl, hx0, hx1⟩
  (refine ql_ar tabOk rfl rfl rfl rfl (by omega) (by omega) (ql_pure tabOk rfl rfl (q_nil (q_ret ?_))))
  refine q_fin tabOk rfl (by repeat constructor) fun w hs => ?_
  exact ⟨_, ⟨rfl, by omega, by omega⟩, hs⟩



theorem of_ca (w : World) (a : Option Addr) (n c : Nat) : Ca Tryz.prog 4 [.slice a n c] w fun v w' => ∃ b : Nat, v = .pointer (some ⟨b, 0, none⟩) ∧ Sat w M0 [dkP (.slice a n c) b 0] w' := by
  refine q_of (Sat.nil w M0) Tryz.func4 rfl (by simp [Tryz.ntmps4]) ?_
  (refine q_seq (q_region (ql_pure tabOk rfl rfl (q_nil (q_seq (q_region (ql_pure tabOk rfl rfl ?_)))))))
  refine ql_mk #[.slice a n c, .int .i64 0, .int .u32 17] rfl (by kernel_rfl) rfl ?_
  skip
  refine ql_box rfl rfl (fun b1 => ?_)
  (refine ql_pure tabOk rfl rfl (q_nil (q_ret ?_)))
  refine q_fin tabOk rfl (by repeat constructor) fun w hs => ?_
  refine ⟨b1, rfl, ⟨hs.chg, fun d hd => ?_, .cons (by simp) .nil, fun d hd x hx => ?_⟩⟩
  · obtain rfl : d = dkP (.slice a n c) b1 0 := by simpa using hd
    exact ⟨0, 17, hs.all _ (.head _), by omega, by omega, by omega, by omega⟩
  · obtain rfl : d = dkP (.slice a n c) b1 0 := by simpa using hd
    obtain rfl : x = b1 := hx
    exact hs.bd _ (.head _) x rfl



theorem DkB.keepP {w w' : World} {lo hi b : Nat} {bs : Value} (h : DkB w lo hi bs) (hlh : hi ≤ b) (hc : ChgP (fun x => x = b) w w') : DkB w' lo hi bs := by
  obtain ⟨nb, cs, h1, h2⟩ := h
  exact ⟨nb, cs, h1.chg (N := [b]) ⟨hc.os, hc.tape, hc.output, hc.size, fun k hk hkb => hc.block k hk (by simpa using hkb)⟩ (fun k hk => .inr (by simp at hk; omega)), h2⟩
theorem DkS.mono {w : World} {b K K' : Nat} {bs : Value} (h : DkS w b bs K) (hk : K ≤ K') : DkS w b bs K' := by
  obtain ⟨next, st, h1, h2, h3, h4⟩ := h
  exact ⟨next, st, h1, h2, by omega, h4⟩
theorem Sat.dk {w0 w : World} {M : Nat → Prop} {R : List Ck} {b K K' : Nat} {bs : Value} (h : Sat w0 M (dkP bs b K :: R) w) (hk : K ≤ K') : Sat w0 M (dkP bs b K' :: R) w := h.turn (fun _ h => h) (fun h => DkS.mono h hk)



section
variable {K b : Nat} {bs : Value} {w0 w : World} {R : List Ck}
theorem dk_new (hs : Sat w0 M0 (dkP bs b K :: R) w) : w0.heap.size ≤ b := (hs.bd _ (.head _) b rfl).2.resolve_left (fun h => h)
end
end Go.Proofs.YtpknmgafambmbaaGreat

/- Walks: a winter is made of numbers. -/
namespace Go.Proofs.YtpknmgafambmbaaGreat
open Go Go.Eng

structure DayB (d : Dy) : Prop where
  n : 0 ≤ d.n0 ∧ d.n0 ≤ 29 ∧ d.n0 ≤ d.n1 ∧ d.n1 ≤ d.n0 + 11
  m : 0 ≤ d.m0 ∧ d.m0 ≤ 39 ∧ d.m0 ≤ d.m1 ∧ d.m1 ≤ d.m0 + 19
  l : 0 ≤ d.l0 ∧ d.l0 ≤ 5 ∧ d.l0 ≤ d.l1 ∧ d.l1 ≤ d.l0 + 3
/-- What MadeWinter makes. -/
structure WinB (days : Nat) (x : Wn) : Prop where
  store : 20 ≤ x.store ∧ x.store ≤ 200
  stock : 0 ≤ x.stock ∧ x.stock ≤ x.store
  d1 : 1 ≤ x.days.length
  d2 : x.days.length ≤ days
  days : ∀ d ∈ x.days, DayB d
theorem WinB.right {days : Nat} {x : Wn} (h : WinB days x) (hd : days ≤ 60) : x.Right := by
  have h1 := h.store
  have h2 := h.d2
  refine ⟨by omega, h.stock, h.d1, by omega, fun d hdm => ?_⟩
  have := h.days d hdm
  have a := this.n
  have b := this.m
  have c := this.l
  exact ⟨by omega, by omega, by omega⟩
theorem coin_ca (n : Int) (hn : 1 ≤ n) (K : Nat) (hK : K < 1000000) (w : World) (b lo hi : Nat) (bs : Value) (hby : DkB w lo hi bs) (hlh : hi ≤ b) (hd : DkS w b bs K) :
    Ca Tryz.prog 21 [.pointer (some ⟨b, 0, none⟩), .int .i64 n] w fun v w' => ∃ x : Bool, v = .bool x ∧ Sat w (fun x => x = b) [dkP bs b (K + 1)] w' := by
  refine q_of (dk_sat hd) Tryz.func21 rfl (by simp [Tryz.ntmps21]) ?_
  (refine q_seq (q_region (ql_pure tabOk rfl rfl (q_nil (q_seq (q_region (ql_pure tabOk rfl rfl (ql_pure tabOk rfl rfl ?_))))))))
  refine ql_call (β := Int) (ψ := fun zq v => v = .int .i64 zq ∧ 0 ≤ zq ∧ (zq < n ∨ zq = 0)) (L' := fun _ => [dkP bs b (K + 1)]) tabOk [dkP bs b (K)] _ (fun x => x = b) rfl rfl rfl rfl (Sp.cons (by repeat constructor) (Sp.refl _)) (fun x hx => ⟨_, .head _, hx⟩) (fun w' hs => drawP_ca (n) (K) (by omega) w' b lo hi bs (hby.keepP hlh hs.chg) hlh (hs.all _ (.head _))) ?_; rintro x _ ⟨rfl, hx⟩
  (refine ql_pure tabOk rfl rfl (ql_pure tabOk rfl rfl (q_nil (q_ret ?_))))
  refine q_fin tabOk rfl (by repeat constructor) fun w hs => ?_
  exact ⟨_, rfl, hs⟩

theorem dyC_snoc (l : List Dy) (d : Dy) : dyC (l ++ [d]) = dyC l ++ dyC [d] := by simp [dyC]
theorem dyC_one (l : List Dy) : ∀ c ∈ dyC l, oneV c = true := fun c hc => by obtain ⟨y, _, hy⟩ := List.mem_flatMap.1 hc; simp at hy; rcases hy with rfl | rfl | rfl | rfl | rfl | rfl <;> rfl
theorem slD : SlT Tryz.prog 32 38 6 48 (.agg #[.int .i64 0, .int .i64 0, .int .i64 0, .int .i64 0, .int .i64 0, .int .i64 0]) := ⟨by kernel_rfl, by kernel_rfl, by kernel_rfl, by decide⟩
theorem Blk.rdDy {w : World} {b : Nat} {d : Dy} {t : TypeId} (h : Blk w b (dyC [d]) t) : Rd w b (b + 1) (.slice (some ⟨b, 0, none⟩) 1 1) 6 1 (dyC [d]) :=
  ⟨rfl, .inr ⟨b, 0, 1, rfl, fun _ => ⟨Nat.le_refl _, Nat.lt_succ_self _, h.lt⟩, fun j _ => by rw [Blk.cell h]; simp⟩⟩
/-- The spans made so far. -/
structure DayI (i : Nat) (d : Dy) : Prop where
  n : 1 ≤ i → 0 ≤ d.n0 ∧ d.n0 ≤ 29 ∧ d.n0 ≤ d.n1 ∧ d.n1 ≤ d.n0 + 11
  m : 2 ≤ i → 0 ≤ d.m0 ∧ d.m0 ≤ 39 ∧ d.m0 ≤ d.m1 ∧ d.m1 ≤ d.m0 + 19
  l : 3 ≤ i → 0 ≤ d.l0 ∧ d.l0 ≤ 5 ∧ d.l0 ≤ d.l1 ∧ d.l1 ≤ d.l0 + 3

set_option maxHeartbeats 4000000 in
theorem madeW_ca (days : Nat) (h1 : 1 ≤ days) (h2 : days ≤ 60) (K : Nat) (hK : K < 100000) (w : World) (b lo hi : Nat) (bs : Value) (hby : DkB w lo hi bs) (hlh : hi ≤ b) (hd : DkS w b bs K) :
    Ca Tryz.prog 6 [.pointer (some ⟨b, 0, none⟩), .int .i64 days] w fun v w' => ∃ y : Nat × Nat × Wn, (v = .agg (wnC y.2.2 (some ⟨y.1, 0, none⟩) y.2.1).toArray ∧ WinB days y.2.2) ∧ Sat w (fun x => x = b) [.ow (.slice (some ⟨y.1, 0, none⟩) y.2.2.days.length y.2.1) 38 6 y.2.2.days.length (dyC y.2.2.days), dkP bs b (K + 1000)] w' := by
  refine q_of (dk_sat hd) Tryz.func6 rfl (by simp [Tryz.ntmps6]) ?_
  (refine q_seq (q_region ?_))
  refine ql_alloc zero34 rfl (fun b4 => ?_)
  (refine q_nil (q_seq (q_region (ql_pure tabOk rfl rfl ?_))))
  refine ql_call (β := Int) (ψ := fun zq v => v = .int .i64 zq ∧ 20 ≤ zq ∧ zq ≤ 200) (L' := fun _ => [dkP bs b (K + 1)]) tabOk [dkP bs b (K)] _ (fun x => x = b) rfl rfl rfl rfl (Sp.cons (by repeat constructor) (Sp.refl _)) (fun x hx => ⟨_, .head _, hx⟩) (fun w' hs => between_ca (20) (200) (by omega) (by omega) (by omega) (K) (by omega) w' b lo hi bs (hby.keepP hlh hs.chg) hlh (hs.all _ (.head _))) ?_; rintro sto _ ⟨rfl, hsto⟩
  refine ql_mk #[.int .i64 0, .int .i64 sto, .slice none 0 0] rfl (by kernel_rfl) rfl ?_
  refine ql_alloc zero34 rfl (fun b5 => ?_)
  (refine ql_setA tabOk rfl rfl rfl rfl rfl (by repeat constructor) rfl ?_; refine q_nil (q_seq (q_region (ql_pure tabOk rfl rfl (ql_pure tabOk rfl rfl ?_)))); refine ql_loadBa tabOk rfl rfl rfl ?_; refine ql_ar tabOk rfl rfl rfl rfl (by omega) (by omega) ?_)
  refine ql_call (β := Int) (ψ := fun zq v => v = .int .i64 zq ∧ 0 ≤ zq ∧ (zq < sto + 1 ∨ zq = 0)) (L' := fun _ => [dkP bs b (K + 1 + 1)]) tabOk [dkP bs b (K + 1)] _ (fun x => x = b) rfl rfl rfl rfl (Sp.cons (by repeat constructor) (Sp.refl _)) (fun x hx => ⟨_, .head _, hx⟩) (fun w' hs => drawP_ca (sto + 1) (K + 1) (by omega) w' b lo hi bs (hby.keepP hlh hs.chg) hlh (hs.all _ (.head _))) ?_; rintro stk _ ⟨rfl, hstk⟩
  (refine ql_pure tabOk rfl rfl ?_; refine ql_st0 tabOk rfl rfl rfl rfl (by repeat constructor) ?_; refine q_nil (q_seq (q_seq (q_region (ql_pure tabOk rfl rfl (ql_pure tabOk rfl rfl ?_))))))
  refine ql_call (β := Int) (ψ := fun zq v => v = .int .i64 zq ∧ 1 ≤ zq ∧ zq ≤ days) (L' := fun _ => [dkP bs b (K + 2 + 1)]) tabOk [dkP bs b (K + 2)] _ (fun x => x = b) rfl rfl rfl rfl (Sp.cons (by repeat constructor) (Sp.refl _)) (fun x hx => ⟨_, .head _, hx⟩) (fun w' hs => between_ca (1) (days) (by omega) (by omega) (by omega) (K + 2) (by omega) w' b lo hi bs (hby.keepP hlh hs.chg) hlh (hs.all _ (.head _))) ?_; rintro cnt _ ⟨rfl, hcnt⟩
  (refine ql_pure tabOk rfl rfl (q_nil (q_block ?_)))
  obtain ⟨cn, rfl⟩ := Int.eq_ofNat_of_zero_le (show 0 ≤ cnt by omega)
  have hcn : 1 ≤ cn ∧ cn ≤ days := by omega
  clear hcnt
  refine q_conv (H' := [.pt b5 [.int .i64 stk, .int .i64 sto, .slice none 0 0] 34, .ow (.slice none 0 0) 38 6 0 (dyC []), dkP bs b (K + 3 + 8 * 0), .pt b4 [.int .i64 0, .int .i64 0, .slice none 0 0] 34])
    (fun w' hs => (Sat.ownil hs 38 6).sp (by repeat constructor)) ?_
  refine q_loop (σ := Value × List Dy) (fun s => s.2.length ≤ cn ∧ ∀ d ∈ s.2, DayB d) (fun s => cn - s.2.length) (fun s => [(0, .pointer (some ⟨b, 0, none⟩)), (4, .pointer (some ⟨b4, 0, none⟩)), (5, .pointer (some ⟨b5, 0, none⟩)), (21, .int .i64 cn), (22, .int .i64 s.2.length)])
    (fun s => [.pt b5 [.int .i64 stk, .int .i64 sto, s.1] 34, .ow s.1 38 6 s.2.length (dyC s.2), dkP bs b (K + 3 + 8 * s.2.length), .pt b4 [.int .i64 0, .int .i64 0, .slice none 0 0] 34]) (.slice none 0 0, []) (by simp) ⟨rfl, rfl, rfl, rfl, rfl, trivial⟩ (by repeat constructor) ?_
  rintro ⟨v, l⟩ ⟨hl, hB⟩ K1 hK1
  simp only at hl hB
  dsimp only
  (refine q_seq (q_region (ql_pure tabOk rfl rfl (q_nil (q_seq ?_)))))
  refine q_if rfl (fun hc => ?_) (fun hc => ?_)
  · have hl2 : l.length < cn := by omega
    clear hc
    obtain ⟨k, hk⟩ : ∃ k, k = l.length := ⟨_, rfl⟩
    rw [← hk]
    (refine q_skip (q_seq (q_block (q_seq (q_region ?_)))))
    refine ql_alloc zero38 rfl (fun b6 => ?_)
    (refine q_nil (q_seq (q_seq (q_region ?_))); (iterate 3 refine ql_pure tabOk rfl rfl ?_))
    refine ql_mkS 36 [.pointer (some ⟨b6, 0, none⟩), .pointer (some ⟨b6, 2, none⟩), .pointer (some ⟨b6, 4, none⟩)] rfl (by kernel_rfl) rfl (fun bp => ?_)
    (refine ql_pure tabOk rfl rfl (ql_pure tabOk rfl rfl (q_nil ?_)))
    refine q_cut (σ := {d : Dy // DayB d}) (fun d => [(0, .pointer (some ⟨b, 0, none⟩)), (4, .pointer (some ⟨b4, 0, none⟩)), (5, .pointer (some ⟨b5, 0, none⟩)), (6, .pointer (some ⟨b6, 0, none⟩)), (21, .int .i64 cn), (22, .int .i64 k)])
      (fun d => [.pt b6 (dyC [d.1]) 38, dkP bs b (K + 3 + 8 * k + 6), .pt b5 [.int .i64 stk, .int .i64 sto, v] 34, .ow v 38 6 k (dyC l), .pt b4 [.int .i64 0, .int .i64 0, .slice none 0 0] 34]) ?_ (fun KK hKK => ?_)
    rotate_left
    · skip
      (refine q_block ?_)
      refine q_loop (σ := Nat × Dy) (fun s => s.1 ≤ 3 ∧ DayI s.1 s.2) (fun s => 3 - s.1) (fun s => [(0, .pointer (some ⟨b, 0, none⟩)), (4, .pointer (some ⟨b4, 0, none⟩)), (5, .pointer (some ⟨b5, 0, none⟩)), (6, .pointer (some ⟨b6, 0, none⟩)), (21, .int .i64 cn), (22, .int .i64 k), (27, .slice (some ⟨bp, 0, none⟩) 3 3), (28, .int .i64 3), (29, .int .i64 s.1)])
        (fun s => [.pt bp [.pointer (some ⟨b6, 0, none⟩), .pointer (some ⟨b6, 2, none⟩), .pointer (some ⟨b6, 4, none⟩)] 36, .pt b6 (dyC [s.2]) 38, dkP bs b (K + 3 + 8 * k + 2 * s.1), .pt b5 [.int .i64 stk, .int .i64 sto, v] 34, .ow v 38 6 k (dyC l), .pt b4 [.int .i64 0, .int .i64 0, .slice none 0 0] 34]) (0, ⟨0, 0, 0, 0, 0, 0⟩) ⟨by decide, ⟨by omega, by omega, by omega⟩⟩ ⟨rfl, rfl, rfl, rfl, rfl, rfl, rfl, rfl, rfl, trivial⟩ (by repeat constructor) ?_
      rintro ⟨i, d⟩ ⟨hi3, hdI⟩ K2 hK2
      simp only at hi3 hdI
      dsimp only
      obtain rfl | rfl | rfl | rfl : i = 0 ∨ i = 1 ∨ i = 2 ∨ i = 3 := by omega
      · skip
        (refine q_seq (q_region (ql_lssT tabOk rfl rfl rfl (by omega) (q_nil (q_seq (q_cond_true rfl (q_skip (q_seq (q_block (q_seq (q_region (ql_pure tabOk rfl rfl ?_))))))))))))
        refine ql_index tabOk rfl rfl rfl rfl rfl (by decide) (by decide) ?_
        (refine ql_loadBa tabOk rfl rfl rfl ?_; refine ql_pure tabOk rfl rfl (ql_pure tabOk rfl rfl (q_nil (q_seq (q_region (ql_pure tabOk rfl rfl ?_))))))
        refine ql_mkS 3 [.int .i64 30, .int .i64 40, .int .i64 6] rfl (by kernel_rfl) rfl (fun c1 => ?_)
        (refine ql_pure tabOk rfl rfl ?_)
        refine ql_index tabOk rfl rfl rfl rfl rfl (by decide) (by decide) ?_
        (refine ql_loadBa tabOk rfl rfl rfl ?_)
        refine ql_call (β := Int) (ψ := fun zq v => v = .int .i64 zq ∧ 0 ≤ zq ∧ (zq < 30 ∨ zq = 0)) (L' := fun _ => [dkP bs b (K + 3 + 8 * k + 2 * 0 + 1)]) tabOk [dkP bs b (K + 3 + 8 * k + 2 * 0)] _ (fun x => x = b) rfl rfl rfl rfl (Sp.cons (by repeat constructor) (Sp.refl _)) (fun x hx => ⟨_, .head _, hx⟩) (fun w' hs => drawP_ca (30) (K + 3 + 8 * k + 2 * 0) (by omega) w' b lo hi bs (hby.keepP hlh hs.chg) hlh (hs.all _ (.head _))) ?_; rintro x _ ⟨rfl, hx⟩
        (refine ql_pure tabOk rfl rfl (q_nil (q_region ?_)); (iterate 4 refine ql_pure tabOk rfl rfl ?_))
        refine ql_mkS 3 [.int .i64 12, .int .i64 20, .int .i64 4] rfl (by kernel_rfl) rfl (fun c2 => ?_)
        (refine ql_pure tabOk rfl rfl ?_)
        refine ql_index tabOk rfl rfl rfl rfl rfl (by decide) (by decide) ?_
        (refine ql_loadBa tabOk rfl rfl rfl ?_)
        refine ql_call (β := Int) (ψ := fun zq v => v = .int .i64 zq ∧ 0 ≤ zq ∧ (zq < 12 ∨ zq = 0)) (L' := fun _ => [dkP bs b (K + 3 + 8 * k + 2 * 0 + 1 + 1)]) tabOk [dkP bs b (K + 3 + 8 * k + 2 * 0 + 1)] _ (fun x => x = b) rfl rfl rfl rfl (Sp.cons (by repeat constructor) (Sp.refl _)) (fun x hx => ⟨_, .head _, hx⟩) (fun w' hs => drawP_ca (12) (K + 3 + 8 * k + 2 * 0 + 1) (by omega) w' b lo hi bs (hby.keepP hlh hs.chg) hlh (hs.all _ (.head _))) ?_; rintro y _ ⟨rfl, hy⟩
        (refine ql_ar tabOk rfl rfl rfl rfl (by omega) (by omega) ?_)
        refine ql_callv tabOk rfl rfl rfl rfl (fun w hs => spanM_ca _ _ w) ?_
        (refine ql_pure tabOk rfl rfl ?_)
        refine ql_stA [.int .i64 x, .int .i64 (x + y), .int .i64 d.m0, .int .i64 d.m1, .int .i64 d.l0, .int .i64 d.l1] tabOk rfl rfl rfl rfl rfl (by repeat constructor) rfl rfl ?_
        (refine q_nil (q_blk (q_region (ql_ar tabOk rfl rfl rfl rfl (by omega) (by omega) (ql_pure tabOk rfl rfl (q_nil ?_))))))
        exact hK2 (1, ⟨x, (x + y), d.m0, d.m1, d.l0, d.l1⟩) _ _ ⟨by dsimp only; omega, fun h => ⟨by dsimp only; omega, by dsimp only; omega, by dsimp only; omega, by dsimp only; omega⟩, fun h => by dsimp only at h; omega, fun h => by dsimp only at h; omega⟩ (by dsimp only; omega) ⟨rfl, rfl, rfl, rfl, rfl, rfl, rfl, rfl, rfl, trivial⟩ (by repeat constructor)
      · skip
        (refine q_seq (q_region (ql_lssT tabOk rfl rfl rfl (by omega) (q_nil (q_seq (q_cond_true rfl (q_skip (q_seq (q_block (q_seq (q_region (ql_pure tabOk rfl rfl ?_))))))))))))
        refine ql_index tabOk rfl rfl rfl rfl rfl (by decide) (by decide) ?_
        (refine ql_loadBa tabOk rfl rfl rfl ?_; refine ql_pure tabOk rfl rfl (ql_pure tabOk rfl rfl (q_nil (q_seq (q_region (ql_pure tabOk rfl rfl ?_))))))
        refine ql_mkS 3 [.int .i64 30, .int .i64 40, .int .i64 6] rfl (by kernel_rfl) rfl (fun c1 => ?_)
        (refine ql_pure tabOk rfl rfl ?_)
        refine ql_index tabOk rfl rfl rfl rfl rfl (by decide) (by decide) ?_
        (refine ql_loadBa tabOk rfl rfl rfl ?_)
        refine ql_call (β := Int) (ψ := fun zq v => v = .int .i64 zq ∧ 0 ≤ zq ∧ (zq < 40 ∨ zq = 0)) (L' := fun _ => [dkP bs b (K + 3 + 8 * k + 2 * 1 + 1)]) tabOk [dkP bs b (K + 3 + 8 * k + 2 * 1)] _ (fun x => x = b) rfl rfl rfl rfl (Sp.cons (by repeat constructor) (Sp.refl _)) (fun x hx => ⟨_, .head _, hx⟩) (fun w' hs => drawP_ca (40) (K + 3 + 8 * k + 2 * 1) (by omega) w' b lo hi bs (hby.keepP hlh hs.chg) hlh (hs.all _ (.head _))) ?_; rintro x _ ⟨rfl, hx⟩
        (refine ql_pure tabOk rfl rfl (q_nil (q_region ?_)); (iterate 4 refine ql_pure tabOk rfl rfl ?_))
        refine ql_mkS 3 [.int .i64 12, .int .i64 20, .int .i64 4] rfl (by kernel_rfl) rfl (fun c2 => ?_)
        (refine ql_pure tabOk rfl rfl ?_)
        refine ql_index tabOk rfl rfl rfl rfl rfl (by decide) (by decide) ?_
        (refine ql_loadBa tabOk rfl rfl rfl ?_)
        refine ql_call (β := Int) (ψ := fun zq v => v = .int .i64 zq ∧ 0 ≤ zq ∧ (zq < 20 ∨ zq = 0)) (L' := fun _ => [dkP bs b (K + 3 + 8 * k + 2 * 1 + 1 + 1)]) tabOk [dkP bs b (K + 3 + 8 * k + 2 * 1 + 1)] _ (fun x => x = b) rfl rfl rfl rfl (Sp.cons (by repeat constructor) (Sp.refl _)) (fun x hx => ⟨_, .head _, hx⟩) (fun w' hs => drawP_ca (20) (K + 3 + 8 * k + 2 * 1 + 1) (by omega) w' b lo hi bs (hby.keepP hlh hs.chg) hlh (hs.all _ (.head _))) ?_; rintro y _ ⟨rfl, hy⟩
        (refine ql_ar tabOk rfl rfl rfl rfl (by omega) (by omega) ?_)
        refine ql_callv tabOk rfl rfl rfl rfl (fun w hs => spanM_ca _ _ w) ?_
        (refine ql_pure tabOk rfl rfl ?_)
        refine ql_stA [.int .i64 d.n0, .int .i64 d.n1, .int .i64 x, .int .i64 (x + y), .int .i64 d.l0, .int .i64 d.l1] tabOk rfl rfl rfl rfl rfl (by repeat constructor) rfl rfl ?_
        (refine q_nil (q_blk (q_region (ql_ar tabOk rfl rfl rfl rfl (by omega) (by omega) (ql_pure tabOk rfl rfl (q_nil ?_))))))
        exact hK2 (2, ⟨d.n0, d.n1, x, (x + y), d.l0, d.l1⟩) _ _ ⟨by dsimp only; omega, fun h => hdI.n (by omega), fun h => ⟨by dsimp only; omega, by dsimp only; omega, by dsimp only; omega, by dsimp only; omega⟩, fun h => by dsimp only at h; omega⟩ (by dsimp only; omega) ⟨rfl, rfl, rfl, rfl, rfl, rfl, rfl, rfl, rfl, trivial⟩ (by repeat constructor)
      · skip
        (refine q_seq (q_region (ql_lssT tabOk rfl rfl rfl (by omega) (q_nil (q_seq (q_cond_true rfl (q_skip (q_seq (q_block (q_seq (q_region (ql_pure tabOk rfl rfl ?_))))))))))))
        refine ql_index tabOk rfl rfl rfl rfl rfl (by decide) (by decide) ?_
        (refine ql_loadBa tabOk rfl rfl rfl ?_; refine ql_pure tabOk rfl rfl (ql_pure tabOk rfl rfl (q_nil (q_seq (q_region (ql_pure tabOk rfl rfl ?_))))))
        refine ql_mkS 3 [.int .i64 30, .int .i64 40, .int .i64 6] rfl (by kernel_rfl) rfl (fun c1 => ?_)
        (refine ql_pure tabOk rfl rfl ?_)
        refine ql_index tabOk rfl rfl rfl rfl rfl (by decide) (by decide) ?_
        (refine ql_loadBa tabOk rfl rfl rfl ?_)
        refine ql_call (β := Int) (ψ := fun zq v => v = .int .i64 zq ∧ 0 ≤ zq ∧ (zq < 6 ∨ zq = 0)) (L' := fun _ => [dkP bs b (K + 3 + 8 * k + 2 * 2 + 1)]) tabOk [dkP bs b (K + 3 + 8 * k + 2 * 2)] _ (fun x => x = b) rfl rfl rfl rfl (Sp.cons (by repeat constructor) (Sp.refl _)) (fun x hx => ⟨_, .head _, hx⟩) (fun w' hs => drawP_ca (6) (K + 3 + 8 * k + 2 * 2) (by omega) w' b lo hi bs (hby.keepP hlh hs.chg) hlh (hs.all _ (.head _))) ?_; rintro x _ ⟨rfl, hx⟩
        (refine ql_pure tabOk rfl rfl (q_nil (q_region ?_)); (iterate 4 refine ql_pure tabOk rfl rfl ?_))
        refine ql_mkS 3 [.int .i64 12, .int .i64 20, .int .i64 4] rfl (by kernel_rfl) rfl (fun c2 => ?_)
        (refine ql_pure tabOk rfl rfl ?_)
        refine ql_index tabOk rfl rfl rfl rfl rfl (by decide) (by decide) ?_
        (refine ql_loadBa tabOk rfl rfl rfl ?_)
        refine ql_call (β := Int) (ψ := fun zq v => v = .int .i64 zq ∧ 0 ≤ zq ∧ (zq < 4 ∨ zq = 0)) (L' := fun _ => [dkP bs b (K + 3 + 8 * k + 2 * 2 + 1 + 1)]) tabOk [dkP bs b (K + 3 + 8 * k + 2 * 2 + 1)] _ (fun x => x = b) rfl rfl rfl rfl (Sp.cons (by repeat constructor) (Sp.refl _)) (fun x hx => ⟨_, .head _, hx⟩) (fun w' hs => drawP_ca (4) (K + 3 + 8 * k + 2 * 2 + 1) (by omega) w' b lo hi bs (hby.keepP hlh hs.chg) hlh (hs.all _ (.head _))) ?_; rintro y _ ⟨rfl, hy⟩
        (refine ql_ar tabOk rfl rfl rfl rfl (by omega) (by omega) ?_)
        refine ql_callv tabOk rfl rfl rfl rfl (fun w hs => spanM_ca _ _ w) ?_
        (refine ql_pure tabOk rfl rfl ?_)
        refine ql_stA [.int .i64 d.n0, .int .i64 d.n1, .int .i64 d.m0, .int .i64 d.m1, .int .i64 x, .int .i64 (x + y)] tabOk rfl rfl rfl rfl rfl (by repeat constructor) rfl rfl ?_
        (refine q_nil (q_blk (q_region (ql_ar tabOk rfl rfl rfl rfl (by omega) (by omega) (ql_pure tabOk rfl rfl (q_nil ?_))))))
        exact hK2 (3, ⟨d.n0, d.n1, d.m0, d.m1, x, (x + y)⟩) _ _ ⟨by dsimp only; omega, fun h => hdI.n (by omega), fun h => hdI.m (by omega), fun h => ⟨by dsimp only; omega, by dsimp only; omega, by dsimp only; omega, by dsimp only; omega⟩⟩ (by dsimp only; omega) ⟨rfl, rfl, rfl, rfl, rfl, rfl, rfl, rfl, rfl, trivial⟩ (by repeat constructor)
      · (refine q_seq (q_region (ql_lssF tabOk rfl rfl rfl (by omega) (q_nil (q_seq (q_cond_false rfl (q_exit _ rfl ?_)))))))
        exact hKK ⟨d, hdI.n (by omega), hdI.m (by omega), hdI.l (by omega)⟩ _ _ ⟨rfl, rfl, rfl, rfl, rfl, rfl, trivial⟩ (by repeat constructor)
    rintro ⟨d, hdB⟩
    dsimp only
    (refine q_seq (q_seq (q_region (ql_pure tabOk rfl rfl ?_))))
    refine ql_call (β := Bool) (L' := fun _ => [dkP bs b (K + 3 + 8 * k + 6 + 1)]) tabOk [dkP bs b (K + 3 + 8 * k + 6)] _ (fun x => x = b) rfl rfl rfl rfl (Sp.cons (by repeat constructor) (Sp.refl _)) (fun x hx => ⟨_, .head _, hx⟩) (fun w' hs => coin_ca 4 (by omega) (K + 3 + 8 * k + 6) (by omega) w' b lo hi bs (hby.keepP hlh hs.chg) hlh (hs.all _ (.head _))) ?_
    rintro co _ rfl
    dsimp only [List.cons_append, List.nil_append]
    (refine q_nil ?_)
    refine q_cut (σ := {d : Dy // DayB d}) (fun d => [(0, .pointer (some ⟨b, 0, none⟩)), (4, .pointer (some ⟨b4, 0, none⟩)), (5, .pointer (some ⟨b5, 0, none⟩)), (6, .pointer (some ⟨b6, 0, none⟩)), (21, .int .i64 cn), (22, .int .i64 k)])
      (fun d => [.pt b6 (dyC [d.1]) 38, dkP bs b (K + 3 + 8 * k + 8), .pt b5 [.int .i64 stk, .int .i64 sto, v] 34, .ow v 38 6 k (dyC l), .pt b4 [.int .i64 0, .int .i64 0, .slice none 0 0] 34]) ?_ (fun KK hKK => ?_)
    rotate_left
    · cases co
      · (refine q_cond_false rfl (q_skip ?_))
        refine q_conv (H' := [dkP bs b (K + 3 + 8 * k + 8), .pt b6 (dyC [d]) 38, .pt b5 [.int .i64 stk, .int .i64 sto, v] 34, .ow v 38 6 k (dyC l), .pt b4 [.int .i64 0, .int .i64 0, .slice none 0 0] 34]) (fun w' hs => Sat.dk (K := K + 3 + 8 * k + 6 + 1) (hs.sp (by repeat constructor)) (by omega)) ?_
        exact hKK ⟨d, hdB⟩ _ _ ⟨rfl, rfl, rfl, rfl, rfl, rfl, trivial⟩ (by repeat constructor)
      · (refine q_cond_true rfl (q_region (ql_pure tabOk rfl rfl ?_)))
        refine ql_call (β := Int) (ψ := fun zq v => v = .int .i64 zq ∧ 0 ≤ zq ∧ (zq < 3 ∨ zq = 0)) (L' := fun _ => [dkP bs b (K + 3 + 8 * k + 6 + 1 + 1)]) tabOk [dkP bs b (K + 3 + 8 * k + 6 + 1)] _ (fun x => x = b) rfl rfl rfl rfl (Sp.cons (by repeat constructor) (Sp.refl _)) (fun x hx => ⟨_, .head _, hx⟩) (fun w' hs => drawP_ca (3) (K + 3 + 8 * k + 6 + 1) (by omega) w' b lo hi bs (hby.keepP hlh hs.chg) hlh (hs.all _ (.head _))) ?_; rintro x _ ⟨rfl, hx⟩
        refine ql_callv tabOk rfl rfl rfl rfl (fun w hs => spanM_ca _ _ w) ?_
        (refine ql_pure tabOk rfl rfl ?_)
        refine ql_stA [.int .i64 d.n0, .int .i64 d.n1, .int .i64 0, .int .i64 x, .int .i64 d.l0, .int .i64 d.l1] tabOk rfl rfl rfl rfl rfl (by repeat constructor) rfl rfl ?_
        (refine q_nil ?_)
        exact hKK ⟨⟨d.n0, d.n1, 0, x, d.l0, d.l1⟩, hdB.n, by dsimp only; omega, hdB.l⟩ _ _ ⟨rfl, rfl, rfl, rfl, rfl, rfl, trivial⟩ (by repeat constructor)
    clear hdB
    rintro ⟨d, hdB⟩
    dsimp only
    (refine q_region (ql_pure tabOk rfl rfl ?_); refine ql_loadBa tabOk rfl rfl rfl ?_; refine ql_loadABa tabOk rfl rfl rfl ?_)
    refine ql_mkS 38 (dyC [d]) rfl (by kernel_rfl) rfl (fun bn => ?_)
    refine ql_append (q := 1) slD rfl rfl rfl (fun v' => by repeat constructor) (fun w' hs => ⟨_, _, Blk.rdDy (hs.blk (b := bn) (by repeat constructor))⟩) (dyC_one _) (by omega) (by omega) (fun u => ?_)
    refine ql_fact (fun w hs => hs.slice (v := u) (by repeat constructor)) ?_
    rintro ⟨a1, g1, d1, rfl⟩
    (refine ql_pure tabOk rfl rfl ?_; refine ql_st2 tabOk rfl rfl rfl rfl (by repeat constructor) ?_; refine q_nil (q_blk (q_region (ql_ar tabOk rfl rfl rfl rfl (by omega) (by omega) (ql_pure tabOk rfl rfl (q_nil ?_))))))
    refine hK1 (.slice a1 g1 d1, l ++ [d]) _ _ ⟨by simp; omega, ?_⟩ (by simp; omega) ⟨rfl, rfl, rfl, rfl, lookI rfl (by simp; omega), trivial⟩ (by dsimp only; rw [dyC_snoc, List.length_append, List.length_singleton, ← hk]; repeat constructor)
    intro z hz
    rcases List.mem_append.1 hz with hz | hz
    · exact hB z hz
    · obtain rfl : z = d := by simpa using hz
      exact hdB
  · have hk : l.length = cn := by omega
    refine q_fact (fun w hs => hs.ownSome (v := v) (by repeat constructor) (by omega)) ?_
    rintro ⟨g, c, rfl⟩
    (refine q_exit _ rfl (q_seq (q_region ?_)); refine ql_loadABa tabOk rfl rfl rfl ?_; refine ql_setA tabOk rfl rfl rfl rfl rfl (by repeat constructor) rfl ?_; refine q_nil (q_ret ?_))
    refine q_fin tabOk rfl (by repeat constructor) fun w hs => ?_
    refine ⟨(g, c, ⟨stk, sto, l⟩), ⟨rfl, by dsimp only; omega, by dsimp only; omega, by dsimp only; omega, by dsimp only; omega, hB⟩, ?_⟩
    exact (Sat.dk (K := K + 3 + 8 * l.length) (K' := K + 1000) (R := [.ow (.slice (some ⟨g, 0, none⟩) l.length c) 38 6 l.length (dyC l)]) (hs.sp (by repeat constructor)) (by omega)).sp (by repeat constructor)
end Go.Proofs.YtpknmgafambmbaaGreat

/- Walks: a weather is drawn. -/
namespace Go.Proofs.YtpknmgafambmbaaGreat
open Go Go.Eng

theorem getD_snoc (l : List Int) (x : Int) (i : Nat) : (l ++ [x]).getD i 0 = if i < l.length then l.getD i 0 else if i = l.length then x else 0 := by
  simp only [List.getD_eq_getElem?_getD, List.getElem?_append]
  by_cases h : i < l.length
  · simp [h]
  · rw [if_neg h, if_neg h]
    by_cases h2 : i = l.length
    · subst h2; simp
    · rw [if_neg h2, List.getElem?_eq_none (by simp; omega)]
      rfl
/-- A weather of the first days. -/
structure WtP (days : List Dy) (k : Nat) (t : Wt) : Prop where
  ln : t.need.length = k
  lm : t.make.length = k
  ll : t.loss.length = k
  n : ∀ i, i < k → ∀ (h : i < days.length), days[i].n0 ≤ t.need.getD i 0 ∧ t.need.getD i 0 ≤ days[i].n1
  m : ∀ i, i < k → ∀ (h : i < days.length), days[i].m0 ≤ t.make.getD i 0 ∧ t.make.getD i 0 ≤ days[i].m1
  l : ∀ i, i < k → ∀ (h : i < days.length), days[i].l0 ≤ t.loss.getD i 0 ∧ t.loss.getD i 0 ≤ days[i].l1
theorem WtP.step {days : List Dy} {k : Nat} {t : Wt} (h : WtP days k t) (hk : k < days.length) {x y z : Int} (hx : days[k].n0 ≤ x ∧ x ≤ days[k].n1) (hy : days[k].m0 ≤ y ∧ y ≤ days[k].m1) (hz : days[k].l0 ≤ z ∧ z ≤ days[k].l1) : WtP days (k + 1) ⟨t.need ++ [x], t.make ++ [y], t.loss ++ [z]⟩ := by
  refine ⟨by simp [h.ln], by simp [h.lm], by simp [h.ll], fun i hi hd => ?_, fun i hi hd => ?_, fun i hi hd => ?_⟩
  · rw [getD_snoc, h.ln]
    split
    · exact h.n i (by assumption) hd
    · obtain rfl : i = k := by omega
      simpa using hx
  · rw [getD_snoc, h.lm]
    split
    · exact h.m i (by assumption) hd
    · obtain rfl : i = k := by omega
      simpa using hy
  · rw [getD_snoc, h.ll]
    split
    · exact h.l i (by assumption) hd
    · obtain rfl : i = k := by omega
      simpa using hz
theorem WtP.in {x : Wn} {t : Wt} (h : WtP x.days x.days.length t) : t.In x := ⟨h.ln, h.lm, h.ll, fun i hi => h.n i hi hi, fun i hi => h.m i hi hi, fun i hi => h.l i hi hi⟩
/-- The deck, and the days. -/
abbrev drL (bs : Value) (b K g c : Nat) (l : List Dy) : List Ck := [dkP bs b K, .ow (.slice (some ⟨g, 0, none⟩) l.length c) 38 6 l.length (dyC l)]

end Go.Proofs.YtpknmgafambmbaaGreat

/- What the laws of winters share. -/
namespace Go.Proofs.YtpknmgafambmbaaGreat
open Go Go.Eng

section
variable {K b g c : Nat} {bs : Value} {w0 w : World} {R : List Ck}
theorem madeW0 {days : Nat} (hby : DkB w0 0 w0.heap.size bs) (hs : Sat w0 M0 (dkP bs b K :: R) w) (h1 : 1 ≤ days) (h2 : days ≤ 60) (hK : K < 100000) :
    Ca Tryz.prog 6 [.pointer (some ⟨b, 0, none⟩), .int .i64 days] w fun v w' => ∃ y : Nat × Nat × Wn, (v = .agg (wnC y.2.2 (some ⟨y.1, 0, none⟩) y.2.1).toArray ∧ WinB days y.2.2) ∧ Sat w (fun x => x = b) [.ow (.slice (some ⟨y.1, 0, none⟩) y.2.2.days.length y.2.1) 38 6 y.2.2.days.length (dyC y.2.2.days), dkP bs b (K + 1000)] w' :=
  madeW_ca days h1 h2 K hK w b 0 w0.heap.size bs (hby.keep hs.chg0) (dk_new hs) (hs.all _ (.head _))
end
theorem bool_b : boolB Tryz.prog 4 = true := by kernel_rfl
theorem first_cases {x : Wn} (hx : x.Right) : (firstV x = (0, 6) ∧ whyV x = ((0, 0), 6) ∧ (hapV x (worstW x)).fails = -1) ∨ ∃ f : Nat, f < x.days.length ∧ (hapV x (worstW x)).fails = f ∧ firstV x = ((f : Int), 0) ∧ whyV x = (((hapV x (worstW x)).full, (f : Int)), 0) := by
  have h0 := checkW_iff.2 hx
  rcases hap_fails_bd x (worstW x) hx.stock (worst_fine hx).need0 x.days.length with h | ⟨f, hf, h⟩
  · left
    have h : (hapV x (worstW x)).fails = -1 := h
    refine ⟨?_, ?_, h⟩
    · unfold firstV; rw [if_neg (by omega), if_pos h]
    · unfold whyV; rw [if_neg (by omega), if_pos h]
  · right
    have h' : (hapV x (worstW x)).fails = f := h
    refine ⟨f, hf, h, ?_, ?_⟩
    · unfold firstV; rw [if_neg (by omega), if_neg (by omega), h']
    · unfold whyV; rw [if_neg (by omega), if_neg (by omega), h']
end Go.Proofs.YtpknmgafambmbaaGreat

/- Walks of the reference: the error of a winter. -/
namespace Go.Proofs.YtpknmgafambmbaaGreat
open Go Go.Eng

section
variable {w : World} {lo hi b off len cap : Nat} {l : List Dy}
theorem RdD.need (h : RdD w lo hi (.slice (some ⟨b, off, none⟩) len cap) l) (i : Nat) (hi : i < l.length) (j : Nat) (hj : j < 2) : w.cell? ⟨b, off + i * 6 + 0 + j, none⟩ = [Value.int .i64 l[i].n0, Value.int .i64 l[i].n1][j]? := by
  have := RdD.at h i hi (0 + j) (by omega)
  rw [← Nat.add_assoc] at this
  rw [this]
  match j, hj with
  | 0, _ => rfl
  | 1, _ => rfl
theorem RdD.make (h : RdD w lo hi (.slice (some ⟨b, off, none⟩) len cap) l) (i : Nat) (hi : i < l.length) (j : Nat) (hj : j < 2) : w.cell? ⟨b, off + i * 6 + 2 + j, none⟩ = [Value.int .i64 l[i].m0, Value.int .i64 l[i].m1][j]? := by
  have := RdD.at h i hi (2 + j) (by omega)
  rw [← Nat.add_assoc] at this
  rw [this]
  match j, hj with
  | 0, _ => rfl
  | 1, _ => rfl
theorem RdD.loss (h : RdD w lo hi (.slice (some ⟨b, off, none⟩) len cap) l) (i : Nat) (hi : i < l.length) (j : Nat) (hj : j < 2) : w.cell? ⟨b, off + i * 6 + 4 + j, none⟩ = [Value.int .i64 l[i].l0, Value.int .i64 l[i].l1][j]? := by
  have := RdD.at h i hi (4 + j) (by omega)
  rw [← Nat.add_assoc] at this
  rw [this]
  match j, hj with
  | 0, _ => rfl
  | 1, _ => rfl
end
end Go.Proofs.YtpknmgafambmbaaGreat

/- Walks of the reference: the errors of a stadium, of rules, and of a course. -/
namespace Go.Proofs.YtpknmgafambmbaaGreat
open Go Go.Eng

section
variable {w : World} {lo hi b off len cap : Nat} {l : List Lp}
theorem RdL.a0 (h : RdL w lo hi (.slice (some ⟨b, off, none⟩) len cap) l) (i : Nat) (hi : i < l.length) : w.cell? ⟨b, off + i * 3 + 0, none⟩ = some (.int .i64 l[i].len) := RdL.at0 h i hi
end
/-- In order, as far as they are looked at. -/
def ordB (c : List Int) (k : Nat) : Bool := (List.range k).all fun i => decide (c.getD i 0 ≤ c.getD (i + 1) 0) && true
theorem ordB_srt : ∀ (c : List Int), srtB c = ordB c (c.length - 1)
  | [] => rfl
  | [_] => rfl
  | a :: b :: l => by
    rw [srtB, ordB_srt (b :: l)]
    simp only [ordB, List.length_cons, Nat.add_sub_cancel]
    rw [List.range_succ_eq_map, List.all_cons, List.all_map]
    simp only [Bool.and_true]
    rfl
end Go.Proofs.YtpknmgafambmbaaGreat

/- Walks of the reference: how often a loop occurs; which rules a course breaks. -/
namespace Go.Proofs.YtpknmgafambmbaaGreat
open Go Go.Eng

def oftP (r : Rl) (c : List Int) (k : Nat) : Bool := (c.take k).any fun i => decide (r.uses < cntI c i) && true
end Go.Proofs.YtpknmgafambmbaaGreat

/- Walk of the reference: all lists of laps. -/
namespace Go.Proofs.YtpknmgafambmbaaGreat
open Go Go.Eng

/-- The lists that are found among the first numbers. -/
def foundL (n laps m : Nat) : List (List Int) := ((List.range m).map (digL n laps)).filter (fun c => decide (listedV n c = 0))
end Go.Proofs.YtpknmgafambmbaaGreat

/- Walks of the reference: all right courses. -/
namespace Go.Proofs.YtpknmgafambmbaaGreat
open Go Go.Eng

section
variable {w0 w : World} {M : Nat → Prop} {H : List Ck} {t t2 : TypeId} {xs : List (Value × List Int)} {u : Value} {c : List Int}
theorem ls_mem (hs : Sat w0 M H w) (hu : un (rowsO t xs) ∈ H) (hm : (u, c) ∈ xs) : w.ownsRow 0 t 1 u c.length (ints c) := hs.un_mem (c := .ow u t 1 c.length (ints c)) hu (List.mem_map.2 ⟨_, hm, rfl⟩)
theorem ls_rd (hs : Sat w0 M H w) (hu : un (rowsO t xs) ∈ H) (hm : (u, c) ∈ xs) : RdI w 0 w.heap.size u c := own_rdI (ls_mem hs hu hm) rfl
theorem own_slice2 {e sz n : Nat} {v : Value} {ys : List Value} (h1 : w.ownsRow 0 e sz v n ys) : ∃ a d, v = .slice a n d := by
  rcases h1.2 with ⟨rfl, rfl, _⟩ | ⟨g, cap, cur, rfl, _⟩
  · exact ⟨_, _, rfl⟩
  · exact ⟨_, _, rfl⟩
theorem ls_slice (hs : Sat w0 M H w) (hu : un (rowsO t xs) ∈ H) (hm : (u, c) ∈ xs) : ∃ a d, u = .slice a c.length d := own_slice2 (ls_mem hs hu hm)
theorem ls_cell {g n cp : Nat} (hs : Sat w0 M H w) (hv : .ow (.slice (some ⟨g, 0, none⟩) n cp) t2 1 n (xs.map (·.1)) ∈ H) {i : Nat} (hi : i < xs.length) (hx : xs[i] = (u, c)) : w.cell? ⟨g, 0 + i * 1, none⟩ = some u := by
  have := own_cell (hs.mem hv) i (by simpa using hi)
  rw [show 0 + i * 1 = i by omega]
  simpa [hx] using this
theorem ls_rdII (hs : Sat w0 M H w) {v : Value} {n : Nat} (hu : un (rowsO t xs) ∈ H) (hv : .ow v t2 1 n (xs.map (·.1)) ∈ H) : RdII w 0 w.heap.size v (xs.map (·.2)) := rowsO_rd (hs.mem hu) (hs.mem hv)
end
theorem filter_take (p : Value × List Int → Bool) (xs : List (Value × List Int)) {i : Nat} (hi : i < xs.length) : (xs.take (i + 1)).filter p = (xs.take i).filter p ++ if p xs[i] then [xs[i]] else [] := by
  rw [List.take_succ_eq_append_getElem hi, List.filter_append]
  congr 1
  simp [List.filter_cons]
end Go.Proofs.YtpknmgafambmbaaGreat

/- Walks of the reference: Broken, earlier, Yield. -/
namespace Go.Proofs.YtpknmgafambmbaaGreat
open Go Go.Eng

end Go.Proofs.YtpknmgafambmbaaGreat

/- Walks of the reference: area, snow, what a volume covers, and the cheapest course. -/
namespace Go.Proofs.YtpknmgafambmbaaGreat
open Go Go.Eng

def volB (s : List Lp) (depth volume : Int) (c : List Int) : Bool := decide (snowV s c depth ≤ volume) && true
end Go.Proofs.YtpknmgafambmbaaGreat

/- Walks of the reference: what a volume covers; the cheapest course. -/
namespace Go.Proofs.YtpknmgafambmbaaGreat
open Go Go.Eng

def ltS (s : List Lp) (depth : Int) (a b : List Int) : Bool := decide (snowV s a depth < snowV s b depth) && true
end Go.Proofs.YtpknmgafambmbaaGreat

/- Walks of the reference: the error of a weather. -/
namespace Go.Proofs.YtpknmgafambmbaaGreat
open Go Go.Eng

end Go.Proofs.YtpknmgafambmbaaGreat

/- Plain laws of what happens, step by step. -/
namespace Go.Proofs.YtpknmgafambmbaaGreat
open Go Go.Eng

end Go.Proofs.YtpknmgafambmbaaGreat

/- Walk of the reference: what happens in a weather. -/
namespace Go.Proofs.YtpknmgafambmbaaGreat
open Go Go.Eng

end Go.Proofs.YtpknmgafambmbaaGreat

/- Walk of the reference: the ends of a winter's spans. -/
namespace Go.Proofs.YtpknmgafambmbaaGreat
open Go Go.Eng

end Go.Proofs.YtpknmgafambmbaaGreat

/- Walks: winters and weathers compared that are equal. -/
namespace Go.Proofs.YtpknmgafambmbaaGreat
open Go Go.Eng

end Go.Proofs.YtpknmgafambmbaaGreat

/- Winters that are copied, and whose days are changed. -/
namespace Go.Proofs.YtpknmgafambmbaaGreat
open Go Go.Eng

/-! The cells of days -/
def fldD (d : Dy) : Nat → Int
  | 0 => d.n0
  | 1 => d.n1
  | 2 => d.m0
  | 3 => d.m1
  | 4 => d.l0
  | _ => d.l1
def setD (d : Dy) (f : Nat) (v : Int) : Dy :=
  match f with
  | 0 => { d with n0 := v }
  | 1 => { d with n1 := v }
  | 2 => { d with m0 := v }
  | 3 => { d with m1 := v }
  | 4 => { d with l0 := v }
  | _ => { d with l1 := v }
theorem dyC_cons (d : Dy) (l : List Dy) : dyC (d :: l) = [.int .i64 d.n0, .int .i64 d.n1, .int .i64 d.m0, .int .i64 d.m1, .int .i64 d.l0, .int .i64 d.l1] ++ dyC l := rfl
theorem dyC_get : ∀ (l : List Dy) (sp : List Value) (k f : Nat) (hk : k < l.length), f < 6 → (dyC l ++ sp)[k * 6 + f]? = some (.int .i64 (fldD l[k] f))
  | d :: l, sp, 0, f, _, hf => by
    rw [dyC_cons, List.append_assoc, List.getElem?_append_left (by simp; omega)]
    obtain rfl | rfl | rfl | rfl | rfl | rfl : f = 0 ∨ f = 1 ∨ f = 2 ∨ f = 3 ∨ f = 4 ∨ f = 5 := by omega
    all_goals simp [fldD]
  | d :: l, sp, k + 1, f, hk, hf => by
    have ih := dyC_get l sp k f (by simpa using hk) hf
    rw [dyC_cons, List.append_assoc, List.getElem?_append_right (by simp; omega)]
    simp only [List.length_cons, List.length_nil, List.getElem_cons_succ]
    rw [← ih]
    congr 1
    omega
theorem dyC_set : ∀ (l : List Dy) (sp : List Value) (k f : Nat) (hk : k < l.length) (v : Int), f < 6 → (dyC l ++ sp).set (k * 6 + f) (.int .i64 v) = dyC (l.set k (setD l[k] f v)) ++ sp
  | d :: l, sp, 0, f, _, v, hf => by
    obtain rfl | rfl | rfl | rfl | rfl | rfl : f = 0 ∨ f = 1 ∨ f = 2 ∨ f = 3 ∨ f = 4 ∨ f = 5 := by omega
    all_goals simp [dyC, setD]
  | d :: l, sp, k + 1, f, hk, v, hf => by
    have ih := dyC_set l sp k f (by simpa using hk) v hf
    rw [dyC_cons, List.append_assoc, List.set_append_right _ _ (by simp; omega)]
    simp only [List.length_cons, List.length_nil, List.set_cons_succ, List.getElem_cons_succ, dyC_cons, List.append_assoc]
    rw [← ih]
    congr 2
    omega
/-- Days in a block, with room behind them. -/
abbrev dyB (g : Nat) (l : List Dy) (sp : List Value) : Ck := .pt g (dyC l ++ sp) 38
theorem dy_cell {w : World} {g : Nat} {t : TypeId} {l : List Dy} {sp : List Value} (h : Blk w g (dyC l ++ sp) t) (k f : Nat) (hk : k < l.length) (hf : f < 6) : w.cell? ⟨g, k * 6 + f, none⟩ = some (.int .i64 (fldD l[k] f)) := by
  rw [Blk.cell h]
  exact dyC_get l sp k f hk hf
section
variable {P : Program} {T : Tab} {ro : Cx} {n : Nat} {F : Fin} {w0 : World} {M : Nat → Prop} {k : List It} {ops : Array Oper} {rest : List Oper} {e : Env} {H Hq : List Ck}
theorem ql_dyS (hT : T.Ok P) {t : Nat} {x y : Operand} {g off : Nat} {l : List Dy} {sp : List Value} {v : Int} {H' : List Ck} {ty bt : TypeId} {pos : String} {af : Array Edge} (i f : Nat) (d' : Dy)
    (hx : opv e x = some (.pointer (some ⟨g, off, none⟩))) (hy : opv e y = some (.int .i64 v)) (h1 : has T.one t = true) (ho : off = i * 6 + f) (hf : f < 6) (hi : i < l.length) (hd : setD l[i] f v = d') (hr : Rp H (.pt g (dyC l ++ sp) bt) (.pt g (dyC (l.set i d') ++ sp) bt) H')
    (h : QL P ro n F w0 M k ops rest e H') : QL P ro n F w0 M k ops (⟨none, .store t x y, ty, pos, af, none⟩ :: rest) e H := by
  subst ho
  subst hd
  refine ql_store1 (i := i * 6 + f) (cs := dyC l ++ sp) hT hx hy h1 rfl (by rw [dyC_set l sp i f hi v hf]; exact hr) ?_ h
  rw [List.length_append, dyC_length]
  omega
theorem qf_dyS (hT : T.Ok P) {t : Nat} {x y : Operand} {g off : Nat} {l : List Dy} {sp : List Value} {v : Int} {H' : List Ck} {ty bt : TypeId} {pos : String} {af : Array Edge} (i f : Nat) (d' : Dy)
    (hx : opv e x = some (.pointer (some ⟨g, off, none⟩))) (hy : opv e y = some (.int .i64 v)) (h1 : has T.one t = true) (ho : off = i * 6 + f) (hf : f < 6) (hi : i < l.length) (hd : setD l[i] f v = d') (hr : Rp H (.pt g (dyC l ++ sp) bt) (.pt g (dyC (l.set i d') ++ sp) bt) H')
    (h : QF P ro n F w0 M k ops Hq rest e H') : QF P ro n F w0 M k ops Hq (⟨none, .store t x y, ty, pos, af, none⟩ :: rest) e H := by
  subst ho
  subst hd
  refine qf_store1 (i := i * 6 + f) (cs := dyC l ++ sp) hT hx hy h1 rfl (by rw [dyC_set l sp i f hi v hf]; exact hr) ?_ h
  rw [List.length_append, dyC_length]
  omega
end
theorem dyB_rd {w0 w : World} {M : Nat → Prop} {H : List Ck} {g c : Nat} {l : List Dy} {sp : List Value} (hs : Sat w0 M H w) (hm : dyB g l sp ∈ H) : RdD w 0 w.heap.size (.slice (some ⟨g, 0, none⟩) l.length c) l := by
  have hb : Blk w g (dyC l ++ sp) 38 := hs.blk hm
  refine RdD.of ⟨dyC_length l, .inr ⟨g, 0, c, rfl, fun _ => ⟨Nat.zero_le _, hb.lt, hb.lt⟩, fun j hj => ?_⟩⟩
  rw [Blk.cell hb, Nat.zero_add, List.getElem?_append_left hj]

/-! Copies -/
theorem cloneD_ca (w : World) (lo hi : Nat) (v : Value) (l : List Dy) (h : RdD w lo hi v l) (hlen : l.length ≤ 1000000) : Ca Tryz.prog 22 [v] w fun r w' => ∃ u : Value, r = u ∧ Sat w M0 [.ow u 38 6 l.length (dyC l)] w' := by
  obtain ⟨a, ca, rfl, _⟩ := RdD.outI h
  refine q_of (Sat.nil w M0) Tryz.func22 rfl (by simp [Tryz.ntmps22]) ?_
  (refine q_seq (q_region (ql_pure tabOk rfl rfl (q_nil (q_seq (q_region (ql_pure tabOk rfl rfl ?_)))))))
  refine ql_conv (H' := [.ow (.slice none 0 0) 38 6 0 []]) (fun w' hs => Sat.ownil hs 38 6) ?_
  refine ql_append (q := l.length) slD rfl rfl rfl (fun v' => by repeat constructor) (fun w' hs => ⟨lo, hi, RdD.row (RdE.keep h hs.chg0)⟩) (dyC_one l) (by omega) (by omega) (fun u => ?_)
  (refine ql_pure tabOk rfl rfl (q_nil (q_ret ?_)))
  refine q_fin tabOk rfl (by repeat constructor) fun w hs => ?_
  exact ⟨u, rfl, by simpa using hs⟩
theorem cloneW_ca (w : World) (lo hi : Nat) (x : Wn) (a : Option Addr) (c : Nat) (h : RdD w lo hi (.slice a x.days.length c) x.days) (hlen : x.days.length ≤ 1000000) :
    Ca Tryz.prog 8 [.agg (wnC x a c).toArray] w fun r w' => ∃ y : Option Addr × Nat, r = .agg (wnC x y.1 y.2).toArray ∧ Sat w M0 [.ow (.slice y.1 x.days.length y.2) 38 6 x.days.length (dyC x.days)] w' := by
  refine q_of (Sat.nil w M0) Tryz.func8 rfl (by simp [Tryz.ntmps8]) ?_
  (refine q_seq (q_region ?_))
  refine ql_box rfl rfl (fun b1 => ?_)
  refine ql_alloc zero34 rfl (fun b2 => ?_)
  (refine q_nil (q_seq ?_))
  refine q_draw _ [.pt b2 _ _] (Sp.cons (by repeat constructor) (Sp.refl _)) (by kernel_rfl) (by kernel_rfl) ?_
  (refine qf_pure tabOk rfl rfl rfl ?_; refine qf_loadBa tabOk rfl rfl rfl ?_; refine qf_pure tabOk rfl rfl rfl ?_; refine qf_loadBa tabOk rfl rfl rfl ?_; refine qf_pure tabOk rfl rfl rfl ?_; refine qf_loadBa tabOk rfl rfl rfl ?_)
  refine qf_call (β := Value) tabOk [] _ M0 rfl rfl rfl rfl (Sp.refl _) (fun _ h => h.elim) (fun w' hs => cloneD_ca w' lo hi _ x.days (RdE.keep h hs.chg0) hlen) ?_
  rintro _ u rfl
  dsimp only [List.cons_append, List.nil_append]
  refine qf_fact (fun w hs => hs.slice2 (v := u) (by repeat constructor)) ?_
  rintro ⟨ua, uc, rfl⟩
  skip
  refine qf_mk #[.int .i64 x.stock, .int .i64 x.store, .slice ua x.days.length uc] rfl (by kernel_rfl) rfl ?_
  (refine qf_setA tabOk rfl rfl rfl rfl rfl (by repeat constructor) rfl ?_; refine qf_nil (q_ret ?_))
  refine q_fin tabOk rfl (by repeat constructor) fun w hs => ?_
  exact ⟨(ua, uc), rfl, hs.sp (by repeat constructor)⟩
end Go.Proofs.YtpknmgafambmbaaGreat

/- Walks: a weather copied. -/
namespace Go.Proofs.YtpknmgafambmbaaGreat
open Go Go.Eng

end Go.Proofs.YtpknmgafambmbaaGreat

/- Walk: a winter of the reference. -/
namespace Go.Proofs.YtpknmgafambmbaaGreat
open Go Go.Eng

end Go.Proofs.YtpknmgafambmbaaGreat

/- Walks: whether there are too many days, or numbers. -/
namespace Go.Proofs.YtpknmgafambmbaaGreat
open Go Go.Eng

def longB (n : Nat) (ll : List (List Int)) : Bool := (ll.any fun l => decide (70 < l.length) && true) || (decide (65 < n) && true)
end Go.Proofs.YtpknmgafambmbaaGreat

/- Walk of the reference: piles. -/
/- long -/
namespace Go.Proofs.YtpknmgafambmbaaGreat
open Go Go.Eng

/-- Much is taken from piles, one after the other. -/
structure TkI (much : Int) (l : List Int) (k : Nat) (m : Int) (o : List Int) : Prop where
  kl : k ≤ l.length
  len : o.length = l.length
  mb : 0 ≤ m ∧ m ≤ much
  nn : ∀ x ∈ o, 0 ≤ x ∧ x ≤ 2000000
  eq : rremP much l = o.take k ++ rremP m (o.drop k)
theorem TkI.zero {much : Int} {l : List Int} (h : 0 ≤ much) (hl : ∀ x ∈ l, 0 ≤ x ∧ x ≤ 2000000) : TkI much l 0 much l := ⟨Nat.zero_le _, rfl, ⟨h, Int.le_refl _⟩, hl, by simp⟩
theorem TkI.step {much : Int} {l : List Int} {k : Nat} {m : Int} {o : List Int} (h : TkI much l k m o) (hk : k < o.length) (hm : 0 < m) {n : Int} (hn : n = min o[k] m) : TkI much l (k + 1) (m - n) (o.set k (o[k] - n)) := by
  subst hn
  have h0 := h.nn _ (List.getElem_mem hk)
  refine ⟨by have := h.len; omega, by simp [h.len], by have := h.mb; omega, fun x hx => ?_, ?_⟩
  · rcases List.mem_or_eq_of_mem_set hx with hx | rfl
    · exact h.nn x hx
    · omega
  · rw [h.eq, List.drop_eq_getElem_cons hk, rremP, if_pos (by omega)]
    have e1 : (o.set k (o[k] - min o[k] m)).take (k + 1) = o.take k ++ [o[k] - min o[k] m] := by
      rw [List.take_succ_eq_append_getElem (by simpa using hk), List.take_set_of_le (Nat.le_refl _)]
      simp
    have e2 : (o.set k (o[k] - min o[k] m)).drop (k + 1) = o.drop (k + 1) := by rw [List.drop_set_of_lt (by omega)]
    rw [e1, e2]
    simp
theorem TkI.full {much : Int} {l : List Int} {k : Nat} {m : Int} {o : List Int} (h : TkI much l k m o) (hk : ¬ k < o.length) : o = rremP much l := by
  have h1 := h.len
  have h2 := h.kl
  rw [h.eq, List.drop_eq_nil_of_le (by omega), List.take_of_length_le (by omega)]
  simp [rremP]
theorem TkI.done {much : Int} {l : List Int} {k : Nat} {m : Int} {o : List Int} (h : TkI much l k m o) (hm : ¬ m > 0) : o = rremP much l := by
  obtain rfl : m = 0 := by have := h.mb; omega
  rw [h.eq, rremP_zero, List.take_append_drop]
theorem set_ints (l : List Int) (k : Nat) (v : Int) : (ints l).set k (.int .i64 v) = ints (l.set k v) := by simp [ints, List.map_set]

end Go.Proofs.YtpknmgafambmbaaGreat

/- Walks of the reference: the first day that can fail; whether a winter is held. -/
namespace Go.Proofs.YtpknmgafambmbaaGreat
open Go Go.Eng

/-- Whether no day can fail. -/
def heldB (x : Wn) : Bool := decide ((firstV x).2 = 6) && true
end Go.Proofs.YtpknmgafambmbaaGreat

/- Walk of the reference: proofs. -/
namespace Go.Proofs.YtpknmgafambmbaaGreat
open Go Go.Eng

/-- What is left, day by day. -/
def lfK (x : Wn) (frm : Int) (i : Nat) : Int := if i ≤ frm.toNat then x.stock else phK x frm (i - 1 - frm.toNat) - (worstW x).need.getD (i - 1) 0
end Go.Proofs.YtpknmgafambmbaaGreat

/- Walks of the reference: the least stock and the least store. -/
namespace Go.Proofs.YtpknmgafambmbaaGreat
open Go Go.Eng

end Go.Proofs.YtpknmgafambmbaaGreat

/- Walk of the reference: the ranges of stocks. -/
namespace Go.Proofs.YtpknmgafambmbaaGreat
open Go Go.Eng

end Go.Proofs.YtpknmgafambmbaaGreat

/- The walk of CourseOpens. -/
namespace Go.Proofs.YtpknmgafambmbaaGreat
open Go Go.Eng

def tE14_4c87a54 : OT := .alt (chainT [4, 5, 6, 7] (.nil)) (chainT [5, 4, 6, 7] (.nil))
def tE14_eb3b0f0 : OT := .alt (chainT [2, 3, 5, 6, 7] (.nil)) (chainT [5, 2, 3, 6, 7] (.nil))
def tE14_b76eca4 : OT := .alt (chainT [2, 3, 4, 6, 7] (.nil)) (chainT [4, 2, 3, 6, 7] (.nil))
def tE14_fad34fc : OT := .alt (chainT [2, 3] (tE14_4c87a54)) (.alt (chainT [4] (tE14_eb3b0f0)) (chainT [5] (tE14_b76eca4)))
def tE14_dd4425e : OT := .alt (chainT [0, 1] (tE14_eb3b0f0)) (chainT [5, 0, 1, 2, 3, 6, 7] (.nil))
def tE14_57f3436 : OT := .alt (chainT [0, 1] (tE14_b76eca4)) (chainT [4, 0, 1, 2, 3, 6, 7] (.nil))
def tE14_70b2432 : OT := .alt (chainT [0, 1] (tE14_fad34fc)) (.alt (chainT [4] (tE14_dd4425e)) (chainT [5] (tE14_57f3436)))
end Go.Proofs.YtpknmgafambmbaaGreat

/- What a function is told of its arguments: slices and structs that came in can be read. -/
namespace Go.Proofs.YtpknmgafambmbaaGreat
open Go Go.Eng

section
variable {H : Type} {enc : TypeId × Value → H} {P : Program} {w : World} {sp : Nat → Bool} {held : Bool}
theorem flat_get {sz : Nat} (hsz : 0 < sz) : ∀ (css : List (List Value)), (∀ c ∈ css, c.length = sz) → ∀ j, css.flatten[j]? = (css[j / sz]?).bind (fun c => c[j % sz]?)
  | [], _, j => by simp
  | c :: css, h, j => by
    have hc := h c List.mem_cons_self
    rw [List.flatten_cons]
    by_cases hj : j < sz
    · rw [List.getElem?_append_left (by omega), Nat.div_eq_of_lt hj, Nat.mod_eq_of_lt hj]
      rfl
    · obtain ⟨k, rfl⟩ : ∃ k, j = k + sz := ⟨j - sz, by omega⟩
      rw [List.getElem?_append_right (by omega), hc, Nat.add_sub_cancel, flat_get hsz css (fun d hd => h d (List.mem_cons_of_mem _ hd)), Nat.add_div_right _ hsz, Nat.add_mod_right]
      rfl
end
/-- A number that fits into 64 bits. -/
def I64 (n : Int) : Prop := -9223372036854775808 ≤ n ∧ n < 9223372036854775808
section
variable {H : Type} {enc : TypeId × Value → H} {P : Program} {w : World} {sp : Nat → Bool} {held : Bool}
theorem RdI.one {v : Value} {l : List Int} {lo hi : Nat} (h : RdI w lo hi v l) : oneV v = true := by
  obtain ⟨a, c, rfl, _⟩ := RdI.outI h
  rfl
end
end Go.Proofs.YtpknmgafambmbaaGreat

/- What a function of the chapter is told of its arguments. -/
namespace Go.Proofs.YtpknmgafambmbaaGreat
open Go Go.Eng

section
variable {H : Type} {enc : TypeId × Value → H} {P : Program} {w : World} {sp : Nat → Bool} {held : Bool}
end

section
variable {H : Type} {enc : TypeId × Value → H} {w : World} {sp : Nat → Bool} {held : Bool} {rc : Reach} {base : Nat} {v : Value} {d : DataW H} {ps : List MemPlace}
/-- The numbers of rules fit into 64 bits. -/
structure Rl.Big (r : Rl) : Prop where
  laps : I64 r.laps
  g0 : I64 r.g0
  g1 : I64 r.g1
  c0 : I64 r.c0
  c1 : I64 r.c1
  p0 : I64 r.p0
  p1 : I64 r.p1
  wide : I64 r.wide
  uses : I64 r.uses
end
end Go.Proofs.YtpknmgafambmbaaGreat

/- The walk of CourseWinters. -/
namespace Go.Proofs.YtpknmgafambmbaaGreat
open Go Go.Eng

end Go.Proofs.YtpknmgafambmbaaGreat

/- Walks: loops copied and turned, rules as numbers, whether there are too many lists; contracts in one piece. -/
namespace Go.Proofs.YtpknmgafambmbaaGreat
open Go Go.Eng

theorem slLp : SlT Tryz.prog 25 61 3 24 (.agg #[.int .i64 0, .int .i64 0, .int .i64 0]) := ⟨by kernel_rfl, by kernel_rfl, by kernel_rfl, by decide⟩
theorem lpC_snoc (l : List Lp) (d : Lp) : lpC (l ++ [d]) = lpC l ++ lpC [d] := by simp [lpC]
theorem lpC_one (l : List Lp) : ∀ c ∈ lpC l, oneV c = true := fun c hc => by obtain ⟨y, _, hy⟩ := List.mem_flatMap.1 hc; simp at hy; rcases hy with rfl | rfl | rfl <;> rfl
theorem Blk.rdLp {w : World} {b : Nat} {d : Lp} {t : TypeId} (h : Blk w b (lpC [d]) t) : Rd w b (b + 1) (.slice (some ⟨b, 0, none⟩) 1 1) 3 1 (lpC [d]) :=
  ⟨rfl, .inr ⟨b, 0, 1, rfl, fun _ => ⟨Nat.le_refl _, Nat.lt_succ_self _, h.lt⟩, fun j _ => by rw [Nat.zero_add]; exact Blk.cell h j⟩⟩
theorem sat_rdL {w0 w : World} {M : Nat → Prop} {H : List Ck} {v : Value} {t n : Nat} {l : List Lp} (hs : Sat w0 M H w) (hm : .ow v t 3 n (lpC l) ∈ H) (hn : n = l.length) : RdL w 0 w.heap.size v l := own_rdL (hs.mem hm) hn
/-! Contracts in one piece -/
section
variable (w : World) (lo hi : Nat) (a : Option Addr) (cp : Nat) (s : List Lp) (r : Rl) (h : RdL w lo hi (.slice a s.length cp) s) (hlen : s.length ≤ 1000000)
include h hlen
end
/-- The fewest rules, with the first course. -/
def yldV (s : List Lp) (r : Rl) : (List Int × List Int) × Int := if checkS s r ≠ 0 then (([], []), checkS s r) else ((brkL s r ((yieldO s r (coursesL s.length (nL r))).getD []), (yieldO s r (coursesL s.length (nL r))).getD []), 0)
section
variable (w : World) (lo hi : Nat) (a : Option Addr) (cp : Nat) (s : List Lp) (r : Rl) (h : RdL w lo hi (.slice a s.length cp) s) (hlen : s.length ≤ 1000000)
include h hlen
end
end Go.Proofs.YtpknmgafambmbaaGreat

/- Walk: a stadium and rules are made. -/
namespace Go.Proofs.YtpknmgafambmbaaGreat
open Go Go.Eng

structure LpM (l : Lp) : Prop where
  len : 1500 ≤ l.len ∧ l.len ≤ 3400
  climb : 0 ≤ l.climb ∧ l.climb ≤ 110
  wide : 4 ≤ l.wide ∧ l.wide ≤ 8
structure MadeS (most laps : Nat) (s : List Lp) (r : Rl) : Prop where
  n1 : 1 ≤ s.length
  n2 : s.length ≤ most
  all : ∀ l ∈ s, LpM l
  lp : 1 ≤ r.laps ∧ r.laps ≤ laps
  g : 0 ≤ r.g0 ∧ r.g0 ≤ r.g1 ∧ r.g1 ≤ 20000
  c : 0 ≤ r.c0 ∧ r.c0 ≤ r.c1 ∧ r.c1 ≤ 1000
  p : 1500 ≤ r.p0 ∧ r.p0 ≤ 1800 ∧ 2500 ≤ r.p1 ∧ r.p1 ≤ 3400
  wide : 3 ≤ r.wide ∧ r.wide ≤ 5
  uses : 1 ≤ r.uses ∧ r.uses ≤ laps
theorem MadeS.cr {most laps : Nat} {s : List Lp} {r : Rl} (h : MadeS most laps s r) (hm : most ≤ 12) (hl : laps ≤ 6) : CR s r := by
  have h1 := h.n1; have h2 := h.n2; have h3 := h.lp; have h4 := h.g; have h5 := h.c; have h6 := h.p; have h7 := h.wide; have h8 := h.uses
  exact ⟨⟨h1, by omega, fun l hl => by have h := h.all l hl; have := h.len; have := h.climb; have := h.wide; exact ⟨by omega, by omega, by omega⟩⟩, ⟨by omega, by omega, by omega, by omega, by omega, by omega⟩⟩
theorem mul_bd {a b A B : Int} (h1 : 0 ≤ a) (h2 : a ≤ A) (h3 : 0 ≤ b) (h4 : b ≤ B) : 0 ≤ a * b ∧ a * b ≤ A * B := ⟨Int.mul_nonneg h1 h3, Int.mul_le_mul h2 h4 h3 (by omega)⟩
set_option maxHeartbeats 4000000 in
theorem madeS_ca (most laps : Nat) (h1 : 1 ≤ most) (h2 : most ≤ 12) (h3 : 1 ≤ laps) (h4 : laps ≤ 6) (K : Nat) (hK : K < 100000) (w : World) (b lo hi : Nat) (bs : Value) (hby : DkB w lo hi bs) (hlh : hi ≤ b) (hd : DkS w b bs K) :
    Ca Tryz.prog 5 [.pointer (some ⟨b, 0, none⟩), .int .i64 most, .int .i64 laps] w fun v w' => ∃ y : Nat × Nat × List Lp × Rl, (v = .tuple #[.slice (some ⟨y.1, 0, none⟩) y.2.2.1.length y.2.1, .agg (rlC y.2.2.2).toArray] ∧ MadeS most laps y.2.2.1 y.2.2.2) ∧ Sat w (fun x => x = b) [.ow (.slice (some ⟨y.1, 0, none⟩) y.2.2.1.length y.2.1) 61 3 y.2.2.1.length (lpC y.2.2.1), dkP bs b (K + 100)] w' := by
  refine q_of (dk_sat hd) Tryz.func5 rfl (by simp [Tryz.ntmps5]) ?_
  (refine q_seq (q_region (ql_pure tabOk rfl rfl ?_)))
  refine ql_alloc zero29 rfl (fun b7 => ?_)
  (refine q_nil (q_seq (q_region (ql_pure tabOk rfl rfl (q_nil (q_seq (q_seq (q_region (ql_pure tabOk rfl rfl (ql_pure tabOk rfl rfl ?_))))))))))
  refine ql_call (β := Int) (ψ := fun zq v => v = .int .i64 zq ∧ 1 ≤ zq ∧ zq ≤ most) (L' := fun _ => [dkP bs b (K + 1)]) tabOk [dkP bs b (K)] _ (fun x => x = b) rfl rfl rfl rfl (Sp.cons (by repeat constructor) (Sp.refl _)) (fun x hx => ⟨_, .head _, hx⟩) (fun w' hs => between_ca (1) (most) (by omega) (by omega) (by omega) (K) (by omega) w' b lo hi bs (hby.keepP hlh hs.chg) hlh (hs.all _ (.head _))) ?_; rintro cnt _ ⟨rfl, hcnt⟩
  (refine ql_pure tabOk rfl rfl (q_nil (q_block ?_)))
  obtain ⟨cn, rfl⟩ := Int.eq_ofNat_of_zero_le (show 0 ≤ cnt by omega)
  have hcn : 1 ≤ cn ∧ cn ≤ most := by omega
  clear hcnt
  refine q_conv (H' := [.ow (.slice none 0 0) 61 3 0 (lpC []), dkP bs b (K + 1 + 3 * 0), .pt b7 [.int .i64 0, .int .i64 0, .int .i64 0, .int .i64 0, .int .i64 0, .int .i64 0, .int .i64 0, .int .i64 0, .int .i64 0] 29])
    (fun w' hs => (Sat.ownil hs 61 3).sp (by repeat constructor)) ?_
  refine q_loop (σ := Value × List Lp) (fun s => s.2.length ≤ cn ∧ ∀ l ∈ s.2, LpM l) (fun s => cn - s.2.length) (fun s => [(0, .pointer (some ⟨b, 0, none⟩)), (2, .int .i64 laps), (7, .pointer (some ⟨b7, 0, none⟩)), (8, s.1), (14, .int .i64 cn), (15, .int .i64 s.2.length)])
    (fun s => [.ow s.1 61 3 s.2.length (lpC s.2), dkP bs b (K + 1 + 3 * s.2.length), .pt b7 [.int .i64 0, .int .i64 0, .int .i64 0, .int .i64 0, .int .i64 0, .int .i64 0, .int .i64 0, .int .i64 0, .int .i64 0] 29]) (.slice none 0 0, []) (by simp) ⟨rfl, rfl, rfl, rfl, rfl, rfl, trivial⟩ (by repeat constructor) ?_
  rintro ⟨v, l⟩ ⟨hl, hB⟩ K1 hK1
  simp only at hl hB
  dsimp only
  (refine q_seq (q_region (ql_pure tabOk rfl rfl (q_nil (q_seq ?_)))))
  refine q_if rfl (fun hc => ?_) (fun hc => ?_)
  · have hl2 : l.length < cn := by omega
    clear hc
    obtain ⟨k, hk⟩ : ∃ k, k = l.length := ⟨_, rfl⟩
    rw [← hk]
    (refine q_skip (q_seq (q_block (q_region (ql_pure tabOk rfl rfl (ql_pure tabOk rfl rfl ?_))))))
    refine ql_call (β := Int) (ψ := fun zq v => v = .int .i64 zq ∧ 0 ≤ zq ∧ (zq < 20 ∨ zq = 0)) (L' := fun _ => [dkP bs b (K + 1 + 3 * k + 1)]) tabOk [dkP bs b (K + 1 + 3 * k)] _ (fun x => x = b) rfl rfl rfl rfl (Sp.cons (by repeat constructor) (Sp.refl _)) (fun x hx => ⟨_, .head _, hx⟩) (fun w' hs => drawP_ca (20) (K + 1 + 3 * k) (by omega) w' b lo hi bs (hby.keepP hlh hs.chg) hlh (hs.all _ (.head _))) ?_; rintro x1 _ ⟨rfl, hx1⟩
    (refine ql_ar tabOk rfl rfl rfl rfl (by omega) (by omega) (ql_ar tabOk rfl rfl rfl rfl (by omega) (by omega) (ql_pure tabOk rfl rfl ?_)))
    refine ql_call (β := Int) (ψ := fun zq v => v = .int .i64 zq ∧ 0 ≤ zq ∧ (zq < 12 ∨ zq = 0)) (L' := fun _ => [dkP bs b (K + 1 + 3 * k + 1 + 1)]) tabOk [dkP bs b (K + 1 + 3 * k + 1)] _ (fun x => x = b) rfl rfl rfl rfl (Sp.cons (by repeat constructor) (Sp.refl _)) (fun x hx => ⟨_, .head _, hx⟩) (fun w' hs => drawP_ca (12) (K + 1 + 3 * k + 1) (by omega) w' b lo hi bs (hby.keepP hlh hs.chg) hlh (hs.all _ (.head _))) ?_; rintro x2 _ ⟨rfl, hx2⟩
    (refine ql_ar tabOk rfl rfl rfl rfl (by omega) (by omega) (ql_pure tabOk rfl rfl ?_))
    refine ql_call (β := Int) (ψ := fun zq v => v = .int .i64 zq ∧ 4 ≤ zq ∧ zq ≤ 8) (L' := fun _ => [dkP bs b (K + 1 + 3 * k + 1 + 1 + 1)]) tabOk [dkP bs b (K + 1 + 3 * k + 1 + 1)] _ (fun x => x = b) rfl rfl rfl rfl (Sp.cons (by repeat constructor) (Sp.refl _)) (fun x hx => ⟨_, .head _, hx⟩) (fun w' hs => between_ca (4) (8) (by omega) (by omega) (by omega) (K + 1 + 3 * k + 1 + 1) (by omega) w' b lo hi bs (hby.keepP hlh hs.chg) hlh (hs.all _ (.head _))) ?_; rintro x3 _ ⟨rfl, hx3⟩
    skip
    refine ql_mk #[.int .i64 (1500 + 100 * x1), .int .i64 (10 * x2), .int .i64 x3] rfl (by kernel_rfl) rfl ?_
    refine ql_mkS 61 (lpC [⟨1500 + 100 * x1, 10 * x2, x3⟩]) rfl (by kernel_rfl) rfl (fun bn => ?_)
    refine ql_append (q := 1) slLp rfl rfl rfl (fun v' => by repeat constructor) (fun w' hs => ⟨_, _, Blk.rdLp (hs.blk (b := bn) (by repeat constructor))⟩) (lpC_one _) (by omega) (by omega) (fun u => ?_)
    (refine ql_pure tabOk rfl rfl (q_nil (q_blk (q_region (ql_ar tabOk rfl rfl rfl rfl (by omega) (by omega) (ql_pure tabOk rfl rfl (q_nil ?_)))))))
    have e := lpC_snoc l ⟨1500 + 100 * x1, 10 * x2, x3⟩
    exact hK1 (u, l ++ [⟨1500 + 100 * x1, 10 * x2, x3⟩]) _ _ ⟨by simp only [List.length_append, List.length_cons, List.length_nil]; omega, fun d hd => by
      rcases List.mem_append.1 hd with hd | hd
      · exact hB d hd
      · obtain rfl := List.mem_singleton.1 hd
        exact ⟨by simp only; omega, by simp only; omega, hx3⟩⟩ (by simp only [List.length_append, List.length_cons, List.length_nil]; omega) ⟨rfl, rfl, rfl, rfl, rfl, lookI rfl (by simp; omega), trivial⟩ (by dsimp only; rw [e, List.length_append, ← hk]; repeat constructor)
  · have hle : l.length = cn := by omega
    clear hc hK1
    rw [hle]
    refine q_fact (fun w hs => hs.ownSome (v := v) (by repeat constructor) (by omega)) ?_
    rintro ⟨g, cd, rfl⟩
    (refine q_exit _ rfl (q_seq (q_region (ql_pure tabOk rfl rfl (ql_pure tabOk rfl rfl ?_)))))
    refine ql_call (β := Int) (ψ := fun zq v => v = .int .i64 zq ∧ 1 ≤ zq ∧ zq ≤ laps) (L' := fun _ => [dkP bs b (K + 1 + 3 * cn + 1)]) tabOk [dkP bs b (K + 1 + 3 * cn)] _ (fun x => x = b) rfl rfl rfl rfl (Sp.cons (by repeat constructor) (Sp.refl _)) (fun x hx => ⟨_, .head _, hx⟩) (fun w' hs => between_ca (1) (laps) (by omega) (by omega) (by omega) (K + 1 + 3 * cn) (by omega) w' b lo hi bs (hby.keepP hlh hs.chg) hlh (hs.all _ (.head _))) ?_; rintro la _ ⟨rfl, hla⟩
    (refine ql_pure tabOk rfl rfl ?_)
    refine ql_call (β := Int) (ψ := fun zq v => v = .int .i64 zq ∧ 3 ≤ zq ∧ zq ≤ 5) (L' := fun _ => [dkP bs b (K + 1 + 3 * cn + 1 + 1)]) tabOk [dkP bs b (K + 1 + 3 * cn + 1)] _ (fun x => x = b) rfl rfl rfl rfl (Sp.cons (by repeat constructor) (Sp.refl _)) (fun x hx => ⟨_, .head _, hx⟩) (fun w' hs => between_ca (3) (5) (by omega) (by omega) (by omega) (K + 1 + 3 * cn + 1) (by omega) w' b lo hi bs (hby.keepP hlh hs.chg) hlh (hs.all _ (.head _))) ?_; rintro wd _ ⟨rfl, hwd⟩
    (refine ql_pure tabOk rfl rfl (ql_pure tabOk rfl rfl ?_))
    refine ql_call (β := Int) (ψ := fun zq v => v = .int .i64 zq ∧ 1 ≤ zq ∧ zq ≤ laps) (L' := fun _ => [dkP bs b (K + 1 + 3 * cn + 1 + 1 + 1)]) tabOk [dkP bs b (K + 1 + 3 * cn + 1 + 1)] _ (fun x => x = b) rfl rfl rfl rfl (Sp.cons (by repeat constructor) (Sp.refl _)) (fun x hx => ⟨_, .head _, hx⟩) (fun w' hs => between_ca (1) (laps) (by omega) (by omega) (by omega) (K + 1 + 3 * cn + 1 + 1) (by omega) w' b lo hi bs (hby.keepP hlh hs.chg) hlh (hs.all _ (.head _))) ?_; rintro us _ ⟨rfl, hus⟩
    refine ql_mk #[.int .i64 la, .int .i64 0, .int .i64 0, .int .i64 0, .int .i64 0, .int .i64 0, .int .i64 0, .int .i64 wd, .int .i64 us] rfl (by kernel_rfl) rfl ?_
    refine ql_alloc zero29 rfl (fun b9 => ?_)
    (refine ql_setA tabOk rfl rfl rfl rfl rfl (by repeat constructor) rfl ?_; refine q_nil (q_seq ?_))
    refine q_draw _ [dkP bs b (K + 1 + 3 * cn + 1 + 1 + 1)] (Sp.cons (by repeat constructor) (Sp.refl _)) (by kernel_rfl) (by kernel_rfl) ?_
    (refine qf_pure tabOk rfl rfl rfl ?_; refine qf_loadBa tabOk rfl rfl rfl ?_; refine qf_pure tabOk rfl rfl rfl ?_)
    refine qf_call (β := Int) (ψ := fun zq v => v = .int .i64 zq ∧ 0 ≤ zq ∧ (zq < 12 ∨ zq = 0)) (L' := fun _ => [dkP bs b (K + 1 + 3 * cn + 1 + 1 + 1 + 1)]) tabOk [dkP bs b (K + 1 + 3 * cn + 1 + 1 + 1)] _ (fun x => x = b) rfl rfl rfl rfl (Sp.cons (by repeat constructor) (Sp.refl _)) (fun x hx => ⟨_, .head _, hx⟩) (fun w' hs => drawP_ca (12) (K + 1 + 3 * cn + 1 + 1 + 1) (by omega) w' b lo hi bs (hby.keepP hlh hs.chg) hlh (hs.all _ (.head _))) ?_; rintro y1 _ ⟨rfl, hy1⟩
    have hm1 := mul_bd (a := la) (b := 1500 + 100 * y1) (A := 6) (B := 2600) (by omega) (by omega) (by omega) (by omega)
    ((iterate 3 refine qf_ar tabOk rfl rfl rfl rfl (by omega) (by omega) ?_); refine qf_pure tabOk rfl rfl rfl ?_)
    refine qf_call (β := Int) (ψ := fun zq v => v = .int .i64 zq ∧ 0 ≤ zq ∧ (zq < 8 ∨ zq = 0)) (L' := fun _ => [dkP bs b (K + 1 + 3 * cn + 1 + 1 + 1 + 1 + 1)]) tabOk [dkP bs b (K + 1 + 3 * cn + 1 + 1 + 1 + 1)] _ (fun x => x = b) rfl rfl rfl rfl (Sp.cons (by repeat constructor) (Sp.refl _)) (fun x hx => ⟨_, .head _, hx⟩) (fun w' hs => drawP_ca (8) (K + 1 + 3 * cn + 1 + 1 + 1 + 1) (by omega) w' b lo hi bs (hby.keepP hlh hs.chg) hlh (hs.all _ (.head _))) ?_; rintro y2 _ ⟨rfl, hy2⟩
    have hm2 := mul_bd (a := 10 * y2) (b := la) (A := 70) (B := 6) (by omega) (by omega) (by omega) (by omega)
    (refine qf_ar tabOk rfl rfl rfl rfl (by omega) (by omega) (qf_pure tabOk rfl rfl rfl ?_); refine qf_loadBa tabOk rfl rfl rfl ?_; refine qf_ar tabOk rfl rfl rfl rfl (by omega) (by omega) (qf_pure tabOk rfl rfl rfl (qf_pure tabOk rfl rfl rfl (qf_nil (q_seq (q_region ?_))))); (iterate 3 refine ql_pure tabOk rfl rfl ?_))
    generalize la * (1500 + 100 * y1) = q1 at *
    generalize 10 * y2 * la = q2 at *
    refine ql_call (β := Int) (ψ := fun zq v => v = .int .i64 zq ∧ 0 ≤ zq ∧ (zq < 30 ∨ zq = 0)) (L' := fun _ => [dkP bs b (K + 1 + 3 * cn + 1 + 1 + 1 + 1 + 1 + 1)]) tabOk [dkP bs b (K + 1 + 3 * cn + 1 + 1 + 1 + 1 + 1)] _ (fun x => x = b) rfl rfl rfl rfl (Sp.cons (by repeat constructor) (Sp.refl _)) (fun x hx => ⟨_, .head _, hx⟩) (fun w' hs => drawP_ca (30) (K + 1 + 3 * cn + 1 + 1 + 1 + 1 + 1) (by omega) w' b lo hi bs (hby.keepP hlh hs.chg) hlh (hs.all _ (.head _))) ?_; rintro z1 _ ⟨rfl, hz1⟩
    (refine ql_ar tabOk rfl rfl rfl rfl (by omega) (by omega) (ql_ar tabOk rfl rfl rfl rfl (by omega) (by omega) ?_))
    refine ql_callv tabOk rfl rfl rfl rfl (fun w hs => spanM_ca _ _ w) ?_
    ((iterate 3 refine ql_pure tabOk rfl rfl ?_))
    refine ql_call (β := Int) (ψ := fun zq v => v = .int .i64 zq ∧ 0 ≤ zq ∧ (zq < 40 ∨ zq = 0)) (L' := fun _ => [dkP bs b (K + 1 + 3 * cn + 1 + 1 + 1 + 1 + 1 + 1 + 1)]) tabOk [dkP bs b (K + 1 + 3 * cn + 1 + 1 + 1 + 1 + 1 + 1)] _ (fun x => x = b) rfl rfl rfl rfl (Sp.cons (by repeat constructor) (Sp.refl _)) (fun x hx => ⟨_, .head _, hx⟩) (fun w' hs => drawP_ca (40) (K + 1 + 3 * cn + 1 + 1 + 1 + 1 + 1 + 1) (by omega) w' b lo hi bs (hby.keepP hlh hs.chg) hlh (hs.all _ (.head _))) ?_; rintro z2 _ ⟨rfl, hz2⟩
    (refine ql_ar tabOk rfl rfl rfl rfl (by omega) (by omega) (ql_ar tabOk rfl rfl rfl rfl (by omega) (by omega) ?_))
    refine ql_callv tabOk rfl rfl rfl rfl (fun w hs => spanM_ca _ _ w) ?_
    (refine ql_pure tabOk rfl rfl ?_)
    refine ql_call (β := Int) (ψ := fun zq v => v = .int .i64 zq ∧ 0 ≤ zq ∧ (zq < 4 ∨ zq = 0)) (L' := fun _ => [dkP bs b (K + 1 + 3 * cn + 1 + 1 + 1 + 1 + 1 + 1 + 1 + 1)]) tabOk [dkP bs b (K + 1 + 3 * cn + 1 + 1 + 1 + 1 + 1 + 1 + 1)] _ (fun x => x = b) rfl rfl rfl rfl (Sp.cons (by repeat constructor) (Sp.refl _)) (fun x hx => ⟨_, .head _, hx⟩) (fun w' hs => drawP_ca (4) (K + 1 + 3 * cn + 1 + 1 + 1 + 1 + 1 + 1 + 1) (by omega) w' b lo hi bs (hby.keepP hlh hs.chg) hlh (hs.all _ (.head _))) ?_; rintro z3 _ ⟨rfl, hz3⟩
    (refine ql_ar tabOk rfl rfl rfl rfl (by omega) (by omega) (ql_ar tabOk rfl rfl rfl rfl (by omega) (by omega) (ql_pure tabOk rfl rfl ?_)))
    refine ql_call (β := Int) (ψ := fun zq v => v = .int .i64 zq ∧ 0 ≤ zq ∧ (zq < 10 ∨ zq = 0)) (L' := fun _ => [dkP bs b (K + 1 + 3 * cn + 1 + 1 + 1 + 1 + 1 + 1 + 1 + 1 + 1)]) tabOk [dkP bs b (K + 1 + 3 * cn + 1 + 1 + 1 + 1 + 1 + 1 + 1 + 1)] _ (fun x => x = b) rfl rfl rfl rfl (Sp.cons (by repeat constructor) (Sp.refl _)) (fun x hx => ⟨_, .head _, hx⟩) (fun w' hs => drawP_ca (10) (K + 1 + 3 * cn + 1 + 1 + 1 + 1 + 1 + 1 + 1 + 1) (by omega) w' b lo hi bs (hby.keepP hlh hs.chg) hlh (hs.all _ (.head _))) ?_; rintro z4 _ ⟨rfl, hz4⟩
    (refine ql_ar tabOk rfl rfl rfl rfl (by omega) (by omega) (ql_ar tabOk rfl rfl rfl rfl (by omega) (by omega) ?_))
    refine ql_callv tabOk rfl rfl rfl rfl (fun w hs => spanM_ca _ _ w) ?_
    (refine ql_pure tabOk rfl rfl ?_)
    refine ql_stA [.int .i64 la, .int .i64 q1, .int .i64 (q1 + 100 * z1), .int .i64 0, .int .i64 0, .int .i64 0, .int .i64 0, .int .i64 wd, .int .i64 us] tabOk rfl rfl rfl rfl rfl (by repeat constructor) rfl rfl ?_
    (refine ql_pure tabOk rfl rfl ?_)
    refine ql_stA [.int .i64 la, .int .i64 q1, .int .i64 (q1 + 100 * z1), .int .i64 q2, .int .i64 (q2 + 10 * z2), .int .i64 0, .int .i64 0, .int .i64 wd, .int .i64 us] tabOk rfl rfl rfl rfl rfl (by repeat constructor) rfl rfl ?_
    (refine ql_pure tabOk rfl rfl ?_)
    refine ql_stA [.int .i64 la, .int .i64 q1, .int .i64 (q1 + 100 * z1), .int .i64 q2, .int .i64 (q2 + 10 * z2), .int .i64 (1500 + 100 * z3), .int .i64 (2500 + 100 * z4), .int .i64 wd, .int .i64 us] tabOk rfl rfl rfl rfl rfl (by repeat constructor) rfl rfl ?_
    (refine q_nil (q_seq ?_))
    refine q_draw _ [.pt b7 _ _] (Sp.cons (by repeat constructor) (Sp.refl _)) (by kernel_rfl) (by kernel_rfl) ?_
    (refine qf_pure tabOk rfl rfl rfl ?_; refine qf_loadABa tabOk rfl rfl rfl ?_; refine qf_pure tabOk rfl rfl rfl ?_; refine qf_setA tabOk rfl rfl rfl rfl rfl (by repeat constructor) rfl ?_; refine qf_nil (q_ret ?_))
    refine q_fin tabOk rfl (by repeat constructor) fun w hs => ?_
    exact ⟨(g, cd, l, ⟨la, q1, q1 + 100 * z1, q2, q2 + 10 * z2, 1500 + 100 * z3, 2500 + 100 * z4, wd, us⟩), ⟨by rw [hle]; rfl, ⟨by simp only; omega, by simp only; omega, hB, by simp only; omega, by simp only; omega, by simp only; omega, by simp only; omega, by simp only; omega, by simp only; omega⟩⟩, by
      dsimp only
      rw [hle]
      exact (Sat.dk (K' := K + 100) (R := [.ow (.slice (some ⟨g, 0, none⟩) cn cd) 61 3 cn (lpC l)]) (hs.sp (by repeat constructor)) (by omega)).sp (by repeat constructor)⟩
end Go.Proofs.YtpknmgafambmbaaGreat

/- The plain law of TopSnow: a winter in which snow is needed besides on one day. -/
namespace Go.Proofs.YtpknmgafambmbaaGreat
open Go

def snD (d : Dy) (n : Int) : Dy := ⟨d.n0 + n, d.n1 + n, d.m0, d.m1, d.l0, d.l1⟩
def rcL (l : List Dy) (j : Nat) (n : Int) : List Dy := l.set j (snD (l.getD j ⟨0, 0, 0, 0, 0, 0⟩) n)
/-- The winter x in which n is needed besides on day j. -/
def rcW (x : Wn) (j : Nat) (n : Int) : Wn := ⟨x.stock, x.store, rcL x.days j n⟩
theorem rcL_len (l : List Dy) (j : Nat) (n : Int) : (rcL l j n).length = l.length := by simp [rcL]
theorem rcL_at (l : List Dy) (j : Nat) (n : Int) (i : Nat) (h : i < (rcL l j n).length) (h' : i < l.length) : (rcL l j n)[i] = if j = i then snD l[i] n else l[i] := by
  show (l.set j (snD (l.getD j ⟨0, 0, 0, 0, 0, 0⟩) n))[i]'(by simpa [rcL] using h) = _
  rw [List.getElem_set]
  split
  · rename_i e
    subst e
    rw [List.getD_eq_getElem?_getD, List.getElem?_eq_getElem h', Option.getD_some]
  · rfl
/-- Small spans of a day. -/
structure DayS (d : Dy) : Prop where
  n : 0 ≤ d.n0 ∧ d.n0 ≤ d.n1 ∧ d.n1 ≤ 2000
  m : 0 ≤ d.m0 ∧ d.m0 ≤ d.m1 ∧ d.m1 ≤ 2000
  l : 0 ≤ d.l0 ∧ d.l0 ≤ d.l1 ∧ d.l1 ≤ 2000
structure WinS (x : Wn) : Prop where
  store : 1 ≤ x.store ∧ x.store ≤ 1000000
  stock : 0 ≤ x.stock ∧ x.stock ≤ x.store
  d1 : 1 ≤ x.days.length
  d2 : x.days.length ≤ 60
  days : ∀ d ∈ x.days, DayS d
theorem rc_right {x : Wn} (hx : WinS x) (j : Nat) {n : Int} (hn : 0 ≤ n ∧ n ≤ 90000) : (rcW x j n).Right := by
  refine ⟨hx.store, hx.stock, by show 1 ≤ (rcL _ _ _).length; rw [rcL_len]; exact hx.d1, by show (rcL _ _ _).length ≤ 60; rw [rcL_len]; exact hx.d2, fun d hd => ?_⟩
  obtain ⟨i, hi, rfl⟩ := List.getElem_of_mem (show d ∈ rcL x.days j n from hd)
  have hi' : i < x.days.length := by rwa [rcL_len] at hi
  rw [rcL_at _ _ _ _ hi hi']
  have h := hx.days _ (List.getElem_mem hi')
  have a := h.n
  have b := h.m
  have c := h.l
  split
  · exact ⟨by dsimp only [snD]; omega, by dsimp only [snD]; omega, by dsimp only [snD]; omega⟩
  · exact ⟨by omega, by omega, by omega⟩
theorem rc_worst {x : Wn} (j : Nat) {n m : Int} (hnm : n ≤ m) (k : Nat) (hk : k < x.days.length) :
    (worstW (rcW x j n)).need.getD k 0 ≤ (worstW (rcW x j m)).need.getD k 0 ∧ (worstW (rcW x j n)).make.getD k 0 = (worstW (rcW x j m)).make.getD k 0 ∧ (worstW (rcW x j n)).loss.getD k 0 = (worstW (rcW x j m)).loss.getD k 0 := by
  have h1 := worst_get (rcW x j n) k (by show k < (rcL _ _ _).length; rw [rcL_len]; exact hk)
  have h2 := worst_get (rcW x j m) k (by show k < (rcL _ _ _).length; rw [rcL_len]; exact hk)
  have e1 : (rcW x j n).days[k]'(by show k < (rcL _ _ _).length; rw [rcL_len]; exact hk) = if j = k then snD x.days[k] n else x.days[k] := rcL_at _ _ _ _ _ hk
  have e2 : (rcW x j m).days[k]'(by show k < (rcL _ _ _).length; rw [rcL_len]; exact hk) = if j = k then snD x.days[k] m else x.days[k] := rcL_at _ _ _ _ _ hk
  rw [e1] at h1
  rw [e2] at h2
  rw [h1.1, h1.2.1, h1.2.2, h2.1, h2.2.1, h2.2.2]
  split
  · exact ⟨by dsimp only [snD]; omega, rfl, rfl⟩
  · exact ⟨Int.le_refl _, rfl, rfl⟩
theorem rc_nd {x : Wn} (hx : WinS x) (j : Nat) {n m : Int} (hn : 0 ≤ n) (hnm : n ≤ m) (hm : m ≤ 90000) : ∀ k, k ≤ x.days.length → (ndP (rcW x j n) k).1 ≤ (ndP (rcW x j m) k).1 ∧ (ndP (rcW x j n) k).2 ≤ (ndP (rcW x j m) k).2
  | 0, _ => by simp [ndP]
  | k + 1, hk => by
    have ih := rc_nd hx j hn hnm hm k (by omega)
    have hr := rc_worst (x := x) j hnm (x.days.length - 1 - k) (by omega)
    have h3 := getD_in (worst_fine (rc_right hx j (n := m) (by omega))).loss0 (by omega) (by omega) (x.days.length - 1 - k)
    have l1 : (rcW x j n).days.length = x.days.length := rcL_len _ _ _
    have l2 : (rcW x j m).days.length = x.days.length := rcL_len _ _ _
    simp only [ndP, l1, l2]
    generalize (worstW (rcW x j n)).need.getD (x.days.length - 1 - k) 0 = a1 at *
    generalize (worstW (rcW x j n)).make.getD (x.days.length - 1 - k) 0 = a2 at *
    generalize (worstW (rcW x j n)).loss.getD (x.days.length - 1 - k) 0 = a3 at *
    generalize (worstW (rcW x j m)).need.getD (x.days.length - 1 - k) 0 = b1 at *
    generalize (worstW (rcW x j m)).make.getD (x.days.length - 1 - k) 0 = b2 at *
    generalize (worstW (rcW x j m)).loss.getD (x.days.length - 1 - k) 0 = b3 at *
    refine ⟨?_, by omega⟩
    split <;> split <;> omega
/-- Who needs less comes through as long, with as little. -/
theorem rc_mono {x : Wn} (hx : WinS x) (j : Nat) {n m : Int} (hn : 0 ≤ n) (hnm : n ≤ m) (hm : m ≤ 90000) :
    (((firstV (rcW x j n)).2 = 0 ∨ (firstV (rcW x j n)).2 = 6) ∧ ((firstV (rcW x j m)).2 = 6 → (firstV (rcW x j n)).2 = 6) ∧ ((firstV (rcW x j n)).2 = 0 → (firstV (rcW x j m)).2 = 0 ∧ (firstV (rcW x j m)).1 ≤ (firstV (rcW x j n)).1)) ∧
    ((leastV (rcW x j n)).2 = 0 ∨ (leastV (rcW x j n)).2 = 6) ∧ ((leastV (rcW x j m)).2 = 0 → (leastV (rcW x j n)).2 = 0 ∧ (leastV (rcW x j n)).1 ≤ (leastV (rcW x j m)).1) := by
  have r1 := rc_right hx j (n := n) (by omega)
  have r2 := rc_right hx j (n := m) (by omega)
  have l1 : (rcW x j n).days.length = x.days.length := rcL_len _ _ _
  have l2 : (rcW x j m).days.length = x.days.length := rcL_len _ _ _
  constructor
  · have hf := fails_mono r2.stock r1.stock (worst_fine r2).need0 (worst_fine r1).need0 x.days.length (sq_mono (rcW x j m) (rcW x j n) (worstW (rcW x j m)) (worstW (rcW x j n)) (Int.le_refl _) (Int.le_refl _) x.days.length (fun k hk => (rc_worst j hnm k hk).1) (fun k hk => by rw [(rc_worst j hnm k hk).2.1]; exact Int.le_refl _) (fun k hk => by rw [(rc_worst j hnm k hk).2.2]; exact Int.le_refl _))
    have e1 : hapV (rcW x j n) (worstW (rcW x j n)) = hapP (rcW x j n) (worstW (rcW x j n)) x.days.length := by unfold hapV; rw [l1]
    have e2 : hapV (rcW x j m) (worstW (rcW x j m)) = hapP (rcW x j m) (worstW (rcW x j m)) x.days.length := by unfold hapV; rw [l2]
    rw [← e1, ← e2] at hf
    rcases first_cases r1 with ⟨a1, _, a2⟩ | ⟨f1, _, a2, a1, _⟩ <;> rcases first_cases r2 with ⟨b1, _, b2⟩ | ⟨f2, _, b2, b1, _⟩ <;> rw [a1, b1] <;> rw [a2, b2] at hf <;> dsimp only
    · exact ⟨.inr rfl, fun _ => rfl, fun h => by omega⟩
    · exact ⟨.inr rfl, fun _ => rfl, fun h => by omega⟩
    · omega
    · exact ⟨.inl rfl, fun h => by omega, fun _ => ⟨rfl, by omega⟩⟩
  · have h1 := least_eq r1
    have h2 := least_eq r2
    have h3 := rc_nd hx j hn hnm hm x.days.length (Nat.le_refl _)
    have e1 : neededV (rcW x j n) = ndP (rcW x j n) x.days.length := by unfold neededV; rw [l1]
    have e2 : neededV (rcW x j m) = ndP (rcW x j m) x.days.length := by unfold neededV; rw [l2]
    rw [← e1, ← e2] at h3
    have s1 : (rcW x j n).store = x.store := rfl
    have s2 : (rcW x j m).store = x.store := rfl
    rw [h1, h2, s1, s2]
    constructor
    · split <;> simp
    · split
      · intro h; cases h
      · rw [if_neg (by omega)]
        exact fun _ => ⟨rfl, h3.1⟩
theorem areaP_bdM {most laps : Nat} {s : List Lp} {r : Rl} (hm : MadeS most laps s r) (c : List Int) : ∀ k, k ≤ s.length → 0 ≤ areaP s c k ∧ areaP s c k ≤ 27200 * k
  | 0, _ => by simp [areaP]
  | k + 1, hk => by
    have ih := areaP_bdM hm c k (by omega)
    have e : lpAt s (k : Int) = s[k] := by unfold lpAt; rw [Int.toNat_natCast, List.getD_eq_getElem?_getD, List.getElem?_eq_getElem (by omega), Option.getD_some]
    have h := hm.all _ (List.getElem_mem (show k < s.length by omega))
    rw [areaP_succ]
    split
    · rw [e]
      have h1 : 0 ≤ s[k].len * s[k].wide := Int.mul_nonneg (by have := h.len; omega) (by have := h.wide; omega)
      have h2 : s[k].len * s[k].wide ≤ 3400 * 8 := Int.mul_le_mul h.len.2 h.wide.2 (by have := h.wide; omega) (by omega)
      omega
    · omega
theorem snowM {most laps : Nat} {s : List Lp} {r : Rl} (hm : MadeS most laps s r) (h5 : most ≤ 5) (c : List Int) : 0 ≤ snowV s c 1 ∧ snowV s c 1 ≤ 2000 := by
  have h := areaP_bdM hm c s.length (Nat.le_refl _)
  have := hm.n2
  unfold snowV areaV
  omega
/-- The courses that are held are those that some volume covers. -/
theorem held_cov {s : List Lp} {r : Rl} (f : Int → Bool) (hmo : ∀ n m, 0 ≤ n → n ≤ m → m ≤ 90000 → f m = true → f n = true) (hs : ∀ c ∈ allC s r, 1 ≤ snowV s c 1 ∧ snowV s c 1 ≤ 2000) (most : Int) (h0 : 0 ≤ most)
    (h1 : ∀ c ∈ allC s r, f (snowV s c 1) = true → snowV s c 1 ≤ most) (h2 : most = 0 ∨ ∃ c ∈ allC s r, f (snowV s c 1) = true ∧ most = snowV s c 1) :
    covL s r 1 most = (allC s r).filter fun c => f (snowV s c 1) := by
  rw [covL_filter]
  refine List.filter_congr fun c hc => ?_
  have h3 := hs c hc
  have h4 := h1 c hc
  by_cases hf : f (snowV s c 1) = true
  · rw [hf]
    simpa using h4 hf
  · have hf' : f (snowV s c 1) = false := by simpa using hf
    rw [hf', decide_eq_false_iff_not]
    intro h5
    rcases h2 with h2 | ⟨c0, hc0, hf0, rfl⟩
    · omega
    · exact hf (hmo _ _ (by omega) h5 (by have := hs c0 hc0; omega) hf0)
end Go.Proofs.YtpknmgafambmbaaGreat

/- The walk of CourseMore. -/
namespace Go.Proofs.YtpknmgafambmbaaGreat
open Go Go.Eng

theorem dy_cellS {w : World} {g off i : Nat} {t : TypeId} {l : List Dy} {d : Dy} {sp : List Value} (h : Blk w g (dyC (l.set i d) ++ sp) t) (hi : i < l.length) (f : Nat) (hf : f < 6) (ho : off = i * 6 + f) : w.cell? ⟨g, off, none⟩ = some (.int .i64 (fldD d f)) := by
  subst ho
  have := dy_cell h i f (by simpa using hi) hf
  simpa using this
theorem dy_cell2 {w : World} {g i : Nat} {t : TypeId} {l : List Dy} {d : Dy} {sp : List Value} (h : Blk w g (dyC (l.set i d) ++ sp) t) (hi : i < l.length) (a b : Nat) (hf : a + b < 6) : w.cell? ⟨g, 0 + (i : Int).toNat * 6 + a + b, none⟩ = some (.int .i64 (fldD d (a + b))) :=
  dy_cellS h hi (a + b) hf (by simp; omega)
section
variable {P : Program} {T : Tab} {ro : Cx} {n : Nat} {F : Fin} {w0 : World} {M : Nat → Prop} {k : List It} {ops : Array Oper} {rest : List Oper} {e : Env} {H Hq : List Ck}
theorem qf_dyT (hT : T.Ok P) {t : Nat} {x y : Operand} {g off : Nat} {l : List Dy} {d : Dy} {sp : List Value} {v : Int} {H' : List Ck} {ty bt : TypeId} {pos : String} {af : Array Edge} (i f : Nat) (d' : Dy)
    (hx : opv e x = some (.pointer (some ⟨g, off, none⟩))) (hy : opv e y = some (.int .i64 v)) (h1 : has T.one t = true) (ho : off = i * 6 + f) (hf : f < 6) (hi : i < l.length) (hd : setD d f v = d') (hr : Rp H (.pt g (dyC (l.set i d) ++ sp) bt) (.pt g (dyC (l.set i d') ++ sp) bt) H')
    (h : QF P ro n F w0 M k ops Hq rest e H') : QF P ro n F w0 M k ops Hq (⟨none, .store t x y, ty, pos, af, none⟩ :: rest) e H := by
  refine qf_dyS (l := l.set i d) (sp := sp) hT i f d' hx hy h1 ho hf (by simpa using hi) (by simpa using hd) (by rw [List.set_set]; exact hr) h
end
theorem least_caN (w : World) (lo hi : Nat) (x : Wn) (a : Option Addr) (c N : Nat) (h : RdD w lo hi (.slice a x.days.length c) x.days) (hlen : x.days.length ≤ 1000000) (hN : x.days.length = N) :
    Ca Tryz.prog 13 [.agg #[.int .i64 x.stock, .int .i64 x.store, .slice a N c]] w fun r w' => r = .tuple #[.int .i64 (leastV x).1, .int .i64 (leastV x).2] ∧ Chg [] w w' := by
  subst hN
  exact least_ca w lo hi x a c h hlen
theorem first_caN (w : World) (lo hi : Nat) (x : Wn) (a : Option Addr) (c N : Nat) (h : RdD w lo hi (.slice a x.days.length c) x.days) (hlen : x.days.length ≤ 1000000) (hN : x.days.length = N) :
    Ca Tryz.prog 12 [.agg #[.int .i64 x.stock, .int .i64 x.store, .slice a N c]] w fun r w' => r = .tuple #[.int .i64 (firstV x).1, .int .i64 (firstV x).2] ∧ Chg [] w w' := by
  subst hN
  exact first_ca w lo hi x a c h hlen
/-- The days made richer so far. -/
structure RichI (l0 : List Dy) (k : Nat) (l : List Dy) : Prop where
  len : l.length = l0.length
  done : ∀ i, i < k → ∀ (h : i < l0.length) (h' : i < l.length), RichD l0[i] l[i]
  rest : ∀ i, k ≤ i → ∀ (h : i < l0.length) (h' : i < l.length), l[i] = l0[i]
theorem RichI.step {l0 l : List Dy} {k : Nat} (h : RichI l0 k l) (hk : k < l0.length) {d : Dy} (hd : RichD l0[k] d) : RichI l0 (k + 1) (l.set k d) := by
  refine ⟨by simp [h.len], fun i hi h1 h2 => ?_, fun i hi h1 h2 => ?_⟩
  · by_cases hik : i = k
    · subst hik
      simpa using hd
    · rw [List.getElem_set_ne (by omega)]
      exact h.done i (by omega) h1 (by simpa using h2)
  · rw [List.getElem_set_ne (by omega)]
    exact h.rest i (by omega) h1 (by simpa using h2)
theorem RichD.right {d d' : Dy} (h : RichD d d') (hd : d.Right) : d'.Right := by
  have a := h.n
  have b := h.m
  have c := h.l
  have a' := hd.n
  have b' := hd.m
  have c' := hd.l
  exact ⟨by omega, by omega, by omega⟩

end Go.Proofs.YtpknmgafambmbaaGreat

/- Plain laws of proofs: a day that needs less, and a day on which more is made. -/
namespace Go.Proofs.YtpknmgafambmbaaGreat
open Go

/-- A winter with one day changed. -/
def putD (w : Wn) (i : Nat) (d : Dy) : Wn := ⟨w.stock, w.store, w.days.set i d⟩
end Go.Proofs.YtpknmgafambmbaaGreat

/- The walk of CourseProved. -/
namespace Go.Proofs.YtpknmgafambmbaaGreat
open Go Go.Eng

section
variable {P : Program} {T : Tab} {ro : Cx} {n : Nat} {F : Fin} {w0 : World} {M : Nat → Prop} {k : List It} {ops : Array Oper} {rest : List Oper} {e : Env} {H Hq : List Ck}
theorem ql_dyT (hT : T.Ok P) {t : Nat} {x y : Operand} {g off : Nat} {l : List Dy} {d : Dy} {sp : List Value} {v : Int} {H' : List Ck} {ty bt : TypeId} {pos : String} {af : Array Edge} (i f : Nat) (d' : Dy)
    (hx : opv e x = some (.pointer (some ⟨g, off, none⟩))) (hy : opv e y = some (.int .i64 v)) (h1 : has T.one t = true) (ho : off = i * 6 + f) (hf : f < 6) (hi : i < l.length) (hd : setD d f v = d') (hr : Rp H (.pt g (dyC (l.set i d) ++ sp) bt) (.pt g (dyC (l.set i d') ++ sp) bt) H')
    (h : QL P ro n F w0 M k ops rest e H') : QL P ro n F w0 M k ops (⟨none, .store t x y, ty, pos, af, none⟩ :: rest) e H := by
  refine ql_dyS (l := l.set i d) (sp := sp) hT i f d' hx hy h1 ho hf (by simpa using hi) (by simpa using hd) (by rw [List.set_set]; exact hr) h
end
end Go.Proofs.YtpknmgafambmbaaGreat

/- A race of one skier, without chips: how far its points are from one another. -/
namespace Go.Proofs.YtpknmgafambmbaaGreat

def rlx (s : List Int × Int) (e : Int × Int × Int) : List Int × Int :=
  if s.1.getD e.1.toNat 0 < 1125899906842624 ∧ s.1.getD e.1.toNat 0 + e.2.2 < s.1.getD e.2.1.toNat 0 then (s.1.set e.2.1.toNat (s.1.getD e.1.toNat 0 + e.2.2), e.2.1) else s
def rnd (E : List (Int × Int × Int)) (far : List Int) : List Int × Int := E.foldl rlx (far, -1)
def spr (E : List (Int × Int × Int)) : Nat → List Int → Option (List Int)
  | 0, _ => none
  | f + 1, far => if (rnd E far).2 < 0 then some (rnd E far).1 else spr E f (rnd E far).1
def far0 (N : Nat) (fr : Int) : List Int := (List.range N).map fun (p : Nat) => if fr < 0 ∨ (p : Int) = fr then 0 else 1125899906842624
/-- The edges of the splits, beyond point i. -/
def splE : List Int → Int → List (Int × Int × Int)
  | [], _ => []
  | n :: l, i => (i, i + 1, 2 * n) :: (i + 1, i, -n) :: splE l (i + 1)
def edgE (L : List Int) : List (Int × Int × Int) := (0, 1, 300) :: (1, 0, -300) :: splE L 1

theorem rlx_yes {far : List Int} {l a b c x y : Int} (h1 : far.getD a.toNat 0 = x) (h2 : far.getD b.toNat 0 = y) (h : x < 1125899906842624 ∧ x + c < y) : rlx (far, l) (a, b, c) = (far.set b.toNat (x + c), b) := by
  subst h1 h2
  unfold rlx
  rw [if_pos h]
theorem rlx_no {far : List Int} {l a b c x y : Int} (h1 : far.getD a.toNat 0 = x) (h2 : far.getD b.toNat 0 = y) (h : ¬ (x < 1125899906842624 ∧ x + c < y)) : rlx (far, l) (a, b, c) = (far, l) := by
  subst h1 h2
  unfold rlx
  rw [if_neg h]
theorem spr_end {E : List (Int × Int × Int)} {far R : List Int} {f : Nat} (h : rnd E far = (R, -1)) : spr E (f + 1) far = some R := by
  show (if (rnd E far).2 < 0 then some (rnd E far).1 else spr E f (rnd E far).1) = _
  rw [h]
  rfl
theorem spr_on {E : List (Int × Int × Int)} {far R : List Int} {f : Nat} {b : Int} (h : rnd E far = (R, b)) (hb : 0 ≤ b) : spr E (f + 1) far = spr E f R := by
  show (if (rnd E far).2 < 0 then some (rnd E far).1 else spr E f (rnd E far).1) = _
  rw [h]
  exact if_neg (by show ¬ b < 0; omega)
theorem len3 {L : List Int} (h : 1 ≤ L.length ∧ L.length ≤ 3) : (∃ a, L = [a]) ∨ (∃ a b, L = [a, b]) ∨ ∃ a b c, L = [a, b, c] := by
  rcases L with _ | ⟨a, _ | ⟨b, _ | ⟨c, _ | ⟨d, l⟩⟩⟩⟩ <;> simp at h ⊢
end Go.Proofs.YtpknmgafambmbaaGreat

/- The engine, part B28: a byte of a string. -/
namespace Go.Eng
open Go Go.RowKit

section
variable {P : Program} {T : Tab}
variable {ro : Cx} {n : Nat} {F : Fin} {w0 : World} {M : Nat → Prop} {k : List It} {ops : Array Oper} {rest : List Oper} {e : Env} {H Hq : List Ck}
end
end Go.Eng

/- The engine, part B29: bits of numbers joined. -/
namespace Go.Eng
open Go Go.RowKit

section
variable {P : Program} {ro : Cx} {n : Nat} {F : Fin} {w0 : World} {M : Nat → Prop} {k : List It} {ops : Array Oper} {rest : List Oper} {e : Env} {H Hq : List Ck}
end
end Go.Eng
