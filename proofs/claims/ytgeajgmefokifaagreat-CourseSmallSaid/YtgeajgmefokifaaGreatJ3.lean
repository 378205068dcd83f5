/- My texts K4, K5, K6, K7, K8, K9, K10, K11, K12, K13, K14, K15, K16, K17, K18, B26, K19, K20, K21, K22, joined: a claim takes at most 60 files. -/
import Derived.Test.YtgeajgmefokifaaGreatJ2
import Derived.ChangeKeysEq

/- Walks: what happens in a weather. -/
/- long -/
namespace Go.Proofs.YtgeajgmefokifaaGreat
open Go Go.Eng

/-- Numbers of piles. -/
def PB (l : List (Int × Int)) : Prop := ∀ y ∈ l, 0 ≤ y.2 ∧ y.2 ≤ 10000000
theorem remP_pb : ∀ (l : List (Int × Int)) (much : Int), PB l → PB (eI much l) ∧ (eI much l).length ≤ l.length
 | [], _, _ => ⟨by simp [eI, PB], by simp [eI]⟩
 | (d, m) :: r, much, h => by
  have hm := h (d, m) List.mem_cons_self
  have hr : PB r := fun y hy => h y (List.mem_cons_of_mem _ hy)
  simp only at hm
  unfold eI
  split
  ·split
   ·have ih := remP_pb r (much - min much m) hr
    exact ⟨ih.1, by simp only [List.length_cons]; omega⟩
   ·refine ⟨fun y hy => ?_, by simp⟩
    rcases List.mem_cons.1 hy with rfl | hy
    ·simp only; omega
    ·exact hr y hy
  ·exact ⟨h, Nat.le_refl _⟩
theorem addP_pb {l : List (Int × Int)} {d m : Int} (h : PB l) (hm : m ≤ 10000000) : PB (kN d m l) ∧ (kN d m l).length ≤ l.length + 1 := by
 unfold kN
 split
 ·refine ⟨fun y hy => ?_, by simp⟩
  rcases List.mem_append.1 hy with hy | hy
  ·exact h y hy
  ·obtain rfl := List.mem_singleton.1 hy
   simp only; omega
 ·exact ⟨h, by omega⟩
theorem hap_pb (x : Wn) (t : Wt) (h0 : 0 ≤ x.stock ∧ x.stock ≤ x.store ∧ x.store ≤ 1000000) (hn : ∀ y ∈ t.need, 0 ≤ y ∧ y ≤ 200000) (hm : ∀ y ∈ t.make, 0 ≤ y ∧ y ≤ 200000) : ∀ k, PB (hapP x t k).piles ∧ (hapP x t k).piles.length ≤ k + 1
 | 0 => by
  have := addP_pb (l := []) (d := -1) (m := x.stock) (by simp [PB]) (by omega)
  exact ⟨this.1, this.2⟩
 | k + 1 => by
  obtain ⟨h1, h2⟩ := hap_pb x t h0 hn hm k
  rw [hapP]
  split
  ·unfold dayS
   split
   ·exact ⟨h1, by simp only; omega⟩
   ·have g1 := remP_pb _ (fE (hapP x t k).stock (t.loss.getD k 0)) h1
    have hmd : eE x.store (hapP x t k).stock (t.make.getD k 0) (t.loss.getD k 0) ≤ 10000000 := by
     have := dP hm (by omega) (by omega) k
     unfold eE
     omega
    have g2 := addP_pb (d := (k : Int)) g1.1 hmd
    have g3 := remP_pb _ (t.need.getD k 0) g2.1
    exact ⟨g3.1, by simp only; omega⟩
  ·exact ⟨h1, by omega⟩

theorem nil_plK {w0 w : World} {M : Nat → Prop} {R : List Ck} (h : Sat w0 M R w) : Sat w0 M (plK (.slice none 0 0) [] :: R) w :=
 h.add (Chg.refl _ _) ⟨rfl, .inl ⟨.inl rfl, rfl⟩⟩ (fun b hb => by obtain ⟨_, _, _, hv⟩ := hb; cases hv)

/-- A weather that can be read. -/
structure WtR (w : World) (t : Wt) (v1 v2 v3 : Value) : Prop where
 n : ∃ lo hi, RdI w lo hi v1 t.need
 m : ∃ lo hi, RdI w lo hi v2 t.make
 l : ∃ lo hi, RdI w lo hi v3 t.loss
theorem WtR.keep {w w' : World} {t : Wt} {v1 v2 v3 : Value} (h : WtR w t v1 v2 v3) (c : Chg [] w w') : WtR w' t v1 v2 v3 := by
 obtain ⟨⟨a, b, h1⟩, ⟨a2, b2, h2⟩, a3, b3, h3⟩ := h
 exact ⟨⟨a, b, RdE.keep h1 c⟩, ⟨a2, b2, RdE.keep h2 c⟩, a3, b3, RdE.keep h3 c⟩

set_option maxHeartbeats 4000000 in
theorem iJ (w : World) (x : Wn) (ad : Option Addr) (c : Nat) (t : Wt) (v1 v2 v3 : Value) (hx : 0 ≤ x.stock ∧ x.stock ≤ x.store ∧ x.store ≤ 1000000) (hlen : x.days.length ≤ 60) (ht : t.Fine x.days.length) (hw : WtR w t v1 v2 v3) :
  Ca Tryz.prog 114 [.agg (wnC x ad c).toArray, .agg #[v1, v2, v3]] w fun r w' => ∃ y : Nat × Value × Value × Value, r = .pointer (some ⟨y.1, 0, none⟩) ∧
   Sat w M0 [iD y.1 x ad c (hapV x t).fails (hapV x t).full y.2.1 y.2.2.1 y.2.2.2, .ow y.2.1 3 1 (hapV x t).stocks.length (aP (hapV x t).stocks), .ow y.2.2.1 3 1 (hapV x t).made.length (aP (hapV x t).made), plK y.2.2.2 (hapV x t).piles] w' := by
 obtain ⟨⟨n1, n2, hn⟩, ⟨m1, m2, hm⟩, l1, l2, hl⟩ := hw
 obtain ⟨an, cn, rfl, hsn⟩ := RdI.outI hn
 obtain ⟨am, cm, rfl, hsm⟩ := RdI.outI hm
 obtain ⟨al, cl, rfl, hsl⟩ := RdI.outI hl
 have tn := ht.need
 have tm := ht.make
 have tl := ht.loss
 refine cS (Sat.nil w M0) Tryz.func114 rfl (by simp [Tryz.ntmps114]) ?_
 (refine aD (aB ?_))
 refine bD Z Z (fun b2 => ?_)
 refine bD Z Z (fun b3 => ?_)
 (refine aA V Z Z (aF ?_))
 refine q_scope (fun _ _ _ h => h) ?_
 (refine aD (aB ?_); refine ql_loadAB V Z Z Z (by repeat first | exact .head _ | refine .tail _ ?_) (by rfl) (by rfl) ?_)
 refine dJ #[.int .i64 x.stock, .int .i64 x.store, .slice ad x.days.length c, .int .i64 (-1), .slice none 0 0, .slice none 0 0, .int .i64 (-1), .slice none 0 0] rfl (by kernel_rfl) rfl ?_
 refine bD Z Z (fun br => ?_)
 (refine aA V Z Z (aF (aD (aB ?_))); (iterate 5 refine aA V Z Z ?_); refine fK V Z Z Z (by repeat first | exact .head _ | refine .tail _ ?_) (by rfl) ?_)
 refine lD (H' := [iD br x ad c (-1) (-1) (.slice none 0 0) (.slice none 0 0) (.slice none 0 0), plK (.slice none 0 0) [], .ow (.slice none 0 0) 3 1 0 (aP []), .ow (.slice none 0 0) 3 1 0 (aP []), .pt b3 [.slice an t.need.length cn, .slice am t.make.length cm, .slice al t.loss.length cl] 44])
  (fun w' hs => (nil_plK (Sat.ownil (Sat.ownil hs 3 1) 3 1)).sp (by repeat (first | exact Sp.nil | exact Sp.refl _ | refine Sp.cons (by repeat constructor) ?_))) ?_
 refine bG (β := Value) (ψ := fun pv _ => ∃ a' c', pv = .slice a' (kN (-1) x.stock []).length c') (L' := fun pv => [iD br x ad c (-1) (-1) (.slice none 0 0) (.slice none 0 0) pv, plK pv (kN (-1) x.stock [])]) V [iD br x ad c (-1) (-1) (.slice none 0 0) (.slice none 0 0) (.slice none 0 0), plK (.slice none 0 0) []] _ (DL [iD br x ad c (-1) (-1) (.slice none 0 0) (.slice none 0 0) (.slice none 0 0), plK (.slice none 0 0) []]) rfl rfl rfl rfl (by repeat (first | exact Sp.nil | exact Sp.refl _ | refine Sp.cons (by repeat constructor) ?_)) (fun _ h => h)
  (fun w' hs => (addR_ca w' br x ad c (-1) (-1) (-1) x.stock _ _ none [] (by simp) (Sat.self hs)).mono fun v w'' ⟨pv, h1, h2⟩ => ⟨pv, h1, h2⟩) ?_
 rintro pv _ ⟨a0, c0, rfl⟩
 (refine aF (aD (aB ?_)); (iterate 4 refine aA V Z Z ?_); refine fK V Z Z Z (by repeat first | exact .head _ | refine .tail _ ?_) (by rfl) ?_; refine aA V Z Z (aF (aD (q_label (aD (aD (aB ?_)))))); (iterate 4 refine aA V Z Z ?_); refine fK V Z Z Z (by repeat first | exact .head _ | refine .tail _ ?_) (by rfl) ?_; refine aA V Z Z (aA V Z Z (aF (aQ ?_))))
 refine cB (σ := Nat × Value × Value × Option Addr × Nat) (fun s => s.1 ≤ x.days.length ∧ (hapP x t s.1).fails = -1) (fun s => x.days.length - s.1)
  (fun s => [(3, .pointer (some ⟨b3, 0, none⟩)), (5, .pointer (some ⟨br, 0, none⟩)), (6, .int .i64 (hapP x t s.1).stock), (31, .int .i64 x.days.length), (32, .int .i64 s.1)])
  (fun s => [iD br x ad c (-1) (hapP x t s.1).full s.2.1 s.2.2.1 (.slice s.2.2.2.1 (hapP x t s.1).piles.length s.2.2.2.2), plK (.slice s.2.2.2.1 (hapP x t s.1).piles.length s.2.2.2.2) (hapP x t s.1).piles, .ow s.2.1 3 1 s.1 (aP (hapP x t s.1).stocks), .ow s.2.2.1 3 1 s.1 (aP (hapP x t s.1).made), .pt b3 [.slice an t.need.length cn, .slice am t.make.length cm, .slice al t.loss.length cl] 44])
  (0, .slice none 0 0, .slice none 0 0, a0, c0) ⟨by simp, rfl⟩ ⟨rfl, rfl, rfl, rfl, rfl, trivial⟩ (by repeat (first | exact Sp.nil | exact Sp.refl _ | refine Sp.cons (by repeat constructor) ?_)) ?_
 rintro ⟨k, sv, mv, pa, pc⟩ ⟨hk, hf⟩ K hK
 simp only at hk hf
 dsimp only
 have hok := jM x t ⟨hx.1, hx.2.1⟩ ht.need0 k hf
 have hpb := hap_pb x t hx ht.need0 ht.make0 k
 have hs0 := hok.nn k (Nat.le_refl _)
 have hs1 := hok.top
 rw [← hok.stock] at hs0 hs1
 (refine aD (aB (aA V Z Z (aF (aD ?_)))))
 refine dL Z (fun hc => ?_) (fun hc => ?_)
 ·have hk2 : k < x.days.length := by omega
  clear hc
  obtain ⟨bn, on, rfl⟩ := hsn (by omega)
  obtain ⟨bm, om, rfl⟩ := hsm (by omega)
  obtain ⟨bl, ol, rfl⟩ := hsl (by omega)
  have hnk : k < t.need.length := by omega
  have hmk : k < t.make.length := by omega
  have hlk : k < t.loss.length := by omega
  have en := cR hnk
  have em := cR hmk
  have el := cR hlk
  have bn1 := ht.need0 _ (List.getElem_mem hnk)
  have bm1 := ht.make0 _ (List.getElem_mem hmk)
  have bl1 := ht.loss0 _ (List.getElem_mem hlk)
  have eday : hapP x t (k + 1) = dayS x.store k t.need[k] t.make[k] t.loss[k] (hapP x t k) := by rw [hapP, if_pos hf, en, em, el]
  have hlens : (hapP x t k).stocks.length = k := by rw [hok.stocks]; simp
  have hlenm : (hapP x t k).made.length = k := by rw [hok.made]; simp
  generalize hS : hapP x t k = S at *
  obtain ⟨stk, sts, mds, ful, pls, fl⟩ := S
  simp only at hf hs0 hs1 hpb hlens hlenm
  subst hf
  dsimp only
  (refine aM (aD (aQ (aD (aB (aA V Z Z (aA V Z Z (aF (aD (aB ?_))))))))); (iterate 3 refine aA V Z Z ?_); refine fK V Z Z Z (by repeat first | exact .head _ | refine .tail _ ?_) (by rfl) ?_; refine aA V Z Z (aF (aD (aB (aA V Z Z (aA V Z Z ?_))))); refine fK V Z Z Z (by repeat first | exact .head _ | refine .tail _ ?_) (by rfl) ?_; refine aA V Z Z ?_)
  (refine aV V Z Z Z Z Z (by omega) (by omega) ?_; refine bB V Z Z Z (fun w hs => RdI.at (RdE.keep hl hs.chg0) k hlk) ?_)
  generalize hle : t.loss[k] = ls at *
  generalize hme : t.make[k] = mk at *
  generalize hne : t.need[k] = nd at *
  obtain ⟨lo_, hlo⟩ : ∃ z, z = min stk ls := ⟨_, rfl⟩
  (refine aA V Z Z (aA V Z Z (aF (aD (aB (aA V Z Z (aA V Z Z ?_)))))))
  rw [← hlo]
  refine bG (β := Option Addr) (ψ := fun _ _ => True) (L' := fun a' => [iD br x ad c (-1) ful sv mv (.slice a' (eI lo_ pls).length (eI lo_ pls).length), plK (.slice a' (eI lo_ pls).length (eI lo_ pls).length) (eI lo_ pls), plK (.slice pa pls.length pc) pls]) V [iD br x ad c (-1) ful sv mv (.slice pa pls.length pc), plK (.slice pa pls.length pc) pls] _ (DL [iD br x ad c (-1) ful sv mv (.slice pa pls.length pc), plK (.slice pa pls.length pc) pls]) rfl rfl rfl rfl (by repeat (first | exact Sp.nil | exact Sp.refl _ | refine Sp.cons (by repeat constructor) ?_)) (fun _ h => h)
   (fun w' hs => (remR_ca w' br x ad c (-1) ful lo_ sv mv pa pc pls (by omega) hpb.1 (by omega) (Sat.self hs)).mono fun v w'' ⟨a', h2⟩ => ⟨a', trivial, h2⟩) ?_
  rintro a' v' -
  have hp1 := remP_pb pls lo_ hpb.1
  (refine aF (aD (aB (aA V Z Z (aA V Z Z (bA V Z Z Z Z (by omega) (by omega) (aA V Z Z (aF (aD ?_)))))))))
  refine cQ _ [] (Sp.refl _) (by kernel_rfl) (by kernel_rfl) ?_
  (refine aG V Z Z Z ?_; refine lZ V Z Z Z (by repeat first | exact .head _ | refine .tail _ ?_) (by rfl) ?_; refine aG V Z Z Z ?_)
  (refine bR V Z Z Z Z Z (by omega) (by omega) ?_; refine cC V Z Z Z (fun w hs => RdI.at (RdE.keep hm hs.chg0) k hmk) ?_)
  rw [hme]
  ((iterate 4 refine aG V Z Z Z ?_); refine lZ V Z Z Z (by repeat first | exact .head _ | refine .tail _ ?_) (by rfl) ?_; refine aG V Z Z Z (dA V Z Z Z Z (by omega) (by omega) (aG V Z Z Z (aG V Z Z Z (aO (aD (aB (aA V Z Z (aA V Z Z (bA V Z Z Z Z (by omega) (by omega) (aA V Z Z (aF ?_))))))))))); refine aD (aD (aB ?_)); (iterate 5 refine aA V Z Z ?_); refine fK V Z Z Z (by repeat first | exact .head _ | refine .tail _ ?_) (by rfl) ?_; refine aA V Z Z (aF ?_))
  obtain ⟨md, hmd⟩ : ∃ z, z = min mk (x.store - (stk - lo_)) := ⟨_, rfl⟩
  rw [← hmd]
  have hdef : dayS x.store k nd mk ls ⟨stk, sts, mds, ful, pls, -1⟩ = if stk - lo_ + md < nd then ⟨stk - lo_ + md, sts, mds, if stk - lo_ + md = x.store then (k : Int) else ful, pls, k⟩
    else ⟨stk - lo_ + md - nd, sts ++ [stk - lo_ + md - nd], mds ++ [md], if stk - lo_ + md = x.store then (k : Int) else ful, eI nd (kN k md (eI lo_ pls)), -1⟩ := by
   rw [hmd, hlo]
   rfl
  skip
  obtain ⟨ful', hful⟩ : ∃ z, z = if stk - lo_ + md = x.store then (k : Int) else ful := ⟨_, rfl⟩
  rw [← hful] at hdef
  refine jP (σ := Unit) (fun _ => [(3, .pointer (some ⟨b3, 0, none⟩)), (5, .pointer (some ⟨br, 0, none⟩)), (6, .int .i64 (stk - lo_ + md)), (7, .int .i64 k), (8, .slice pa pls.length pc), (10, .int .i64 md), (31, .int .i64 x.days.length), (32, .int .i64 k)])
   (fun _ => [iD br x ad c (-1) ful' sv mv (.slice a' (eI lo_ pls).length (eI lo_ pls).length), plK (.slice a' (eI lo_ pls).length (eI lo_ pls).length) (eI lo_ pls), plK (.slice pa pls.length pc) pls, .ow sv 3 1 k (aP sts), .ow mv 3 1 k (aP mds), .pt b3 [.slice (some ⟨bn, on, none⟩) t.need.length cn, .slice (some ⟨bm, om, none⟩) t.make.length cm, .slice (some ⟨bl, ol, none⟩) t.loss.length cl] 44]) ?_ ?_
  ·intro _
   clear hful
   (refine aD (aD (aB (aA V Z Z (aA V Z Z ?_)))); refine fK V Z Z Z (by repeat first | exact .head _ | refine .tail _ ?_) (by rfl) ?_; refine aA V Z Z ?_)
   (refine aV V Z Z Z Z Z (by omega) (by omega) ?_; refine bB V Z Z Z (fun w hs => RdI.at (RdE.keep hn hs.chg0) k hnk) ?_)
   rw [hne]
   (refine aA V Z Z (aF ?_))
   refine dL Z (fun hc => ?_) (fun hc => ?_)
   ·have hfl : stk - lo_ + md < nd := by assumption
    rw [if_pos hfl] at hdef
    rw [hdef] at eday
    have estay : hapV x t = ⟨stk - lo_ + md, sts, mds, ful', pls, k⟩ := by
     unfold hapV
     rw [mH x t (k := k + 1) (by rw [eday]; simp only; omega) _ (by omega), eday]
    (refine aD (aB ?_); (iterate 6 refine aA V Z Z ?_); refine ql_st7 V Z Z Z Z (by repeat constructor) ?_; refine aA V Z Z (aA V Z Z ?_); refine ql_st3 V Z Z Z Z (by repeat constructor) ?_; refine aF (bO _ rfl (aD (aB (aA V Z Z (aA V Z Z (aF (aS ?_))))))))
    refine aU V Z (by repeat (first | exact RVs.nil | apply RVs.tmp rfl | apply RVs.cellA rfl rfl (by repeat first | exact .head _ | refine .tail _ ?_) (by rfl) | apply RVs.cell1 rfl rfl (by repeat first | exact .head _ | refine .tail _ ?_))) fun w hs => ?_
    rw [estay]
    refine ⟨(br, sv, mv, .slice pa pls.length pc), rfl, ?_⟩
    simp only [hlens, hlenm]
    exact hs.sp (by repeat (first | exact Sp.nil | exact Sp.refl _ | refine Sp.cons (by repeat constructor) ?_))
   ·have hfl : ¬ stk - lo_ + md < nd := by assumption
    rw [if_neg hfl] at hdef
    rw [hdef] at eday
    have hp2 := addP_pb (d := (k : Int)) (m := md) hp1.1 (by omega)
    (refine aM (aD (aB ?_)); (iterate 3 refine aA V Z Z ?_))
    refine bG (β := Value) (ψ := fun pv _ => ∃ a' c', pv = .slice a' (kN k md (eI lo_ pls)).length c') (L' := fun pv => [iD br x ad c (-1) ful' sv mv pv, plK pv (kN k md (eI lo_ pls))]) V [iD br x ad c (-1) ful' sv mv (.slice a' (eI lo_ pls).length (eI lo_ pls).length), plK (.slice a' (eI lo_ pls).length (eI lo_ pls).length) (eI lo_ pls)] _ (DL [iD br x ad c (-1) ful' sv mv (.slice a' (eI lo_ pls).length (eI lo_ pls).length), plK (.slice a' (eI lo_ pls).length (eI lo_ pls).length) (eI lo_ pls)]) rfl rfl rfl rfl (by repeat (first | exact Sp.nil | exact Sp.refl _ | refine Sp.cons (by repeat constructor) ?_)) (fun _ h => h)
     (fun w' hs => (addR_ca w' br x ad c (-1) ful' k md sv mv a' (eI lo_ pls) (by omega) (Sat.self hs)).mono fun v w'' ⟨pv, h1, h2⟩ => ⟨pv, h1, h2⟩) ?_
    rintro pv2 _ ⟨a2, c2, rfl⟩
    generalize hl2 : kN k md (eI lo_ pls) = pl2 at *
    (refine aF (aD (aB (aA V Z Z (aA V Z Z ?_)))); refine fK V Z Z Z (by repeat first | exact .head _ | refine .tail _ ?_) (by rfl) ?_; refine aA V Z Z ?_)
    (refine aV V Z Z Z Z Z (by omega) (by omega) ?_; refine bB V Z Z Z (fun w hs => RdI.at (RdE.keep hn hs.chg0) k hnk) ?_)
    rw [hne]
    skip
    refine bG (β := Option Addr) (ψ := fun _ _ => True) (L' := fun a' => [iD br x ad c (-1) ful' sv mv (.slice a' (eI nd pl2).length (eI nd pl2).length), plK (.slice a' (eI nd pl2).length (eI nd pl2).length) (eI nd pl2), plK (.slice a2 pl2.length c2) pl2]) V [iD br x ad c (-1) ful' sv mv (.slice a2 pl2.length c2), plK (.slice a2 pl2.length c2) pl2] _ (DL [iD br x ad c (-1) ful' sv mv (.slice a2 pl2.length c2), plK (.slice a2 pl2.length c2) pl2]) rfl rfl rfl rfl (by repeat (first | exact Sp.nil | exact Sp.refl _ | refine Sp.cons (by repeat constructor) ?_)) (fun _ h => h)
     (fun w' hs => (remR_ca w' br x ad c (-1) ful' nd sv mv a2 c2 pl2 (by omega) hp2.1 (by omega) (Sat.self hs)).mono fun v w'' ⟨a', h2⟩ => ⟨a', trivial, h2⟩) ?_
    rintro a3 v3 -
    (refine aF (aD (aB (aA V Z Z (aA V Z Z ?_)))); refine fK V Z Z Z (by repeat first | exact .head _ | refine .tail _ ?_) (by rfl) ?_; refine aA V Z Z ?_)
    (refine aV V Z Z Z Z Z (by omega) (by omega) ?_; refine bB V Z Z Z (fun w hs => RdI.at (RdE.keep hn hs.chg0) k hnk) ?_)
    rw [hne]
    (refine bA V Z Z Z Z (by omega) (by omega) (aA V Z Z (aF ?_)))
    refine q_drawX (aC [0, 2, 3, 4, 5, 6, 9, 10, 11, 12, 13] (.alt (aC [7] (.alt (aC [8] (aC [14] (aC [15] (aC [1, 16, 17, 18, 19, 20, 21] .nil)))) (aC [14] (aC [8] (aC [15] (aC [1, 16, 17, 18, 19, 20, 21] .nil)))))) (aC [14] (aC [7] (aC [8] (aC [15] (aC [1, 16, 17, 18, 19, 20, 21] .nil))))))) [true, false, true, true, true, true, true, true, true, true, true, true, true, true, true, true, false, false, false, false, false, false] [iD br x ad c (-1) ful' sv mv (.slice a3 (eI nd pl2).length (eI nd pl2).length), plK (.slice a3 (eI nd pl2).length (eI nd pl2).length) (eI nd pl2), .pt b3 [.slice (some ⟨bn, on, none⟩) t.need.length cn, .slice (some ⟨bm, om, none⟩) t.make.length cm, .slice (some ⟨bl, ol, none⟩) t.loss.length cl] 44] [.ow sv 3 1 k (aP sts), .ow mv 3 1 k (aP mds)] [plK (.slice a3 (eI nd pl2).length (eI nd pl2).length) (eI nd pl2), .pt b3 [.slice (some ⟨bn, on, none⟩) t.need.length cn, .slice (some ⟨bm, om, none⟩) t.make.length cm, .slice (some ⟨bl, ol, none⟩) t.loss.length cl] 44] [iD br x ad c (-1) ful' sv mv (.slice a3 (eI nd pl2).length (eI nd pl2).length)]
     (by repeat (first | exact Sp.nil | exact Sp.refl _ | refine Sp.cons (by repeat constructor) ?_)) (by repeat (first | exact Sp.nil | exact Sp.refl _ | refine Sp.cons (by repeat constructor) ?_)) (by kernel_rfl) (by kernel_rfl) (by kernel_rfl) ?_
    refine fU [.ow sv 3 1 k (aP sts), .ow mv 3 1 k (aP mds)] (by repeat (first | exact PickL.nil | (apply PickL.cons; rfl))) rfl (by repeat (first | exact Sp.nil | exact Sp.refl _ | refine Sp.cons (by repeat constructor) ?_)) fun K1 hK1 => ?_
    ((iterate 4 refine aG V Z Z Z ?_); refine lZ V Z Z Z (by repeat first | exact .head _ | refine .tail _ ?_) (by rfl) ?_; (iterate 4 refine aG V Z Z Z ?_); refine lZ V Z Z Z (by repeat first | exact .head _ | refine .tail _ ?_) (by rfl) ?_; refine aG V Z Z Z (aO ?_))
    refine hK1 _ _ ?_
    refine dV (σ := Value × Nat) (aC [15] (aC [1, 16, 17, 18, 19, 20, 21] .nil)) (fun y => [(3, .pointer (some ⟨b3, 0, none⟩)), (5, .pointer (some ⟨br, 0, none⟩)), (6, .int .i64 (stk - lo_ + md - nd)), (31, .int .i64 x.days.length), (32, .int .i64 k), (112, .pointer (some ⟨br, 0, none⟩)), (120, y.1), (124, mv), (126, .slice (some ⟨y.2, 0, none⟩) 1 1)]) (fun y => [.ow y.1 3 1 (k + 1) (aP sts ++ [.int .i64 (stk - lo_ + md - nd)]), .ow mv 3 1 k (aP mds), .pt y.2 [.int .i64 md] 3, iD br x ad c (-1) ful' sv mv (.slice a3 (eI nd pl2).length (eI nd pl2).length), plK (.slice a3 (eI nd pl2).length (eI nd pl2).length) (eI nd pl2), .pt b3 [.slice (some ⟨bn, on, none⟩) t.need.length cn, .slice (some ⟨bm, om, none⟩) t.make.length cm, .slice (some ⟨bl, ol, none⟩) t.loss.length cl] 44]) ?_ ?_
    ·rintro ⟨u1, c14⟩
     dsimp only
     refine fU [.ow u1 3 1 (k + 1) (aP sts ++ [.int .i64 (stk - lo_ + md - nd)]), .ow mv 3 1 k (aP mds), .pt c14 [.int .i64 md] 3] (by repeat (first | exact PickL.nil | (apply PickL.cons; rfl))) rfl (by repeat (first | exact Sp.nil | exact Sp.refl _ | refine Sp.cons (by repeat constructor) ?_)) fun K1 hK1 => ?_
     skip
     refine bQ (q := 1) slI rfl rfl rfl (fun v' => by repeat constructor) (fun w' hs => ⟨_, _, Blk.rd (hs.blk (b := c14) (by repeat first | exact .head _ | refine .tail _ ?_)) rfl 1⟩) (by simp [cU]) (by omega) (by omega) (fun u2 => ?_)
     (refine aO ?_)
     refine hK1 _ _ ?_
     refine qx_F [.ow u1 3 1 (k + 1) (aP sts ++ [.int .i64 (stk - lo_ + md - nd)]), .ow u2 3 1 (k + 1) (aP mds ++ [.int .i64 md]), iD br x ad c (-1) ful' sv mv (.slice a3 (eI nd pl2).length (eI nd pl2).length)] (by repeat (first | exact PickL.nil | (apply PickL.cons; rfl))) rfl (by repeat (first | exact Sp.nil | exact Sp.refl _ | refine Sp.cons (by repeat constructor) ?_)) fun K1 hK1 => ?_
     refine bX (fun w hs => hs.slice (v := u1) (by repeat first | exact .head _ | refine .tail _ ?_)) ?_
     rintro ⟨d1, e1, g1, rfl⟩
     refine bX (fun w hs => hs.slice (v := u2) (by repeat first | exact .head _ | refine .tail _ ?_)) ?_
     rintro ⟨d2, e2, g2, rfl⟩
     ((iterate 3 refine aG V Z Z Z ?_); refine qf_st4 V Z Z Z Z (by repeat constructor) ?_; refine aG V Z Z Z (aG V Z Z Z ?_); refine qf_st5 V Z Z Z Z (by repeat constructor) ?_; refine aO ?_)
     refine hK1 _ _ (qx_nil ?_)
     (refine bJ (aB (bA V Z Z Z Z (by omega) (by omega) (aA V Z Z (aF ?_)))))
     have f1 : aP (sts ++ [(stk - lo_ + md - nd)]) = aP sts ++ [.int .i64 (stk - lo_ + md - nd)] := by simp [aP]
     have f2 : aP (mds ++ [md]) = aP mds ++ [.int .i64 md] := by simp [aP]
     refine hK (k + 1, .slice d1 e1 g1, .slice d2 e2 g2, a3, (eI nd pl2).length) _ _ ⟨by simp only; omega, by simp only; rw [eday]⟩ (by simp only; omega) ⟨rfl, rfl, by simp only; rw [eday]; rfl, rfl, rfl, trivial⟩ (by dsimp only; rw [eday]; dsimp only; rw [f1, f2]; repeat (first | exact Sp.nil | exact Sp.refl _ | refine Sp.cons (by repeat constructor) ?_))
    ·intro use
     refine fA ?_ ?_
     ·skip
      refine fU [.ow sv 3 1 k (aP sts), .ow mv 3 1 k (aP mds)] (by repeat (first | exact PickL.nil | (apply PickL.cons; rfl))) rfl (by repeat (first | exact Sp.nil | exact Sp.refl _ | refine Sp.cons (by repeat constructor) ?_)) fun K1 hK1 => ?_
      skip
      refine bK 3 [.int .i64 (stk - lo_ + md - nd)] rfl (by kernel_rfl) rfl (fun c7 => ?_)
      (refine aO ?_)
      refine hK1 _ _ ?_
      refine fA ?_ ?_
      ·skip
       refine fU [.ow sv 3 1 k (aP sts), .ow mv 3 1 k (aP mds), .pt c7 [.int .i64 (stk - lo_ + md - nd)] 3] (by repeat (first | exact PickL.nil | (apply PickL.cons; rfl))) rfl (by repeat (first | exact Sp.nil | exact Sp.refl _ | refine Sp.cons (by repeat constructor) ?_)) fun K1 hK1 => ?_
       skip
       refine bQ (q := 1) slI rfl rfl rfl (fun v' => by repeat constructor) (fun w' hs => ⟨_, _, Blk.rd (hs.blk (b := c7) (by repeat first | exact .head _ | refine .tail _ ?_)) rfl 1⟩) (by simp [cU]) (by omega) (by omega) (fun u1 => ?_)
       (refine aO ?_)
       refine hK1 _ _ ?_
       refine fU [.ow u1 3 1 (k + 1) (aP sts ++ [.int .i64 (stk - lo_ + md - nd)]), .ow mv 3 1 k (aP mds), .pt c7 [.int .i64 (stk - lo_ + md - nd)] 3] (by repeat (first | exact PickL.nil | (apply PickL.cons; rfl))) rfl (by repeat (first | exact Sp.nil | exact Sp.refl _ | refine Sp.cons (by repeat constructor) ?_)) fun K1 hK1 => ?_
       skip
       refine bK 3 [.int .i64 md] rfl (by kernel_rfl) rfl (fun c14 => ?_)
       (refine aO ?_)
       refine hK1 _ _ ?_
       exact use (u1, c14) _ _ ⟨rfl, rfl, rfl, rfl, rfl, rfl, rfl, rfl, rfl, trivial⟩ (by repeat (first | exact Sp.nil | exact Sp.refl _ | refine Sp.cons (by repeat constructor) ?_))
      ·skip
       refine fU [.ow sv 3 1 k (aP sts), .ow mv 3 1 k (aP mds), .pt c7 [.int .i64 (stk - lo_ + md - nd)] 3] (by repeat (first | exact PickL.nil | (apply PickL.cons; rfl))) rfl (by repeat (first | exact Sp.nil | exact Sp.refl _ | refine Sp.cons (by repeat constructor) ?_)) fun K1 hK1 => ?_
       skip
       refine bK 3 [.int .i64 md] rfl (by kernel_rfl) rfl (fun c14 => ?_)
       (refine aO ?_)
       refine hK1 _ _ ?_
       refine fU [.ow sv 3 1 k (aP sts), .ow mv 3 1 k (aP mds), .pt c7 [.int .i64 (stk - lo_ + md - nd)] 3, .pt c14 [.int .i64 md] 3] (by repeat (first | exact PickL.nil | (apply PickL.cons; rfl))) rfl (by repeat (first | exact Sp.nil | exact Sp.refl _ | refine Sp.cons (by repeat constructor) ?_)) fun K1 hK1 => ?_
       skip
       refine bQ (q := 1) slI rfl rfl rfl (fun v' => by repeat constructor) (fun w' hs => ⟨_, _, Blk.rd (hs.blk (b := c7) (by repeat first | exact .head _ | refine .tail _ ?_)) rfl 1⟩) (by simp [cU]) (by omega) (by omega) (fun u1 => ?_)
       (refine aO ?_)
       refine hK1 _ _ ?_
       exact use (u1, c14) _ _ ⟨rfl, rfl, rfl, rfl, rfl, rfl, rfl, rfl, rfl, trivial⟩ (by repeat (first | exact Sp.nil | exact Sp.refl _ | refine Sp.cons (by repeat constructor) ?_))
     ·skip
      refine fU [.ow sv 3 1 k (aP sts), .ow mv 3 1 k (aP mds)] (by repeat (first | exact PickL.nil | (apply PickL.cons; rfl))) rfl (by repeat (first | exact Sp.nil | exact Sp.refl _ | refine Sp.cons (by repeat constructor) ?_)) fun K1 hK1 => ?_
      skip
      refine bK 3 [.int .i64 md] rfl (by kernel_rfl) rfl (fun c14 => ?_)
      (refine aO ?_)
      refine hK1 _ _ ?_
      refine fU [.ow sv 3 1 k (aP sts), .ow mv 3 1 k (aP mds), .pt c14 [.int .i64 md] 3] (by repeat (first | exact PickL.nil | (apply PickL.cons; rfl))) rfl (by repeat (first | exact Sp.nil | exact Sp.refl _ | refine Sp.cons (by repeat constructor) ?_)) fun K1 hK1 => ?_
      skip
      refine bK 3 [.int .i64 (stk - lo_ + md - nd)] rfl (by kernel_rfl) rfl (fun c7 => ?_)
      (refine aO ?_)
      refine hK1 _ _ ?_
      refine fU [.ow sv 3 1 k (aP sts), .ow mv 3 1 k (aP mds), .pt c14 [.int .i64 md] 3, .pt c7 [.int .i64 (stk - lo_ + md - nd)] 3] (by repeat (first | exact PickL.nil | (apply PickL.cons; rfl))) rfl (by repeat (first | exact Sp.nil | exact Sp.refl _ | refine Sp.cons (by repeat constructor) ?_)) fun K1 hK1 => ?_
      skip
      refine bQ (q := 1) slI rfl rfl rfl (fun v' => by repeat constructor) (fun w' hs => ⟨_, _, Blk.rd (hs.blk (b := c7) (by repeat first | exact .head _ | refine .tail _ ?_)) rfl 1⟩) (by simp [cU]) (by omega) (by omega) (fun u1 => ?_)
      (refine aO ?_)
      refine hK1 _ _ ?_
      exact use (u1, c14) _ _ ⟨rfl, rfl, rfl, rfl, rfl, rfl, rfl, rfl, rfl, trivial⟩ (by repeat (first | exact Sp.nil | exact Sp.refl _ | refine Sp.cons (by repeat constructor) ?_))
  ·intro K2 hK2
   refine dL Z (fun hc => ?_) (fun hc => ?_)
   ·have hq : ful' = k := by rw [hful, if_pos (by assumption)]
    subst hq
    (refine aB ?_; (iterate 4 refine aA V Z Z ?_); refine ql_st6 V Z Z Z Z (by repeat constructor) ?_; refine aF ?_)
    exact hK2 () _ _ ⟨rfl, rfl, rfl, rfl, rfl, rfl, rfl, rfl, trivial⟩ (by repeat (first | exact Sp.nil | exact Sp.refl _ | refine Sp.cons (by repeat constructor) ?_))
   ·have hq : ful' = ful := by rw [hful, if_neg (by assumption)]
    subst hq
    (refine aM ?_)
    exact hK2 () _ _ ⟨rfl, rfl, rfl, rfl, rfl, rfl, rfl, rfl, trivial⟩ (by repeat (first | exact Sp.nil | exact Sp.refl _ | refine Sp.cons (by repeat constructor) ?_))
 ·obtain rfl : k = x.days.length := by omega
  clear hK
  (refine bO _ rfl (aD (aB (aA V Z Z (aA V Z Z (aF (aS ?_)))))))
  refine aU V Z (by repeat (first | exact RVs.nil | apply RVs.tmp rfl | apply RVs.cellA rfl rfl (by repeat first | exact .head _ | refine .tail _ ?_) (by rfl) | apply RVs.cell1 rfl rfl (by repeat first | exact .head _ | refine .tail _ ?_))) fun w hs => ?_
  have e1 : (hapP x t x.days.length).stocks.length = x.days.length := by rw [hok.stocks]; simp
  have e2 : (hapP x t x.days.length).made.length = x.days.length := by rw [hok.made]; simp
  refine ⟨(br, sv, mv, .slice pa (hapP x t x.days.length).piles.length pc), rfl, ?_⟩
  unfold hapV
  rw [e1, e2, hf]
  exact hs.sp (by repeat (first | exact Sp.nil | exact Sp.refl _ | refine Sp.cons (by repeat constructor) ?_))
end Go.Proofs.YtgeajgmefokifaaGreat

/- Walks: the first day that can fail, and why; the worst weather. -/
namespace Go.Proofs.YtgeajgmefokifaaGreat
open Go Go.Eng

theorem Wn.Right.x {x : Wn} (h : x.Right) : 0 ≤ x.stock ∧ x.stock ≤ x.store ∧ x.store ≤ 1000000 := ⟨h.stock.1, h.stock.2, h.store.2⟩
theorem hX {w0 w : World} {M : Nat → Prop} {H : List Ck} {v1 v2 v3 : Value} {t : Wt} (h : Sat w0 M H w) (m1 : .ow v1 3 1 t.need.length (aP t.need) ∈ H) (m2 : .ow v2 3 1 t.make.length (aP t.make) ∈ H) (m3 : .ow v3 3 1 t.loss.length (aP t.loss) ∈ H) : WtR w t v1 v2 v3 :=
 ⟨⟨0, _, h.rdI m1 rfl⟩, ⟨0, _, h.rdI m2 rfl⟩, ⟨0, _, h.rdI m3 rfl⟩⟩

set_option maxHeartbeats 1000000 in
theorem failing_ok (w : World) (lo hi : Nat) (x : Wn) (a : Option Addr) (c : Nat) (h : RdD w lo hi (.slice a x.days.length c) x.days) (hx : x.Right) (hf : (hapV x (aR x)).fails ≠ -1) :
  Ca Tryz.prog 111 [.agg (wnC x a c).toArray] w fun r w' => ∃ y : Nat × Value × Value × Value, r = .tuple #[.pointer (some ⟨y.1, 0, none⟩), .int .i64 0] ∧ Sat w M0 [iD y.1 x a c (hapV x (aR x)).fails (hapV x (aR x)).full y.2.1 y.2.2.1 y.2.2.2] w' := by
 have hn := hx.d2
 refine cS (Sat.nil w M0) Tryz.func111 rfl (by simp [Tryz.ntmps111]) ?_
 (refine aD (aB ?_))
 refine bD Z Z (fun b1 => ?_)
 (refine aA V Z Z (aA V Z Z (aF (aD (aD (aB ?_))))); refine aJ V Z Z Z ?_)
 refine aK (val := .int .i64 0) V rfl rfl rfl rfl (fun w hs => ?_) ?_; exact by have := eK w lo hi x a c (RdE.keep h hs.chg0) (by omega); rw [bU.2 hx] at this; exact this
 (refine aA V Z Z (aF (aD (aB (aA V Z Z (aW V Z Z Z (by omega) (aF (aH Z (aM (aD ?_))))))))))
 refine cQ _ [] (Sp.refl _) (by kernel_rfl) (by kernel_rfl) ?_
 ((iterate 2 refine aZ V Z Z Z ?_))
 refine bH (β := Value × Value × Value) V [] _ M0 rfl rfl rfl rfl (Sp.refl _) (fun _ h => h.elim) (fun w' hs => jU w' lo hi x a c (RdE.keep h hs.chg0) (by omega)) ?_
 rintro ⟨v1, v2, v3⟩ _ rfl
 dsimp only
 skip
 refine bH (β := Nat × Value × Value × Value) (ψ := fun y v => v = .pointer (some ⟨y.1, 0, none⟩)) (L' := fun y => [iD y.1 x a c (hapV x (aR x)).fails (hapV x (aR x)).full y.2.1 y.2.2.1 y.2.2.2, .ow y.2.1 3 1 (hapV x (aR x)).stocks.length (aP (hapV x (aR x)).stocks), .ow y.2.2.1 3 1 (hapV x (aR x)).made.length (aP (hapV x (aR x)).made), plK y.2.2.2 (hapV x (aR x)).piles]) V [] _ M0 rfl rfl rfl rfl (Sp.refl _) (fun _ h => h.elim)
  (fun w' hs => iJ w' x a c (aR x) v1 v2 v3 hx.x hn (bN hx) (hX hs (by repeat constructor) (by repeat constructor) (by repeat constructor))) ?_
 rintro ⟨br, sv, mv, pv⟩ _ rfl
 dsimp only [List.cons_append, List.nil_append, wtK]
 generalize hS : hapV x (aR x) = S at *
 (refine aG V Z Z Z (aO (aD (aD (aB ?_)))); (iterate 3 refine aA V Z Z ?_); refine aI V Z Z Z ?_; refine fP V Z Z Z (by omega) (aF (aH Z (aM (aD (aB ?_))))); (iterate 3 refine aA V Z Z ?_); refine aF (aS ?_))
 refine aU V Z (by repeat constructor) fun w hs => ?_
 exact ⟨(br, sv, mv, pv), rfl, hs.sp (by repeat constructor)⟩

set_option maxHeartbeats 1000000 in
theorem failing_no (w : World) (lo hi : Nat) (x : Wn) (a : Option Addr) (c : Nat) (h : RdD w lo hi (.slice a x.days.length c) x.days) (hlen : x.days.length ≤ 1000000) (hf : (firstV x).2 ≠ 0) :
  Ca Tryz.prog 111 [.agg (wnC x a c).toArray] w fun r w' => r = .tuple #[.pointer none, .int .i64 (firstV x).2] ∧ Chg [] w w' := by
 refine cS (Sat.nil w M0) Tryz.func111 rfl (by simp [Tryz.ntmps111]) ?_
 (refine aD (aB ?_))
 refine bD Z Z (fun b1 => ?_)
 (refine aA V Z Z (aA V Z Z (aF (aD (aD (aB ?_))))); refine aJ V Z Z Z ?_)
 refine aK (val := .int .i64 (checkW x)) V rfl rfl rfl rfl (fun w hs => ?_) ?_; exact eK w lo hi x a c (RdE.keep h hs.chg0) (by omega)
 (refine aA V Z Z (aF (aD (aB (aA V Z Z (aA V Z Z (aF ?_)))))))
 by_cases h0 : checkW x = 0
 ·have hx := bU.1 h0
  have hn := hx.d2
  have hf2 : (hapV x (aR x)).fails = -1 := by
   unfold firstV at hf
   rw [if_neg (by omega)] at hf
   split at hf
   ·assumption
   ·exact absurd rfl hf
  have hfv : (firstV x).2 = 6 := by unfold firstV; rw [if_neg (by omega), if_pos hf2]
  rw [hfv, h0]
  (refine aH Z (aM (aD ?_)))
  refine cQ _ [] (Sp.refl _) (by kernel_rfl) (by kernel_rfl) ?_
  ((iterate 2 refine aZ V Z Z Z ?_))
  refine bH (β := Value × Value × Value) V [] _ M0 rfl rfl rfl rfl (Sp.refl _) (fun _ h => h.elim) (fun w' hs => jU w' lo hi x a c (RdE.keep h hs.chg0) (by omega)) ?_
  rintro ⟨v1, v2, v3⟩ _ rfl
  dsimp only
  skip
  refine bH (β := Nat × Value × Value × Value) (ψ := fun y v => v = .pointer (some ⟨y.1, 0, none⟩)) (L' := fun y => [iD y.1 x a c (hapV x (aR x)).fails (hapV x (aR x)).full y.2.1 y.2.2.1 y.2.2.2, .ow y.2.1 3 1 (hapV x (aR x)).stocks.length (aP (hapV x (aR x)).stocks), .ow y.2.2.1 3 1 (hapV x (aR x)).made.length (aP (hapV x (aR x)).made), plK y.2.2.2 (hapV x (aR x)).piles]) V [] _ M0 rfl rfl rfl rfl (Sp.refl _) (fun _ h => h.elim)
   (fun w' hs => iJ w' x a c (aR x) v1 v2 v3 hx.x hn (bN hx) (hX hs (by repeat constructor) (by repeat constructor) (by repeat constructor))) ?_
  rintro ⟨br, sv, mv, pv⟩ _ rfl
  dsimp only [List.cons_append, List.nil_append, wtK]
  generalize hS : hapV x (aR x) = S at *
  rw [hf2]
  (refine aG V Z Z Z (aO (aD (aD (aB ?_)))); (iterate 3 refine aA V Z Z ?_); refine aI V Z Z Z ?_; refine cO V Z Z Z (by omega) (aF (aL Z (aD (aB (aA V Z Z (aA V Z Z (aF (aS ?_)))))))))
  refine aU V Z (by repeat constructor) fun w hs => ?_
  exact ⟨rfl, hs.chg0⟩
 ·have hfv : (firstV x).2 = checkW x := by unfold firstV; rw [if_pos h0]
  rw [hfv, decide_eq_false h0]
  (refine aL Z (aD (aB ?_)); (iterate 3 refine aA V Z Z ?_); refine aF (aS ?_))
  refine aU V Z (by repeat constructor) fun w hs => ?_
  exact ⟨rfl, hs.chg0⟩

set_option maxHeartbeats 1000000 in
theorem first_ca (w : World) (lo hi : Nat) (x : Wn) (a : Option Addr) (c : Nat) (h : RdD w lo hi (.slice a x.days.length c) x.days) (hlen : x.days.length ≤ 1000000) :
  Ca Tryz.prog 68 [.agg (wnC x a c).toArray] w fun r w' => r = .tuple #[.int .i64 (firstV x).1, .int .i64 (firstV x).2] ∧ Chg [] w w' := by
 refine cS (Sat.nil w M0) Tryz.func68 rfl (by simp [Tryz.ntmps68]) ?_
 (refine aD (aB ?_))
 refine bD Z Z (fun b1 => ?_)
 (refine aA V Z Z (aA V Z Z (aF (aD (aB ?_)))); refine aJ V Z Z Z ?_)
 by_cases hf : (firstV x).2 = 0
 ·have h0 : checkW x = 0 := by
   refine Classical.byContradiction fun hh => ?_
   unfold firstV at hf
   rw [if_pos hh] at hf
   exact hh hf
  have hx := bU.1 h0
  have hf2 : (hapV x (aR x)).fails ≠ -1 := by
   unfold firstV at hf
   rw [if_neg (by omega)] at hf
   split at hf
   ·cases hf
   ·assumption
  have hfv : firstV x = ((hapV x (aR x)).fails, 0) := by unfold firstV; rw [if_neg (by omega), if_neg hf2]
  rw [hfv]
  refine bG (β := Nat × Value × Value × Value) V [] _ M0 rfl rfl rfl rfl (Sp.refl _) (fun _ h => h.elim) (fun w' hs => failing_ok w' lo hi x a c (RdE.keep h hs.chg0) hx hf2) ?_
  rintro ⟨br, sv, mv, pv⟩ _ rfl
  dsimp only [List.cons_append, List.nil_append]
  generalize hS : hapV x (aR x) = S at *
  (refine aA V Z Z (aT V Z Z Z (aT V Z Z Z (aA V Z Z (aA V Z Z (aF (aD (aD (aB (aA V Z Z (aW V Z Z Z (by omega) (aF ?_))))))))))); refine aH Z (aM (aD (aB ?_))); (iterate 3 refine aA V Z Z ?_); refine aI V Z Z Z ?_; refine aA V Z Z (aA V Z Z (aF (aS ?_))))
  refine aU V Z (by repeat constructor) fun w hs => ?_
  exact ⟨rfl, hs.chg0⟩
 ·refine aK (val := .tuple #[.pointer none, .int .i64 (firstV x).2]) V rfl rfl rfl rfl (fun w hs => ?_) ?_; exact failing_no w lo hi x a c (RdE.keep h hs.chg0) hlen hf
  have h1 : (firstV x).1 = 0 := by
   unfold firstV at hf ⊢
   split
   ·rfl
   ·split
    ·rfl
    ·rename_i g1 g2
     rw [if_neg g1, if_neg g2] at hf
     exact absurd rfl hf
  rw [h1]
  generalize (firstV x).2 = e at *
  (refine aA V Z Z (aT V Z Z Z (aT V Z Z Z (aA V Z Z (aA V Z Z (aF (aD (aD (aB (aA V Z Z (bW V Z Z Z (by omega) (aF ?_))))))))))); refine aL Z (aD (aB ?_)); (iterate 3 refine aA V Z Z ?_); refine aF (aS ?_))
  refine aU V Z (by repeat constructor) fun w hs => ?_
  exact ⟨rfl, hs.chg0⟩
end Go.Proofs.YtgeajgmefokifaaGreat

/- Walks: the worst weather, why, what happens in a weather that is told. -/
namespace Go.Proofs.YtgeajgmefokifaaGreat
open Go Go.Eng

theorem first_fails {x : Wn} (h : (firstV x).2 = 0) : x.Right ∧ (hapV x (aR x)).fails ≠ -1 ∧ (firstV x).1 = (hapV x (aR x)).fails ∧ whyV x = (((hapV x (aR x)).full, (hapV x (aR x)).fails), 0) := by
 unfold firstV at h ⊢
 split at h
 ·rename_i h1; exact absurd h h1
 rename_i h1
 split at h
 ·cases h
 rename_i h2
 have h1 : checkW x = 0 := by omega
 refine ⟨bU.1 h1, h2, ?_, ?_⟩
 ·rw [if_neg (by omega), if_neg h2]
 ·unfold whyV; rw [if_neg (by omega), if_neg h2]
theorem why_no {x : Wn} (h : (firstV x).2 ≠ 0) : whyV x = ((0, 0), (firstV x).2) := by
 unfold firstV at h ⊢
 unfold whyV
 split
 ·rfl
 ·rename_i h1
  rw [if_neg h1] at h
  split
  ·rfl
  ·rename_i h2
   rw [if_neg h2] at h
   exact absurd rfl h
set_option maxHeartbeats 1000000 in
theorem why_ca (w : World) (lo hi : Nat) (x : Wn) (a : Option Addr) (c : Nat) (h : RdD w lo hi (.slice a x.days.length c) x.days) (hlen : x.days.length ≤ 1000000) :
  Ca Tryz.prog 70 [.agg (wnC x a c).toArray] w fun r w' => r = .tuple #[rtV (whyV x).1, .int .i64 (whyV x).2] ∧ Chg [] w w' := by
 refine cS (Sat.nil w M0) Tryz.func70 rfl (by simp [Tryz.ntmps70]) ?_
 (refine aD (aB ?_))
 refine bD Z Z (fun b1 => ?_)
 refine bI zero42 rfl (fun b2 => ?_)
 (refine aA V Z Z (aF (aD (aB (aJ V Z Z Z ?_)))))
 by_cases hf : (firstV x).2 = 0
 ·obtain ⟨hx, hf2, _, hw⟩ := first_fails hf
  rw [hw]
  refine bG (β := Nat × Value × Value × Value) V [] _ M0 rfl rfl rfl rfl (Sp.refl _) (fun _ h => h.elim) (fun w' hs => failing_ok w' lo hi x a c (RdE.keep h hs.chg0) hx hf2) ?_
  rintro ⟨br, sv, mv, pv⟩ _ rfl
  dsimp only [List.cons_append, List.nil_append]
  generalize hS : hapV x (aR x) = S at *
  (refine aA V Z Z (aT V Z Z Z (aT V Z Z Z (aA V Z Z (aA V Z Z (aF (aD (aD (aB (aA V Z Z (aW V Z Z Z (by omega) (aF ?_))))))))))); refine aH Z (aM (aD ?_)))
  refine cQ _ [.pt b2 _ _] (Sp.cons (by repeat constructor) (Sp.refl _)) (by kernel_rfl) (by kernel_rfl) ?_
  ((iterate 3 refine aG V Z Z Z ?_); refine aN V Z Z Z ?_; (iterate 3 refine aG V Z Z Z ?_); refine aN V Z Z Z ?_)
  refine qf_mk #[.int .i64 S.full, .int .i64 S.fails] rfl (by kernel_rfl) rfl ?_
  (refine cZ V Z Z Z Z Z (by repeat constructor) rfl ?_; refine aG V Z Z Z (aO (aS ?_)))
  refine aU V Z (by repeat constructor) fun w hs => ?_
  exact ⟨rfl, hs.chg0⟩
 ·refine aK (val := .tuple #[.pointer none, .int .i64 (firstV x).2]) V rfl rfl rfl rfl (fun w hs => ?_) ?_; exact failing_no w lo hi x a c (RdE.keep h hs.chg0) hlen hf
  rw [why_no hf]
  generalize (firstV x).2 = e at *
  (refine aA V Z Z (aT V Z Z Z (aT V Z Z Z (aA V Z Z (aA V Z Z (aF (aD (aD (aB (aA V Z Z (bW V Z Z Z (by omega) (aF ?_))))))))))); refine aL Z (aD (aB ?_)))
  refine dJ #[.int .i64 0, .int .i64 0] rfl (by kernel_rfl) rfl ?_
  (refine aA V Z Z ?_; refine bS V Z Z Z Z Z (by repeat constructor) rfl ?_; refine aA V Z Z (aF (aS ?_)))
  refine aU V Z (by repeat constructor) fun w hs => ?_
  exact ⟨rfl, hs.chg0⟩

set_option maxHeartbeats 1000000 in
theorem worstE_ok (w : World) (lo hi : Nat) (x : Wn) (a : Option Addr) (c : Nat) (h : RdD w lo hi (.slice a x.days.length c) x.days) (hx : x.Right) :
  Ca Tryz.prog 56 [.agg (wnC x a c).toArray] w fun r w' => ∃ y : Value × Value × Value, r = .tuple #[.agg #[y.1, y.2.1, y.2.2], .int .i64 0] ∧ Sat w M0 (wtK y.1 y.2.1 y.2.2 (aR x)) w' := by
 have hn := hx.d2
 refine cS (Sat.nil w M0) Tryz.func56 rfl (by simp [Tryz.ntmps56]) ?_
 (refine aD (aB ?_))
 refine bD Z Z (fun b1 => ?_)
 refine bI dR rfl (fun b2 => ?_)
 (refine aA V Z Z (aF (aD (aD (aB (aJ V Z Z Z ?_))))))
 refine aK (val := .int .i64 0) V rfl rfl rfl rfl (fun w hs => ?_) ?_; exact by have := eK w lo hi x a c (RdE.keep h hs.chg0) (by omega); rw [bU.2 hx] at this; exact this
 (refine aA V Z Z (aF (aD (aB (aA V Z Z (aW V Z Z Z (by omega) (aF (aH Z (aM (aD (aB (aJ V Z Z Z ?_))))))))))))
 refine bG (β := Value × Value × Value) V [] _ M0 rfl rfl rfl rfl (Sp.refl _) (fun _ h => h.elim) (fun w' hs => jU w' lo hi x a c (RdE.keep h hs.chg0) (by omega)) ?_
 rintro ⟨v1, v2, v3⟩ _ rfl
 dsimp only [wtK, List.cons_append, List.nil_append]
 refine bL (fun w hs => hs.slice (v := v1) (by repeat constructor)) ?_
 rintro ⟨a1, g1, d1, rfl⟩
 refine bL (fun w hs => hs.slice (v := v2) (by repeat constructor)) ?_
 rintro ⟨a2, g2, d2, rfl⟩
 refine bL (fun w hs => hs.slice (v := v3) (by repeat constructor)) ?_
 rintro ⟨a3, g3, d3, rfl⟩
 (refine bS V Z Z Z Z Z (by repeat constructor) rfl ?_; refine aA V Z Z (aF (aS ?_)))
 refine aU V Z (by repeat constructor) fun w hs => ?_
 exact ⟨(_, _, _), rfl, hs.sp (by repeat constructor)⟩
theorem worstE_no (w : World) (lo hi : Nat) (x : Wn) (a : Option Addr) (c : Nat) (h : RdD w lo hi (.slice a x.days.length c) x.days) (hlen : x.days.length ≤ 1000000) (hx : checkW x ≠ 0) :
  Ca Tryz.prog 56 [.agg (wnC x a c).toArray] w fun r w' => r = .tuple #[.agg #[.slice none 0 0, .slice none 0 0, .slice none 0 0], .int .i64 (checkW x)] ∧ Chg [] w w' := by
 refine cS (Sat.nil w M0) Tryz.func56 rfl (by simp [Tryz.ntmps56]) ?_
 (refine aD (aB ?_))
 refine bD Z Z (fun b1 => ?_)
 refine bI dR rfl (fun b2 => ?_)
 (refine aA V Z Z (aF (aD (aD (aB (aJ V Z Z Z ?_))))))
 refine aK (val := .int .i64 (checkW x)) V rfl rfl rfl rfl (fun w hs => ?_) ?_; exact eK w lo hi x a c (RdE.keep h hs.chg0) (by omega)
 generalize checkW x = e at *
 (refine aA V Z Z (aF (aD (aB (aA V Z Z (bW V Z Z Z (by omega) (aF (aL Z (aD (aB ?_))))))))))
 refine dJ #[.slice none 0 0, .slice none 0 0, .slice none 0 0] rfl (by kernel_rfl) rfl ?_
 (refine aA V Z Z ?_; refine bS V Z Z Z Z Z (by repeat constructor) rfl ?_; refine aA V Z Z (aF (aS ?_)))
 refine aU V Z (by repeat constructor) fun w hs => ?_
 exact ⟨rfl, hs.chg0⟩
end Go.Proofs.YtgeajgmefokifaaGreat

/- Walks: a weather that is told. -/
namespace Go.Proofs.YtgeajgmefokifaaGreat
open Go Go.Eng

theorem weat3 {x : Wn} {t : Wt} (h0 : checkW x = 0) (h1 : t.need.length = x.days.length ∧ t.make.length = x.days.length ∧ t.loss.length = x.days.length) {k : Nat} (hk : k < x.days.length) (h : inB x t k = false) : weatV x t = 3 := by
 unfold weatV
 rw [if_neg (by omega), if_neg (by simpa using h1), if_neg]
 intro hall
 have := List.all_eq_true.1 hall k (List.mem_range.2 hk)
 rw [h] at this
 cases this
/-- A run that is handed out. -/
abbrev runH (y : Nat × Value × Value × Value) (x : Wn) (a : Option Addr) (c : Nat) (t : Wt) : List Ck :=
 [iD y.1 x a c (hapV x t).fails (hapV x t).full y.2.1 y.2.2.1 y.2.2.2, .ow y.2.1 3 1 (hapV x t).stocks.length (aP (hapV x t).stocks), .ow y.2.2.1 3 1 (hapV x t).made.length (aP (hapV x t).made), plK y.2.2.2 (hapV x t).piles]

set_option maxHeartbeats 4000000 in
theorem told_ca (w : World) (lo hi : Nat) (x : Wn) (a : Option Addr) (c : Nat) (t : Wt) (v1 v2 v3 : Value) (h : RdD w lo hi (.slice a x.days.length c) x.days) (hlen : x.days.length ≤ 1000000) (hw : WtR w t v1 v2 v3) (hl1 : t.need.length ≤ 1000000) (hl2 : t.make.length ≤ 1000000) (hl3 : t.loss.length ≤ 1000000) :
  Ca Tryz.prog 109 [.agg (wnC x a c).toArray, .agg #[v1, v2, v3]] w fun r w' => (weatV x t = 0 ∧ ∃ y : Nat × Value × Value × Value, r = .tuple #[.pointer (some ⟨y.1, 0, none⟩), .int .i64 0] ∧ Sat w M0 (runH y x a c t) w') ∨ (weatV x t ≠ 0 ∧ r = .tuple #[.pointer none, .int .i64 (weatV x t)] ∧ Chg [] w w') := by
 obtain ⟨⟨n1, n2, hn⟩, ⟨m1, m2, hm⟩, l1, l2, hl⟩ := hw
 obtain ⟨an, cn, rfl, hsn⟩ := RdI.outI hn
 obtain ⟨am, cm, rfl, hsm⟩ := RdI.outI hm
 obtain ⟨al, cl, rfl, hsl⟩ := RdI.outI hl
 obtain ⟨_, _, e0, hsa⟩ := RdD.outI h
 cases e0
 refine cS (Sat.nil w M0) Tryz.func109 rfl (by simp [Tryz.ntmps109]) ?_
 (refine aD (aB ?_))
 refine bD Z Z (fun b2 => ?_)
 refine bD Z Z (fun b3 => ?_)
 (refine aA V Z Z (aA V Z Z (aF (aD (aD (aB ?_))))); refine aJ V Z Z Z ?_)
 refine aK (val := .int .i64 (checkW x)) V rfl rfl rfl rfl (fun w hs => ?_) ?_; exact eK w lo hi x a c (RdE.keep h hs.chg0) (by omega)
 (refine aA V Z Z (aF (aD (aB (aA V Z Z (aA V Z Z (aF ?_)))))))
 by_cases h0 : checkW x = 0
 ·rw [h0]
  have hx := bU.1 h0
  have hd1 := hx.d1
  have hd2 := hx.d2
  have hbad : ¬(t.need.length = x.days.length ∧ t.make.length = x.days.length ∧ t.loss.length = x.days.length) → weatV x t = 2 := fun hh => by
   unfold weatV
   rw [if_neg (by omega), if_pos hh]
  by_cases hc1 : t.need.length = x.days.length
  ·by_cases hc2 : t.make.length = x.days.length
   ·by_cases hc3 : t.loss.length = x.days.length
    ·have hbad := fun k hk => weat3 (t := t) (k := k) h0 ⟨hc1, hc2, hc3⟩ hk
     obtain ⟨bn, on, rfl⟩ := hsn (by omega)
     obtain ⟨bm, om, rfl⟩ := hsm (by omega)
     obtain ⟨bl, ol, rfl⟩ := hsl (by omega)
     obtain ⟨ba, oa, rfl⟩ := hsa (by omega)
     (refine aH Z (aM (aD (aB (aA V Z Z ?_)))); refine aI V Z Z Z ?_; refine aA V Z Z (aA V Z Z (aF (aD (aD (aB (aA V Z Z ?_)))))); refine aI V Z Z Z ?_; refine aA V Z Z (aA V Z Z (aW V Z Z Z (by omega) (aA V Z Z (aE Z (aA V Z Z (aE Z ?_)))))); refine aI V Z Z Z ?_; refine aE Z (aA V Z Z (aE Z (aA V Z Z (aE Z (aW V Z Z Z (by omega) (aA V Z Z (aA V Z Z (aE Z (aA V Z Z (aE Z ?_)))))))))); refine aI V Z Z Z ?_; refine aE Z (aA V Z Z (aE Z (aA V Z Z (aE Z (aW V Z Z Z (by omega) (aA V Z Z (aF (aH Z (aM (aD (aD ?_))))))))))); refine aB (aA V Z Z ?_); refine aI V Z Z Z ?_; refine aA V Z Z (aA V Z Z (aF (aQ ?_))))
     refine cB (σ := Nat) (fun k => k ≤ x.days.length ∧ (List.range k).all (inB x t) = true) (fun k => x.days.length - k)
      (fun k => [(2, .pointer (some ⟨b2, 0, none⟩)), (3, .pointer (some ⟨b3, 0, none⟩)), (38, .slice (some ⟨ba, oa, none⟩) x.days.length c), (39, .int .i64 x.days.length), (40, .int .i64 k)])
      (fun _ => [.pt b3 [.slice (some ⟨bn, on, none⟩) t.need.length cn, .slice (some ⟨bm, om, none⟩) t.make.length cm, .slice (some ⟨bl, ol, none⟩) t.loss.length cl] 44, .pt b2 (wnC x (some ⟨ba, oa, none⟩) c) 39]) 0 ⟨by omega, rfl⟩ ⟨rfl, rfl, rfl, rfl, rfl, trivial⟩ (by repeat constructor) ?_
     rintro k ⟨hk, hall⟩ K hK
     (refine aD (aB (aA V Z Z (aF (aD ?_)))))
     refine dL Z (fun hc => ?_) (fun hc => ?_)
     ·have hk2 : k < x.days.length := by omega
      clear hc
      have hbk := hbad k hk2
      have hnk : k < t.need.length := by omega
      have hmk : k < t.make.length := by omega
      have hlk : k < t.loss.length := by omega
      have hin := inB_iff (t := t) hk2
      rw [cR hnk, cR hmk, cR hlk] at hin
      (refine aM (aD (aQ (aD (aB (aA V Z Z ?_))))))
      refine aV V Z Z Z Z Z (by omega) (by omega) ?_
      refine dU V Z Z Z Z (fun w hs => RdD.at (RdE.keep h hs.chg0) k hk2) ?_
      skip
      refine bI zero46 rfl (fun b9 => ?_)
      (refine aA V Z Z ?_; refine bS V Z Z Z Z Z (by repeat constructor) rfl ?_; refine aF (aD ?_))
      generalize x.days[k] = d at *
      refine cQ _ [] (Sp.refl _) (by kernel_rfl) (by kernel_rfl) ?_
      (refine aG V Z Z Z ?_; refine aN V Z Z Z ?_; refine aG V Z Z Z ?_)
      (refine bR V Z Z Z Z Z (by omega) (by omega) ?_; refine cC V Z Z Z (fun w hs => RdI.at (RdE.keep hn hs.chg0) k hnk) ?_)
      (refine aG V Z Z Z (aG V Z Z Z ?_); refine aN V Z Z Z ?_; refine aG V Z Z Z (aG V Z Z Z ?_); refine aN V Z Z Z ?_)
      refine bT (val := .bool (wiB t.need[k] d.n0 d.n1)) V rfl rfl rfl rfl (fun w hs => ?_) ?_; exact cH _ d.n0 d.n1 w
      (refine aG V Z Z Z (aG V Z Z Z ?_))
      by_cases g1 : wiB t.need[k] d.n0 d.n1 = true
      ·rw [g1]
       (refine aX Z (aG V Z Z Z (aX Z ?_)); refine aN V Z Z Z ?_; refine aX Z (aG V Z Z Z (aX Z ?_)))
       refine bR V Z Z Z Z Z (by omega) (by omega) ?_
       (refine aX Z ?_)
       refine cC (v := .int .i64 t.make[k]) V rfl rfl rfl (fun w hs => RdI.at (RdE.keep hm hs.chg0) k hmk) ?_
       (refine aX Z (aG V Z Z Z (aX Z (aG V Z Z Z (aX Z ?_)))); refine aN V Z Z Z ?_; refine aX Z (aG V Z Z Z (aX Z (aG V Z Z Z (aX Z ?_)))); refine aN V Z Z Z ?_; refine aX Z ?_)
       refine bT (val := .bool (wiB t.make[k] d.m0 d.m1)) V rfl rfl rfl rfl (fun w hs => ?_) ?_; exact cH _ d.m0 d.m1 w
       (refine aX Z ?_; (iterate 3 refine aG V Z Z Z ?_))
       by_cases g2 : wiB t.make[k] d.m0 d.m1 = true
       ·rw [g2]
        (refine aX Z (aG V Z Z Z (aX Z ?_)); refine aN V Z Z Z ?_; refine aX Z (aG V Z Z Z (aX Z ?_)))
        refine bR V Z Z Z Z Z (by omega) (by omega) ?_
        (refine aX Z ?_)
        refine cC (v := .int .i64 t.loss[k]) V rfl rfl rfl (fun w hs => RdI.at (RdE.keep hl hs.chg0) k hlk) ?_
        (refine aX Z (aG V Z Z Z (aX Z (aG V Z Z Z (aX Z ?_)))); refine aN V Z Z Z ?_; refine aX Z (aG V Z Z Z (aX Z (aG V Z Z Z (aX Z ?_)))); refine aN V Z Z Z ?_; refine aX Z ?_)
        refine bT (val := .bool (wiB t.loss[k] d.l0 d.l1)) V rfl rfl rfl rfl (fun w hs => ?_) ?_; exact cH _ d.l0 d.l1 w
        (refine aX Z (aG V Z Z Z (aG V Z Z Z (aO ?_))))
        by_cases g3 : wiB t.loss[k] d.l0 d.l1 = true
        ·rw [g3]
         (refine aH Z (aM (bJ (aB (bA V Z Z Z Z (by omega) (by omega) (aA V Z Z (aF ?_)))))))
         have hik : inB x t k = true := hin.2 ⟨cD.1 g1, cD.1 g2, cD.1 g3⟩
         exact hK (k + 1) _ _ ⟨by omega, by rw [List.range_succ, List.all_append, hall]; simp [hik]⟩ (by omega) ⟨rfl, rfl, rfl, rfl, rfl, trivial⟩ (by repeat constructor)
        ·have e3 := hbk (Bool.eq_false_iff.2 fun hh => g3 (cD.2 (hin.1 hh).2.2))
         rw [Bool.eq_false_iff.2 g3]
         (refine aL Z (aD (aB (aA V Z Z (aA V Z Z (aF (aS ?_)))))))
         refine aU V Z (by repeat constructor) fun w hs => ?_
         exact .inr ⟨by rw [e3]; simp, by rw [e3]; rfl, hs.chg0⟩
       ·have e3 := hbk (Bool.eq_false_iff.2 fun hh => g2 (cD.2 (hin.1 hh).2.1))
        rw [Bool.eq_false_iff.2 g2]
        ((iterate 13 refine hG Z Z Z ?_); refine aG V Z Z Z (aO (aL Z (aD (aB (aA V Z Z (aA V Z Z (aF (aS ?_)))))))))
        refine aU V Z (by repeat constructor) fun w hs => ?_
        exact .inr ⟨by rw [e3]; simp, by rw [e3]; rfl, hs.chg0⟩
      ·have e3 := hbk (Bool.eq_false_iff.2 fun hh => g1 (cD.2 (hin.1 hh).1))
       rw [Bool.eq_false_iff.2 g1]
       ((iterate 13 refine hG Z Z Z ?_); refine aG V Z Z Z (aG V Z Z Z ?_); (iterate 13 refine hG Z Z Z ?_); refine aG V Z Z Z (aO (aL Z (aD (aB (aA V Z Z (aA V Z Z (aF (aS ?_)))))))))
       refine aU V Z (by repeat constructor) fun w hs => ?_
       exact .inr ⟨by rw [e3]; simp, by rw [e3]; rfl, hs.chg0⟩
     ·obtain rfl : k = x.days.length := by omega
      clear hK
      have e3 : weatV x t = 0 := by
       unfold weatV
       rw [if_neg (by omega), if_neg (by simp [hc1, hc2, hc3]), if_pos hall]
      have hti := (weatV_iff.1 e3).2
      (refine bO _ rfl (aD (aB ?_)); (iterate 2 refine aJ V Z Z Z ?_))
      refine bG (β := Nat × Value × Value × Value) (ψ := fun y v => v = .pointer (some ⟨y.1, 0, none⟩)) (L' := fun y => runH y x (some ⟨ba, oa, none⟩) c t) V [] _ M0 rfl rfl rfl rfl (Sp.refl _) (fun _ h => h.elim)
       (fun w' hs => iJ w' x (some ⟨ba, oa, none⟩) c t _ _ _ hx.x hd2 (in_fine hx hti) ⟨⟨_, _, RdE.keep hn hs.chg0⟩, ⟨_, _, RdE.keep hm hs.chg0⟩, _, _, RdE.keep hl hs.chg0⟩) ?_
      rintro ⟨br, sv, mv, pv⟩ _ rfl
      dsimp only [List.cons_append, List.nil_append, runH]
      generalize hS : hapV x t = S at *
      (refine aA V Z Z (aA V Z Z (aF (aS ?_))))
      refine aU V Z (by repeat constructor) fun w hs => ?_
      refine .inl ⟨e3, (br, sv, mv, pv), rfl, ?_⟩
      subst hS
      exact hs.sp (by repeat constructor)
    ·have e := hbad (by omega)
     (refine aH Z (aM (aD (aB (aA V Z Z ?_)))); refine aI V Z Z Z ?_; refine aA V Z Z (aA V Z Z (aF (aD (aD (aB (aA V Z Z ?_)))))); refine aI V Z Z Z ?_; refine aA V Z Z (aA V Z Z (aW V Z Z Z (by omega) (aA V Z Z (aE Z (aA V Z Z (aE Z ?_)))))); refine aI V Z Z Z ?_; refine aE Z (aA V Z Z (aE Z (aA V Z Z (aE Z (aW V Z Z Z (by omega) (aA V Z Z (aA V Z Z (aE Z (aA V Z Z (aE Z ?_)))))))))); refine aI V Z Z Z ?_; refine aE Z (aA V Z Z (aE Z (aA V Z Z (aE Z (bW V Z Z Z (by omega) (aA V Z Z (aF (aL Z (aD (aB (aA V Z Z ?_))))))))))); refine aA V Z Z (aF (aS ?_)))
     refine aU V Z (by repeat constructor) fun w hs => ?_
     exact .inr ⟨by rw [e]; simp, by rw [e]; rfl, hs.chg0⟩
   ·have e := hbad (by omega)
    (refine aH Z (aM (aD (aB (aA V Z Z ?_)))); refine aI V Z Z Z ?_; refine aA V Z Z (aA V Z Z (aF (aD (aD (aB (aA V Z Z ?_)))))); refine aI V Z Z Z ?_; refine aA V Z Z (aA V Z Z (aW V Z Z Z (by omega) (aA V Z Z (aE Z (aA V Z Z (aE Z ?_)))))); refine aI V Z Z Z ?_; refine aE Z (aA V Z Z (aE Z (aA V Z Z (aE Z (bW V Z Z Z (by omega) (aA V Z Z (aA V Z Z ?_))))))); (iterate 5 refine bE Z Z Z ?_); refine aA V Z Z (aF (aL Z (aD (aB (aA V Z Z (aA V Z Z (aF (aS ?_)))))))))
    refine aU V Z (by repeat constructor) fun w hs => ?_
    exact .inr ⟨by rw [e]; simp, by rw [e]; rfl, hs.chg0⟩
  ·have e := hbad (by omega)
   (refine aH Z (aM (aD (aB (aA V Z Z ?_)))); refine aI V Z Z Z ?_; refine aA V Z Z (aA V Z Z (aF (aD (aD (aB (aA V Z Z ?_)))))); refine aI V Z Z Z ?_; refine aA V Z Z (aA V Z Z (bW V Z Z Z (by omega) (aA V Z Z ?_))); (iterate 5 refine bE Z Z Z ?_); refine aA V Z Z (aA V Z Z ?_); (iterate 5 refine bE Z Z Z ?_); refine aA V Z Z (aF (aL Z (aD (aB (aA V Z Z (aA V Z Z (aF (aS ?_)))))))))
   refine aU V Z (by repeat constructor) fun w hs => ?_
   exact .inr ⟨by rw [e]; simp, by rw [e]; rfl, hs.chg0⟩
 ·have e : weatV x t = checkW x := by unfold weatV; rw [if_pos h0]
  rw [decide_eq_false h0]
  (refine aL Z (aD (aB ?_)); (iterate 3 refine aA V Z Z ?_); refine aF (aS ?_))
  refine aU V Z (by repeat constructor) fun w hs => ?_
  exact .inr ⟨by rw [e]; exact h0, by rw [e]; rfl, hs.chg0⟩
end Go.Proofs.YtgeajgmefokifaaGreat

/- Walks: what happens in a weather: stocks, the day that fails, what is made, the piles. -/
namespace Go.Proofs.YtgeajgmefokifaaGreat
open Go Go.Eng

theorem plK_sl {w0 w : World} {M : Nat → Prop} {H : List Ck} {v : Value} {l : List (Int × Int)} (h : Sat w0 M H w) (hm : plK v l ∈ H) : ∃ a c, v = .slice a l.length c := by
 have h1 : Rd w 0 w.heap.size v 2 l.length (spC l) := h.all _ hm
 obtain ⟨a, cap, hv, _⟩ := h1.out
 exact ⟨a, cap, hv⟩
/-- told, as two calls. -/
theorem told_ok (w : World) (lo hi : Nat) (x : Wn) (a : Option Addr) (c : Nat) (t : Wt) (v1 v2 v3 : Value) (h : RdD w lo hi (.slice a x.days.length c) x.days) (hlen : x.days.length ≤ 1000000) (hw : WtR w t v1 v2 v3) (hl1 : t.need.length ≤ 1000000) (hl2 : t.make.length ≤ 1000000) (hl3 : t.loss.length ≤ 1000000) (e : weatV x t = 0) :
  Ca Tryz.prog 109 [.agg (wnC x a c).toArray, .agg #[v1, v2, v3]] w fun r w' => ∃ y : Nat × Value × Value × Value, r = .tuple #[.pointer (some ⟨y.1, 0, none⟩), .int .i64 0] ∧ Sat w M0 (runH y x a c t) w' :=
 (told_ca w lo hi x a c t v1 v2 v3 h hlen hw hl1 hl2 hl3).mono fun v w' hh => by
  rcases hh with ⟨_, y, g1, g2⟩ | ⟨g, _⟩
  ·exact ⟨y, g1, g2⟩
  ·exact absurd e g
theorem told_no (w : World) (lo hi : Nat) (x : Wn) (a : Option Addr) (c : Nat) (t : Wt) (v1 v2 v3 : Value) (h : RdD w lo hi (.slice a x.days.length c) x.days) (hlen : x.days.length ≤ 1000000) (hw : WtR w t v1 v2 v3) (hl1 : t.need.length ≤ 1000000) (hl2 : t.make.length ≤ 1000000) (hl3 : t.loss.length ≤ 1000000) (e : weatV x t ≠ 0) :
  Ca Tryz.prog 109 [.agg (wnC x a c).toArray, .agg #[v1, v2, v3]] w fun r w' => r = .tuple #[.pointer none, .int .i64 (weatV x t)] ∧ Chg [] w w' :=
 (told_ca w lo hi x a c t v1 v2 v3 h hlen hw hl1 hl2 hl3).mono fun v w' hh => by
  rcases hh with ⟨g, _⟩ | ⟨_, g1, g2⟩
  ·exact absurd g e
  ·exact ⟨g1, g2⟩

set_option maxHeartbeats 1000000 in
theorem stocks_ok (w : World) (lo hi : Nat) (x : Wn) (a : Option Addr) (c : Nat) (t : Wt) (v1 v2 v3 : Value) (h : RdD w lo hi (.slice a x.days.length c) x.days) (hlen : x.days.length ≤ 1000000) (hw : WtR w t v1 v2 v3) (hl1 : t.need.length ≤ 1000000) (hl2 : t.make.length ≤ 1000000) (hl3 : t.loss.length ≤ 1000000) (e : weatV x t = 0) :
  Ca Tryz.prog 61 [.agg (wnC x a c).toArray, .agg #[v1, v2, v3]] w fun r w' => ∃ v : Value, r = .tuple #[v, .int .i64 0] ∧ Sat w M0 [.ow v 3 1 (hapV x t).stocks.length (aP (hapV x t).stocks)] w' := by
 refine cS (Sat.nil w M0) Tryz.func61 rfl (by simp [Tryz.ntmps61]) ?_
 (refine aD (aB ?_))
 refine bD Z Z (fun b2 => ?_)
 refine bD Z Z (fun b3 => ?_)
 (refine aA V Z Z (aA V Z Z (aF (aD (aB (aJ V Z Z Z (aJ V Z Z Z ?_)))))))
 refine bG (β := Nat × Value × Value × Value) V [] _ M0 rfl rfl rfl rfl (Sp.refl _) (fun _ h => h.elim) (fun w' hs => told_ok w' lo hi x a c t v1 v2 v3 (RdE.keep h hs.chg0) hlen (hw.keep hs.chg0) hl1 hl2 hl3 e) ?_
 rintro ⟨br, sv, mv, pv⟩ _ rfl
 dsimp only [List.cons_append, List.nil_append, runH]
 generalize hS : hapV x t = S at *
 refine bL (fun w hs => hs.slice2 (v := sv) (by repeat constructor)) ?_
 rintro ⟨pa, pc, rfl⟩
 (refine aA V Z Z (aT V Z Z Z (aT V Z Z Z (aA V Z Z (aA V Z Z (aF (aD (aD (aB (aA V Z Z (aW V Z Z Z (by omega) (aF ?_))))))))))); refine aH Z (aM (aD (aB ?_))); (iterate 3 refine aA V Z Z ?_); refine aI V Z Z Z (aA V Z Z (aA V Z Z (aF (aS ?_)))))
 refine aU V Z (by repeat constructor) fun w hs => ?_
 subst hS
 exact ⟨_, rfl, hs.sp (by repeat constructor)⟩
theorem stocks_no (w : World) (lo hi : Nat) (x : Wn) (a : Option Addr) (c : Nat) (t : Wt) (v1 v2 v3 : Value) (h : RdD w lo hi (.slice a x.days.length c) x.days) (hlen : x.days.length ≤ 1000000) (hw : WtR w t v1 v2 v3) (hl1 : t.need.length ≤ 1000000) (hl2 : t.make.length ≤ 1000000) (hl3 : t.loss.length ≤ 1000000) (e : weatV x t ≠ 0) :
  Ca Tryz.prog 61 [.agg (wnC x a c).toArray, .agg #[v1, v2, v3]] w fun r w' => r = .tuple #[.slice none 0 0, .int .i64 (weatV x t)] ∧ Chg [] w w' := by
 refine cS (Sat.nil w M0) Tryz.func61 rfl (by simp [Tryz.ntmps61]) ?_
 (refine aD (aB ?_))
 refine bD Z Z (fun b2 => ?_)
 refine bD Z Z (fun b3 => ?_)
 (refine aA V Z Z (aA V Z Z (aF (aD (aB (aJ V Z Z Z (aJ V Z Z Z ?_)))))))
 refine aK (val := .tuple #[.pointer none, .int .i64 (weatV x t)]) V rfl rfl rfl rfl (fun w hs => ?_) ?_; exact told_no w lo hi x a c t v1 v2 v3 (RdE.keep h hs.chg0) hlen (hw.keep hs.chg0) hl1 hl2 hl3 e
 generalize weatV x t = z at *
 (refine aA V Z Z (aT V Z Z Z (aT V Z Z Z (aA V Z Z (aA V Z Z (aF (aD (aD (aB (aA V Z Z (bW V Z Z Z (by omega) (aF ?_))))))))))); refine aL Z (aD (aB ?_)); (iterate 3 refine aA V Z Z ?_); refine aF (aS ?_))
 refine aU V Z (by repeat constructor) fun w hs => ?_
 exact ⟨rfl, hs.chg0⟩

set_option maxHeartbeats 1000000 in
theorem fails_ok (w : World) (lo hi : Nat) (x : Wn) (a : Option Addr) (c : Nat) (t : Wt) (v1 v2 v3 : Value) (h : RdD w lo hi (.slice a x.days.length c) x.days) (hlen : x.days.length ≤ 1000000) (hw : WtR w t v1 v2 v3) (hl1 : t.need.length ≤ 1000000) (hl2 : t.make.length ≤ 1000000) (hl3 : t.loss.length ≤ 1000000) (e : weatV x t = 0) :
  Ca Tryz.prog 60 [.agg (wnC x a c).toArray, .agg #[v1, v2, v3]] w fun r w' => ∃ u : Unit, r = .tuple #[.int .i64 (hapV x t).fails, .int .i64 0] ∧ Sat w M0 [] w' := by
 refine cS (Sat.nil w M0) Tryz.func60 rfl (by simp [Tryz.ntmps60]) ?_
 (refine aD (aB ?_))
 refine bD Z Z (fun b2 => ?_)
 refine bD Z Z (fun b3 => ?_)
 (refine aA V Z Z (aA V Z Z (aF (aD (aB (aJ V Z Z Z (aJ V Z Z Z ?_)))))))
 refine bG (β := Nat × Value × Value × Value) V [] _ M0 rfl rfl rfl rfl (Sp.refl _) (fun _ h => h.elim) (fun w' hs => told_ok w' lo hi x a c t v1 v2 v3 (RdE.keep h hs.chg0) hlen (hw.keep hs.chg0) hl1 hl2 hl3 e) ?_
 rintro ⟨br, sv, mv, pv⟩ _ rfl
 dsimp only [List.cons_append, List.nil_append, runH]
 generalize hS : hapV x t = S at *
 (refine aA V Z Z (aT V Z Z Z (aT V Z Z Z (aA V Z Z (aA V Z Z (aF (aD (aD (aB (aA V Z Z (aW V Z Z Z (by omega) (aF ?_))))))))))); refine aH Z (aM (aD (aB ?_))); (iterate 3 refine aA V Z Z ?_); refine aI V Z Z Z (aA V Z Z (aA V Z Z (aF (aS ?_)))))
 refine aU V Z (by repeat constructor) fun w hs => ?_
 subst hS
 exact ⟨(), rfl, hs.sp (by repeat constructor)⟩
theorem fails_no (w : World) (lo hi : Nat) (x : Wn) (a : Option Addr) (c : Nat) (t : Wt) (v1 v2 v3 : Value) (h : RdD w lo hi (.slice a x.days.length c) x.days) (hlen : x.days.length ≤ 1000000) (hw : WtR w t v1 v2 v3) (hl1 : t.need.length ≤ 1000000) (hl2 : t.make.length ≤ 1000000) (hl3 : t.loss.length ≤ 1000000) (e : weatV x t ≠ 0) :
  Ca Tryz.prog 60 [.agg (wnC x a c).toArray, .agg #[v1, v2, v3]] w fun r w' => r = .tuple #[.int .i64 0, .int .i64 (weatV x t)] ∧ Chg [] w w' := by
 refine cS (Sat.nil w M0) Tryz.func60 rfl (by simp [Tryz.ntmps60]) ?_
 (refine aD (aB ?_))
 refine bD Z Z (fun b2 => ?_)
 refine bD Z Z (fun b3 => ?_)
 (refine aA V Z Z (aA V Z Z (aF (aD (aB (aJ V Z Z Z (aJ V Z Z Z ?_)))))))
 refine aK (val := .tuple #[.pointer none, .int .i64 (weatV x t)]) V rfl rfl rfl rfl (fun w hs => ?_) ?_; exact told_no w lo hi x a c t v1 v2 v3 (RdE.keep h hs.chg0) hlen (hw.keep hs.chg0) hl1 hl2 hl3 e
 generalize weatV x t = z at *
 (refine aA V Z Z (aT V Z Z Z (aT V Z Z Z (aA V Z Z (aA V Z Z (aF (aD (aD (aB (aA V Z Z (bW V Z Z Z (by omega) (aF ?_))))))))))); refine aL Z (aD (aB ?_)); (iterate 3 refine aA V Z Z ?_); refine aF (aS ?_))
 refine aU V Z (by repeat constructor) fun w hs => ?_
 exact ⟨rfl, hs.chg0⟩

set_option maxHeartbeats 1000000 in
theorem made_ok (w : World) (lo hi : Nat) (x : Wn) (a : Option Addr) (c : Nat) (t : Wt) (v1 v2 v3 : Value) (h : RdD w lo hi (.slice a x.days.length c) x.days) (hlen : x.days.length ≤ 1000000) (hw : WtR w t v1 v2 v3) (hl1 : t.need.length ≤ 1000000) (hl2 : t.make.length ≤ 1000000) (hl3 : t.loss.length ≤ 1000000) (e : weatV x t = 0) :
  Ca Tryz.prog 62 [.agg (wnC x a c).toArray, .agg #[v1, v2, v3]] w fun r w' => ∃ v : Value, r = .tuple #[v, .int .i64 0] ∧ Sat w M0 [.ow v 3 1 (hapV x t).made.length (aP (hapV x t).made)] w' := by
 refine cS (Sat.nil w M0) Tryz.func62 rfl (by simp [Tryz.ntmps62]) ?_
 (refine aD (aB ?_))
 refine bD Z Z (fun b2 => ?_)
 refine bD Z Z (fun b3 => ?_)
 (refine aA V Z Z (aA V Z Z (aF (aD (aB (aJ V Z Z Z (aJ V Z Z Z ?_)))))))
 refine bG (β := Nat × Value × Value × Value) V [] _ M0 rfl rfl rfl rfl (Sp.refl _) (fun _ h => h.elim) (fun w' hs => told_ok w' lo hi x a c t v1 v2 v3 (RdE.keep h hs.chg0) hlen (hw.keep hs.chg0) hl1 hl2 hl3 e) ?_
 rintro ⟨br, sv, mv, pv⟩ _ rfl
 dsimp only [List.cons_append, List.nil_append, runH]
 generalize hS : hapV x t = S at *
 refine bL (fun w hs => hs.slice2 (v := mv) (by repeat constructor)) ?_
 rintro ⟨pa, pc, rfl⟩
 (refine aA V Z Z (aT V Z Z Z (aT V Z Z Z (aA V Z Z (aA V Z Z (aF (aD (aD (aB (aA V Z Z (aW V Z Z Z (by omega) (aF ?_))))))))))); refine aH Z (aM (aD (aB ?_))); (iterate 3 refine aA V Z Z ?_); refine aI V Z Z Z (aA V Z Z (aA V Z Z (aF (aS ?_)))))
 refine aU V Z (by repeat constructor) fun w hs => ?_
 subst hS
 exact ⟨_, rfl, hs.sp (by repeat constructor)⟩
theorem made_no (w : World) (lo hi : Nat) (x : Wn) (a : Option Addr) (c : Nat) (t : Wt) (v1 v2 v3 : Value) (h : RdD w lo hi (.slice a x.days.length c) x.days) (hlen : x.days.length ≤ 1000000) (hw : WtR w t v1 v2 v3) (hl1 : t.need.length ≤ 1000000) (hl2 : t.make.length ≤ 1000000) (hl3 : t.loss.length ≤ 1000000) (e : weatV x t ≠ 0) :
  Ca Tryz.prog 62 [.agg (wnC x a c).toArray, .agg #[v1, v2, v3]] w fun r w' => r = .tuple #[.slice none 0 0, .int .i64 (weatV x t)] ∧ Chg [] w w' := by
 refine cS (Sat.nil w M0) Tryz.func62 rfl (by simp [Tryz.ntmps62]) ?_
 (refine aD (aB ?_))
 refine bD Z Z (fun b2 => ?_)
 refine bD Z Z (fun b3 => ?_)
 (refine aA V Z Z (aA V Z Z (aF (aD (aB (aJ V Z Z Z (aJ V Z Z Z ?_)))))))
 refine aK (val := .tuple #[.pointer none, .int .i64 (weatV x t)]) V rfl rfl rfl rfl (fun w hs => ?_) ?_; exact told_no w lo hi x a c t v1 v2 v3 (RdE.keep h hs.chg0) hlen (hw.keep hs.chg0) hl1 hl2 hl3 e
 generalize weatV x t = z at *
 (refine aA V Z Z (aT V Z Z Z (aT V Z Z Z (aA V Z Z (aA V Z Z (aF (aD (aD (aB (aA V Z Z (bW V Z Z Z (by omega) (aF ?_))))))))))); refine aL Z (aD (aB ?_)); (iterate 3 refine aA V Z Z ?_); refine aF (aS ?_))
 refine aU V Z (by repeat constructor) fun w hs => ?_
 exact ⟨rfl, hs.chg0⟩

set_option maxHeartbeats 1000000 in
theorem piles_ok (w : World) (lo hi : Nat) (x : Wn) (a : Option Addr) (c : Nat) (t : Wt) (v1 v2 v3 : Value) (h : RdD w lo hi (.slice a x.days.length c) x.days) (hlen : x.days.length ≤ 1000000) (hw : WtR w t v1 v2 v3) (hl1 : t.need.length ≤ 1000000) (hl2 : t.make.length ≤ 1000000) (hl3 : t.loss.length ≤ 1000000) (e : weatV x t = 0) :
  Ca Tryz.prog 63 [.agg (wnC x a c).toArray, .agg #[v1, v2, v3]] w fun r w' => ∃ v : Value, r = .tuple #[v, .int .i64 0] ∧ Sat w M0 [plK v (hapV x t).piles] w' := by
 refine cS (Sat.nil w M0) Tryz.func63 rfl (by simp [Tryz.ntmps63]) ?_
 (refine aD (aB ?_))
 refine bD Z Z (fun b2 => ?_)
 refine bD Z Z (fun b3 => ?_)
 (refine aA V Z Z (aA V Z Z (aF (aD (aB (aJ V Z Z Z (aJ V Z Z Z ?_)))))))
 refine bG (β := Nat × Value × Value × Value) V [] _ M0 rfl rfl rfl rfl (Sp.refl _) (fun _ h => h.elim) (fun w' hs => told_ok w' lo hi x a c t v1 v2 v3 (RdE.keep h hs.chg0) hlen (hw.keep hs.chg0) hl1 hl2 hl3 e) ?_
 rintro ⟨br, sv, mv, pv⟩ _ rfl
 dsimp only [List.cons_append, List.nil_append, runH]
 generalize hS : hapV x t = S at *
 refine bL (fun w hs => plK_sl (v := pv) (l := S.piles) hs (by repeat constructor)) ?_
 rintro ⟨pa, pc, rfl⟩
 (refine aA V Z Z (aT V Z Z Z (aT V Z Z Z (aA V Z Z (aA V Z Z (aF (aD (aD (aB (aA V Z Z (aW V Z Z Z (by omega) (aF ?_))))))))))); refine aH Z (aM (aD (aB ?_))); (iterate 3 refine aA V Z Z ?_); refine aI V Z Z Z (aA V Z Z (aA V Z Z (aF (aS ?_)))))
 refine aU V Z (by repeat constructor) fun w hs => ?_
 subst hS
 exact ⟨_, rfl, hs.sp (by repeat constructor)⟩
theorem piles_no (w : World) (lo hi : Nat) (x : Wn) (a : Option Addr) (c : Nat) (t : Wt) (v1 v2 v3 : Value) (h : RdD w lo hi (.slice a x.days.length c) x.days) (hlen : x.days.length ≤ 1000000) (hw : WtR w t v1 v2 v3) (hl1 : t.need.length ≤ 1000000) (hl2 : t.make.length ≤ 1000000) (hl3 : t.loss.length ≤ 1000000) (e : weatV x t ≠ 0) :
  Ca Tryz.prog 63 [.agg (wnC x a c).toArray, .agg #[v1, v2, v3]] w fun r w' => r = .tuple #[.slice none 0 0, .int .i64 (weatV x t)] ∧ Chg [] w w' := by
 refine cS (Sat.nil w M0) Tryz.func63 rfl (by simp [Tryz.ntmps63]) ?_
 (refine aD (aB ?_))
 refine bD Z Z (fun b2 => ?_)
 refine bD Z Z (fun b3 => ?_)
 (refine aA V Z Z (aA V Z Z (aF (aD (aB (aJ V Z Z Z (aJ V Z Z Z ?_)))))))
 refine aK (val := .tuple #[.pointer none, .int .i64 (weatV x t)]) V rfl rfl rfl rfl (fun w hs => ?_) ?_; exact told_no w lo hi x a c t v1 v2 v3 (RdE.keep h hs.chg0) hlen (hw.keep hs.chg0) hl1 hl2 hl3 e
 generalize weatV x t = z at *
 (refine aA V Z Z (aT V Z Z Z (aT V Z Z Z (aA V Z Z (aA V Z Z (aF (aD (aD (aB (aA V Z Z (bW V Z Z Z (by omega) (aF ?_))))))))))); refine aL Z (aD (aB ?_)); (iterate 3 refine aA V Z Z ?_); refine aF (aS ?_))
 refine aU V Z (by repeat constructor) fun w hs => ?_
 exact ⟨rfl, hs.chg0⟩
end Go.Proofs.YtgeajgmefokifaaGreat

/- Walks: what a proof proves. -/
namespace Go.Proofs.YtgeajgmefokifaaGreat
open Go Go.Eng

set_option maxHeartbeats 4000000 in
theorem lO (w : World) (lo hi : Nat) (x : Wn) (a : Option Addr) (c : Nat) (frm day : Int) (h : RdD w lo hi (.slice a x.days.length c) x.days) (hlen : x.days.length ≤ 1000000) :
  Ca Tryz.prog 72 [.agg (wnC x a c).toArray, .agg #[.int .i64 frm, .int .i64 day]] w fun r w' => r = .tuple #[.int .i64 (cF x frm day).1, .int .i64 (cF x frm day).2] ∧ Chg [] w w' := by
 refine cS (Sat.nil w M0) Tryz.func72 rfl (by simp [Tryz.ntmps72]) ?_
 (refine aD (aB ?_))
 refine bD Z Z (fun b2 => ?_)
 refine bD Z Z (fun b3 => ?_)
 (refine aA V Z Z (aA V Z Z (aF (aD (aB ?_)))); refine aJ V Z Z Z ?_)
 refine aK (val := .int .i64 (checkW x)) V rfl rfl rfl rfl (fun w hs => ?_) ?_; exact eK w lo hi x a c (RdE.keep h hs.chg0) (by omega)
 (refine aA V Z Z (aF (aD (aQ (aD (aB ?_))))); (iterate 3 refine aA V Z Z ?_); refine aF ?_)
 by_cases h0 : checkW x = 0
 ·rw [h0]
  have hx := bU.1 h0
  have hd1 := hx.d1
  have hd2 := hx.d2
  (refine aH Z (aD (aB (aA V Z Z ?_))); refine aI V Z Z Z ?_; refine aA V Z Z ?_; refine aI V Z Z Z ?_; refine aA V Z Z (bA V Z Z Z Z (by omega) (by omega) ?_))
  refine aK (val := .bool (wiB day 0 ((x.days.length : Int) - 1))) V rfl rfl rfl rfl (fun w hs => ?_) ?_; exact cH day 0 ((x.days.length : Int) - 1) w
  (refine aA V Z Z (aA V Z Z ?_))
  have hbad : ¬(0 ≤ day ∧ day ≤ (x.days.length : Int) - 1 ∧ -1 ≤ frm ∧ frm ≤ day) → cF x frm day = (0, 1) := fun hh => by
   unfold cF
   rw [if_neg (by omega), if_pos hh]
  by_cases g1 : wiB day 0 ((x.days.length : Int) - 1) = true
  ·have q1 := cD.1 g1
   rw [g1]
   (refine aE Z (aA V Z Z (aE Z ?_)); refine aI V Z Z Z ?_; refine aE Z (aA V Z Z (aE Z ?_)); refine aI V Z Z Z ?_; refine aE Z ?_)
   refine aK (val := .bool (wiB frm (-1) day)) V rfl rfl rfl rfl (fun w hs => ?_) ?_; exact cH frm (-1) day w
   (refine aE Z ?_; (iterate 3 refine aA V Z Z ?_); refine aF ?_)
   by_cases g2 : wiB frm (-1) day = true
   ·have q2 := cD.1 g2
    rw [g2]
    obtain ⟨D, rfl⟩ := Int.eq_ofNat_of_zero_le q1.1
    have hD : D < x.days.length := by omega
    have hpv : cF x frm D = if phAll x frm (D - frm.toNat) = false then (0, 8) else if (aR x).need.getD D 0 ≤ phK x frm (D - frm.toNat) then (0, 8) else ((aR x).need.getD D 0 - phK x frm (D - frm.toNat), 0) := by
     unfold cF
     rw [if_neg (by omega), if_neg (by omega)]
     rfl
    (refine aH Z (aM (bJ (aD (aB ?_)))); refine aJ V Z Z Z ?_)
    refine bG (β := Value × Value × Value) V [] _ M0 rfl rfl rfl rfl (Sp.refl _) (fun _ h => h.elim) (fun w' hs => jU w' lo hi x a c (RdE.keep h hs.chg0) (by omega)) ?_
    rintro ⟨v1, v2, v3⟩ _ rfl
    dsimp only [wtK, List.cons_append, List.nil_append]
    have tf := bN hx
    have hpb := ph_bd hx frm
    have hpn := ph_nn hx frm
    have hps : ∀ k, phK x frm (k + 1) = max 0 (phK x frm k - (aR x).need.getD (frm.toNat + k) 0 - (aR x).loss.getD (frm.toNat + k + 1) 0) + (aR x).make.getD (frm.toNat + k + 1) 0 := fun k => rfl
    have hp0 : phK x frm 0 = if frm = -1 then max 0 (x.stock - (aR x).loss.getD 0 0) + (aR x).make.getD 0 0 else x.store := rfl
    have has : ∀ d, phAll x frm (d + 1) = (phAll x frm d && decide ((aR x).need.getD (frm.toNat + d) 0 ≤ phK x frm d)) := fun d => phAll_succ
    generalize hT : aR x = T at *
    have n1 := tf.need
    have n2 := tf.make
    have n3 := tf.loss
    refine bL (fun w hs => hs.slice2 (v := v1) (by repeat constructor)) ?_
    rintro ⟨a1, c1, rfl⟩
    refine bL (fun w hs => hs.slice2 (v := v2) (by repeat constructor)) ?_
    rintro ⟨a2, c2, rfl⟩
    refine bL (fun w hs => hs.slice2 (v := v3) (by repeat constructor)) ?_
    rintro ⟨a3, c3, rfl⟩
    refine bL (fun w hs => hs.ownSome (v := .slice a1 T.need.length c1) (by repeat constructor) (by omega)) ?_
    rintro ⟨e1, f1, z1⟩
    cases z1
    refine bL (fun w hs => hs.ownSome (v := .slice a2 T.make.length c2) (by repeat constructor) (by omega)) ?_
    rintro ⟨e2, f2, z2⟩
    cases z2
    refine bL (fun w hs => hs.ownSome (v := .slice a3 T.loss.length c3) (by repeat constructor) (by omega)) ?_
    rintro ⟨e3, f3, z3⟩
    cases z3
    skip
    refine bI dR rfl (fun b7 => ?_)
    (refine bS V Z Z Z Z Z (by repeat constructor) rfl ?_; refine aF (aD (aB (aA V Z Z ?_))); refine aI V Z Z Z ?_; refine aA V Z Z (aF (aD (aB (aA V Z Z ?_)))); refine aI V Z Z Z ?_; refine aA V Z Z (aF (aD (aD (aB (aA V Z Z (aA V Z Z (aF ?_))))))))
    have hL : ∀ k, k < x.days.length → ∃ (g1 : k < T.need.length) (g2 : k < T.make.length) (g3 : k < T.loss.length), (T.need.getD k 0 = T.need[k] ∧ T.make.getD k 0 = T.make[k] ∧ T.loss.getD k 0 = T.loss[k]) ∧ (0 ≤ T.need[k] ∧ T.need[k] ≤ 200000) ∧ (0 ≤ T.make[k] ∧ T.make[k] ≤ 200000) ∧ 0 ≤ T.loss[k] ∧ T.loss[k] ≤ 200000 := fun k hk =>
     ⟨by omega, by omega, by omega, ⟨cR (by omega), cR (by omega), cR (by omega)⟩, tf.need0 _ (List.getElem_mem _), tf.make0 _ (List.getElem_mem _), tf.loss0 _ (List.getElem_mem _)⟩
    have hxs := hx.store
    have hxk := hx.stock
    obtain ⟨st, hst⟩ : ∃ st, st = frm.toNat := ⟨_, rfl⟩
    simp only [← hst] at hps hp0 has hpv
    have hstD : st ≤ D := by omega
    refine jP (σ := Unit) (fun _ => [(3, .pointer (some ⟨b3, 0, none⟩)), (7, .pointer (some ⟨b7, 0, none⟩)), (8, .int .i64 (phK x frm 0)), (9, .int .i64 st)]) (fun _ => [.pt b7 [.slice (some ⟨e1, 0, none⟩) T.need.length c1, .slice (some ⟨e2, 0, none⟩) T.make.length c2, .slice (some ⟨e3, 0, none⟩) T.loss.length c3] 44, .ow (.slice (some ⟨e1, 0, none⟩) T.need.length c1) 3 1 T.need.length (aP T.need), .ow (.slice (some ⟨e2, 0, none⟩) T.make.length c2) 3 1 T.make.length (aP T.make), .ow (.slice (some ⟨e3, 0, none⟩) T.loss.length c3) 3 1 T.loss.length (aP T.loss), .pt b3 [.int .i64 frm, .int .i64 D] 42]) ?_ ?_
    ·intro _
     (refine aD (aD (aB (aA V Z Z (aA V Z Z (aF (aQ ?_)))))))
     refine cB (σ := Nat) (fun k => k ≤ D - st ∧ phAll x frm k = true) (fun k => D - st - k) (fun k => [(3, .pointer (some ⟨b3, 0, none⟩)), (7, .pointer (some ⟨b7, 0, none⟩)), (8, .int .i64 (phK x frm k)), (10, .int .i64 (((st + k : Nat) : Int)))]) (fun _ => [.pt b7 [.slice (some ⟨e1, 0, none⟩) T.need.length c1, .slice (some ⟨e2, 0, none⟩) T.make.length c2, .slice (some ⟨e3, 0, none⟩) T.loss.length c3] 44, .ow (.slice (some ⟨e1, 0, none⟩) T.need.length c1) 3 1 T.need.length (aP T.need), .ow (.slice (some ⟨e2, 0, none⟩) T.make.length c2) 3 1 T.make.length (aP T.make), .ow (.slice (some ⟨e3, 0, none⟩) T.loss.length c3) 3 1 T.loss.length (aP T.loss), .pt b3 [.int .i64 frm, .int .i64 D] 42]) 0 ⟨by omega, rfl⟩ ⟨rfl, rfl, rfl, rfl, trivial⟩ (by repeat constructor) ?_
     rintro k ⟨hk, hall⟩ K hK
     have b1 := hpb k
     have b2' := hpn k
     have b3' := hpb (k + 1)
     have b4 := hpn (k + 1)
     (refine aD (aD (aB (aA V Z Z (aA V Z Z ?_)))); refine aI V Z Z Z ?_; refine aA V Z Z (aF ?_))
     refine dL Z (fun hc => ?_) (fun hc => ?_)
     ·have hk2 : k < D - st := by omega
      clear hc
      obtain ⟨y1, y2, y3, ⟨y4, y5, y6⟩, y7, y8, y9⟩ := hL (st + k) (by omega)
      obtain ⟨z1, z2, z3, ⟨z4, z5, z6⟩, z7, z8, z9⟩ := hL (st + k + 1) (by omega)
      have hs1 := hps k
      have ha1 := has k
      rw [y4, z5, z6] at hs1
      rw [y4, hall] at ha1
      (refine aM (aD (aQ (aD (aD (aB (aA V Z Z (aA V Z Z ?_))))))); refine aI V Z Z Z ?_; refine aA V Z Z ?_)
      refine aV V Z Z Z Z Z (by omega) (by omega) ?_
      refine bB (v := .int .i64 T.need[st + k]) V rfl rfl rfl (fun w hs => RdI.at (hs.rdI (v := .slice (some ⟨e1, 0, none⟩) T.need.length c1) (l := T.need) (by repeat constructor) rfl) (st + k) y1) ?_
      (refine bA V Z Z Z Z (by omega) (by omega) (aA V Z Z (aF (aD (aB (aA V Z Z (aA V Z Z (aF ?_))))))))
      refine dL Z (fun hc => ?_) (fun hc => ?_)
      ·have hneg : phK x frm k - T.need[st + k] < 0 := by assumption
       have e8 : cF x frm D = (0, 8) := by
        have : phAll x frm (D - st) = false := by
         refine Bool.eq_false_iff.2 fun hh => ?_
         have := lV.1 hh k hk2
         rw [← hst, hT, y4] at this
         omega
        rw [hpv, if_pos this]
       rw [e8]
       (refine aD (aB (aA V Z Z (aA V Z Z (aF (aS ?_))))))
       refine aU V Z (by repeat constructor) fun w hs => ?_
       exact ⟨rfl, hs.chg0⟩
      ·have hnn : ¬ phK x frm k - T.need[st + k] < 0 := by assumption
       (refine aM ?_)
       refine cQ _ [] (Sp.refl _) (by kernel_rfl) (by kernel_rfl) ?_
       (refine aG V Z Z Z (aG V Z Z Z ?_); refine aN V Z Z Z ?_; refine aG V Z Z Z (dA V Z Z Z Z (by omega) (by omega) ?_))
       refine bR V Z Z Z Z Z (by omega) (by omega) ?_
       refine cC (v := .int .i64 T.loss[st + k + 1]) V rfl rfl rfl (fun w hs => RdI.at (hs.rdI (v := .slice (some ⟨e3, 0, none⟩) T.loss.length c3) (l := T.loss) (by repeat constructor) rfl) (st + k + 1) z3) ?_
       (refine dA V Z Z Z Z (by omega) (by omega) (aG V Z Z Z (aG V Z Z Z ?_)); refine aN V Z Z Z ?_; refine aG V Z Z Z (dA V Z Z Z Z (by omega) (by omega) ?_))
       refine bR V Z Z Z Z Z (by omega) (by omega) ?_
       refine cC (v := .int .i64 T.make[st + k + 1]) V rfl rfl rfl (fun w hs => RdI.at (hs.rdI (v := .slice (some ⟨e2, 0, none⟩) T.make.length c2) (l := T.make) (by repeat constructor) rfl) (st + k + 1) z2) ?_
       (refine dA V Z Z Z Z (by omega) (by omega) (aG V Z Z Z (aO (bJ (aB (aA V Z Z (bA V Z Z Z Z (by omega) (by omega) (aA V Z Z (aF ?_)))))))))
       exact hK (k + 1) _ _ ⟨by omega, by rw [ha1]; simp; omega⟩ (by omega) ⟨rfl, rfl, cM rfl hs1.symm, cM rfl (by omega), trivial⟩ (by repeat constructor)
     ·have hkd : k = D - st := by omega
      subst hkd
      clear hc hK
      obtain ⟨y1, y2, y3, ⟨y4, y5, y6⟩, y7, y8, y9⟩ := hL D hD
      rw [hall, y4] at hpv
      (refine bO _ rfl (aD (aD (aB (aA V Z Z (aA V Z Z ?_))))); refine aI V Z Z Z ?_; refine aA V Z Z ?_; refine aI V Z Z Z ?_)
      refine aV V Z Z Z Z Z (by omega) (by omega) ?_
      refine bB (v := .int .i64 T.need[D]) V rfl rfl rfl (fun w hs => RdI.at (hs.rdI (v := .slice (some ⟨e1, 0, none⟩) T.need.length c1) (l := T.need) (by repeat constructor) rfl) (D) y1) ?_
      (refine aA V Z Z (aF ?_))
      refine dL Z (fun hc => ?_) (fun hc => ?_)
      ·have hge : T.need[D] ≤ phK x frm (D - st) := by assumption
       rw [if_neg (by simp), if_pos hge] at hpv
       rw [hpv]
       (refine aD (aB (aA V Z Z (aA V Z Z (aF (aS ?_))))))
       refine aU V Z (by repeat constructor) fun w hs => ?_
       exact ⟨rfl, hs.chg0⟩
      ·have hge : ¬ T.need[D] ≤ phK x frm (D - st) := by assumption
       rw [if_neg (by simp), if_neg hge] at hpv
       rw [hpv]
       (refine aM (aD (aB (aA V Z Z ?_))); refine aI V Z Z Z ?_; refine aA V Z Z ?_; refine aI V Z Z Z ?_)
       refine aV V Z Z Z Z Z (by omega) (by omega) ?_
       refine bB (v := .int .i64 T.need[D]) V rfl rfl rfl (fun w hs => RdI.at (hs.rdI (v := .slice (some ⟨e1, 0, none⟩) T.need.length c1) (l := T.need) (by repeat constructor) rfl) (D) y1) ?_
       (refine aA V Z Z (bA V Z Z Z Z (by omega) (by omega) (aA V Z Z (aA V Z Z (aF (aS ?_))))))
       refine aU V Z (by repeat constructor) fun w hs => ?_
       exact ⟨rfl, hs.chg0⟩
    ·intro K2 hK2
     refine dL Z (fun hc => ?_) (fun hc => ?_)
     ·have hfm : frm = -1 := by assumption
      obtain ⟨y1, y2, y3, ⟨y4, y5, y6⟩, y7, y8, y9⟩ := hL 0 (by omega)
      rw [if_pos hfm, y5, y6] at hp0
      have hst0 : st = 0 := by rw [hst, hfm]; rfl
      skip
      refine cQ _ [] (Sp.refl _) (by kernel_rfl) (by kernel_rfl) ?_
      (refine aG V Z Z Z ?_; refine aN V Z Z Z ?_; refine aG V Z Z Z ?_; refine aN V Z Z Z ?_)
      refine bR V Z Z Z Z Z (by omega) (by omega) ?_
      refine cC (v := .int .i64 T.loss[0]) V rfl rfl rfl (fun w hs => RdI.at (hs.rdI (v := .slice (some ⟨e3, 0, none⟩) T.loss.length c3) (l := T.loss) (by repeat constructor) rfl) (0) y3) ?_
      (refine dA V Z Z Z Z (by omega) (by omega) (aG V Z Z Z (aG V Z Z Z ?_)); refine aN V Z Z Z ?_)
      refine bR V Z Z Z Z Z (by omega) (by omega) ?_
      refine cC (v := .int .i64 T.make[0]) V rfl rfl rfl (fun w hs => RdI.at (hs.rdI (v := .slice (some ⟨e2, 0, none⟩) T.make.length c2) (l := T.make) (by repeat constructor) rfl) (0) y2) ?_
      (refine dA V Z Z Z Z (by omega) (by omega) (aG V Z Z Z (aG V Z Z Z (aO ?_))))
      exact hK2 () _ _ ⟨rfl, rfl, cM rfl hp0.symm, cM rfl (by omega), trivial⟩ (by repeat constructor)
     ·have hfm : ¬ frm = -1 := by assumption
      rw [if_neg hfm] at hp0
      (refine aM ?_)
      exact hK2 () _ _ ⟨rfl, rfl, cM rfl hp0.symm, cM rfl (by omega), trivial⟩ (by repeat constructor)
   ·rw [Bool.eq_false_iff.2 g2, hbad (fun hh => g2 (cD.2 (by omega)))]
    (refine aL Z (aD (aB (aA V Z Z (aA V Z Z (aF (aS ?_)))))))
    refine aU V Z (by repeat constructor) fun w hs => ?_
    exact ⟨rfl, hs.chg0⟩
  ·rw [Bool.eq_false_iff.2 g1, hbad (fun hh => g1 (cD.2 (by omega)))]
   ((iterate 6 refine bE Z Z Z ?_); refine aA V Z Z (aA V Z Z (aF (aL Z (aD (aB (aA V Z Z (aA V Z Z (aF (aS ?_))))))))))
   refine aU V Z (by repeat constructor) fun w hs => ?_
   exact ⟨rfl, hs.chg0⟩
 ·have e : cF x frm day = (0, checkW x) := by unfold cF; rw [if_pos h0]
  rw [decide_eq_false h0, e]
  generalize checkW x = z at *
  (refine aL Z (aD (aB ?_)); (iterate 3 refine aA V Z Z ?_); refine aF (aS ?_))
  refine aU V Z (by repeat constructor) fun w hs => ?_
  exact ⟨rfl, hs.chg0⟩
end Go.Proofs.YtgeajgmefokifaaGreat

/- Walks: what is needed; the least stock and the least store. -/
namespace Go.Proofs.YtgeajgmefokifaaGreat
open Go Go.Eng

/-- Days from the last one back. -/
def dyD (l : List Dy) (i : Nat) : Dy := l.getD i ⟨0, 0, 0, 0, 0, 0⟩
def bwL (l : List Dy) : List (Nat × Dy) := (List.range l.length).map fun k => (l.length - 1 - k, dyD l (l.length - 1 - k))
def encB (p : Nat × Dy) : List Value := [.int .i64 p.1, dyV p.2]
theorem bwL_split (l : List Dy) {k : Nat} (h : k < l.length) : ∃ post, bwL l = (bwL l).take k ++ (l.length - 1 - k, dyD l (l.length - 1 - k)) :: post := by
 refine ⟨(bwL l).drop (k + 1), ?_⟩
 have hk : k < (bwL l).length := by simpa [bwL] using h
 have e : (bwL l)[k] = (l.length - 1 - k, dyD l (l.length - 1 - k)) := by simp [bwL]
 rw [← e, ← List.drop_eq_getElem_cons hk, List.take_append_drop]
theorem bwL_take_succ (l : List Dy) {k : Nat} (h : k < l.length) : (bwL l).take (k + 1) = (bwL l).take k ++ [(l.length - 1 - k, dyD l (l.length - 1 - k))] := by
 have hk : k < (bwL l).length := by simpa [bwL] using h
 rw [List.take_succ_eq_append_getElem hk]
 simp [bwL]
theorem backward_ca (w : World) (a : Option Addr) (n c : Nat) : Ca Tryz.prog 144 [.slice a n c] w fun v w' =>
  ∃ b : Nat, v = .func (.func 161) #[] #[.pointer (some ⟨b, 0, none⟩)] ∧ Sat w M0 [.pt b [.slice a n c] 37] w' := by
 refine cS (Sat.nil w M0) Tryz.func144 rfl (by simp [Tryz.ntmps144]) ?_
 (refine aD (aB ?_))
 refine bD Z Z (fun b1 => ?_)
 (refine aA V Z Z (aF (aD (aB (aA V Z Z (aA V Z Z (aF (aS ?_))))))))
 refine aU V Z (by repeat constructor) fun w hs => ?_
 exact ⟨b1, rfl, hs⟩

set_option maxHeartbeats 1000000 in
theorem back_it (w0 w : World) (D : Nat → Prop) (b lo hi : Nat) (a : Option Addr) (c : Nat) (l : List Dy) (h : RdD w0 lo hi (.slice a l.length c) l) (hlen : l.length ≤ 1000000) (h0 : ∀ w', ChgP D w w' → Chg [] w0 w') {t1 : TypeId} (hb : Blk w b [.slice a l.length c] t1) (hD : ¬ D b) :
  ItOk Tryz.prog 161 [.pointer (some ⟨b, 0, none⟩)] encB (bwL l) w D := by
 intro fv σ L I E s0 hI0 hLD hsat hcb
 obtain ⟨_, _, e0, hsa⟩ := RdD.outI h
 cases e0
 have hm : ∀ w', ChgP (DL (L s0)) w w' → ChgP D w w' := fun w' hc => ⟨hc.os, hc.tape, hc.output, hc.size, fun k hk hk2 => hc.block k hk (fun h => hk2 (hLD k h))⟩
 have hP1 : ∀ w', ChgP (DL (L s0)) w w' → Blk w' b [.slice a l.length c] t1 := fun w' hc => (hc.block b hb.lt (fun h => hD (hLD b h))).trans hb
 refine cS (H := [un (L s0)]) (Sat.un1.2 hsat) Tryz.func161 rfl (by simp [Tryz.ntmps161]) ?_
 (refine aD (aB ?_); refine kF V Z Z Z (by assumption) (by rfl) ?_; refine aA V Z Z (bA V Z Z Z Z (by omega) (by omega) (aA V Z Z (aF (aQ ?_)))))
 refine cB (σ := Nat × σ) (fun s => s.1 ≤ l.length ∧ I ((bwL l).take s.1) s.2) (fun s => l.length - s.1) (fun s => [(0, fv), (1, .pointer (some ⟨b, 0, none⟩)), (3, .int .i64 ((l.length : Int) - 1 - s.1))])
  (fun s => [un (L s.2)]) (0, s0) ⟨by simp, by simpa using hI0⟩ ⟨rfl, rfl, cM rfl (by simp), trivial⟩ (Sp.refl _) ?_
 rintro ⟨k, s⟩ ⟨hk, hI⟩ K hK
 simp only at hk hI
 dsimp only
 (refine aD (aD (aB (aA V Z Z (aA V Z Z (aF ?_))))))
 refine dL Z (fun hc => ?_) (fun hc => ?_)
 ·have hk2 : k < l.length := by omega
  clear hc
  obtain ⟨ba, oa, rfl⟩ := hsa (by omega)
  obtain ⟨post, hx⟩ := bwL_split l hk2
  have hi2 : l.length - 1 - k < l.length := by omega
  have ed : dyD l (l.length - 1 - k) = l[l.length - 1 - k] := by simp [dyD, List.getD_eq_getElem?_getD, hi2]
  have ei : ((l.length : Int) - 1 - (k : Int)) = ((l.length - 1 - k : Nat) : Int) := by omega
  rw [ei]
  (refine aM (aD (aQ (aD (aB (aA V Z Z (aA V Z Z ?_)))))); refine kF V Z Z Z (by assumption) (by rfl) ?_; refine aA V Z Z ?_)
  refine aV V Z Z Z Z Z (by omega) (by omega) ?_
  refine dU V Z Z Z Z (fun w' hs => RdD.at (RdE.keep h (h0 w' (hm w' hs.chg))) (l.length - 1 - k) hi2) ?_
  skip
  refine ql_callF [un (L s)] [] (DL (L s)) rfl rfl rfl (Sp.refl _) (fun b hb => ⟨_, .head _, hb⟩) (by rw [← ed]; exact yieldF hcb hx hI) ?_
  rintro s' v (⟨rfl, hI'⟩ | ⟨rfl, hE⟩)
  ·(refine aA V Z Z (aF (aH Z (aM (bJ (aB (aA V Z Z (bA V Z Z Z Z (by omega) (by omega) (aA V Z Z (aF ?_))))))))))
   refine hK (k + 1, s') _ _ ⟨by simp only; omega, by simp only; rw [bwL_take_succ l hk2]; exact hI'⟩ (by simp only; omega) ⟨rfl, rfl, cM rfl (by simp only; omega), trivial⟩ (by repeat constructor)
  ·(refine aA V Z Z (aF (aL Z (aS ?_))))
   refine aU V Z (by repeat constructor) fun w hs => ?_
   exact ⟨s', .inr hE, Sat.un1.1 (hs.sp (Sp.refl _))⟩
 ·obtain rfl : k = l.length := by omega
  (refine bO _ rfl ?_)
  refine q_end V Z (by repeat constructor) fun w hs => ?_
  refine ⟨s, .inl ?_, Sat.un1.1 (hs.sp (Sp.refl _))⟩
  rw [List.take_of_length_le (by simp [bwL])] at hI
  exact hI

theorem bwL_at {l : List Dy} {pre post : List (Nat × Dy)} {p : Nat × Dy} (h : bwL l = pre ++ p :: post) : pre.length < l.length ∧ p.1 = l.length - 1 - pre.length := by
 have hl : (bwL l).length = l.length := by simp [bwL]
 have hk : pre.length < l.length := by rw [h] at hl; simp at hl; omega
 refine ⟨hk, ?_⟩
 have h1 : (bwL l)[pre.length]? = some p := by rw [h]; simp
 have h2 : (bwL l)[pre.length]? = some (l.length - 1 - pre.length, dyD l (l.length - 1 - pre.length)) := by simp [bwL, hk]
 rw [h1] at h2
 rw [Option.some.inj h2]

set_option maxHeartbeats 4000000 in
theorem needed_ca (w : World) (lo hi : Nat) (x : Wn) (a : Option Addr) (c : Nat) (h : RdD w lo hi (.slice a x.days.length c) x.days) (hx : x.Right) :
  Ca Tryz.prog 112 [.agg (wnC x a c).toArray] w fun r w' => r = .tuple #[.int .i64 (neededV x).1, .int .i64 (neededV x).2] ∧ Chg [] w w' := by
 have hn := hx.d2
 have hn1 := hx.d1
 refine q_ofM (Sat.nil w M0) Tryz.func112 rfl (by simp [Tryz.ntmps112]) ?_
 (refine aD (aB ?_))
 refine bD Z Z (fun b1 => ?_)
 (refine aA V Z Z (aA V Z Z (aF (aD (aB (aJ V Z Z Z ?_))))))
 refine bG (β := Value × Value × Value) V [] _ M0 rfl rfl rfl rfl (Sp.refl _) (fun _ h => h.elim) (fun w' hs => jU w' lo hi x a c (RdE.keep h hs.chg0) (by omega)) ?_
 rintro ⟨v1, v2, v3⟩ _ rfl
 dsimp only [wtK, List.cons_append, List.nil_append]
 have tf := bN hx
 have hnb := nd_bd hx
 have hnd : ∀ k, ndP x (k + 1) = (if max 0 ((ndP x k).1 + (aR x).need.getD (x.days.length - 1 - k) 0 - (aR x).make.getD (x.days.length - 1 - k) 0) > 0 then max 0 ((ndP x k).1 + (aR x).need.getD (x.days.length - 1 - k) 0 - (aR x).make.getD (x.days.length - 1 - k) 0) + (aR x).loss.getD (x.days.length - 1 - k) 0 else 0,
   max (ndP x k).2 ((ndP x k).1 + (aR x).need.getD (x.days.length - 1 - k) 0)) := fun k => rfl
 generalize hT : aR x = T at *
 have n1 := tf.need
 have n2 := tf.make
 have n3 := tf.loss
 refine bL (fun w hs => hs.ownSome (v := v1) (by repeat constructor) (by omega)) ?_
 rintro ⟨e1, f1, rfl⟩
 refine bL (fun w hs => hs.ownSome (v := v2) (by repeat constructor) (by omega)) ?_
 rintro ⟨e2, f2, rfl⟩
 refine bL (fun w hs => hs.ownSome (v := v3) (by repeat constructor) (by omega)) ?_
 rintro ⟨e3, f3, rfl⟩
 skip
 refine bI dR rfl (fun b4 => ?_)
 (refine bS V Z Z Z Z Z (by repeat constructor) rfl ?_; refine aF (aD (aB ?_)))
 refine bI zero3 rfl (fun b5 => ?_)
 refine bI zero3 rfl (fun b6 => ?_)
 ((iterate 2 refine iV V Z Z Z Z (by repeat constructor) ?_); refine aF (aD (aD (aB (aA V Z Z (aI V Z Z Z ?_))))))
 refine bG (β := Nat) V [] _ M0 rfl rfl rfl rfl (Sp.refl _) (fun _ h => h.elim) (fun w' hs => backward_ca w' a x.days.length c) ?_
 rintro bb _ rfl
 (refine aF (aQ ?_))
 refine q_range encB Nat (bwL x.days) (fun pre s => s = pre.length) (fun _ _ => False)
  (fun s => [.pt b6 [.int .i64 (ndP x s).2] 3, .pt b5 [.int .i64 (ndP x s).1] 3, .pt b4 [.slice (some ⟨e1, 0, none⟩) T.need.length f1, .slice (some ⟨e2, 0, none⟩) T.make.length f2, .slice (some ⟨e3, 0, none⟩) T.loss.length f3] 44, .ow (.slice (some ⟨e1, 0, none⟩) T.need.length f1) 3 1 T.need.length (aP T.need), .ow (.slice (some ⟨e2, 0, none⟩) T.make.length f2) 3 1 T.make.length (aP T.make), .ow (.slice (some ⟨e3, 0, none⟩) T.loss.length f3) 3 1 T.loss.length (aP T.loss)])
  [.pt bb [.slice a x.days.length c] 37] 0
  rfl (by kernel_rfl) rfl (fun _ _ => rfl) rfl (by repeat constructor) ?_ ?_ ?_ (fun _ _ _ h => h.elim)
 ·intro w1 D hs hD
  exact back_it w w1 D bb lo hi a c x.days h (by omega) (fun w' hc => hs.chg0.old hc (fun k hk => (hD k hk).2.resolve_left (fun h => h))) (hs.blk (by repeat constructor)) (fun h => (hD _ h).1 ⟨.pt bb [.slice a x.days.length c] _, (by repeat constructor), rfl⟩)
 ·rintro pre ⟨i, d⟩ post s w1 l rdy bsy K F' hxx hI hsat hR hbegin hend hret hexit
  subst hI
  obtain ⟨hk, hi'⟩ := bwL_at hxx
  simp only at hi'
  subst hi'
  have hb0 := hnb pre.length
  have hb1 := hnb (pre.length + 1)
  have hs1 := hnd pre.length
  have y1 : x.days.length - 1 - pre.length < T.need.length := by omega
  have y2 : x.days.length - 1 - pre.length < T.make.length := by omega
  have y3 : x.days.length - 1 - pre.length < T.loss.length := by omega
  rw [cR y1, cR y2, cR y3] at hs1
  have z1 := tf.need0 _ (List.getElem_mem y1)
  have z2 := tf.make0 _ (List.getElem_mem y2)
  have z3 := tf.loss0 _ (List.getElem_mem y3)
  (refine aB (aA V Z Z (aF ?_)))
  refine hbegin _ _ ?_
  generalize hP : ndP x pre.length = nd at *
  obtain ⟨st, rm⟩ := nd
  dsimp only at hb0 hs1 ⊢
  (refine aQ (aD ?_))
  refine q_drawS 7 _ [.pt b5 _ _] (Sp.cons (by repeat constructor) (Sp.refl _)) (by kernel_rfl) (by kernel_rfl) (by kernel_rfl) fun K1 hK1 => ?_
  (refine aN V Z Z Z (aG V Z Z Z (aN V Z Z Z (aG V Z Z Z ?_))))
  refine bR V Z Z Z Z Z (by omega) (by omega) ?_
  refine cC (v := .int .i64 T.need[x.days.length - 1 - pre.length]) V rfl rfl rfl (fun w hs => RdI.at (hs.rdI (v := .slice (some ⟨e1, 0, none⟩) T.need.length f1) (l := T.need) (by repeat constructor) rfl) (x.days.length - 1 - pre.length) y1) ?_
  (refine dA V Z Z Z Z (by omega) (by omega) (aO ?_))
  refine hK1 _ _ [.pt b5 _ _] (Sp.cons (by repeat constructor) ((by repeat constructor))) ?_
  (refine qf_set V Z Z Z Z (by repeat constructor) ?_; refine aO (aD (aB (aI V Z Z Z (aI V Z Z Z (aA V Z Z ?_))))); refine iV V Z Z Z Z (by repeat constructor) ?_; refine aF (aD ?_))
  refine q_drawS 8 _ [.pt b5 _ _] (Sp.cons (by repeat constructor) (Sp.refl _)) (by kernel_rfl) (by kernel_rfl) (by kernel_rfl) fun K1 hK1 => ?_
  (refine aN V Z Z Z (aG V Z Z Z (aN V Z Z Z (aG V Z Z Z ?_))))
  refine bR V Z Z Z Z Z (by omega) (by omega) ?_
  refine cC (v := .int .i64 T.make[x.days.length - 1 - pre.length]) V rfl rfl rfl (fun w hs => RdI.at (hs.rdI (v := .slice (some ⟨e2, 0, none⟩) T.make.length f2) (l := T.make) (by repeat constructor) rfl) (x.days.length - 1 - pre.length) y2) ?_
  (refine dA V Z Z Z Z (by omega) (by omega) (aG V Z Z Z (aO ?_)))
  refine hK1 _ _ [.pt b5 _ _] (Sp.cons (by repeat constructor) ((by repeat constructor))) ?_
  (refine qf_set V Z Z Z Z (by repeat constructor) ?_; refine aO (aD (aB (aI V Z Z Z (aA V Z Z (aF ?_))))))
  refine dL Z (fun hc => ?_) (fun hc => ?_)
  ·have hp : 0 < max 0 (st + T.need[x.days.length - 1 - pre.length] - T.make[x.days.length - 1 - pre.length]) := by assumption
   rw [if_pos hp] at hs1
   skip
   refine q_drawS 7 _ [.pt b5 _ _] (Sp.cons (by repeat constructor) (Sp.refl _)) (by kernel_rfl) (by kernel_rfl) (by kernel_rfl) fun K1 hK1 => ?_
   (refine aN V Z Z Z (aG V Z Z Z (aN V Z Z Z (aG V Z Z Z ?_))))
   refine bR V Z Z Z Z Z (by omega) (by omega) ?_
   refine cC (v := .int .i64 T.loss[x.days.length - 1 - pre.length]) V rfl rfl rfl (fun w hs => RdI.at (hs.rdI (v := .slice (some ⟨e3, 0, none⟩) T.loss.length f3) (l := T.loss) (by repeat constructor) rfl) (x.days.length - 1 - pre.length) y3) ?_
   (refine dA V Z Z Z Z (by omega) (by omega) (aO ?_))
   refine hK1 _ _ [.pt b5 _ _] (Sp.cons (by repeat constructor) ((by repeat constructor))) ?_
   (refine qf_set V Z Z Z Z (by repeat constructor) ?_; refine aO (bJ ?_))
   exact hend _ _ (pre.length + 1) (by simp) (by rw [hs1]; repeat constructor)
  ·have hp : ¬ 0 < max 0 (st + T.need[x.days.length - 1 - pre.length] - T.make[x.days.length - 1 - pre.length]) := by assumption
   rw [if_neg hp] at hs1
   have hz : max 0 (st + T.need[x.days.length - 1 - pre.length] - T.make[x.days.length - 1 - pre.length]) = 0 := by omega
   rw [hz]
   (refine aM (bJ ?_))
   exact hend _ _ (pre.length + 1) (by simp) (by rw [hs1]; repeat constructor)
 ·rintro D s rfl
  have hl : (bwL x.days).length = x.days.length := by simp [bwL]
  rw [hl]
  dsimp only [List.cons_append, List.nil_append]
  have e0 : neededV x = ndP x x.days.length := rfl
  rw [e0]
  generalize ndP x x.days.length = nd at *
  (refine bJ (aD ?_))
  refine cQ _ [] (Sp.refl _) (by kernel_rfl) (by kernel_rfl) ?_
  (refine aN V Z Z Z (aN V Z Z Z (aG V Z Z Z (aG V Z Z Z (aO (aS ?_))))))
  refine jR V (by repeat constructor) rfl (by repeat constructor) fun w hs => ?_
  exact ⟨rfl, hs.chg0⟩
end Go.Proofs.YtgeajgmefokifaaGreat

/- Walks: the least stock and the least store. -/
namespace Go.Proofs.YtgeajgmefokifaaGreat
open Go Go.Eng

set_option maxHeartbeats 1000000 in
theorem least_ca (w : World) (lo hi : Nat) (x : Wn) (a : Option Addr) (c : Nat) (h : RdD w lo hi (.slice a x.days.length c) x.days) (hlen : x.days.length ≤ 1000000) :
  Ca Tryz.prog 73 [.agg (wnC x a c).toArray] w fun r w' => r = .tuple #[.int .i64 (eN x).1, .int .i64 (eN x).2] ∧ Chg [] w w' := by
 refine cS (Sat.nil w M0) Tryz.func73 rfl (by simp [Tryz.ntmps73]) ?_
 (refine aD (aB ?_))
 refine bD Z Z (fun b1 => ?_)
 (refine aA V Z Z (aA V Z Z (aF (aD (aD (aB (aJ V Z Z Z ?_)))))))
 refine aK (val := .int .i64 (checkW x)) V rfl rfl rfl rfl (fun w hs => ?_) ?_; exact eK w lo hi x a c (RdE.keep h hs.chg0) (by omega)
 (refine aA V Z Z (aF (aD (aB (aA V Z Z (aA V Z Z (aF ?_)))))))
 by_cases h0 : checkW x = 0
 ·have hx := bU.1 h0
  have hnb := nd_bd hx x.days.length
  have hd2 := hx.d2
  have hst := hx.store
  have hv : eN x = if x.store < max (ndP x x.days.length).1 (ndP x x.days.length).2 then (0, 6) else ((ndP x x.days.length).1, 0) := by unfold eN neededV; rw [if_neg (by omega)]
  rw [h0]
  (refine aH Z (aM (aD (aB (aJ V Z Z Z ?_)))))
  refine aK (val := .tuple #[.int .i64 (ndP x x.days.length).1, .int .i64 (ndP x x.days.length).2]) V rfl rfl rfl rfl (fun w hs => ?_) ?_; exact needed_ca w lo hi x a c (RdE.keep h hs.chg0) hx
  generalize ndP x x.days.length = nd at *
  obtain ⟨s, r⟩ := nd
  dsimp only at hnb hv ⊢
  (refine aA V Z Z (aT V Z Z Z (aT V Z Z Z (aA V Z Z (aA V Z Z (aF (aD (aD (aB ?_)))))))); (iterate 4 refine aA V Z Z ?_); refine aI V Z Z Z (aA V Z Z (aF ?_)))
  refine dL Z (fun hc => ?_) (fun hc => ?_)
  ·have hb : x.store < max s r := by assumption
   rw [hv, if_pos hb]
   (refine aD (aB (aA V Z Z (aA V Z Z (aF (aS ?_))))))
   refine aU V Z (by repeat constructor) fun w hs => ?_
   exact ⟨rfl, hs.chg0⟩
  ·have hb : ¬ x.store < max s r := by assumption
   rw [hv, if_neg hb]
   (refine aM (aD (aB ?_)); (iterate 3 refine aA V Z Z ?_); refine aF (aS ?_))
   refine aU V Z (by repeat constructor) fun w hs => ?_
   exact ⟨rfl, hs.chg0⟩
 ·have e : eN x = (0, checkW x) := by unfold eN; rw [if_pos h0]
  rw [decide_eq_false h0, e]
  generalize checkW x = z at *
  (refine aL Z (aD (aB ?_)); (iterate 3 refine aA V Z Z ?_); refine aF (aS ?_))
  refine aU V Z (by repeat constructor) fun w hs => ?_
  exact ⟨rfl, hs.chg0⟩

set_option maxHeartbeats 1000000 in
theorem room_ca (w : World) (lo hi : Nat) (x : Wn) (a : Option Addr) (c : Nat) (h : RdD w lo hi (.slice a x.days.length c) x.days) (hlen : x.days.length ≤ 1000000) :
  Ca Tryz.prog 75 [.agg (wnC x a c).toArray] w fun r w' => r = .tuple #[.int .i64 (gE x).1, .int .i64 (gE x).2] ∧ Chg [] w w' := by
 refine cS (Sat.nil w M0) Tryz.func75 rfl (by simp [Tryz.ntmps75]) ?_
 (refine aD (aB ?_))
 refine bD Z Z (fun b1 => ?_)
 (refine aA V Z Z (aA V Z Z (aF (aD (aD (aB (aJ V Z Z Z ?_)))))))
 refine aK (val := .int .i64 (checkW x)) V rfl rfl rfl rfl (fun w hs => ?_) ?_; exact eK w lo hi x a c (RdE.keep h hs.chg0) (by omega)
 (refine aA V Z Z (aF (aD (aB (aA V Z Z (aA V Z Z (aF ?_)))))))
 by_cases h0 : checkW x = 0
 ·have hx := bU.1 h0
  have hnb := nd_bd hx x.days.length
  have hd2 := hx.d2
  have hst := hx.store
  have hsk := hx.stock
  have hv : gE x = if x.stock < (ndP x x.days.length).1 ∨ 1000000 < (ndP x x.days.length).2 then (0, 6) else (max (max 1 x.stock) (ndP x x.days.length).2, 0) := by unfold gE neededV; rw [if_neg (by omega)]
  rw [h0]
  (refine aH Z (aM (aD (aB (aJ V Z Z Z ?_)))))
  refine aK (val := .tuple #[.int .i64 (ndP x x.days.length).1, .int .i64 (ndP x x.days.length).2]) V rfl rfl rfl rfl (fun w hs => ?_) ?_; exact needed_ca w lo hi x a c (RdE.keep h hs.chg0) hx
  generalize ndP x x.days.length = nd at *
  obtain ⟨s, r⟩ := nd
  dsimp only at hnb hv ⊢
  (refine aA V Z Z (aT V Z Z Z (aT V Z Z Z (aA V Z Z (aA V Z Z (aF (aD (aD (aB (aA V Z Z (aA V Z Z (aI V Z Z Z ?_))))))))))); refine aA V Z Z (aA V Z Z ?_))
  refine eX Z Z (fun hc => ?_) (fun hc => ?_)
  ·have hb : x.stock < s := by simpa using hc
   rw [hv, if_pos (.inl hb)]
   (refine bE Z Z Z (bE Z Z Z (aA V Z Z (aF (aL Z (aD (aB (aA V Z Z (aA V Z Z (aF (aS ?_)))))))))))
   refine aU V Z (by repeat constructor) fun w hs => ?_
   exact ⟨rfl, hs.chg0⟩
  ·have hb : ¬ x.stock < s := by simpa using hc
   clear hc
   (refine aE Z (aA V Z Z (aE Z (aA V Z Z (aA V Z Z (aF ?_))))))
   refine dL Z (fun hc => ?_) (fun hc => ?_)
   ·have hb2 : 1000000 < r := by simpa using hc
    rw [hv, if_pos (.inr hb2)]
    (refine aD (aB (aA V Z Z (aA V Z Z (aF (aS ?_))))))
    refine aU V Z (by repeat constructor) fun w hs => ?_
    exact ⟨rfl, hs.chg0⟩
   ·have hb2 : ¬ 1000000 < r := by simpa using hc
    rw [hv, if_neg (by omega)]
    (refine aM (aD (aB (aA V Z Z (aI V Z Z Z ?_)))); (iterate 4 refine aA V Z Z ?_); refine aF (aS ?_))
    refine aU V Z (by repeat constructor) fun w hs => ?_
    exact ⟨rfl, hs.chg0⟩
 ·have e : gE x = (0, checkW x) := by unfold gE; rw [if_pos h0]
  rw [decide_eq_false h0, e]
  generalize checkW x = z at *
  (refine aL Z (aD (aB ?_)); (iterate 3 refine aA V Z Z ?_); refine aF (aS ?_))
  refine aU V Z (by repeat constructor) fun w hs => ?_
  exact ⟨rfl, hs.chg0⟩
end Go.Proofs.YtgeajgmefokifaaGreat

/- Walks: the ranges of stocks. -/
namespace Go.Proofs.YtgeajgmefokifaaGreat
open Go Go.Eng

theorem slSp : SlT Tryz.prog 135 25 2 16 (.agg #[.int .i64 0, .int .i64 0]) := ⟨by kernel_rfl, by kernel_rfl, by kernel_rfl, by decide⟩
def rngL (A B : List Int) : List (Int × Int) := (List.range A.length).map fun i => (A.getD i 0, B.getD i 0)
theorem rngL_eq (x : Wn) : gD x = rngL (hapV x (aR x)).stocks (hapV x (fD x)).stocks := rfl
def rngP (A B : List Int) (k : Nat) : List (Int × Int) := (List.range k).map fun i => (A.getD i 0, B.getD i 0)
theorem rngP_succ (A B : List Int) (k : Nat) : rngP A B (k + 1) = rngP A B k ++ [(A.getD k 0, B.getD k 0)] := by simp [rngP, List.range_succ]

set_option maxHeartbeats 4000000 in
theorem ranges_ok (w : World) (lo hi : Nat) (x : Wn) (a : Option Addr) (c : Nat) (h : RdD w lo hi (.slice a x.days.length c) x.days) (hx : x.Right) :
  Ca Tryz.prog 77 [.agg (wnC x a c).toArray] w fun r w' => ∃ v : Value, r = .tuple #[v, .int .i64 0] ∧ Sat w M0 [.ow v 25 2 (gD x).length (spC (gD x))] w' := by
 have hn := hx.d2
 refine cS (Sat.nil w M0) Tryz.func77 rfl (by simp [Tryz.ntmps77]) ?_
 (refine aD (aB ?_))
 refine bD Z Z (fun b1 => ?_)
 (refine aA V Z Z (aA V Z Z (aF (aD (aD (aB (aJ V Z Z Z ?_)))))))
 refine aK (val := .int .i64 0) V rfl rfl rfl rfl (fun w hs => ?_) ?_; exact by have := eK w lo hi x a c (RdE.keep h hs.chg0) (by omega); rw [bU.2 hx] at this; exact this
 (refine aA V Z Z (aF (aD (aB (aA V Z Z (aW V Z Z Z (by omega) (aF (aH Z (aM (aD ?_))))))))))
 refine cQ _ [] (Sp.refl _) (by kernel_rfl) (by kernel_rfl) ?_
 (refine aZ V Z Z Z (aZ V Z Z Z ?_))
 refine bH (β := Value × Value × Value) V [] _ M0 rfl rfl rfl rfl (Sp.refl _) (fun _ h => h.elim) (fun w' hs => jU w' lo hi x a c (RdE.keep h hs.chg0) (by omega)) ?_
 rintro ⟨v1, v2, v3⟩ _ rfl
 dsimp only
 skip
 refine bH (β := Nat × Value × Value × Value) (ψ := fun y v => v = .pointer (some ⟨y.1, 0, none⟩)) (L' := fun y => [iD y.1 x a c (hapV x (aR x)).fails (hapV x (aR x)).full y.2.1 y.2.2.1 y.2.2.2, .ow y.2.1 3 1 (hapV x (aR x)).stocks.length (aP (hapV x (aR x)).stocks), .ow y.2.2.1 3 1 (hapV x (aR x)).made.length (aP (hapV x (aR x)).made), plK y.2.2.2 (hapV x (aR x)).piles]) V [] _ M0 rfl rfl rfl rfl (Sp.refl _) (fun _ h => h.elim)
  (fun w' hs => iJ w' x a c (aR x) v1 v2 v3 hx.x hn (bN hx) (hX hs (by repeat constructor) (by repeat constructor) (by repeat constructor))) ?_
 rintro ⟨br, sv, mv, pv⟩ _ rfl
 dsimp only [List.cons_append, List.nil_append, wtK]
 (refine aZ V Z Z Z (aZ V Z Z Z ?_))
 refine bH (β := Value × Value × Value) V [] _ M0 rfl rfl rfl rfl (Sp.refl _) (fun _ h => h.elim) (fun w' hs => best_ca w' lo hi x a c (RdE.keep h hs.chg0) (by omega)) ?_
 rintro ⟨u1, u2, u3⟩ _ rfl
 dsimp only
 skip
 refine bH (β := Nat × Value × Value × Value) (ψ := fun y v => v = .pointer (some ⟨y.1, 0, none⟩)) (L' := fun y => [iD y.1 x a c (hapV x (fD x)).fails (hapV x (fD x)).full y.2.1 y.2.2.1 y.2.2.2, .ow y.2.1 3 1 (hapV x (fD x)).stocks.length (aP (hapV x (fD x)).stocks), .ow y.2.2.1 3 1 (hapV x (fD x)).made.length (aP (hapV x (fD x)).made), plK y.2.2.2 (hapV x (fD x)).piles]) V [] _ M0 rfl rfl rfl rfl (Sp.refl _) (fun _ h => h.elim)
  (fun w' hs => iJ w' x a c (fD x) u1 u2 u3 hx.x hn (gW hx) (hX hs (by repeat constructor) (by repeat constructor) (by repeat constructor))) ?_
 rintro ⟨br2, sv2, mv2, pv2⟩ _ rfl
 dsimp only [List.cons_append, List.nil_append, wtK]
 have hc1 := count_le hx (bN hx) (gW hx) (fun k hk => sq_worst (best_in hx) k hk)
 have hc2 := (hap_len hx (bN hx)).1
 have hc3 := (hap_len hx (gW hx)).1
 rw [rngL_eq]
 generalize hapV x (aR x) = S at *
 generalize hapV x (fD x) = T at *
 (refine aG V Z Z Z (aG V Z Z Z (aO (aD (aB (aA V Z Z (aF (aD (aD (aB ?_))))))))); (iterate 3 refine aA V Z Z ?_); refine aI V Z Z Z ?_)
 refine bL (fun w hs => hs.slice2 (v := sv) (by repeat constructor)) ?_
 rintro ⟨sa, sc, rfl⟩
 refine bL (fun w hs => hs.slice2 (v := sv2) (by repeat constructor)) ?_
 rintro ⟨ta, tc, rfl⟩
 (refine aA V Z Z (aA V Z Z (aF (aQ ?_))))
 refine eD (H' := [.ow (.slice none 0 0) 25 2 0 (spC []), iD br x a c S.fails S.full (.slice sa S.stocks.length sc) mv pv, iD br2 x a c T.fails T.full (.slice ta T.stocks.length tc) mv2 pv2, .ow (.slice sa S.stocks.length sc) 3 1 S.stocks.length (aP S.stocks), .ow (.slice ta T.stocks.length tc) 3 1 T.stocks.length (aP T.stocks)])
  (fun w' hs => (Sat.ownil hs 25 2).sp (by repeat constructor)) ?_
 refine cB (σ := Nat × Value) (fun s => s.1 ≤ S.stocks.length) (fun s => S.stocks.length - s.1) (fun s => [(5, .pointer (some ⟨br, 0, none⟩)), (6, .pointer (some ⟨br2, 0, none⟩)), (7, s.2), (26, .slice sa S.stocks.length sc), (27, .int .i64 S.stocks.length), (28, .int .i64 s.1)])
  (fun s => [.ow s.2 25 2 s.1 (spC (rngP S.stocks T.stocks s.1)), iD br x a c S.fails S.full (.slice sa S.stocks.length sc) mv pv, iD br2 x a c T.fails T.full (.slice ta T.stocks.length tc) mv2 pv2, .ow (.slice sa S.stocks.length sc) 3 1 S.stocks.length (aP S.stocks), .ow (.slice ta T.stocks.length tc) 3 1 T.stocks.length (aP T.stocks)]) (0, .slice none 0 0) (by simp) ⟨rfl, rfl, rfl, rfl, rfl, rfl, trivial⟩ (by repeat constructor) ?_
 rintro ⟨k, v⟩ hk K hK
 simp only at hk
 dsimp only
 (refine aD (aB (aA V Z Z (aF (aD ?_)))))
 refine dL Z (fun hc => ?_) (fun hc => ?_)
 ·have hk2 : k < S.stocks.length := by omega
  have hk3 : k < T.stocks.length := by omega
  clear hc
  (refine aM (aD (aQ (aD (aB (aA V Z Z ?_))))))
  refine bL (fun w hs => hs.ownSome (v := .slice sa S.stocks.length sc) (by repeat constructor) (by omega)) ?_
  rintro ⟨e1, f1, z1⟩
  cases z1
  refine bL (fun w hs => hs.ownSome (v := .slice ta T.stocks.length tc) (by repeat constructor) (by omega)) ?_
  rintro ⟨e2, f2, z2⟩
  cases z2
  (refine aV V Z Z Z Z Z (by omega) (by omega) ?_; refine bB V Z Z Z (fun w hs => RdI.at (hs.rdI (v := .slice (some ⟨e1, 0, none⟩) S.stocks.length sc) (l := S.stocks) (by repeat constructor) rfl) k hk2) ?_)
  (refine aA V Z Z (aA V Z Z (aF (aB ?_))); (iterate 5 refine aA V Z Z ?_); refine aI V Z Z Z (aA V Z Z ?_))
  (refine aV V Z Z Z Z Z (by omega) (by omega) ?_; refine bB V Z Z Z (fun w hs => RdI.at (hs.rdI (v := .slice (some ⟨e2, 0, none⟩) T.stocks.length tc) (l := T.stocks) (by repeat constructor) rfl) k hk3) ?_)
  skip
  refine dJ #[.int .i64 S.stocks[k], .int .i64 T.stocks[k]] rfl (by kernel_rfl) rfl ?_
  refine cJ 25 [.int .i64 S.stocks[k], .int .i64 T.stocks[k]] rfl (by kernel_rfl) rfl (fun bn => ?_)
  refine bZ (q := 1) slSp rfl rfl rfl (fun v' => by repeat constructor) (fun w' hs => ⟨_, _, Blk.rdSp (hs.blk (b := bn) (by repeat constructor))⟩) (spC_one _) (by omega) (by omega) (fun u => ?_)
  refine bL (fun w hs => hs.slice (v := u) (by repeat constructor)) ?_
  rintro ⟨a1, g1, d1, rfl⟩
  (refine aA V Z Z (aF (bJ (aB (bA V Z Z Z Z (by omega) (by omega) (aA V Z Z (aF ?_)))))))
  have f : spC (rngP S.stocks T.stocks (k + 1)) = spC (rngP S.stocks T.stocks k) ++ spC [(S.stocks[k], T.stocks[k])] := by rw [rngP_succ, cR hk2, cR hk3]; simp [spC]
  exact hK (k + 1, .slice a1 g1 d1) _ _ (by simp only; omega) (by simp only; omega) ⟨rfl, rfl, rfl, rfl, rfl, rfl, trivial⟩ (by dsimp only; rw [f]; repeat constructor)
 ·obtain rfl : k = S.stocks.length := by omega
  clear hc hK
  refine cX (fun w hs => hs.slice (v := v) (by repeat constructor)) ?_
  rintro ⟨a1, g1, d1, rfl⟩
  (refine bO _ rfl (aD (aB ?_)); (iterate 3 refine aA V Z Z ?_); refine aF (aS ?_))
  refine aU V Z (by repeat constructor) fun w hs => ?_
  have e1 : (rngL S.stocks T.stocks).length = S.stocks.length := by simp [rngL]
  refine ⟨_, rfl, ?_⟩
  rw [e1]
  exact hs.sp (by repeat constructor)
theorem ranges_no (w : World) (lo hi : Nat) (x : Wn) (a : Option Addr) (c : Nat) (h : RdD w lo hi (.slice a x.days.length c) x.days) (hlen : x.days.length ≤ 1000000) (hx : checkW x ≠ 0) :
  Ca Tryz.prog 77 [.agg (wnC x a c).toArray] w fun r w' => r = .tuple #[.slice none 0 0, .int .i64 (checkW x)] ∧ Chg [] w w' := by
 refine cS (Sat.nil w M0) Tryz.func77 rfl (by simp [Tryz.ntmps77]) ?_
 (refine aD (aB ?_))
 refine bD Z Z (fun b1 => ?_)
 (refine aA V Z Z (aA V Z Z (aF (aD (aD (aB (aJ V Z Z Z ?_)))))))
 refine aK (val := .int .i64 (checkW x)) V rfl rfl rfl rfl (fun w hs => ?_) ?_; exact eK w lo hi x a c (RdE.keep h hs.chg0) (by omega)
 generalize checkW x = e at *
 (refine aA V Z Z (aF (aD (aB (aA V Z Z (bW V Z Z Z (by omega) (aF (aL Z (aD (aB ?_))))))))); (iterate 3 refine aA V Z Z ?_); refine aF (aS ?_))
 refine aU V Z (by repeat constructor) fun w hs => ?_
 exact ⟨rfl, hs.chg0⟩
end Go.Proofs.YtgeajgmefokifaaGreat

/- Walks: whether a course is listed. -/
namespace Go.Proofs.YtgeajgmefokifaaGreat
open Go Go.Eng

theorem srtB_iff : ∀ (l : List Int), srtB l = true ↔ ∀ i, i + 1 < l.length → l.getD i 0 ≤ l.getD (i + 1) 0
 | [] => by simp [srtB]
 | [_] => by simp [srtB]
 | a :: b :: l => by
  rw [srtB, Bool.and_eq_true, decide_eq_true_eq, srtB_iff (b :: l)]
  constructor
  ·rintro ⟨h1, h2⟩ i hi
   cases i with
   | zero => exact h1
   | succ i => exact h2 i (by simpa using hi)
  ·intro h
   exact ⟨h 0 (by simp), fun i hi => h (i + 1) (by simpa using hi)⟩

theorem isNaN_ca (x : Int) (w : World) : Ca Tryz.prog 127 [.int .i64 x] w fun v w' => v = .bool false ∧ Chg [] w w' := by
 refine cS (Sat.nil w M0) Tryz.func127 rfl (by simp [Tryz.ntmps127]) ?_
 (refine aD (aB (aA V Z Z (aF (aD (aB (aA V Z Z (aA V Z Z (aW V Z Z Z (by omega) (aA V Z Z (aF (aS ?_))))))))))))
 refine aU V Z (by repeat constructor) fun w hs => ?_
 exact ⟨by simp [fC], hs.chg0⟩
set_option maxRecDepth 4000 in
theorem lessI_ca (x y : Int) (w : World) : Ca Tryz.prog 134 [.int .i64 x, .int .i64 y] w fun v w' => v = .bool (decide (x < y)) ∧ Chg [] w w' := by
 refine cS (Sat.nil w M0) Tryz.func134 rfl (by simp [Tryz.ntmps134]) ?_
 (refine aD (aB (aA V Z Z (aF (aD (aB (aA V Z Z ?_)))))))
 refine aK (val := .bool false) V rfl rfl rfl rfl (fun w hs => ?_) ?_; exact isNaN_ca x w
 (refine aA V Z Z ?_; (iterate 3 refine bE Z Z Z ?_); refine aA V Z Z (aA V Z Z (aE Z (aA V Z Z (aE Z (aA V Z Z (aE Z ?_)))))); (iterate 3 refine aA V Z Z ?_); refine aF (aS ?_))
 refine aU V Z (by repeat constructor) fun w hs => ?_
 exact ⟨rfl, hs.chg0⟩
theorem sorted_ca (w : World) (lo hi : Nat) (v : Value) (l : List Int) (h : RdI w lo hi v l) (hlen : l.length ≤ 1000000) : Ca Tryz.prog 126 [v] w fun r w' => r = .bool (srtB l) ∧ Chg [] w w' := by
 obtain ⟨a, ca, rfl, hsa⟩ := RdI.outI h
 refine cS (Sat.nil w M0) Tryz.func126 rfl (by simp [Tryz.ntmps126]) ?_
 (refine aD (aB (aA V Z Z (aF (aD (aD (aB (aA V Z Z (aA V Z Z (bA V Z Z Z Z (by omega) (by omega) (aA V Z Z (aF ?_))))))))))); refine aQ ?_)
 refine cB (σ := Nat) (fun k => k ≤ l.length - 1 ∧ ∀ i, l.length - 1 - k ≤ i → i + 1 < l.length → l.getD i 0 ≤ l.getD (i + 1) 0) (fun k => l.length - k) (fun k => [(0, .slice a l.length ca), (3, .int .i64 ((l.length : Int) - 1 - k))]) (fun _ => []) 0 ⟨by omega, fun i h1 h2 => by omega⟩ ⟨rfl, cM rfl (by simp), trivial⟩ .nil ?_
 rintro k ⟨hk, hS⟩ K hK
 (refine aD (aD (aB (aA V Z Z (aA V Z Z (aF ?_))))))
 refine dL Z (fun hc => ?_) (fun hc => ?_)
 ·obtain ⟨b, off, rfl⟩ := hsa (by omega)
  obtain ⟨i, hi⟩ : ∃ i : Nat, (l.length : Int) - 1 - k = ((i + 1 : Nat) : Int) := ⟨l.length - 2 - k, by omega⟩
  rw [hi]
  have y1 : i + 1 < l.length := by omega
  have y2 : i < l.length := by omega
  clear hc
  (refine aM (aD (aQ (aD ?_))))
  refine cQ _ [] (Sp.refl _) (by kernel_rfl) (by kernel_rfl) ?_
  (refine aG V Z Z Z (aG V Z Z Z ?_))
  (refine bR V Z Z Z Z Z (by omega) (by omega) ?_; refine cC V Z Z Z (fun w hs => RdI.at (h.keep hs.chg0) (i + 1) y1) ?_)
  (refine aG V Z Z Z (aG V Z Z Z (dA V Z Z Z Z (by omega) (by omega) ?_)))
  rw [show ((i + 1 : Nat) : Int) - 1 = (i : Int) by omega]
  (refine bR V Z Z Z Z Z (by omega) (by omega) ?_; refine cC V Z Z Z (fun w hs => RdI.at (h.keep hs.chg0) i y2) ?_)
  skip
  refine bT (val := .bool (decide (l[i + 1] < l[i]))) V rfl rfl rfl rfl (fun w hs => ?_) ?_; exact lessI_ca _ _ w
  (refine aO ?_)
  refine dL Z (fun hc => ?_) (fun hc => ?_)
  ·have hlt : l[i + 1] < l[i] := by assumption
   have e : srtB l = false := by
    refine Bool.eq_false_iff.2 fun hh => ?_
    have := (srtB_iff l).1 hh i y1
    rw [cR y1, cR y2] at this
    omega
   rw [e]
   (refine aD (aB (aA V Z Z (aF (aS ?_)))))
   refine aU V Z (by repeat constructor) fun w hs => ?_
   exact ⟨rfl, hs.chg0⟩
  ·have hlt : ¬ l[i + 1] < l[i] := by assumption
   (refine aM (bJ (aB (aA V Z Z (bA V Z Z Z Z (by omega) (by omega) (aA V Z Z (aF ?_)))))))
   refine hK (k + 1) _ _ ⟨by omega, fun j h1 h2 => ?_⟩ (by omega) ⟨rfl, cM rfl (by omega), trivial⟩ .nil
   by_cases hj : j = i
   ·subst hj
    rw [cR y1, cR y2]
    omega
   ·exact hS j (by omega) h2
 ·have e : srtB l = true := (srtB_iff l).2 fun i hi => hS i (by omega) hi
  rw [e]
  (refine bO _ rfl (aD (aB (aA V Z Z (aF (aS ?_))))))
  refine aU V Z (by repeat constructor) fun w hs => ?_
  exact ⟨rfl, hs.chg0⟩

def pIn (n : Nat) : Value → Bool
 | .int _ i => wiB i 0 ((n : Int) - 1)
 | _ => false
theorem pIn_all (n : Nat) (l : List Int) : (aP l).all (pIn n) = inL n l := by
 unfold aP inL
 rw [List.all_map]
 rfl
theorem listed1_p (w : World) (b : Nat) (a : Option Addr) (c n : Nat) (t : TypeId) (l : List Int) (hn : n ≤ 1000000) (hb : Blk w b [.slice a n c] t) : PredAt Tryz.prog tab w (.func (.func 125) #[] #[.pointer (some ⟨b, 0, none⟩)]) (aP l) (pIn n) := by
 refine ⟨_, _, _, rfl, rfl, fun w' hw' x hx => ?_⟩
 have hb' := hb.keep hw'
 obtain ⟨y, hy, rfl⟩ := List.mem_map.1 hx
 refine cS (Sat.nil w' M0) Tryz.func125 rfl (by simp [Tryz.ntmps125]) ?_
 (refine aD (aB (aA V Z Z (aF (aD (aB (aA V Z Z ?_)))))); refine ql_loadP V Z Z Z (by assumption) (by rfl) ?_; refine aA V Z Z (bA V Z Z Z Z (by omega) (by omega) ?_))
 refine aK (val := .bool (wiB y 0 ((n : Int) - 1))) V rfl rfl rfl rfl (fun w hs => ?_) ?_; exact cH y 0 _ w
 (refine aA V Z Z (aF (aS ?_)))
 refine aU V Z (by repeat constructor) fun w hs => ?_
 exact ⟨rfl, hs.chg0⟩
theorem listed_ca (w : World) (lo hi : Nat) (a : Option Addr) (c n : Nat) (v : Value) (l : List Int) (h : RdI w lo hi v l) (hlen : l.length ≤ 1000000) (hn : n ≤ 1000000) :
  Ca Tryz.prog 88 [.slice a n c, v] w fun r w' => r = .int .i64 (listedV n l) ∧ Chg [] w w' := by
 obtain ⟨al, cl, rfl, _⟩ := RdI.outI h
 refine cS (Sat.nil w M0) Tryz.func88 rfl (by simp [Tryz.ntmps88]) ?_
 (refine aD (aB ?_))
 refine bD Z Z (fun b2 => ?_)
 (refine aA V Z Z (aF (aD (aQ (aD (aB (aA V Z Z (aA V Z Z ?_))))))))
 refine aK (val := .bool (wiB l.length 1 6)) V rfl rfl rfl rfl (fun w hs => ?_) ?_; exact cH l.length 1 6 w
 (refine aA V Z Z (aA V Z Z (aF ?_)))
 by_cases h1 : wiB l.length 1 6 = true
 ·rw [h1]
  have h2 := cD.1 h1
  (refine aH Z (aD (aB (aA V Z Z (aA V Z Z ?_)))))
  refine aK (val := .bool (inL n l)) V rfl rfl rfl rfl (fun w hs => ?_) ?_; exact by have := all_int w lo hi _ _ (aP l) (pIn n) (RdE.keep h hs.chg0) (fun i hi => by simp [aP, cU]) (by simp [aP]; omega) (listed1_p w b2 a c n _ l hn (hs.blk (by repeat constructor))); rw [pIn_all] at this; simpa [aP] using this
  (refine aA V Z Z (aA V Z Z (aF ?_)))
  by_cases h3 : inL n l = true
  ·rw [h3]
   (refine aH Z (aD (aB (aA V Z Z ?_))))
   refine aK (val := .bool (srtB l)) V rfl rfl rfl rfl (fun w hs => ?_) ?_; exact sorted_ca w lo hi _ l (RdE.keep h hs.chg0) hlen
   (refine aA V Z Z (aA V Z Z (aF ?_)))
   by_cases h4 : srtB l = true
   ·rw [h4]
    (refine aH Z (aM (bJ (aD (aB (aA V Z Z (aF (aS ?_))))))))
    refine aU V Z (by repeat constructor) fun w hs => ?_
    exact ⟨by simp only [fC, listedV, h3, h4]; rw [if_neg (by omega)]; rfl, hs.chg0⟩
   ·rw [Bool.eq_false_iff.2 h4]
    (refine aL Z (aD (aB (aA V Z Z (aF (aS ?_))))))
    refine aU V Z (by repeat constructor) fun w hs => ?_
    exact ⟨by simp only [fC, listedV, h3, Bool.eq_false_iff.2 h4]; rw [if_neg (by omega)]; rfl, hs.chg0⟩
  ·rw [Bool.eq_false_iff.2 h3]
   (refine aL Z (aD (aB (aA V Z Z (aF (aS ?_))))))
   refine aU V Z (by repeat constructor) fun w hs => ?_
   exact ⟨by simp only [fC, listedV, Bool.eq_false_iff.2 h3]; rw [if_neg (by omega)]; rfl, hs.chg0⟩
 ·rw [Bool.eq_false_iff.2 h1]
  have h2 : ¬(1 ≤ l.length ∧ l.length ≤ 6) := fun h => h1 (cD.2 (by omega))
  (refine aL Z (aD (aB (aA V Z Z (aF (aS ?_))))))
  refine aU V Z (by repeat constructor) fun w hs => ?_
  exact ⟨by simp only [fC, listedV]; rw [if_pos h2], hs.chg0⟩
end Go.Proofs.YtgeajgmefokifaaGreat

/- Walks: which rules a course breaks. -/
namespace Go.Proofs.YtgeajgmefokifaaGreat
open Go Go.Eng

theorem Blk.rdI {w : World} {b : Nat} {l : List Int} {t : TypeId} {c : Nat} (h : Blk w b (aP l) t) : RdI w 0 w.heap.size (.slice (some ⟨b, 0, none⟩) l.length c) l :=
 RdI.of ((Blk.rd h (by simp) c).wide (Nat.zero_le _) h.lt)
theorem sum2_ca (w : World) (b : Nat) (x y : Int) (t : TypeId) (hb : Blk w b [.int .i64 x, .int .i64 y] t) (h1 : -400000000 ≤ x ∧ x ≤ 400000000) (h2 : -400000000 ≤ y ∧ y ≤ 400000000) :
  Ca Tryz.prog 123 [.slice (some ⟨b, 0, none⟩) 2 2] w fun r w' => r = .int .i64 (x + y) ∧ Chg [] w w' := by
 have h := sum_ca w 0 w.heap.size (.slice (some ⟨b, 0, none⟩) 2 2) [x, y] (Blk.rdI (c := 2) (l := [x, y]) hb) (by simp) (fun k hk => by
  have hk2 : k = 0 ∨ k = 1 ∨ k = 2 := by simp at hk; omega
  rcases hk2 with rfl | rfl | rfl <;> simp <;> omega)
 simpa using h

theorem kI : KeyT Tryz.prog 3 (keyI .i64) eqV := keyT_int (by kernel_rfl)
theorem mapT : Tryz.prog.underlying 190 = some (.map 3 3) := by kernel_rfl
theorem iW : arrB Tryz.prog 151 5 4 1 = true := by kernel_rfl
/-- A desk's cells. -/
abbrev dkC (r : Rl) (a : Option Addr) (n c : Nat) : List Value := [.int .i64 r.laps, .int .i64 r.g0, .int .i64 r.g1, .int .i64 r.c0, .int .i64 r.c1, .int .i64 r.p0, .int .i64 r.p1, .int .i64 r.wide, .int .i64 r.uses, .slice a n c]
/-- How often the loops of the first laps occur. -/
def cntF (c : List Int) : Nat → Value → Option Value
 | 0 => fun _ => none
 | k + 1 => fun x => if eqV x (.int .i64 (c.getD k 0)) then some (.int .i64 (cntI (c.take (k + 1)) (c.getD k 0))) else cntF c k x
theorem cntF_get (c : List Int) (i : Int) : ∀ k, k ≤ c.length → (cntF c k (.int .i64 i)).getD (.int .i64 0) = .int .i64 (cntI (c.take k) i)
 | 0, _ => by simp [cntF, cntI]
 | k + 1, h => by
  have ih := cntF_get c i k (by omega)
  have e := fQ c i k (by omega)
  have hd : c.getD k 0 = c[k] := cR (by omega)
  by_cases hi : i = c[k]
  ·simp only [cntF, eqV, hd, hi, decide_true, if_true, Option.getD_some]
  ·simp only [cntF, eqV, hd, hi, decide_false, Bool.false_eq_true, if_false, ih]
   rw [e, if_neg (fun h => hi h.symm)]
   rfl
def lenP (s : List Lp) (c : List Int) (k : Nat) : Int := ((c.take k).map fun i => (iY s i).len).sum
def clbP (s : List Lp) (c : List Int) (k : Nat) : Int := ((c.take k).map fun i => (iY s i).climb).sum
def lapP (s : List Lp) (r : Rl) (c : List Int) (k : Nat) : Bool := (c.take k).any fun i => !wiB (iY s i).len r.p0 r.p1
def widP (s : List Lp) (r : Rl) (c : List Int) (k : Nat) : Bool := (c.take k).any fun i => decide ((iY s i).wide < r.wide) && true
theorem lenP_bd {s : List Lp} (hs : StadR s) {c : List Int} (hc : ∀ x ∈ c, 0 ≤ x ∧ x < s.length) (k : Nat) (hk : k ≤ c.length) (h6 : c.length ≤ 6) : (0 ≤ lenP s c k ∧ lenP s c k ≤ 120000) ∧ 0 ≤ clbP s c k ∧ clbP s c k ≤ 12000 := by
 have h := lenS_bd hs (c := c.take k) (fun x hx => hc x (List.mem_of_mem_take hx))
 have hl : (c.take k).length = k := by simp; omega
 rw [hl] at h
 unfold lenP clbP
 unfold lenS clbS at h
 omega
abbrev mkA (s : List Lp) (r : Rl) (c : List Int) : Value := .agg #[.bool (!wiB (lenS s c) r.g0 r.g1), .bool (!wiB (clbS s c) r.c0 r.c1), .bool (lapB s r c), .bool (widB s r c), .bool (oftB r c)]
theorem mem_at {c : List Int} {P : Int → Prop} (h : ∀ x ∈ c, P x) {k : Nat} (hk : k < c.length) : P c[k] := h _ (List.getElem_mem hk)

set_option maxHeartbeats 4000000 in
theorem jJ (w : World) (lo hi lo2 hi2 : Nat) (a : Option Addr) (cp : Nat) (v : Value) (s : List Lp) (r : Rl) (c : List Int) (h : RdL w lo hi (.slice a s.length cp) s) (hcr : CR s r) (hv : RdI w lo2 hi2 v c) (hc1 : ∀ x ∈ c, 0 ≤ x ∧ x < s.length) (hc2 : c.length ≤ 6) :
  Ca Tryz.prog 86 [.agg (dkC r a s.length cp).toArray, v] w fun x w' => x = mkA s r c ∧ Chg [] w w' := by
 obtain ⟨av, cv, rfl, hsv⟩ := RdI.outI hv
 obtain ⟨_, _, e0, hsa⟩ := RdL.outI h
 cases e0
 have hn2 := hcr.s.n2
 refine cS (Sat.nil w M0) Tryz.func86 rfl (by simp [Tryz.ntmps86]) ?_
 (refine aD (aB ?_))
 refine bD Z Z (fun b2 => ?_)
 refine bI zero151 rfl (fun b4 => ?_)
 (refine aF (aD (aB ?_)); (iterate 3 refine aA V Z Z ?_); refine aF (aD (aB ?_)))
 refine ql_makeMap (keyI .i64) eqV rfl (fun bm => ?_)
 (refine aA V Z Z (aF (aD (aB ?_))))
 refine bI zero151 rfl (fun b9 => ?_)
 (refine aF (aD (aD (aB ?_))); (iterate 3 refine aA V Z Z ?_); refine aF (aQ ?_))
 refine cB (σ := Nat) (fun k => k ≤ c.length) (fun k => c.length - k) (fun k => [(2, .pointer (some ⟨b2, 0, none⟩)), (4, .pointer (some ⟨b4, 0, none⟩)), (5, .int .i64 (lenP s c k)), (6, .int .i64 (clbP s c k)), (7, .int .i64 (mK c k)), (8, .map (some bm)), (9, .pointer (some ⟨b9, 0, none⟩)), (14, .slice av c.length cv), (15, .int .i64 c.length), (16, .int .i64 k)])
  (fun k => [.pt b9 [.bool false, .bool false, .bool (lapP s r c k), .bool (widP s r c k), .bool false] 151, mpP (keyI .i64) eqV bm (cntF c k), .pt b4 [.bool false, .bool false, .bool false, .bool false, .bool false] 151, .pt b2 (dkC r a s.length cp) 146]) 0 (by simp) ⟨rfl, rfl, rfl, rfl, rfl, rfl, rfl, rfl, rfl, rfl, trivial⟩ (by repeat constructor) ?_
 rintro k hk K hK
 (refine aD (aB (aA V Z Z (aF (aD ?_)))))
 refine dL Z (fun hc => ?_) (fun hc => ?_)
 ·have hk2 : k < c.length := by omega
  clear hc
  obtain ⟨bv, ov, rfl⟩ := hsv (by omega)
  have hi := mem_at hc1 hk2
  obtain ⟨ba, oa, rfl⟩ := hsa (by omega)
  have el := gZ (fun i => (iY s i).len) c k hk2
  have ec := gZ (fun i => (iY s i).climb) c k hk2
  have ep := lH (fun i => !wiB (iY s i).len r.p0 r.p1) c k hk2
  have ew := lH (fun i => decide ((iY s i).wide < r.wide) && true) c k hk2
  have em := fQ c c[k] k hk2
  have eg := cntF_get c c[k] k hk
  have eM : mK c (k + 1) = max (mK c k) (cntI (c.take (k + 1)) c[k]) := by rw [mK, cR hk2]
  have eF : cntF c (k + 1) = fun x => if eqV x (.int .i64 c[k]) then some (.int .i64 (cntI (c.take (k + 1)) c[k])) else cntF c k x := by
   funext x
   rw [cntF, cR hk2]
  have b0 := lenP_bd hcr.s hc1 k hk hc2
  have bm0 := mostP_bd c k
  have hcl := cnt_le (c := c.take k) (i := c[k])
  have htl : (c.take k).length = k := by simp; omega
  have hR := gJ hcr.s hi
  have eat := lpAt_at hi
  have hR1 := hR.len
  have hR2 := hR.climb
  have hR3 := hR.wide
  change lenP s c (k + 1) = lenP s c k + _ at el
  change clbP s c (k + 1) = clbP s c k + _ at ec
  change lapP s r c (k + 1) = (lapP s r c k || _) at ep
  change widP s r c (k + 1) = (widP s r c k || _) at ew
  (refine aM (aD (aQ (aD (aB ?_)))))
  (refine aV V Z Z Z Z Z (by omega) (by omega) ?_; refine bB V Z Z Z (fun w hs => RdI.at (hv.keep hs.chg0) k hk2) ?_)
  generalize c[k] = ck at *
  obtain ⟨i, rfl⟩ := Int.eq_ofNat_of_zero_le hi.1
  have hi2 : i < s.length := by omega
  replace eat : iY s (i : Int) = s[i] := eat
  (refine aA V Z Z (aF (aD (aB (aA V Z Z (aI V Z Z Z (aA V Z Z ?_)))))))
  refine aV V Z Z Z Z Z (by omega) (by omega) ?_
  refine dU V Z Z Z Z (fun w hs => RdL.at (RdE.keep h hs.chg0) i hi2) ?_
  rw [eat] at hR1 hR2 hR3 el ec ep ew
  clear eat hR
  generalize s[i] = lp at *
  obtain ⟨ln, cl, wd⟩ := lp
  dsimp only at *
  skip
  refine bI zero32 rfl (fun b12 => ?_)
  (refine bS V Z Z Z Z Z (by repeat constructor) rfl ?_; refine aF (aD ?_))
  refine jP (σ := Unit) (fun _ => [(2, .pointer (some ⟨b2, 0, none⟩)), (4, .pointer (some ⟨b4, 0, none⟩)), (5, .int .i64 (lenP s c k + ln)), (6, .int .i64 (clbP s c k + cl)), (7, .int .i64 (mK c k)), (8, .map (some bm)), (9, .pointer (some ⟨b9, 0, none⟩)), (11, .int .i64 i), (12, .pointer (some ⟨b12, 0, none⟩)), (14, .slice (some ⟨bv, ov, none⟩) c.length cv), (15, .int .i64 c.length), (16, .int .i64 k)])
   (fun _ => [.pt b12 [.int .i64 ln, .int .i64 cl, .int .i64 wd] 32, .pt b9 [.bool false, .bool false, .bool (lapP s r c k), .bool (widP s r c k), .bool false] 151, mpP (keyI .i64) eqV bm (cntF c k), .pt b4 [.bool false, .bool false, .bool false, .bool false, .bool false] 151, .pt b2 (dkC r (some ⟨ba, oa, none⟩) s.length cp) 146]) ?_ (fun K2 hK2 => ?_)
  rotate_left
  ·skip
   refine iN (.alt (aC [0, 1, 2, 3] (.alt (aC [4, 5, 6, 7, 8, 9, 10, 11] (.nil)) (aC [5, 6, 7, 8, 4, 9, 10, 11] (.nil)))) (aC [5, 6, 7, 8, 0, 1, 2, 3, 4, 9, 10, 11] (.nil))) _ [] (Sp.refl _) (by kernel_rfl) (by kernel_rfl) ?_
   refine bM ?_ ?_
   ·skip
    refine aY (by repeat (first | exact PickL.nil | (apply PickL.cons; rfl))) fun K1 hK1 => ?_
    (refine aG V Z Z Z (aG V Z Z Z (aN V Z Z Z ?_)))
    refine bK 3 [.int .i64 (lenP s c k), .int .i64 ln] rfl (by kernel_rfl) rfl (fun c1 => ?_)
    (refine aO ?_)
    refine hK1 _ _ ?_
    refine bM ?_ ?_
    ·skip
     refine aY (by repeat (first | exact PickL.nil | (apply PickL.cons; rfl))) fun K1 hK1 => ?_
     skip
     refine bT (val := .int .i64 (lenP s c k + ln)) V rfl rfl rfl rfl (fun w hs => ?_) ?_; exact sum2_ca w c1 _ _ _ (hs.blk (b := c1) (by repeat constructor)) (by omega) (by omega)
     (refine aG V Z Z Z (aG V Z Z Z (aN V Z Z Z ?_)))
     refine bK 3 [.int .i64 (clbP s c k), .int .i64 cl] rfl (by kernel_rfl) rfl (fun c2 => ?_)
     skip
     refine bT (val := .int .i64 (clbP s c k + cl)) V rfl rfl rfl rfl (fun w hs => ?_) ?_; exact sum2_ca w c2 _ _ _ (hs.blk (b := c2) (by repeat constructor)) (by omega) (by omega)
     (refine aG V Z Z Z (aG V Z Z Z (aO ?_)))
     exact hK1 _ _ (dO (hK2 () _ _ ⟨rfl, rfl, rfl, rfl, rfl, rfl, rfl, rfl, rfl, rfl, rfl, rfl, trivial⟩ (by repeat constructor)))
    ·skip
     refine aY (by repeat (first | exact PickL.nil | (apply PickL.cons; rfl))) fun K1 hK1 => ?_
     (refine aG V Z Z Z (aG V Z Z Z (aN V Z Z Z ?_)))
     refine bK 3 [.int .i64 (clbP s c k), .int .i64 cl] rfl (by kernel_rfl) rfl (fun c2 => ?_)
     skip
     refine bT (val := .int .i64 (lenP s c k + ln)) V rfl rfl rfl rfl (fun w hs => ?_) ?_; exact sum2_ca w c1 _ _ _ (hs.blk (b := c1) (by repeat constructor)) (by omega) (by omega)
     skip
     refine bT (val := .int .i64 (clbP s c k + cl)) V rfl rfl rfl rfl (fun w hs => ?_) ?_; exact sum2_ca w c2 _ _ _ (hs.blk (b := c2) (by repeat constructor)) (by omega) (by omega)
     (refine aG V Z Z Z (aG V Z Z Z (aO ?_)))
     exact hK1 _ _ (dO (hK2 () _ _ ⟨rfl, rfl, rfl, rfl, rfl, rfl, rfl, rfl, rfl, rfl, rfl, rfl, trivial⟩ (by repeat constructor)))
   ·skip
    refine aY (by repeat (first | exact PickL.nil | (apply PickL.cons; rfl))) fun K1 hK1 => ?_
    (refine aG V Z Z Z (aG V Z Z Z (aN V Z Z Z ?_)))
    refine bK 3 [.int .i64 (clbP s c k), .int .i64 cl] rfl (by kernel_rfl) rfl (fun c2 => ?_)
    (refine aG V Z Z Z (aG V Z Z Z (aN V Z Z Z ?_)))
    refine bK 3 [.int .i64 (lenP s c k), .int .i64 ln] rfl (by kernel_rfl) rfl (fun c1 => ?_)
    skip
    refine bT (val := .int .i64 (lenP s c k + ln)) V rfl rfl rfl rfl (fun w hs => ?_) ?_; exact sum2_ca w c1 _ _ _ (hs.blk (b := c1) (by repeat constructor)) (by omega) (by omega)
    skip
    refine bT (val := .int .i64 (clbP s c k + cl)) V rfl rfl rfl rfl (fun w hs => ?_) ?_; exact sum2_ca w c2 _ _ _ (hs.blk (b := c2) (by repeat constructor)) (by omega) (by omega)
    (refine aG V Z Z Z (aG V Z Z Z (aO ?_)))
    exact hK1 _ _ (dO (hK2 () _ _ ⟨rfl, rfl, rfl, rfl, rfl, rfl, rfl, rfl, rfl, rfl, rfl, rfl, trivial⟩ (by repeat constructor)))
  intro _
  (refine aD (aB (aA V Z Z (aA V Z Z ?_))))
  refine ql_look kI mapT zero3 rfl rfl rfl (by repeat constructor) ⟨_, rfl⟩ eg ?_
  (refine bA V Z Z Z Z (by omega) (by omega) ?_)
  refine ql_mapUpd (v := .int .i64 (cntI (c.take (k + 1)) i)) kI mapT rfl rfl (cM rfl (by rw [em, if_pos rfl]; omega)) ⟨_, rfl⟩ (by repeat constructor) ?_
  rw [← eF]
  (refine aF (aD (aB ?_)); (iterate 3 refine aA V Z Z ?_))
  refine ql_look (v := .int .i64 (cntI (c.take (k + 1)) i)) kI mapT zero3 rfl rfl rfl (by repeat constructor) ⟨_, rfl⟩ (cntF_get c i (k + 1) (by omega)) ?_
  (refine aA V Z Z (aA V Z Z (aF (aD (aB ?_)))))
  rw [← eM]
  refine eJ iW rfl rfl rfl (by omega) (by omega) ?_
  (refine aI V Z Z Z (aA V Z Z ?_))
  cases hlp : lapP s r c k
  ·skip
   rw [hlp] at ep
   (refine aE Z (aA V Z Z (aE Z (aI V Z Z Z (aE Z (aA V Z Z (aE Z (aA V Z Z (aE Z (aA V Z Z (aE Z (aI V Z Z Z ?_))))))))))); refine aE Z (aA V Z Z (aE Z (aA V Z Z (aE Z (aA V Z Z (aE Z (aI V Z Z Z (aE Z ?_)))))))))
   refine aK (val := .bool (wiB ln r.p0 r.p1)) V rfl rfl rfl rfl (fun w hs => ?_) ?_; exact cH ln r.p0 r.p1 w
   (refine aE Z (aA V Z Z (aA V Z Z ?_)))
   refine eJ iW rfl rfl rfl (by omega) (by omega) ?_
   (refine ql_st2 V Z Z Z Z (by repeat constructor) ?_; refine aF (aB ?_))
   refine eJ iW rfl rfl rfl (by omega) (by omega) ?_
   (refine aI V Z Z Z (aA V Z Z ?_))
   cases hwp : widP s r c k
   ·skip
    rw [hwp] at ew
    (refine aE Z (aA V Z Z (aE Z (aI V Z Z Z (aE Z (aA V Z Z (aE Z (aA V Z Z (aE Z (aI V Z Z Z (aE Z (aA V Z Z ?_))))))))))); refine aA V Z Z ?_)
    refine eJ iW rfl rfl rfl (by omega) (by omega) ?_
    (refine ql_st3 V Z Z Z Z (by repeat constructor) ?_; refine aF (bJ (aB (bA V Z Z Z Z (by omega) (by omega) (aA V Z Z (aF ?_))))))
    refine hK (k + 1) _ _ (by omega) (by omega) ⟨rfl, rfl, cM rfl el.symm, cM rfl ec.symm, rfl, rfl, rfl, rfl, rfl, cM rfl (by omega), trivial⟩ (by rw [ep, ew]; simp only [Bool.or_false, Bool.or_true, Bool.true_or, Bool.false_or, Bool.and_true]; repeat constructor)
   ·skip
    rw [hwp] at ew
    ((iterate 6 refine bE Z Z Z ?_); refine aA V Z Z ?_)
    refine eJ iW rfl rfl rfl (by omega) (by omega) ?_
    (refine ql_st3 V Z Z Z Z (by repeat constructor) ?_; refine aF (bJ (aB (bA V Z Z Z Z (by omega) (by omega) (aA V Z Z (aF ?_))))))
    refine hK (k + 1) _ _ (by omega) (by omega) ⟨rfl, rfl, cM rfl el.symm, cM rfl ec.symm, rfl, rfl, rfl, rfl, rfl, cM rfl (by omega), trivial⟩ (by rw [ep, ew]; simp only [Bool.or_false, Bool.or_true, Bool.true_or, Bool.false_or, Bool.and_true]; repeat constructor)
  ·skip
   rw [hlp] at ep
   ((iterate 12 refine bE Z Z Z ?_); refine aA V Z Z ?_)
   refine eJ iW rfl rfl rfl (by omega) (by omega) ?_
   (refine ql_st2 V Z Z Z Z (by repeat constructor) ?_; refine aF (aB ?_))
   refine eJ iW rfl rfl rfl (by omega) (by omega) ?_
   (refine aI V Z Z Z (aA V Z Z ?_))
   cases hwp : widP s r c k
   ·skip
    rw [hwp] at ew
    (refine aE Z (aA V Z Z (aE Z (aI V Z Z Z (aE Z (aA V Z Z (aE Z (aA V Z Z (aE Z (aI V Z Z Z (aE Z (aA V Z Z ?_))))))))))); refine aA V Z Z ?_)
    refine eJ iW rfl rfl rfl (by omega) (by omega) ?_
    (refine ql_st3 V Z Z Z Z (by repeat constructor) ?_; refine aF (bJ (aB (bA V Z Z Z Z (by omega) (by omega) (aA V Z Z (aF ?_))))))
    refine hK (k + 1) _ _ (by omega) (by omega) ⟨rfl, rfl, cM rfl el.symm, cM rfl ec.symm, rfl, rfl, rfl, rfl, rfl, cM rfl (by omega), trivial⟩ (by rw [ep, ew]; simp only [Bool.or_false, Bool.or_true, Bool.true_or, Bool.false_or, Bool.and_true]; repeat constructor)
   ·skip
    rw [hwp] at ew
    ((iterate 6 refine bE Z Z Z ?_); refine aA V Z Z ?_)
    refine eJ iW rfl rfl rfl (by omega) (by omega) ?_
    (refine ql_st3 V Z Z Z Z (by repeat constructor) ?_; refine aF (bJ (aB (bA V Z Z Z Z (by omega) (by omega) (aA V Z Z (aF ?_))))))
    refine hK (k + 1) _ _ (by omega) (by omega) ⟨rfl, rfl, cM rfl el.symm, cM rfl ec.symm, rfl, rfl, rfl, rfl, rfl, cM rfl (by omega), trivial⟩ (by rw [ep, ew]; simp only [Bool.or_false, Bool.or_true, Bool.true_or, Bool.false_or, Bool.and_true]; repeat constructor)
 ·obtain rfl : k = c.length := by omega
  clear hc hK
  have e1 : lenP s c c.length = lenS s c := by simp [lenP, lenS]
  have e2 : clbP s c c.length = clbS s c := by simp [clbP, clbS]
  have e3 : lapP s r c c.length = lapB s r c := by simp [lapP, lapB]
  have e4 : widP s r c c.length = widB s r c := by simp [widP, widB]
  rw [e1, e2, e3, e4]
  (refine bO _ rfl (aD (aB ?_)); (iterate 4 refine aA V Z Z ?_); refine aI V Z Z Z ?_; (iterate 3 refine aA V Z Z ?_); refine aI V Z Z Z ?_)
  refine aK (val := .bool (wiB (lenS s c) r.g0 r.g1)) V rfl rfl rfl rfl (fun w hs => ?_) ?_; exact cH _ r.g0 r.g1 w
  (refine aA V Z Z ?_)
  refine eJ iW rfl rfl rfl (by omega) (by omega) ?_
  (refine ql_st0 V Z Z Z Z (by repeat constructor) ?_; refine aF (aD (aB ?_)); (iterate 4 refine aA V Z Z ?_); refine aI V Z Z Z ?_; (iterate 3 refine aA V Z Z ?_); refine aI V Z Z Z ?_)
  refine aK (val := .bool (wiB (clbS s c) r.c0 r.c1)) V rfl rfl rfl rfl (fun w hs => ?_) ?_; exact cH _ r.c0 r.c1 w
  (refine aA V Z Z ?_)
  refine eJ iW rfl rfl rfl (by omega) (by omega) ?_
  (refine ql_st1 V Z Z Z Z (by repeat constructor) ?_; refine aF (aD (aB ?_)); (iterate 3 refine aA V Z Z ?_); refine aI V Z Z Z (aA V Z Z ?_))
  refine eJ iW rfl rfl rfl (by omega) (by omega) ?_
  (refine ql_st4 V Z Z Z Z (by repeat constructor) ?_; refine aF (aD (aB (aJ V Z Z Z ?_))); refine bS V Z Z Z Z Z (by repeat constructor) rfl ?_; refine aF (aS ?_))
  refine aU V Z (by repeat constructor) fun w hs => ?_
  exact ⟨by simp [fC, mkA, oftB], hs.chg0⟩
end Go.Proofs.YtgeajgmefokifaaGreat

/- Walks: the rules that are marked; Broken. -/
namespace Go.Proofs.YtgeajgmefokifaaGreat
open Go Go.Eng

theorem slR : SlT Tryz.prog 61 154 1 8 (.int .i64 0) := ⟨by kernel_rfl, by kernel_rfl, by kernel_rfl, by decide⟩
theorem mk_arr2 : arrB Tryz.prog 151 5 4 1 = true := by kernel_rfl
theorem cV : ∀ (m : List Bool) (b : Bool) (i : Int), cW (m ++ [b]) i = cW m i ++ (if b then [i + m.length] else [])
 | [], b, i => by simp [cW]
 | x :: m, b, i => by
  simp only [List.cons_append, cW, cV m b (i + 1), List.length_cons, List.append_assoc]
  congr 2
  cases b
  ·rfl
  ·simp; omega
theorem gU (m : List Bool) (i : Int) : (cW m i).length ≤ m.length := by
 induction m generalizing i with
 | nil => simp [cW]
 | cons b m ih =>
  have := ih (i + 1)
  simp only [cW, List.length_append, List.length_cons]
  cases b <;> simp <;> omega
abbrev bls (m : List Bool) : List Value := m.map Value.bool

set_option maxHeartbeats 2000000 in
theorem rules_ca (w : World) (m : List Bool) (hm : m.length = 5) : Ca Tryz.prog 89 [.agg (bls m).toArray] w fun r w' => ∃ v : Value, r = v ∧ Sat w M0 [.ow v 154 1 (cW m 0).length (aP (cW m 0))] w' := by
 obtain ⟨x0, x1, x2, x3, x4, rfl⟩ : ∃ x0 x1 x2 x3 x4, m = [x0, x1, x2, x3, x4] := by
  match m, hm with
  | [a, b, c, d, e], _ => exact ⟨a, b, c, d, e, rfl⟩
 generalize hM : [x0, x1, x2, x3, x4] = m at *
 have eb : (bls m).toArray = #[.bool x0, .bool x1, .bool x2, .bool x3, .bool x4] := by rw [← hM]; rfl
 rw [eb]
 refine cS (Sat.nil w M0) Tryz.func89 rfl (by simp [Tryz.ntmps89]) ?_
 (refine aD (aB ?_))
 refine bD Z Z (fun b1 => ?_)
 (refine aA V Z Z (aF (aD (aB (aA V Z Z (aF (aD (aD (aB (aJ V Z Z Z (aA V Z Z (aF ?_))))))))))); refine aQ ?_)
 refine eD (H' := [.ow (.slice none 0 0) 154 1 0 (aP [])]) (fun w' hs => (Sat.ownil hs 154 1).sp (by repeat constructor)) ?_
 refine cB (σ := Nat × Value) (fun s => s.1 ≤ 5) (fun s => 5 - s.1) (fun s => [(3, s.2), (6, .agg #[.bool x0, .bool x1, .bool x2, .bool x3, .bool x4]), (7, .int .i64 s.1)])
  (fun s => [.ow s.2 154 1 (cW (m.take s.1) 0).length (aP (cW (m.take s.1) 0))]) (0, .slice none 0 0) (by simp) ⟨rfl, rfl, rfl, trivial⟩ (by repeat constructor) ?_
 rintro ⟨k, v⟩ hk K hK
 simp only at hk
 dsimp only
 (refine aD (aB (aA V Z Z (aF (aD ?_)))))
 refine dL Z (fun hc => ?_) (fun hc => ?_)
 ·have hk2 : k < m.length := by omega
  clear hc
  obtain ⟨bl, hbl⟩ : ∃ bl, bl = m[k] := ⟨_, rfl⟩
  have es : m.take (k + 1) = m.take k ++ [bl] := by rw [List.take_succ_eq_append_getElem hk2, hbl]
  have em := cV (m.take k) bl 0
  have hl : (m.take k).length = k := by simp; omega
  have hll := gU (m.take k) 0
  rw [← es, hl] at em
  (refine aM (aD (aQ (aD (aB (aA V Z Z ?_))))))
  refine ql_ixA (v := .bool bl) V mk_arr2 rfl rfl rfl rfl (by omega) (by omega) (by
   obtain rfl | rfl | rfl | rfl | rfl : k = 0 ∨ k = 1 ∨ k = 2 ∨ k = 3 ∨ k = 4 := by omega
   all_goals (subst hM; rw [hbl]; rfl)) ?_
  (refine aA V Z Z (aA V Z Z (aF (aD (aB (aA V Z Z (aF ?_)))))))
  cases bl
  ·simp only [Bool.false_eq_true, if_false, List.append_nil] at em
   (refine aH Z (aM (bJ (aB (bA V Z Z Z Z (by omega) (by omega) (aA V Z Z (aF ?_)))))))
   refine cX (fun w hs => hs.slice (v := v) (by repeat constructor)) ?_
   rintro ⟨a1, g1, d1, rfl⟩
   exact hK (k + 1, .slice a1 g1 d1) _ _ (by simp only; omega) (by simp only; omega) ⟨rfl, rfl, rfl, trivial⟩ (by dsimp only; rw [em]; repeat constructor)
  ·simp only [if_true] at em
   (refine aL Z (aB (aA V Z Z (aA V Z Z ?_))))
   refine cJ 154 [.int .i64 k] rfl (by kernel_rfl) rfl (fun bn => ?_)
   refine bZ (q := 1) slR rfl rfl rfl (fun v' => by repeat constructor) (fun w' hs => ⟨_, _, Blk.rd (hs.blk (b := bn) (by repeat constructor)) rfl 1⟩) (by simp [cU]) (by omega) (by omega) (fun u => ?_)
   refine bL (fun w hs => hs.slice (v := u) (by repeat constructor)) ?_
   rintro ⟨a1, g1, d1, rfl⟩
   (refine aA V Z Z (aF (bJ (aB (bA V Z Z Z Z (by omega) (by omega) (aA V Z Z (aF ?_)))))))
   have f : aP (cW (m.take (k + 1)) 0) = aP (cW (m.take k) 0) ++ [.int .i64 k] := by rw [em]; simp [aP]
   have f2 : (cW (m.take (k + 1)) 0).length = (cW (m.take k) 0).length + 1 := by rw [em]; simp
   exact hK (k + 1, .slice a1 g1 d1) _ _ (by simp only; omega) (by simp only; omega) ⟨rfl, rfl, rfl, trivial⟩ (by dsimp only; rw [f, f2]; repeat constructor)
 ·obtain rfl : k = 5 := by omega
  have e : m.take 5 = m := by rw [← hM]; rfl
  rw [e]
  refine cX (fun w hs => hs.slice (v := v) (by repeat constructor)) ?_
  rintro ⟨a1, g1, d1, rfl⟩
  (refine bO _ rfl (aD (aB (aA V Z Z (aA V Z Z (aF (aS ?_)))))))
  refine aU V Z (by repeat constructor) fun w hs => ?_
  exact ⟨_, rfl, hs.sp (by repeat constructor)⟩

set_option maxHeartbeats 1000000 in
theorem brok_ok (w : World) (lo hi lo2 hi2 : Nat) (a : Option Addr) (cp : Nat) (v : Value) (s : List Lp) (r : Rl) (c : List Int) (h : RdL w lo hi (.slice a s.length cp) s) (hlen : s.length ≤ 1000000) (hv : RdI w lo2 hi2 v c) (hlc : c.length ≤ 1000000) (e : (brokenV s r c).2 = 0) :
  Ca Tryz.prog 20 [.slice a s.length cp, .agg (rlC r).toArray, v] w fun x w' => ∃ u : Value, x = .tuple #[u, .int .i64 0] ∧ Sat w M0 [.ow u 154 1 (eZ s r c).length (aP (eZ s r c))] w' := by
 have h1 : checkS s r = 0 ∧ listedV s.length c = 0 ∧ (c.length : Int) = r.laps := by
  unfold brokenV at e
  split at e
  ·rename_i hh; exact absurd e hh
  ·rename_i hh
   split at e
   ·rename_i h2; exact absurd e h2
   ·rename_i h2
    split at e
    ·cases e
    ·rename_i h3
     exact ⟨by omega, by omega, by omega⟩
 obtain ⟨h1, h2, h3⟩ := h1
 have hcr := cA.1 h1
 have hl := iT.1 h2
 obtain ⟨av, cv, rfl, hsv⟩ := RdI.outI hv
 refine cS (Sat.nil w M0) Tryz.func20 rfl (by simp [Tryz.ntmps20]) ?_
 (refine aD (aB ?_))
 refine bD Z Z (fun b4 => ?_)
 (refine aA V Z Z (aA V Z Z (aF (aD (aB (aA V Z Z (aJ V Z Z Z ?_)))))))
 refine aK (val := .int .i64 0) V rfl rfl rfl rfl (fun w hs => ?_) ?_; exact by have := dH w lo hi _ s r (RdE.keep h hs.chg0) hlen; rw [h1] at this; exact this
 (refine aA V Z Z (aF (aD (aD (aB (aA V Z Z (cO V Z Z Z (by omega) (aF (aL Z (aB (aA V Z Z (aA V Z Z ?_))))))))))))
 refine aK (val := .int .i64 0) V rfl rfl rfl rfl (fun w hs => ?_) ?_; exact by have := listed_ca w lo2 hi2 a cp s.length _ c (hv.keep hs.chg0) hlc hlen; rw [h2] at this; exact this
 (refine aA V Z Z (aF (aD (aD (aB (aA V Z Z (cO V Z Z Z (by omega) (aA V Z Z (aE Z (aA V Z Z (aE Z (aA V Z Z ?_))))))))))); refine aE Z (aA V Z Z (aE Z (aI V Z Z Z (aE Z (aW V Z Z Z (by omega) (aA V Z Z (aF (aH Z (aM (aD (aD ?_))))))))))); refine aB (aA V Z Z (aW V Z Z Z (by omega) (aF (aH Z (aM (aD (aB (aJ V Z Z Z (aA V Z Z ?_))))))))))
 refine dJ #[.int .i64 r.laps, .int .i64 r.g0, .int .i64 r.g1, .int .i64 r.c0, .int .i64 r.c1, .int .i64 r.p0, .int .i64 r.p1, .int .i64 r.wide, .int .i64 r.uses, .slice a s.length cp] rfl (by kernel_rfl) rfl ?_
 (refine aA V Z Z ?_)
 refine aK (val := mkA s r c) V rfl rfl rfl rfl (fun w hs => ?_) ?_; exact jJ w lo hi lo2 hi2 a cp _ s r c (RdE.keep h hs.chg0) hcr (hv.keep hs.chg0) hl.2.1 hl.1.2
 refine bG (β := Value) V [] _ M0 rfl rfl rfl rfl (Sp.refl _) (fun _ h => h.elim) (fun w' hs => rules_ca w' (jB s r c) rfl) ?_
 rintro _ u rfl
 refine bL (fun w hs => hs.slice (v := u) (by repeat constructor)) ?_
 rintro ⟨a1, g1, d1, rfl⟩
 (refine aA V Z Z (aA V Z Z (aF (aS ?_))))
 refine aU V Z (by repeat constructor) fun w hs => ?_
 exact ⟨_, rfl, hs.sp (by repeat constructor)⟩
theorem brok_no (w : World) (lo hi lo2 hi2 : Nat) (a : Option Addr) (cp : Nat) (v : Value) (s : List Lp) (r : Rl) (c : List Int) (h : RdL w lo hi (.slice a s.length cp) s) (hlen : s.length ≤ 1000000) (hv : RdI w lo2 hi2 v c) (hlc : c.length ≤ 1000000) (e : (brokenV s r c).2 ≠ 0) :
  Ca Tryz.prog 20 [.slice a s.length cp, .agg (rlC r).toArray, v] w fun x w' => x = .tuple #[.slice none 0 0, .int .i64 (brokenV s r c).2] ∧ Chg [] w w' := by
 obtain ⟨av, cv, rfl, hsv⟩ := RdI.outI hv
 refine cS (Sat.nil w M0) Tryz.func20 rfl (by simp [Tryz.ntmps20]) ?_
 (refine aD (aB ?_))
 refine bD Z Z (fun b4 => ?_)
 (refine aA V Z Z (aA V Z Z (aF (aD (aB (aA V Z Z (aJ V Z Z Z ?_)))))))
 refine aK (val := .int .i64 (checkS s r)) V rfl rfl rfl rfl (fun w hs => ?_) ?_; exact dH w lo hi _ s r (RdE.keep h hs.chg0) hlen
 (refine aA V Z Z (aF (aD (aD (aB (aA V Z Z (aA V Z Z (aF ?_))))))))
 by_cases h1 : checkS s r = 0
 ·rw [h1]
  (refine aL Z (aB (aA V Z Z (aA V Z Z ?_))))
  refine aK (val := .int .i64 (listedV s.length c)) V rfl rfl rfl rfl (fun w hs => ?_) ?_; exact listed_ca w lo2 hi2 a cp s.length _ c (hv.keep hs.chg0) hlc hlen
  (refine aA V Z Z (aF (aD (aD (aB ?_)))); (iterate 3 refine aA V Z Z ?_))
  by_cases h2 : listedV s.length c = 0
  ·rw [h2]
   by_cases h3 : (c.length : Int) = r.laps
   ·exact absurd (by unfold brokenV; rw [if_neg (by omega), if_neg (by omega), if_neg (by omega)]) e
   ·have ev : (brokenV s r c).2 = 2 := by unfold brokenV; rw [if_neg (by omega), if_neg (by omega), if_pos h3]
    rw [ev]
    (refine aE Z (aA V Z Z (aE Z (aA V Z Z (aE Z (aA V Z Z (aE Z (aI V Z Z Z (aE Z (bW V Z Z Z (by omega) (aA V Z Z (aF ?_))))))))))); refine aL Z (aB (aA V Z Z (aF (aD (aD (aB (aA V Z Z (bW V Z Z Z (by omega) (aF (aL Z (aD ?_))))))))))); refine aB ?_; (iterate 3 refine aA V Z Z ?_); refine aF (aS ?_))
    refine aU V Z (by repeat constructor) fun w hs => ?_
    exact ⟨rfl, hs.chg0⟩
  ·have ev : (brokenV s r c).2 = listedV s.length c := by unfold brokenV; rw [if_neg (by omega), if_pos h2]
   rw [ev, decide_eq_false h2]
   generalize listedV s.length c = z at *
   ((iterate 5 refine bE Z Z Z ?_); refine aA V Z Z (aF (aH Z (aM (aD (aD (aB (aA V Z Z (bW V Z Z Z (by omega) (aF (aL Z (aD ?_))))))))))); refine aB ?_; (iterate 3 refine aA V Z Z ?_); refine aF (aS ?_))
   refine aU V Z (by repeat constructor) fun w hs => ?_
   exact ⟨rfl, hs.chg0⟩
 ·have ev : (brokenV s r c).2 = checkS s r := by unfold brokenV; rw [if_pos h1]
  rw [ev, decide_eq_false h1]
  generalize checkS s r = z at *
  (refine aH Z (aM (aD (aD (aB (aA V Z Z (fP V Z Z Z (by omega) (aA V Z Z ?_))))))); (iterate 5 refine bE Z Z Z ?_); refine aA V Z Z (aF (aH Z (aM (aD (aD (aB (aA V Z Z (bW V Z Z Z (by omega) (aF (aL Z (aD ?_))))))))))); refine aB ?_; (iterate 3 refine aA V Z Z ?_); refine aF (aS ?_))
  refine aU V Z (by repeat constructor) fun w hs => ?_
  exact ⟨rfl, hs.chg0⟩
end Go.Proofs.YtgeajgmefokifaaGreat

/- Walks: all courses, handed out one by one. -/
namespace Go.Proofs.YtgeajgmefokifaaGreat
open Go Go.Eng

theorem sclone_ca (w : World) (lo hi : Nat) (v : Value) (l : List Int) (hl : RdI w lo hi v l) (hlen : l.length < 1000000) : Ca Tryz.prog 122 [v] w fun v w' => ∃ x : Value, v = x ∧ Sat w M0 [.ow x 3 1 l.length (aP l)] w' := by
 obtain ⟨a, c, rfl, hs⟩ := RdI.outI hl
 refine cS (Sat.nil w M0) Tryz.func122 rfl (by simp [Tryz.ntmps122]) ?_
 (refine aD (aB (aA V Z Z (aF (aD (aD (aB (aA V Z Z ?_))))))))
 refine lM V Z Z Z Z ?_
 cases a with
 | none =>
  have h0 : l = [] := by
   cases l with
   | nil => rfl
   | cons x l =>
    obtain ⟨b, off, hb⟩ := hs (by simp)
    cases hb
  subst h0
  (refine aF (aL Z (aD (aB (aA V Z Z (aF (aS ?_)))))))
  refine aU V Z (by repeat constructor) fun w hs => ?_
  exact ⟨_, rfl, by simpa [aP, fC] using Sat.ownil hs 3 1⟩
 | some ad =>
  (refine aF (aH Z (aM (aD (aB ?_)))))
  refine ql_mkS0 3 (by kernel_rfl) (by kernel_rfl) rfl (fun x => ?_)
  (refine aA V Z Z ?_)
  refine bZ (q := l.length) slI rfl rfl rfl (fun v' => by repeat constructor) (fun w' hs => ⟨lo, hi, RdI.row (RdE.keep hl hs.chg0)⟩) (by simp [cU]) (by omega) (by omega) (fun v' => ?_)
  (refine aA V Z Z (aF (aS ?_)))
  refine aU V Z (by repeat constructor) fun w hs => ?_
  exact ⟨v', rfl, by simpa using hs⟩

theorem jT (w : World) (a : Option Addr) (n c : Nat) (r : Rl) : Ca Tryz.prog 85 [.agg (dkC r a n c).toArray] w fun v w' =>
  ∃ b : Nat, v = .func (.func 120) #[] #[.pointer (some ⟨b, 0, none⟩)] ∧ Sat w M0 [.pt b (dkC r a n c) 146] w' := by
 refine cS (Sat.nil w M0) Tryz.func85 rfl (by simp [Tryz.ntmps85]) ?_
 (refine aD (aB ?_))
 refine bD Z Z (fun b1 => ?_)
 (refine aA V Z Z (aF (aD (aB (aA V Z Z (aA V Z Z (aF (aS ?_))))))))
 refine aU V Z (by repeat constructor) fun w hs => ?_
 exact ⟨b1, rfl, hs⟩

/-- What later changes leave alone. -/
theorem Sat.base {w1 w' wc : World} {M : Nat → Prop} {A B : List Ck} (h : Sat w1 M A w') (hs : Sat w' (DL A) B wc) : Sat w1 M B wc :=
 ⟨h.chg.upP hs.chg (fun k ⟨x, hx, hk⟩ => (h.bd x hx k hk).2), hs.all, hs.sep, fun c hc b hb => ⟨(hs.bd c hc b hb).1, by
  rcases (hs.bd c hc b hb).2 with ⟨x, hx, hk⟩ | h1
  ·exact (h.bd x hx b hk).2
  ·exact .inr (Nat.le_trans h.chg.size h1)⟩⟩
theorem Sat.front {w0 w1 w : World} {M : Nat → Prop} {A : List Ck} (c : Chg [] w0 w1) (h : Sat w1 M A w) : Sat w0 M A w :=
 ⟨⟨h.chg.os.trans c.os, h.chg.tape.trans c.tape, h.chg.output.trans c.output, Nat.le_trans c.size h.chg.size, fun k hk hn => (h.chg.block k (Nat.lt_of_lt_of_le hk c.size) hn).trans (c.block k hk (by simp))⟩, h.all, h.sep, fun x hx b hb => ⟨(h.bd x hx b hb).1, (h.bd x hx b hb).2.imp id (fun h1 => Nat.le_trans c.size h1)⟩⟩

theorem flat_at {α : Type} (f : Nat → List α) (s m j : Nat) (h : j < m) : (List.range' s m).flatMap f = (List.range' s j).flatMap f ++ f (s + j) ++ (List.range' (s + j + 1) (m - j - 1)).flatMap f := by
 have e : List.range' s m = List.range' s j ++ (s + j) :: List.range' (s + j + 1) (m - j - 1) := by
  have h1 : m = j + ((m - j - 1) + 1) := by omega
  rw [← List.range'_succ, List.range'_append_1, ← h1]
 rw [e]
 simp
theorem flat_next {α : Type} (f : Nat → List α) (s j : Nat) : (List.range' s (j + 1)).flatMap f = (List.range' s j).flatMap f ++ f (s + j) := by
 rw [← List.range'_append_1]
 simp

theorem un_D {A R : List Ck} {b : Nat} (h : DL (A ++ R) b) : ∃ c ∈ un A :: R, c.D b := by
 obtain ⟨c, hc, hb⟩ := h
 rcases List.mem_append.1 hc with hc | hc
 ·exact ⟨un A, .head _, c, hc, hb⟩
 ·exact ⟨c, .tail _ hc, hb⟩
abbrev cK (x : Value × List Int) : List Ck := [.ow x.1 3 1 x.2.length (aP x.2)]
def LeastOf (l : List Int) (least : Nat) : Prop := (l.length = 0 ∧ least = 0) ∨ (0 < l.length ∧ l.getD (l.length - 1) 0 = (least : Int))

set_option maxHeartbeats 4000000 in
theorem grow_ca {σ : Type} {L : σ → List Ck} {I : List (List Int) → σ → Prop} {E : σ → Prop} {s0 : σ} (w1 : World) (b1 b2 b3 : Nat) (a : Option Addr) (n cp : Nat) (r : Rl) (fv : Value) (laps : Nat) (hla : r.laps = laps) (hl6 : laps ≤ 6) (hn : n ≤ 12)
  {t1 t2 t3 : TypeId} (hb1 : ∀ w', ChgP (DL (L s0)) w1 w' → Blk w' b1 (dkC r a n cp) t1) (hb2 : ∀ w', ChgP (DL (L s0)) w1 w' → Blk w' b2 [fv] t2)
  (hb3 : ∀ w', ChgP (DL (L s0)) w1 w' → Blk w' b3 [.func (.func 121) #[] #[.pointer (some ⟨b1, 0, none⟩), .pointer (some ⟨b2, 0, none⟩), .pointer (some ⟨b3, 0, none⟩)]] t3) (xs : List (List Int))
  (hcb : ∀ pre (x : Value × List Int) post s w', xs = pre ++ x.2 :: post → I pre s → Sat w1 (DL (L s0)) (L s ++ cK x) w' → CaF Tryz.prog fv [x.1] w' (fun v w'' => ∃ s', ((v = .bool true ∧ I (pre ++ [x.2]) s') ∨ (v = .bool false ∧ E s')) ∧ Sat w' (DL (L s ++ cK x)) (L s') w'')) :
  ∀ (m : Nat) (l : List Int) (lv : Value) (least : Nat) (pre post : List (List Int)) (s : σ) (w' : World), l.length + m = laps → LeastOf l least → xs = pre ++ iR n m least l ++ post → I pre s → Sat w1 (DL (L s0)) (L s ++ cK (lv, l)) w' →
   Ca Tryz.prog 121 [lv, .pointer (some ⟨b1, 0, none⟩), .pointer (some ⟨b2, 0, none⟩), .pointer (some ⟨b3, 0, none⟩)] w' fun v w'' => ∃ s', ((v = .bool true ∧ I (pre ++ iR n m least l) s') ∨ (v = .bool false ∧ E s')) ∧ Sat w' (DL (L s ++ cK (lv, l))) (L s') w'' := by
 intro m
 induction m with
 | zero =>
  intro l lv least pre post s w' hlm hle hxs hI hsat
  obtain ⟨av, cv, rfl⟩ : ∃ a c, lv = .slice a l.length c := hsat.slice2 (List.mem_append_right _ (.head _))
  have hm : ∀ w'', ChgP (DL (L s ++ cK (.slice av l.length cv, l))) w' w'' → ChgP (DL (L s0)) w1 w'' := fun w'' hc => hsat.later hc
  have hp1 := fun w'' hc => hb1 w'' (hm w'' hc)
  have hp2 := fun w'' hc => hb2 w'' (hm w'' hc)
  refine cS (H := [un (L s), .ow (.slice av l.length cv) 3 1 l.length (aP l)]) (Sat.un_iff.2 hsat.self') Tryz.func121 rfl (by simp [Tryz.ntmps121]) ?_
  have e0 : iR n 0 least l = [l] := rfl
  rw [e0] at hxs ⊢
  (refine aD (aB (aA V Z Z (aF (aD (aD (aB ?_)))))); (iterate 4 refine aA V Z Z ?_); refine kF V Z Z Z (by assumption) (by rfl) ?_; refine cO V Z Z Z (by omega) (aF (aL Z (aD (aB ?_)))); refine kF V Z Z Z (by assumption) (by rfl) ?_; refine aA V Z Z ?_)
  refine ql_callF (β := σ) (ψ := fun s' v => (v = .bool true ∧ I (pre ++ [l]) s') ∨ (v = .bool false ∧ E s')) (L' := fun s' => [un (L s')]) [un (L s), .ow (.slice av l.length cv) 3 1 l.length (aP l)] [] (DL (L s ++ cK (.slice av l.length cv, l))) rfl rfl rfl (Sp.refl _) (fun b hb => un_D hb)
   (fun w'' hs => (hcb pre (.slice av l.length cv, l) post s w'' (by rw [hxs]; simp) hI (Sat.base hsat (Sat.un_iff.1 hs))).mono fun v w3 ⟨s', h1, h2⟩ => ⟨s', h1, Sat.un1.2 h2⟩) ?_
  rintro s' v (⟨rfl, hI'⟩ | ⟨rfl, hE⟩)
  ·(refine aA V Z Z (aF (aS ?_)))
   refine aU V Z (by repeat constructor) fun w hs => ?_
   exact ⟨s', .inl ⟨rfl, hI'⟩, Sat.un1.1 hs⟩
  ·(refine aA V Z Z (aF (aS ?_)))
   refine aU V Z (by repeat constructor) fun w hs => ?_
   exact ⟨s', .inr ⟨rfl, hE⟩, Sat.un1.1 hs⟩
 | succ m ih =>
  intro l lv least pre post s w' hlm hle hxs hI hsat
  obtain ⟨av, cv, rfl⟩ : ∃ a c, lv = .slice a l.length c := hsat.slice2 (List.mem_append_right _ (.head _))
  have hm : ∀ w'', ChgP (DL (L s ++ cK (.slice av l.length cv, l))) w' w'' → ChgP (DL (L s0)) w1 w'' := fun w'' hc => hsat.later hc
  have hp1 := fun w'' hc => hb1 w'' (hm w'' hc)
  have hp2 := fun w'' hc => hb2 w'' (hm w'' hc)
  have hp3 := fun w'' hc => hb3 w'' (hm w'' hc)
  refine cS (H := [un (L s), .ow (.slice av l.length cv) 3 1 l.length (aP l)]) (Sat.un_iff.2 hsat.self') Tryz.func121 rfl (by simp [Tryz.ntmps121]) ?_
  have e0 : iR n (m + 1) least l = (List.range' least (n - least)).flatMap fun i => iR n m i (l ++ [(i : Int)]) := rfl
  rw [e0] at hxs ⊢
  (refine aD (aB (aA V Z Z (aF (aD (aD (aB ?_)))))); (iterate 4 refine aA V Z Z ?_); refine kF V Z Z Z (by assumption) (by rfl) ?_; refine fP V Z Z Z (by omega) (aF (aH Z (aM (aD (aB (aA V Z Z (aF (aD (aD (aB ?_)))))))))); (iterate 3 refine aA V Z Z ?_); refine aF ?_)
  refine jP (σ := Unit) (fun _ => [(0, .slice av l.length cv), (1, .pointer (some ⟨b1, 0, none⟩)), (2, .pointer (some ⟨b2, 0, none⟩)), (3, .pointer (some ⟨b3, 0, none⟩)), (6, .int .i64 least)]) (fun _ => [un (L s), .ow (.slice av l.length cv) 3 1 l.length (aP l)]) ?_ (fun K2 hK2 => ?_)
  rotate_left
  ·rcases hle with ⟨h0, rfl⟩ | ⟨h0, h1⟩
   ·refine dL Z (fun hc => ?_) (fun hc => ?_)
    ·exfalso
     first | omega | (simp at hc; omega)
    ·(refine aM ?_)
     exact hK2 () _ _ ⟨rfl, rfl, rfl, rfl, rfl, trivial⟩ (by repeat constructor)
   ·refine dL Z (fun hc => ?_) (fun hc => ?_)
    ·(refine aB ?_; (iterate 3 refine aA V Z Z ?_); refine bA V Z Z Z Z (by omega) (by omega) ?_)
     refine bL (fun w hs => hs.ownSome (v := .slice av l.length cv) (by repeat constructor) h0) ?_
     rintro ⟨g1, c1, z1⟩
     cases z1
     have hk1 : l.length - 1 < l.length := by omega
     rw [cR hk1] at h1
     rw [show (l.length : Int) - 1 = ((l.length - 1 : Nat) : Int) by omega]
     (refine aV V Z Z Z Z Z (by omega) (by omega) ?_; refine bB V Z Z Z (fun w hs => RdI.at (hs.rdI (v := .slice (some ⟨g1, 0, none⟩) l.length cv) (l := l) (by repeat constructor) rfl) (l.length - 1) hk1) ?_)
     rw [h1]
     (refine aA V Z Z (aF ?_))
     exact hK2 () _ _ ⟨rfl, rfl, rfl, rfl, rfl, trivial⟩ (by repeat constructor)
    ·exfalso
     first | omega | (simp at hc; omega)
  intro _
  (refine aD (aD (aB (aA V Z Z (aA V Z Z (aF (aQ ?_)))))))
  refine cB (σ := Nat × σ) (fun x => x.1 ≤ n - least ∧ I (pre ++ (List.range' least x.1).flatMap fun i => iR n m i (l ++ [(i : Int)])) x.2) (fun x => n - least - x.1) (fun x => [(0, .slice av l.length cv), (1, .pointer (some ⟨b1, 0, none⟩)), (2, .pointer (some ⟨b2, 0, none⟩)), (3, .pointer (some ⟨b3, 0, none⟩)), (7, .int .i64 ((least : Int) + x.1))])
   (fun x => [un (L x.2), .ow (.slice av l.length cv) 3 1 l.length (aP l)]) (0, s) ⟨by simp, by simpa using hI⟩ ⟨rfl, rfl, rfl, rfl, cM rfl (by simp), trivial⟩ (Sp.refl _) ?_
  rintro ⟨j, s1⟩ ⟨hj, hI1⟩ K hK
  simp only at hj hI1
  dsimp only
  (refine aD (aD (aB (aA V Z Z (aA V Z Z ?_)))); refine kF V Z Z Z (by assumption) (by rfl) ?_; refine aA V Z Z (aA V Z Z (aF ?_)))
  refine dL Z (fun hc => ?_) (fun hc => ?_)
  ·have hj2 : j < n - least := by omega
   clear hc
   have hfl := flat_at (fun i => iR n m i (l ++ [(i : Int)])) least (n - least) j hj2
   have hfn := flat_next (fun i => iR n m i (l ++ [(i : Int)])) least j
   rw [hfl] at hxs
   rw [show (least : Int) + (j : Int) = ((least + j : Nat) : Int) by omega]
   (refine aM (aD (aQ (aD ?_))))
   have hpc : ∀ u1, Ck.ow u1 3 1 (l.length + 1) (aP l ++ [.int .i64 ((least + j : Nat) : Int)]) = Ck.ow u1 3 1 (l ++ [((least + j : Nat) : Int)]).length (aP (l ++ [((least + j : Nat) : Int)])) := fun u1 => by simp [aP]
   refine jP (σ := {x : Bool × σ // (x.1 = true ∧ I (pre ++ (List.range' least (j + 1)).flatMap fun i => iR n m i (l ++ [(i : Int)])) x.2) ∨ (x.1 = false ∧ E x.2)}) (fun x => [(0, .slice av l.length cv), (1, .pointer (some ⟨b1, 0, none⟩)), (2, .pointer (some ⟨b2, 0, none⟩)), (3, .pointer (some ⟨b3, 0, none⟩)), (7, .int .i64 ((least + j : Nat) : Int)), (41, .bool (!x.1.1))]) (fun x => [un (L x.1.2), .ow (.slice av l.length cv) 3 1 l.length (aP l)]) ?_ (fun K2 hK2 => ?_)
   rotate_left
   ·skip
    refine iN (.alt (aC [1, 2, 3, 4, 5, 0, 6, 7] (.nil)) (aC [3, 4, 1, 2, 5, 0, 6, 7] (.nil))) _ [un (L s1)] (Sp.cons (by repeat constructor) (Sp.refl _)) (by kernel_rfl) (by kernel_rfl) ?_
    refine bM ?_ ?_
    ·skip
     refine aY (by repeat (first | exact PickL.nil | (apply PickL.cons; rfl))) fun K1 hK1 => ?_
     (refine aG V Z Z Z ?_)
     refine bH (β := Value) V [] _ M0 rfl rfl rfl rfl (Sp.refl _) (fun _ h => h.elim) (fun w' hs => sclone_ca w' _ _ _ l (hs.rdI (v := .slice av l.length cv) (l := l) (by repeat constructor) rfl) (by omega)) ?_
     rintro _ u rfl
     (refine aG V Z Z Z ?_)
     refine bK 3 [.int .i64 ((least + j : Nat) : Int)] rfl (by kernel_rfl) rfl (fun c1 => ?_)
     skip
     refine bQ (q := 1) slI rfl rfl rfl (fun v' => by repeat constructor) (fun w' hs => ⟨_, _, Blk.rd (hs.blk (b := c1) (by repeat constructor)) rfl 1⟩) (by simp [cU]) (by omega) (by omega) (fun u1 => ?_)
     (refine gF V Z Z Z (by assumption) (by rfl) ?_)
     refine qf_callF (β := {x : Bool × σ // (x.1 = true ∧ I (pre ++ (List.range' least (j + 1)).flatMap fun i => iR n m i (l ++ [(i : Int)])) x.2) ∨ (x.1 = false ∧ E x.2)}) (ψ := fun x v => v = .bool x.1.1) (L' := fun x => [un (L x.1.2)]) [un (L s1), .ow u1 3 1 (l.length + 1) (aP l ++ [.int .i64 ((least + j : Nat) : Int)])] [] (DL (L s1 ++ cK (u1, l ++ [((least + j : Nat) : Int)]))) rfl rfl rfl (by repeat constructor) (fun b hb => un_D (by rw [hpc]; exact hb)) (fun w'' hs => by have h2 := Sat.un_iff.1 (Sat.sp (H' := [un (L s1), .ow u1 3 1 (l.length + 1) (aP l ++ [.int .i64 ((least + j : Nat) : Int)])]) hs (by repeat constructor)); rw [hpc] at h2; exact CaF.of V rfl ((ih (l ++ [((least + j : Nat) : Int)]) u1 (least + j) _ ((List.range' (least + j + 1) (n - least - j - 1)).flatMap (fun i => iR n m i (l ++ [(i : Int)])) ++ post) s1 w'' (by simp; omega) (.inr ⟨by simp, by simp⟩) (by rw [hxs]; simp only [List.append_assoc]) hI1 (Sat.base hsat h2)).mono fun v w3 ⟨s', h3, h4⟩ => by rw [List.append_assoc, ← hfn] at h3; rcases h3 with ⟨e, h3⟩ | ⟨e, h3⟩ <;> first | exact ⟨⟨(true, s'), .inl ⟨rfl, h3⟩⟩, e, Sat.un1.2 h4⟩ | exact ⟨⟨(false, s'), .inr ⟨rfl, h3⟩⟩, e, Sat.un1.2 h4⟩)) ?_
     rintro x2 _ rfl
     (refine aG V Z Z Z (aO ?_))
     exact hK1 _ _ (dO (hK2 x2 _ _ ⟨rfl, rfl, rfl, rfl, rfl, rfl, trivial⟩ (by repeat constructor)))
    ·skip
     refine aY (by repeat (first | exact PickL.nil | (apply PickL.cons; rfl))) fun K1 hK1 => ?_
     (refine aG V Z Z Z ?_)
     refine bK 3 [.int .i64 ((least + j : Nat) : Int)] rfl (by kernel_rfl) rfl (fun c1 => ?_)
     (refine aG V Z Z Z ?_)
     refine bH (β := Value) V [] _ M0 rfl rfl rfl rfl (Sp.refl _) (fun _ h => h.elim) (fun w' hs => sclone_ca w' _ _ _ l (hs.rdI (v := .slice av l.length cv) (l := l) (by repeat constructor) rfl) (by omega)) ?_
     rintro _ u rfl
     skip
     refine bQ (q := 1) slI rfl rfl rfl (fun v' => by repeat constructor) (fun w' hs => ⟨_, _, Blk.rd (hs.blk (b := c1) (by repeat constructor)) rfl 1⟩) (by simp [cU]) (by omega) (by omega) (fun u1 => ?_)
     (refine gF V Z Z Z (by assumption) (by rfl) ?_)
     refine qf_callF (β := {x : Bool × σ // (x.1 = true ∧ I (pre ++ (List.range' least (j + 1)).flatMap fun i => iR n m i (l ++ [(i : Int)])) x.2) ∨ (x.1 = false ∧ E x.2)}) (ψ := fun x v => v = .bool x.1.1) (L' := fun x => [un (L x.1.2)]) [un (L s1), .ow u1 3 1 (l.length + 1) (aP l ++ [.int .i64 ((least + j : Nat) : Int)])] [] (DL (L s1 ++ cK (u1, l ++ [((least + j : Nat) : Int)]))) rfl rfl rfl (by repeat constructor) (fun b hb => un_D (by rw [hpc]; exact hb)) (fun w'' hs => by have h2 := Sat.un_iff.1 (Sat.sp (H' := [un (L s1), .ow u1 3 1 (l.length + 1) (aP l ++ [.int .i64 ((least + j : Nat) : Int)])]) hs (by repeat constructor)); rw [hpc] at h2; exact CaF.of V rfl ((ih (l ++ [((least + j : Nat) : Int)]) u1 (least + j) _ ((List.range' (least + j + 1) (n - least - j - 1)).flatMap (fun i => iR n m i (l ++ [(i : Int)])) ++ post) s1 w'' (by simp; omega) (.inr ⟨by simp, by simp⟩) (by rw [hxs]; simp only [List.append_assoc]) hI1 (Sat.base hsat h2)).mono fun v w3 ⟨s', h3, h4⟩ => by rw [List.append_assoc, ← hfn] at h3; rcases h3 with ⟨e, h3⟩ | ⟨e, h3⟩ <;> first | exact ⟨⟨(true, s'), .inl ⟨rfl, h3⟩⟩, e, Sat.un1.2 h4⟩ | exact ⟨⟨(false, s'), .inr ⟨rfl, h3⟩⟩, e, Sat.un1.2 h4⟩)) ?_
     rintro x2 _ rfl
     (refine aG V Z Z Z (aO ?_))
     exact hK1 _ _ (dO (hK2 x2 _ _ ⟨rfl, rfl, rfl, rfl, rfl, rfl, trivial⟩ (by repeat constructor)))
   rintro ⟨⟨bb, s2⟩, hx⟩
   dsimp only at hx ⊢
   rcases hx with ⟨rfl, hI2⟩ | ⟨rfl, hE⟩
   ·(refine aH Z (aM (bJ (aB (aA V Z Z (bA V Z Z Z Z (by omega) (by omega) (aA V Z Z (aF ?_))))))))
    exact hK (j + 1, s2) _ _ ⟨by simp only; omega, hI2⟩ (by simp only; omega) ⟨rfl, rfl, rfl, rfl, cM rfl (by simp only; omega), trivial⟩ (by repeat constructor)
   ·(refine aL Z (aD (aB (aA V Z Z (aF (aS ?_))))))
    refine aU V Z (by repeat constructor) fun w hs => ?_
    exact ⟨s2, .inr ⟨rfl, hE⟩, Sat.un1.1 (hs.sp (by repeat constructor))⟩
  ·obtain rfl : j = n - least := by omega
   (refine bO _ rfl (aD (aB (aA V Z Z (aF (aS ?_))))))
   refine aU V Z (by repeat constructor) fun w hs => ?_
   exact ⟨s1, .inl ⟨rfl, hI1⟩, Sat.un1.1 (hs.sp (by repeat constructor))⟩
end Go.Proofs.YtgeajgmefokifaaGreat

/- Walks: the iterator over all courses. -/
namespace Go.Proofs.YtgeajgmefokifaaGreat
open Go Go.Eng

theorem Sat.front2 {w0 w1 w : World} {M : Nat → Prop} {A : List Ck} (c : ChgP M w0 w1) (h : Sat w1 M A w) : Sat w0 M A w :=
 ⟨c.upP h.chg (fun k hk => .inl hk), h.all, h.sep, fun x hx b hb => ⟨(h.bd x hx b hb).1, (h.bd x hx b hb).2.imp id (fun h1 => Nat.le_trans c.size h1)⟩⟩
set_option maxHeartbeats 2000000 in
theorem jV (w : World) (D : Nat → Prop) (b1 : Nat) (a : Option Addr) (n cp : Nat) (r : Rl) (hr : 1 ≤ r.laps ∧ r.laps ≤ 6) (hn : n ≤ 12) {t1 : TypeId} (hb : Blk w b1 (dkC r a n cp) t1) (hD : ¬ D b1) :
  ItOkP (α := Value × List Int) Tryz.prog 120 [.pointer (some ⟨b1, 0, none⟩)] (fun x => [x.1]) (·.2) cK (coursesL n (nL r)) w D := by
 intro fv σ L I E s0 hfv hI0 hLD hsat hcb
 have hce : fv.cells.toList = [fv] := by cases fv <;> first | rfl | simp [cU] at hfv
 refine cS (H := [un (L s0)]) (Sat.un1.2 hsat) Tryz.func120 rfl (by simp [Tryz.ntmps120]) ?_
 (refine aD (aB ?_))
 refine bD Z Z (fun b2 => ?_)
 rw [hce]
 (refine aF (aD (aB ?_)))
 refine bI zero67 rfl (fun b3 => ?_)
 (refine aF (aD (aB (aA V Z Z ?_))); refine iV V Z Z Z Z (by repeat constructor) ?_; refine aF (aB (aI V Z Z Z ?_)))
 refine lD (H' := [un (L s0), .ow (.slice none 0 0) 3 1 0 (aP []), .pt b3 [.func (.func 121) #[] #[.pointer (some ⟨b1, 0, none⟩), .pointer (some ⟨b2, 0, none⟩), .pointer (some ⟨b3, 0, none⟩)]] 67, .pt b2 [fv] 67]) (fun w' hs => (Sat.ownil hs 3 1).sp (by repeat constructor)) ?_
 refine ql_callF (β := σ) (ψ := fun s' _ => I (coursesL n (nL r)) s' ∨ E s') (L' := fun s' => [un (L s')]) [un (L s0), .ow (.slice none 0 0) 3 1 0 (aP [])] [.pt b3 [.func (.func 121) #[] #[.pointer (some ⟨b1, 0, none⟩), .pointer (some ⟨b2, 0, none⟩), .pointer (some ⟨b3, 0, none⟩)]] 67, .pt b2 [fv] 67] (DL (L s0 ++ cK (.slice none 0 0, []))) rfl rfl rfl (by repeat constructor) (fun b hb => un_D hb)
   (fun w1 hs => ?_) ?_
 ·have hs1 : Sat w (DL (L s0)) (L s0 ++ ([.ow (.slice none 0 0) 3 1 0 (aP []), .pt b3 [.func (.func 121) #[] #[.pointer (some ⟨b1, 0, none⟩), .pointer (some ⟨b2, 0, none⟩), .pointer (some ⟨b3, 0, none⟩)]] 67, .pt b2 [fv] 67])) w1 := Sat.un_iff.1 hs
  have hs2 : Sat w (DL (L s0)) (L s0 ++ cK (.slice none 0 0, [])) w1 := Sat.un_iff.1 (hs.sp (H' := [un (L s0), .ow (.slice none 0 0) 3 1 0 (aP [])]) (by repeat constructor))
  have hg : iR n (nL r) 0 [] = coursesL n (nL r) := coursesL_grow n (nL r)
  have hk := grow_ca (L := L) (I := I) (E := E) (s0 := s0) w1 b1 b2 b3 a n cp r fv (nL r) (by unfold nL; omega) (by unfold nL; omega) hn
   (fun w' hc => (hc.block b1 (Nat.lt_of_lt_of_le hb.lt hs.chg.size) (fun h => hD (hLD b1 h))).trans ((hs.chg.block b1 hb.lt (fun h => hD (hLD b1 h))).trans hb))
   (fun w' hc => (hs1.aside hc (x := .pt b2 [fv] 67) (by repeat constructor)))
   (fun w' hc => (hs1.aside hc (x := .pt b3 [.func (.func 121) #[] #[.pointer (some ⟨b1, 0, none⟩), .pointer (some ⟨b2, 0, none⟩), .pointer (some ⟨b3, 0, none⟩)]] 67) (by repeat constructor)))
   (coursesL n (nL r)) (fun pre x post s w' h1 h2 h3 => hcb pre x post s w' h1 h2 (Sat.front2 hs.chg h3))
   (nL r) [] (.slice none 0 0) 0 [] [] s0 w1 (by simp) (.inl ⟨rfl, rfl⟩) (by simp [hg]) hI0
   ⟨ChgP.refl _ _, hs2.all, hs2.sep, fun c hc b hb => ⟨(hs2.bd c hc b hb).1, ?_⟩⟩
  ·exact CaF.of V rfl (hk.mono fun v w3 ⟨s', h1, h2⟩ => ⟨s', by
    rcases h1 with ⟨_, h1⟩ | ⟨_, h1⟩
    ·rw [hg] at h1; exact .inl (by simpa using h1)
    ·exact .inr h1, Sat.un1.2 h2⟩)
  ·rcases List.mem_append.1 hc with hc | hc
   ·exact .inl ⟨c, hc, hb⟩
   ·obtain rfl : c = .ow (.slice none 0 0) 3 1 0 (aP []) := by simpa using hc
    cases hb
 ·intro s' v hx
  (refine aF ?_)
  refine q_end V Z (by repeat constructor) fun w hs => ?_
  exact ⟨s', hx, Sat.un1.1 (hs.sp (by repeat constructor))⟩
end Go.Proofs.YtgeajgmefokifaaGreat

/- Walks: the area and the snow of a course. -/
namespace Go.Proofs.YtgeajgmefokifaaGreat
open Go Go.Eng

theorem index_ca (w : World) (lo hi : Nat) (v : Value) (c : List Int) (x : Int) (h : RdI w lo hi v c) (hlen : c.length ≤ 1000000) :
  Ca Tryz.prog 165 [v, .int .i64 x] w fun r w' => ∃ z : Int, (r = .int .i64 z ∧ -1 ≤ z ∧ z ≤ 1000000 ∧ (0 ≤ z ↔ x ∈ c)) ∧ Sat w M0 [] w' := by
 obtain ⟨a, ca, rfl, hsa⟩ := RdI.outI h
 refine cS (Sat.nil w M0) Tryz.func165 rfl (by simp [Tryz.ntmps165]) ?_
 (refine aD (aB (aA V Z Z (aF (aD (aD (aB ?_)))))); (iterate 3 refine aA V Z Z ?_); refine aF (aQ ?_))
 refine cB (σ := Nat) (fun k => k ≤ c.length ∧ x ∉ c.take k) (fun k => c.length - k) (fun k => [(0, .slice a c.length ca), (1, .int .i64 x), (7, .int .i64 c.length), (8, .int .i64 k)]) (fun _ => []) 0 (by simp) ⟨rfl, rfl, rfl, rfl, trivial⟩ .nil ?_
 rintro k ⟨hk, hS⟩ K hK
 (refine aD (aB (aA V Z Z (aF (aD ?_)))))
 refine dL Z (fun hc => ?_) (fun hc => ?_)
 ·have hk2 : k < c.length := by omega
  obtain ⟨b, off, rfl⟩ := hsa (by omega)
  clear hc
  (refine aM (aD (aQ (aD (aB (aA V Z Z (aA V Z Z (aF (aD (aB ?_))))))))); (iterate 3 refine aA V Z Z ?_))
  (refine aV V Z Z Z Z Z (by omega) (by omega) ?_; refine bB V Z Z Z (fun w hs => RdI.at (h.keep hs.chg0) k hk2) ?_)
  (refine aA V Z Z (aF ?_))
  refine dL Z (fun hc => ?_) (fun hc => ?_)
  ·have hlt : x = c[k] := by assumption
   (refine aD (aB (aA V Z Z (aA V Z Z (aF (aS ?_))))))
   refine aU V Z (by repeat constructor) fun w hs => ?_
   exact ⟨(k : Int), ⟨rfl, by omega, by omega, ⟨fun _ => hlt ▸ List.getElem_mem _, fun _ => by omega⟩⟩, hs⟩
  ·have hlt : ¬ x = c[k] := by assumption
   (refine aM (bJ (aB (bA V Z Z Z Z (by omega) (by omega) (aA V Z Z (aF ?_))))))
   refine hK (k + 1) _ _ ⟨by omega, ?_⟩ (by omega) ⟨rfl, rfl, rfl, rfl, trivial⟩ .nil
   rw [List.take_succ_eq_append_getElem hk2]
   simp only [List.mem_append, List.mem_singleton, not_or]
   exact ⟨hS, hlt⟩
 ·obtain rfl : k = c.length := by omega
  rw [List.take_length] at hS
  (refine bO _ rfl (aD (aB (aA V Z Z (aF (aS ?_))))))
  refine aU V Z (by repeat constructor) fun w hs => ?_
  exact ⟨-1, ⟨rfl, by omega, by omega, ⟨fun h => by omega, fun h => absurd h hS⟩⟩, hs⟩
def hasB (c : List Int) (x : Int) : Bool := c.any (fun y => decide (y = x) && true)
theorem hasB_iff {c : List Int} {x : Int} : hasB c x = true ↔ x ∈ c := by simp [hasB]
theorem contains_ca (w : World) (lo hi : Nat) (v : Value) (c : List Int) (x : Int) (h : RdI w lo hi v c) (hlen : c.length ≤ 1000000) :
  Ca Tryz.prog 157 [v, .int .i64 x] w fun r w' => r = .bool (hasB c x) ∧ Chg [] w w' := by
 refine cS (Sat.nil w M0) Tryz.func157 rfl (by simp [Tryz.ntmps157]) ?_
 (refine aD (aB (aA V Z Z (aF (aD (aB (aA V Z Z (aA V Z Z ?_))))))))
 refine bG (β := Int) (ψ := fun z v => v = .int .i64 z ∧ -1 ≤ z ∧ z ≤ 1000000 ∧ (0 ≤ z ↔ x ∈ c)) (L' := fun _ => []) V [] _ M0 rfl rfl rfl rfl (Sp.refl _) (fun _ h => h.elim) (fun w' hs => index_ca w' lo hi v c x (h.keep hs.chg0) hlen) ?_
 rintro z _ ⟨rfl, h1, h2, h3⟩
 by_cases hz : 0 ≤ z
 ·rw [show hasB c x = true from hasB_iff.2 (h3.1 hz)]
  (refine ql_geqT V Z Z Z (by omega) (aA V Z Z (aF (aS ?_))))
  refine aU V Z (by repeat constructor) fun w hs => ?_
  exact ⟨rfl, hs.chg0⟩
 ·rw [show hasB c x = false from Bool.eq_false_iff.2 fun hh => hz (h3.2 (hasB_iff.1 hh))]
  (refine ql_geqF V Z Z Z (by omega) (aA V Z Z (aF (aS ?_))))
  refine aU V Z (by repeat constructor) fun w hs => ?_
  exact ⟨rfl, hs.chg0⟩
theorem has_ca (w : World) (lo hi : Nat) (v : Value) (c : List Int) (x : Int) (h : RdI w lo hi v c) (hlen : c.length ≤ 1000000) :
  Ca Tryz.prog 139 [v, .int .i64 x] w fun r w' => r = .bool (hasB c x) ∧ Chg [] w w' := by
 refine cS (Sat.nil w M0) Tryz.func139 rfl (by simp [Tryz.ntmps139]) ?_
 (refine aD (aB (aA V Z Z (aF (aD (aB (aA V Z Z (aA V Z Z ?_))))))))
 refine aK (val := .bool (hasB c x)) V rfl rfl rfl rfl (fun w hs => ?_) ?_; exact contains_ca w lo hi v c x (h.keep hs.chg0) hlen
 (refine aA V Z Z (aF (aS ?_)))
 refine aU V Z (by repeat constructor) fun w hs => ?_
 exact ⟨rfl, hs.chg0⟩

set_option maxHeartbeats 2000000 in
theorem area_ca (w : World) (lo hi lo2 hi2 : Nat) (a : Option Addr) (cp : Nat) (v : Value) (s : List Lp) (c : List Int) (h : RdL w lo hi (.slice a s.length cp) s) (hst : StadR s) (hv : RdI w lo2 hi2 v c) (hlc : c.length ≤ 1000000) :
  Ca Tryz.prog 95 [.slice a s.length cp, v] w fun x w' => x = .int .i64 (gY s c) ∧ Chg [] w w' := by
 obtain ⟨_, _, e0, hsa⟩ := RdL.outI h
 cases e0
 have hn2 := hst.n2
 refine cS (Sat.nil w M0) Tryz.func95 rfl (by simp [Tryz.ntmps95]) ?_
 (refine aD (aB (aA V Z Z (aF (aD (aB ?_))))); (iterate 3 refine aA V Z Z ?_); refine aF (aD (aB (aA V Z Z (aF (aD (aD (aB ?_))))))); (iterate 3 refine aA V Z Z ?_); refine aF (aQ ?_))
 refine cB (σ := Nat) (fun k => k ≤ s.length) (fun k => s.length - k) (fun k => [(5, .func (.func 139) #[v] #[]), (6, .int .i64 (areaP s c k)), (11, .slice a s.length cp), (12, .int .i64 s.length), (13, .int .i64 k)])
  (fun k => []) 0 (by simp) ⟨rfl, rfl, rfl, rfl, rfl, trivial⟩ .nil ?_
 rintro k hk K hK
 (refine aD (aB (aA V Z Z (aF (aD ?_)))))
 refine dL Z (fun hc => ?_) (fun hc => ?_)
 ·have hk2 : k < s.length := by omega
  clear hc
  obtain ⟨ba, oa, rfl⟩ := hsa (by omega)
  have hb1 := lK hst c k hk
  have hb2 := lK hst c (k + 1) (by omega)
  have es := areaP_succ s c k
  have hR := gJ hst (i := (k : Int)) (by omega)
  rw [show iY s (k : Int) = s[k] from lpAt_at (i := (k : Int)) (by omega)] at es hR
  change areaP s c (k + 1) = areaP s c k + if hasB c k then _ else _ at es
  (refine aM (aD (aQ (aD (aB (aA V Z Z ?_))))))
  refine aV V Z Z Z Z Z (by omega) (by omega) ?_
  refine dU V Z Z Z Z (fun w hs => RdL.at (RdE.keep h hs.chg0) k hk2) ?_
  generalize s[k] = lp at *
  obtain ⟨ln, cl, wd⟩ := lp
  have hR1 := hR.len
  have hR3 := hR.wide
  dsimp only at *
  have hm1 : 0 ≤ ln * wd := Int.mul_nonneg (by omega) (by omega)
  have hm2 : ln * wd ≤ 20000 * 20 := Int.mul_le_mul hR1.2 hR3.2 (by omega) (by omega)
  skip
  refine bI zero32 rfl (fun b8 => ?_)
  (refine aA V Z Z ?_; refine bS V Z Z Z Z Z (by repeat constructor) rfl ?_; refine aF (aD (aB (aA V Z Z (aA V Z Z ?_)))))
  refine ql_callFv (val := .bool (hasB c k)) rfl rfl rfl (fun w hs => CaF.of V rfl (has_ca w lo2 hi2 v c k (hv.keep hs.chg0) hlc)) ?_
  (refine aF ?_)
  cases hh : hasB c k
  ·rw [hh] at es
   simp only [Bool.false_eq_true, if_false] at es
   (refine aH Z (aM (bJ (aB (bA V Z Z Z Z (by omega) (by omega) (aA V Z Z (aF ?_)))))))
   exact hK (k + 1) _ _ (by omega) (by omega) ⟨rfl, cM rfl (by omega), rfl, rfl, cM rfl (by omega), trivial⟩ (by repeat constructor)
  ·rw [hh] at es
   simp only [if_true] at es
   (refine aL Z (aB (aA V Z Z (aA V Z Z ?_))); refine aI V Z Z Z ?_; refine aA V Z Z ?_; refine aI V Z Z Z ?_; refine bA V Z Z Z Z (by omega) (by omega) (bA V Z Z Z Z (by omega) (by omega) (aA V Z Z (aF (bJ (aB (bA V Z Z Z Z (by omega) (by omega) (aA V Z Z (aF ?_)))))))))
   exact hK (k + 1) _ _ (by omega) (by omega) ⟨rfl, cM rfl (by omega), rfl, rfl, cM rfl (by omega), trivial⟩ (by repeat constructor)
 ·obtain rfl : k = s.length := by omega
  (refine bO _ rfl (aD (aB (aA V Z Z (aA V Z Z (aF (aS ?_)))))))
  refine aU V Z (by repeat constructor) fun w hs => ?_
  exact ⟨rfl, hs.chg0⟩

theorem snow_ca (w : World) (lo hi lo2 hi2 : Nat) (a : Option Addr) (cp : Nat) (v : Value) (s : List Lp) (c : List Int) (depth : Int) (h : RdL w lo hi (.slice a s.length cp) s) (hst : StadR s) (hv : RdI w lo2 hi2 v c) (hlc : c.length ≤ 1000000) (hd : 1 ≤ depth ∧ depth ≤ 200) :
  Ca Tryz.prog 96 [.slice a s.length cp, v, .int .i64 depth] w fun x w' => x = .int .i64 (snowV s c depth) ∧ Chg [] w w' := by
 have hb := snowV_bd hst c hd
 refine cS (Sat.nil w M0) Tryz.func96 rfl (by simp [Tryz.ntmps96]) ?_
 (refine aD (aB (aA V Z Z (aF (aD (aB (aA V Z Z (aA V Z Z ?_))))))))
 refine aK (val := .int .i64 (gY s c)) V rfl rfl rfl rfl (fun w hs => ?_) ?_; exact area_ca w lo hi lo2 hi2 a cp v s c (RdE.keep h hs.chg0) hst (hv.keep hs.chg0) hlc
 (refine aA V Z Z (bA V Z Z Z Z (by omega) (by omega) (bA V Z Z Z Z (by omega) (by omega) (fS Z Z Z (by omega) (by omega) (by omega) (aA V Z Z (aF (aS ?_)))))))
 refine aU V Z (by repeat constructor) fun w hs => ?_
 exact ⟨rfl, hs.chg0⟩
theorem meas_ca (w : World) (lo hi lo2 hi2 : Nat) (a : Option Addr) (cp : Nat) (v : Value) (s : List Lp) (c : List Int) (h : RdL w lo hi (.slice a s.length cp) s) (hlen : s.length ≤ 1000000) (hv : RdI w lo2 hi2 v c) (hlc : c.length ≤ 1000000) :
  Ca Tryz.prog 94 [.slice a s.length cp, v] w fun x w' => x = .int .i64 (measV s c) ∧ Chg [] w w' := by
 refine cS (Sat.nil w M0) Tryz.func94 rfl (by simp [Tryz.ntmps94]) ?_
 (refine aD (aB (aA V Z Z (aF (aD (aD (aB (aA V Z Z ?_))))))))
 refine aK (val := .int .i64 (stadV s)) V rfl rfl rfl rfl (fun w hs => ?_) ?_; exact stadium_ca w lo hi _ s (RdE.keep h hs.chg0) hlen
 (refine aA V Z Z (aF (aD (aB (aA V Z Z (aA V Z Z (aF ?_)))))))
 by_cases h1 : stadV s = 0
 ·have e : measV s c = listedV s.length c := by unfold measV; rw [if_neg (by omega)]
  rw [h1, e]
  (refine aH Z (aM (aD (aB (aA V Z Z (aA V Z Z ?_))))))
  refine aK (val := .int .i64 (listedV s.length c)) V rfl rfl rfl rfl (fun w hs => ?_) ?_; exact listed_ca w lo2 hi2 a cp s.length v c (hv.keep hs.chg0) hlc hlen
  (refine aA V Z Z (aF (aS ?_)))
  refine aU V Z (by repeat constructor) fun w hs => ?_
  exact ⟨rfl, hs.chg0⟩
 ·have e : measV s c = stadV s := by unfold measV; rw [if_pos h1]
  rw [e, decide_eq_false h1]
  generalize stadV s = z at *
  (refine aL Z (aD (aB (aA V Z Z (aA V Z Z (aF (aS ?_)))))))
  refine aU V Z (by repeat constructor) fun w hs => ?_
  exact ⟨rfl, hs.chg0⟩
theorem meas_iff {s : List Lp} {c : List Int} : measV s c = 0 ↔ StadR s ∧ listedV s.length c = 0 := by
 unfold measV
 rw [← lY]
 split <;> constructor <;> intro h <;> first | exact ⟨by omega, h⟩ | exact h.2 | (exfalso; omega)
theorem areaE_ca (w : World) (lo hi lo2 hi2 : Nat) (a : Option Addr) (cp : Nat) (v : Value) (s : List Lp) (c : List Int) (h : RdL w lo hi (.slice a s.length cp) s) (hlen : s.length ≤ 1000000) (hv : RdI w lo2 hi2 v c) (hlc : c.length ≤ 1000000) :
  Ca Tryz.prog 31 [.slice a s.length cp, v] w fun x w' => x = .tuple #[.int .i64 (gH s c).1, .int .i64 (gH s c).2] ∧ Chg [] w w' := by
 refine cS (Sat.nil w M0) Tryz.func31 rfl (by simp [Tryz.ntmps31]) ?_
 (refine aD (aB (aA V Z Z (aA V Z Z (aF (aD (aD (aB (aA V Z Z (aA V Z Z ?_))))))))))
 refine aK (val := .int .i64 (measV s c)) V rfl rfl rfl rfl (fun w hs => ?_) ?_; exact meas_ca w lo hi lo2 hi2 a cp v s c (RdE.keep h hs.chg0) hlen (hv.keep hs.chg0) hlc
 (refine aA V Z Z (aF (aD (aB (aA V Z Z (aA V Z Z (aF ?_)))))))
 by_cases h1 : measV s c = 0
 ·have e : gH s c = (gY s c, 0) := by unfold gH; rw [if_neg (by omega)]
  rw [h1, e]
  (refine aH Z (aM (aD (aB (aA V Z Z (aA V Z Z ?_))))))
  refine aK (val := .int .i64 (gY s c)) V rfl rfl rfl rfl (fun w hs => ?_) ?_; exact area_ca w lo hi lo2 hi2 a cp v s c (RdE.keep h hs.chg0) (meas_iff.1 h1).1 (hv.keep hs.chg0) hlc
  (refine aA V Z Z (aA V Z Z (aF (aS ?_))))
  refine aU V Z (by repeat constructor) fun w hs => ?_
  exact ⟨rfl, hs.chg0⟩
 ·have e : gH s c = (0, measV s c) := by unfold gH; rw [if_pos h1]
  rw [e, decide_eq_false h1]
  generalize measV s c = z at *
  (refine aL Z (aD (aB ?_)); (iterate 3 refine aA V Z Z ?_); refine aF (aS ?_))
  refine aU V Z (by repeat constructor) fun w hs => ?_
  exact ⟨rfl, hs.chg0⟩
theorem snowE_ca (w : World) (lo hi lo2 hi2 : Nat) (a : Option Addr) (cp : Nat) (v : Value) (s : List Lp) (c : List Int) (depth : Int) (h : RdL w lo hi (.slice a s.length cp) s) (hlen : s.length ≤ 1000000) (hv : RdI w lo2 hi2 v c) (hlc : c.length ≤ 1000000) :
  Ca Tryz.prog 32 [.slice a s.length cp, v, .int .i64 depth] w fun x w' => x = .tuple #[.int .i64 (gN s c depth).1, .int .i64 (gN s c depth).2] ∧ Chg [] w w' := by
 refine cS (Sat.nil w M0) Tryz.func32 rfl (by simp [Tryz.ntmps32]) ?_
 (refine aD (aB (aA V Z Z (aA V Z Z (aF (aD (aB (aA V Z Z (aA V Z Z ?_)))))))))
 refine aK (val := .int .i64 (measV s c)) V rfl rfl rfl rfl (fun w hs => ?_) ?_; exact meas_ca w lo hi lo2 hi2 a cp v s c (RdE.keep h hs.chg0) hlen (hv.keep hs.chg0) hlc
 (refine aA V Z Z (aF (aD (aQ (aD (aB ?_))))); (iterate 3 refine aA V Z Z ?_); refine aF ?_)
 by_cases h1 : measV s c = 0
 ·rw [h1]
  (refine aH Z (aD (aB (aA V Z Z ?_))))
  refine aK (val := .bool (wiB depth 1 200)) V rfl rfl rfl rfl (fun w hs => ?_) ?_; exact cH depth 1 200 w
  (refine aA V Z Z (aA V Z Z (aF ?_)))
  by_cases h2 : wiB depth 1 200 = true
  ·have e : gN s c depth = (snowV s c depth, 0) := by unfold gN; rw [if_neg (by omega), if_neg (by simp [h2])]
   rw [h2, e]
   (refine aH Z (aM (bJ (aD (aB ?_)))); (iterate 3 refine aA V Z Z ?_))
   refine aK (val := .int .i64 (snowV s c depth)) V rfl rfl rfl rfl (fun w hs => ?_) ?_; exact snow_ca w lo hi lo2 hi2 a cp v s c depth (RdE.keep h hs.chg0) (meas_iff.1 h1).1 (hv.keep hs.chg0) hlc (cD.1 h2)
   (refine aA V Z Z (aA V Z Z (aF (aS ?_))))
   refine aU V Z (by repeat constructor) fun w hs => ?_
   exact ⟨rfl, hs.chg0⟩
  ·have e : gN s c depth = (0, 3) := by unfold gN; rw [if_neg (by omega), if_pos (Bool.eq_false_iff.2 h2)]
   rw [Bool.eq_false_iff.2 h2, e]
   (refine aL Z (aD (aB (aA V Z Z (aA V Z Z (aF (aS ?_)))))))
   refine aU V Z (by repeat constructor) fun w hs => ?_
   exact ⟨rfl, hs.chg0⟩
 ·have e : gN s c depth = (0, measV s c) := by unfold gN; rw [if_pos h1]
  rw [e, decide_eq_false h1]
  generalize measV s c = z at *
  (refine aL Z (aD (aB ?_)); (iterate 3 refine aA V Z Z ?_); refine aF (aS ?_))
  refine aU V Z (by repeat constructor) fun w hs => ?_
  exact ⟨rfl, hs.chg0⟩
end Go.Proofs.YtgeajgmefokifaaGreat

/- The engine, part B26: arrays of Bools compared. -/
namespace Go.Eng
open Go Go.RowKit

section
variable {P : Program}
def eqBL : List Bool → List Bool → Bool
 | a :: l, b :: m => (a == b) && eqBL l m
 | _, _ => true
def arrQB (P : Program) (t n e : Nat) : Bool :=
 !(P.eqGuardType P.depth t) && oneB P e && Nat.beq (P.cellsOf e) 1 && (P.info? e).isSome && (match P.underlying t with | some (.array n' e') => Nat.beq n' n && Nat.beq e' e | _ => false) && (match P.underlying e with | some .bool => true | _ => false)
theorem eqItems_bool {e : Nat} (he : P.underlying e = some .bool) (h1 : oneB P e = true) (d : Nat) (w : World) (xs ys : Array Value) : ∀ (l m : List Bool) (k : Nat), l.length = m.length → (∀ i (h : i < l.length), xs[k + i]? = some (.bool l[i])) → (∀ i (h : i < m.length), ys[k + i]? = some (.bool m[i])) →
  (Go.Op.eqItems (d + 1) e 1 xs ys (List.range' k l.length)).run P w = .ok (eqBL l m) w
 | [], [], _, _, _, _ => by simp [Go.Op.eqItems, eqBL]
 | a :: l, b :: m, k, h, hx, hy => by
  have ih := eqItems_bool he h1 d w xs ys l m (k + 1) (by simpa using h) (fun i hi => by have := hx (i + 1) (by simpa using hi); rw [show k + 1 + i = k + (i + 1) by omega]; simpa using this) (fun i hi => by have := hy (i + 1) (by simpa using hi); rw [show k + 1 + i = k + (i + 1) by omega]; simpa using this)
  have h0 := hx 0 (by simp)
  have g0 := hy 0 (by simp)
  simp only [Nat.add_zero, List.getElem_cons_zero] at h0 g0
  rw [List.length_cons, List.range'_succ]
  have p1 := mD (P := P) (o := k * 1) h1 (by rw [Nat.mul_one]; exact h0) w
  have p2 := mD (P := P) (o := k * 1) h1 (by rw [Nat.mul_one]; exact g0) w
  simp only [Go.Op.eqItems, Sem.run_bind, p1, p2, Result.andThen_ok, run_equalIn_bool' w d e a b he, eqBL]
  cases hab : (a == b)
  ·simp
  ·simpa using ih
theorem run_eqArr {t n e : Nat} (h : arrQB P t n e = true) {l m : List Bool} (hl : l.length = n) (hm : m.length = n) (d : Nat) (w : World) : (Go.Op.equalIn (d + 2) t (.agg (l.map Value.bool).toArray) (.agg (m.map Value.bool).toArray)).run P w = .ok (eqBL l m) w := by
 simp only [arrQB, Bool.and_eq_true, Bool.not_eq_true'] at h
 obtain ⟨⟨⟨⟨⟨h1, h2⟩, h3⟩, h4⟩, h5⟩, h6⟩ := h
 split at h5
 ·rename_i n' e' hu
  simp only [Bool.and_eq_true] at h5
  have hn := Nat.eq_of_beq_eq_true h5.1
  have he := Nat.eq_of_beq_eq_true h5.2
  subst hn
  subst he
  split at h6
  ·rename_i hb
   obtain ⟨i, hi⟩ := Option.isSome_iff_exists.1 h4
   rw [run_equalIn_array w (d + 1) _ _ hu hi, Nat.eq_of_beq_eq_true h3, List.range_eq_range', ← hl]
   exact eqItems_bool hb h2 d w _ _ l m 0 (by omega) (fun i hi => by simp [hi]) (fun i hi => by simp [hi])
  ·cases h6
 ·cases h5
variable {ro : Cx} {n : Nat} {F : Fin} {w0 : World} {M : Nat → Prop} {k : List It} {ops : Array Oper} {rest : List Oper} {e : Env} {H Hq : List Ck}
theorem exec_eqArr {a : Act} {d t t' q et : Nat} {x y : Operand} {l m : List Bool} {ty : TypeId} {pos : String} {af : Array Edge} (hf : Fits n e a) (hx : opv e x = some (.agg (l.map Value.bool).toArray)) (hy : opv e y = some (.agg (m.map Value.bool).toArray)) (hA : arrQB P t q et = true) (h1 : l.length = q) (h2 : m.length = q) (w : World) :
  (execOp a.eval ⟨some d, .binOp .eql t x y t', ty, pos, af, none⟩).run P w = .ok (.value (.bool (eqBL l m))) w := by
 have e1 := hf.op hx
 have e2 := hf.op hy
 have h3 := run_eqArr hA h1 h2 9998 w
 have hg : P.eqGuardType P.depth t = false := by
  simp only [arrQB, Bool.and_eq_true, Bool.not_eq_true'] at hA
  exact hA.1.1.1.1.1
 simp [execOp, e1, e2, run_eqGuard_agg, hg, run_eql_struct, h3]
theorem ql_eqA {d t t' q et : Nat} {x y : Operand} {l m : List Bool} {ty : TypeId} {pos : String} {af : Array Edge} (hA : arrQB P t q et = true) (hx : opv e x = some (.agg (l.map Value.bool).toArray)) (hy : opv e y = some (.agg (m.map Value.bool).toArray)) (h1 : l.length = q) (h2 : m.length = q) (hd : Nat.blt d n = true)
  (h : QL P ro n F w0 M k ops rest ((d, .bool (eqBL l m)) :: e) H) : QL P ro n F w0 M k ops (⟨some d, .binOp .eql t x y t', ty, pos, af, none⟩ :: rest) e H := .mk fun w hw =>
 eL (by simp) hd (fun _ hf => exec_eqArr hf hx hy hA h1 h2 w) (h.h w hw)
theorem qf_eqA {d t t' q et : Nat} {x y : Operand} {l m : List Bool} {ty : TypeId} {pos : String} {af : Array Edge} (hA : arrQB P t q et = true) (hx : opv e x = some (.agg (l.map Value.bool).toArray)) (hy : opv e y = some (.agg (m.map Value.bool).toArray)) (h1 : l.length = q) (h2 : m.length = q) (hd : Nat.blt d n = true)
  (h : QF P ro n F w0 M k ops Hq rest ((d, .bool (eqBL l m)) :: e) H) : QF P ro n F w0 M k ops Hq (⟨some d, .binOp .eql t x y t', ty, pos, af, none⟩ :: rest) e H := .mk fun w hw =>
 fI rfl hd (fun _ hf w' _ => exec_eqArr hf hx hy hA h1 h2 w') (h.h w hw)
theorem qf_eqnil {T : Tab} (hT : T.Ok P) {d t t' : Nat} {x y : Operand} {a : Option Addr} {m c m' c' : Nat} {ty : TypeId} {pos : String} {af : Array Edge} (h : has T.len t = true)
  (hx : opv e x = some (.slice a m c)) (hy : opv e y = some (.slice none m' c')) (hd : Nat.blt d n = true)
  (hk : QF P ro n F w0 M k ops Hq rest ((d, .bool a.isNone) :: e) H) : QF P ro n F w0 M k ops Hq (⟨some d, .binOp .eql t x y t', ty, pos, af, none⟩ :: rest) e H := .mk fun w hw =>
 fI rfl hd (fun _ hf w' _ => by
  obtain ⟨el, hu⟩ := len_slice hT h
  simp only [execOp, hf.op hx, hf.op hy]
  simp [eqGuard_at_slice, Lib.run_eql_slice_nil w' t el a m c m' c' hu]) (hk.h w hw)
/-- A struct stored into a part of a block; cs' is what the block holds then. -/
theorem ql_stA {T : Tab} (cs' : List Value) (hT : T.Ok P) {t m : Nat} {x y : Operand} {b off : Nat} {cs us : List Value} {bt : TypeId} {H' : List Ck} {ty : TypeId} {pos : String} {af : Array Edge}
  (hx : opv e x = some (.pointer (some ⟨b, off, none⟩))) (hy : opv e y = some (.agg us.toArray)) (h1 : eV T.agg t = some m) (hm : us.length = m) (h1v : (us.all cU) = true) (hr : Rp H (.pt b cs bt) (.pt b cs' bt) H') (he : setL cs off us = cs') (hl : Nat.ble (off + m) cs.length = true)
  (h : QL P ro n F w0 M k ops rest e H') : QL P ro n F w0 M k ops (⟨none, .store t x y, ty, pos, af, none⟩ :: rest) e H := by
 subst he
 exact ql_storeA hT hx hy h1 hm (List.all_eq_true.1 h1v) hr (Nat.le_of_ble_eq_true hl) h
end
end Go.Eng

/- Walks: all right courses. -/
/- spr -/
namespace Go.Proofs.YtgeajgmefokifaaGreat
open Go Go.Eng

theorem flat_le {α β : Type} (f : α → List β) (B : Nat) : ∀ (l : List α), (∀ x ∈ l, (f x).length ≤ B) → (l.flatMap f).length ≤ l.length * B
 | [], _ => by simp
 | x :: l, h => by
  have h1 := flat_le f B l (fun y hy => h y (List.mem_cons_of_mem _ hy))
  have h2 := h x List.mem_cons_self
  rw [List.flatMap_cons, List.length_append, List.length_cons, Nat.succ_mul]
  omega
theorem sortL_le (n : Nat) (hn : n ≤ 12) : ∀ k least, (sortL n k least).length ≤ 12 ^ k
 | 0, _ => by simp [sortL]
 | k + 1, least => by
  have h := flat_le (fun (i : Nat) => (sortL n k i).map ((i : Int) :: ·)) (12 ^ k) (List.range' least (n - least)) (fun x _ => by simpa using sortL_le n hn k x)
  have h2 : (List.range' least (n - least)).length * 12 ^ k ≤ 12 * 12 ^ k := Nat.mul_le_mul_right _ (by simp; omega)
  rw [Nat.pow_succ, Nat.mul_comm]
  exact Nat.le_trans h h2
theorem iG (n laps : Nat) (hn : n ≤ 12) (hl : laps ≤ 6) : (coursesL n laps).length ≤ 2985984 :=
 Nat.le_trans (sortL_le n hn laps 0) (Nat.pow_le_pow_right (by omega) hl)
theorem pre_le {α : Type} {xs pre post : List α} {x : α} (h : xs = pre ++ x :: post) (p : α → Bool) : (pre.filter p).length < xs.length := by
 have h1 := List.length_filter_le p pre
 rw [h, List.length_append, List.length_cons]
 omega
theorem slII : SlT Tryz.prog 53 22 1 24 (.slice none 0 0) := ⟨by kernel_rfl, by kernel_rfl, by kernel_rfl, by decide⟩
theorem mk_eq : arrQB Tryz.prog 151 5 4 = true := by kernel_rfl
theorem rightB_eq (s : List Lp) (r : Rl) (c : List Int) : eqBL (jB s r c) [false, false, false, false, false] = dZ s r c := by
 unfold dZ jB
 simp only [eqBL, List.all_cons, List.all_nil, Bool.and_true]
 generalize wiB (lenS s c) r.g0 r.g1 = b1
 generalize wiB (clbS s c) r.c0 r.c1 = b2
 generalize lapB s r c = b3
 generalize widB s r c = b4
 generalize oftB r c = b5
 cases b1 <;> cases b2 <;> cases b3 <;> cases b4 <;> cases b5 <;> rfl
theorem memC {n laps : Nat} {pre post : List (List Int)} {c : List Int} (h : coursesL n laps = pre ++ c :: post) : c.length = laps ∧ (∀ x ∈ c, 0 ≤ x ∧ x < n) ∧ srtB c = true := eU.1 (by rw [h]; simp)
/-- A list of lists of our own. -/
abbrev lsK (v : Value) (xs : List (Value × List Int)) : List Ck := [.ow v 22 1 xs.length (xs.map (·.1)), un (gC 3 xs)]
theorem rows_add {w0 w : World} {M : Nat → Prop} {v : Value} {xs : List (Value × List Int)} {R : List Ck} {u : Value} {c : List Int} (h : Sat w0 M (.ow v 22 1 (xs.length + 1) (xs.map (·.1) ++ [u]) :: .ow u 3 1 c.length (aP c) :: un (gC 3 xs) :: R) w) : Sat w0 M (lsK v (xs ++ [(u, c)]) ++ R) w := by
 have h1 : Sat w0 M (.ow u 3 1 c.length (aP c) :: un (gC 3 xs) :: .ow v 22 1 (xs.length + 1) (xs.map (·.1) ++ [u]) :: R) w := h.sp (by repeat first | constructor | exact Sp.refl _)
 have h2 := h1.un_in.un_perm (L' := gC 3 (xs ++ [(u, c)])) (by unfold gC; rw [List.map_append]; exact (List.perm_append_comm (l₁ := [_])))
 have h3 : Sat w0 M (.ow v 22 1 (xs.length + 1) (xs.map (·.1) ++ [u]) :: un (gC 3 (xs ++ [(u, c)])) :: R) w := h2.sp (by repeat first | constructor | exact Sp.refl _)
 simpa [lsK] using h3

set_option maxHeartbeats 4000000 in
theorem all_main (w : World) (lo hi : Nat) (a : Option Addr) (cp : Nat) (s : List Lp) (r : Rl) (h : RdL w lo hi (.slice a s.length cp) s) (hcr : CR s r) :
  Ca Tryz.prog 16 [.slice a s.length cp, .agg (rlC r).toArray] w fun x w' => ∃ y : Value × List (Value × List Int), (((x = .tuple #[y.1, .int .i64 0] ∧ (jY s r).length ≤ 300) ∨ (x = .tuple #[.slice none 0 0, .int .i64 10] ∧ 300 < (jY s r).length)) ∧ y.2.map (·.2) = jY s r) ∧ Sat w M0 (lsK y.1 y.2) w' := by
 have hn2 := hcr.s.n2
 have hla := hcr.r.laps
 refine q_ofM (Sat.nil w M0) Tryz.func16 rfl (by simp [Tryz.ntmps16]) ?_
 (refine aD (aB ?_))
 refine bD Z Z (fun b3 => ?_)
 (refine aA V Z Z (aA V Z Z (aF (aD (aD (aB (aA V Z Z ?_)))))); refine aJ V Z Z Z ?_)
 refine aK (val := .int .i64 0) V rfl rfl rfl rfl (fun w hs => ?_) ?_; exact by have := dH w lo hi _ s r (RdE.keep h hs.chg0) (by omega); rw [cA.2 hcr] at this; exact this
 (refine aA V Z Z (aF (aD (aB (aA V Z Z (aW V Z Z Z (by omega) (aF (aH Z (aM (aD (aB ?_)))))))))); refine aJ V Z Z Z ?_; refine aA V Z Z ?_)
 refine dJ #[.int .i64 r.laps, .int .i64 r.g0, .int .i64 r.g1, .int .i64 r.c0, .int .i64 r.c1, .int .i64 r.p0, .int .i64 r.p1, .int .i64 r.wide, .int .i64 r.uses, .slice a s.length cp] rfl (by kernel_rfl) rfl ?_
 skip
 refine bI zero146 rfl (fun b7 => ?_)
 (refine bS V Z Z Z Z Z (by repeat constructor) rfl ?_; refine aF (aD (aB ?_)))
 refine bI zero53 rfl (fun b8 => ?_)
 (refine aF (aD (aD (aB ?_))); refine aJ V Z Z Z ?_)
 refine bG (β := Nat) V [] _ M0 rfl rfl rfl rfl (Sp.refl _) (fun _ h => h.elim) (fun w' hs => jT w' a s.length cp r) ?_
 rintro bb _ rfl
 (refine aF (aQ ?_))
 refine eD (H' := [.pt b8 [.slice none 0 0] 53, .ow (.slice none 0 0) 22 1 ([] : List (Value × List Int)).length (([] : List (Value × List Int)).map (·.1)), un (gC 3 []), .pt bb (dkC r a s.length cp) 146, .pt b7 (dkC r a s.length cp) 146])
  (fun w' hs => (Sat.un_nil (Sat.ownil hs 22 1)).sp (by repeat first | constructor | exact Sp.refl _)) ?_
 refine q_rangeP (α := Value × List Int) (fun x => [x.1]) (·.2) cK (Value × List (Value × List Int)) (coursesL s.length (nL r)) (fun pre st => st.2.map (·.2) = pre.filter (dZ s r)) (fun _ _ => False)
  (fun st => .pt b8 [st.1] 53 :: lsK st.1 st.2) [.pt bb (dkC r a s.length cp) 146, .pt b7 (dkC r a s.length cp) 146] (.slice none 0 0, [])
  rfl (by kernel_rfl) rfl (fun _ => rfl) rfl (by repeat first | constructor | exact Sp.refl _) ?_ ?_ ?_ (fun _ _ _ h => h.elim)
 ·intro w1 D hs hD
  exact jV w1 D bb a s.length cp r hla hn2 (hs.blk (by repeat constructor)) (fun h => (hD _ h).1 ⟨.pt bb (dkC r a s.length cp) _, (by repeat constructor), rfl⟩)
 ·rintro pre ⟨u, c⟩ post ⟨v, xs⟩ w1 l rdy bsy K F' hxx hI hsat hR hbegin hend hret hexit
  simp only at hI hxx
  dsimp only
  obtain ⟨m1, m2, m3⟩ := memC hxx
  have hlm : c.length ≤ 6 := by unfold nL at m1; omega
  have hpl := pre_le hxx (dZ s r)
  have hcl := iG s.length (nL r) hn2 (by unfold nL; omega)
  have hxl : xs.length = (pre.filter (dZ s r)).length := by rw [← hI]; simp
  dsimp only [lsK, cK, List.cons_append, List.nil_append] at hsat hR hbegin hend ⊢
  obtain ⟨ua, uc, rfl⟩ := hsat.slice2 (v := u) (by repeat constructor)
  obtain ⟨va, vn, vc, rfl⟩ := hsat.slice (v := v) (by repeat constructor)
  have hd : ∀ w', ChgP _ w1 w' → Blk w' b7 (dkC r a s.length cp) 146 := fun w' hc => (hR w' hc).blk (by repeat constructor)
  (refine aB (aA V Z Z (aF ?_)))
  refine hbegin _ _ ?_
  (refine aQ (aD (aB ?_)); refine ql_loadGA V Z Z Z (by assumption) (by rfl) (by rfl) ?_; refine aA V Z Z ?_)
  refine aK (val := mkA s r c) V rfl rfl rfl rfl (fun w hs => ?_) ?_; exact jJ w lo hi 0 w.heap.size a cp _ s r c (RdE.keep h (hR w hs.chg).chg0) hcr (hs.rdI (v := .slice ua c.length uc) (l := c) (by repeat constructor) rfl) m2 hlm
  skip
  refine dJ #[.bool false, .bool false, .bool false, .bool false, .bool false] rfl (by kernel_rfl) rfl ?_
  refine ql_eqA (l := jB s r c) (m := [false, false, false, false, false]) mk_eq rfl rfl rfl rfl rfl ?_
  rw [rightB_eq]
  (refine aF ?_)
  cases hb : dZ s r c
  ·(refine aH Z (aM (bJ ?_)))
   exact hend _ _ (.slice va vn vc, xs) (by simp only; rw [hI, List.filter_append]; simp [hb]) (by repeat first | constructor | exact Sp.refl _)
  ·(refine aL Z (aB ?_); refine aI V Z Z Z ?_; refine aA V Z Z ?_)
   refine cJ 22 [.slice ua c.length uc] rfl (by kernel_rfl) rfl (fun bn => ?_)
   refine bZ (q := 1) slII rfl rfl rfl (fun v' => by repeat constructor) (fun w' hs => ⟨_, _, Blk.rd (hs.blk (b := bn) (by repeat constructor)) rfl 1⟩) (by simp [cU]) (by omega) (by omega) (fun v2 => ?_)
   refine bL (fun w hs => hs.slice (v := v2) (by repeat constructor)) ?_
   rintro ⟨a2, n2, c2, rfl⟩
   (refine iV V Z Z Z Z (by repeat constructor) ?_; refine aF (bJ ?_))
   refine eD (H' := bsy :: .pt b8 [.slice a2 n2 c2] 53 :: lsK (.slice a2 n2 c2) (xs ++ [(.slice ua c.length uc, c)])) (fun w' hs => by
    have h1 : Sat _ _ (lsK (.slice a2 n2 c2) (xs ++ [(.slice ua c.length uc, c)]) ++ [bsy, .pt b8 [.slice a2 n2 c2] 53]) w' := rows_add (hs.sp (by repeat first | constructor | exact Sp.refl _))
    exact h1.sp (by repeat first | constructor | exact Sp.refl _)) ?_
   exact hend _ _ (.slice a2 n2 c2, xs ++ [(.slice ua c.length uc, c)]) (by simp only; rw [List.map_append, hI, List.filter_append]; simp [hb]) (by repeat first | constructor | exact Sp.refl _)
 ·rintro D ⟨v, xs⟩ hI
  simp only at hI
  change xs.map (·.2) = jY s r at hI
  have hl : xs.length = (jY s r).length := by rw [← hI]; simp
  dsimp only [lsK, cK, List.cons_append, List.nil_append]
  (refine bJ (aD (aD (aB ?_))); refine aI V Z Z Z ?_)
  refine bL (fun w hs => hs.slice2 (v := v) (by repeat constructor)) ?_
  rintro ⟨va, vc, rfl⟩
  (refine aA V Z Z (aA V Z Z (aF ?_)))
  refine dL Z (fun hc => ?_) (fun hc => ?_)
  ·have h3 : 300 < xs.length := by first | omega | (simp at hc; omega)
   (refine aD (aB (aA V Z Z (aA V Z Z (aF (aS ?_))))))
   refine jR V (by repeat constructor) rfl (by repeat constructor) fun w hs => ?_
   exact ⟨(_, xs), ⟨.inr ⟨rfl, by omega⟩, hI⟩, hs.sp (by repeat first | constructor | exact Sp.refl _)⟩
  ·have h3 : ¬ 300 < xs.length := by first | omega | (simp at hc; omega)
   (refine aM (aD (aB ?_)); refine aI V Z Z Z ?_; refine aA V Z Z (aA V Z Z (aF (aS ?_))))
   refine jR V (by repeat constructor) rfl (by repeat constructor) fun w hs => ?_
   exact ⟨(_, xs), ⟨.inl ⟨rfl, by omega⟩, hI⟩, hs.sp (by repeat first | constructor | exact Sp.refl _)⟩
theorem all_ok (w : World) (lo hi : Nat) (a : Option Addr) (cp : Nat) (s : List Lp) (r : Rl) (h : RdL w lo hi (.slice a s.length cp) s) (hcr : CR s r) (h300 : (jY s r).length ≤ 300) :
  Ca Tryz.prog 16 [.slice a s.length cp, .agg (rlC r).toArray] w fun x w' => ∃ y : Value × List (Value × List Int), (x = .tuple #[y.1, .int .i64 0] ∧ y.2.map (·.2) = jY s r) ∧ Sat w M0 (lsK y.1 y.2) w' :=
 (all_main w lo hi a cp s r h hcr).mono fun v w' ⟨y, ⟨h1, h2⟩, h3⟩ => by
  rcases h1 with ⟨h1, _⟩ | ⟨_, h1⟩
  ·exact ⟨y, ⟨h1, h2⟩, h3⟩
  ·omega
theorem all_no (w : World) (lo hi : Nat) (a : Option Addr) (cp : Nat) (s : List Lp) (r : Rl) (h : RdL w lo hi (.slice a s.length cp) s) (hlen : s.length ≤ 1000000) (e : (allV s r).2 ≠ 0) :
  Ca Tryz.prog 16 [.slice a s.length cp, .agg (rlC r).toArray] w fun x w' => x = .tuple #[.slice none 0 0, .int .i64 (allV s r).2] ∧ Chg [] w w' := by
 by_cases h0 : checkS s r = 0
 ·have hcr := cA.1 h0
  by_cases h3 : 300 < (jY s r).length
  ·have ev : (allV s r).2 = 10 := by unfold allV; rw [if_neg (by omega), if_pos h3]
   rw [ev]
   exact (all_main w lo hi a cp s r h hcr).mono fun v w' ⟨y, ⟨h1, h2⟩, h4⟩ => by
    rcases h1 with ⟨_, h1⟩ | ⟨h1, _⟩
    ·omega
    ·exact ⟨h1, h4.chg0⟩
  ·exact absurd (by unfold allV; rw [if_neg (by omega), if_neg h3]) e
 ·have ev : (allV s r).2 = checkS s r := by unfold allV; rw [if_pos h0]
  rw [ev]
  refine cS (Sat.nil w M0) Tryz.func16 rfl (by simp [Tryz.ntmps16]) ?_
  (refine aD (aB ?_))
  refine bD Z Z (fun b3 => ?_)
  (refine aA V Z Z (aA V Z Z (aF (aD (aD (aB (aA V Z Z ?_)))))); refine aJ V Z Z Z ?_)
  refine aK (val := .int .i64 (checkS s r)) V rfl rfl rfl rfl (fun w hs => ?_) ?_; exact dH w lo hi _ s r (RdE.keep h hs.chg0) hlen
  generalize checkS s r = z at *
  (refine aA V Z Z (aF (aD (aB (aA V Z Z (bW V Z Z Z (by omega) (aF (aL Z (aD (aB ?_))))))))); (iterate 3 refine aA V Z Z ?_); refine aF (aS ?_))
  refine aU V Z (by repeat constructor) fun w hs => ?_
  exact ⟨rfl, hs.chg0⟩
end Go.Proofs.YtgeajgmefokifaaGreat

/- Walks: the right courses that a volume covers. -/
namespace Go.Proofs.YtgeajgmefokifaaGreat
open Go Go.Eng

def covP (s : List Lp) (r : Rl) (depth volume : Int) (c : List Int) : Bool := dZ s r c && (decide (snowV s c depth ≤ volume) && true)
set_option maxHeartbeats 4000000 in
theorem cov_main (w : World) (lo hi : Nat) (a : Option Addr) (cp : Nat) (s : List Lp) (r : Rl) (depth volume : Int) (h : RdL w lo hi (.slice a s.length cp) s) (hcr : CR s r) (hdp : 1 ≤ depth ∧ depth ≤ 200) (hvo : 0 ≤ volume ∧ volume ≤ 10000000) :
  Ca Tryz.prog 34 [.slice a s.length cp, .agg (rlC r).toArray, .int .i64 depth, .int .i64 volume] w fun x w' => ∃ y : Value × List (Value × List Int), (((x = .tuple #[y.1, .int .i64 0] ∧ (covL s r depth volume).length ≤ 300) ∨ (x = .tuple #[.slice none 0 0, .int .i64 10] ∧ 300 < (covL s r depth volume).length)) ∧ y.2.map (·.2) = covL s r depth volume) ∧ Sat w M0 (lsK y.1 y.2) w' := by
 have hn2 := hcr.s.n2
 have hla := hcr.r.laps
 refine q_ofM (Sat.nil w M0) Tryz.func34 rfl (by simp [Tryz.ntmps34]) ?_
 (refine aD (aB ?_))
 refine bD Z Z (fun b4 => ?_)
 refine bD Z Z (fun b5 => ?_)
 refine bD Z Z (fun b6 => ?_)
 refine bD Z Z (fun b7 => ?_)
 (refine aA V Z Z (aA V Z Z (aF (aD (aB (aI V Z Z Z (aJ V Z Z Z ?_)))))))
 refine aK (val := .int .i64 0) V rfl rfl rfl rfl (fun w hs => ?_) ?_; exact by have := dH w lo hi _ s r (RdE.keep h hs.chg0) (by omega); rw [cA.2 hcr] at this; exact this
 (refine aA V Z Z (aF (aD (aQ (aD (aB (aA V Z Z (aW V Z Z Z (by omega) (aA V Z Z (aF (aH Z (aD ?_))))))))))); refine aB (aI V Z Z Z ?_))
 refine aK (val := .bool true) V rfl rfl rfl rfl (fun w hs => ?_) ?_; exact by have := cH depth 1 200 w; rw [cD.2 hdp] at this; exact this
 (refine aA V Z Z (aA V Z Z (aE Z (aI V Z Z Z (aE Z ?_)))))
 refine aK (val := .bool true) V rfl rfl rfl rfl (fun w hs => ?_) ?_; exact by have := cH volume 0 10000000 w; rw [cD.2 hvo] at this; exact this
 (refine aE Z ?_; (iterate 3 refine aA V Z Z ?_); refine aF (aH Z (aM (bJ (aD (aB (aJ V Z Z Z (aI V Z Z Z ?_))))))))
 refine dJ #[.int .i64 r.laps, .int .i64 r.g0, .int .i64 r.g1, .int .i64 r.c0, .int .i64 r.c1, .int .i64 r.p0, .int .i64 r.p1, .int .i64 r.wide, .int .i64 r.uses, .slice a s.length cp] rfl (by kernel_rfl) rfl ?_
 skip
 refine bI zero146 rfl (fun b11 => ?_)
 (refine bS V Z Z Z Z Z (by repeat constructor) rfl ?_; refine aF (aD (aB ?_)))
 refine bI zero53 rfl (fun b12 => ?_)
 (refine aF (aD (aD (aB (aJ V Z Z Z ?_)))))
 refine bG (β := Nat) V [] _ M0 rfl rfl rfl rfl (Sp.refl _) (fun _ h => h.elim) (fun w' hs => jT w' a s.length cp r) ?_
 rintro bb _ rfl
 (refine aF (aQ ?_))
 refine eD (H' := [.pt b12 [.slice none 0 0] 53, .ow (.slice none 0 0) 22 1 ([] : List (Value × List Int)).length (([] : List (Value × List Int)).map (·.1)), un (gC 3 []), .pt bb (dkC r a s.length cp) 146, .pt b11 (dkC r a s.length cp) 146, .pt b7 [.int .i64 volume] 3, .pt b6 [.int .i64 depth] 3, .pt b4 [.slice a s.length cp] 23])
  (fun w' hs => (Sat.un_nil (Sat.ownil hs 22 1)).sp (by repeat constructor)) ?_
 refine q_rangeP (α := Value × List Int) (fun x => [x.1]) (·.2) cK (Value × List (Value × List Int)) (coursesL s.length (nL r)) (fun pre st => st.2.map (·.2) = pre.filter (covP s r depth volume)) (fun _ _ => False)
  (fun st => .pt b12 [st.1] 53 :: lsK st.1 st.2) [.pt bb (dkC r a s.length cp) 146, .pt b11 (dkC r a s.length cp) 146, .pt b7 [.int .i64 volume] 3, .pt b6 [.int .i64 depth] 3, .pt b4 [.slice a s.length cp] 23] (.slice none 0 0, [])
  rfl (by kernel_rfl) rfl (fun _ => rfl) rfl (by repeat constructor) ?_ ?_ ?_ (fun _ _ _ h => h.elim)
 ·intro w1 D hs hD
  exact jV w1 D bb a s.length cp r hla hn2 (hs.blk (by repeat constructor)) (fun h => (hD _ h).1 ⟨.pt bb (dkC r a s.length cp) _, (by repeat constructor), rfl⟩)
 ·rintro pre ⟨u, c⟩ post ⟨v, xs⟩ w1 l rdy bsy K F' hxx hI hsat hR hbegin hend hret hexit
  simp only at hI hxx
  dsimp only
  obtain ⟨m1, m2, m3⟩ := memC hxx
  have hlm : c.length ≤ 6 := by unfold nL at m1; omega
  have hpl := pre_le hxx (covP s r depth volume)
  have hcl := iG s.length (nL r) hn2 (by unfold nL; omega)
  have hxl : xs.length = (pre.filter (covP s r depth volume)).length := by rw [← hI]; simp
  dsimp only [lsK, cK, List.cons_append, List.nil_append] at hsat hR hbegin hend ⊢
  obtain ⟨ua, uc, rfl⟩ := hsat.slice2 (v := u) (by repeat constructor)
  obtain ⟨va, vn, vc, rfl⟩ := hsat.slice (v := v) (by repeat constructor)
  have hd : ∀ w', ChgP _ w1 w' → Blk w' b11 (dkC r a s.length cp) 146 := fun w' hc => (hR w' hc).blk (by repeat constructor)
  have hd7 : ∀ w', ChgP _ w1 w' → Blk w' b7 [.int .i64 volume] 3 := fun w' hc => (hR w' hc).blk (by repeat constructor)
  have hd6 : ∀ w', ChgP _ w1 w' → Blk w' b6 [.int .i64 depth] 3 := fun w' hc => (hR w' hc).blk (by repeat constructor)
  have hd4 : ∀ w', ChgP _ w1 w' → Blk w' b4 [.slice a s.length cp] 23 := fun w' hc => (hR w' hc).blk (by repeat constructor)
  (refine aB (aA V Z Z (aF ?_)))
  refine hbegin _ _ ?_
  (refine aQ (aD ?_))
  refine cQ _ [] (Sp.refl _) (by kernel_rfl) (by kernel_rfl) ?_
  (refine qf_loadGA V Z Z Z (by assumption) (by rfl) (by rfl) ?_; refine aG V Z Z Z ?_)
  refine bT (val := mkA s r c) V rfl rfl rfl rfl (fun w hs => ?_) ?_; exact jJ w lo hi 0 w.heap.size a cp _ s r c (RdE.keep h (hR w hs.chg).chg0) hcr (hs.rdI (v := .slice ua c.length uc) (l := c) (by repeat constructor) rfl) m2 hlm
  skip
  refine qf_mk #[.bool false, .bool false, .bool false, .bool false, .bool false] rfl (by kernel_rfl) rfl ?_
  refine qf_eqA (l := jB s r c) (m := [false, false, false, false, false]) mk_eq rfl rfl rfl rfl rfl ?_
  rw [rightB_eq]
  (refine aG V Z Z Z ?_)
  have hno : covP s r depth volume c = false → xs.map (·.2) = (pre ++ [c]).filter (covP s r depth volume) := fun hh => by rw [hI, List.filter_append]; simp [hh]
  have hyes : covP s r depth volume c = true → xs.map (·.2) ++ [c] = (pre ++ [c]).filter (covP s r depth volume) := fun hh => by rw [hI, List.filter_append]; simp [hh]
  cases hb : dZ s r c
  ·((iterate 6 refine hG Z Z Z ?_); refine aG V Z Z Z (aO (aH Z (aM (bJ ?_)))))
   exact hend _ _ (.slice va vn vc, xs) (hno (by simp [covP, hb])) (by repeat constructor)
  ·(refine aX Z ?_; refine gF V Z Z Z (by assumption) (by rfl) ?_; refine aX Z (aG V Z Z Z (aX Z ?_)); refine gF V Z Z Z (by assumption) (by rfl) ?_; refine aX Z ?_)
   refine bT (val := .int .i64 (snowV s c depth)) V rfl rfl rfl rfl (fun w hs => ?_) ?_; exact snow_ca w lo hi 0 w.heap.size a cp _ s c depth (RdE.keep h (hR w hs.chg).chg0) hcr.s (hs.rdI (v := .slice ua c.length uc) (l := c) (by repeat constructor) rfl) (by omega) hdp
   (refine aX Z ?_; refine gF V Z Z Z (by assumption) (by rfl) ?_; refine aX Z (aG V Z Z Z (aG V Z Z Z (aO ?_))))
   refine dL Z (fun hc => ?_) (fun hc => ?_)
   ·have hle : snowV s c depth ≤ volume := by first | assumption | (simpa using hc)
    clear hc
    (refine aB (aI V Z Z Z (aA V Z Z ?_)))
    refine cJ 22 [.slice ua c.length uc] rfl (by kernel_rfl) rfl (fun bn => ?_)
    refine bZ (q := 1) slII rfl rfl rfl (fun v' => by repeat constructor) (fun w' hs => ⟨_, _, Blk.rd (hs.blk (b := bn) (by repeat constructor)) rfl 1⟩) (by simp [cU]) (by omega) (by omega) (fun v2 => ?_)
    refine bL (fun w hs => hs.slice (v := v2) (by repeat constructor)) ?_
    rintro ⟨a2, n2, c2, rfl⟩
    (refine iV V Z Z Z Z (by repeat constructor) ?_; refine aF (bJ ?_))
    refine eD (H' := bsy :: .pt b12 [.slice a2 n2 c2] 53 :: lsK (.slice a2 n2 c2) (xs ++ [(.slice ua c.length uc, c)])) (fun w' hs => by
     have h1 : Sat _ _ (lsK (.slice a2 n2 c2) (xs ++ [(.slice ua c.length uc, c)]) ++ [bsy, .pt b12 [.slice a2 n2 c2] 53]) w' := rows_add (hs.sp (by repeat constructor))
     exact h1.sp (by repeat constructor)) ?_
    exact hend _ _ (.slice a2 n2 c2, xs ++ [(.slice ua c.length uc, c)]) (by rw [← hyes (by simp [covP, hb, hle])]; simp) (by repeat constructor)
   ·have hle : ¬ snowV s c depth ≤ volume := by first | assumption | (simpa using hc)
    clear hc
    (refine aM (bJ ?_))
    exact hend _ _ (.slice va vn vc, xs) (hno (by simp [covP, hb, hle])) (by repeat constructor)
 ·rintro D ⟨v, xs⟩ hI
  simp only at hI
  change xs.map (·.2) = covL s r depth volume at hI
  have hl : xs.length = (covL s r depth volume).length := by rw [← hI]; simp
  dsimp only [lsK, cK, List.cons_append, List.nil_append]
  (refine bJ (aD (aD (aB (aI V Z Z Z ?_)))))
  refine bL (fun w hs => hs.slice2 (v := v) (by repeat constructor)) ?_
  rintro ⟨va, vc, rfl⟩
  (refine aA V Z Z (aA V Z Z (aF ?_)))
  refine dL Z (fun hc => ?_) (fun hc => ?_)
  ·have h3 : 300 < xs.length := by first | omega | (simp at hc; omega)
   (refine aD (aB (aA V Z Z (aA V Z Z (aF (aS ?_))))))
   refine jR V (by repeat constructor) rfl (by repeat constructor) fun w hs => ?_
   exact ⟨(_, xs), ⟨.inr ⟨rfl, by omega⟩, hI⟩, hs.sp (by repeat constructor)⟩
  ·have h3 : ¬ 300 < xs.length := by first | omega | (simp at hc; omega)
   (refine aM (aD (aB (aI V Z Z Z (aA V Z Z (aA V Z Z (aF (aS ?_))))))))
   refine jR V (by repeat constructor) rfl (by repeat constructor) fun w hs => ?_
   exact ⟨(_, xs), ⟨.inl ⟨rfl, by omega⟩, hI⟩, hs.sp (by repeat constructor)⟩
theorem cov_ok (w : World) (lo hi : Nat) (a : Option Addr) (cp : Nat) (s : List Lp) (r : Rl) (depth volume : Int) (h : RdL w lo hi (.slice a s.length cp) s) (hlen : s.length ≤ 1000000) (e : (coveredV s r depth volume).2 = 0) :
  Ca Tryz.prog 34 [.slice a s.length cp, .agg (rlC r).toArray, .int .i64 depth, .int .i64 volume] w fun x w' => ∃ y : Value × List (Value × List Int), (x = .tuple #[y.1, .int .i64 0] ∧ y.2.map (·.2) = covL s r depth volume) ∧ Sat w M0 (lsK y.1 y.2) w' := by
 unfold coveredV at e
 split at e
 ·rename_i hh; exact absurd e hh
 rename_i h0
 split at e
 ·cases e
 rename_i h1
 split at e
 ·cases e
 rename_i h2
 have h1' : wiB depth 1 200 = true ∧ wiB volume 0 10000000 = true := by simpa using h1
 exact (cov_main w lo hi a cp s r depth volume h (cA.1 (by omega)) (cD.1 h1'.1) (cD.1 h1'.2)).mono fun v w' ⟨y, ⟨h1, h4⟩, h3⟩ => by
  rcases h1 with ⟨h1, _⟩ | ⟨_, h1⟩
  ·exact ⟨y, ⟨h1, h4⟩, h3⟩
  ·omega
theorem cov_no (w : World) (lo hi : Nat) (a : Option Addr) (cp : Nat) (s : List Lp) (r : Rl) (depth volume : Int) (h : RdL w lo hi (.slice a s.length cp) s) (hlen : s.length ≤ 1000000) (e : (coveredV s r depth volume).2 ≠ 0) :
  Ca Tryz.prog 34 [.slice a s.length cp, .agg (rlC r).toArray, .int .i64 depth, .int .i64 volume] w fun x w' => x = .tuple #[.slice none 0 0, .int .i64 (coveredV s r depth volume).2] ∧ Chg [] w w' := by
 by_cases h0 : checkS s r = 0
 ·by_cases h1 : (wiB depth 1 200 && wiB volume 0 10000000) = true
  ·have h1' : wiB depth 1 200 = true ∧ wiB volume 0 10000000 = true := by simpa using h1
   by_cases h3 : 300 < (covL s r depth volume).length
   ·have ev : (coveredV s r depth volume).2 = 10 := by unfold coveredV; rw [if_neg (by omega), if_neg (by simp [h1]), if_pos h3]
    rw [ev]
    exact (cov_main w lo hi a cp s r depth volume h (cA.1 (by omega)) (cD.1 h1'.1) (cD.1 h1'.2)).mono fun v w' ⟨y, ⟨h1, h2⟩, h4⟩ => by
     rcases h1 with ⟨_, h1⟩ | ⟨h1, _⟩
     ·omega
     ·exact ⟨h1, h4.chg0⟩
   ·exact absurd (by unfold coveredV; rw [if_neg (by omega), if_neg (by simp [h1]), if_neg h3]) e
  ·have ev : (coveredV s r depth volume).2 = 3 := by unfold coveredV; rw [if_neg (by omega), if_pos (Bool.eq_false_iff.2 h1)]
   rw [ev]
   refine cS (Sat.nil w M0) Tryz.func34 rfl (by simp [Tryz.ntmps34]) ?_
   (refine aD (aB ?_))
   refine bD Z Z (fun b4 => ?_)
   refine bD Z Z (fun b5 => ?_)
   refine bD Z Z (fun b6 => ?_)
   refine bD Z Z (fun b7 => ?_)
   (refine aA V Z Z (aA V Z Z (aF (aD (aB (aI V Z Z Z (aJ V Z Z Z ?_)))))))
   refine aK (val := .int .i64 0) V rfl rfl rfl rfl (fun w hs => ?_) ?_; exact by have := dH w lo hi _ s r (RdE.keep h hs.chg0) hlen; rw [h0] at this; exact this
   (refine aA V Z Z (aF (aD (aQ (aD (aB (aA V Z Z (aW V Z Z Z (by omega) (aA V Z Z (aF (aH Z (aD ?_))))))))))); refine aB (aI V Z Z Z ?_))
   refine aK (val := .bool (wiB depth 1 200)) V rfl rfl rfl rfl (fun w hs => ?_) ?_; exact cH depth 1 200 w
   (refine aA V Z Z (aA V Z Z ?_))
   by_cases h2 : wiB depth 1 200 = true
   ·rw [h2]
    rw [h2, Bool.true_and] at h1
    (refine aE Z (aI V Z Z Z (aE Z ?_)))
    refine aK (val := .bool (wiB volume 0 10000000)) V rfl rfl rfl rfl (fun w hs => ?_) ?_; exact cH volume 0 10000000 w
    rw [Bool.eq_false_iff.2 h1]
    (refine aE Z ?_; (iterate 3 refine aA V Z Z ?_); refine aF (aL Z (aD (aB (aA V Z Z (aA V Z Z (aF (aS ?_))))))))
    refine aU V Z (by repeat constructor) fun w hs => ?_
    exact ⟨rfl, hs.chg0⟩
   ·rw [Bool.eq_false_iff.2 h2]
    ((iterate 3 refine bE Z Z Z ?_); refine aA V Z Z (aA V Z Z (aF (aL Z (aD (aB (aA V Z Z (aA V Z Z (aF (aS ?_))))))))))
    refine aU V Z (by repeat constructor) fun w hs => ?_
    exact ⟨rfl, hs.chg0⟩
 ·have ev : (coveredV s r depth volume).2 = checkS s r := by unfold coveredV; rw [if_pos h0]
  rw [ev]
  refine cS (Sat.nil w M0) Tryz.func34 rfl (by simp [Tryz.ntmps34]) ?_
  (refine aD (aB ?_))
  refine bD Z Z (fun b4 => ?_)
  refine bD Z Z (fun b5 => ?_)
  refine bD Z Z (fun b6 => ?_)
  refine bD Z Z (fun b7 => ?_)
  (refine aA V Z Z (aA V Z Z (aF (aD (aB (aI V Z Z Z (aJ V Z Z Z ?_)))))))
  refine aK (val := .int .i64 (checkS s r)) V rfl rfl rfl rfl (fun w hs => ?_) ?_; exact dH w lo hi _ s r (RdE.keep h hs.chg0) hlen
  generalize checkS s r = z at *
  (refine aA V Z Z (aF (aD (aQ (aD (aB (aA V Z Z (bW V Z Z Z (by omega) (aA V Z Z (aF (aL Z (aD ?_))))))))))); refine aB ?_; (iterate 3 refine aA V Z Z ?_); refine aF (aS ?_))
  refine aU V Z (by repeat constructor) fun w hs => ?_
  exact ⟨rfl, hs.chg0⟩
end Go.Proofs.YtgeajgmefokifaaGreat

/- Walks: the cheapest course. -/
namespace Go.Proofs.YtgeajgmefokifaaGreat
open Go Go.Eng

/-- What is known of the best one so far. -/
def BestI (o : Option (List Int)) (v : Value) (l : List Int) : Prop := (l = [] ∧ v = .slice none 0 0 ∧ o = none) ∨ (0 < l.length ∧ o = some l)
theorem cheapO_snoc (s : List Lp) (r : Rl) (depth : Int) (pre : List (List Int)) (c : List Int) : eQ s r depth (pre ++ [c]) = jD s r depth (eQ s r depth pre) c := by simp [eQ, List.foldl_append]

set_option maxHeartbeats 4000000 in
theorem cheap_main (w : World) (lo hi : Nat) (a : Option Addr) (cp : Nat) (s : List Lp) (r : Rl) (depth : Int) (h : RdL w lo hi (.slice a s.length cp) s) (hcr : CR s r) (hdp : 1 ≤ depth ∧ depth ≤ 200) :
  Ca Tryz.prog 33 [.slice a s.length cp, .agg (rlC r).toArray, .int .i64 depth] w fun x w' => ∃ y : Value × List Int, ((x = .tuple #[y.1, .int .i64 (snowV s y.2 depth), .int .i64 0] ∧ eQ s r depth (coursesL s.length (nL r)) = some y.2) ∨ (x = .tuple #[.slice none 0 0, .int .i64 0, .int .i64 6] ∧ eQ s r depth (coursesL s.length (nL r)) = none)) ∧ Sat w M0 [.ow y.1 3 1 y.2.length (aP y.2)] w' := by
 have hn2 := hcr.s.n2
 have hla := hcr.r.laps
 refine q_ofM (Sat.nil w M0) Tryz.func33 rfl (by simp [Tryz.ntmps33]) ?_
 (refine aD (aB ?_))
 refine bD Z Z (fun b3 => ?_)
 refine bD Z Z (fun b4 => ?_)
 refine bD Z Z (fun b5 => ?_)
 ((iterate 3 refine aA V Z Z ?_); refine aF (aD (aB (aI V Z Z Z (aJ V Z Z Z ?_)))))
 refine aK (val := .int .i64 0) V rfl rfl rfl rfl (fun w hs => ?_) ?_; exact by have := dH w lo hi _ s r (RdE.keep h hs.chg0) (by omega); rw [cA.2 hcr] at this; exact this
 (refine aA V Z Z (aF (aD (aQ (aD (aB (aA V Z Z (aW V Z Z Z (by omega) (aA V Z Z (aF (aH Z (aD ?_))))))))))); refine aB (aI V Z Z Z ?_))
 refine aK (val := .bool true) V rfl rfl rfl rfl (fun w hs => ?_) ?_; exact by have := cH depth 1 200 w; rw [cD.2 hdp] at this; exact this
 (refine aA V Z Z (aA V Z Z (aF (aH Z (aM (bJ (aD (aB (aJ V Z Z Z (aI V Z Z Z ?_))))))))))
 refine dJ #[.int .i64 r.laps, .int .i64 r.g0, .int .i64 r.g1, .int .i64 r.c0, .int .i64 r.c1, .int .i64 r.p0, .int .i64 r.p1, .int .i64 r.wide, .int .i64 r.uses, .slice a s.length cp] rfl (by kernel_rfl) rfl ?_
 skip
 refine bI zero146 rfl (fun b10 => ?_)
 (refine bS V Z Z Z Z Z (by repeat constructor) rfl ?_; refine aF (aD (aB ?_)))
 refine bI zero22 rfl (fun b11 => ?_)
 (refine aF (aD (aD (aB (aJ V Z Z Z ?_)))))
 refine bG (β := Nat) V [] _ M0 rfl rfl rfl rfl (Sp.refl _) (fun _ h => h.elim) (fun w' hs => jT w' a s.length cp r) ?_
 rintro bb _ rfl
 (refine aF (aQ ?_))
 refine eD (H' := [.pt b11 [.slice none 0 0] 22, .ow (.slice none 0 0) 3 1 ([] : List Int).length (aP []), .pt bb (dkC r a s.length cp) 146, .pt b10 (dkC r a s.length cp) 146, .pt b5 [.int .i64 depth] 3, .pt b3 [.slice a s.length cp] 23])
  (fun w' hs => (Sat.ownil hs 3 1).sp (by repeat constructor)) ?_
 refine q_rangeP (α := Value × List Int) (fun x => [x.1]) (·.2) cK (Value × List Int) (coursesL s.length (nL r)) (fun pre st => BestI (eQ s r depth pre) st.1 st.2 ∧ st.2.length ≤ 6) (fun _ _ => False)
  (fun st => [.pt b11 [st.1] 22, .ow st.1 3 1 st.2.length (aP st.2)]) [.pt bb (dkC r a s.length cp) 146, .pt b10 (dkC r a s.length cp) 146, .pt b5 [.int .i64 depth] 3, .pt b3 [.slice a s.length cp] 23] (.slice none 0 0, [])
  rfl (by kernel_rfl) rfl (fun _ => rfl) ⟨.inl ⟨rfl, rfl, rfl⟩, by simp⟩ (by repeat constructor) ?_ ?_ ?_ (fun _ _ _ h => h.elim)
 ·intro w1 D hs hD
  exact jV w1 D bb a s.length cp r hla hn2 (hs.blk (by repeat constructor)) (fun h => (hD _ h).1 ⟨.pt bb (dkC r a s.length cp) _, (by repeat constructor), rfl⟩)
 ·rintro pre ⟨u, c⟩ post ⟨v, bl⟩ w1 l rdy bsy K F' hxx ⟨hI, h6⟩ hsat hR hbegin hend hret hexit
  simp only at hI hxx h6
  dsimp only
  obtain ⟨m1, m2, m3⟩ := memC hxx
  have hlm : c.length ≤ 6 := by unfold nL at m1; omega
  have hlp : 0 < c.length := by unfold nL at m1; omega
  have hsn := cheapO_snoc s r depth pre c
  dsimp only [lsK, cK, List.cons_append, List.nil_append] at hsat hR hbegin hend ⊢
  obtain ⟨ug, uc, rfl⟩ := hsat.ownSome (v := u) (by repeat constructor) hlp
  have hd : ∀ w', ChgP _ w1 w' → Blk w' b10 (dkC r a s.length cp) 146 := fun w' hc => (hR w' hc).blk (by repeat constructor)
  have hd5 : ∀ w', ChgP _ w1 w' → Blk w' b5 [.int .i64 depth] 3 := fun w' hc => (hR w' hc).blk (by repeat constructor)
  have hd3 : ∀ w', ChgP _ w1 w' → Blk w' b3 [.slice a s.length cp] 23 := fun w' hc => (hR w' hc).blk (by repeat constructor)
  have hkeep : jD s r depth (eQ s r depth pre) c = eQ s r depth pre → BestI (eQ s r depth (pre ++ [c])) v bl := fun hh => by rw [hsn, hh]; exact hI
  have htake : jD s r depth (eQ s r depth pre) c = some c → ∀ x, BestI (eQ s r depth (pre ++ [c])) x c := fun hh x => by rw [hsn, hh]; exact .inr ⟨hlp, rfl⟩
  (refine aB (aA V Z Z (aF ?_)))
  refine hbegin _ _ ?_
  (refine aQ (aD ?_))
  refine cQ _ [] (Sp.refl _) (by kernel_rfl) (by kernel_rfl) ?_
  (refine qf_loadGA V Z Z Z (by assumption) (by rfl) (by rfl) ?_; refine aG V Z Z Z ?_)
  refine bT (val := mkA s r c) V rfl rfl rfl rfl (fun w hs => ?_) ?_; exact jJ w lo hi 0 w.heap.size a cp _ s r c (RdE.keep h (hR w hs.chg).chg0) hcr (hs.rdI (v := .slice (some ⟨ug, 0, none⟩) c.length uc) (l := c) (by repeat constructor) rfl) m2 hlm
  skip
  refine qf_mk #[.bool false, .bool false, .bool false, .bool false, .bool false] rfl (by kernel_rfl) rfl ?_
  refine qf_eqA (l := jB s r c) (m := [false, false, false, false, false]) mk_eq rfl rfl rfl rfl rfl ?_
  rw [rightB_eq]
  (refine aG V Z Z Z ?_)
  cases hb : dZ s r c
  ·have hk := hkeep (by simp [jD, hb])
   ((iterate 3 refine hG Z Z Z ?_); (iterate 9 refine qf_gnone Z Z ?_); refine hG Z Z Z (aG V Z Z Z (aO (aH Z (aM (bJ ?_))))))
   exact hend _ _ (v, bl) ⟨hk, h6⟩ (by repeat constructor)
  ·rcases hI with ⟨rfl, rfl, ho⟩ | ⟨hbl, ho⟩
   ·have ht := htake (by simp [jD, hb, ho, iI])
    (refine aX Z (aN V Z Z Z (aX Z ?_)))
    refine qf_eqnil V Z Z Z Z ?_
    (refine aX Z (aG V Z Z Z ?_); (iterate 9 refine hG Z Z Z ?_); refine aX Z (aG V Z Z Z (aG V Z Z Z (aO (aL Z (aB (aA V Z Z ?_)))))); refine iV V Z Z Z Z (by repeat constructor) ?_; refine aF (bJ ?_))
    exact hend _ _ (_, c) ⟨ht _, hlm⟩ (by repeat constructor)
   ·obtain ⟨vg, vc, rfl⟩ := hsat.ownSome (v := v) (by repeat constructor) hbl
    (refine aX Z (aN V Z Z Z (aX Z ?_)))
    refine qf_eqnil V Z Z Z Z ?_
    (refine aX Z (aG V Z Z Z (aX Z ?_)); refine gF V Z Z Z (by assumption) (by rfl) ?_; refine aX Z (aG V Z Z Z (aX Z ?_)); refine gF V Z Z Z (by assumption) (by rfl) ?_; refine aX Z ?_)
    refine bT (val := .int .i64 (snowV s c depth)) V rfl rfl rfl rfl (fun w hs => ?_) ?_; exact snow_ca w lo hi 0 w.heap.size a cp _ s c depth (RdE.keep h (hR w hs.chg).chg0) hcr.s (hs.rdI (v := .slice (some ⟨ug, 0, none⟩) c.length uc) (l := c) (by repeat constructor) rfl) (by omega) hdp
    (refine aX Z ?_; refine gF V Z Z Z (by assumption) (by rfl) ?_; refine aX Z (aN V Z Z Z (aX Z ?_)); refine gF V Z Z Z (by assumption) (by rfl) ?_; refine aX Z ?_)
    refine bT (val := .int .i64 (snowV s bl depth)) V rfl rfl rfl rfl (fun w hs => ?_) ?_; exact snow_ca w lo hi 0 w.heap.size a cp _ s bl depth (RdE.keep h (hR w hs.chg).chg0) hcr.s (hs.rdI (v := .slice (some ⟨vg, 0, none⟩) bl.length vc) (l := bl) (by repeat constructor) rfl) (by omega) hdp
    (refine aX Z (aG V Z Z Z (aX Z (aG V Z Z Z (aG V Z Z Z (aO ?_))))))
    refine dL Z (fun hc => ?_) (fun hc => ?_)
    ·have hlt : snowV s c depth < snowV s bl depth := by first | assumption | (simpa using hc)
     clear hc
     have ht := htake (by simp [jD, hb, ho, iI, hlt])
     (refine aB (aA V Z Z ?_); refine iV V Z Z Z Z (by repeat constructor) ?_; refine aF (bJ ?_))
     exact hend _ _ (_, c) ⟨ht _, hlm⟩ (by repeat constructor)
    ·have hlt : ¬ snowV s c depth < snowV s bl depth := by first | assumption | (simpa using hc)
     clear hc
     have hk := hkeep (by simp [jD, hb, ho, iI, hlt])
     (refine aM (bJ ?_))
     exact hend _ _ (_, bl) ⟨hk, h6⟩ (by repeat constructor)
 ·rintro D ⟨v, bl⟩ ⟨hI, h6⟩
  simp only at hI h6
  dsimp only [lsK, cK, List.cons_append, List.nil_append]
  (refine bJ (aD (aD (aB (aI V Z Z Z ?_)))))
  rcases hI with ⟨rfl, rfl, ho⟩ | ⟨hbl, ho⟩
  ·skip
   refine lM V Z Z Z Z ?_
   (refine aF (aL Z (aD (aB ?_))); (iterate 3 refine aA V Z Z ?_); refine aF (aS ?_))
   refine jR V (by repeat constructor) rfl (by repeat constructor) fun w hs => ?_
   exact ⟨(.slice none 0 0, []), .inr ⟨rfl, ho⟩, hs.sp (by repeat constructor)⟩
  ·refine bL (fun w hs => hs.ownSome (v := v) (by repeat constructor) hbl) ?_
   rintro ⟨vg, vc, rfl⟩
   skip
   refine lM V Z Z Z Z ?_
   (refine aF (aH Z (aM (aD ?_))))
   refine cQ _ [] (Sp.refl _) (by kernel_rfl) (by kernel_rfl) ?_
   ((iterate 4 refine aN V Z Z Z ?_))
   refine bT (val := .int .i64 (snowV s bl depth)) V rfl rfl rfl rfl (fun w hs => ?_) ?_; exact snow_ca w lo hi 0 w.heap.size a cp _ s bl depth (RdE.keep h hs.chg0) hcr.s (hs.rdI (v := .slice (some ⟨vg, 0, none⟩) bl.length vc) (l := bl) (by repeat constructor) rfl) (by omega) hdp
   ((iterate 3 refine aG V Z Z Z ?_); refine aO (aS ?_))
   refine jR V (by repeat constructor) rfl (by repeat constructor) fun w hs => ?_
   exact ⟨(_, bl), .inl ⟨rfl, ho⟩, hs.sp (by repeat constructor)⟩
theorem cheap_ok (w : World) (lo hi : Nat) (a : Option Addr) (cp : Nat) (s : List Lp) (r : Rl) (depth : Int) (c : List Int) (h : RdL w lo hi (.slice a s.length cp) s) (hcr : CR s r) (hdp : 1 ≤ depth ∧ depth ≤ 200) (ho : eQ s r depth (coursesL s.length (nL r)) = some c) :
  Ca Tryz.prog 33 [.slice a s.length cp, .agg (rlC r).toArray, .int .i64 depth] w fun x w' => ∃ v : Value, x = .tuple #[v, .int .i64 (snowV s c depth), .int .i64 0] ∧ Sat w M0 [.ow v 3 1 c.length (aP c)] w' :=
 (cheap_main w lo hi a cp s r depth h hcr hdp).mono fun x w' ⟨y, h1, h2⟩ => by
  rcases h1 with ⟨h1, h3⟩ | ⟨_, h3⟩
  ·rw [ho] at h3
   cases h3
   exact ⟨y.1, h1, h2⟩
  ·rw [ho] at h3; cases h3
theorem cheap_no (w : World) (lo hi : Nat) (a : Option Addr) (cp : Nat) (s : List Lp) (r : Rl) (depth : Int) (h : RdL w lo hi (.slice a s.length cp) s) (hlen : s.length ≤ 1000000) (e : (cheapV s r depth).2.2 ≠ 0) :
  Ca Tryz.prog 33 [.slice a s.length cp, .agg (rlC r).toArray, .int .i64 depth] w fun x w' => x = .tuple #[.slice none 0 0, .int .i64 0, .int .i64 (cheapV s r depth).2.2] ∧ Chg [] w w' := by
 by_cases h0 : checkS s r = 0
 ·by_cases h1 : wiB depth 1 200 = true
  ·cases ho : eQ s r depth (coursesL s.length (nL r)) with
   | none =>
    have ev : (cheapV s r depth).2.2 = 6 := by unfold cheapV; rw [if_neg (by omega), if_neg (by simp [h1]), ho]
    rw [ev]
    exact (cheap_main w lo hi a cp s r depth h (cA.1 h0) (cD.1 h1)).mono fun v w' ⟨y, h1, h4⟩ => by
     rcases h1 with ⟨_, h1⟩ | ⟨h1, _⟩
     ·rw [ho] at h1; cases h1
     ·exact ⟨h1, h4.chg0⟩
   | some c => exact absurd (by unfold cheapV; rw [if_neg (by omega), if_neg (by simp [h1]), ho]) e
  ·have ev : (cheapV s r depth).2.2 = 3 := by unfold cheapV; rw [if_neg (by omega), if_pos (Bool.eq_false_iff.2 h1)]
   rw [ev]
   refine cS (Sat.nil w M0) Tryz.func33 rfl (by simp [Tryz.ntmps33]) ?_
   (refine aD (aB ?_))
   refine bD Z Z (fun b4 => ?_)
   refine bD Z Z (fun b5 => ?_)
   refine bD Z Z (fun b6 => ?_)
   ((iterate 3 refine aA V Z Z ?_); refine aF (aD (aB (aI V Z Z Z (aJ V Z Z Z ?_)))))
   refine aK (val := .int .i64 0) V rfl rfl rfl rfl (fun w hs => ?_) ?_; exact by have := dH w lo hi _ s r (RdE.keep h hs.chg0) hlen; rw [h0] at this; exact this
   (refine aA V Z Z (aF (aD (aQ (aD (aB (aA V Z Z (aW V Z Z Z (by omega) (aA V Z Z (aF (aH Z (aD ?_))))))))))); refine aB (aI V Z Z Z ?_))
   refine aK (val := .bool (wiB depth 1 200)) V rfl rfl rfl rfl (fun w hs => ?_) ?_; exact cH depth 1 200 w
   rw [Bool.eq_false_iff.2 h1]
   (refine aA V Z Z (aA V Z Z (aF (aL Z (aD (aB ?_))))); (iterate 3 refine aA V Z Z ?_); refine aF (aS ?_))
   refine aU V Z (by repeat constructor) fun w hs => ?_
   exact ⟨rfl, hs.chg0⟩
 ·have ev : (cheapV s r depth).2.2 = checkS s r := by unfold cheapV; rw [if_pos h0]
  rw [ev]
  refine cS (Sat.nil w M0) Tryz.func33 rfl (by simp [Tryz.ntmps33]) ?_
  (refine aD (aB ?_))
  refine bD Z Z (fun b4 => ?_)
  refine bD Z Z (fun b5 => ?_)
  refine bD Z Z (fun b6 => ?_)
  ((iterate 3 refine aA V Z Z ?_); refine aF (aD (aB (aI V Z Z Z (aJ V Z Z Z ?_)))))
  refine aK (val := .int .i64 (checkS s r)) V rfl rfl rfl rfl (fun w hs => ?_) ?_; exact dH w lo hi _ s r (RdE.keep h hs.chg0) hlen
  generalize checkS s r = z at *
  (refine aA V Z Z (aF (aD (aQ (aD (aB (aA V Z Z (bW V Z Z Z (by omega) (aA V Z Z (aF (aL Z (aD ?_))))))))))); refine aB ?_; (iterate 4 refine aA V Z Z ?_); refine aF (aS ?_))
  refine aU V Z (by repeat constructor) fun w hs => ?_
  exact ⟨rfl, hs.chg0⟩
end Go.Proofs.YtgeajgmefokifaaGreat

/- Walks: lists compared; the fewest rules to be given up. -/
namespace Go.Proofs.YtgeajgmefokifaaGreat
open Go Go.Eng

theorem isNaNR_ca (x : Int) (w : World) : Ca Tryz.prog 158 [.int .i64 x] w fun v w' => v = .bool false ∧ Chg [] w w' := by
 refine cS (Sat.nil w M0) Tryz.func158 rfl (by simp [Tryz.ntmps158]) ?_
 (refine aD (aB (aA V Z Z (aF (aD (aB (aA V Z Z (aA V Z Z (aW V Z Z Z (by omega) (aA V Z Z (aF (aS ?_))))))))))))
 refine aU V Z (by repeat constructor) fun w hs => ?_
 exact ⟨by simp [fC], hs.chg0⟩
def cmpI (x y : Int) : Int := if x < y then -1 else if y < x then 1 else 0
theorem cmpR_ca (x y : Int) (w : World) : Ca Tryz.prog 140 [.int .i64 x, .int .i64 y] w fun v w' => v = .int .i64 (cmpI x y) ∧ Chg [] w w' := by
 refine cS (Sat.nil w M0) Tryz.func140 rfl (by simp [Tryz.ntmps140]) ?_
 (refine aD (aB (aA V Z Z (aF (aD (aB (aA V Z Z ?_)))))))
 refine aK (val := .bool false) V rfl rfl rfl rfl (fun w hs => ?_) ?_; exact isNaNR_ca x w
 (refine aA V Z Z (aF (aD (aB (aA V Z Z ?_)))))
 refine aK (val := .bool false) V rfl rfl rfl rfl (fun w hs => ?_) ?_; exact isNaNR_ca y w
 (refine aA V Z Z (aF (aD (aD (aB (aA V Z Z (aF (aH Z (aM (aD (aD (aB ?_))))))))))); refine aA V Z Z (aF (aH Z (aM (aD (aD (aB ?_)))))); (iterate 3 refine aA V Z Z ?_); refine aF ?_)
 refine dL Z (fun hc => ?_) (fun hc => ?_)
 ·have h1 : x < y := by first | assumption | (simpa using hc)
  (refine aD (aB (aA V Z Z (aF (aS ?_)))))
  refine aU V Z (by repeat constructor) fun w hs => ?_
  exact ⟨by simp only [fC, cmpI]; rw [if_pos h1], hs.chg0⟩
 ·have h1 : ¬ x < y := by first | assumption | (simpa using hc)
  clear hc
  (refine aM (aD (aD (aB ?_))); (iterate 3 refine aA V Z Z ?_); refine aF ?_)
  refine dL Z (fun hc => ?_) (fun hc => ?_)
  ·have h2 : y < x := by first | assumption | (simpa using hc)
   (refine aD (aB (aA V Z Z (aF (aS ?_)))))
   refine aU V Z (by repeat constructor) fun w hs => ?_
   exact ⟨by simp only [fC, cmpI]; rw [if_neg h1, if_pos h2], hs.chg0⟩
  ·have h2 : ¬ y < x := by first | assumption | (simpa using hc)
   (refine aM (aD (aB (aA V Z Z (aF (aS ?_))))))
   refine aU V Z (by repeat constructor) fun w hs => ?_
   exact ⟨by simp only [fC, cmpI]; rw [if_neg h1, if_neg h2], hs.chg0⟩
theorem cmpB_drop {a b : List Int} {k : Nat} (h1 : k < a.length) (h2 : k < b.length) : kO (a.drop k) (b.drop k) = if a[k] = b[k] then kO (a.drop (k + 1)) (b.drop (k + 1)) else decide (a[k] < b[k]) && true := by
 rw [List.drop_eq_getElem_cons h1, List.drop_eq_getElem_cons h2, kO]

set_option maxHeartbeats 1000000 in
theorem compR_ca (w : World) (lo hi lo2 hi2 : Nat) (v u : Value) (a b : List Int) (h : RdI w lo hi v a) (g : RdI w lo2 hi2 u b) (hl : a.length ≤ 1000000) (hl2 : b.length ≤ 1000000) :
  Ca Tryz.prog 103 [v, u] w fun r w' => ∃ z : Int, (r = .int .i64 z ∧ -1 ≤ z ∧ z ≤ 1 ∧ (z < 0 ↔ kO a b = true)) ∧ Sat w M0 [] w' := by
 obtain ⟨aa, ca, rfl, hsa⟩ := RdI.outI h
 obtain ⟨ab, cb, rfl, hsb⟩ := RdI.outI g
 refine cS (Sat.nil w M0) Tryz.func103 rfl (by simp [Tryz.ntmps103]) ?_
 (refine aD (aB (aA V Z Z (aF (aD (aD (aB ?_)))))); (iterate 3 refine aA V Z Z ?_); refine aF (aQ ?_))
 refine cB (σ := Nat) (fun k => k ≤ a.length ∧ k ≤ b.length ∧ kO a b = kO (a.drop k) (b.drop k)) (fun k => a.length - k) (fun k => [(0, .slice aa a.length ca), (1, .slice ab b.length cb), (9, .slice aa a.length ca), (10, .int .i64 a.length), (11, .int .i64 k)]) (fun _ => []) 0 ⟨by simp, by simp, by simp⟩ ⟨rfl, rfl, rfl, rfl, rfl, trivial⟩ .nil ?_
 rintro k ⟨hk, hkb, hC⟩ K hK
 (refine aD (aB (aA V Z Z (aF (aD ?_)))))
 refine dL Z (fun hc => ?_) (fun hc => ?_)
 ·have hk2 : k < a.length := by omega
  clear hc
  obtain ⟨ba, oa, rfl⟩ := hsa (by omega)
  (refine aM (aD (aQ (aD (aB (aA V Z Z ?_))))))
  (refine aV V Z Z Z Z Z (by omega) (by omega) ?_; refine bB V Z Z Z (fun w hs => RdI.at (h.keep hs.chg0) k hk2) ?_)
  (refine aA V Z Z (aA V Z Z (aF (aD (aD (aB ?_))))); (iterate 4 refine aA V Z Z ?_); refine aF ?_)
  refine dL Z (fun hc => ?_) (fun hc => ?_)
  ·have hb : b.length ≤ k := by first | omega | (simp at hc; omega)
   have e : kO a b = false := by
    rw [hC, List.drop_eq_getElem_cons hk2, List.drop_eq_nil_of_le hb]
    rfl
   (refine aD (aB (aA V Z Z (aF (aS ?_)))))
   refine aU V Z (by repeat constructor) fun w hs => ?_
   exact ⟨1, ⟨rfl, by omega, by omega, by simp [e]⟩, hs⟩
  ·have hb : k < b.length := by first | omega | (simp at hc; omega)
   clear hc
   obtain ⟨bb, ob, rfl⟩ := hsb (by omega)
   have hd := cmpB_drop hk2 hb
   (refine aM (aD (aB (aA V Z Z (aA V Z Z ?_)))))
   (refine aV V Z Z Z Z Z (by omega) (by omega) ?_; refine bB V Z Z Z (fun w hs => RdI.at (g.keep hs.chg0) k hb) ?_)
   (refine aA V Z Z (aF (aD (aB (aA V Z Z (aA V Z Z ?_))))))
   refine aK (val := .int .i64 (cmpI a[k] b[k])) V rfl rfl rfl rfl (fun w hs => ?_) ?_; exact cmpR_ca _ _ w
   generalize a[k] = x at *
   generalize b[k] = y at *
   rcases Int.lt_trichotomy x y with hxy | hxy | hxy
   ·have e : cmpI x y = -1 := by unfold cmpI; rw [if_pos hxy]
    have e2 : kO a b = true := by rw [hC, hd, if_neg (by omega)]; simp [hxy]
    rw [e]
    (refine aA V Z Z (aF (aD (aB (aA V Z Z (bW V Z Z Z (by omega) (aF (aL Z (aD (aB (aA V Z Z (aA V Z Z ?_))))))))))); refine aF (aS ?_))
    refine aU V Z (by repeat constructor) fun w hs => ?_
    exact ⟨-1, ⟨rfl, by omega, by omega, by simp [e2]⟩, hs⟩
   ·have e : cmpI x y = 0 := by unfold cmpI; rw [if_neg (by omega), if_neg (by omega)]
    rw [e]
    (refine aA V Z Z (aF (aD (aB (aA V Z Z (aW V Z Z Z (by omega) (aF (aH Z (aM (bJ (aB (bA V Z Z Z Z (by omega) (by omega) ?_))))))))))); refine aA V Z Z (aF ?_))
    exact hK (k + 1) _ _ ⟨by omega, by omega, by rw [hC, hd, if_pos hxy]⟩ (by omega) ⟨rfl, rfl, rfl, rfl, rfl, trivial⟩ .nil
   ·have e : cmpI x y = 1 := by unfold cmpI; rw [if_neg (by omega), if_pos hxy]
    have e2 : kO a b = false := by rw [hC, hd, if_neg (by omega)]; simp; omega
    rw [e]
    (refine aA V Z Z (aF (aD (aB (aA V Z Z (bW V Z Z Z (by omega) (aF (aL Z (aD (aB (aA V Z Z (aA V Z Z ?_))))))))))); refine aF (aS ?_))
    refine aU V Z (by repeat constructor) fun w hs => ?_
    exact ⟨1, ⟨rfl, by omega, by omega, by simp [e2]⟩, hs⟩
 ·have hka : k = a.length := by omega
  subst hka
  clear hc
  (refine bO _ rfl (aD (aD (aB ?_))); (iterate 5 refine aA V Z Z ?_); refine aF ?_)
  refine dL Z (fun hc => ?_) (fun hc => ?_)
  ·have hb : a.length < b.length := by first | omega | (simp at hc; omega)
   have e : kO a b = true := by
    rw [hC, List.drop_length, List.drop_eq_getElem_cons hb]
    rfl
   (refine aD (aB (aA V Z Z (aF (aS ?_)))))
   refine aU V Z (by repeat constructor) fun w hs => ?_
   exact ⟨-1, ⟨rfl, by omega, by omega, by simp [e]⟩, hs⟩
  ·have hb : ¬ a.length < b.length := by first | omega | (simp at hc; omega)
   have e : kO a b = false := by
    rw [hC, List.drop_length, List.drop_eq_nil_of_le (by omega)]
    rfl
   (refine aM (aD (aB (aA V Z Z (aF (aS ?_))))))
   refine aU V Z (by repeat constructor) fun w hs => ?_
   exact ⟨0, ⟨rfl, by omega, by omega, by simp [e]⟩, hs⟩

theorem brk_len (s : List Lp) (r : Rl) (c : List Int) : (eZ s r c).length ≤ 5 := gU (jB s r c) 0
theorem yieldO_snoc (s : List Lp) (r : Rl) (pre : List (List Int)) (c : List Int) : fN s r (pre ++ [c]) = kQ s r (fN s r pre) c := by simp [fN, List.foldl_append]

set_option maxHeartbeats 4000000 in
theorem yield_ok (w : World) (lo hi : Nat) (a : Option Addr) (cp : Nat) (s : List Lp) (r : Rl) (b : List Int) (h : RdL w lo hi (.slice a s.length cp) s) (hcr : CR s r) (ho : fN s r (coursesL s.length (nL r)) = some b) :
  Ca Tryz.prog 45 [.slice a s.length cp, .agg (rlC r).toArray] w fun x w' => ∃ y : Value × Value, x = .tuple #[y.1, y.2, .int .i64 0] ∧ Sat w M0 [.ow y.1 154 1 (eZ s r b).length (aP (eZ s r b)), .ow y.2 3 1 b.length (aP b)] w' := by
 have hn2 := hcr.s.n2
 have hla := hcr.r.laps
 refine q_ofM (Sat.nil w M0) Tryz.func45 rfl (by simp [Tryz.ntmps45]) ?_
 (refine aD (aB ?_))
 refine bD Z Z (fun b3 => ?_)
 ((iterate 3 refine aA V Z Z ?_); refine aF (aD (aD (aB (aA V Z Z (aJ V Z Z Z ?_))))))
 refine aK (val := .int .i64 0) V rfl rfl rfl rfl (fun w hs => ?_) ?_; exact by have := dH w lo hi _ s r (RdE.keep h hs.chg0) (by omega); rw [cA.2 hcr] at this; exact this
 (refine aA V Z Z (aF (aD (aB (aA V Z Z (aW V Z Z Z (by omega) (aF (aH Z (aM (aD (aB (aJ V Z Z Z ?_))))))))))); refine aA V Z Z ?_)
 refine dJ #[.int .i64 r.laps, .int .i64 r.g0, .int .i64 r.g1, .int .i64 r.c0, .int .i64 r.c1, .int .i64 r.p0, .int .i64 r.p1, .int .i64 r.wide, .int .i64 r.uses, .slice a s.length cp] rfl (by kernel_rfl) rfl ?_
 skip
 refine bI zero146 rfl (fun b8 => ?_)
 (refine bS V Z Z Z Z Z (by repeat constructor) rfl ?_; refine aF (aD (aB ?_)))
 refine bI zero61 rfl (fun b9 => ?_)
 (refine aF (aD (aB ?_)))
 refine bI zero22 rfl (fun b10 => ?_)
 (refine aF (aD (aD (aB (aJ V Z Z Z ?_)))))
 refine bG (β := Nat) V [] _ M0 rfl rfl rfl rfl (Sp.refl _) (fun _ h => h.elim) (fun w' hs => jT w' a s.length cp r) ?_
 rintro bb _ rfl
 (refine aF (aQ ?_))
 refine eD (H' := [.pt b9 [.slice none 0 0] 61, .pt b10 [.slice none 0 0] 22, .ow (.slice none 0 0) 154 1 ([] : List Int).length (aP []), .ow (.slice none 0 0) 3 1 ([] : List Int).length (aP []), .pt bb (dkC r a s.length cp) 146, .pt b8 (dkC r a s.length cp) 146])
  (fun w' hs => (Sat.ownil (Sat.ownil hs 154 1) 3 1).sp (by repeat constructor)) ?_
 refine q_rangeP (α := Value × List Int) (fun x => [x.1]) (·.2) cK ((Value × List Int) × Value × List Int) (coursesL s.length (nL r)) (fun pre st => BestI (fN s r pre) st.2.1 st.2.2 ∧ st.2.2.length ≤ 6 ∧ st.1.2.length ≤ 5 ∧ (0 < st.2.2.length → st.1.2 = eZ s r st.2.2)) (fun _ _ => False)
  (fun st => [.pt b9 [st.1.1] 61, .pt b10 [st.2.1] 22, .ow st.1.1 154 1 st.1.2.length (aP st.1.2), .ow st.2.1 3 1 st.2.2.length (aP st.2.2)]) [.pt bb (dkC r a s.length cp) 146, .pt b8 (dkC r a s.length cp) 146] ((.slice none 0 0, []), .slice none 0 0, [])
  rfl (by kernel_rfl) rfl (fun _ => rfl) ⟨.inl ⟨rfl, rfl, rfl⟩, by simp, by simp, by simp⟩ (by repeat constructor) ?_ ?_ ?_ (fun _ _ _ h => h.elim)
 ·intro w1 D hs hD
  exact jV w1 D bb a s.length cp r hla hn2 (hs.blk (by repeat constructor)) (fun h => (hD _ h).1 ⟨.pt bb (dkC r a s.length cp) _, (by repeat constructor), rfl⟩)
 ·rintro pre ⟨u, c⟩ post ⟨⟨rv, rl⟩, v, bl⟩ w1 l rdy bsy K F' hxx ⟨hI, h6, h5, hrl⟩ hsat hR hbegin hend hret hexit
  simp only at hI hxx h6 h5 hrl
  dsimp only
  obtain ⟨m1, m2, m3⟩ := memC hxx
  have hlm : c.length ≤ 6 := by unfold nL at m1; omega
  have hlp : 0 < c.length := by unfold nL at m1; omega
  have hsn := yieldO_snoc s r pre c
  have h55 := brk_len s r c
  dsimp only [lsK, cK, List.cons_append, List.nil_append] at hsat hR hbegin hend ⊢
  obtain ⟨ug, uc, rfl⟩ := hsat.ownSome (v := u) (by repeat constructor) hlp
  obtain ⟨rva, rvc, rfl⟩ := hsat.slice2 (v := rv) (by repeat constructor)
  have hd : ∀ w', ChgP _ w1 w' → Blk w' b8 (dkC r a s.length cp) 146 := fun w' hc => (hR w' hc).blk (by repeat constructor)
  have hkeep : kQ s r (fN s r pre) c = fN s r pre → BestI (fN s r (pre ++ [c])) v bl := fun hh => by rw [hsn, hh]; exact hI
  have htake : kQ s r (fN s r pre) c = some c → ∀ x, BestI (fN s r (pre ++ [c])) x c := fun hh x => by rw [hsn, hh]; exact .inr ⟨hlp, rfl⟩
  (refine aB (aA V Z Z (aF ?_)))
  refine hbegin _ _ ?_
  (refine aQ (aD (aB ?_)); refine ql_loadGA V Z Z Z (by assumption) (by rfl) (by rfl) ?_; refine aA V Z Z ?_)
  refine aK (val := mkA s r c) V rfl rfl rfl rfl (fun w hs => ?_) ?_; exact jJ w lo hi 0 w.heap.size a cp _ s r c (RdE.keep h (hR w hs.chg).chg0) hcr (hs.rdI (v := .slice (some ⟨ug, 0, none⟩) c.length uc) (l := c) (by repeat constructor) rfl) m2 hlm
  refine bG (β := Value) V [] _ M0 rfl rfl rfl rfl (Sp.refl _) (fun _ h => h.elim) (fun w' hs => rules_ca w' (jB s r c) rfl) ?_
  rintro _ nv rfl
  change QL _ _ _ _ _ _ _ _ _ _ ([.ow nv 154 1 (eZ s r c).length (aP (eZ s r c))] ++ _)
  dsimp only [List.cons_append, List.nil_append]
  refine bL (fun w hs => hs.slice2 (v := nv) (by repeat constructor)) ?_
  rintro ⟨nva, nvc, rfl⟩
  (refine aA V Z Z (aF (aD (aB (aI V Z Z Z ?_)))))
  rcases hI with ⟨rfl, rfl, hoo⟩ | ⟨hbl, hoo⟩
  ·have ht := htake (by simp [kQ, hoo, iI])
   refine lM V Z Z Z Z ?_
   (refine aA V Z Z ?_; (iterate 5 refine bE Z Z Z ?_); refine aA V Z Z (aA V Z Z ?_); (iterate 6 refine bE Z Z Z ?_); (iterate 4 refine kD Z Z ?_); refine bE Z Z Z (aA V Z Z (aF (aL Z (aB (aA V Z Z (aA V Z Z ?_)))))); (iterate 2 refine iV V Z Z Z Z (by repeat constructor) ?_); refine aF (bJ ?_))
   exact hend _ _ ((_, eZ s r c), _, c) ⟨ht _, hlm, h55, fun _ => rfl⟩ (by repeat constructor)
  ·obtain ⟨vg, vc, rfl⟩ := hsat.ownSome (v := v) (by repeat constructor) hbl
   obtain rfl := hrl hbl
   refine lM V Z Z Z Z ?_
   (refine aA V Z Z (aE Z (aA V Z Z (aE Z (aA V Z Z (aE Z (aI V Z Z Z (aE Z (aA V Z Z (aE Z ?_))))))))); (iterate 3 refine aA V Z Z ?_))
   by_cases hlt : (eZ s r c).length < (eZ s r bl).length
   ·have ht := htake (by simp [kQ, hoo, iI, lX, hlt])
    rw [decide_eq_true (show ((eZ s r c).length : Int) < (eZ s r bl).length by omega)]
    ((iterate 6 refine bE Z Z Z ?_); (iterate 4 refine kD Z Z ?_); refine bE Z Z Z (aA V Z Z (aF (aL Z (aB (aA V Z Z (aA V Z Z ?_)))))); (iterate 2 refine iV V Z Z Z Z (by repeat constructor) ?_); refine aF (bJ ?_))
    exact hend _ _ ((_, eZ s r c), _, c) ⟨ht _, hlm, h55, fun _ => rfl⟩ (by repeat constructor)
   ·rw [decide_eq_false (show ¬ ((eZ s r c).length : Int) < (eZ s r bl).length by omega)]
    (refine aE Z (aA V Z Z (aE Z (aA V Z Z (aE Z (aI V Z Z Z (aE Z (aA V Z Z (aE Z (aA V Z Z (aE Z (aA V Z Z ?_))))))))))))
    by_cases heq : (eZ s r c).length = (eZ s r bl).length
    ·rw [decide_eq_true (show ((eZ s r c).length : Int) = (eZ s r bl).length by omega)]
     (refine aE Z (aA V Z Z (aE Z (aI V Z Z Z (aE Z ?_)))))
     refine bG (β := Int) (ψ := fun z v => v = .int .i64 z ∧ -1 ≤ z ∧ z ≤ 1 ∧ (z < 0 ↔ kO (eZ s r c) (eZ s r bl) = true)) (L' := fun _ => []) V [] _ M0 rfl rfl rfl rfl (Sp.refl _) (fun _ h => h.elim) (fun w' hs => compR_ca w' 0 w'.heap.size 0 w'.heap.size _ _ (eZ s r c) (eZ s r bl) (hs.rdI (v := .slice nva (eZ s r c).length nvc) (l := eZ s r c) (by repeat constructor) rfl) (hs.rdI (v := .slice rva (eZ s r bl).length rvc) (l := eZ s r bl) (by repeat constructor) rfl) (by omega) (by omega)) ?_
     rintro z _ ⟨rfl, hz1, hz2, hz3⟩
     by_cases hz : z < 0
     ·have hcb := hz3.1 hz
      have ht := htake (by simp [kQ, hoo, iI, lX, heq, hcb])
      (refine aE Z (cL V Z Z Z (by omega) (aE Z (aA V Z Z (aA V Z Z (aF (aL Z (aB (aA V Z Z (aA V Z Z ?_))))))))); (iterate 2 refine iV V Z Z Z Z (by repeat constructor) ?_); refine aF (bJ ?_))
      exact hend _ _ ((_, eZ s r c), _, c) ⟨ht _, hlm, h55, fun _ => rfl⟩ (by repeat constructor)
     ·have hcb : kO (eZ s r c) (eZ s r bl) = false := Bool.eq_false_iff.2 fun hh => hz (hz3.2 hh)
      have hk := hkeep (by simp [kQ, hoo, iI, lX, heq, hcb])
      (refine aE Z (cI V Z Z Z (by omega) (aE Z (aA V Z Z (aA V Z Z (aF (aH Z (aM (bJ ?_)))))))))
      exact hend _ _ ((_, eZ s r bl), _, bl) ⟨hk, h6, h5, fun _ => rfl⟩ (by repeat constructor)
    ·have hk := hkeep (by simp [kQ, hoo, iI, lX, heq, hlt])
     rw [decide_eq_false (show ¬ ((eZ s r c).length : Int) = (eZ s r bl).length by omega)]
     ((iterate 4 refine bE Z Z Z ?_); refine aE Z (aA V Z Z (aA V Z Z (aF (aH Z (aM (bJ ?_)))))))
     exact hend _ _ ((_, eZ s r bl), _, bl) ⟨hk, h6, h5, fun _ => rfl⟩ (by repeat constructor)
 ·rintro D ⟨⟨rv, rl⟩, v, bl⟩ ⟨hI, h6, h5, hrl⟩
  simp only at hI h6 h5 hrl
  rcases hI with ⟨_, _, hoo⟩ | ⟨hbl, hoo⟩
  ·rw [ho] at hoo; cases hoo
  ·rw [ho] at hoo
   cases hoo
   obtain rfl := hrl hbl
   dsimp only [lsK, cK, List.cons_append, List.nil_append]
   (refine bJ (aD ?_))
   refine cQ _ [] (Sp.refl _) (by kernel_rfl) (by kernel_rfl) ?_
   (refine aN V Z Z Z (aN V Z Z Z ?_); (iterate 3 refine aG V Z Z Z ?_); refine aO (aS ?_))
   refine cX (fun w hs => hs.slice2 (v := rv) (by repeat constructor)) ?_
   rintro ⟨ra, rc, rfl⟩
   refine cX (fun w hs => hs.slice2 (v := v) (by repeat constructor)) ?_
   rintro ⟨va, vc, rfl⟩
   skip
   refine jR V (by repeat constructor) rfl (by repeat constructor) fun w hs => ?_
   exact ⟨(_, _), rfl, hs.sp (by repeat constructor)⟩
theorem yield_no (w : World) (lo hi : Nat) (a : Option Addr) (cp : Nat) (s : List Lp) (r : Rl) (h : RdL w lo hi (.slice a s.length cp) s) (hlen : s.length ≤ 1000000) (e : checkS s r ≠ 0) :
  Ca Tryz.prog 45 [.slice a s.length cp, .agg (rlC r).toArray] w fun x w' => x = .tuple #[.slice none 0 0, .slice none 0 0, .int .i64 (checkS s r)] ∧ Chg [] w w' := by
 refine cS (Sat.nil w M0) Tryz.func45 rfl (by simp [Tryz.ntmps45]) ?_
 (refine aD (aB ?_))
 refine bD Z Z (fun b3 => ?_)
 ((iterate 3 refine aA V Z Z ?_); refine aF (aD (aD (aB (aA V Z Z (aJ V Z Z Z ?_))))))
 refine aK (val := .int .i64 (checkS s r)) V rfl rfl rfl rfl (fun w hs => ?_) ?_; exact dH w lo hi _ s r (RdE.keep h hs.chg0) hlen
 generalize checkS s r = z at *
 (refine aA V Z Z (aF (aD (aB (aA V Z Z (bW V Z Z Z (by omega) (aF (aL Z (aD (aB ?_))))))))); (iterate 4 refine aA V Z Z ?_); refine aF (aS ?_))
 refine aU V Z (by repeat constructor) fun w hs => ?_
 exact ⟨rfl, hs.chg0⟩
end Go.Proofs.YtgeajgmefokifaaGreat
