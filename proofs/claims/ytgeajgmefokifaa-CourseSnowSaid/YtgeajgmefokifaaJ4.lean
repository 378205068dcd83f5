/- My texts K22, B27, K23, K24, K25, K1, K26, K27, L0, E0, E16, E17, E18, E19, C2, E20, E21, E22, E1, E2, E3, E4, E5, L7, E6, E7, E8, E9, E10, E11, W5, E12, E13, E14, E15, E23, E24, E25, E26, joined: a claim takes at most 60 files. -/
import Derived.Test.YtgeajgmefokifaaJ3

/- Walks: lists compared; the fewest rules to be given up. -/
namespace Go.Proofs.Ytgeajgmefokifaa
open Go Go.Eng

theorem isNaNR_ca (x : Int) (w : World) : Ca Try.prog 142 [.int .i64 x] w fun v w' => v = .bool false ∧ Chg [] w w' := by
  refine q_of (Sat.nil w M0) Try.func142 rfl (by simp [Try.ntmps142]) ?_
  (refine q_seq ?_; refine q_region ?_; refine ql_pure tabOk rfl rfl ?_; refine q_nil ?_; refine q_seq ?_; refine q_region ?_; (iterate 2 refine ql_pure tabOk rfl rfl ?_); refine ql_neqF tabOk rfl rfl rfl (by omega) ?_; refine ql_pure tabOk rfl rfl ?_; refine q_nil ?_; refine q_ret ?_)
  refine q_fin tabOk rfl (by repeat (first | exact RVs.nil | apply RVs.tmp rfl | apply RVs.cellA rfl rfl (by repeat first | exact .head _ | refine .tail _ ?_) (by rfl) | apply RVs.cell1 rfl rfl (by repeat first | exact .head _ | refine .tail _ ?_))) fun w hs => ?_
  exact ⟨by simp [retV], hs.chg0⟩
def cmpI (x y : Int) : Int := if x < y then -1 else if y < x then 1 else 0
theorem cmpR_ca (x y : Int) (w : World) : Ca Try.prog 121 [.int .i64 x, .int .i64 y] w fun v w' => v = .int .i64 (cmpI x y) ∧ Chg [] w w' := by
  refine q_of (Sat.nil w M0) Try.func121 rfl (by simp [Try.ntmps121]) ?_
  (refine q_seq ?_; refine q_region ?_; refine ql_pure tabOk rfl rfl ?_; refine q_nil ?_; refine q_seq ?_; refine q_region ?_; refine ql_pure tabOk rfl rfl ?_)
  refine ql_callv (val := .bool false) tabOk rfl rfl rfl rfl (fun w hs => ?_) ?_; exact isNaNR_ca x w
  (refine ql_pure tabOk rfl rfl ?_; refine q_nil ?_; refine q_seq ?_; refine q_region ?_; refine ql_pure tabOk rfl rfl ?_)
  refine ql_callv (val := .bool false) tabOk rfl rfl rfl rfl (fun w hs => ?_) ?_; exact isNaNR_ca y w
  (refine ql_pure tabOk rfl rfl ?_; refine q_nil ?_; (iterate 2 refine q_seq ?_); refine q_region ?_; refine ql_pure tabOk rfl rfl ?_; refine q_nil ?_; refine q_cond_false rfl ?_; refine q_skip ?_; (iterate 2 refine q_seq ?_); refine q_region ?_; refine ql_pure tabOk rfl rfl ?_; refine q_nil ?_; refine q_cond_false rfl ?_; refine q_skip ?_; (iterate 2 refine q_seq ?_); refine q_region ?_; (iterate 3 refine ql_pure tabOk rfl rfl ?_); refine q_nil ?_)
  refine q_if rfl (fun hc => ?_) (fun hc => ?_)
  · have h1 : x < y := by first | assumption | (simpa using hc)
    (refine q_seq ?_; refine q_region ?_; refine ql_pure tabOk rfl rfl ?_; refine q_nil ?_; refine q_ret ?_)
    refine q_fin tabOk rfl (by repeat (first | exact RVs.nil | apply RVs.tmp rfl | apply RVs.cellA rfl rfl (by repeat first | exact .head _ | refine .tail _ ?_) (by rfl) | apply RVs.cell1 rfl rfl (by repeat first | exact .head _ | refine .tail _ ?_))) fun w hs => ?_
    exact ⟨by simp only [retV, cmpI]; rw [if_pos h1], hs.chg0⟩
  · have h1 : ¬ x < y := by first | assumption | (simpa using hc)
    clear hc
    (refine q_skip ?_; (iterate 2 refine q_seq ?_); refine q_region ?_; (iterate 3 refine ql_pure tabOk rfl rfl ?_); refine q_nil ?_)
    refine q_if rfl (fun hc => ?_) (fun hc => ?_)
    · have h2 : y < x := by first | assumption | (simpa using hc)
      (refine q_seq ?_; refine q_region ?_; refine ql_pure tabOk rfl rfl ?_; refine q_nil ?_; refine q_ret ?_)
      refine q_fin tabOk rfl (by repeat (first | exact RVs.nil | apply RVs.tmp rfl | apply RVs.cellA rfl rfl (by repeat first | exact .head _ | refine .tail _ ?_) (by rfl) | apply RVs.cell1 rfl rfl (by repeat first | exact .head _ | refine .tail _ ?_))) fun w hs => ?_
      exact ⟨by simp only [retV, cmpI]; rw [if_neg h1, if_pos h2], hs.chg0⟩
    · have h2 : ¬ y < x := by first | assumption | (simpa using hc)
      (refine q_skip ?_; refine q_seq ?_; refine q_region ?_; refine ql_pure tabOk rfl rfl ?_; refine q_nil ?_; refine q_ret ?_)
      refine q_fin tabOk rfl (by repeat (first | exact RVs.nil | apply RVs.tmp rfl | apply RVs.cellA rfl rfl (by repeat first | exact .head _ | refine .tail _ ?_) (by rfl) | apply RVs.cell1 rfl rfl (by repeat first | exact .head _ | refine .tail _ ?_))) fun w hs => ?_
      exact ⟨by simp only [retV, cmpI]; rw [if_neg h1, if_neg h2], hs.chg0⟩
theorem cmpB_drop {a b : List Int} {k : Nat} (h1 : k < a.length) (h2 : k < b.length) : cmpB (a.drop k) (b.drop k) = if a[k] = b[k] then cmpB (a.drop (k + 1)) (b.drop (k + 1)) else decide (a[k] < b[k]) && true := by
  rw [List.drop_eq_getElem_cons h1, List.drop_eq_getElem_cons h2, cmpB]

set_option maxHeartbeats 1000000 in
theorem compR_ca (w : World) (lo hi lo2 hi2 : Nat) (v u : Value) (a b : List Int) (h : RdI w lo hi v a) (g : RdI w lo2 hi2 u b) (hl : a.length ≤ 1000000) (hl2 : b.length ≤ 1000000) :
    Ca Try.prog 85 [v, u] w fun r w' => ∃ z : Int, (r = .int .i64 z ∧ -1 ≤ z ∧ z ≤ 1 ∧ (z < 0 ↔ cmpB a b = true)) ∧ Sat w M0 [] w' := by
  obtain ⟨aa, ca, rfl, hsa⟩ := RdI.outI h
  obtain ⟨ab, cb, rfl, hsb⟩ := RdI.outI g
  refine q_of (Sat.nil w M0) Try.func85 rfl (by simp [Try.ntmps85]) ?_
  (refine q_seq ?_; refine q_region ?_; refine ql_pure tabOk rfl rfl ?_; refine q_nil ?_; (iterate 2 refine q_seq ?_); refine q_region ?_; (iterate 3 refine ql_pure tabOk rfl rfl ?_); refine q_nil ?_; refine q_block ?_)
  refine q_loop (σ := Nat) (fun k => k ≤ a.length ∧ k ≤ b.length ∧ cmpB a b = cmpB (a.drop k) (b.drop k)) (fun k => a.length - k) (fun k => [(0, .slice aa a.length ca), (1, .slice ab b.length cb), (9, .slice aa a.length ca), (10, .int .i64 a.length), (11, .int .i64 k)]) (fun _ => []) 0 ⟨by simp, by simp, by simp⟩ ⟨rfl, rfl, rfl, rfl, rfl, trivial⟩ .nil ?_
  rintro k ⟨hk, hkb, hC⟩ K hK
  (refine q_seq ?_; refine q_region ?_; refine ql_pure tabOk rfl rfl ?_; refine q_nil ?_; refine q_seq ?_)
  refine q_if rfl (fun hc => ?_) (fun hc => ?_)
  · have hk2 : k < a.length := by omega
    clear hc
    obtain ⟨ba, oa, rfl⟩ := hsa (by omega)
    (refine q_skip ?_; refine q_seq ?_; refine q_block ?_; refine q_seq ?_; refine q_region ?_; refine ql_pure tabOk rfl rfl ?_)
    (refine ql_index tabOk rfl rfl rfl rfl rfl (by omega) (by omega) ?_; refine ql_load1 tabOk rfl rfl rfl (fun w hs => RdI.at (h.keep hs.chg0) k hk2) ?_)
    ((iterate 2 refine ql_pure tabOk rfl rfl ?_); refine q_nil ?_; (iterate 2 refine q_seq ?_); refine q_region ?_; (iterate 4 refine ql_pure tabOk rfl rfl ?_); refine q_nil ?_)
    refine q_if rfl (fun hc => ?_) (fun hc => ?_)
    · have hb : b.length ≤ k := by first | omega | (simp at hc; omega)
      have e : cmpB a b = false := by
        rw [hC, List.drop_eq_getElem_cons hk2, List.drop_eq_nil_of_le hb]
        rfl
      (refine q_seq ?_; refine q_region ?_; refine ql_pure tabOk rfl rfl ?_; refine q_nil ?_; refine q_ret ?_)
      refine q_fin tabOk rfl (by repeat (first | exact RVs.nil | apply RVs.tmp rfl | apply RVs.cellA rfl rfl (by repeat first | exact .head _ | refine .tail _ ?_) (by rfl) | apply RVs.cell1 rfl rfl (by repeat first | exact .head _ | refine .tail _ ?_))) fun w hs => ?_
      exact ⟨1, ⟨rfl, by omega, by omega, by simp [e]⟩, hs⟩
    · have hb : k < b.length := by first | omega | (simp at hc; omega)
      clear hc
      obtain ⟨bb, ob, rfl⟩ := hsb (by omega)
      have hd := cmpB_drop hk2 hb
      (refine q_skip ?_; refine q_seq ?_; refine q_region ?_; (iterate 2 refine ql_pure tabOk rfl rfl ?_))
      (refine ql_index tabOk rfl rfl rfl rfl rfl (by omega) (by omega) ?_; refine ql_load1 tabOk rfl rfl rfl (fun w hs => RdI.at (g.keep hs.chg0) k hb) ?_)
      (refine ql_pure tabOk rfl rfl ?_; refine q_nil ?_; refine q_seq ?_; refine q_region ?_; (iterate 2 refine ql_pure tabOk rfl rfl ?_))
      refine ql_callv (val := .int .i64 (cmpI a[k] b[k])) tabOk rfl rfl rfl rfl (fun w hs => ?_) ?_; exact cmpR_ca _ _ w
      generalize a[k] = x at *
      generalize b[k] = y at *
      rcases Int.lt_trichotomy x y with hxy | hxy | hxy
      · have e : cmpI x y = -1 := by unfold cmpI; rw [if_pos hxy]
        have e2 : cmpB a b = true := by rw [hC, hd, if_neg (by omega)]; simp [hxy]
        rw [e]
        (refine ql_pure tabOk rfl rfl ?_; refine q_nil ?_; refine q_seq ?_; refine q_region ?_; refine ql_pure tabOk rfl rfl ?_; refine ql_neqT tabOk rfl rfl rfl (by omega) ?_; refine q_nil ?_; refine q_cond_true rfl ?_; refine q_seq ?_; refine q_region ?_; (iterate 2 refine ql_pure tabOk rfl rfl ?_); refine q_nil ?_; refine q_ret ?_)
        refine q_fin tabOk rfl (by repeat (first | exact RVs.nil | apply RVs.tmp rfl | apply RVs.cellA rfl rfl (by repeat first | exact .head _ | refine .tail _ ?_) (by rfl) | apply RVs.cell1 rfl rfl (by repeat first | exact .head _ | refine .tail _ ?_))) fun w hs => ?_
        exact ⟨-1, ⟨rfl, by omega, by omega, by simp [e2]⟩, hs⟩
      · have e : cmpI x y = 0 := by unfold cmpI; rw [if_neg (by omega), if_neg (by omega)]
        rw [e]
        (refine ql_pure tabOk rfl rfl ?_; refine q_nil ?_; refine q_seq ?_; refine q_region ?_; refine ql_pure tabOk rfl rfl ?_; refine ql_neqF tabOk rfl rfl rfl (by omega) ?_; refine q_nil ?_; refine q_cond_false rfl ?_; refine q_skip ?_; refine q_blk ?_; refine q_region ?_; refine ql_ar tabOk rfl rfl rfl rfl (by omega) (by omega) ?_; refine ql_pure tabOk rfl rfl ?_; refine q_nil ?_)
        exact hK (k + 1) _ _ ⟨by omega, by omega, by rw [hC, hd, if_pos hxy]⟩ (by omega) ⟨rfl, rfl, rfl, rfl, rfl, trivial⟩ .nil
      · have e : cmpI x y = 1 := by unfold cmpI; rw [if_neg (by omega), if_pos hxy]
        have e2 : cmpB a b = false := by rw [hC, hd, if_neg (by omega)]; simp; omega
        rw [e]
        (refine ql_pure tabOk rfl rfl ?_; refine q_nil ?_; refine q_seq ?_; refine q_region ?_; refine ql_pure tabOk rfl rfl ?_; refine ql_neqT tabOk rfl rfl rfl (by omega) ?_; refine q_nil ?_; refine q_cond_true rfl ?_; refine q_seq ?_; refine q_region ?_; (iterate 2 refine ql_pure tabOk rfl rfl ?_); refine q_nil ?_; refine q_ret ?_)
        refine q_fin tabOk rfl (by repeat (first | exact RVs.nil | apply RVs.tmp rfl | apply RVs.cellA rfl rfl (by repeat first | exact .head _ | refine .tail _ ?_) (by rfl) | apply RVs.cell1 rfl rfl (by repeat first | exact .head _ | refine .tail _ ?_))) fun w hs => ?_
        exact ⟨1, ⟨rfl, by omega, by omega, by simp [e2]⟩, hs⟩
  · have hka : k = a.length := by omega
    subst hka
    clear hc
    (refine q_exit _ rfl ?_; (iterate 2 refine q_seq ?_); refine q_region ?_; (iterate 5 refine ql_pure tabOk rfl rfl ?_); refine q_nil ?_)
    refine q_if rfl (fun hc => ?_) (fun hc => ?_)
    · have hb : a.length < b.length := by first | omega | (simp at hc; omega)
      have e : cmpB a b = true := by
        rw [hC, List.drop_length, List.drop_eq_getElem_cons hb]
        rfl
      (refine q_seq ?_; refine q_region ?_; refine ql_pure tabOk rfl rfl ?_; refine q_nil ?_; refine q_ret ?_)
      refine q_fin tabOk rfl (by repeat (first | exact RVs.nil | apply RVs.tmp rfl | apply RVs.cellA rfl rfl (by repeat first | exact .head _ | refine .tail _ ?_) (by rfl) | apply RVs.cell1 rfl rfl (by repeat first | exact .head _ | refine .tail _ ?_))) fun w hs => ?_
      exact ⟨-1, ⟨rfl, by omega, by omega, by simp [e]⟩, hs⟩
    · have hb : ¬ a.length < b.length := by first | omega | (simp at hc; omega)
      have e : cmpB a b = false := by
        rw [hC, List.drop_length, List.drop_eq_nil_of_le (by omega)]
        rfl
      (refine q_skip ?_; refine q_seq ?_; refine q_region ?_; refine ql_pure tabOk rfl rfl ?_; refine q_nil ?_; refine q_ret ?_)
      refine q_fin tabOk rfl (by repeat (first | exact RVs.nil | apply RVs.tmp rfl | apply RVs.cellA rfl rfl (by repeat first | exact .head _ | refine .tail _ ?_) (by rfl) | apply RVs.cell1 rfl rfl (by repeat first | exact .head _ | refine .tail _ ?_))) fun w hs => ?_
      exact ⟨0, ⟨rfl, by omega, by omega, by simp [e]⟩, hs⟩

theorem brk_len (s : List Lp) (r : Rl) (c : List Int) : (brkL s r c).length ≤ 5 := markI_len (marksV s r c) 0
theorem yieldO_snoc (s : List Lp) (r : Rl) (pre : List (List Int)) (c : List Int) : yieldO s r (pre ++ [c]) = yieldS s r (yieldO s r pre) c := by simp [yieldO, List.foldl_append]

set_option maxHeartbeats 4000000 in
theorem yield_ok (w : World) (lo hi : Nat) (a : Option Addr) (cp : Nat) (s : List Lp) (r : Rl) (b : List Int) (h : RdL w lo hi (.slice a s.length cp) s) (hcr : CR s r) (ho : yieldO s r (coursesL s.length (nL r)) = some b) :
    Ca Try.prog 33 [.slice a s.length cp, .agg (rlC r).toArray] w fun x w' => ∃ y : Value × Value, x = .tuple #[y.1, y.2, .int .i64 0] ∧ Sat w M0 [.ow y.1 88 1 (brkL s r b).length (ints (brkL s r b)), .ow y.2 3 1 b.length (ints b)] w' := by
  have hn2 := hcr.s.n2
  have hla := hcr.r.laps
  refine q_ofM (Sat.nil w M0) Try.func33 rfl (by simp [Try.ntmps33]) ?_
  (refine q_seq ?_; refine q_region ?_)
  refine ql_box rfl rfl (fun b3 => ?_)
  ((iterate 3 refine ql_pure tabOk rfl rfl ?_); refine q_nil ?_; (iterate 2 refine q_seq ?_); refine q_region ?_; refine ql_pure tabOk rfl rfl ?_; refine ql_loadAB tabOk rfl rfl rfl (by repeat first | exact .head _ | refine .tail _ ?_) (by rfl) (by rfl) ?_)
  refine ql_callv (val := .int .i64 0) tabOk rfl rfl rfl rfl (fun w hs => ?_) ?_; exact by have := checkS_ca w lo hi _ s r (RdE.keep h hs.chg0) (by omega); rw [checkS_iff.2 hcr] at this; exact this
  (refine ql_pure tabOk rfl rfl ?_; refine q_nil ?_; refine q_seq ?_; refine q_region ?_; refine ql_pure tabOk rfl rfl ?_; refine ql_neqF tabOk rfl rfl rfl (by omega) ?_; refine q_nil ?_; refine q_cond_false rfl ?_; refine q_skip ?_; refine q_seq ?_; refine q_region ?_; refine ql_loadAB tabOk rfl rfl rfl (by repeat first | exact .head _ | refine .tail _ ?_) (by rfl) (by rfl) ?_; refine ql_pure tabOk rfl rfl ?_)
  refine ql_mk #[.int .i64 r.laps, .int .i64 r.g0, .int .i64 r.g1, .int .i64 r.c0, .int .i64 r.c1, .int .i64 r.p0, .int .i64 r.p1, .int .i64 r.wide, .int .i64 r.uses, .slice a s.length cp] rfl (by kernel_rfl) rfl ?_
  skip
  refine ql_alloc zero152 rfl (fun b8 => ?_)
  (refine ql_setA tabOk rfl rfl rfl rfl rfl (by repeat constructor) rfl ?_; refine q_nil ?_; refine q_seq ?_; refine q_region ?_)
  refine ql_alloc zero39 rfl (fun b9 => ?_)
  (refine q_nil ?_; refine q_seq ?_; refine q_region ?_)
  refine ql_alloc zero27 rfl (fun b10 => ?_)
  (refine q_nil ?_; (iterate 2 refine q_seq ?_); refine q_region ?_; refine ql_loadAB tabOk rfl rfl rfl (by repeat first | exact .head _ | refine .tail _ ?_) (by rfl) (by rfl) ?_)
  refine ql_call (β := Nat) tabOk [] _ M0 rfl rfl rfl rfl (Sp.refl _) (fun _ h => h.elim) (fun w' hs => courses_ca w' a s.length cp r) ?_
  rintro bb _ rfl
  (refine q_nil ?_; refine q_block ?_)
  refine q_conv (H' := [.pt b9 [.slice none 0 0] 39, .pt b10 [.slice none 0 0] 27, .ow (.slice none 0 0) 88 1 ([] : List Int).length (ints []), .ow (.slice none 0 0) 3 1 ([] : List Int).length (ints []), .pt bb (dkC r a s.length cp) 152, .pt b8 (dkC r a s.length cp) 152])
    (fun w' hs => (Sat.ownil (Sat.ownil hs 88 1) 3 1).sp (by repeat (first | exact Sp.nil | exact Sp.refl _ | refine Sp.cons (by repeat constructor) ?_))) ?_
  refine q_rangeP (α := Value × List Int) (fun x => [x.1]) (·.2) cK ((Value × List Int) × Value × List Int) (coursesL s.length (nL r)) (fun pre st => BestI (yieldO s r pre) st.2.1 st.2.2 ∧ st.2.2.length ≤ 6 ∧ st.1.2.length ≤ 5 ∧ (0 < st.2.2.length → st.1.2 = brkL s r st.2.2)) (fun _ _ => False)
    (fun st => [.pt b9 [st.1.1] 39, .pt b10 [st.2.1] 27, .ow st.1.1 88 1 st.1.2.length (ints st.1.2), .ow st.2.1 3 1 st.2.2.length (ints st.2.2)]) [.pt bb (dkC r a s.length cp) 152, .pt b8 (dkC r a s.length cp) 152] ((.slice none 0 0, []), .slice none 0 0, [])
    rfl (by kernel_rfl) rfl (fun _ => rfl) ⟨.inl ⟨rfl, rfl, rfl⟩, by simp, by simp, by simp⟩ (by repeat (first | exact Sp.nil | exact Sp.refl _ | refine Sp.cons (by repeat constructor) ?_)) ?_ ?_ ?_ (fun _ _ _ h => h.elim)
  · intro w1 D hs hD
    exact courses_it w1 D bb a s.length cp r hla hn2 (hs.blk (by repeat first | exact .head _ | refine .tail _ ?_)) (fun h => (hD _ h).1 ⟨.pt bb (dkC r a s.length cp) _, (by repeat first | exact .head _ | refine .tail _ ?_), rfl⟩)
  · rintro pre ⟨u, c⟩ post ⟨⟨rv, rl⟩, v, bl⟩ w1 l rdy bsy K F' hxx ⟨hI, h6, h5, hrl⟩ hsat hR hbegin hend hret hexit
    simp only at hI hxx h6 h5 hrl
    dsimp only
    obtain ⟨m1, m2, m3⟩ := memC hxx
    have hlm : c.length ≤ 6 := by unfold nL at m1; omega
    have hlp : 0 < c.length := by unfold nL at m1; omega
    have hsn := yieldO_snoc s r pre c
    have h55 := brk_len s r c
    dsimp only [lsK, cK, List.cons_append, List.nil_append] at hsat hR hbegin hend ⊢
    obtain ⟨ug, uc, rfl⟩ := hsat.ownSome (v := u) (by repeat first | exact .head _ | refine .tail _ ?_) hlp
    obtain ⟨rva, rvc, rfl⟩ := hsat.slice2 (v := rv) (by repeat first | exact .head _ | refine .tail _ ?_)
    have hd : ∀ w', ChgP _ w1 w' → Blk w' b8 (dkC r a s.length cp) 152 := fun w' hc => (hR w' hc).blk (by repeat first | exact .head _ | refine .tail _ ?_)
    have hkeep : yieldS s r (yieldO s r pre) c = yieldO s r pre → BestI (yieldO s r (pre ++ [c])) v bl := fun hh => by rw [hsn, hh]; exact hI
    have htake : yieldS s r (yieldO s r pre) c = some c → ∀ x, BestI (yieldO s r (pre ++ [c])) x c := fun hh x => by rw [hsn, hh]; exact .inr ⟨hlp, rfl⟩
    (refine q_region ?_; refine ql_pure tabOk rfl rfl ?_; refine q_nil ?_)
    refine hbegin _ _ ?_
    (refine q_block ?_; refine q_seq ?_; refine q_region ?_; refine ql_loadGA tabOk rfl rfl rfl (by assumption) (by rfl) (by rfl) ?_; refine ql_pure tabOk rfl rfl ?_)
    refine ql_callv (val := mkA s r c) tabOk rfl rfl rfl rfl (fun w hs => ?_) ?_; exact broken_ca w lo hi 0 w.heap.size a cp _ s r c (RdE.keep h (hR w hs.chg).chg0) hcr (hs.rdI (v := .slice (some ⟨ug, 0, none⟩) c.length uc) (l := c) (by repeat first | exact .head _ | refine .tail _ ?_) rfl) m2 hlm
    refine ql_call (β := Value) tabOk [] _ M0 rfl rfl rfl rfl (Sp.refl _) (fun _ h => h.elim) (fun w' hs => rules_ca w' (marksV s r c) rfl) ?_
    rintro _ nv rfl
    change QL _ _ _ _ _ _ _ _ _ _ ([.ow nv 88 1 (brkL s r c).length (ints (brkL s r c))] ++ _)
    dsimp only [List.cons_append, List.nil_append]
    refine ql_fact (fun w hs => hs.slice2 (v := nv) (by repeat first | exact .head _ | refine .tail _ ?_)) ?_
    rintro ⟨nva, nvc, rfl⟩
    (refine ql_pure tabOk rfl rfl ?_; refine q_nil ?_; refine q_seq ?_; refine q_region ?_; refine ql_loadB tabOk rfl rfl rfl (by repeat first | exact .head _ | refine .tail _ ?_) (by rfl) ?_)
    rcases hI with ⟨rfl, rfl, hoo⟩ | ⟨hbl, hoo⟩
    · have ht := htake (by simp [yieldS, hoo, bestS])
      refine ql_eqnil tabOk rfl rfl rfl rfl ?_
      (refine ql_pure tabOk rfl rfl ?_; (iterate 5 refine ql_gno rfl rfl rfl ?_); (iterate 2 refine ql_pure tabOk rfl rfl ?_); (iterate 6 refine ql_gno rfl rfl rfl ?_); (iterate 4 refine ql_gnone rfl rfl ?_); refine ql_gno rfl rfl rfl ?_; refine ql_pure tabOk rfl rfl ?_; refine q_nil ?_; refine q_cond_true rfl ?_; refine q_region ?_; (iterate 2 refine ql_pure tabOk rfl rfl ?_); (iterate 2 refine ql_set tabOk rfl rfl rfl rfl (by repeat constructor) ?_); refine q_nil ?_; refine q_blk ?_)
      exact hend _ _ ((_, brkL s r c), _, c) ⟨ht _, hlm, h55, fun _ => rfl⟩ (by repeat (first | exact Sp.nil | exact Sp.refl _ | refine Sp.cons (by repeat constructor) ?_))
    · obtain ⟨vg, vc, rfl⟩ := hsat.ownSome (v := v) (by repeat first | exact .head _ | refine .tail _ ?_) hbl
      obtain rfl := hrl hbl
      refine ql_eqnil tabOk rfl rfl rfl rfl ?_
      (refine ql_pure tabOk rfl rfl ?_; refine ql_gyes rfl ?_; refine ql_pure tabOk rfl rfl ?_; refine ql_gyes rfl ?_; refine ql_pure tabOk rfl rfl ?_; refine ql_gyes rfl ?_; refine ql_loadB tabOk rfl rfl rfl (by repeat first | exact .head _ | refine .tail _ ?_) (by rfl) ?_; refine ql_gyes rfl ?_; refine ql_pure tabOk rfl rfl ?_; refine ql_gyes rfl ?_; (iterate 3 refine ql_pure tabOk rfl rfl ?_))
      by_cases hlt : (brkL s r c).length < (brkL s r bl).length
      · have ht := htake (by simp [yieldS, hoo, bestS, fewB, hlt])
        rw [decide_eq_true (show ((brkL s r c).length : Int) < (brkL s r bl).length by omega)]
        ((iterate 6 refine ql_gno rfl rfl rfl ?_); (iterate 4 refine ql_gnone rfl rfl ?_); refine ql_gno rfl rfl rfl ?_; refine ql_pure tabOk rfl rfl ?_; refine q_nil ?_; refine q_cond_true rfl ?_; refine q_region ?_; (iterate 2 refine ql_pure tabOk rfl rfl ?_); (iterate 2 refine ql_set tabOk rfl rfl rfl rfl (by repeat constructor) ?_); refine q_nil ?_; refine q_blk ?_)
        exact hend _ _ ((_, brkL s r c), _, c) ⟨ht _, hlm, h55, fun _ => rfl⟩ (by repeat (first | exact Sp.nil | exact Sp.refl _ | refine Sp.cons (by repeat constructor) ?_))
      · rw [decide_eq_false (show ¬ ((brkL s r c).length : Int) < (brkL s r bl).length by omega)]
        (refine ql_gyes rfl ?_; refine ql_pure tabOk rfl rfl ?_; refine ql_gyes rfl ?_; refine ql_pure tabOk rfl rfl ?_; refine ql_gyes rfl ?_; refine ql_loadB tabOk rfl rfl rfl (by repeat first | exact .head _ | refine .tail _ ?_) (by rfl) ?_; refine ql_gyes rfl ?_; refine ql_pure tabOk rfl rfl ?_; refine ql_gyes rfl ?_; refine ql_pure tabOk rfl rfl ?_; refine ql_gyes rfl ?_; refine ql_pure tabOk rfl rfl ?_)
        by_cases heq : (brkL s r c).length = (brkL s r bl).length
        · rw [decide_eq_true (show ((brkL s r c).length : Int) = (brkL s r bl).length by omega)]
          (refine ql_gyes rfl ?_; refine ql_pure tabOk rfl rfl ?_; refine ql_gyes rfl ?_; refine ql_loadB tabOk rfl rfl rfl (by repeat first | exact .head _ | refine .tail _ ?_) (by rfl) ?_; refine ql_gyes rfl ?_)
          refine ql_call (β := Int) (ψ := fun z v => v = .int .i64 z ∧ -1 ≤ z ∧ z ≤ 1 ∧ (z < 0 ↔ cmpB (brkL s r c) (brkL s r bl) = true)) (L' := fun _ => []) tabOk [] _ M0 rfl rfl rfl rfl (Sp.refl _) (fun _ h => h.elim) (fun w' hs => compR_ca w' 0 w'.heap.size 0 w'.heap.size _ _ (brkL s r c) (brkL s r bl) (hs.rdI (v := .slice nva (brkL s r c).length nvc) (l := brkL s r c) (by repeat first | exact .head _ | refine .tail _ ?_) rfl) (hs.rdI (v := .slice rva (brkL s r bl).length rvc) (l := brkL s r bl) (by repeat first | exact .head _ | refine .tail _ ?_) rfl) (by omega) (by omega)) ?_
          rintro z _ ⟨rfl, hz1, hz2, hz3⟩
          by_cases hz : z < 0
          · have hcb := hz3.1 hz
            have ht := htake (by simp [yieldS, hoo, bestS, fewB, heq, hcb])
            (refine ql_gyes rfl ?_; refine ql_lssT tabOk rfl rfl rfl (by omega) ?_; refine ql_gyes rfl ?_; (iterate 2 refine ql_pure tabOk rfl rfl ?_); refine q_nil ?_; refine q_cond_true rfl ?_; refine q_region ?_; (iterate 2 refine ql_pure tabOk rfl rfl ?_); (iterate 2 refine ql_set tabOk rfl rfl rfl rfl (by repeat constructor) ?_); refine q_nil ?_; refine q_blk ?_)
            exact hend _ _ ((_, brkL s r c), _, c) ⟨ht _, hlm, h55, fun _ => rfl⟩ (by repeat (first | exact Sp.nil | exact Sp.refl _ | refine Sp.cons (by repeat constructor) ?_))
          · have hcb : cmpB (brkL s r c) (brkL s r bl) = false := Bool.eq_false_iff.2 fun hh => hz (hz3.2 hh)
            have hk := hkeep (by simp [yieldS, hoo, bestS, fewB, heq, hcb])
            (refine ql_gyes rfl ?_; refine ql_lssF tabOk rfl rfl rfl (by omega) ?_; refine ql_gyes rfl ?_; (iterate 2 refine ql_pure tabOk rfl rfl ?_); refine q_nil ?_; refine q_cond_false rfl ?_; refine q_skip ?_; refine q_blk ?_)
            exact hend _ _ ((_, brkL s r bl), _, bl) ⟨hk, h6, h5, fun _ => rfl⟩ (by repeat (first | exact Sp.nil | exact Sp.refl _ | refine Sp.cons (by repeat constructor) ?_))
        · have hk := hkeep (by simp [yieldS, hoo, bestS, fewB, heq, hlt])
          rw [decide_eq_false (show ¬ ((brkL s r c).length : Int) = (brkL s r bl).length by omega)]
          ((iterate 4 refine ql_gno rfl rfl rfl ?_); refine ql_gyes rfl ?_; (iterate 2 refine ql_pure tabOk rfl rfl ?_); refine q_nil ?_; refine q_cond_false rfl ?_; refine q_skip ?_; refine q_blk ?_)
          exact hend _ _ ((_, brkL s r bl), _, bl) ⟨hk, h6, h5, fun _ => rfl⟩ (by repeat (first | exact Sp.nil | exact Sp.refl _ | refine Sp.cons (by repeat constructor) ?_))
  · rintro D ⟨⟨rv, rl⟩, v, bl⟩ ⟨hI, h6, h5, hrl⟩
    simp only at hI h6 h5 hrl
    rcases hI with ⟨_, _, hoo⟩ | ⟨hbl, hoo⟩
    · rw [ho] at hoo; cases hoo
    · rw [ho] at hoo
      cases hoo
      obtain rfl := hrl hbl
      dsimp only [lsK, cK, List.cons_append, List.nil_append]
      (refine q_blk ?_; refine q_seq ?_)
      refine q_draw _ [] (Sp.refl _) (by kernel_rfl) (by kernel_rfl) ?_
      ((iterate 2 refine qf_loadB tabOk rfl rfl rfl (by repeat first | exact .head _ | refine .tail _ ?_) (by rfl) ?_); (iterate 3 refine qf_pure tabOk rfl rfl rfl ?_); refine qf_nil ?_; refine q_ret ?_)
      refine q_fact (fun w hs => hs.slice2 (v := rv) (by repeat first | exact .head _ | refine .tail _ ?_)) ?_
      rintro ⟨ra, rc, rfl⟩
      refine q_fact (fun w hs => hs.slice2 (v := v) (by repeat first | exact .head _ | refine .tail _ ?_)) ?_
      rintro ⟨va, vc, rfl⟩
      skip
      refine q_finMD tabOk (by repeat constructor) rfl (by repeat (first | exact RVs.nil | apply RVs.tmp rfl | apply RVs.cellA rfl rfl (by repeat first | exact .head _ | refine .tail _ ?_) (by rfl) | apply RVs.cell1 rfl rfl (by repeat first | exact .head _ | refine .tail _ ?_))) fun w hs => ?_
      exact ⟨(_, _), rfl, hs.sp (by repeat (first | exact Sp.nil | exact Sp.refl _ | refine Sp.cons (by repeat constructor) ?_))⟩
end Go.Proofs.Ytgeajgmefokifaa

/- The engine, part B27: structs of flat structs compared. -/
namespace Go.Eng
open Go Go.RowKit

section
variable {P : Program}
def nestF (P : Program) : Nat → List Field → List (List (Option IntKind)) → Bool
  | _, [], [] => true
  | o, f :: fs, k :: ks => !(f.name == "_") && Nat.beq f.offset o && flatB P f.type k && Nat.beq (P.cellsOf f.type) k.length && (P.info? f.type).isSome && nestF P (o + k.length) fs ks
  | _, _, _ => false
def nestB (P : Program) (t : Nat) (ks : List (List (Option IntKind))) : Bool :=
  !(P.stoodInHeld t) && !(P.eqGuardType P.depth t) && (match P.underlying t with | some (.struct fs) => nestF P 0 fs.toList ks | _ => false)
variable {ro : Cx} {n : Nat} {F : Fin} {w0 : World} {M : Nat → Prop} {k : List It} {ops : Array Oper} {rest : List Oper} {e : Env} {H Hq : List Ck}
end
end Go.Eng

/- Walks: lists compared. -/
namespace Go.Proofs.Ytgeajgmefokifaa
open Go Go.Eng

def eqIB (a b : List Int) : Bool := decide (a = b) && true
theorem eqIB_iff {a b : List Int} : eqIB a b = true ↔ a = b := by simp [eqIB]
set_option maxHeartbeats 1000000 in
theorem eqIF_ca (w : World) (lo hi lo2 hi2 : Nat) (v u : Value) (l m : List Int) (h1 : RdI w lo hi v l) (h2 : RdI w lo2 hi2 u m) (hlen : l.length ≤ 1000000) (hlen2 : m.length ≤ 1000000) :
    Ca Try.prog 26 [v, u] w fun r w' => r = .bool (eqIB l m) ∧ Chg [] w w' := by
  obtain ⟨a, ca, rfl, hsa⟩ := RdI.outI h1
  obtain ⟨b, cb, rfl, hsb⟩ := RdI.outI h2
  refine q_of (Sat.nil w M0) Try.func26 rfl (by simp [Try.ntmps26]) ?_
  (refine q_seq ?_; refine q_region ?_; refine ql_pure tabOk rfl rfl ?_; refine q_nil ?_; (iterate 2 refine q_seq ?_); refine q_region ?_; (iterate 5 refine ql_pure tabOk rfl rfl ?_); refine q_nil ?_)
  by_cases hll : l.length = m.length
  · rw [decide_eq_true (show (l.length : Int) = m.length by omega)]
    (refine q_cond_false rfl ?_; refine q_skip ?_; (iterate 2 refine q_seq ?_); refine q_region ?_; (iterate 3 refine ql_pure tabOk rfl rfl ?_); refine q_nil ?_; refine q_block ?_)
    refine q_loop (σ := Nat) (fun s => s ≤ l.length ∧ l.take s = m.take s) (fun s => l.length - s) (fun s => [(0, .slice a l.length ca), (1, .slice b m.length cb), (12, .int .i64 l.length), (13, .int .i64 s)]) (fun _ => []) 0 (by simp) ⟨rfl, rfl, rfl, rfl, trivial⟩ (by repeat (first | exact Sp.nil | exact Sp.refl _ | refine Sp.cons (by repeat constructor) ?_)) ?_
    rintro i ⟨hi, ht⟩ K hK
    (refine q_seq ?_; refine q_region ?_; refine ql_pure tabOk rfl rfl ?_; refine q_nil ?_; refine q_seq ?_)
    refine q_if rfl (fun hc => ?_) (fun hc => ?_)
    · have hi2 : i < l.length := by omega
      have hi3 : i < m.length := by omega
      clear hc
      obtain ⟨ba, oa, rfl⟩ := hsa (by omega)
      obtain ⟨bb, ob, rfl⟩ := hsb (by omega)
      (refine q_skip ?_; refine q_seq ?_; refine q_block ?_; refine q_seq ?_; refine q_region ?_; (iterate 2 refine ql_pure tabOk rfl rfl ?_); refine q_nil ?_; refine q_seq ?_)
      refine q_draw _ [] (Sp.refl _) (by kernel_rfl) (by kernel_rfl) ?_
      ((iterate 2 refine qf_pure tabOk rfl rfl rfl ?_))
      (refine qf_index tabOk rfl rfl rfl rfl rfl (by omega) (by omega) ?_; refine qf_load1 tabOk rfl rfl rfl (fun w hs => RdI.at (RdE.keep h1 hs.chg0) i hi2) ?_)
      ((iterate 2 refine qf_pure tabOk rfl rfl rfl ?_))
      (refine qf_index tabOk rfl rfl rfl rfl rfl (by omega) (by omega) ?_; refine qf_load1 tabOk rfl rfl rfl (fun w hs => RdI.at (RdE.keep h2 hs.chg0) i hi3) ?_)
      (refine qf_pure tabOk rfl rfl rfl ?_; refine qf_nil ?_)
      by_cases he : l[i] = m[i]
      · skip
        rw [decide_eq_true he]
        (refine q_cond_false rfl ?_; refine q_skip ?_; refine q_blk ?_; refine q_region ?_; refine ql_ar tabOk rfl rfl rfl rfl (by omega) (by omega) ?_; refine ql_pure tabOk rfl rfl ?_; refine q_nil ?_)
        exact hK (i + 1) _ _ ⟨by omega, by rw [List.take_succ_eq_append_getElem hi2, List.take_succ_eq_append_getElem hi3, ht, he]⟩ (by omega) ⟨rfl, rfl, rfl, rfl, trivial⟩ (by repeat (first | exact Sp.nil | exact Sp.refl _ | refine Sp.cons (by repeat constructor) ?_))
      · have e : eqIB l m = false := Bool.eq_false_iff.2 fun hh => he (by have := eqIB_iff.1 hh; subst this; rfl)
        rw [e, decide_eq_false he]
        (refine q_cond_true rfl ?_; refine q_seq ?_; refine q_region ?_; refine ql_pure tabOk rfl rfl ?_; refine q_nil ?_; refine q_ret ?_)
        refine q_fin tabOk rfl (by repeat (first | exact RVs.nil | apply RVs.tmp rfl | apply RVs.cellA rfl rfl (by repeat first | exact .head _ | refine .tail _ ?_) (by rfl) | apply RVs.cell1 rfl rfl (by repeat first | exact .head _ | refine .tail _ ?_))) fun w hs => ?_
        exact ⟨rfl, hs.chg0⟩
    · obtain rfl : i = l.length := by omega
      have e : eqIB l m = true := eqIB_iff.2 (by rw [List.take_length] at ht; rw [hll, List.take_length] at ht; exact ht)
      rw [e]
      (refine q_exit _ rfl ?_; refine q_seq ?_; refine q_region ?_; refine ql_pure tabOk rfl rfl ?_; refine q_nil ?_; refine q_ret ?_)
      refine q_fin tabOk rfl (by repeat (first | exact RVs.nil | apply RVs.tmp rfl | apply RVs.cellA rfl rfl (by repeat first | exact .head _ | refine .tail _ ?_) (by rfl) | apply RVs.cell1 rfl rfl (by repeat first | exact .head _ | refine .tail _ ?_))) fun w hs => ?_
      exact ⟨rfl, hs.chg0⟩
  · have e : eqIB l m = false := Bool.eq_false_iff.2 fun hh => hll (by rw [eqIB_iff.1 hh])
    rw [e, decide_eq_false (show ¬ (l.length : Int) = m.length by omega)]
    (refine q_cond_true rfl ?_; refine q_seq ?_; refine q_region ?_; refine ql_pure tabOk rfl rfl ?_; refine q_nil ?_; refine q_ret ?_)
    refine q_fin tabOk rfl (by repeat (first | exact RVs.nil | apply RVs.tmp rfl | apply RVs.cellA rfl rfl (by repeat first | exact .head _ | refine .tail _ ?_) (by rfl) | apply RVs.cell1 rfl rfl (by repeat first | exact .head _ | refine .tail _ ?_))) fun w hs => ?_
    exact ⟨rfl, hs.chg0⟩
theorem eqI_ca (w : World) (lo hi lo2 hi2 : Nat) (v u : Value) (l : List Int) (h1 : RdI w lo hi v l) (h2 : RdI w lo2 hi2 u l) (hlen : l.length ≤ 1000000) :
    Ca Try.prog 26 [v, u] w fun r w' => r = .bool true ∧ Chg [] w w' := by
  have h := eqIF_ca w lo hi lo2 hi2 v u l l h1 h2 hlen hlen
  rwa [eqIB_iff.2 rfl] at h

set_option maxHeartbeats 1000000 in
theorem eqII_ca (w : World) (lo hi lo2 hi2 : Nat) (v u : Value) (ll : List (List Int)) (h1 : RdII w lo hi v ll) (h2 : RdII w lo2 hi2 u ll) (hlen : ll.length ≤ 1000000) (hrow : ∀ l ∈ ll, l.length ≤ 1000000) :
    Ca Try.prog 32 [v, u] w fun r w' => r = .bool true ∧ Chg [] w w' := by
  obtain ⟨a, ca, rfl, hsa⟩ := RdII.outI h1
  obtain ⟨b, cb, rfl, hsb⟩ := RdII.outI h2
  refine q_of (Sat.nil w M0) Try.func32 rfl (by simp [Try.ntmps32]) ?_
  (refine q_seq ?_; refine q_region ?_; refine ql_pure tabOk rfl rfl ?_; refine q_nil ?_; (iterate 2 refine q_seq ?_); refine q_region ?_; (iterate 4 refine ql_pure tabOk rfl rfl ?_); refine ql_neqF tabOk rfl rfl rfl (by omega) ?_; refine q_nil ?_; refine q_cond_false rfl ?_; refine q_skip ?_; (iterate 2 refine q_seq ?_); refine q_region ?_; (iterate 3 refine ql_pure tabOk rfl rfl ?_); refine q_nil ?_; refine q_block ?_)
  refine q_loop (σ := Nat) (fun s => s ≤ ll.length) (fun s => ll.length - s) (fun s => [(0, .slice a ll.length ca), (1, .slice b ll.length cb), (12, .int .i64 ll.length), (13, .int .i64 s)]) (fun _ => []) 0 (by omega) ⟨rfl, rfl, rfl, rfl, trivial⟩ (by repeat (first | exact Sp.nil | exact Sp.refl _ | refine Sp.cons (by repeat constructor) ?_)) ?_
  intro i hi K hK
  (refine q_seq ?_; refine q_region ?_; refine ql_pure tabOk rfl rfl ?_; refine q_nil ?_; refine q_seq ?_)
  refine q_if rfl (fun hc => ?_) (fun hc => ?_)
  · have hi2 : i < ll.length := by omega
    clear hc
    obtain ⟨ba, oa, rfl⟩ := hsa (by omega)
    obtain ⟨bb, ob, rfl⟩ := hsb (by omega)
    obtain ⟨ar, cr, hr1, hc1⟩ := h1.row i hi2
    obtain ⟨br, dr, hr2, hc2⟩ := h2.row i hi2
    have hrl := hrow _ (List.getElem_mem hi2)
    (refine q_skip ?_; refine q_seq ?_; refine q_block ?_; refine q_seq ?_; refine q_region ?_; (iterate 2 refine ql_pure tabOk rfl rfl ?_); refine q_nil ?_; refine q_seq ?_)
    refine q_draw _ [] (Sp.refl _) (by kernel_rfl) (by kernel_rfl) ?_
    ((iterate 2 refine qf_pure tabOk rfl rfl rfl ?_))
    refine qf_index tabOk rfl rfl rfl rfl rfl (by omega) (by omega) ?_
    refine qf_load1 (v := .slice ar ll[i].length cr) tabOk rfl rfl rfl (fun w' hs => hc1 w' hs.chg0) ?_
    ((iterate 2 refine qf_pure tabOk rfl rfl rfl ?_))
    refine qf_index tabOk rfl rfl rfl rfl rfl (by omega) (by omega) ?_
    refine qf_load1 (v := .slice br ll[i].length dr) tabOk rfl rfl rfl (fun w' hs => hc2 w' hs.chg0) ?_
    skip
    refine qf_callv (val := .bool true) tabOk rfl rfl rfl rfl (fun w hs => ?_) ?_; exact eqI_ca w _ _ _ _ _ _ ll[i] (RdE.keep hr1 hs.chg0) (RdE.keep hr2 hs.chg0) hrl
    (refine qf_pure tabOk rfl rfl rfl ?_; refine qf_nil ?_; refine q_cond_false rfl ?_; refine q_skip ?_; refine q_blk ?_; refine q_region ?_; refine ql_ar tabOk rfl rfl rfl rfl (by omega) (by omega) ?_; refine ql_pure tabOk rfl rfl ?_; refine q_nil ?_)
    exact hK (i + 1) _ _ (by omega) (by omega) ⟨rfl, rfl, rfl, rfl, trivial⟩ (by repeat (first | exact Sp.nil | exact Sp.refl _ | refine Sp.cons (by repeat constructor) ?_))
  · (refine q_exit _ rfl ?_; refine q_seq ?_; refine q_region ?_; refine ql_pure tabOk rfl rfl ?_; refine q_nil ?_; refine q_ret ?_)
    refine q_fin tabOk rfl (by repeat (first | exact RVs.nil | apply RVs.tmp rfl | apply RVs.cellA rfl rfl (by repeat first | exact .head _ | refine .tail _ ?_) (by rfl) | apply RVs.cell1 rfl rfl (by repeat first | exact .head _ | refine .tail _ ?_))) fun w hs => ?_
    exact ⟨rfl, hs.chg0⟩

set_option maxHeartbeats 1000000 in
theorem eqR_ca (w : World) (lo hi lo2 hi2 : Nat) (v u : Value) (l : List Int) (h1 : RdI w lo hi v l) (h2 : RdI w lo2 hi2 u l) (hlen : l.length ≤ 1000000) :
    Ca Try.prog 49 [v, u] w fun r w' => r = .bool true ∧ Chg [] w w' := by
  obtain ⟨a, ca, rfl, hsa⟩ := RdI.outI h1
  obtain ⟨b, cb, rfl, hsb⟩ := RdI.outI h2
  refine q_of (Sat.nil w M0) Try.func49 rfl (by simp [Try.ntmps49]) ?_
  (refine q_seq ?_; refine q_region ?_; refine ql_pure tabOk rfl rfl ?_; refine q_nil ?_; (iterate 2 refine q_seq ?_); refine q_region ?_; (iterate 4 refine ql_pure tabOk rfl rfl ?_); refine ql_neqF tabOk rfl rfl rfl (by omega) ?_; refine q_nil ?_; refine q_cond_false rfl ?_; refine q_skip ?_; (iterate 2 refine q_seq ?_); refine q_region ?_; (iterate 3 refine ql_pure tabOk rfl rfl ?_); refine q_nil ?_; refine q_block ?_)
  refine q_loop (σ := Nat) (fun s => s ≤ l.length) (fun s => l.length - s) (fun s => [(0, .slice a l.length ca), (1, .slice b l.length cb), (12, .int .i64 l.length), (13, .int .i64 s)]) (fun _ => []) 0 (by omega) ⟨rfl, rfl, rfl, rfl, trivial⟩ (by repeat (first | exact Sp.nil | exact Sp.refl _ | refine Sp.cons (by repeat constructor) ?_)) ?_
  intro i hi K hK
  (refine q_seq ?_; refine q_region ?_; refine ql_pure tabOk rfl rfl ?_; refine q_nil ?_; refine q_seq ?_)
  refine q_if rfl (fun hc => ?_) (fun hc => ?_)
  · have hi2 : i < l.length := by omega
    clear hc
    obtain ⟨ba, oa, rfl⟩ := hsa (by omega)
    obtain ⟨bb, ob, rfl⟩ := hsb (by omega)
    (refine q_skip ?_; refine q_seq ?_; refine q_block ?_; refine q_seq ?_; refine q_region ?_; (iterate 2 refine ql_pure tabOk rfl rfl ?_); refine q_nil ?_; refine q_seq ?_)
    refine q_draw _ [] (Sp.refl _) (by kernel_rfl) (by kernel_rfl) ?_
    ((iterate 2 refine qf_pure tabOk rfl rfl rfl ?_))
    (refine qf_index tabOk rfl rfl rfl rfl rfl (by omega) (by omega) ?_; refine qf_load1 tabOk rfl rfl rfl (fun w hs => RdI.at (RdE.keep h1 hs.chg0) i hi2) ?_)
    ((iterate 2 refine qf_pure tabOk rfl rfl rfl ?_))
    (refine qf_index tabOk rfl rfl rfl rfl rfl (by omega) (by omega) ?_; refine qf_load1 tabOk rfl rfl rfl (fun w hs => RdI.at (RdE.keep h2 hs.chg0) i hi2) ?_)
    (refine qf_neqF tabOk rfl rfl rfl (by omega) ?_; refine qf_nil ?_; refine q_cond_false rfl ?_; refine q_skip ?_; refine q_blk ?_; refine q_region ?_; refine ql_ar tabOk rfl rfl rfl rfl (by omega) (by omega) ?_; refine ql_pure tabOk rfl rfl ?_; refine q_nil ?_)
    skip
    exact hK (i + 1) _ _ (by omega) (by omega) ⟨rfl, rfl, rfl, rfl, trivial⟩ (by repeat (first | exact Sp.nil | exact Sp.refl _ | refine Sp.cons (by repeat constructor) ?_))
  · (refine q_exit _ rfl ?_; refine q_seq ?_; refine q_region ?_; refine ql_pure tabOk rfl rfl ?_; refine q_nil ?_; refine q_ret ?_)
    refine q_fin tabOk rfl (by repeat (first | exact RVs.nil | apply RVs.tmp rfl | apply RVs.cellA rfl rfl (by repeat first | exact .head _ | refine .tail _ ?_) (by rfl) | apply RVs.cell1 rfl rfl (by repeat first | exact .head _ | refine .tail _ ?_))) fun w hs => ?_
    exact ⟨rfl, hs.chg0⟩

theorem spn_flat : flatB Try.prog 24 [some .i64, some .i64] = true := by kernel_rfl
set_option maxHeartbeats 1000000 in
theorem eqS_ca (w : World) (lo hi lo2 hi2 : Nat) (v u : Value) (l : List (Int × Int)) (h1 : RdS w lo hi v l) (h2 : RdS w lo2 hi2 u l) (hlen : l.length ≤ 1000000) :
    Ca Try.prog 59 [v, u] w fun r w' => r = .bool true ∧ Chg [] w w' := by
  obtain ⟨a, ca, rfl, hsa⟩ := RdS.outI h1
  obtain ⟨b, cb, rfl, hsb⟩ := RdS.outI h2
  refine q_of (Sat.nil w M0) Try.func59 rfl (by simp [Try.ntmps59]) ?_
  (refine q_seq ?_; refine q_region ?_; refine ql_pure tabOk rfl rfl ?_; refine q_nil ?_; (iterate 2 refine q_seq ?_); refine q_region ?_; (iterate 4 refine ql_pure tabOk rfl rfl ?_); refine ql_neqF tabOk rfl rfl rfl (by omega) ?_; refine q_nil ?_; refine q_cond_false rfl ?_; refine q_skip ?_; (iterate 2 refine q_seq ?_); refine q_region ?_; (iterate 3 refine ql_pure tabOk rfl rfl ?_); refine q_nil ?_; refine q_block ?_)
  refine q_loop (σ := Nat) (fun s => s ≤ l.length) (fun s => l.length - s) (fun s => [(0, .slice a l.length ca), (1, .slice b l.length cb), (12, .int .i64 l.length), (13, .int .i64 s)]) (fun _ => []) 0 (by omega) ⟨rfl, rfl, rfl, rfl, trivial⟩ (by repeat (first | exact Sp.nil | exact Sp.refl _ | refine Sp.cons (by repeat constructor) ?_)) ?_
  intro i hi K hK
  (refine q_seq ?_; refine q_region ?_; refine ql_pure tabOk rfl rfl ?_; refine q_nil ?_; refine q_seq ?_)
  refine q_if rfl (fun hc => ?_) (fun hc => ?_)
  · have hi2 : i < l.length := by omega
    clear hc
    obtain ⟨ba, oa, rfl⟩ := hsa (by omega)
    obtain ⟨bb, ob, rfl⟩ := hsb (by omega)
    (refine q_skip ?_; refine q_seq ?_; refine q_block ?_; refine q_seq ?_; refine q_region ?_; (iterate 2 refine ql_pure tabOk rfl rfl ?_); refine q_nil ?_; refine q_seq ?_)
    refine q_draw _ [] (Sp.refl _) (by kernel_rfl) (by kernel_rfl) ?_
    ((iterate 2 refine qf_pure tabOk rfl rfl rfl ?_))
    refine qf_index tabOk rfl rfl rfl rfl rfl (by omega) (by omega) ?_
    refine qf_loadA tabOk rfl rfl rfl rfl (fun w hs => RdS.at (RdE.keep h1 hs.chg0) i hi2) ?_
    ((iterate 2 refine qf_pure tabOk rfl rfl rfl ?_))
    refine qf_index tabOk rfl rfl rfl rfl rfl (by omega) (by omega) ?_
    refine qf_loadA tabOk rfl rfl rfl rfl (fun w hs => RdS.at (RdE.keep h2 hs.chg0) i hi2) ?_
    skip
    refine qf_neF [some .i64, some .i64] spn_flat rfl rfl rfl rfl rfl ?_
    rw [eqL_refl]
    (refine qf_nil ?_; refine q_cond_false rfl ?_; refine q_skip ?_; refine q_blk ?_; refine q_region ?_; refine ql_ar tabOk rfl rfl rfl rfl (by omega) (by omega) ?_; refine ql_pure tabOk rfl rfl ?_; refine q_nil ?_)
    exact hK (i + 1) _ _ (by omega) (by omega) ⟨rfl, rfl, rfl, rfl, trivial⟩ (by repeat (first | exact Sp.nil | exact Sp.refl _ | refine Sp.cons (by repeat constructor) ?_))
  · (refine q_exit _ rfl ?_; refine q_seq ?_; refine q_region ?_; refine ql_pure tabOk rfl rfl ?_; refine q_nil ?_; refine q_ret ?_)
    refine q_fin tabOk rfl (by repeat (first | exact RVs.nil | apply RVs.tmp rfl | apply RVs.cellA rfl rfl (by repeat first | exact .head _ | refine .tail _ ?_) (by rfl) | apply RVs.cell1 rfl rfl (by repeat first | exact .head _ | refine .tail _ ?_))) fun w hs => ?_
    exact ⟨rfl, hs.chg0⟩

theorem lp_flat : flatB Try.prog 31 [some .i64, some .i64, some .i64] = true := by kernel_rfl
set_option maxHeartbeats 1000000 in
theorem eqL_ca (w : World) (lo hi lo2 hi2 : Nat) (v u : Value) (l : List Lp) (h1 : RdL w lo hi v l) (h2 : RdL w lo2 hi2 u l) (hlen : l.length ≤ 1000000) :
    Ca Try.prog 28 [v, u] w fun r w' => r = .bool true ∧ Chg [] w w' := by
  obtain ⟨a, ca, rfl, hsa⟩ := RdL.outI h1
  obtain ⟨b, cb, rfl, hsb⟩ := RdL.outI h2
  refine q_of (Sat.nil w M0) Try.func28 rfl (by simp [Try.ntmps28]) ?_
  (refine q_seq ?_; refine q_region ?_; refine ql_pure tabOk rfl rfl ?_; refine q_nil ?_; (iterate 2 refine q_seq ?_); refine q_region ?_; (iterate 4 refine ql_pure tabOk rfl rfl ?_); refine ql_neqF tabOk rfl rfl rfl (by omega) ?_; refine q_nil ?_; refine q_cond_false rfl ?_; refine q_skip ?_; (iterate 2 refine q_seq ?_); refine q_region ?_; (iterate 3 refine ql_pure tabOk rfl rfl ?_); refine q_nil ?_; refine q_block ?_)
  refine q_loop (σ := Nat) (fun s => s ≤ l.length) (fun s => l.length - s) (fun s => [(0, .slice a l.length ca), (1, .slice b l.length cb), (12, .int .i64 l.length), (13, .int .i64 s)]) (fun _ => []) 0 (by omega) ⟨rfl, rfl, rfl, rfl, trivial⟩ (by repeat (first | exact Sp.nil | exact Sp.refl _ | refine Sp.cons (by repeat constructor) ?_)) ?_
  intro i hi K hK
  (refine q_seq ?_; refine q_region ?_; refine ql_pure tabOk rfl rfl ?_; refine q_nil ?_; refine q_seq ?_)
  refine q_if rfl (fun hc => ?_) (fun hc => ?_)
  · have hi2 : i < l.length := by omega
    clear hc
    obtain ⟨ba, oa, rfl⟩ := hsa (by omega)
    obtain ⟨bb, ob, rfl⟩ := hsb (by omega)
    (refine q_skip ?_; refine q_seq ?_; refine q_block ?_; refine q_seq ?_; refine q_region ?_; (iterate 2 refine ql_pure tabOk rfl rfl ?_); refine q_nil ?_; refine q_seq ?_)
    refine q_draw _ [] (Sp.refl _) (by kernel_rfl) (by kernel_rfl) ?_
    ((iterate 2 refine qf_pure tabOk rfl rfl rfl ?_))
    refine qf_index tabOk rfl rfl rfl rfl rfl (by omega) (by omega) ?_
    refine qf_loadA tabOk rfl rfl rfl rfl (fun w hs => RdL.at (RdE.keep h1 hs.chg0) i hi2) ?_
    ((iterate 2 refine qf_pure tabOk rfl rfl rfl ?_))
    refine qf_index tabOk rfl rfl rfl rfl rfl (by omega) (by omega) ?_
    refine qf_loadA tabOk rfl rfl rfl rfl (fun w hs => RdL.at (RdE.keep h2 hs.chg0) i hi2) ?_
    skip
    refine qf_neF [some .i64, some .i64, some .i64] lp_flat rfl rfl rfl rfl rfl ?_
    rw [eqL_refl]
    (refine qf_nil ?_; refine q_cond_false rfl ?_; refine q_skip ?_; refine q_blk ?_; refine q_region ?_; refine ql_ar tabOk rfl rfl rfl rfl (by omega) (by omega) ?_; refine ql_pure tabOk rfl rfl ?_; refine q_nil ?_)
    exact hK (i + 1) _ _ (by omega) (by omega) ⟨rfl, rfl, rfl, rfl, trivial⟩ (by repeat (first | exact Sp.nil | exact Sp.refl _ | refine Sp.cons (by repeat constructor) ?_))
  · (refine q_exit _ rfl ?_; refine q_seq ?_; refine q_region ?_; refine ql_pure tabOk rfl rfl ?_; refine q_nil ?_; refine q_ret ?_)
    refine q_fin tabOk rfl (by repeat (first | exact RVs.nil | apply RVs.tmp rfl | apply RVs.cellA rfl rfl (by repeat first | exact .head _ | refine .tail _ ?_) (by rfl) | apply RVs.cell1 rfl rfl (by repeat first | exact .head _ | refine .tail _ ?_))) fun w hs => ?_
    exact ⟨rfl, hs.chg0⟩

end Go.Proofs.Ytgeajgmefokifaa

/- Walks: the examples; awake. -/
namespace Go.Proofs.Ytgeajgmefokifaa
open Go Go.Eng

theorem Blk.rdS {w : World} {b : Nat} {l : List (Int × Int)} {cs : List Value} {t : TypeId} {c : Nat} (h : Blk w b cs t) (hc : cs = spC l) : RdS w 0 w.heap.size (.slice (some ⟨b, 0, none⟩) l.length c) l := by
  subst hc
  exact RdS.of ⟨spC_length l, .inr ⟨b, 0, c, rfl, fun _ => ⟨Nat.zero_le _, h.lt, h.lt⟩, fun j _ => by rw [Blk.cell h]; simp⟩⟩
theorem Blk.rdL {w : World} {b : Nat} {l : List Lp} {cs : List Value} {t : TypeId} {c : Nat} (h : Blk w b cs t) (hc : cs = lpC l) : RdL w 0 w.heap.size (.slice (some ⟨b, 0, none⟩) l.length c) l := by
  subst hc
  exact RdL.of ⟨lpC_length l, .inr ⟨b, 0, c, rfl, fun _ => ⟨Nat.zero_le _, h.lt, h.lt⟩, fun j _ => by rw [Blk.cell h]; simp⟩⟩
theorem Blk.rdD {w : World} {b : Nat} {l : List Dy} {cs : List Value} {t : TypeId} {c : Nat} (h : Blk w b cs t) (hc : cs = dyC l) : RdD w 0 w.heap.size (.slice (some ⟨b, 0, none⟩) l.length c) l := by
  subst hc
  exact RdD.of ⟨dyC_length l, .inr ⟨b, 0, c, rfl, fun _ => ⟨Nat.zero_le _, h.lt, h.lt⟩, fun j _ => by rw [Blk.cell h]; simp⟩⟩
theorem RdII.of {w : World} {lo hi : Nat} {v : Value} {ll : List (List Int)} {vs : List Value} (h : Rd w lo hi v 1 vs.length vs) (h1 : vs.length = ll.length) (h2 : ∀ i (h : i < vs.length) (h' : i < ll.length), RdI w lo hi vs[i] ll[i]) (h3 : ∀ e ∈ vs, oneV e = true) : RdII w lo hi v ll :=
  ⟨vs, RdE.one h h3, h1, h2⟩
theorem spanM_ca (a b : Int) (w : World) : Ca Try.prog 42 [.int .i64 a, .int .i64 b] w fun v w' => v = .agg #[.int .i64 a, .int .i64 b] ∧ Chg [] w w' := by
  refine q_of (Sat.nil w M0) Try.func42 rfl (by simp [Try.ntmps42]) ?_
  (refine q_seq ?_; refine q_region ?_)
  refine ql_alloc zero24 rfl (fun b2 => ?_)
  (refine q_nil ?_; refine q_seq ?_; refine q_region ?_; (iterate 2 refine ql_pure tabOk rfl rfl ?_))
  refine ql_mk #[.int .i64 a, .int .i64 b] rfl (by kernel_rfl) rfl ?_
  (refine ql_setA tabOk rfl rfl rfl rfl rfl (by repeat constructor) rfl ?_; refine q_nil ?_; refine q_ret ?_)
  refine q_fin tabOk rfl (by repeat (first | exact RVs.nil | apply RVs.tmp rfl | apply RVs.cellA rfl rfl (by repeat first | exact .head _ | refine .tail _ ?_) (by rfl) | apply RVs.cell1 rfl rfl (by repeat first | exact .head _ | refine .tail _ ?_))) fun w hs => ?_
  exact ⟨rfl, hs.chg0⟩
def threeS : List Lp := [⟨2000, 60, 6⟩, ⟨2500, 90, 6⟩, ⟨3000, 100, 6⟩]
def threeR : Rl := ⟨3, 7000, 7500, 200, 270, 2000, 3000, 6, 2⟩
def threeQ : Rl := ⟨3, 7000, 7000, 200, 270, 2000, 3000, 6, 1⟩
def shortW (n : Int) : Wn := ⟨500, 800, [⟨300, 300, 100, 200, 10, 20⟩, ⟨200, 400, 300, 600, 10, 20⟩, ⟨min n 500, n, 0, 100, 10, 20⟩]⟩
theorem three_ca (w : World) : Ca Try.prog 86 [] w fun v w' => ∃ b : Nat, v = .tuple #[.slice (some ⟨b, 0, none⟩) 3 3, .agg (rlC threeR).toArray] ∧ Sat w M0 [.pt b (lpC threeS) 31] w' := by
  refine q_of (Sat.nil w M0) Try.func86 rfl (by simp [Try.ntmps86]) ?_
  (refine q_seq ?_; refine q_region ?_; refine ql_pure tabOk rfl rfl ?_)
  refine ql_alloc zero26 rfl (fun b1 => ?_)
  (refine q_nil ?_; refine q_seq ?_; refine q_region ?_)
  refine ql_mk #[.int .i64 2000, .int .i64 60, .int .i64 6] rfl (by kernel_rfl) rfl ?_
  refine ql_mk #[.int .i64 2500, .int .i64 90, .int .i64 6] rfl (by kernel_rfl) rfl ?_
  refine ql_mk #[.int .i64 3000, .int .i64 100, .int .i64 6] rfl (by kernel_rfl) rfl ?_
  refine ql_mkS 31 (lpC threeS) rfl (by kernel_rfl) rfl (fun bn => ?_)
  refine ql_callv tabOk rfl rfl rfl rfl (fun w hs => spanM_ca _ _ w) ?_
  refine ql_callv tabOk rfl rfl rfl rfl (fun w hs => spanM_ca _ _ w) ?_
  refine ql_callv tabOk rfl rfl rfl rfl (fun w hs => spanM_ca _ _ w) ?_
  refine ql_mk #[.int .i64 3, .int .i64 7000, .int .i64 7500, .int .i64 200, .int .i64 270, .int .i64 2000, .int .i64 3000, .int .i64 6, .int .i64 2] rfl (by kernel_rfl) rfl ?_
  (refine ql_pure tabOk rfl rfl ?_; refine ql_setA tabOk rfl rfl rfl rfl rfl (by repeat constructor) rfl ?_; refine q_nil ?_; refine q_ret ?_)
  refine q_fin tabOk rfl (by repeat (first | exact RVs.nil | apply RVs.tmp rfl | apply RVs.cellA rfl rfl (by repeat first | exact .head _ | refine .tail _ ?_) (by rfl) | apply RVs.cell1 rfl rfl (by repeat first | exact .head _ | refine .tail _ ?_))) fun w hs => ?_
  exact ⟨bn, rfl, hs.sp (by repeat (first | exact Sp.nil | exact Sp.refl _ | refine Sp.cons (by repeat constructor) ?_))⟩
theorem short_ca (w : World) (n : Int) : Ca Try.prog 87 [.int .i64 n] w fun v w' => ∃ b : Nat, v = .agg #[.int .i64 500, .int .i64 800, .slice (some ⟨b, 0, none⟩) 3 3] ∧ Sat w M0 [.pt b (dyC (shortW n).days) 73] w' := by
  refine q_of (Sat.nil w M0) Try.func87 rfl (by simp [Try.ntmps87]) ?_
  (refine q_seq ?_; refine q_region ?_)
  refine ql_alloc zero61 rfl (fun b2 => ?_)
  (refine q_nil ?_; refine q_seq ?_; refine q_region ?_)
  refine ql_callv tabOk rfl rfl rfl rfl (fun w hs => spanM_ca _ _ w) ?_
  refine ql_callv tabOk rfl rfl rfl rfl (fun w hs => spanM_ca _ _ w) ?_
  refine ql_callv tabOk rfl rfl rfl rfl (fun w hs => spanM_ca _ _ w) ?_
  refine ql_mk #[.int .i64 300, .int .i64 300, .int .i64 100, .int .i64 200, .int .i64 10, .int .i64 20] rfl (by kernel_rfl) rfl ?_
  refine ql_callv tabOk rfl rfl rfl rfl (fun w hs => spanM_ca _ _ w) ?_
  refine ql_callv tabOk rfl rfl rfl rfl (fun w hs => spanM_ca _ _ w) ?_
  refine ql_callv tabOk rfl rfl rfl rfl (fun w hs => spanM_ca _ _ w) ?_
  refine ql_mk #[.int .i64 200, .int .i64 400, .int .i64 300, .int .i64 600, .int .i64 10, .int .i64 20] rfl (by kernel_rfl) rfl ?_
  ((iterate 3 refine ql_pure tabOk rfl rfl ?_))
  refine ql_callv tabOk rfl rfl rfl rfl (fun w hs => spanM_ca _ _ w) ?_
  refine ql_callv tabOk rfl rfl rfl rfl (fun w hs => spanM_ca _ _ w) ?_
  refine ql_callv tabOk rfl rfl rfl rfl (fun w hs => spanM_ca _ _ w) ?_
  refine ql_mk #[.int .i64 (min n 500), .int .i64 n, .int .i64 0, .int .i64 100, .int .i64 10, .int .i64 20] rfl (by kernel_rfl) rfl ?_
  refine ql_mkS 73 (dyC (shortW n).days) rfl (by kernel_rfl) rfl (fun bn => ?_)
  refine ql_mk #[.int .i64 500, .int .i64 800, .slice (some ⟨bn, 0, none⟩) 3 3] rfl (by kernel_rfl) rfl ?_
  (refine ql_setA tabOk rfl rfl rfl rfl rfl (by repeat constructor) rfl ?_; refine q_nil ?_; refine q_ret ?_)
  refine q_fin tabOk rfl (by repeat (first | exact RVs.nil | apply RVs.tmp rfl | apply RVs.cellA rfl rfl (by repeat first | exact .head _ | refine .tail _ ?_) (by rfl) | apply RVs.cell1 rfl rfl (by repeat first | exact .head _ | refine .tail _ ?_))) fun w hs => ?_
  exact ⟨bn, rfl, hs.sp (by repeat (first | exact Sp.nil | exact Sp.refl _ | refine Sp.cons (by repeat constructor) ?_))⟩
theorem aw_all : allC threeS threeR = [[0, 0, 2], [0, 1, 1], [0, 1, 2]] := by decide +kernel
theorem aw_cr : CR threeS threeR := checkS_iff.1 (by decide +kernel)
theorem aw_cr2 : CR threeS threeQ := checkS_iff.1 (by decide +kernel)
theorem aw_brk : (brokenV threeS threeR [1, 1, 1]).2 = 0 := by decide +kernel
theorem aw_brk2 : brkL threeS threeR [1, 1, 1] = [4] := by decide +kernel
theorem aw_cheap : cheapO threeS threeR 40 (coursesL threeS.length (nL threeR)) = some [0, 1, 1] := by decide +kernel
theorem aw_snow : snowV threeS [0, 1, 1] 40 = 10800 := by decide +kernel
theorem aw_yield : yieldO threeS threeQ (coursesL threeS.length (nL threeQ)) = some [0, 1, 2] := by decide +kernel
theorem aw_yield2 : brkL threeS threeQ [0, 1, 2] = [0] := by decide +kernel
theorem aw_first : firstV (shortW 500) = (2, 0) := by decide +kernel
theorem aw_proves : provesV (shortW 500) (-1) 2 = (360, 0) := by decide +kernel
theorem aw_ranges : rangesV (shortW 500) = [(280, 390), (160, 600)] := by decide +kernel
theorem aw_right : (shortW 500).Right := checkW_iff.1 (by decide +kernel)
theorem aw_least : leastV (shortW 100) = (460, 0) := by decide +kernel
theorem aw_room : roomV (shortW 100) = (540, 0) := by decide +kernel
end Go.Proofs.Ytgeajgmefokifaa

/- Walks: awake. -/
namespace Go.Proofs.Ytgeajgmefokifaa
open Go Go.Eng

theorem blk_II {w : World} {c1 c2 c3 c4 : Nat} {t1 t2 t3 t4 : TypeId} {l1 l2 l3 : List Int} (h1 : Blk w c1 (ints l1) t1) (h2 : Blk w c2 (ints l2) t2) (h3 : Blk w c3 (ints l3) t3)
    (h4 : Blk w c4 [.slice (some ⟨c1, 0, none⟩) l1.length l1.length, .slice (some ⟨c2, 0, none⟩) l2.length l2.length, .slice (some ⟨c3, 0, none⟩) l3.length l3.length] t4) : RdII w 0 w.heap.size (.slice (some ⟨c4, 0, none⟩) 3 3) [l1, l2, l3] := by
  refine RdII.of (vs := [.slice (some ⟨c1, 0, none⟩) l1.length l1.length, .slice (some ⟨c2, 0, none⟩) l2.length l2.length, .slice (some ⟨c3, 0, none⟩) l3.length l3.length]) ((Blk.rd h4 (by simp [oneV]) 3).wide (Nat.zero_le _) h4.lt) rfl (fun i hi hi' => ?_) (by simp [oneV])
  obtain rfl | rfl | rfl : i = 0 ∨ i = 1 ∨ i = 2 := by simp at hi; omega
  · exact Blk.rdI h1
  · exact Blk.rdI h2
  · exact Blk.rdI h3

theorem lsK_rd {w0 w : World} {M : Nat → Prop} {H : List Ck} {v : Value} {xs : List (Value × List Int)} (h : Sat w0 M H w) (h1 : Ck.ow v 27 1 xs.length (xs.map (·.1)) ∈ H) (h2 : un (rowsO 3 xs) ∈ H) : RdII w 0 w.heap.size v (xs.map (·.2)) :=
  rowsO_rd (h.mem h2) (h.mem h1)
set_option maxHeartbeats 4000000 in
set_option maxRecDepth 4000 in
theorem awake_ca (w : World) : Ca Try.prog 18 [] w fun v w' => v = .bool true ∧ Chg [] w w' := by
  refine q_of (Sat.nil w M0) Try.func18 rfl (by simp [Try.ntmps18]) ?_
  (refine q_seq ?_; refine q_region ?_; refine ql_pure tabOk rfl rfl ?_; refine q_nil ?_; refine q_seq ?_; refine q_region ?_)
  refine ql_call (β := Nat) tabOk [] _ M0 rfl rfl rfl rfl (Sp.refl _) (fun _ h => h.elim) (fun w' hs => three_ca w') ?_
  rintro bs _ rfl
  (refine ql_pure tabOk rfl rfl ?_; (iterate 2 refine ql_ext tabOk rfl rfl rfl ?_))
  refine ql_alloc zero26 rfl (fun b2 => ?_)
  (refine ql_pure tabOk rfl rfl ?_; refine ql_setA tabOk rfl rfl rfl rfl rfl (by repeat constructor) rfl ?_; refine q_nil ?_; refine q_seq ?_; refine q_region ?_; refine ql_pure tabOk rfl rfl ?_; refine ql_loadAB tabOk rfl rfl rfl (by repeat first | exact .head _ | refine .tail _ ?_) (by rfl) (by rfl) ?_)
  have hS : ∀ w', Blk w' bs (lpC threeS) 31 → RdL w' 0 w'.heap.size (.slice (some ⟨bs, 0, none⟩) threeS.length 3) threeS := fun w' hb => Blk.rdL hb rfl
  refine ql_call (β := Value × List (Value × List Int)) (ψ := fun y x => x = .tuple #[y.1, .int .i64 0] ∧ y.2.map (·.2) = allC threeS threeR) tabOk [] _ M0 rfl rfl rfl rfl (Sp.refl _) (fun _ h => h.elim) (fun w' hs => all_ok w' 0 w'.heap.size (some ⟨bs, 0, none⟩) 3 threeS threeR (hS w' (hs.blk (by repeat first | exact .head _ | refine .tail _ ?_))) aw_cr (by rw [aw_all]; decide)) ?_
  rintro ⟨va, xs⟩ _ ⟨rfl, hxs⟩
  rw [aw_all] at hxs
  dsimp only at hxs
  dsimp only [lsK, List.cons_append, List.nil_append]
  refine ql_fact (fun w hs => hs.slice (v := va) (by repeat first | exact .head _ | refine .tail _ ?_)) ?_
  rintro ⟨va1, va2, va3, rfl⟩
  (refine ql_pure tabOk rfl rfl ?_; (iterate 2 refine ql_ext tabOk rfl rfl rfl ?_); (iterate 2 refine ql_pure tabOk rfl rfl ?_); refine q_nil ?_; refine q_seq ?_; refine q_region ?_; refine ql_pure tabOk rfl rfl ?_; refine ql_loadAB tabOk rfl rfl rfl (by repeat first | exact .head _ | refine .tail _ ?_) (by rfl) (by rfl) ?_)
  refine ql_mkS 3 (ints [1, 1, 1]) rfl (by kernel_rfl) rfl (fun b3 => ?_)
  refine ql_call (β := Value) tabOk [] _ M0 rfl rfl rfl rfl (Sp.refl _) (fun _ h => h.elim) (fun w' hs => brok_ok w' 0 w'.heap.size 0 w'.heap.size (some ⟨bs, 0, none⟩) 3 _ threeS threeR [1, 1, 1] (hS w' (hs.blk (by repeat first | exact .head _ | refine .tail _ ?_))) (by decide) (Blk.rdI (l := [1, 1, 1]) (c := 3) (hs.blk (b := b3) (by repeat first | exact .head _ | refine .tail _ ?_))) (by decide) aw_brk) ?_
  rintro vb _ rfl
  rw [aw_brk2]
  dsimp only [List.cons_append, List.nil_append]
  refine ql_fact (fun w hs => hs.slice (v := vb) (by repeat first | exact .head _ | refine .tail _ ?_)) ?_
  rintro ⟨vb1, vb2, vb3, rfl⟩
  (refine ql_pure tabOk rfl rfl ?_; (iterate 2 refine ql_ext tabOk rfl rfl rfl ?_); (iterate 2 refine ql_pure tabOk rfl rfl ?_); refine q_nil ?_; refine q_seq ?_; refine q_region ?_; refine ql_pure tabOk rfl rfl ?_; refine ql_loadAB tabOk rfl rfl rfl (by repeat first | exact .head _ | refine .tail _ ?_) (by rfl) (by rfl) ?_)
  refine ql_call (β := Value) tabOk [] _ M0 rfl rfl rfl rfl (Sp.refl _) (fun _ h => h.elim) (fun w' hs => cheap_ok w' 0 w'.heap.size (some ⟨bs, 0, none⟩) 3 threeS threeR 40 [0, 1, 1] (hS w' (hs.blk (by repeat first | exact .head _ | refine .tail _ ?_))) aw_cr (by decide) aw_cheap) ?_
  rintro vc _ rfl
  rw [aw_snow]
  dsimp only [List.cons_append, List.nil_append]
  refine ql_fact (fun w hs => hs.slice (v := vc) (by repeat first | exact .head _ | refine .tail _ ?_)) ?_
  rintro ⟨vc1, vc2, vc3, rfl⟩
  (refine ql_pure tabOk rfl rfl ?_; (iterate 3 refine ql_ext tabOk rfl rfl rfl ?_); (iterate 3 refine ql_pure tabOk rfl rfl ?_); refine q_nil ?_; (iterate 2 refine q_seq ?_); refine q_region ?_; refine ql_pure tabOk rfl rfl ?_; refine ql_neqF tabOk rfl rfl rfl (by omega) ?_; refine ql_pure tabOk rfl rfl ?_; refine ql_gyes rfl ?_; refine ql_pure tabOk rfl rfl ?_; refine ql_gyes rfl ?_; refine ql_neqF tabOk rfl rfl rfl (by omega) ?_; (iterate 2 refine ql_pure tabOk rfl rfl ?_); refine ql_gyes rfl ?_; refine ql_pure tabOk rfl rfl ?_; refine ql_gyes rfl ?_; refine ql_neqF tabOk rfl rfl rfl (by omega) ?_; (iterate 2 refine ql_pure tabOk rfl rfl ?_); refine ql_gyes rfl ?_; refine ql_pure tabOk rfl rfl ?_; refine ql_gyes rfl ?_)
  refine ql_mkS 3 (ints [0, 0, 2]) rfl (by kernel_rfl) rfl (fun c1 => ?_)
  refine ql_gyes rfl ?_
  refine ql_mkS 3 (ints [0, 1, 1]) rfl (by kernel_rfl) rfl (fun c2 => ?_)
  refine ql_gyes rfl ?_
  refine ql_mkS 3 (ints [0, 1, 2]) rfl (by kernel_rfl) rfl (fun c3 => ?_)
  refine ql_gyes rfl ?_
  refine ql_mkS 27 [.slice (some ⟨c1, 0, none⟩) 3 3, .slice (some ⟨c2, 0, none⟩) 3 3, .slice (some ⟨c3, 0, none⟩) 3 3] rfl (by kernel_rfl) rfl (fun c4 => ?_)
  (refine ql_gyes rfl ?_)
  refine ql_callv (val := .bool true) tabOk rfl rfl rfl rfl (fun w hs => ?_) ?_; exact eqII_ca w 0 w.heap.size 0 w.heap.size _ _ [[0, 0, 2], [0, 1, 1], [0, 1, 2]] (hxs ▸ lsK_rd (v := .slice va1 va2 va3) (xs := xs) hs (by repeat first | exact .head _ | refine .tail _ ?_) (by repeat first | exact .head _ | refine .tail _ ?_)) (blk_II (l1 := [0, 0, 2]) (l2 := [0, 1, 1]) (l3 := [0, 1, 2]) (hs.blk (b := c1) (by repeat first | exact .head _ | refine .tail _ ?_)) (hs.blk (b := c2) (by repeat first | exact .head _ | refine .tail _ ?_)) (hs.blk (b := c3) (by repeat first | exact .head _ | refine .tail _ ?_)) (hs.blk (b := c4) (by repeat first | exact .head _ | refine .tail _ ?_))) (by decide) (by decide)
  (refine ql_gyes rfl ?_; (iterate 3 refine ql_pure tabOk rfl rfl ?_); refine ql_gyes rfl ?_; refine ql_pure tabOk rfl rfl ?_; refine ql_gyes rfl ?_)
  refine ql_mkS 88 (ints [4]) rfl (by kernel_rfl) rfl (fun c5 => ?_)
  refine ql_gyes rfl ?_
  refine ql_callv (val := .bool true) tabOk rfl rfl rfl rfl (fun w hs => ?_) ?_; exact eqR_ca w 0 w.heap.size 0 w.heap.size _ _ [4] (hs.rdI (v := .slice vb1 vb2 vb3) (l := [4]) (by repeat first | exact .head _ | refine .tail _ ?_) rfl) (Blk.rdI (l := [4]) (c := 1) (hs.blk (b := c5) (by repeat first | exact .head _ | refine .tail _ ?_))) (by decide)
  (refine ql_gyes rfl ?_; (iterate 3 refine ql_pure tabOk rfl rfl ?_); refine ql_gyes rfl ?_; refine ql_pure tabOk rfl rfl ?_; refine ql_gyes rfl ?_)
  refine ql_mkS 3 (ints [0, 1, 1]) rfl (by kernel_rfl) rfl (fun c6 => ?_)
  refine ql_gyes rfl ?_
  refine ql_callv (val := .bool true) tabOk rfl rfl rfl rfl (fun w hs => ?_) ?_; exact eqI_ca w 0 w.heap.size 0 w.heap.size _ _ [0, 1, 1] (hs.rdI (v := .slice vc1 vc2 vc3) (l := [0, 1, 1]) (by repeat first | exact .head _ | refine .tail _ ?_) rfl) (Blk.rdI (l := [0, 1, 1]) (c := 3) (hs.blk (b := c6) (by repeat first | exact .head _ | refine .tail _ ?_))) (by decide)
  (refine ql_gyes rfl ?_; (iterate 3 refine ql_pure tabOk rfl rfl ?_); refine ql_gyes rfl ?_; refine ql_pure tabOk rfl rfl ?_; refine ql_gyes rfl ?_; refine ql_neqF tabOk rfl rfl rfl (by omega) ?_; refine ql_pure tabOk rfl rfl ?_; refine q_nil ?_; refine q_cond_false rfl ?_; refine q_skip ?_; refine q_seq ?_; refine q_region ?_)
  refine ql_callv tabOk rfl rfl rfl rfl (fun w hs => spanM_ca _ _ w) ?_
  (refine ql_pure tabOk rfl rfl ?_; refine ql_st8 tabOk rfl rfl rfl rfl (by repeat constructor) ?_; refine ql_pure tabOk rfl rfl ?_)
  refine ql_stA (rlC threeQ) tabOk rfl rfl rfl rfl rfl (by repeat constructor) rfl rfl ?_
  (refine q_nil ?_; refine q_seq ?_; refine q_region ?_; refine ql_pure tabOk rfl rfl ?_; refine ql_loadAB tabOk rfl rfl rfl (by repeat first | exact .head _ | refine .tail _ ?_) (by rfl) (by rfl) ?_)
  refine ql_call (β := Value × Value) tabOk [] _ M0 rfl rfl rfl rfl (Sp.refl _) (fun _ h => h.elim) (fun w' hs => yield_ok w' 0 w'.heap.size (some ⟨bs, 0, none⟩) 3 threeS threeQ [0, 1, 2] (hS w' (hs.blk (by repeat first | exact .head _ | refine .tail _ ?_))) aw_cr2 aw_yield) ?_
  rintro ⟨vy, vz⟩ _ rfl
  rw [aw_yield2]
  dsimp only [List.cons_append, List.nil_append]
  refine ql_fact (fun w hs => hs.slice (v := vy) (by repeat first | exact .head _ | refine .tail _ ?_)) ?_
  rintro ⟨vy1, vy2, vy3, rfl⟩
  refine ql_fact (fun w hs => hs.slice (v := vz) (by repeat first | exact .head _ | refine .tail _ ?_)) ?_
  rintro ⟨vz1, vz2, vz3, rfl⟩
  (refine ql_pure tabOk rfl rfl ?_; (iterate 3 refine ql_ext tabOk rfl rfl rfl ?_); (iterate 3 refine ql_pure tabOk rfl rfl ?_); refine q_nil ?_; refine q_seq ?_; refine q_region ?_)
  have hD : ∀ n w' b, Blk w' b (dyC (shortW n).days) 73 → RdD w' 0 w'.heap.size (.slice (some ⟨b, 0, none⟩) (shortW n).days.length 3) (shortW n).days := fun n w' b hb => Blk.rdD hb rfl
  refine ql_call (β := Nat) tabOk [] _ M0 rfl rfl rfl rfl (Sp.refl _) (fun _ h => h.elim) (fun w' hs => short_ca w' 500) ?_
  rintro d1 _ rfl
  refine ql_callv (val := .tuple #[.int .i64 2, .int .i64 0]) tabOk rfl rfl rfl rfl (fun w hs => ?_) ?_; exact by have := first_ca w 0 w.heap.size (shortW 500) (some ⟨d1, 0, none⟩) 3 (hD 500 w d1 (hs.blk (by repeat first | exact .head _ | refine .tail _ ?_))) (by decide); rw [aw_first] at this; exact this
  (refine ql_pure tabOk rfl rfl ?_; (iterate 2 refine ql_ext tabOk rfl rfl rfl ?_); (iterate 2 refine ql_pure tabOk rfl rfl ?_); refine q_nil ?_; refine q_seq ?_; refine q_region ?_)
  refine ql_call (β := Nat) tabOk [] _ M0 rfl rfl rfl rfl (Sp.refl _) (fun _ h => h.elim) (fun w' hs => short_ca w' 500) ?_
  rintro d2 _ rfl
  refine ql_mk #[.int .i64 (-1), .int .i64 2] rfl (by kernel_rfl) rfl ?_
  refine ql_callv (val := .tuple #[.int .i64 360, .int .i64 0]) tabOk rfl rfl rfl rfl (fun w hs => ?_) ?_; exact by have := proves_ca w 0 w.heap.size (shortW 500) (some ⟨d2, 0, none⟩) 3 (-1) 2 (hD 500 w d2 (hs.blk (by repeat first | exact .head _ | refine .tail _ ?_))) (by decide); rw [aw_proves] at this; exact this
  (refine ql_pure tabOk rfl rfl ?_; (iterate 2 refine ql_ext tabOk rfl rfl rfl ?_); (iterate 2 refine ql_pure tabOk rfl rfl ?_); refine q_nil ?_; refine q_seq ?_; refine q_region ?_)
  refine ql_call (β := Nat) tabOk [] _ M0 rfl rfl rfl rfl (Sp.refl _) (fun _ h => h.elim) (fun w' hs => short_ca w' 500) ?_
  rintro d3 _ rfl
  refine ql_call (β := Value) tabOk [] _ M0 rfl rfl rfl rfl (Sp.refl _) (fun _ h => h.elim) (fun w' hs => ranges_ok w' 0 w'.heap.size (shortW 500) (some ⟨d3, 0, none⟩) 3 (hD 500 w' d3 (hs.blk (by repeat first | exact .head _ | refine .tail _ ?_))) aw_right) ?_
  rintro vx _ rfl
  rw [aw_ranges]
  dsimp only [List.cons_append, List.nil_append]
  refine ql_fact (fun w hs => hs.slice (v := vx) (by repeat first | exact .head _ | refine .tail _ ?_)) ?_
  rintro ⟨vx1, vx2, vx3, rfl⟩
  (refine ql_pure tabOk rfl rfl ?_; (iterate 2 refine ql_ext tabOk rfl rfl rfl ?_); (iterate 2 refine ql_pure tabOk rfl rfl ?_); refine q_nil ?_; (iterate 2 refine q_seq ?_); refine q_region ?_; refine ql_pure tabOk rfl rfl ?_; refine ql_neqF tabOk rfl rfl rfl (by omega) ?_; refine ql_pure tabOk rfl rfl ?_; refine ql_gyes rfl ?_; refine ql_pure tabOk rfl rfl ?_; refine ql_gyes rfl ?_; refine ql_neqF tabOk rfl rfl rfl (by omega) ?_; (iterate 2 refine ql_pure tabOk rfl rfl ?_); refine ql_gyes rfl ?_; refine ql_pure tabOk rfl rfl ?_; refine ql_gyes rfl ?_; refine ql_neqF tabOk rfl rfl rfl (by omega) ?_; (iterate 2 refine ql_pure tabOk rfl rfl ?_); refine ql_gyes rfl ?_; refine ql_pure tabOk rfl rfl ?_; refine ql_gyes rfl ?_; refine ql_neqF tabOk rfl rfl rfl (by omega) ?_; (iterate 2 refine ql_pure tabOk rfl rfl ?_); refine ql_gyes rfl ?_; refine ql_pure tabOk rfl rfl ?_; refine ql_gyes rfl ?_)
  refine ql_mkS 88 (ints [0]) rfl (by kernel_rfl) rfl (fun c7 => ?_)
  refine ql_gyes rfl ?_
  refine ql_callv (val := .bool true) tabOk rfl rfl rfl rfl (fun w hs => ?_) ?_; exact eqR_ca w 0 w.heap.size 0 w.heap.size _ _ [0] (hs.rdI (v := .slice vy1 vy2 vy3) (l := [0]) (by repeat first | exact .head _ | refine .tail _ ?_) rfl) (Blk.rdI (l := [0]) (c := 1) (hs.blk (b := c7) (by repeat first | exact .head _ | refine .tail _ ?_))) (by decide)
  (refine ql_gyes rfl ?_; (iterate 3 refine ql_pure tabOk rfl rfl ?_); refine ql_gyes rfl ?_; refine ql_pure tabOk rfl rfl ?_; refine ql_gyes rfl ?_)
  refine ql_mkS 3 (ints [0, 1, 2]) rfl (by kernel_rfl) rfl (fun c8 => ?_)
  refine ql_gyes rfl ?_
  refine ql_callv (val := .bool true) tabOk rfl rfl rfl rfl (fun w hs => ?_) ?_; exact eqI_ca w 0 w.heap.size 0 w.heap.size _ _ [0, 1, 2] (hs.rdI (v := .slice vz1 vz2 vz3) (l := [0, 1, 2]) (by repeat first | exact .head _ | refine .tail _ ?_) rfl) (Blk.rdI (l := [0, 1, 2]) (c := 3) (hs.blk (b := c8) (by repeat first | exact .head _ | refine .tail _ ?_))) (by decide)
  (refine ql_gyes rfl ?_; (iterate 3 refine ql_pure tabOk rfl rfl ?_); refine ql_gyes rfl ?_; refine ql_pure tabOk rfl rfl ?_; refine ql_gyes rfl ?_; refine ql_neqF tabOk rfl rfl rfl (by omega) ?_; (iterate 2 refine ql_pure tabOk rfl rfl ?_); refine ql_gyes rfl ?_; refine ql_pure tabOk rfl rfl ?_; refine ql_gyes rfl ?_; refine ql_neqF tabOk rfl rfl rfl (by omega) ?_; (iterate 2 refine ql_pure tabOk rfl rfl ?_); refine ql_gyes rfl ?_; refine ql_pure tabOk rfl rfl ?_; refine ql_gyes rfl ?_)
  refine ql_mk #[.int .i64 280, .int .i64 390] rfl (by kernel_rfl) rfl ?_
  refine ql_gyes rfl ?_
  refine ql_mk #[.int .i64 160, .int .i64 600] rfl (by kernel_rfl) rfl ?_
  refine ql_gyes rfl ?_
  refine ql_mkS 24 (spC [(280, 390), (160, 600)]) rfl (by kernel_rfl) rfl (fun c9 => ?_)
  refine ql_gyes rfl ?_
  refine ql_callv (val := .bool true) tabOk rfl rfl rfl rfl (fun w hs => ?_) ?_; exact eqS_ca w 0 w.heap.size 0 w.heap.size _ _ [(280, 390), (160, 600)] (own_rdS (t := 24) (hs.mem (c := .ow (.slice vx1 vx2 vx3) 24 2 2 (spC [(280, 390), (160, 600)])) (by repeat first | exact .head _ | refine .tail _ ?_)) rfl) (Blk.rdS (l := [(280, 390), (160, 600)]) (c := 2) (hs.blk (b := c9) (by repeat first | exact .head _ | refine .tail _ ?_)) rfl) (by decide)
  (refine ql_gyes rfl ?_; (iterate 2 refine ql_pure tabOk rfl rfl ?_); refine q_nil ?_; refine q_cond_false rfl ?_; refine q_skip ?_; refine q_seq ?_; refine q_region ?_)
  refine ql_call (β := Nat) tabOk [] _ M0 rfl rfl rfl rfl (Sp.refl _) (fun _ h => h.elim) (fun w' hs => short_ca w' 100) ?_
  rintro d4 _ rfl
  refine ql_callv (val := .tuple #[.int .i64 460, .int .i64 0]) tabOk rfl rfl rfl rfl (fun w hs => ?_) ?_; exact by have := least_ca w 0 w.heap.size (shortW 100) (some ⟨d4, 0, none⟩) 3 (hD 100 w d4 (hs.blk (by repeat first | exact .head _ | refine .tail _ ?_))) (by decide); rw [aw_least] at this; exact this
  (refine ql_pure tabOk rfl rfl ?_; (iterate 2 refine ql_ext tabOk rfl rfl rfl ?_); (iterate 2 refine ql_pure tabOk rfl rfl ?_); refine q_nil ?_; refine q_seq ?_; refine q_region ?_)
  refine ql_call (β := Nat) tabOk [] _ M0 rfl rfl rfl rfl (Sp.refl _) (fun _ h => h.elim) (fun w' hs => short_ca w' 100) ?_
  rintro d5 _ rfl
  refine ql_callv (val := .tuple #[.int .i64 540, .int .i64 0]) tabOk rfl rfl rfl rfl (fun w hs => ?_) ?_; exact by have := room_ca w 0 w.heap.size (shortW 100) (some ⟨d5, 0, none⟩) 3 (hD 100 w d5 (hs.blk (by repeat first | exact .head _ | refine .tail _ ?_))) (by decide); rw [aw_room] at this; exact this
  (refine ql_pure tabOk rfl rfl ?_; (iterate 2 refine ql_ext tabOk rfl rfl rfl ?_); (iterate 2 refine ql_pure tabOk rfl rfl ?_); refine q_nil ?_; refine q_seq ?_; refine q_region ?_; refine ql_pure tabOk rfl rfl ?_; refine ql_eqlT tabOk rfl rfl rfl (by omega) ?_; refine ql_pure tabOk rfl rfl ?_; refine ql_gyes rfl ?_; refine ql_pure tabOk rfl rfl ?_; refine ql_gyes rfl ?_; refine ql_eqlT tabOk rfl rfl rfl (by omega) ?_; (iterate 2 refine ql_pure tabOk rfl rfl ?_); refine ql_gyes rfl ?_; refine ql_pure tabOk rfl rfl ?_; refine ql_gyes rfl ?_; refine ql_eqlT tabOk rfl rfl rfl (by omega) ?_; (iterate 2 refine ql_pure tabOk rfl rfl ?_); refine ql_gyes rfl ?_; refine ql_pure tabOk rfl rfl ?_; refine ql_gyes rfl ?_; refine ql_eqlT tabOk rfl rfl rfl (by omega) ?_; (iterate 2 refine ql_pure tabOk rfl rfl ?_); refine q_nil ?_; refine q_ret ?_)
  refine q_fin tabOk rfl (by repeat (first | exact RVs.nil | apply RVs.tmp rfl | apply RVs.cellA rfl rfl (by repeat first | exact .head _ | refine .tail _ ?_) (by rfl) | apply RVs.cell1 rfl rfl (by repeat first | exact .head _ | refine .tail _ ?_))) fun w hs => ?_
  exact ⟨rfl, hs.chg0⟩
end Go.Proofs.Ytgeajgmefokifaa

/- Walks: klisterkit's deck. Only the ranges of what it deals are told. -/
namespace Go.Proofs.Ytgeajgmefokifaa
open Go Go.Eng

section
attribute [local irreducible] IntKind.wrap Int.tmod Int.tdiv

/-- The deck's own variable, after at most K cards. -/
def DkS (w : World) (b : Nat) (bs : Value) (K : Nat) : Prop :=
  ∃ next st, Blk w b [bs, .int .i64 next, .int .u32 st] 165 ∧ 0 ≤ next ∧ next ≤ K ∧ 0 ≤ st ∧ st < 4294967296
/-- Its bytes. -/
def DkB (w : World) (lo hi : Nat) (bs : Value) : Prop := ∃ nb cs, Rd w lo hi bs 1 nb cs ∧ (∀ c ∈ cs, ∃ x, c = .int .u8 x ∧ 0 ≤ x ∧ x < 256)
theorem DkB.keep {w w' : World} {lo hi : Nat} {bs : Value} (h : DkB w lo hi bs) (c : Chg [] w w') : DkB w' lo hi bs := by
  obtain ⟨nb, cs, h1, h2⟩ := h
  exact ⟨nb, cs, h1.keep c, h2⟩

end
/-- A deck, after at most K cards. -/
def dkP (bs : Value) (b K : Nat) : Ck := .gn (fun x => x = b) (fun w => DkS w b bs K) (fun w w' N h hc hN => by
  obtain ⟨next, st, h1, h2⟩ := h
  exact ⟨next, st, (hc.block b h1.lt (hN b rfl)).trans h1, h2⟩)

theorem DkS.mono {w : World} {b K K' : Nat} {bs : Value} (h : DkS w b bs K) (hk : K ≤ K') : DkS w b bs K' := by
  obtain ⟨next, st, h1, h2, h3, h4⟩ := h
  exact ⟨next, st, h1, h2, by omega, h4⟩
section
variable {K b : Nat} {bs : Value} {w0 w : World} {R : List Ck}
end
end Go.Proofs.Ytgeajgmefokifaa

/- Walks: a winter is made of numbers. -/
namespace Go.Proofs.Ytgeajgmefokifaa
open Go Go.Eng

structure DayB (d : Dy) : Prop where
  n : 0 ≤ d.n0 ∧ d.n0 ≤ 29 ∧ d.n0 ≤ d.n1 ∧ d.n1 ≤ d.n0 + 11
  m : 0 ≤ d.m0 ∧ d.m0 ≤ 39 ∧ d.m0 ≤ d.m1 ∧ d.m1 ≤ d.m0 + 19
  l : 0 ≤ d.l0 ∧ d.l0 ≤ 5 ∧ d.l0 ≤ d.l1 ∧ d.l1 ≤ d.l0 + 3
/-- What MadeWinter makes. -/
structure WinB (days : Nat) (x : Wn) : Prop where
  store : 20 ≤ x.store ∧ x.store ≤ 200
  stock : 0 ≤ x.stock ∧ x.stock ≤ x.store
  d1 : 1 ≤ x.days.length
  d2 : x.days.length ≤ days
  days : ∀ d ∈ x.days, DayB d
theorem WinB.right {days : Nat} {x : Wn} (h : WinB days x) (hd : days ≤ 60) : x.Right := by
  have h1 := h.store
  have h2 := h.d2
  refine ⟨by omega, h.stock, h.d1, by omega, fun d hdm => ?_⟩
  have := h.days d hdm
  have a := this.n
  have b := this.m
  have c := this.l
  exact ⟨by omega, by omega, by omega⟩
/-- The spans made so far. -/
structure DayI (i : Nat) (d : Dy) : Prop where
  n : 1 ≤ i → 0 ≤ d.n0 ∧ d.n0 ≤ 29 ∧ d.n0 ≤ d.n1 ∧ d.n1 ≤ d.n0 + 11
  m : 2 ≤ i → 0 ≤ d.m0 ∧ d.m0 ≤ 39 ∧ d.m0 ≤ d.m1 ∧ d.m1 ≤ d.m0 + 19
  l : 3 ≤ i → 0 ≤ d.l0 ∧ d.l0 ≤ 5 ∧ d.l0 ≤ d.l1 ∧ d.l1 ≤ d.l0 + 3

end Go.Proofs.Ytgeajgmefokifaa

/- Walks: a weather is drawn. -/
namespace Go.Proofs.Ytgeajgmefokifaa
open Go Go.Eng

theorem getD_snoc (l : List Int) (x : Int) (i : Nat) : (l ++ [x]).getD i 0 = if i < l.length then l.getD i 0 else if i = l.length then x else 0 := by
  simp only [List.getD_eq_getElem?_getD, List.getElem?_append]
  by_cases h : i < l.length
  · simp [h]
  · rw [if_neg h, if_neg h]
    by_cases h2 : i = l.length
    · subst h2; simp
    · rw [if_neg h2, List.getElem?_eq_none (by simp; omega)]
      rfl
/-- A weather of the first days. -/
structure WtP (days : List Dy) (k : Nat) (t : Wt) : Prop where
  ln : t.need.length = k
  lm : t.make.length = k
  ll : t.loss.length = k
  n : ∀ i, i < k → ∀ (h : i < days.length), days[i].n0 ≤ t.need.getD i 0 ∧ t.need.getD i 0 ≤ days[i].n1
  m : ∀ i, i < k → ∀ (h : i < days.length), days[i].m0 ≤ t.make.getD i 0 ∧ t.make.getD i 0 ≤ days[i].m1
  l : ∀ i, i < k → ∀ (h : i < days.length), days[i].l0 ≤ t.loss.getD i 0 ∧ t.loss.getD i 0 ≤ days[i].l1
theorem WtP.step {days : List Dy} {k : Nat} {t : Wt} (h : WtP days k t) (hk : k < days.length) {x y z : Int} (hx : days[k].n0 ≤ x ∧ x ≤ days[k].n1) (hy : days[k].m0 ≤ y ∧ y ≤ days[k].m1) (hz : days[k].l0 ≤ z ∧ z ≤ days[k].l1) : WtP days (k + 1) ⟨t.need ++ [x], t.make ++ [y], t.loss ++ [z]⟩ := by
  refine ⟨by simp [h.ln], by simp [h.lm], by simp [h.ll], fun i hi hd => ?_, fun i hi hd => ?_, fun i hi hd => ?_⟩
  · rw [getD_snoc, h.ln]
    split
    · exact h.n i (by assumption) hd
    · obtain rfl : i = k := by omega
      simpa using hx
  · rw [getD_snoc, h.lm]
    split
    · exact h.m i (by assumption) hd
    · obtain rfl : i = k := by omega
      simpa using hy
  · rw [getD_snoc, h.ll]
    split
    · exact h.l i (by assumption) hd
    · obtain rfl : i = k := by omega
      simpa using hz
theorem WtP.in {x : Wn} {t : Wt} (h : WtP x.days x.days.length t) : t.In x := ⟨h.ln, h.lm, h.ll, fun i hi => h.n i hi hi, fun i hi => h.m i hi hi, fun i hi => h.l i hi hi⟩
/-- The deck, and the days. -/
abbrev drL (bs : Value) (b K g c : Nat) (l : List Dy) : List Ck := [dkP bs b K, .ow (.slice (some ⟨g, 0, none⟩) l.length c) 73 6 l.length (dyC l)]

end Go.Proofs.Ytgeajgmefokifaa

/- What the laws of winters share. -/
namespace Go.Proofs.Ytgeajgmefokifaa
open Go Go.Eng

section
variable {K b g c : Nat} {bs : Value} {w0 w : World} {R : List Ck}
end
end Go.Proofs.Ytgeajgmefokifaa

/- Walks of the reference: the error of a winter. -/
namespace Go.Proofs.Ytgeajgmefokifaa
open Go Go.Eng

theorem out_ca (n lo hi : Int) (w : World) : Ca Try.prog 92 [.int .i64 n, .int .i64 lo, .int .i64 hi] w fun v w' => v = .bool (!(wiB n lo hi)) ∧ Chg [] w w' := by
  refine q_of (Sat.nil w M0) Try.func92 rfl (by simp [Try.ntmps92]) ?_
  by_cases h1 : n < lo
  · (refine q_seq ?_; refine q_region ?_; refine ql_pure tabOk rfl rfl ?_; refine q_nil ?_; refine q_seq ?_; refine q_region ?_; (iterate 2 refine ql_pure tabOk rfl rfl ?_); refine ql_lssT tabOk rfl rfl rfl (by omega) ?_; refine ql_pure tabOk rfl rfl ?_; (iterate 3 refine ql_gno rfl rfl rfl ?_); (iterate 2 refine ql_pure tabOk rfl rfl ?_); refine q_nil ?_; refine q_ret ?_)
    refine q_fin tabOk rfl (by repeat (first | exact RVs.nil | apply RVs.tmp rfl | apply RVs.cellA rfl rfl (by repeat first | exact .head _ | refine .tail _ ?_) (by rfl) | apply RVs.cell1 rfl rfl (by repeat first | exact .head _ | refine .tail _ ?_))) fun w hs => ?_
    exact ⟨by simp [wiB, retV]; omega, hs.chg0⟩
  · by_cases h2 : n > hi
    · (refine q_seq ?_; refine q_region ?_; refine ql_pure tabOk rfl rfl ?_; refine q_nil ?_; refine q_seq ?_; refine q_region ?_; (iterate 2 refine ql_pure tabOk rfl rfl ?_); refine ql_lssF tabOk rfl rfl rfl (by omega) ?_; refine ql_pure tabOk rfl rfl ?_; refine ql_gyes rfl ?_; refine ql_pure tabOk rfl rfl ?_; refine ql_gyes rfl ?_; refine ql_pure tabOk rfl rfl ?_; refine ql_gyes rfl ?_; refine ql_gtrT tabOk rfl rfl rfl (by omega) ?_; (iterate 2 refine ql_pure tabOk rfl rfl ?_); refine q_nil ?_; refine q_ret ?_)
      refine q_fin tabOk rfl (by repeat (first | exact RVs.nil | apply RVs.tmp rfl | apply RVs.cellA rfl rfl (by repeat first | exact .head _ | refine .tail _ ?_) (by rfl) | apply RVs.cell1 rfl rfl (by repeat first | exact .head _ | refine .tail _ ?_))) fun w hs => ?_
      exact ⟨by simp [wiB, retV]; omega, hs.chg0⟩
    · (refine q_seq ?_; refine q_region ?_; refine ql_pure tabOk rfl rfl ?_; refine q_nil ?_; refine q_seq ?_; refine q_region ?_; (iterate 2 refine ql_pure tabOk rfl rfl ?_); refine ql_lssF tabOk rfl rfl rfl (by omega) ?_; refine ql_pure tabOk rfl rfl ?_; refine ql_gyes rfl ?_; refine ql_pure tabOk rfl rfl ?_; refine ql_gyes rfl ?_; refine ql_pure tabOk rfl rfl ?_; refine ql_gyes rfl ?_; refine ql_gtrF tabOk rfl rfl rfl (by omega) ?_; (iterate 2 refine ql_pure tabOk rfl rfl ?_); refine q_nil ?_; refine q_ret ?_)
      refine q_fin tabOk rfl (by repeat (first | exact RVs.nil | apply RVs.tmp rfl | apply RVs.cellA rfl rfl (by repeat first | exact .head _ | refine .tail _ ?_) (by rfl) | apply RVs.cell1 rfl rfl (by repeat first | exact .head _ | refine .tail _ ?_))) fun w hs => ?_
      exact ⟨by simp [wiB, retV]; omega, hs.chg0⟩
theorem wrong_ca (a b g : Int) (w : World) : Ca Try.prog 93 [.agg #[.int .i64 a, .int .i64 b], .int .i64 g] w fun v w' => v = .bool (!(spnB a b g)) ∧ Chg [] w w' := by
  refine q_of (Sat.nil w M0) Try.func93 rfl (by simp [Try.ntmps93]) ?_
  (refine q_seq ?_; refine q_region ?_)
  refine ql_box rfl rfl (fun b2 => ?_)
  by_cases h1 : a < 0
  · (refine ql_pure tabOk rfl rfl ?_; refine q_nil ?_; refine q_seq ?_; refine q_region ?_; refine ql_pure tabOk rfl rfl ?_; refine ql_loadB tabOk rfl rfl rfl (by repeat first | exact .head _ | refine .tail _ ?_) (by rfl) ?_; refine ql_lssT tabOk rfl rfl rfl (by omega) ?_; refine ql_pure tabOk rfl rfl ?_; (iterate 4 refine ql_gno rfl rfl rfl ?_); (iterate 2 refine ql_pure tabOk rfl rfl ?_); (iterate 5 refine ql_gno rfl rfl rfl ?_); (iterate 2 refine ql_pure tabOk rfl rfl ?_); refine q_nil ?_; refine q_ret ?_)
    refine q_fin tabOk rfl (by repeat (first | exact RVs.nil | apply RVs.tmp rfl | apply RVs.cellA rfl rfl (by repeat first | exact .head _ | refine .tail _ ?_) (by rfl) | apply RVs.cell1 rfl rfl (by repeat first | exact .head _ | refine .tail _ ?_))) fun w hs => ?_
    exact ⟨by simp [spnB, retV]; omega, hs.chg0⟩
  · by_cases h2 : b > g
    · (refine ql_pure tabOk rfl rfl ?_; refine q_nil ?_; refine q_seq ?_; refine q_region ?_; refine ql_pure tabOk rfl rfl ?_; refine ql_loadB tabOk rfl rfl rfl (by repeat first | exact .head _ | refine .tail _ ?_) (by rfl) ?_; refine ql_lssF tabOk rfl rfl rfl (by omega) ?_; refine ql_pure tabOk rfl rfl ?_; refine ql_gyes rfl ?_; refine ql_pure tabOk rfl rfl ?_; refine ql_gyes rfl ?_; refine ql_loadB tabOk rfl rfl rfl (by repeat first | exact .head _ | refine .tail _ ?_) (by rfl) ?_; refine ql_gyes rfl ?_; refine ql_pure tabOk rfl rfl ?_; refine ql_gyes rfl ?_; refine ql_gtrT tabOk rfl rfl rfl (by omega) ?_; (iterate 2 refine ql_pure tabOk rfl rfl ?_); (iterate 5 refine ql_gno rfl rfl rfl ?_); (iterate 2 refine ql_pure tabOk rfl rfl ?_); refine q_nil ?_; refine q_ret ?_)
      refine q_fin tabOk rfl (by repeat (first | exact RVs.nil | apply RVs.tmp rfl | apply RVs.cellA rfl rfl (by repeat first | exact .head _ | refine .tail _ ?_) (by rfl) | apply RVs.cell1 rfl rfl (by repeat first | exact .head _ | refine .tail _ ?_))) fun w hs => ?_
      exact ⟨by simp [spnB, retV]; omega, hs.chg0⟩
    · by_cases h3 : a > b
      · (refine ql_pure tabOk rfl rfl ?_; refine q_nil ?_; refine q_seq ?_; refine q_region ?_; refine ql_pure tabOk rfl rfl ?_; refine ql_loadB tabOk rfl rfl rfl (by repeat first | exact .head _ | refine .tail _ ?_) (by rfl) ?_; refine ql_lssF tabOk rfl rfl rfl (by omega) ?_; refine ql_pure tabOk rfl rfl ?_; refine ql_gyes rfl ?_; refine ql_pure tabOk rfl rfl ?_; refine ql_gyes rfl ?_; refine ql_loadB tabOk rfl rfl rfl (by repeat first | exact .head _ | refine .tail _ ?_) (by rfl) ?_; refine ql_gyes rfl ?_; refine ql_pure tabOk rfl rfl ?_; refine ql_gyes rfl ?_; refine ql_gtrF tabOk rfl rfl rfl (by omega) ?_; (iterate 2 refine ql_pure tabOk rfl rfl ?_); refine ql_gyes rfl ?_; refine ql_pure tabOk rfl rfl ?_; refine ql_gyes rfl ?_; refine ql_loadB tabOk rfl rfl rfl (by repeat first | exact .head _ | refine .tail _ ?_) (by rfl) ?_; refine ql_gyes rfl ?_; refine ql_pure tabOk rfl rfl ?_; refine ql_gyes rfl ?_; refine ql_loadB tabOk rfl rfl rfl (by repeat first | exact .head _ | refine .tail _ ?_) (by rfl) ?_; refine ql_gyes rfl ?_; refine ql_gtrT tabOk rfl rfl rfl (by omega) ?_; (iterate 2 refine ql_pure tabOk rfl rfl ?_); refine q_nil ?_; refine q_ret ?_)
        refine q_fin tabOk rfl (by repeat (first | exact RVs.nil | apply RVs.tmp rfl | apply RVs.cellA rfl rfl (by repeat first | exact .head _ | refine .tail _ ?_) (by rfl) | apply RVs.cell1 rfl rfl (by repeat first | exact .head _ | refine .tail _ ?_))) fun w hs => ?_
        exact ⟨by simp [spnB, retV]; omega, hs.chg0⟩
      · (refine ql_pure tabOk rfl rfl ?_; refine q_nil ?_; refine q_seq ?_; refine q_region ?_; refine ql_pure tabOk rfl rfl ?_; refine ql_loadB tabOk rfl rfl rfl (by repeat first | exact .head _ | refine .tail _ ?_) (by rfl) ?_; refine ql_lssF tabOk rfl rfl rfl (by omega) ?_; refine ql_pure tabOk rfl rfl ?_; refine ql_gyes rfl ?_; refine ql_pure tabOk rfl rfl ?_; refine ql_gyes rfl ?_; refine ql_loadB tabOk rfl rfl rfl (by repeat first | exact .head _ | refine .tail _ ?_) (by rfl) ?_; refine ql_gyes rfl ?_; refine ql_pure tabOk rfl rfl ?_; refine ql_gyes rfl ?_; refine ql_gtrF tabOk rfl rfl rfl (by omega) ?_; (iterate 2 refine ql_pure tabOk rfl rfl ?_); refine ql_gyes rfl ?_; refine ql_pure tabOk rfl rfl ?_; refine ql_gyes rfl ?_; refine ql_loadB tabOk rfl rfl rfl (by repeat first | exact .head _ | refine .tail _ ?_) (by rfl) ?_; refine ql_gyes rfl ?_; refine ql_pure tabOk rfl rfl ?_; refine ql_gyes rfl ?_; refine ql_loadB tabOk rfl rfl rfl (by repeat first | exact .head _ | refine .tail _ ?_) (by rfl) ?_; refine ql_gyes rfl ?_; refine ql_gtrF tabOk rfl rfl rfl (by omega) ?_; (iterate 2 refine ql_pure tabOk rfl rfl ?_); refine q_nil ?_; refine q_ret ?_)
        refine q_fin tabOk rfl (by repeat (first | exact RVs.nil | apply RVs.tmp rfl | apply RVs.cellA rfl rfl (by repeat first | exact .head _ | refine .tail _ ?_) (by rfl) | apply RVs.cell1 rfl rfl (by repeat first | exact .head _ | refine .tail _ ?_))) fun w hs => ?_
        exact ⟨by simp [spnB, retV]; omega, hs.chg0⟩
section
variable {w : World} {lo hi b off len cap : Nat} {l : List Dy}
theorem RdD.need (h : RdD w lo hi (.slice (some ⟨b, off, none⟩) len cap) l) (i : Nat) (hi : i < l.length) (j : Nat) (hj : j < 2) : w.cell? ⟨b, off + i * 6 + 0 + j, none⟩ = [Value.int .i64 l[i].n0, Value.int .i64 l[i].n1][j]? := by
  have := RdD.at h i hi (0 + j) (by omega)
  rw [← Nat.add_assoc] at this
  rw [this]
  match j, hj with
  | 0, _ => rfl
  | 1, _ => rfl
theorem RdD.make (h : RdD w lo hi (.slice (some ⟨b, off, none⟩) len cap) l) (i : Nat) (hi : i < l.length) (j : Nat) (hj : j < 2) : w.cell? ⟨b, off + i * 6 + 2 + j, none⟩ = [Value.int .i64 l[i].m0, Value.int .i64 l[i].m1][j]? := by
  have := RdD.at h i hi (2 + j) (by omega)
  rw [← Nat.add_assoc] at this
  rw [this]
  match j, hj with
  | 0, _ => rfl
  | 1, _ => rfl
theorem RdD.loss (h : RdD w lo hi (.slice (some ⟨b, off, none⟩) len cap) l) (i : Nat) (hi : i < l.length) (j : Nat) (hj : j < 2) : w.cell? ⟨b, off + i * 6 + 4 + j, none⟩ = [Value.int .i64 l[i].l0, Value.int .i64 l[i].l1][j]? := by
  have := RdD.at h i hi (4 + j) (by omega)
  rw [← Nat.add_assoc] at this
  rw [this]
  match j, hj with
  | 0, _ => rfl
  | 1, _ => rfl
end
end Go.Proofs.Ytgeajgmefokifaa

/- Walks of the reference: the errors of a stadium, of rules, and of a course. -/
namespace Go.Proofs.Ytgeajgmefokifaa
open Go Go.Eng

section
variable {w : World} {lo hi b off len cap : Nat} {l : List Lp}
theorem RdL.a0 (h : RdL w lo hi (.slice (some ⟨b, off, none⟩) len cap) l) (i : Nat) (hi : i < l.length) : w.cell? ⟨b, off + i * 3 + 0, none⟩ = some (.int .i64 l[i].len) := RdL.at0 h i hi
end
set_option maxHeartbeats 1000000 in
theorem rstad_ca (w : World) (lo hi : Nat) (a : Option Addr) (c : Nat) (s : List Lp) (h : RdL w lo hi (.slice a s.length c) s) (hlen : s.length ≤ 1000000) :
    Ca Try.prog 91 [.slice a s.length c] w fun r w' => r = .int .i64 (stadV s) ∧ Chg [] w w' := by
  obtain ⟨a', c', he, hsa⟩ := RdL.outI h
  cases he
  refine q_of (Sat.nil w M0) Try.func91 rfl (by simp [Try.ntmps91]) ?_
  by_cases h1 : s.length < 1
  · (refine q_seq ?_; refine q_region ?_; refine ql_pure tabOk rfl rfl ?_; refine q_nil ?_; (iterate 2 refine q_seq ?_); refine q_region ?_; (iterate 2 refine ql_pure tabOk rfl rfl ?_); refine ql_lssT tabOk rfl rfl rfl (by omega) ?_; refine ql_pure tabOk rfl rfl ?_; (iterate 3 refine ql_gno rfl rfl rfl ?_); refine ql_pure tabOk rfl rfl ?_; refine q_nil ?_; refine q_cond_true rfl ?_; refine q_seq ?_; refine q_region ?_; refine ql_pure tabOk rfl rfl ?_; refine q_nil ?_; refine q_ret ?_)
    refine q_fin tabOk rfl (by repeat (first | exact RVs.nil | apply RVs.tmp rfl | apply RVs.cellA rfl rfl (by repeat first | exact .head _ | refine .tail _ ?_) (by rfl) | apply RVs.cell1 rfl rfl (by repeat first | exact .head _ | refine .tail _ ?_))) fun w hs => ?_
    exact ⟨by unfold stadV; rw [if_pos (by omega)]; rfl, hs.chg0⟩
  by_cases h2 : s.length > 12
  · (refine q_seq ?_; refine q_region ?_; refine ql_pure tabOk rfl rfl ?_; refine q_nil ?_; (iterate 2 refine q_seq ?_); refine q_region ?_; (iterate 2 refine ql_pure tabOk rfl rfl ?_); refine ql_lssF tabOk rfl rfl rfl (by omega) ?_; refine ql_pure tabOk rfl rfl ?_; refine ql_gyes rfl ?_; refine ql_pure tabOk rfl rfl ?_; refine ql_gyes rfl ?_; refine ql_pure tabOk rfl rfl ?_; refine ql_gyes rfl ?_; refine ql_gtrT tabOk rfl rfl rfl (by omega) ?_; refine ql_pure tabOk rfl rfl ?_; refine q_nil ?_; refine q_cond_true rfl ?_; refine q_seq ?_; refine q_region ?_; refine ql_pure tabOk rfl rfl ?_; refine q_nil ?_; refine q_ret ?_)
    refine q_fin tabOk rfl (by repeat (first | exact RVs.nil | apply RVs.tmp rfl | apply RVs.cellA rfl rfl (by repeat first | exact .head _ | refine .tail _ ?_) (by rfl) | apply RVs.cell1 rfl rfl (by repeat first | exact .head _ | refine .tail _ ?_))) fun w hs => ?_
    exact ⟨by unfold stadV; rw [if_pos (by omega)]; rfl, hs.chg0⟩
  have eC : stadV s = if s.all loopB = true then 0 else 3 := by
    unfold stadV
    rw [if_neg (by omega)]
  obtain ⟨b, off, rfl⟩ := hsa (by omega)
  (refine q_seq ?_; refine q_region ?_; refine ql_pure tabOk rfl rfl ?_; refine q_nil ?_; (iterate 2 refine q_seq ?_); refine q_region ?_; (iterate 2 refine ql_pure tabOk rfl rfl ?_); refine ql_lssF tabOk rfl rfl rfl (by omega) ?_; refine ql_pure tabOk rfl rfl ?_; refine ql_gyes rfl ?_; refine ql_pure tabOk rfl rfl ?_; refine ql_gyes rfl ?_; refine ql_pure tabOk rfl rfl ?_; refine ql_gyes rfl ?_; refine ql_gtrF tabOk rfl rfl rfl (by omega) ?_; refine ql_pure tabOk rfl rfl ?_; refine q_nil ?_; refine q_cond_false rfl ?_; refine q_skip ?_; (iterate 2 refine q_seq ?_); refine q_region ?_; refine ql_pure tabOk rfl rfl ?_; refine q_nil ?_; refine q_block ?_)
  refine q_loop (σ := Nat) (fun k => k ≤ s.length ∧ (s.take k).all loopB = true) (fun k => s.length - k) (fun k => [(0, .slice (some ⟨b, off, none⟩) s.length c), (3, .int .i64 k)]) (fun _ => []) 0 ⟨by omega, rfl⟩ ⟨rfl, rfl, trivial⟩ (by repeat (first | exact Sp.nil | exact Sp.refl _ | refine Sp.cons (by repeat constructor) ?_)) ?_
  rintro k ⟨hk, hall⟩ K hK
  ((iterate 2 refine q_seq ?_); refine q_region ?_; (iterate 4 refine ql_pure tabOk rfl rfl ?_); refine q_nil ?_)
  refine q_if rfl (fun hc => ?_) (fun hc => ?_)
  · have hk2 : k < s.length := by omega
    clear hc
    have e : (s.take (k + 1)).all loopB = loopB s[k] := by rw [List.take_succ_eq_append_getElem hk2, List.all_append, hall]; simp
    have e2 : loopB s[k] = false → s.all loopB = false := fun hh => List.all_eq_false.2 ⟨s[k], List.getElem_mem hk2, by simp [hh]⟩
    have e3 : loopB s[k] = (wiB s[k].len 1 20000 && wiB s[k].climb 0 2000 && wiB s[k].wide 1 20) := rfl
    (refine q_skip ?_; refine q_seq ?_; refine q_block ?_; refine q_seq ?_; refine q_region ?_; (iterate 2 refine ql_pure tabOk rfl rfl ?_))
    refine ql_index tabOk rfl rfl rfl rfl rfl (by omega) (by omega) ?_
    (refine ql_pure tabOk rfl rfl ?_)
    refine ql_load1 tabOk rfl rfl rfl (fun w hs => RdL.at0 (RdE.keep h hs.chg0) k hk2) ?_
    refine ql_callv (val := .bool (!(wiB s[k].len 1 20000))) tabOk rfl rfl rfl rfl (fun w hs => ?_) ?_; exact out_ca s[k].len 1 20000 w
    cases g1 : wiB s[k].len 1 20000 with
    | false =>
      (refine ql_pure tabOk rfl rfl ?_; (iterate 6 refine ql_gno rfl rfl rfl ?_); (iterate 2 refine ql_pure tabOk rfl rfl ?_); (iterate 6 refine ql_gno rfl rfl rfl ?_); refine ql_pure tabOk rfl rfl ?_; refine q_nil ?_; refine q_cond_true rfl ?_; refine q_seq ?_; refine q_region ?_; refine ql_pure tabOk rfl rfl ?_; refine q_nil ?_; refine q_ret ?_)
      refine q_fin tabOk rfl (by repeat (first | exact RVs.nil | apply RVs.tmp rfl | apply RVs.cellA rfl rfl (by repeat first | exact .head _ | refine .tail _ ?_) (by rfl) | apply RVs.cell1 rfl rfl (by repeat first | exact .head _ | refine .tail _ ?_))) fun w hs => ?_
      exact ⟨by rw [eC, e2 (by rw [e3, g1]; rfl)]; rfl, hs.chg0⟩
    | true =>
    (refine ql_pure tabOk rfl rfl ?_; refine ql_gyes rfl ?_; refine ql_pure tabOk rfl rfl ?_; refine ql_gyes rfl ?_; refine ql_pure tabOk rfl rfl ?_; refine ql_gyes rfl ?_)
    refine ql_index tabOk rfl rfl rfl rfl rfl (by omega) (by omega) ?_
    (refine ql_gyes rfl ?_; refine ql_pure tabOk rfl rfl ?_; refine ql_gyes rfl ?_)
    refine ql_load1 tabOk rfl rfl rfl (fun w hs => RdL.at1 (RdE.keep h hs.chg0) k hk2) ?_
    (refine ql_gyes rfl ?_)
    refine ql_callv (val := .bool (!(wiB s[k].climb 0 2000))) tabOk rfl rfl rfl rfl (fun w hs => ?_) ?_; exact out_ca s[k].climb 0 2000 w
    cases g2 : wiB s[k].climb 0 2000 with
    | false =>
      ((iterate 2 refine ql_pure tabOk rfl rfl ?_); (iterate 6 refine ql_gno rfl rfl rfl ?_); refine ql_pure tabOk rfl rfl ?_; refine q_nil ?_; refine q_cond_true rfl ?_; refine q_seq ?_; refine q_region ?_; refine ql_pure tabOk rfl rfl ?_; refine q_nil ?_; refine q_ret ?_)
      refine q_fin tabOk rfl (by repeat (first | exact RVs.nil | apply RVs.tmp rfl | apply RVs.cellA rfl rfl (by repeat first | exact .head _ | refine .tail _ ?_) (by rfl) | apply RVs.cell1 rfl rfl (by repeat first | exact .head _ | refine .tail _ ?_))) fun w hs => ?_
      exact ⟨by rw [eC, e2 (by rw [e3, g1, g2]; rfl)]; rfl, hs.chg0⟩
    | true =>
    ((iterate 2 refine ql_pure tabOk rfl rfl ?_); refine ql_gyes rfl ?_; refine ql_pure tabOk rfl rfl ?_; refine ql_gyes rfl ?_; refine ql_pure tabOk rfl rfl ?_; refine ql_gyes rfl ?_)
    refine ql_index tabOk rfl rfl rfl rfl rfl (by omega) (by omega) ?_
    (refine ql_gyes rfl ?_; refine ql_pure tabOk rfl rfl ?_; refine ql_gyes rfl ?_)
    refine ql_load1 tabOk rfl rfl rfl (fun w hs => RdL.at2 (RdE.keep h hs.chg0) k hk2) ?_
    (refine ql_gyes rfl ?_)
    refine ql_callv (val := .bool (!(wiB s[k].wide 1 20))) tabOk rfl rfl rfl rfl (fun w hs => ?_) ?_; exact out_ca s[k].wide 1 20 w
    cases g3 : wiB s[k].wide 1 20 with
    | false =>
      (refine ql_pure tabOk rfl rfl ?_; refine q_nil ?_; refine q_cond_true rfl ?_; refine q_seq ?_; refine q_region ?_; refine ql_pure tabOk rfl rfl ?_; refine q_nil ?_; refine q_ret ?_)
      refine q_fin tabOk rfl (by repeat (first | exact RVs.nil | apply RVs.tmp rfl | apply RVs.cellA rfl rfl (by repeat first | exact .head _ | refine .tail _ ?_) (by rfl) | apply RVs.cell1 rfl rfl (by repeat first | exact .head _ | refine .tail _ ?_))) fun w hs => ?_
      exact ⟨by rw [eC, e2 (by rw [e3, g1, g2, g3]; rfl)]; rfl, hs.chg0⟩
    | true =>
    (refine ql_pure tabOk rfl rfl ?_; refine q_nil ?_; refine q_cond_false rfl ?_; refine q_skip ?_; refine q_blk ?_; refine q_region ?_; refine ql_pure tabOk rfl rfl ?_; refine ql_ar tabOk rfl rfl rfl rfl (by omega) (by omega) ?_; refine ql_pure tabOk rfl rfl ?_; refine q_nil ?_)
    exact hK (k + 1) _ _ ⟨by omega, by rw [e, e3, g1, g2, g3]; rfl⟩ (by omega) ⟨rfl, rfl, trivial⟩ (by repeat (first | exact Sp.nil | exact Sp.refl _ | refine Sp.cons (by repeat constructor) ?_))
  · obtain rfl : k = s.length := by omega
    rw [List.take_length] at hall
    (refine q_exit _ rfl ?_; refine q_seq ?_; refine q_region ?_; refine ql_pure tabOk rfl rfl ?_; refine q_nil ?_; refine q_ret ?_)
    refine q_fin tabOk rfl (by repeat (first | exact RVs.nil | apply RVs.tmp rfl | apply RVs.cellA rfl rfl (by repeat first | exact .head _ | refine .tail _ ?_) (by rfl) | apply RVs.cell1 rfl rfl (by repeat first | exact .head _ | refine .tail _ ?_))) fun w hs => ?_
    exact ⟨by rw [eC, hall]; rfl, hs.chg0⟩
theorem stadV_or (s : List Lp) : stadV s = 0 ∨ stadV s = 2 ∨ stadV s = 3 := by
  unfold stadV
  split
  · simp
  · split <;> simp
set_option maxHeartbeats 2000000 in
theorem rcheckS_ca (w : World) (lo hi : Nat) (a : Option Addr) (c : Nat) (s : List Lp) (r : Rl) (h : RdL w lo hi (.slice a s.length c) s) (hlen : s.length ≤ 1000000) :
    Ca Try.prog 22 [.slice a s.length c, .agg (rlC r).toArray] w fun v w' => v = .int .i64 (checkS s r) ∧ Chg [] w w' := by
  refine q_of (Sat.nil w M0) Try.func22 rfl (by simp [Try.ntmps22]) ?_
  (refine q_seq ?_; refine q_region ?_)
  refine ql_box rfl rfl (fun b3 => ?_)
  (refine ql_pure tabOk rfl rfl ?_; refine q_nil ?_; (iterate 2 refine q_seq ?_); refine q_region ?_; refine ql_pure tabOk rfl rfl ?_)
  refine ql_callv (val := .int .i64 (stadV s)) tabOk rfl rfl rfl rfl (fun w hs => ?_) ?_; exact rstad_ca w lo hi a c s (RdE.keep h hs.chg0) hlen
  by_cases h0 : stadV s ≠ 0
  · have e : checkS s r = stadV s := by unfold checkS; rw [if_pos h0]
    rw [e]
    rcases stadV_or s with h1 | h1 | h1
    · exact absurd h1 h0
    all_goals
      rw [h1]
      (refine ql_pure tabOk rfl rfl ?_; refine q_nil ?_; refine q_seq ?_; refine q_region ?_; refine ql_pure tabOk rfl rfl ?_; refine ql_neqT tabOk rfl rfl rfl (by omega) ?_; refine q_nil ?_; refine q_cond_true rfl ?_; refine q_seq ?_; refine q_region ?_; (iterate 2 refine ql_pure tabOk rfl rfl ?_); refine q_nil ?_; refine q_ret ?_)
      refine q_fin tabOk rfl (by repeat (first | exact RVs.nil | apply RVs.tmp rfl | apply RVs.cellA rfl rfl (by repeat first | exact .head _ | refine .tail _ ?_) (by rfl) | apply RVs.cell1 rfl rfl (by repeat first | exact .head _ | refine .tail _ ?_))) fun w hs => ?_
      exact ⟨rfl, hs.chg0⟩
  have h0 : stadV s = 0 := by omega
  have e : checkS s r = if rulesB r = true then 0 else 3 := by unfold checkS; rw [if_neg (by omega)]
  rw [h0]
  have eB : rulesB r = (wiB r.laps 1 6 && spnB r.g0 r.g1 200000 && spnB r.c0 r.c1 200000 && spnB r.p0 r.p1 200000 && wiB r.wide 1 20 && wiB r.uses 1 6) := rfl
  (refine ql_pure tabOk rfl rfl ?_; refine q_nil ?_; refine q_seq ?_; refine q_region ?_; refine ql_pure tabOk rfl rfl ?_; refine ql_neqF tabOk rfl rfl rfl (by omega) ?_; refine q_nil ?_; refine q_cond_false rfl ?_; refine q_skip ?_; (iterate 2 refine q_seq ?_); refine q_region ?_; refine ql_pure tabOk rfl rfl ?_; refine ql_loadB tabOk rfl rfl rfl (by repeat first | exact .head _ | refine .tail _ ?_) (by rfl) ?_)
  refine ql_callv (val := .bool (!(wiB r.laps 1 6))) tabOk rfl rfl rfl rfl (fun w hs => ?_) ?_; exact out_ca r.laps 1 6 w
  cases g1 : wiB r.laps 1 6 with
  | false =>
    (refine ql_pure tabOk rfl rfl ?_; (iterate 3 refine ql_gno rfl rfl rfl ?_); (iterate 2 refine ql_pure tabOk rfl rfl ?_); (iterate 3 refine ql_gno rfl rfl rfl ?_); (iterate 2 refine ql_pure tabOk rfl rfl ?_); (iterate 3 refine ql_gno rfl rfl rfl ?_); (iterate 2 refine ql_pure tabOk rfl rfl ?_); (iterate 3 refine ql_gno rfl rfl rfl ?_); (iterate 2 refine ql_pure tabOk rfl rfl ?_); (iterate 3 refine ql_gno rfl rfl rfl ?_); refine ql_pure tabOk rfl rfl ?_; refine q_nil ?_; refine q_cond_true rfl ?_; refine q_seq ?_; refine q_region ?_; refine ql_pure tabOk rfl rfl ?_; refine q_nil ?_; refine q_ret ?_)
    refine q_fin tabOk rfl (by repeat (first | exact RVs.nil | apply RVs.tmp rfl | apply RVs.cellA rfl rfl (by repeat first | exact .head _ | refine .tail _ ?_) (by rfl) | apply RVs.cell1 rfl rfl (by repeat first | exact .head _ | refine .tail _ ?_))) fun w hs => ?_
    exact ⟨by rw [e, eB]; simp [*, retV], hs.chg0⟩
  | true =>
  (refine ql_pure tabOk rfl rfl ?_; refine ql_gyes rfl ?_; refine ql_pure tabOk rfl rfl ?_; refine ql_gyes rfl ?_; refine ql_loadAB tabOk rfl rfl rfl (by repeat first | exact .head _ | refine .tail _ ?_) (by rfl) (by rfl) ?_; refine ql_gyes rfl ?_)
  refine ql_callv (val := .bool (!(spnB r.g0 r.g1 200000))) tabOk rfl rfl rfl rfl (fun w hs => ?_) ?_; exact wrong_ca r.g0 r.g1 200000 w
  cases g2 : spnB r.g0 r.g1 200000 with
  | false =>
    ((iterate 2 refine ql_pure tabOk rfl rfl ?_); (iterate 3 refine ql_gno rfl rfl rfl ?_); (iterate 2 refine ql_pure tabOk rfl rfl ?_); (iterate 3 refine ql_gno rfl rfl rfl ?_); (iterate 2 refine ql_pure tabOk rfl rfl ?_); (iterate 3 refine ql_gno rfl rfl rfl ?_); (iterate 2 refine ql_pure tabOk rfl rfl ?_); (iterate 3 refine ql_gno rfl rfl rfl ?_); refine ql_pure tabOk rfl rfl ?_; refine q_nil ?_; refine q_cond_true rfl ?_; refine q_seq ?_; refine q_region ?_; refine ql_pure tabOk rfl rfl ?_; refine q_nil ?_; refine q_ret ?_)
    refine q_fin tabOk rfl (by repeat (first | exact RVs.nil | apply RVs.tmp rfl | apply RVs.cellA rfl rfl (by repeat first | exact .head _ | refine .tail _ ?_) (by rfl) | apply RVs.cell1 rfl rfl (by repeat first | exact .head _ | refine .tail _ ?_))) fun w hs => ?_
    exact ⟨by rw [e, eB]; simp [*, retV], hs.chg0⟩
  | true =>
  ((iterate 2 refine ql_pure tabOk rfl rfl ?_); refine ql_gyes rfl ?_; refine ql_pure tabOk rfl rfl ?_; refine ql_gyes rfl ?_; refine ql_loadAB tabOk rfl rfl rfl (by repeat first | exact .head _ | refine .tail _ ?_) (by rfl) (by rfl) ?_; refine ql_gyes rfl ?_)
  refine ql_callv (val := .bool (!(spnB r.c0 r.c1 200000))) tabOk rfl rfl rfl rfl (fun w hs => ?_) ?_; exact wrong_ca r.c0 r.c1 200000 w
  cases g3 : spnB r.c0 r.c1 200000 with
  | false =>
    ((iterate 2 refine ql_pure tabOk rfl rfl ?_); (iterate 3 refine ql_gno rfl rfl rfl ?_); (iterate 2 refine ql_pure tabOk rfl rfl ?_); (iterate 3 refine ql_gno rfl rfl rfl ?_); (iterate 2 refine ql_pure tabOk rfl rfl ?_); (iterate 3 refine ql_gno rfl rfl rfl ?_); refine ql_pure tabOk rfl rfl ?_; refine q_nil ?_; refine q_cond_true rfl ?_; refine q_seq ?_; refine q_region ?_; refine ql_pure tabOk rfl rfl ?_; refine q_nil ?_; refine q_ret ?_)
    refine q_fin tabOk rfl (by repeat (first | exact RVs.nil | apply RVs.tmp rfl | apply RVs.cellA rfl rfl (by repeat first | exact .head _ | refine .tail _ ?_) (by rfl) | apply RVs.cell1 rfl rfl (by repeat first | exact .head _ | refine .tail _ ?_))) fun w hs => ?_
    exact ⟨by rw [e, eB]; simp [*, retV], hs.chg0⟩
  | true =>
  ((iterate 2 refine ql_pure tabOk rfl rfl ?_); refine ql_gyes rfl ?_; refine ql_pure tabOk rfl rfl ?_; refine ql_gyes rfl ?_; refine ql_loadAB tabOk rfl rfl rfl (by repeat first | exact .head _ | refine .tail _ ?_) (by rfl) (by rfl) ?_; refine ql_gyes rfl ?_)
  refine ql_callv (val := .bool (!(spnB r.p0 r.p1 200000))) tabOk rfl rfl rfl rfl (fun w hs => ?_) ?_; exact wrong_ca r.p0 r.p1 200000 w
  cases g4 : spnB r.p0 r.p1 200000 with
  | false =>
    ((iterate 2 refine ql_pure tabOk rfl rfl ?_); (iterate 3 refine ql_gno rfl rfl rfl ?_); (iterate 2 refine ql_pure tabOk rfl rfl ?_); (iterate 3 refine ql_gno rfl rfl rfl ?_); refine ql_pure tabOk rfl rfl ?_; refine q_nil ?_; refine q_cond_true rfl ?_; refine q_seq ?_; refine q_region ?_; refine ql_pure tabOk rfl rfl ?_; refine q_nil ?_; refine q_ret ?_)
    refine q_fin tabOk rfl (by repeat (first | exact RVs.nil | apply RVs.tmp rfl | apply RVs.cellA rfl rfl (by repeat first | exact .head _ | refine .tail _ ?_) (by rfl) | apply RVs.cell1 rfl rfl (by repeat first | exact .head _ | refine .tail _ ?_))) fun w hs => ?_
    exact ⟨by rw [e, eB]; simp [*, retV], hs.chg0⟩
  | true =>
  ((iterate 2 refine ql_pure tabOk rfl rfl ?_); refine ql_gyes rfl ?_; refine ql_pure tabOk rfl rfl ?_; refine ql_gyes rfl ?_; refine ql_loadB tabOk rfl rfl rfl (by repeat first | exact .head _ | refine .tail _ ?_) (by rfl) ?_; refine ql_gyes rfl ?_)
  refine ql_callv (val := .bool (!(wiB r.wide 1 20))) tabOk rfl rfl rfl rfl (fun w hs => ?_) ?_; exact out_ca r.wide 1 20 w
  cases g5 : wiB r.wide 1 20 with
  | false =>
    ((iterate 2 refine ql_pure tabOk rfl rfl ?_); (iterate 3 refine ql_gno rfl rfl rfl ?_); refine ql_pure tabOk rfl rfl ?_; refine q_nil ?_; refine q_cond_true rfl ?_; refine q_seq ?_; refine q_region ?_; refine ql_pure tabOk rfl rfl ?_; refine q_nil ?_; refine q_ret ?_)
    refine q_fin tabOk rfl (by repeat (first | exact RVs.nil | apply RVs.tmp rfl | apply RVs.cellA rfl rfl (by repeat first | exact .head _ | refine .tail _ ?_) (by rfl) | apply RVs.cell1 rfl rfl (by repeat first | exact .head _ | refine .tail _ ?_))) fun w hs => ?_
    exact ⟨by rw [e, eB]; simp [*, retV], hs.chg0⟩
  | true =>
  ((iterate 2 refine ql_pure tabOk rfl rfl ?_); refine ql_gyes rfl ?_; refine ql_pure tabOk rfl rfl ?_; refine ql_gyes rfl ?_; refine ql_loadB tabOk rfl rfl rfl (by repeat first | exact .head _ | refine .tail _ ?_) (by rfl) ?_; refine ql_gyes rfl ?_)
  refine ql_callv (val := .bool (!(wiB r.uses 1 6))) tabOk rfl rfl rfl rfl (fun w hs => ?_) ?_; exact out_ca r.uses 1 6 w
  cases g6 : wiB r.uses 1 6 with
  | false =>
    (refine ql_pure tabOk rfl rfl ?_; refine q_nil ?_; refine q_cond_true rfl ?_; refine q_seq ?_; refine q_region ?_; refine ql_pure tabOk rfl rfl ?_; refine q_nil ?_; refine q_ret ?_)
    refine q_fin tabOk rfl (by repeat (first | exact RVs.nil | apply RVs.tmp rfl | apply RVs.cellA rfl rfl (by repeat first | exact .head _ | refine .tail _ ?_) (by rfl) | apply RVs.cell1 rfl rfl (by repeat first | exact .head _ | refine .tail _ ?_))) fun w hs => ?_
    exact ⟨by rw [e, eB]; simp [*, retV], hs.chg0⟩
  | true =>
  (refine ql_pure tabOk rfl rfl ?_; refine q_nil ?_; refine q_cond_false rfl ?_; refine q_skip ?_; refine q_seq ?_; refine q_region ?_; refine ql_pure tabOk rfl rfl ?_; refine q_nil ?_; refine q_ret ?_)
  refine q_fin tabOk rfl (by repeat (first | exact RVs.nil | apply RVs.tmp rfl | apply RVs.cellA rfl rfl (by repeat first | exact .head _ | refine .tail _ ?_) (by rfl) | apply RVs.cell1 rfl rfl (by repeat first | exact .head _ | refine .tail _ ?_))) fun w hs => ?_
  exact ⟨by rw [e, eB]; simp [*, retV], hs.chg0⟩
/-- In order, as far as they are looked at. -/
def ordB (c : List Int) (k : Nat) : Bool := (List.range k).all fun i => decide (c.getD i 0 ≤ c.getD (i + 1) 0) && true
theorem ordB_srt : ∀ (c : List Int), srtB c = ordB c (c.length - 1)
  | [] => rfl
  | [_] => rfl
  | a :: b :: l => by
    rw [srtB, ordB_srt (b :: l)]
    simp only [ordB, List.length_cons, Nat.add_sub_cancel]
    rw [List.range_succ_eq_map, List.all_cons, List.all_map]
    simp only [Bool.and_true]
    rfl
theorem ordB_succ (c : List Int) (k : Nat) : ordB c (k + 1) = (ordB c k && decide (c.getD k 0 ≤ c.getD (k + 1) 0)) := by simp [ordB, List.range_succ]
theorem ordB_no {c : List Int} {k n : Nat} (hk : k < n) (h : c.getD (k + 1) 0 < c.getD k 0) : ordB c n = false := List.all_eq_false.2 ⟨k, List.mem_range.2 hk, by simp only [Bool.and_true, decide_eq_true_eq]; omega⟩
set_option maxHeartbeats 2000000 in
theorem rlisted_ca (w : World) (lo hi : Nat) (sa : Option Addr) (n sc : Nat) (v : Value) (c : List Int) (h : RdI w lo hi v c) (hlen : c.length ≤ 1000000) (hn : n ≤ 1000000) :
    Ca Try.prog 97 [.slice sa n sc, v] w fun r w' => r = .int .i64 (listedV n c) ∧ Chg [] w w' := by
  obtain ⟨a, cc, rfl, hsa⟩ := RdI.outI h
  refine q_of (Sat.nil w M0) Try.func97 rfl (by simp [Try.ntmps97]) ?_
  by_cases h1 : c.length < 1
  · (refine q_seq ?_; refine q_region ?_; refine ql_pure tabOk rfl rfl ?_; refine q_nil ?_; (iterate 2 refine q_seq ?_); refine q_region ?_; (iterate 2 refine ql_pure tabOk rfl rfl ?_); refine ql_lssT tabOk rfl rfl rfl (by omega) ?_; refine ql_pure tabOk rfl rfl ?_; (iterate 3 refine ql_gno rfl rfl rfl ?_); refine ql_pure tabOk rfl rfl ?_; refine q_nil ?_; refine q_cond_true rfl ?_; refine q_seq ?_; refine q_region ?_; refine ql_pure tabOk rfl rfl ?_; refine q_nil ?_; refine q_ret ?_)
    refine q_fin tabOk rfl (by repeat (first | exact RVs.nil | apply RVs.tmp rfl | apply RVs.cellA rfl rfl (by repeat first | exact .head _ | refine .tail _ ?_) (by rfl) | apply RVs.cell1 rfl rfl (by repeat first | exact .head _ | refine .tail _ ?_))) fun w hs => ?_
    exact ⟨by unfold listedV; rw [if_pos (by omega)]; rfl, hs.chg0⟩
  by_cases h2 : c.length > 6
  · (refine q_seq ?_; refine q_region ?_; refine ql_pure tabOk rfl rfl ?_; refine q_nil ?_; (iterate 2 refine q_seq ?_); refine q_region ?_; (iterate 2 refine ql_pure tabOk rfl rfl ?_); refine ql_lssF tabOk rfl rfl rfl (by omega) ?_; refine ql_pure tabOk rfl rfl ?_; refine ql_gyes rfl ?_; refine ql_pure tabOk rfl rfl ?_; refine ql_gyes rfl ?_; refine ql_pure tabOk rfl rfl ?_; refine ql_gyes rfl ?_; refine ql_gtrT tabOk rfl rfl rfl (by omega) ?_; refine ql_pure tabOk rfl rfl ?_; refine q_nil ?_; refine q_cond_true rfl ?_; refine q_seq ?_; refine q_region ?_; refine ql_pure tabOk rfl rfl ?_; refine q_nil ?_; refine q_ret ?_)
    refine q_fin tabOk rfl (by repeat (first | exact RVs.nil | apply RVs.tmp rfl | apply RVs.cellA rfl rfl (by repeat first | exact .head _ | refine .tail _ ?_) (by rfl) | apply RVs.cell1 rfl rfl (by repeat first | exact .head _ | refine .tail _ ?_))) fun w hs => ?_
    exact ⟨by unfold listedV; rw [if_pos (by omega)]; rfl, hs.chg0⟩
  have eC : listedV n c = if inL n c = false then 1 else if srtB c = true then 0 else 4 := by
    unfold listedV
    rw [if_neg (by omega)]
  obtain ⟨b, off, rfl⟩ := hsa (by omega)
  (refine q_seq ?_; refine q_region ?_; refine ql_pure tabOk rfl rfl ?_; refine q_nil ?_; (iterate 2 refine q_seq ?_); refine q_region ?_; (iterate 2 refine ql_pure tabOk rfl rfl ?_); refine ql_lssF tabOk rfl rfl rfl (by omega) ?_; refine ql_pure tabOk rfl rfl ?_; refine ql_gyes rfl ?_; refine ql_pure tabOk rfl rfl ?_; refine ql_gyes rfl ?_; refine ql_pure tabOk rfl rfl ?_; refine ql_gyes rfl ?_; refine ql_gtrF tabOk rfl rfl rfl (by omega) ?_; refine ql_pure tabOk rfl rfl ?_; refine q_nil ?_; refine q_cond_false rfl ?_; refine q_skip ?_; (iterate 2 refine q_seq ?_); refine q_region ?_; refine ql_pure tabOk rfl rfl ?_; refine q_nil ?_; refine q_block ?_)
  refine q_loop (σ := Nat) (fun k => k ≤ c.length ∧ inL n (c.take k) = true) (fun k => c.length - k) (fun k => [(0, .slice sa n sc), (1, .slice (some ⟨b, off, none⟩) c.length cc), (5, .int .i64 k)]) (fun _ => []) 0 ⟨by omega, rfl⟩ ⟨rfl, rfl, rfl, trivial⟩ (by repeat (first | exact Sp.nil | exact Sp.refl _ | refine Sp.cons (by repeat constructor) ?_)) ?_
  rintro k ⟨hk, hall⟩ K hK
  ((iterate 2 refine q_seq ?_); refine q_region ?_; (iterate 4 refine ql_pure tabOk rfl rfl ?_); refine q_nil ?_)
  refine q_if rfl (fun hc => ?_) (fun hc => ?_)
  · have hk2 : k < c.length := by omega
    clear hc
    have e : inL n (c.take (k + 1)) = wiB c[k] 0 ((n : Int) - 1) := by
      unfold inL at hall ⊢
      rw [List.take_succ_eq_append_getElem hk2, List.all_append, hall]
      simp
    have e2 : wiB c[k] 0 ((n : Int) - 1) = false → inL n c = false := fun hh => List.all_eq_false.2 ⟨c[k], List.getElem_mem hk2, by simp [hh]⟩
    (refine q_skip ?_; refine q_seq ?_; refine q_block ?_; refine q_seq ?_; refine q_region ?_; (iterate 2 refine ql_pure tabOk rfl rfl ?_))
    (refine ql_index tabOk rfl rfl rfl rfl rfl (by omega) (by omega) ?_; refine ql_load1 tabOk rfl rfl rfl (fun w hs => RdI.at (RdE.keep h hs.chg0) k hk2) ?_)
    ((iterate 2 refine ql_pure tabOk rfl rfl ?_); refine ql_ar tabOk rfl rfl rfl rfl (by omega) (by omega) ?_)
    refine ql_callv (val := .bool (!(wiB c[k] 0 ((n : Int) - 1)))) tabOk rfl rfl rfl rfl (fun w hs => ?_) ?_; exact out_ca c[k] 0 ((n : Int) - 1) w
    cases g1 : wiB c[k] 0 ((n : Int) - 1) with
    | false =>
      (refine q_nil ?_; refine q_cond_true rfl ?_; refine q_seq ?_; refine q_region ?_; refine ql_pure tabOk rfl rfl ?_; refine q_nil ?_; refine q_ret ?_)
      refine q_fin tabOk rfl (by repeat (first | exact RVs.nil | apply RVs.tmp rfl | apply RVs.cellA rfl rfl (by repeat first | exact .head _ | refine .tail _ ?_) (by rfl) | apply RVs.cell1 rfl rfl (by repeat first | exact .head _ | refine .tail _ ?_))) fun w hs => ?_
      exact ⟨by rw [eC, e2 g1]; rfl, hs.chg0⟩
    | true =>
    (refine q_nil ?_; refine q_cond_false rfl ?_; refine q_skip ?_; refine q_blk ?_; refine q_region ?_; refine ql_pure tabOk rfl rfl ?_; refine ql_ar tabOk rfl rfl rfl rfl (by omega) (by omega) ?_; refine ql_pure tabOk rfl rfl ?_; refine q_nil ?_)
    exact hK (k + 1) _ _ ⟨by omega, by rw [e, g1]⟩ (by omega) ⟨rfl, rfl, rfl, trivial⟩ (by repeat (first | exact Sp.nil | exact Sp.refl _ | refine Sp.cons (by repeat constructor) ?_))
  · obtain rfl : k = c.length := by omega
    rw [List.take_length] at hall
    clear hc hK
    rw [hall] at eC
    (refine q_exit _ rfl ?_; (iterate 2 refine q_seq ?_); refine q_region ?_; refine ql_pure tabOk rfl rfl ?_; refine q_nil ?_; refine q_block ?_)
    refine q_loop (σ := Nat) (fun k => k + 1 ≤ c.length ∧ ordB c k = true) (fun k => c.length - k) (fun k => [(1, .slice (some ⟨b, off, none⟩) c.length cc), (6, .int .i64 ((k : Int) + 1))]) (fun _ => []) 0 ⟨by omega, rfl⟩ ⟨rfl, rfl, trivial⟩ (by repeat (first | exact Sp.nil | exact Sp.refl _ | refine Sp.cons (by repeat constructor) ?_)) ?_
    rintro k ⟨hk, hall⟩ K hK
    ((iterate 2 refine q_seq ?_); refine q_region ?_; (iterate 4 refine ql_pure tabOk rfl rfl ?_); refine q_nil ?_)
    refine q_if rfl (fun hc => ?_) (fun hc => ?_)
    · have hk2 : k + 1 < c.length := by omega
      have hk3 : k < c.length := by omega
      clear hc
      have es := ordB_succ c k
      have en := ordB_no (c := c) (k := k) (n := c.length - 1) (by omega)
      rw [← ordB_srt] at en
      rw [getD_at hk2, getD_at hk3] at es en
      (refine q_skip ?_; refine q_seq ?_; refine q_block ?_; refine q_seq ?_)
      refine q_draw _ [] (Sp.refl _) (by kernel_rfl) (by kernel_rfl) ?_
      ((iterate 2 refine qf_pure tabOk rfl rfl rfl ?_))
      refine qf_index tabOk rfl rfl rfl rfl rfl (by omega) (by omega) ?_
      refine qf_load1 (v := .int .i64 c[k + 1]) tabOk rfl rfl rfl (fun w hs => RdI.at (RdE.keep h hs.chg0) (k + 1) hk2) ?_
      ((iterate 2 refine qf_pure tabOk rfl rfl rfl ?_); refine qf_ar tabOk rfl rfl rfl rfl (by omega) (by omega) ?_)
      refine qf_index tabOk rfl rfl rfl rfl rfl (by omega) (by omega) ?_
      refine qf_load1 (v := .int .i64 c[k]) tabOk rfl rfl rfl (fun w hs => by have := RdI.at (RdE.keep h hs.chg0) k hk3; rwa [show ((k : Int) + 1 - 1).toNat = (k : Int).toNat by omega]) ?_
      generalize c[k + 1] = p at *
      generalize c[k] = q at *
      by_cases hpq : p < q
      · (refine qf_lssT tabOk rfl rfl rfl (by omega) ?_; refine qf_nil ?_; refine q_cond_true rfl ?_; refine q_seq ?_; refine q_region ?_; refine ql_pure tabOk rfl rfl ?_; refine q_nil ?_; refine q_ret ?_)
        refine q_fin tabOk rfl (by repeat (first | exact RVs.nil | apply RVs.tmp rfl | apply RVs.cellA rfl rfl (by repeat first | exact .head _ | refine .tail _ ?_) (by rfl) | apply RVs.cell1 rfl rfl (by repeat first | exact .head _ | refine .tail _ ?_))) fun w hs => ?_
        exact ⟨by rw [eC, en hpq]; rfl, hs.chg0⟩
      · (refine qf_lssF tabOk rfl rfl rfl (by omega) ?_; refine qf_nil ?_; refine q_cond_false rfl ?_; refine q_skip ?_; refine q_blk ?_; refine q_region ?_; refine ql_pure tabOk rfl rfl ?_; refine ql_ar tabOk rfl rfl rfl rfl (by omega) (by omega) ?_; refine ql_pure tabOk rfl rfl ?_; refine q_nil ?_)
        exact hK (k + 1) _ _ ⟨by omega, by rw [es, hall]; simp; omega⟩ (by omega) ⟨rfl, rfl, trivial⟩ (by repeat (first | exact Sp.nil | exact Sp.refl _ | refine Sp.cons (by repeat constructor) ?_))
    · obtain rfl : k = c.length - 1 := by omega
      rw [← ordB_srt] at hall
      rw [hall] at eC
      (refine q_exit _ rfl ?_; refine q_seq ?_; refine q_region ?_; refine ql_pure tabOk rfl rfl ?_; refine q_nil ?_; refine q_ret ?_)
      refine q_fin tabOk rfl (by repeat (first | exact RVs.nil | apply RVs.tmp rfl | apply RVs.cellA rfl rfl (by repeat first | exact .head _ | refine .tail _ ?_) (by rfl) | apply RVs.cell1 rfl rfl (by repeat first | exact .head _ | refine .tail _ ?_))) fun w hs => ?_
      exact ⟨by rw [eC]; rfl, hs.chg0⟩
end Go.Proofs.Ytgeajgmefokifaa

/- Walks of the reference: how often a loop occurs; which rules a course breaks. -/
namespace Go.Proofs.Ytgeajgmefokifaa
open Go Go.Eng

theorem lookV {e : Env} {t : Nat} {v u : Value} (h : Eng.look e t = some v) (hv : v = u) : Eng.look e t = some u := hv ▸ h
set_option maxHeartbeats 1000000 in
theorem ruses_ca (w : World) (lo hi : Nat) (v : Value) (c : List Int) (x : Int) (h : RdI w lo hi v c) (hlen : c.length ≤ 1000000) :
    Ca Try.prog 117 [v, .int .i64 x] w fun r w' => r = .int .i64 (cntI c x) ∧ Chg [] w w' := by
  obtain ⟨a, cc, rfl, hsa⟩ := RdI.outI h
  refine q_of (Sat.nil w M0) Try.func117 rfl (by simp [Try.ntmps117]) ?_
  (refine q_seq ?_; refine q_region ?_; refine ql_pure tabOk rfl rfl ?_; refine q_nil ?_; refine q_seq ?_; refine q_region ?_; refine ql_pure tabOk rfl rfl ?_; refine q_nil ?_; (iterate 2 refine q_seq ?_); refine q_region ?_; refine ql_pure tabOk rfl rfl ?_; refine q_nil ?_; refine q_block ?_)
  refine q_loop (σ := Nat) (fun k => k ≤ c.length) (fun k => c.length - k) (fun k => [(0, .slice a c.length cc), (1, .int .i64 x), (5, .int .i64 (cntI (c.take k) x)), (6, .int .i64 k)]) (fun _ => []) 0 (by omega) ⟨rfl, rfl, rfl, rfl, trivial⟩ (by repeat (first | exact Sp.nil | exact Sp.refl _ | refine Sp.cons (by repeat constructor) ?_)) ?_
  rintro k hk K hK
  ((iterate 2 refine q_seq ?_); refine q_region ?_; (iterate 4 refine ql_pure tabOk rfl rfl ?_); refine q_nil ?_)
  refine q_if rfl (fun hc => ?_) (fun hc => ?_)
  · have hk2 : k < c.length := by omega
    clear hc
    obtain ⟨b, off, rfl⟩ := hsa (by omega)
    have e := cnt_take_succ c x k hk2
    have hb := cnt_le (c := c.take k) (i := x)
    rw [List.length_take] at hb
    (refine q_skip ?_; refine q_seq ?_; refine q_block ?_; refine q_seq ?_; refine q_region ?_; (iterate 2 refine ql_pure tabOk rfl rfl ?_))
    (refine ql_index tabOk rfl rfl rfl rfl rfl (by omega) (by omega) ?_; refine ql_load1 tabOk rfl rfl rfl (fun w hs => RdI.at (RdE.keep h hs.chg0) k hk2) ?_)
    generalize c[k] = q at *
    by_cases hq : q = x
    · rw [if_pos hq] at e
      (refine ql_pure tabOk rfl rfl ?_; refine ql_eqlT tabOk rfl rfl rfl (by omega) ?_; refine q_nil ?_; refine q_cond_true rfl ?_; refine q_region ?_; refine ql_pure tabOk rfl rfl ?_; refine ql_ar tabOk rfl rfl rfl rfl (by omega) (by omega) ?_; refine ql_pure tabOk rfl rfl ?_; refine q_nil ?_; refine q_blk ?_; refine q_region ?_; refine ql_pure tabOk rfl rfl ?_; refine ql_ar tabOk rfl rfl rfl rfl (by omega) (by omega) ?_; refine ql_pure tabOk rfl rfl ?_; refine q_nil ?_)
      exact hK (k + 1) _ _ (by omega) (by omega) ⟨rfl, rfl, lookI rfl (by omega), rfl, trivial⟩ (by repeat (first | exact Sp.nil | exact Sp.refl _ | refine Sp.cons (by repeat constructor) ?_))
    · rw [if_neg hq] at e
      (refine ql_pure tabOk rfl rfl ?_; refine ql_eqlF tabOk rfl rfl rfl (by omega) ?_; refine q_nil ?_; refine q_cond_false rfl ?_; refine q_skip ?_; refine q_blk ?_; refine q_region ?_; refine ql_pure tabOk rfl rfl ?_; refine ql_ar tabOk rfl rfl rfl rfl (by omega) (by omega) ?_; refine ql_pure tabOk rfl rfl ?_; refine q_nil ?_)
      exact hK (k + 1) _ _ (by omega) (by omega) ⟨rfl, rfl, lookI rfl (by omega), rfl, trivial⟩ (by repeat (first | exact Sp.nil | exact Sp.refl _ | refine Sp.cons (by repeat constructor) ?_))
  · obtain rfl : k = c.length := by omega
    rw [List.take_length]
    (refine q_exit _ rfl ?_; refine q_seq ?_; refine q_region ?_; (iterate 2 refine ql_pure tabOk rfl rfl ?_); refine q_nil ?_; refine q_ret ?_)
    refine q_fin tabOk rfl (by repeat (first | exact RVs.nil | apply RVs.tmp rfl | apply RVs.cellA rfl rfl (by repeat first | exact .head _ | refine .tail _ ?_) (by rfl) | apply RVs.cell1 rfl rfl (by repeat first | exact .head _ | refine .tail _ ?_))) fun w hs => ?_
    exact ⟨rfl, hs.chg0⟩
def oftP (r : Rl) (c : List Int) (k : Nat) : Bool := (c.take k).any fun i => decide (r.uses < cntI c i) && true
set_option maxHeartbeats 8000000 in
theorem rbroken_ca (w : World) (lo hi lo2 hi9 : Nat) (a : Option Addr) (cp : Nat) (v : Value) (s : List Lp) (r : Rl) (c : List Int) (h : RdL w lo hi (.slice a s.length cp) s) (hcr : CR s r) (hv : RdI w lo2 hi9 v c) (hc1 : ∀ x ∈ c, 0 ≤ x ∧ x < s.length) (h6 : c.length ≤ 6) :
    Ca Try.prog 98 [.slice a s.length cp, .agg (rlC r).toArray, v] w fun x w' => ∃ u : Value, x = u ∧ Sat w M0 [.ow u 3 1 (brkL s r c).length (ints (brkL s r c))] w' := by
  obtain ⟨av, cv, rfl, hsv⟩ := RdI.outI hv
  obtain ⟨_, _, e0, hsa⟩ := RdL.outI h
  cases e0
  have hn2 := hcr.s.n2
  have hu := hcr.r.uses
  refine q_of (Sat.nil w M0) Try.func98 rfl (by simp [Try.ntmps98]) ?_
  (refine q_seq ?_; refine q_region ?_)
  refine ql_box rfl rfl (fun b4 => ?_)
  (refine ql_pure tabOk rfl rfl ?_; refine q_nil ?_; refine q_seq ?_; refine q_region ?_; (iterate 2 refine ql_pure tabOk rfl rfl ?_); refine q_nil ?_; refine q_seq ?_; refine q_region ?_; (iterate 3 refine ql_pure tabOk rfl rfl ?_); refine q_nil ?_; (iterate 2 refine q_seq ?_); refine q_region ?_; refine ql_pure tabOk rfl rfl ?_; refine q_nil ?_; refine q_block ?_)
  refine q_loop (σ := Nat) (fun k => k ≤ c.length) (fun k => c.length - k) (fun k => [(0, .slice a s.length cp), (2, .slice av c.length cv), (4, .pointer (some ⟨b4, 0, none⟩)), (7, .int .i64 (lenP s c k)), (8, .int .i64 (clbP s c k)), (9, .bool (lapP s r c k)), (10, .bool (widP s r c k)), (11, .bool (oftP r c k)), (12, .int .i64 k)]) (fun _ => [.pt b4 (rlC r) 38]) 0 (by omega) ⟨rfl, rfl, rfl, rfl, rfl, rfl, rfl, rfl, rfl, trivial⟩ (by repeat (first | exact Sp.nil | exact Sp.refl _ | refine Sp.cons (by repeat constructor) ?_)) ?_
  rintro k hk K hK
  ((iterate 2 refine q_seq ?_); refine q_region ?_; (iterate 4 refine ql_pure tabOk rfl rfl ?_); refine q_nil ?_)
  refine q_if rfl (fun hc => ?_) (fun hc => ?_)
  · have hk2 : k < c.length := by omega
    clear hc
    obtain ⟨bv, ov, rfl⟩ := hsv (by omega)
    have hi := mem_at hc1 hk2
    obtain ⟨ba, oa, rfl⟩ := hsa (by omega)
    have el : lenP s c (k + 1) = lenP s c k + (lpAt s c[k]).len := map_take_sum (fun i => (lpAt s i).len) c k hk2
    have ec : clbP s c (k + 1) = clbP s c k + (lpAt s c[k]).climb := map_take_sum (fun i => (lpAt s i).climb) c k hk2
    have ep : lapP s r c (k + 1) = (lapP s r c k || !wiB (lpAt s c[k]).len r.p0 r.p1) := any_take (fun i => !wiB (lpAt s i).len r.p0 r.p1) c k hk2
    have ew : widP s r c (k + 1) = (widP s r c k || (decide ((lpAt s c[k]).wide < r.wide) && true)) := any_take (fun i => decide ((lpAt s i).wide < r.wide) && true) c k hk2
    have eo : oftP r c (k + 1) = (oftP r c k || (decide (r.uses < cntI c c[k]) && true)) := any_take (fun i => decide (r.uses < cntI c i) && true) c k hk2
    have eat := lpAt_at (s := s) hi
    have hR := lpAt_right hcr.s hi
    have hR1 := hR.len
    have hR2 := hR.climb
    have hR3 := hR.wide
    have hb := lenP_bd hcr.s hc1 k hk h6
    have hcn := cnt_le (c := c) (i := c[k])
    have hca := fun (w' : World) (hc : Chg [] w w') => RdI.at (RdE.keep hv hc) k hk2
    (refine q_skip ?_; refine q_seq ?_; refine q_block ?_; refine q_seq ?_; refine q_region ?_; (iterate 3 refine ql_pure tabOk rfl rfl ?_))
    (refine ql_index tabOk rfl rfl rfl rfl rfl (by omega) (by omega) ?_; refine ql_load1 tabOk rfl rfl rfl (fun w hs => RdI.at (RdE.keep hv hs.chg0) k hk2) ?_)
    generalize c[k] = ck at *
    obtain ⟨i, rfl⟩ := Int.eq_ofNat_of_zero_le hi.1
    have hi2 : i < s.length := by omega
    replace eat : lpAt s (i : Int) = s[i] := eat
    rw [eat] at hR1 hR2 hR3 el ec ep ew
    have hck := fun (w' : World) (hc : Chg [] w w') => ruses_ca w' lo2 hi9 _ c i (RdE.keep hv hc) (by omega)
    clear eat hR
    skip
    refine ql_index tabOk rfl rfl rfl rfl rfl (by omega) (by omega) ?_
    skip
    refine ql_loadA tabOk rfl rfl rfl rfl (fun w hs => RdL.at (RdE.keep h hs.chg0) i hi2) ?_
    skip
    refine ql_alloc zero147 rfl (fun b13 => ?_)
    generalize s[i] = lp at *
    obtain ⟨ln, cl, wd⟩ := lp
    dsimp only at hR1 hR2 hR3 el ec ep ew ⊢
    generalize lenP s c k = LL at *
    generalize clbP s c k = CC at *
    generalize lapP s r c k = pP at *
    cases pP with
    | true =>
      generalize widP s r c k = wP at *
      cases wP with
      | true =>
        generalize oftP r c k = oP at *
        cases oP with
        | true =>
          (refine ql_setA tabOk rfl rfl rfl rfl rfl (by repeat constructor) rfl ?_; refine q_nil ?_; refine q_seq ?_; refine q_region ?_; (iterate 2 refine ql_pure tabOk rfl rfl ?_); refine ql_loadB tabOk rfl rfl rfl (by repeat first | exact .head _ | refine .tail _ ?_) (by rfl) ?_; refine ql_ar tabOk rfl rfl rfl rfl (by omega) (by omega) ?_; refine ql_pure tabOk rfl rfl ?_; refine q_nil ?_; refine q_seq ?_; refine q_region ?_; (iterate 2 refine ql_pure tabOk rfl rfl ?_); refine ql_loadB tabOk rfl rfl rfl (by repeat first | exact .head _ | refine .tail _ ?_) (by rfl) ?_; refine ql_ar tabOk rfl rfl rfl rfl (by omega) (by omega) ?_; refine ql_pure tabOk rfl rfl ?_; refine q_nil ?_; refine q_seq ?_; refine q_region ?_; (iterate 2 refine ql_pure tabOk rfl rfl ?_); (iterate 9 refine ql_gno rfl rfl rfl ?_); (iterate 2 refine ql_pure tabOk rfl rfl ?_); refine q_nil ?_; refine q_seq ?_; refine q_region ?_; (iterate 2 refine ql_pure tabOk rfl rfl ?_); (iterate 5 refine ql_gno rfl rfl rfl ?_); (iterate 2 refine ql_pure tabOk rfl rfl ?_); refine q_nil ?_)
          refine q_draw _ [] (Sp.refl _) (by kernel_rfl) (by kernel_rfl) ?_
          ((iterate 2 refine qf_pure tabOk rfl rfl rfl ?_); (iterate 9 refine qf_gno rfl rfl rfl ?_); (iterate 2 refine qf_pure tabOk rfl rfl rfl ?_); refine qf_nil ?_; refine q_blk ?_; refine q_region ?_; refine ql_pure tabOk rfl rfl ?_; refine ql_ar tabOk rfl rfl rfl rfl (by omega) (by omega) ?_; refine ql_pure tabOk rfl rfl ?_; refine q_nil ?_)
          exact hK (k + 1) _ _ (by omega) (by omega) ⟨rfl, rfl, rfl, lookI rfl (by omega), lookI rfl (by omega), lookV rfl (by rw [ep]; simp), lookV rfl (by rw [ew]; simp), lookV rfl (by rw [eo]; simp), rfl, trivial⟩ (by repeat (first | exact Sp.nil | exact Sp.refl _ | refine Sp.cons (by repeat constructor) ?_))
        | false =>
          (refine ql_setA tabOk rfl rfl rfl rfl rfl (by repeat constructor) rfl ?_; refine q_nil ?_; refine q_seq ?_; refine q_region ?_; (iterate 2 refine ql_pure tabOk rfl rfl ?_); refine ql_loadB tabOk rfl rfl rfl (by repeat first | exact .head _ | refine .tail _ ?_) (by rfl) ?_; refine ql_ar tabOk rfl rfl rfl rfl (by omega) (by omega) ?_; refine ql_pure tabOk rfl rfl ?_; refine q_nil ?_; refine q_seq ?_; refine q_region ?_; (iterate 2 refine ql_pure tabOk rfl rfl ?_); refine ql_loadB tabOk rfl rfl rfl (by repeat first | exact .head _ | refine .tail _ ?_) (by rfl) ?_; refine ql_ar tabOk rfl rfl rfl rfl (by omega) (by omega) ?_; refine ql_pure tabOk rfl rfl ?_; refine q_nil ?_; refine q_seq ?_; refine q_region ?_; (iterate 2 refine ql_pure tabOk rfl rfl ?_); (iterate 9 refine ql_gno rfl rfl rfl ?_); (iterate 2 refine ql_pure tabOk rfl rfl ?_); refine q_nil ?_; refine q_seq ?_; refine q_region ?_; (iterate 2 refine ql_pure tabOk rfl rfl ?_); (iterate 5 refine ql_gno rfl rfl rfl ?_); (iterate 2 refine ql_pure tabOk rfl rfl ?_); refine q_nil ?_)
          refine q_draw _ [] (Sp.refl _) (by kernel_rfl) (by kernel_rfl) ?_
          ((iterate 2 refine qf_pure tabOk rfl rfl rfl ?_); refine qf_gyes rfl ?_; refine qf_pure tabOk rfl rfl rfl ?_; refine qf_gyes rfl ?_; refine qf_pure tabOk rfl rfl rfl ?_; refine qf_gyes rfl ?_; refine qf_pure tabOk rfl rfl rfl ?_; refine qf_gyes rfl ?_)
          refine qf_index tabOk rfl rfl rfl rfl rfl (by omega) (by omega) ?_
          (refine qf_gyes rfl ?_)
          refine qf_load1 (v := .int .i64 i) tabOk rfl rfl rfl (fun w hs => hca w hs.chg0) ?_
          (refine qf_gyes rfl ?_)
          refine qf_callv (val := .int .i64 (cntI c i)) tabOk rfl rfl rfl rfl (fun w hs => ?_) ?_; exact hck w hs.chg0
          (refine qf_gyes rfl ?_; refine qf_pure tabOk rfl rfl rfl ?_; refine qf_gyes rfl ?_; refine qf_loadB tabOk rfl rfl rfl (by repeat first | exact .head _ | refine .tail _ ?_) (by rfl) ?_; refine qf_gyes rfl ?_; (iterate 3 refine qf_pure tabOk rfl rfl rfl ?_); refine qf_nil ?_; refine q_blk ?_; refine q_region ?_; refine ql_pure tabOk rfl rfl ?_; refine ql_ar tabOk rfl rfl rfl rfl (by omega) (by omega) ?_; refine ql_pure tabOk rfl rfl ?_; refine q_nil ?_)
          exact hK (k + 1) _ _ (by omega) (by omega) ⟨rfl, rfl, rfl, lookI rfl (by omega), lookI rfl (by omega), lookV rfl (by rw [ep]; simp), lookV rfl (by rw [ew]; simp), lookV rfl (by rw [eo]; simp), rfl, trivial⟩ (by repeat (first | exact Sp.nil | exact Sp.refl _ | refine Sp.cons (by repeat constructor) ?_))
      | false =>
        generalize oftP r c k = oP at *
        cases oP with
        | true =>
          (refine ql_setA tabOk rfl rfl rfl rfl rfl (by repeat constructor) rfl ?_; refine q_nil ?_; refine q_seq ?_; refine q_region ?_; (iterate 2 refine ql_pure tabOk rfl rfl ?_); refine ql_loadB tabOk rfl rfl rfl (by repeat first | exact .head _ | refine .tail _ ?_) (by rfl) ?_; refine ql_ar tabOk rfl rfl rfl rfl (by omega) (by omega) ?_; refine ql_pure tabOk rfl rfl ?_; refine q_nil ?_; refine q_seq ?_; refine q_region ?_; (iterate 2 refine ql_pure tabOk rfl rfl ?_); refine ql_loadB tabOk rfl rfl rfl (by repeat first | exact .head _ | refine .tail _ ?_) (by rfl) ?_; refine ql_ar tabOk rfl rfl rfl rfl (by omega) (by omega) ?_; refine ql_pure tabOk rfl rfl ?_; refine q_nil ?_; refine q_seq ?_; refine q_region ?_; (iterate 2 refine ql_pure tabOk rfl rfl ?_); (iterate 9 refine ql_gno rfl rfl rfl ?_); (iterate 2 refine ql_pure tabOk rfl rfl ?_); refine q_nil ?_; refine q_seq ?_; refine q_region ?_; (iterate 2 refine ql_pure tabOk rfl rfl ?_); refine ql_gyes rfl ?_; refine ql_pure tabOk rfl rfl ?_; refine ql_gyes rfl ?_; refine ql_loadB tabOk rfl rfl rfl (by repeat first | exact .head _ | refine .tail _ ?_) (by rfl) ?_; refine ql_gyes rfl ?_; refine ql_pure tabOk rfl rfl ?_; refine ql_gyes rfl ?_; refine ql_loadB tabOk rfl rfl rfl (by repeat first | exact .head _ | refine .tail _ ?_) (by rfl) ?_; refine ql_gyes rfl ?_; (iterate 3 refine ql_pure tabOk rfl rfl ?_); refine q_nil ?_)
          refine q_draw _ [] (Sp.refl _) (by kernel_rfl) (by kernel_rfl) ?_
          ((iterate 2 refine qf_pure tabOk rfl rfl rfl ?_); (iterate 9 refine qf_gno rfl rfl rfl ?_); (iterate 2 refine qf_pure tabOk rfl rfl rfl ?_); refine qf_nil ?_; refine q_blk ?_; refine q_region ?_; refine ql_pure tabOk rfl rfl ?_; refine ql_ar tabOk rfl rfl rfl rfl (by omega) (by omega) ?_; refine ql_pure tabOk rfl rfl ?_; refine q_nil ?_)
          exact hK (k + 1) _ _ (by omega) (by omega) ⟨rfl, rfl, rfl, lookI rfl (by omega), lookI rfl (by omega), lookV rfl (by rw [ep]; simp), lookV rfl (by rw [ew]; simp), lookV rfl (by rw [eo]; simp), rfl, trivial⟩ (by repeat (first | exact Sp.nil | exact Sp.refl _ | refine Sp.cons (by repeat constructor) ?_))
        | false =>
          (refine ql_setA tabOk rfl rfl rfl rfl rfl (by repeat constructor) rfl ?_; refine q_nil ?_; refine q_seq ?_; refine q_region ?_; (iterate 2 refine ql_pure tabOk rfl rfl ?_); refine ql_loadB tabOk rfl rfl rfl (by repeat first | exact .head _ | refine .tail _ ?_) (by rfl) ?_; refine ql_ar tabOk rfl rfl rfl rfl (by omega) (by omega) ?_; refine ql_pure tabOk rfl rfl ?_; refine q_nil ?_; refine q_seq ?_; refine q_region ?_; (iterate 2 refine ql_pure tabOk rfl rfl ?_); refine ql_loadB tabOk rfl rfl rfl (by repeat first | exact .head _ | refine .tail _ ?_) (by rfl) ?_; refine ql_ar tabOk rfl rfl rfl rfl (by omega) (by omega) ?_; refine ql_pure tabOk rfl rfl ?_; refine q_nil ?_; refine q_seq ?_; refine q_region ?_; (iterate 2 refine ql_pure tabOk rfl rfl ?_); (iterate 9 refine ql_gno rfl rfl rfl ?_); (iterate 2 refine ql_pure tabOk rfl rfl ?_); refine q_nil ?_; refine q_seq ?_; refine q_region ?_; (iterate 2 refine ql_pure tabOk rfl rfl ?_); refine ql_gyes rfl ?_; refine ql_pure tabOk rfl rfl ?_; refine ql_gyes rfl ?_; refine ql_loadB tabOk rfl rfl rfl (by repeat first | exact .head _ | refine .tail _ ?_) (by rfl) ?_; refine ql_gyes rfl ?_; refine ql_pure tabOk rfl rfl ?_; refine ql_gyes rfl ?_; refine ql_loadB tabOk rfl rfl rfl (by repeat first | exact .head _ | refine .tail _ ?_) (by rfl) ?_; refine ql_gyes rfl ?_; (iterate 3 refine ql_pure tabOk rfl rfl ?_); refine q_nil ?_)
          refine q_draw _ [] (Sp.refl _) (by kernel_rfl) (by kernel_rfl) ?_
          ((iterate 2 refine qf_pure tabOk rfl rfl rfl ?_); refine qf_gyes rfl ?_; refine qf_pure tabOk rfl rfl rfl ?_; refine qf_gyes rfl ?_; refine qf_pure tabOk rfl rfl rfl ?_; refine qf_gyes rfl ?_; refine qf_pure tabOk rfl rfl rfl ?_; refine qf_gyes rfl ?_)
          refine qf_index tabOk rfl rfl rfl rfl rfl (by omega) (by omega) ?_
          (refine qf_gyes rfl ?_)
          refine qf_load1 (v := .int .i64 i) tabOk rfl rfl rfl (fun w hs => hca w hs.chg0) ?_
          (refine qf_gyes rfl ?_)
          refine qf_callv (val := .int .i64 (cntI c i)) tabOk rfl rfl rfl rfl (fun w hs => ?_) ?_; exact hck w hs.chg0
          (refine qf_gyes rfl ?_; refine qf_pure tabOk rfl rfl rfl ?_; refine qf_gyes rfl ?_; refine qf_loadB tabOk rfl rfl rfl (by repeat first | exact .head _ | refine .tail _ ?_) (by rfl) ?_; refine qf_gyes rfl ?_; (iterate 3 refine qf_pure tabOk rfl rfl rfl ?_); refine qf_nil ?_; refine q_blk ?_; refine q_region ?_; refine ql_pure tabOk rfl rfl ?_; refine ql_ar tabOk rfl rfl rfl rfl (by omega) (by omega) ?_; refine ql_pure tabOk rfl rfl ?_; refine q_nil ?_)
          exact hK (k + 1) _ _ (by omega) (by omega) ⟨rfl, rfl, rfl, lookI rfl (by omega), lookI rfl (by omega), lookV rfl (by rw [ep]; simp), lookV rfl (by rw [ew]; simp), lookV rfl (by rw [eo]; simp), rfl, trivial⟩ (by repeat (first | exact Sp.nil | exact Sp.refl _ | refine Sp.cons (by repeat constructor) ?_))
    | false =>
      (refine ql_setA tabOk rfl rfl rfl rfl rfl (by repeat constructor) rfl ?_; refine q_nil ?_; refine q_seq ?_; refine q_region ?_; (iterate 2 refine ql_pure tabOk rfl rfl ?_); refine ql_loadB tabOk rfl rfl rfl (by repeat first | exact .head _ | refine .tail _ ?_) (by rfl) ?_; refine ql_ar tabOk rfl rfl rfl rfl (by omega) (by omega) ?_; refine ql_pure tabOk rfl rfl ?_; refine q_nil ?_; refine q_seq ?_; refine q_region ?_; (iterate 2 refine ql_pure tabOk rfl rfl ?_); refine ql_loadB tabOk rfl rfl rfl (by repeat first | exact .head _ | refine .tail _ ?_) (by rfl) ?_; refine ql_ar tabOk rfl rfl rfl rfl (by omega) (by omega) ?_; refine ql_pure tabOk rfl rfl ?_; refine q_nil ?_; refine q_seq ?_; refine q_region ?_; (iterate 2 refine ql_pure tabOk rfl rfl ?_); refine ql_gyes rfl ?_; refine ql_pure tabOk rfl rfl ?_; refine ql_gyes rfl ?_; refine ql_loadB tabOk rfl rfl rfl (by repeat first | exact .head _ | refine .tail _ ?_) (by rfl) ?_; refine ql_gyes rfl ?_; refine ql_pure tabOk rfl rfl ?_; refine ql_gyes rfl ?_; refine ql_pure tabOk rfl rfl ?_; refine ql_gyes rfl ?_; refine ql_loadB tabOk rfl rfl rfl (by repeat first | exact .head _ | refine .tail _ ?_) (by rfl) ?_; refine ql_gyes rfl ?_; refine ql_pure tabOk rfl rfl ?_; refine ql_gyes rfl ?_; refine ql_pure tabOk rfl rfl ?_; refine ql_gyes rfl ?_; refine ql_loadB tabOk rfl rfl rfl (by repeat first | exact .head _ | refine .tail _ ?_) (by rfl) ?_; refine ql_gyes rfl ?_)
      refine ql_callv (val := .bool (!(wiB ln r.p0 r.p1))) tabOk rfl rfl rfl rfl (fun w hs => ?_) ?_; exact out_ca ln r.p0 r.p1 w
      generalize widP s r c k = wP at *
      cases wP with
      | true =>
        generalize oftP r c k = oP at *
        cases oP with
        | true =>
          ((iterate 2 refine ql_pure tabOk rfl rfl ?_); refine q_nil ?_; refine q_seq ?_; refine q_region ?_; (iterate 2 refine ql_pure tabOk rfl rfl ?_); (iterate 5 refine ql_gno rfl rfl rfl ?_); (iterate 2 refine ql_pure tabOk rfl rfl ?_); refine q_nil ?_)
          refine q_draw _ [] (Sp.refl _) (by kernel_rfl) (by kernel_rfl) ?_
          ((iterate 2 refine qf_pure tabOk rfl rfl rfl ?_); (iterate 9 refine qf_gno rfl rfl rfl ?_); (iterate 2 refine qf_pure tabOk rfl rfl rfl ?_); refine qf_nil ?_; refine q_blk ?_; refine q_region ?_; refine ql_pure tabOk rfl rfl ?_; refine ql_ar tabOk rfl rfl rfl rfl (by omega) (by omega) ?_; refine ql_pure tabOk rfl rfl ?_; refine q_nil ?_)
          exact hK (k + 1) _ _ (by omega) (by omega) ⟨rfl, rfl, rfl, lookI rfl (by omega), lookI rfl (by omega), lookV rfl (by rw [ep]; simp), lookV rfl (by rw [ew]; simp), lookV rfl (by rw [eo]; simp), rfl, trivial⟩ (by repeat (first | exact Sp.nil | exact Sp.refl _ | refine Sp.cons (by repeat constructor) ?_))
        | false =>
          ((iterate 2 refine ql_pure tabOk rfl rfl ?_); refine q_nil ?_; refine q_seq ?_; refine q_region ?_; (iterate 2 refine ql_pure tabOk rfl rfl ?_); (iterate 5 refine ql_gno rfl rfl rfl ?_); (iterate 2 refine ql_pure tabOk rfl rfl ?_); refine q_nil ?_)
          refine q_draw _ [] (Sp.refl _) (by kernel_rfl) (by kernel_rfl) ?_
          ((iterate 2 refine qf_pure tabOk rfl rfl rfl ?_); refine qf_gyes rfl ?_; refine qf_pure tabOk rfl rfl rfl ?_; refine qf_gyes rfl ?_; refine qf_pure tabOk rfl rfl rfl ?_; refine qf_gyes rfl ?_; refine qf_pure tabOk rfl rfl rfl ?_; refine qf_gyes rfl ?_)
          refine qf_index tabOk rfl rfl rfl rfl rfl (by omega) (by omega) ?_
          (refine qf_gyes rfl ?_)
          refine qf_load1 (v := .int .i64 i) tabOk rfl rfl rfl (fun w hs => hca w hs.chg0) ?_
          (refine qf_gyes rfl ?_)
          refine qf_callv (val := .int .i64 (cntI c i)) tabOk rfl rfl rfl rfl (fun w hs => ?_) ?_; exact hck w hs.chg0
          (refine qf_gyes rfl ?_; refine qf_pure tabOk rfl rfl rfl ?_; refine qf_gyes rfl ?_; refine qf_loadB tabOk rfl rfl rfl (by repeat first | exact .head _ | refine .tail _ ?_) (by rfl) ?_; refine qf_gyes rfl ?_; (iterate 3 refine qf_pure tabOk rfl rfl rfl ?_); refine qf_nil ?_; refine q_blk ?_; refine q_region ?_; refine ql_pure tabOk rfl rfl ?_; refine ql_ar tabOk rfl rfl rfl rfl (by omega) (by omega) ?_; refine ql_pure tabOk rfl rfl ?_; refine q_nil ?_)
          exact hK (k + 1) _ _ (by omega) (by omega) ⟨rfl, rfl, rfl, lookI rfl (by omega), lookI rfl (by omega), lookV rfl (by rw [ep]; simp), lookV rfl (by rw [ew]; simp), lookV rfl (by rw [eo]; simp), rfl, trivial⟩ (by repeat (first | exact Sp.nil | exact Sp.refl _ | refine Sp.cons (by repeat constructor) ?_))
      | false =>
        generalize oftP r c k = oP at *
        cases oP with
        | true =>
          ((iterate 2 refine ql_pure tabOk rfl rfl ?_); refine q_nil ?_; refine q_seq ?_; refine q_region ?_; (iterate 2 refine ql_pure tabOk rfl rfl ?_); refine ql_gyes rfl ?_; refine ql_pure tabOk rfl rfl ?_; refine ql_gyes rfl ?_; refine ql_loadB tabOk rfl rfl rfl (by repeat first | exact .head _ | refine .tail _ ?_) (by rfl) ?_; refine ql_gyes rfl ?_; refine ql_pure tabOk rfl rfl ?_; refine ql_gyes rfl ?_; refine ql_loadB tabOk rfl rfl rfl (by repeat first | exact .head _ | refine .tail _ ?_) (by rfl) ?_; refine ql_gyes rfl ?_; (iterate 3 refine ql_pure tabOk rfl rfl ?_); refine q_nil ?_)
          refine q_draw _ [] (Sp.refl _) (by kernel_rfl) (by kernel_rfl) ?_
          ((iterate 2 refine qf_pure tabOk rfl rfl rfl ?_); (iterate 9 refine qf_gno rfl rfl rfl ?_); (iterate 2 refine qf_pure tabOk rfl rfl rfl ?_); refine qf_nil ?_; refine q_blk ?_; refine q_region ?_; refine ql_pure tabOk rfl rfl ?_; refine ql_ar tabOk rfl rfl rfl rfl (by omega) (by omega) ?_; refine ql_pure tabOk rfl rfl ?_; refine q_nil ?_)
          exact hK (k + 1) _ _ (by omega) (by omega) ⟨rfl, rfl, rfl, lookI rfl (by omega), lookI rfl (by omega), lookV rfl (by rw [ep]; simp), lookV rfl (by rw [ew]; simp), lookV rfl (by rw [eo]; simp), rfl, trivial⟩ (by repeat (first | exact Sp.nil | exact Sp.refl _ | refine Sp.cons (by repeat constructor) ?_))
        | false =>
          ((iterate 2 refine ql_pure tabOk rfl rfl ?_); refine q_nil ?_; refine q_seq ?_; refine q_region ?_; (iterate 2 refine ql_pure tabOk rfl rfl ?_); refine ql_gyes rfl ?_; refine ql_pure tabOk rfl rfl ?_; refine ql_gyes rfl ?_; refine ql_loadB tabOk rfl rfl rfl (by repeat first | exact .head _ | refine .tail _ ?_) (by rfl) ?_; refine ql_gyes rfl ?_; refine ql_pure tabOk rfl rfl ?_; refine ql_gyes rfl ?_; refine ql_loadB tabOk rfl rfl rfl (by repeat first | exact .head _ | refine .tail _ ?_) (by rfl) ?_; refine ql_gyes rfl ?_; (iterate 3 refine ql_pure tabOk rfl rfl ?_); refine q_nil ?_)
          refine q_draw _ [] (Sp.refl _) (by kernel_rfl) (by kernel_rfl) ?_
          ((iterate 2 refine qf_pure tabOk rfl rfl rfl ?_); refine qf_gyes rfl ?_; refine qf_pure tabOk rfl rfl rfl ?_; refine qf_gyes rfl ?_; refine qf_pure tabOk rfl rfl rfl ?_; refine qf_gyes rfl ?_; refine qf_pure tabOk rfl rfl rfl ?_; refine qf_gyes rfl ?_)
          refine qf_index tabOk rfl rfl rfl rfl rfl (by omega) (by omega) ?_
          (refine qf_gyes rfl ?_)
          refine qf_load1 (v := .int .i64 i) tabOk rfl rfl rfl (fun w hs => hca w hs.chg0) ?_
          (refine qf_gyes rfl ?_)
          refine qf_callv (val := .int .i64 (cntI c i)) tabOk rfl rfl rfl rfl (fun w hs => ?_) ?_; exact hck w hs.chg0
          (refine qf_gyes rfl ?_; refine qf_pure tabOk rfl rfl rfl ?_; refine qf_gyes rfl ?_; refine qf_loadB tabOk rfl rfl rfl (by repeat first | exact .head _ | refine .tail _ ?_) (by rfl) ?_; refine qf_gyes rfl ?_; (iterate 3 refine qf_pure tabOk rfl rfl rfl ?_); refine qf_nil ?_; refine q_blk ?_; refine q_region ?_; refine ql_pure tabOk rfl rfl ?_; refine ql_ar tabOk rfl rfl rfl rfl (by omega) (by omega) ?_; refine ql_pure tabOk rfl rfl ?_; refine q_nil ?_)
          exact hK (k + 1) _ _ (by omega) (by omega) ⟨rfl, rfl, rfl, lookI rfl (by omega), lookI rfl (by omega), lookV rfl (by rw [ep]; simp), lookV rfl (by rw [ew]; simp), lookV rfl (by rw [eo]; simp), rfl, trivial⟩ (by repeat (first | exact Sp.nil | exact Sp.refl _ | refine Sp.cons (by repeat constructor) ?_))
  · obtain rfl : k = c.length := by omega
    clear hc hK
    have e1 : lenP s c c.length = lenS s c := by unfold lenP; rw [List.take_length]; rfl
    have e2 : clbP s c c.length = clbS s c := by unfold clbP; rw [List.take_length]; rfl
    have e3 : lapP s r c c.length = lapB s r c := by unfold lapP; rw [List.take_length]; rfl
    have e4 : widP s r c c.length = widB s r c := by unfold widP; rw [List.take_length]; rfl
    have e5 : oftP r c c.length = oftB r c := by unfold oftP; rw [List.take_length, oftB_eq r c (by omega)]
    rw [e1, e2, e3, e4, e5]
    have eB : brkL s r c = markI [!wiB (lenS s c) r.g0 r.g1, !wiB (clbS s c) r.c0 r.c1, lapB s r c, widB s r c, oftB r c] 0 := rfl
    rw [eB]
    refine q_conv (H' := [.ow (.slice none 0 0) 3 1 (markI [] 0).length (ints (markI [] 0)), .pt b4 (rlC r) 38]) (fun w' hs => Sat.ownil hs 3 1) ?_
    generalize hB2 : lapB s r c = B2
    generalize hB3 : widB s r c = B3
    generalize hB4 : oftB r c = B4
    clear hB2 hB3 hB4
    (refine q_exit _ rfl ?_; refine q_seq ?_; refine q_region ?_; refine ql_pure tabOk rfl rfl ?_; refine q_nil ?_; (iterate 2 refine q_seq ?_); refine q_region ?_; (iterate 3 refine ql_pure tabOk rfl rfl ?_); refine ql_loadB tabOk rfl rfl rfl (by repeat first | exact .head _ | refine .tail _ ?_) (by rfl) ?_; (iterate 2 refine ql_pure tabOk rfl rfl ?_); refine ql_loadB tabOk rfl rfl rfl (by repeat first | exact .head _ | refine .tail _ ?_) (by rfl) ?_)
    refine ql_callv (val := .bool (!(wiB (lenS s c) r.g0 r.g1))) tabOk rfl rfl rfl rfl (fun w hs => ?_) ?_; exact out_ca (lenS s c) r.g0 r.g1 w
    generalize (!wiB (lenS s c) r.g0 r.g1) = B0
    (refine q_nil ?_)
    refine q_cut (σ := Value) (fun u => [(4, .pointer (some ⟨b4, 0, none⟩)), (7, .int .i64 (lenS s c)), (8, .int .i64 (clbS s c)), (9, .bool B2), (10, .bool B3), (11, .bool B4), (14, u)]) (fun u => [.ow u 3 1 (markI [B0] 0).length (ints (markI [B0] 0)), .pt b4 (rlC r) 38]) ?_ (fun K2 hK2 => ?_)
    rotate_left
    · have hml := markI_len [] 0
      simp only [List.length_cons, List.length_nil] at hml
      cases B0 with
      | true =>
        (refine q_cond_true rfl ?_; refine q_region ?_; refine ql_pure tabOk rfl rfl ?_)
        refine ql_mkS 3 [.int .i64 0] rfl (by kernel_rfl) rfl (fun c0 => ?_)
        refine ql_append (q := 1) slI rfl rfl rfl (fun v' => by repeat constructor) (fun w' hs => ⟨_, _, Blk.rd (hs.blk (b := c0) (by repeat first | exact .head _ | refine .tail _ ?_)) rfl 1⟩) (by simp [oneV]) (by omega) (by omega) (fun u0 => ?_)
        rw [show ints (markI [] 0) ++ [.int .i64 0] = ints (markI [true] 0) by rw [show [true] = [] ++ [true] from rfl, markI_snoc]; simp [ints], show (markI [] 0).length + 1 = (markI [true] 0).length by rw [show [true] = [] ++ [true] from rfl, markI_snoc]; simp]
        (refine ql_pure tabOk rfl rfl ?_; refine q_nil ?_)
        exact hK2 u0 _ _ ⟨rfl, rfl, rfl, rfl, rfl, rfl, rfl, trivial⟩ (by repeat (first | exact Sp.nil | exact Sp.refl _ | refine Sp.cons (by repeat constructor) ?_))
      | false =>
        have e : markI [false] 0 = markI [] 0 := by rw [show [false] = [] ++ [false] from rfl, markI_snoc]; simp
        (refine q_cond_false rfl ?_; refine q_skip ?_)
        exact hK2 (.slice none 0 0) _ _ ⟨rfl, rfl, rfl, rfl, rfl, rfl, rfl, trivial⟩ (by rw [e]; repeat (first | exact Sp.nil | exact Sp.refl _ | refine Sp.cons (by repeat constructor) ?_))
    rintro u0
    ((iterate 2 refine q_seq ?_); refine q_region ?_; (iterate 3 refine ql_pure tabOk rfl rfl ?_); refine ql_loadB tabOk rfl rfl rfl (by repeat first | exact .head _ | refine .tail _ ?_) (by rfl) ?_; (iterate 2 refine ql_pure tabOk rfl rfl ?_); refine ql_loadB tabOk rfl rfl rfl (by repeat first | exact .head _ | refine .tail _ ?_) (by rfl) ?_)
    refine ql_callv (val := .bool (!(wiB (clbS s c) r.c0 r.c1))) tabOk rfl rfl rfl rfl (fun w hs => ?_) ?_; exact out_ca (clbS s c) r.c0 r.c1 w
    generalize (!wiB (clbS s c) r.c0 r.c1) = B1
    (refine q_nil ?_)
    refine q_cut (σ := Value) (fun u => [(4, .pointer (some ⟨b4, 0, none⟩)), (7, .int .i64 (lenS s c)), (8, .int .i64 (clbS s c)), (9, .bool B2), (10, .bool B3), (11, .bool B4), (14, u)]) (fun u => [.ow u 3 1 (markI [B0, B1] 0).length (ints (markI [B0, B1] 0)), .pt b4 (rlC r) 38]) ?_ (fun K2 hK2 => ?_)
    rotate_left
    · have hml := markI_len [B0] 0
      simp only [List.length_cons, List.length_nil] at hml
      cases B1 with
      | true =>
        (refine q_cond_true rfl ?_; refine q_region ?_; refine ql_pure tabOk rfl rfl ?_)
        refine ql_mkS 3 [.int .i64 1] rfl (by kernel_rfl) rfl (fun c0 => ?_)
        refine ql_append (q := 1) slI rfl rfl rfl (fun v' => by repeat constructor) (fun w' hs => ⟨_, _, Blk.rd (hs.blk (b := c0) (by repeat first | exact .head _ | refine .tail _ ?_)) rfl 1⟩) (by simp [oneV]) (by omega) (by omega) (fun u0 => ?_)
        rw [show ints (markI [B0] 0) ++ [.int .i64 1] = ints (markI [B0, true] 0) by rw [show [B0, true] = [B0] ++ [true] from rfl, markI_snoc]; simp [ints], show (markI [B0] 0).length + 1 = (markI [B0, true] 0).length by rw [show [B0, true] = [B0] ++ [true] from rfl, markI_snoc]; simp]
        (refine ql_pure tabOk rfl rfl ?_; refine q_nil ?_)
        exact hK2 u0 _ _ ⟨rfl, rfl, rfl, rfl, rfl, rfl, rfl, trivial⟩ (by repeat (first | exact Sp.nil | exact Sp.refl _ | refine Sp.cons (by repeat constructor) ?_))
      | false =>
        have e : markI [B0, false] 0 = markI [B0] 0 := by rw [show [B0, false] = [B0] ++ [false] from rfl, markI_snoc]; simp
        (refine q_cond_false rfl ?_; refine q_skip ?_)
        exact hK2 (u0) _ _ ⟨rfl, rfl, rfl, rfl, rfl, rfl, rfl, trivial⟩ (by rw [e]; repeat (first | exact Sp.nil | exact Sp.refl _ | refine Sp.cons (by repeat constructor) ?_))
    rintro u1
    ((iterate 2 refine q_seq ?_); refine q_region ?_; refine ql_pure tabOk rfl rfl ?_; refine q_nil ?_)
    refine q_cut (σ := Value) (fun u => [(4, .pointer (some ⟨b4, 0, none⟩)), (7, .int .i64 (lenS s c)), (8, .int .i64 (clbS s c)), (9, .bool B2), (10, .bool B3), (11, .bool B4), (14, u)]) (fun u => [.ow u 3 1 (markI [B0, B1, B2] 0).length (ints (markI [B0, B1, B2] 0)), .pt b4 (rlC r) 38]) ?_ (fun K2 hK2 => ?_)
    rotate_left
    · have hml := markI_len [B0, B1] 0
      simp only [List.length_cons, List.length_nil] at hml
      cases B2 with
      | true =>
        (refine q_cond_true rfl ?_; refine q_region ?_; refine ql_pure tabOk rfl rfl ?_)
        refine ql_mkS 3 [.int .i64 2] rfl (by kernel_rfl) rfl (fun c0 => ?_)
        refine ql_append (q := 1) slI rfl rfl rfl (fun v' => by repeat constructor) (fun w' hs => ⟨_, _, Blk.rd (hs.blk (b := c0) (by repeat first | exact .head _ | refine .tail _ ?_)) rfl 1⟩) (by simp [oneV]) (by omega) (by omega) (fun u0 => ?_)
        rw [show ints (markI [B0, B1] 0) ++ [.int .i64 2] = ints (markI [B0, B1, true] 0) by rw [show [B0, B1, true] = [B0, B1] ++ [true] from rfl, markI_snoc]; simp [ints], show (markI [B0, B1] 0).length + 1 = (markI [B0, B1, true] 0).length by rw [show [B0, B1, true] = [B0, B1] ++ [true] from rfl, markI_snoc]; simp]
        (refine ql_pure tabOk rfl rfl ?_; refine q_nil ?_)
        exact hK2 u0 _ _ ⟨rfl, rfl, rfl, rfl, rfl, rfl, rfl, trivial⟩ (by repeat (first | exact Sp.nil | exact Sp.refl _ | refine Sp.cons (by repeat constructor) ?_))
      | false =>
        have e : markI [B0, B1, false] 0 = markI [B0, B1] 0 := by rw [show [B0, B1, false] = [B0, B1] ++ [false] from rfl, markI_snoc]; simp
        (refine q_cond_false rfl ?_; refine q_skip ?_)
        exact hK2 (u1) _ _ ⟨rfl, rfl, rfl, rfl, rfl, rfl, rfl, trivial⟩ (by rw [e]; repeat (first | exact Sp.nil | exact Sp.refl _ | refine Sp.cons (by repeat constructor) ?_))
    rintro u2
    ((iterate 2 refine q_seq ?_); refine q_region ?_; refine ql_pure tabOk rfl rfl ?_; refine q_nil ?_)
    refine q_cut (σ := Value) (fun u => [(4, .pointer (some ⟨b4, 0, none⟩)), (7, .int .i64 (lenS s c)), (8, .int .i64 (clbS s c)), (9, .bool B2), (10, .bool B3), (11, .bool B4), (14, u)]) (fun u => [.ow u 3 1 (markI [B0, B1, B2, B3] 0).length (ints (markI [B0, B1, B2, B3] 0)), .pt b4 (rlC r) 38]) ?_ (fun K2 hK2 => ?_)
    rotate_left
    · have hml := markI_len [B0, B1, B2] 0
      simp only [List.length_cons, List.length_nil] at hml
      cases B3 with
      | true =>
        (refine q_cond_true rfl ?_; refine q_region ?_; refine ql_pure tabOk rfl rfl ?_)
        refine ql_mkS 3 [.int .i64 3] rfl (by kernel_rfl) rfl (fun c0 => ?_)
        refine ql_append (q := 1) slI rfl rfl rfl (fun v' => by repeat constructor) (fun w' hs => ⟨_, _, Blk.rd (hs.blk (b := c0) (by repeat first | exact .head _ | refine .tail _ ?_)) rfl 1⟩) (by simp [oneV]) (by omega) (by omega) (fun u0 => ?_)
        rw [show ints (markI [B0, B1, B2] 0) ++ [.int .i64 3] = ints (markI [B0, B1, B2, true] 0) by rw [show [B0, B1, B2, true] = [B0, B1, B2] ++ [true] from rfl, markI_snoc]; simp [ints], show (markI [B0, B1, B2] 0).length + 1 = (markI [B0, B1, B2, true] 0).length by rw [show [B0, B1, B2, true] = [B0, B1, B2] ++ [true] from rfl, markI_snoc]; simp]
        (refine ql_pure tabOk rfl rfl ?_; refine q_nil ?_)
        exact hK2 u0 _ _ ⟨rfl, rfl, rfl, rfl, rfl, rfl, rfl, trivial⟩ (by repeat (first | exact Sp.nil | exact Sp.refl _ | refine Sp.cons (by repeat constructor) ?_))
      | false =>
        have e : markI [B0, B1, B2, false] 0 = markI [B0, B1, B2] 0 := by rw [show [B0, B1, B2, false] = [B0, B1, B2] ++ [false] from rfl, markI_snoc]; simp
        (refine q_cond_false rfl ?_; refine q_skip ?_)
        exact hK2 (u2) _ _ ⟨rfl, rfl, rfl, rfl, rfl, rfl, rfl, trivial⟩ (by rw [e]; repeat (first | exact Sp.nil | exact Sp.refl _ | refine Sp.cons (by repeat constructor) ?_))
    rintro u3
    ((iterate 2 refine q_seq ?_); refine q_region ?_; refine ql_pure tabOk rfl rfl ?_; refine q_nil ?_)
    refine q_cut (σ := Value) (fun u => [(4, .pointer (some ⟨b4, 0, none⟩)), (7, .int .i64 (lenS s c)), (8, .int .i64 (clbS s c)), (9, .bool B2), (10, .bool B3), (11, .bool B4), (14, u)]) (fun u => [.ow u 3 1 (markI [B0, B1, B2, B3, B4] 0).length (ints (markI [B0, B1, B2, B3, B4] 0)), .pt b4 (rlC r) 38]) ?_ (fun K2 hK2 => ?_)
    rotate_left
    · have hml := markI_len [B0, B1, B2, B3] 0
      simp only [List.length_cons, List.length_nil] at hml
      cases B4 with
      | true =>
        (refine q_cond_true rfl ?_; refine q_region ?_; refine ql_pure tabOk rfl rfl ?_)
        refine ql_mkS 3 [.int .i64 4] rfl (by kernel_rfl) rfl (fun c0 => ?_)
        refine ql_append (q := 1) slI rfl rfl rfl (fun v' => by repeat constructor) (fun w' hs => ⟨_, _, Blk.rd (hs.blk (b := c0) (by repeat first | exact .head _ | refine .tail _ ?_)) rfl 1⟩) (by simp [oneV]) (by omega) (by omega) (fun u0 => ?_)
        rw [show ints (markI [B0, B1, B2, B3] 0) ++ [.int .i64 4] = ints (markI [B0, B1, B2, B3, true] 0) by rw [show [B0, B1, B2, B3, true] = [B0, B1, B2, B3] ++ [true] from rfl, markI_snoc]; simp [ints], show (markI [B0, B1, B2, B3] 0).length + 1 = (markI [B0, B1, B2, B3, true] 0).length by rw [show [B0, B1, B2, B3, true] = [B0, B1, B2, B3] ++ [true] from rfl, markI_snoc]; simp]
        (refine ql_pure tabOk rfl rfl ?_; refine q_nil ?_)
        exact hK2 u0 _ _ ⟨rfl, rfl, rfl, rfl, rfl, rfl, rfl, trivial⟩ (by repeat (first | exact Sp.nil | exact Sp.refl _ | refine Sp.cons (by repeat constructor) ?_))
      | false =>
        have e : markI [B0, B1, B2, B3, false] 0 = markI [B0, B1, B2, B3] 0 := by rw [show [B0, B1, B2, B3, false] = [B0, B1, B2, B3] ++ [false] from rfl, markI_snoc]; simp
        (refine q_cond_false rfl ?_; refine q_skip ?_)
        exact hK2 (u3) _ _ ⟨rfl, rfl, rfl, rfl, rfl, rfl, rfl, trivial⟩ (by rw [e]; repeat (first | exact Sp.nil | exact Sp.refl _ | refine Sp.cons (by repeat constructor) ?_))
    rintro u4
    (refine q_seq ?_; refine q_region ?_; (iterate 2 refine ql_pure tabOk rfl rfl ?_); refine q_nil ?_; refine q_ret ?_)
    refine q_fin tabOk rfl (by repeat (first | exact RVs.nil | apply RVs.tmp rfl | apply RVs.cellA rfl rfl (by repeat first | exact .head _ | refine .tail _ ?_) (by rfl) | apply RVs.cell1 rfl rfl (by repeat first | exact .head _ | refine .tail _ ?_))) fun w hs => ?_
    exact ⟨_, rfl, hs.sp (by repeat (first | exact Sp.nil | exact Sp.refl _ | refine Sp.cons (by repeat constructor) ?_))⟩
end Go.Proofs.Ytgeajgmefokifaa

/- Walk of the reference: all lists of laps. -/
namespace Go.Proofs.Ytgeajgmefokifaa
open Go Go.Eng

theorem set_pre {pre L : List Value} {i : Nat} {v : Value} (h : pre.length = i + 1) : (pre ++ L).set i v = pre.take i ++ (v :: L) := by
  rw [List.set_append_left _ _ (by omega), List.set_eq_take_append_cons_drop, if_pos (by omega), List.drop_eq_nil_of_le (by omega)]
  simp
/-- The lists that are found among the first numbers. -/
def foundL (n laps m : Nat) : List (List Int) := ((List.range m).map (digL n laps)).filter (fun c => decide (listedV n c = 0))
theorem foundL_succ (n laps m : Nat) : foundL n laps (m + 1) = foundL n laps m ++ if listedV n (digL n laps m) = 0 then [digL n laps m] else [] := by
  unfold foundL
  rw [List.range_succ, List.map_append, List.filter_append]
  congr 1
  simp only [List.map_cons, List.map_nil, List.filter_cons, List.filter_nil, decide_eq_true_eq]
theorem foundL_le (n laps m : Nat) : (foundL n laps m).length ≤ m := by
  have := List.length_filter_le (fun c => decide (listedV n c = 0)) ((List.range m).map (digL n laps))
  simpa [foundL] using this
theorem pow_le {n laps : Nat} (hn : n ≤ 12) (hl : laps ≤ 6) : n ^ laps ≤ 2985984 :=
  Nat.le_trans (Nat.pow_le_pow_left hn laps) (Nat.pow_le_pow_right (by omega) hl)
set_option maxHeartbeats 8000000 in
theorem rcourses_ca (w : World) (a : Option Addr) (n cp laps : Nat) (hn1 : 1 ≤ n) (hn : n ≤ 12) (hl1 : 1 ≤ laps) (hl : laps ≤ 6) :
    Ca Try.prog 101 [.slice a n cp, .int .i64 laps] w fun x w' => ∃ y : Value × List (Value × List Int), (x = y.1 ∧ y.2.map (·.2) = coursesL n laps) ∧ Sat w M0 (lsK y.1 y.2) w' := by
  refine q_of (Sat.nil w M0) Try.func101 rfl (by simp [Try.ntmps101]) ?_
  have hN := pow_le hn hl
  (refine q_seq ?_; refine q_region ?_; refine ql_pure tabOk rfl rfl ?_; refine q_nil ?_; refine q_seq ?_; refine q_region ?_; refine ql_pure tabOk rfl rfl ?_; refine q_nil ?_; (iterate 2 refine q_seq ?_); refine q_region ?_; refine ql_pure tabOk rfl rfl ?_; refine q_nil ?_; refine q_block ?_)
  refine q_loop (σ := Nat × Nat) (fun s => s.1 ≤ laps ∧ s.2 = n ^ s.1) (fun s => laps - s.1) (fun s => [(0, .slice a n cp), (1, .int .i64 laps), (5, .int .i64 s.2), (6, .int .i64 s.1)]) (fun _ => []) (0, 1) ⟨by simp, by simp⟩ ⟨rfl, rfl, rfl, rfl, trivial⟩ (by repeat (first | exact Sp.nil | exact Sp.refl _ | refine Sp.cons (by repeat constructor) ?_)) ?_
  rintro ⟨j, A⟩ ⟨hj, hA⟩ K hK
  simp only at hj hA
  dsimp only
  ((iterate 2 refine q_seq ?_); refine q_region ?_; (iterate 3 refine ql_pure tabOk rfl rfl ?_); refine q_nil ?_)
  refine q_if rfl (fun hc => ?_) (fun hc => ?_)
  · have hj2 : j < laps := by first | omega | (simp at hc; omega)
    clear hc
    have hA2 : A * n = n ^ (j + 1) := by rw [hA, Nat.pow_succ]
    have hle := pow_le (laps := j + 1) hn (by omega)
    have hm : (A : Int) * (n : Int) = ((n ^ (j + 1) : Nat) : Int) := by rw [← hA2]; simp
    rw [← hA2] at hle
    have hm2 : 0 ≤ (A : Int) * (n : Int) ∧ (A : Int) * (n : Int) ≤ 2985984 := by rw [hm, ← hA2]; omega
    (refine q_skip ?_; refine q_seq ?_; refine q_block ?_; refine q_region ?_; (iterate 3 refine ql_pure tabOk rfl rfl ?_); refine ql_ar tabOk rfl rfl rfl rfl (by omega) (by omega) ?_; refine ql_pure tabOk rfl rfl ?_; refine q_nil ?_; refine q_blk ?_; refine q_region ?_; refine ql_pure tabOk rfl rfl ?_; refine ql_ar tabOk rfl rfl rfl rfl (by omega) (by omega) ?_; refine ql_pure tabOk rfl rfl ?_; refine q_nil ?_)
    exact hK (j + 1, n ^ (j + 1)) _ _ ⟨by simp only; omega, rfl⟩ (by simp only; omega) ⟨rfl, rfl, lookI rfl hm, rfl, trivial⟩ (by repeat (first | exact Sp.nil | exact Sp.refl _ | refine Sp.cons (by repeat constructor) ?_))
  obtain rfl : j = laps := by first | omega | (simp at hc; omega)
  clear hK hc
  rw [← hA] at hN
  (refine q_exit _ rfl ?_; refine q_seq ?_; refine q_region ?_; refine ql_pure tabOk rfl rfl ?_; refine q_nil ?_; (iterate 2 refine q_seq ?_); refine q_region ?_; refine ql_pure tabOk rfl rfl ?_; refine q_nil ?_; refine q_block ?_)
  refine q_conv (H' := lsK (.slice none 0 0) []) (fun w' hs => (Sat.un_nil (Sat.ownil hs 27 1)).sp (by repeat (first | exact Sp.nil | exact Sp.refl _ | refine Sp.cons (by repeat constructor) ?_))) ?_
  refine q_loop (σ := Nat × Value × List (Value × List Int)) (fun s => s.1 ≤ A ∧ s.2.2.map (·.2) = foundL n j s.1) (fun s => A - s.1) (fun s => [(0, .slice a n cp), (1, .int .i64 j), (5, .int .i64 A), (7, s.2.1), (8, .int .i64 s.1)])
    (fun s => lsK s.2.1 s.2.2) (0, .slice none 0 0, []) ⟨by simp, by simp [foundL]⟩ ⟨rfl, rfl, rfl, rfl, rfl, trivial⟩ (by repeat (first | exact Sp.nil | exact Sp.refl _ | refine Sp.cons (by repeat constructor) ?_)) ?_
  rintro ⟨m, v, xs⟩ ⟨hm, hI⟩ K hK
  simp only at hm hI
  dsimp only
  have hxl : xs.length ≤ m := by have := congrArg List.length hI; rw [List.length_map] at this; have h2 := foundL_le n j m; omega
  ((iterate 2 refine q_seq ?_); refine q_region ?_; (iterate 3 refine ql_pure tabOk rfl rfl ?_); refine q_nil ?_)
  refine q_if rfl (fun hc => ?_) (fun hc => ?_)
  · have hm2 : m < A := by first | omega | (simp at hc; omega)
    clear hc
    have eF := foundL_succ n j m
    (refine q_skip ?_; refine q_seq ?_; refine q_block ?_; refine q_seq ?_; refine q_region ?_; refine ql_pure tabOk rfl rfl ?_)
    refine ql_makeR (m := j) slI rfl rfl rfl (by omega) (by omega) (by omega) (fun b cs hcs => ?_)
    refine ql_conv (H' := .ow (.slice (some ⟨b, 0, none⟩) j j) 3 1 j cs :: lsK v xs) (fun w' hs => Sat.pt_ow (t := 3) (sz := 1) (m := j) (by omega) (by omega) hs) ?_
    (refine ql_pure tabOk rfl rfl ?_; refine q_nil ?_; refine q_seq ?_; refine q_region ?_; (iterate 2 refine ql_pure tabOk rfl rfl ?_); refine q_nil ?_; (iterate 2 refine q_seq ?_); refine q_region ?_; refine ql_pure tabOk rfl rfl ?_; refine ql_ar tabOk rfl rfl rfl rfl (by omega) (by omega) ?_; refine ql_pure tabOk rfl rfl ?_; refine q_nil ?_; refine q_block ?_)
    refine q_loop (σ := Nat × Nat × List Value) (fun s => s.1 ≤ j ∧ s.2.1 = m / n ^ s.1 ∧ s.2.2.length + s.1 = j) (fun s => j - s.1) (fun s => [(0, .slice a n cp), (1, .int .i64 j), (5, .int .i64 A), (7, v), (8, .int .i64 m), (9, .slice (some ⟨b, 0, none⟩) j j), (10, .int .i64 s.2.1), (11, .int .i64 ((j : Int) - 1 - s.1))])
      (fun s => .ow (.slice (some ⟨b, 0, none⟩) j j) 3 1 j (s.2.2 ++ ints (digL n s.1 m)) :: lsK v xs) (0, m, cs) ⟨by simp, by simp, by simp only; omega⟩ ⟨rfl, rfl, rfl, rfl, rfl, rfl, rfl, lookI rfl (by simp), trivial⟩ (by simp only [digL, ints, List.map_nil, List.append_nil]; repeat (first | exact Sp.nil | exact Sp.refl _ | refine Sp.cons (by repeat constructor) ?_)) ?_
    rintro ⟨i, R, pre⟩ ⟨hi, hR, hp⟩ K2 hK2
    simp only at hi hR hp
    dsimp only
    have hR1 : R ≤ m := by rw [hR]; exact Nat.div_le_self _ _
    ((iterate 2 refine q_seq ?_); refine q_region ?_; (iterate 2 refine ql_pure tabOk rfl rfl ?_); refine q_nil ?_)
    refine q_if rfl (fun hc => ?_) (fun hc => ?_)
    · have hi2 : i < j := by first | omega | (simp at hc; omega)
      clear hc
      have er : (R : Int) % (n : Int) = ((m / n ^ i % n : Nat) : Int) := by rw [← hR]; simp
      have eq : (R : Int) / (n : Int) = ((m / n ^ (i + 1) : Nat) : Int) := by rw [Nat.pow_succ, ← Nat.div_div_eq_div_mul, ← hR]; simp
      have hdl := digL_length n i m
      (refine q_skip ?_; refine q_seq ?_; refine q_block ?_; refine q_seq ?_; refine q_region ?_; (iterate 5 refine ql_pure tabOk rfl rfl ?_); refine ql_remN rfl rfl rfl (by omega) (by omega) ?_)
      refine ql_index tabOk rfl rfl rfl rfl rfl (by omega) (by omega) ?_
      refine ql_storeW tabOk (j - 1 - i) rfl rfl rfl rfl (by repeat constructor) (by omega) (by rw [List.length_append, List.length_map]; omega) ?_
      rw [set_pre (by omega), er]
      (refine q_nil ?_; refine q_region ?_; (iterate 3 refine ql_pure tabOk rfl rfl ?_); refine ql_quoN rfl rfl rfl (by omega) (by omega) (by omega) ?_; refine ql_pure tabOk rfl rfl ?_; refine q_nil ?_; refine q_blk ?_; refine q_region ?_; refine ql_pure tabOk rfl rfl ?_; refine ql_ar tabOk rfl rfl rfl rfl (by omega) (by omega) ?_; refine ql_pure tabOk rfl rfl ?_; refine q_nil ?_)
      exact hK2 (i + 1, m / n ^ (i + 1), pre.take (j - 1 - i)) _ _ ⟨by simp only; omega, rfl, by simp only [List.length_take]; omega⟩ (by simp only; omega) ⟨rfl, rfl, rfl, rfl, rfl, rfl, lookI rfl eq, lookI rfl (by simp only; omega), trivial⟩ (by dsimp only; rw [show ints (digL n (i + 1) m) = .int .i64 ((m / n ^ i % n : Nat) : Int) :: ints (digL n i m) from rfl]; repeat (first | exact Sp.nil | exact Sp.refl _ | refine Sp.cons (by repeat constructor) ?_))
    · obtain rfl : i = j := by first | omega | (simp at hc; omega)
      obtain rfl : pre = [] := List.eq_nil_of_length_eq_zero (by omega)
      clear hc hK2
      rw [List.nil_append]
      have hdl := digL_length n i m
      generalize digL n i m = c at *
      (refine q_exit _ rfl ?_; refine q_seq ?_; refine q_region ?_; (iterate 2 refine ql_pure tabOk rfl rfl ?_))
      refine ql_callv (val := .int .i64 (listedV n c)) tabOk rfl rfl rfl rfl (fun w hs => ?_) ?_; exact rlisted_ca w 0 w.heap.size a n cp _ c (hs.rdI (by repeat first | exact .head _ | refine .tail _ ?_) hdl.symm) (by omega) (by omega)
      by_cases h0 : listedV n c = 0
      · rw [if_pos h0] at eF
        (refine ql_eqlT tabOk rfl rfl rfl (by omega) ?_; refine q_nil ?_; refine q_cond_true rfl ?_; refine q_region ?_; (iterate 2 refine ql_pure tabOk rfl rfl ?_))
        refine ql_mkS 27 [.slice (some ⟨b, 0, none⟩) i i] rfl (by kernel_rfl) rfl (fun bn => ?_)
        refine ql_append (q := 1) slII rfl rfl rfl (fun v' => by repeat constructor) (fun w' hs => ⟨_, _, Blk.rd (hs.blk (b := bn) (by repeat first | exact .head _ | refine .tail _ ?_)) rfl 1⟩) (by simp [oneV]) (by omega) (by omega) (fun v2 => ?_)
        (refine ql_pure tabOk rfl rfl ?_; refine q_nil ?_; refine q_blk ?_; refine q_region ?_; refine ql_pure tabOk rfl rfl ?_; refine ql_ar tabOk rfl rfl rfl rfl (by omega) (by omega) ?_; refine ql_pure tabOk rfl rfl ?_; refine q_nil ?_)
        refine q_conv (H' := lsK v2 (xs ++ [(.slice (some ⟨b, 0, none⟩) i i, c)])) (fun w' hs => by
          have h1 : Sat _ _ (lsK v2 (xs ++ [(.slice (some ⟨b, 0, none⟩) i i, c)]) ++ []) w' := rows_add (by rw [hdl]; exact hs.sp (by repeat (first | exact Sp.nil | exact Sp.refl _ | refine Sp.cons (by repeat constructor) ?_)))
          exact h1.sp (by repeat (first | exact Sp.nil | exact Sp.refl _ | refine Sp.cons (by repeat constructor) ?_))) ?_
        exact hK (m + 1, v2, xs ++ [(.slice (some ⟨b, 0, none⟩) i i, c)]) _ _ ⟨by simp only; omega, by simp only; rw [List.map_append, hI, eF]; rfl⟩ (by simp only; omega) ⟨rfl, rfl, rfl, rfl, rfl, trivial⟩ (by repeat (first | exact Sp.nil | exact Sp.refl _ | refine Sp.cons (by repeat constructor) ?_))
      · rw [if_neg h0, List.append_nil] at eF
        (refine ql_eqlF tabOk rfl rfl rfl (by omega) ?_; refine q_nil ?_; refine q_cond_false rfl ?_; refine q_skip ?_; refine q_blk ?_; refine q_region ?_; refine ql_pure tabOk rfl rfl ?_; refine ql_ar tabOk rfl rfl rfl rfl (by omega) (by omega) ?_; refine ql_pure tabOk rfl rfl ?_; refine q_nil ?_)
        exact hK (m + 1, v, xs) _ _ ⟨by simp only; omega, by simp only; rw [eF]; exact hI⟩ (by simp only; omega) ⟨rfl, rfl, rfl, rfl, rfl, trivial⟩ (by repeat (first | exact Sp.nil | exact Sp.refl _ | refine Sp.cons (by repeat constructor) ?_))
  · obtain rfl : m = A := by first | omega | (simp at hc; omega)
    clear hc hK
    (refine q_exit _ rfl ?_; refine q_seq ?_; refine q_region ?_; (iterate 2 refine ql_pure tabOk rfl rfl ?_); refine q_nil ?_; refine q_ret ?_)
    refine q_fin tabOk rfl (by repeat (first | exact RVs.nil | apply RVs.tmp rfl | apply RVs.cellA rfl rfl (by repeat first | exact .head _ | refine .tail _ ?_) (by rfl) | apply RVs.cell1 rfl rfl (by repeat first | exact .head _ | refine .tail _ ?_))) fun w hs => ?_
    exact ⟨(v, xs), ⟨rfl, by simp only; rw [hI, hA]; exact ref_courses (by omega) (by omega)⟩, hs⟩
end Go.Proofs.Ytgeajgmefokifaa

/- Walks of the reference: all right courses. -/
namespace Go.Proofs.Ytgeajgmefokifaa
open Go Go.Eng

section
variable {w0 w : World} {M : Nat → Prop} {H : List Ck} {t t2 : TypeId} {xs : List (Value × List Int)} {u : Value} {c : List Int}
theorem sat_sub {H' : List Ck} (h : Sat w0 M H w) (hs : H'.Sublist H) : Sat w0 M H' w := ⟨h.chg, fun x hx => h.all x (hs.subset hx), h.sep.sublist hs, fun x hx => h.bd x (hs.subset hx)⟩
theorem un_sub {L L' R : List Ck} (h : Sat w0 M (un L :: R) w) (hs : L'.Sublist L) : Sat w0 M (un L' :: R) w := Sat.un_iff.2 (sat_sub (Sat.un_iff.1 h) (hs.append_right R))
theorem ls_mem (hs : Sat w0 M H w) (hu : un (rowsO t xs) ∈ H) (hm : (u, c) ∈ xs) : w.ownsRow 0 t 1 u c.length (ints c) := hs.un_mem (c := .ow u t 1 c.length (ints c)) hu (List.mem_map.2 ⟨_, hm, rfl⟩)
theorem ls_rd (hs : Sat w0 M H w) (hu : un (rowsO t xs) ∈ H) (hm : (u, c) ∈ xs) : RdI w 0 w.heap.size u c := own_rdI (ls_mem hs hu hm) rfl
theorem own_slice2 {e sz n : Nat} {v : Value} {ys : List Value} (h1 : w.ownsRow 0 e sz v n ys) : ∃ a d, v = .slice a n d := by
  rcases h1.2 with ⟨rfl, rfl, _⟩ | ⟨g, cap, cur, rfl, _⟩
  · exact ⟨_, _, rfl⟩
  · exact ⟨_, _, rfl⟩
theorem ls_slice (hs : Sat w0 M H w) (hu : un (rowsO t xs) ∈ H) (hm : (u, c) ∈ xs) : ∃ a d, u = .slice a c.length d := own_slice2 (ls_mem hs hu hm)
theorem ls_cell {g n cp : Nat} (hs : Sat w0 M H w) (hv : .ow (.slice (some ⟨g, 0, none⟩) n cp) t2 1 n (xs.map (·.1)) ∈ H) {i : Nat} (hi : i < xs.length) (hx : xs[i] = (u, c)) : w.cell? ⟨g, 0 + i * 1, none⟩ = some u := by
  have := own_cell (hs.mem hv) i (by simpa using hi)
  rw [show 0 + i * 1 = i by omega]
  simpa [hx] using this
theorem ls_rdII (hs : Sat w0 M H w) {v : Value} {n : Nat} (hu : un (rowsO t xs) ∈ H) (hv : .ow v t2 1 n (xs.map (·.1)) ∈ H) : RdII w 0 w.heap.size v (xs.map (·.2)) := rowsO_rd (hs.mem hu) (hs.mem hv)
end
theorem filter_take (p : Value × List Int → Bool) (xs : List (Value × List Int)) {i : Nat} (hi : i < xs.length) : (xs.take (i + 1)).filter p = (xs.take i).filter p ++ if p xs[i] then [xs[i]] else [] := by
  rw [List.take_succ_eq_append_getElem hi, List.filter_append]
  congr 1
  simp [List.filter_cons]
theorem filter_map2 (p : List Int → Bool) (xs : List (Value × List Int)) : (xs.filter (fun q => p q.2)).map (·.2) = (xs.map (·.2)).filter p := by
  rw [List.filter_map]
  rfl
theorem rows_filter {w0 w : World} {M : Nat → Prop} {v : Value} {xs : List (Value × List Int)} {R : List Ck} {t : TypeId} (p : Value × List Int → Bool) (h : Sat w0 M (.ow v t 1 (xs.filter p).length ((xs.filter p).map (·.1)) :: un (rowsO 3 xs) :: R) w) :
    Sat w0 M (.ow v t 1 (xs.filter p).length ((xs.filter p).map (·.1)) :: un (rowsO 3 (xs.filter p)) :: R) w := by
  have h1 : Sat w0 M (un (rowsO 3 xs) :: .ow v t 1 (xs.filter p).length ((xs.filter p).map (·.1)) :: R) w := h.perm (.swap _ _ _)
  exact (un_sub h1 (List.filter_sublist.map _)).perm (.swap _ _ _)
set_option maxHeartbeats 8000000 in
theorem rright_ca (w : World) (lo hi : Nat) (a : Option Addr) (cp : Nat) (s : List Lp) (r : Rl) (h : RdL w lo hi (.slice a s.length cp) s) (hcr : CR s r) :
    Ca Try.prog 100 [.slice a s.length cp, .agg (rlC r).toArray] w fun x w' => ∃ y : Value × List (Value × List Int), (x = y.1 ∧ y.2.map (·.2) = allC s r) ∧ Sat w M0 (lsK y.1 y.2) w' := by
  have hn1 := hcr.s.n1
  have hn2 := hcr.s.n2
  have hla := hcr.r.laps
  obtain ⟨L, hL⟩ : ∃ L : Nat, (L : Int) = r.laps := ⟨r.laps.toNat, by omega⟩
  have hnl : nL r = L := by unfold nL; omega
  have hcl := courses_le s.length L hn2 (by omega)
  refine q_of (Sat.nil w M0) Try.func100 rfl (by simp [Try.ntmps100]) ?_
  (refine q_seq ?_; refine q_region ?_)
  refine ql_box rfl rfl (fun b3 => ?_)
  (refine ql_pure tabOk rfl rfl ?_; refine q_nil ?_; refine q_seq ?_; refine q_region ?_; (iterate 2 refine ql_pure tabOk rfl rfl ?_); refine ql_loadB tabOk rfl rfl rfl (by repeat first | exact .head _ | refine .tail _ ?_) (by rfl) ?_)
  refine ql_call (β := Value × List (Value × List Int)) tabOk [] _ M0 rfl rfl rfl rfl (Sp.refl _) (fun _ h => h.elim) (fun w' hs => by rw [← hL]; exact rcourses_ca w' a s.length cp L (by omega) (by omega) (by omega) (by omega)) ?_
  rintro ⟨_, xs⟩ v0 ⟨rfl, hI⟩
  dsimp only [lsK, List.cons_append, List.nil_append] at hI ⊢
  have hxl : xs.length ≤ 2985984 := by have := congrArg List.length hI; rw [List.length_map] at this; omega
  have eA : (xs.filter (fun q => rightB s r q.2)).map (·.2) = allC s r := by rw [filter_map2, hI, allC, hnl]
  refine ql_fact (fun w hs => hs.slice2 (v := v0) (by repeat first | exact .head _ | refine .tail _ ?_)) ?_
  rintro ⟨va, vc, rfl⟩
  (refine ql_pure tabOk rfl rfl ?_; refine q_nil ?_; refine q_seq ?_; refine q_region ?_; refine ql_pure tabOk rfl rfl ?_; refine q_nil ?_; (iterate 2 refine q_seq ?_); refine q_region ?_; refine ql_pure tabOk rfl rfl ?_; refine q_nil ?_; refine q_block ?_)
  refine q_conv (H' := [.ow (.slice none 0 0) 27 1 0 [], .ow (.slice va xs.length vc) 27 1 xs.length (xs.map (·.1)), un (rowsO 3 xs), .pt b3 (rlC r) 38]) (fun w' hs => Sat.ownil hs 27 1) ?_
  refine q_loop (σ := Nat × Value) (fun s => s.1 ≤ xs.length) (fun s => xs.length - s.1) (fun q => [(0, .slice a s.length cp), (3, .pointer (some ⟨b3, 0, none⟩)), (5, .slice va xs.length vc), (6, q.2), (7, .int .i64 q.1)])
    (fun q => [.ow q.2 27 1 ((xs.take q.1).filter (fun q => rightB s r q.2)).length (((xs.take q.1).filter (fun q => rightB s r q.2)).map (·.1)), .ow (.slice va xs.length vc) 27 1 xs.length (xs.map (·.1)), un (rowsO 3 xs), .pt b3 (rlC r) 38]) (0, .slice none 0 0) (by simp) ⟨rfl, rfl, rfl, rfl, rfl, trivial⟩ (by repeat (first | exact Sp.nil | exact Sp.refl _ | refine Sp.cons (by repeat constructor) ?_)) ?_
  rintro ⟨i, v⟩ hik K hK
  simp only at hik
  dsimp only
  ((iterate 2 refine q_seq ?_); refine q_region ?_; (iterate 4 refine ql_pure tabOk rfl rfl ?_); refine q_nil ?_)
  refine q_if rfl (fun hc => ?_) (fun hc => ?_)
  · have hi2 : i < xs.length := by omega
    clear hc
    have eF := filter_take (fun q => rightB s r q.2) xs hi2
    have hmem : xs[i] ∈ xs := List.getElem_mem hi2
    have hfl : ((xs.take i).filter (fun q => rightB s r q.2)).length ≤ i := by have h1 := List.length_filter_le (fun q : Value × List Int => rightB s r q.2) (xs.take i); rw [List.length_take] at h1; omega
    generalize hx : xs[i] = p at *
    obtain ⟨u, c⟩ := p
    dsimp only at eF
    have hcm : c ∈ coursesL s.length L := by rw [← hI]; exact List.mem_map.2 ⟨_, hmem, rfl⟩
    obtain ⟨m1, m2, m3⟩ := coursesL_mem.1 hcm
    refine q_fact (fun w hs => hs.ownSome (v := .slice va xs.length vc) (by repeat first | exact .head _ | refine .tail _ ?_) (by omega)) ?_
    rintro ⟨g0, d0, e⟩
    cases e
    refine q_fact (fun w hs => ls_slice hs (xs := xs) (t := 3) (by repeat first | exact .head _ | refine .tail _ ?_) hmem) ?_
    rintro ⟨ua, uc, rfl⟩
    (refine q_skip ?_; refine q_seq ?_; refine q_block ?_; refine q_seq ?_)
    refine q_draw _ [] (Sp.refl _) (by kernel_rfl) (by kernel_rfl) ?_
    (refine qf_pure tabOk rfl rfl rfl ?_; refine qf_loadAB tabOk rfl rfl rfl (by repeat first | exact .head _ | refine .tail _ ?_) (by rfl) (by rfl) ?_; (iterate 2 refine qf_pure tabOk rfl rfl rfl ?_))
    refine qf_index tabOk rfl rfl rfl rfl rfl (by omega) (by omega) ?_
    refine qf_load1 (v := .slice ua c.length uc) tabOk rfl rfl rfl (fun w hs => ls_cell hs (by repeat first | exact .head _ | refine .tail _ ?_) hi2 hx) ?_
    skip
    refine qf_call (β := Value) tabOk [] _ M0 rfl rfl rfl rfl (Sp.refl _) (fun _ h => h.elim) (fun w' hs => rbroken_ca w' lo hi 0 w'.heap.size a cp _ s r c (RdE.keep h hs.chg0) hcr (ls_rd hs (xs := xs) (t := 3) (by repeat first | exact .head _ | refine .tail _ ?_) hmem) m2 (by omega)) ?_
    rintro _ u0 rfl
    dsimp only [List.cons_append, List.nil_append]
    refine qf_fact (fun w hs => hs.slice2 (v := u0) (by repeat first | exact .head _ | refine .tail _ ?_)) ?_
    rintro ⟨za, zc, rfl⟩
    have hrb := rightB_iff s r c
    by_cases hz : brkL s r c = []
    · rw [if_pos (hrb.2 hz)] at eF
      rw [hz]
      ((iterate 2 refine qf_pure tabOk rfl rfl rfl ?_); refine qf_nil ?_; refine q_cond_true rfl ?_; refine q_region ?_; (iterate 3 refine ql_pure tabOk rfl rfl ?_))
      refine ql_index tabOk rfl rfl rfl rfl rfl (by omega) (by omega) ?_
      refine ql_load1 (v := .slice ua c.length uc) tabOk rfl rfl rfl (fun w hs => ls_cell hs (by repeat first | exact .head _ | refine .tail _ ?_) hi2 hx) ?_
      refine ql_mkS 27 [.slice ua c.length uc] rfl (by kernel_rfl) rfl (fun bn => ?_)
      refine ql_append (q := 1) slII rfl rfl rfl (fun v' => by repeat constructor) (fun w' hs => ⟨_, _, Blk.rd (hs.blk (b := bn) (by repeat first | exact .head _ | refine .tail _ ?_)) rfl 1⟩) (by simp [oneV]) (by omega) (by omega) (fun v2 => ?_)
      (refine ql_pure tabOk rfl rfl ?_; refine q_nil ?_; refine q_blk ?_; refine q_region ?_; refine ql_pure tabOk rfl rfl ?_; refine ql_ar tabOk rfl rfl rfl rfl (by omega) (by omega) ?_; refine ql_pure tabOk rfl rfl ?_; refine q_nil ?_)
      exact hK (i + 1, v2) _ _ (by simp only; omega) (by simp only; omega) ⟨rfl, rfl, rfl, rfl, rfl, trivial⟩ (by dsimp only; rw [eF, List.map_append, List.length_append]; repeat (first | exact Sp.nil | exact Sp.refl _ | refine Sp.cons (by repeat constructor) ?_))
    · have hz2 : rightB s r c = false := by
        cases hb : rightB s r c with
        | false => rfl
        | true => exact absurd (hrb.1 hb) hz
      have hz3 : (brkL s r c).length ≠ 0 := fun hh => hz (List.eq_nil_of_length_eq_zero hh)
      rw [hz2] at eF
      simp only [Bool.false_eq_true, if_false, List.append_nil] at eF
      (refine qf_pure tabOk rfl rfl rfl ?_; refine qf_eqlF tabOk rfl rfl rfl (by omega) ?_; refine qf_nil ?_; refine q_cond_false rfl ?_; refine q_skip ?_; refine q_blk ?_; refine q_region ?_; refine ql_pure tabOk rfl rfl ?_; refine ql_ar tabOk rfl rfl rfl rfl (by omega) (by omega) ?_; refine ql_pure tabOk rfl rfl ?_; refine q_nil ?_)
      exact hK (i + 1, v) _ _ (by simp only; omega) (by simp only; omega) ⟨rfl, rfl, rfl, rfl, rfl, trivial⟩ (by dsimp only; rw [eF]; repeat (first | exact Sp.nil | exact Sp.refl _ | refine Sp.cons (by repeat constructor) ?_))
  · obtain rfl : i = xs.length := by omega
    rw [List.take_length]
    (refine q_exit _ rfl ?_; refine q_seq ?_; refine q_region ?_; (iterate 2 refine ql_pure tabOk rfl rfl ?_); refine q_nil ?_; refine q_ret ?_)
    refine q_fin tabOk rfl (by repeat (first | exact RVs.nil | apply RVs.tmp rfl | apply RVs.cellA rfl rfl (by repeat first | exact .head _ | refine .tail _ ?_) (by rfl) | apply RVs.cell1 rfl rfl (by repeat first | exact .head _ | refine .tail _ ?_))) fun w hs => ?_
    exact ⟨(v, xs.filter (fun q => rightB s r q.2)), ⟨rfl, eA⟩, (rows_filter (R := [.ow (.slice va xs.length vc) 27 1 xs.length (xs.map (·.1)), .pt b3 (rlC r) 38]) _ (hs.sp (by repeat (first | exact Sp.nil | exact Sp.refl _ | refine Sp.cons (by repeat constructor) ?_)))).sp (by repeat (first | exact Sp.nil | exact Sp.refl _ | refine Sp.cons (by repeat constructor) ?_))⟩
end Go.Proofs.Ytgeajgmefokifaa

/- The plain laws of courses: their order, the fewest rules, the least snow. -/
namespace Go.Proofs.Ytgeajgmefokifaa

/-! Lexicographic order -/
/-! The fewest rules -/
/-- The first of the best ones, by a strict order of keys. -/
theorem best_fold {α : Type} (lt : α → α → Bool) (irr : ∀ a, lt a a = false) (tr : ∀ {a b c}, lt a b = true → lt b c = true → lt a c = true) (neg : ∀ {a b c}, lt a b = false → lt b c = false → lt a c = false) :
    ∀ (l : List α) (m : α), ∃ R, l.foldl (bestS lt) (some m) = some R ∧ (R = m ∨ R ∈ l) ∧ lt m R = false ∧ ∀ c ∈ l, lt c R = false
  | [], m => ⟨m, rfl, .inl rfl, irr m, by simp⟩
  | c :: l, m => by
    rw [List.foldl_cons]
    by_cases h : lt c m = true
    · simp only [bestS, h, if_true]
      obtain ⟨R, h1, h2, h3, h4⟩ := best_fold lt irr tr neg l c
      refine ⟨R, h1, .inr (List.mem_cons.2 h2), ?_, fun d hd => ?_⟩
      · cases hm : lt m R with
        | false => rfl
        | true => rw [tr h hm] at h3; cases h3
      · rcases List.mem_cons.1 hd with rfl | hd
        · exact h3
        · exact h4 d hd
    · have h : lt c m = false := by simpa using h
      simp only [bestS, h]
      obtain ⟨R, h1, h2, h3, h4⟩ := best_fold lt irr tr neg l m
      refine ⟨R, h1, h2.imp_right (List.mem_cons_of_mem _), h3, fun d hd => ?_⟩
      rcases List.mem_cons.1 hd with rfl | hd
      · exact neg h h3
      · exact h4 d hd
theorem cheap_filter (s : List Lp) (r : Rl) (depth : Int) : ∀ (l : List (List Int)) (o : Option (List Int)), l.foldl (cheapS s r depth) o = (l.filter (rightB s r)).foldl (bestS fun a b => decide (snowV s a depth < snowV s b depth) && true) o
  | [], _ => rfl
  | c :: l, o => by
    rw [List.foldl_cons, cheap_filter s r depth l, List.filter_cons]
    cases h : rightB s r c with
    | false => simp [cheapS, h]
    | true => simp only [if_true, List.foldl_cons, cheapS, h]
theorem cheap_best (s : List Lp) (r : Rl) (depth : Int) : (cheapO s r depth (coursesL s.length (nL r)) = none ∧ allC s r = []) ∨
    ∃ R, cheapO s r depth (coursesL s.length (nL r)) = some R ∧ R ∈ allC s r ∧ ∀ c ∈ allC s r, snowV s R depth ≤ snowV s c depth := by
  unfold cheapO
  rw [cheap_filter]
  show _ ∨ _
  unfold allC
  generalize (coursesL s.length (nL r)).filter (rightB s r) = l
  cases l with
  | nil => exact .inl ⟨rfl, rfl⟩
  | cons m l =>
    obtain ⟨R, h1, h2, h3, h4⟩ := best_fold (fun a b => decide (snowV s a depth < snowV s b depth) && true) (fun a => by simp) (fun {a b c} h1 h2 => by simp at h1 h2 ⊢; omega) (fun {a b c} h1 h2 => by simp at h1 h2 ⊢; omega) l m
    refine .inr ⟨R, (by rw [List.foldl_cons]; exact h1), List.mem_cons.2 h2, fun c hc => ?_⟩
    rcases List.mem_cons.1 hc with rfl | hc
    · simpa using h3
    · simpa using h4 c hc
end Go.Proofs.Ytgeajgmefokifaa

/- Walks of the reference: Broken, earlier, Yield. -/
namespace Go.Proofs.Ytgeajgmefokifaa
open Go Go.Eng

end Go.Proofs.Ytgeajgmefokifaa

/- Walks of the reference: area, snow, what a volume covers, and the cheapest course. -/
namespace Go.Proofs.Ytgeajgmefokifaa
open Go Go.Eng

theorem has_cnt (c : List Int) (i : Int) : c.any (fun x => decide (x = i) && true) = (decide (0 < cntI c i) && true) := by
  rw [Bool.eq_iff_iff]
  simp only [Bool.and_true, List.any_eq_true, decide_eq_true_eq, cntI, List.countP_pos_iff]
set_option maxHeartbeats 4000000 in
theorem rarea_ca (w : World) (lo hi lo2 hi9 : Nat) (a : Option Addr) (cp : Nat) (v : Value) (s : List Lp) (c : List Int) (h : RdL w lo hi (.slice a s.length cp) s) (hlen : s.length ≤ 1000000) (hv : RdI w lo2 hi9 v c) (hlc : c.length ≤ 1000000) :
    Ca Try.prog 69 [.slice a s.length cp, v] w fun x w' => x = .tuple #[.int .i64 (areaE s c).1, .int .i64 (areaE s c).2] ∧ Chg [] w w' := by
  obtain ⟨_, _, e0, hsa⟩ := RdL.outI h
  cases e0
  refine q_of (Sat.nil w M0) Try.func69 rfl (by simp [Try.ntmps69]) ?_
  (refine q_seq ?_; refine q_region ?_; (iterate 2 refine ql_pure tabOk rfl rfl ?_); refine q_nil ?_; (iterate 2 refine q_seq ?_); refine q_region ?_; refine ql_pure tabOk rfl rfl ?_)
  refine ql_callv (val := .int .i64 (stadV s)) tabOk rfl rfl rfl rfl (fun w hs => ?_) ?_; exact rstad_ca w lo hi a cp s (RdE.keep h hs.chg0) hlen
  by_cases h0 : stadV s ≠ 0
  · have e : areaE s c = (0, stadV s) := by unfold areaE measV; rw [if_pos h0, if_pos h0]
    rw [e]
    generalize stadV s = z at *
    (refine ql_pure tabOk rfl rfl ?_; refine q_nil ?_; refine q_seq ?_; refine q_region ?_; refine ql_pure tabOk rfl rfl ?_; refine ql_neqT tabOk rfl rfl rfl (by omega) ?_; refine q_nil ?_; refine q_cond_true rfl ?_; refine q_seq ?_; refine q_region ?_; (iterate 3 refine ql_pure tabOk rfl rfl ?_); refine q_nil ?_; refine q_ret ?_)
    refine q_fin tabOk rfl (by repeat (first | exact RVs.nil | apply RVs.tmp rfl | apply RVs.cellA rfl rfl (by repeat first | exact .head _ | refine .tail _ ?_) (by rfl) | apply RVs.cell1 rfl rfl (by repeat first | exact .head _ | refine .tail _ ?_))) fun w hs => ?_
    exact ⟨rfl, hs.chg0⟩
  have h0 : stadV s = 0 := by omega
  have hst := stadV_iff.1 h0
  have hn2 := hst.n2
  have hn1 := hst.n1
  rw [h0]
  (refine ql_pure tabOk rfl rfl ?_; refine q_nil ?_; refine q_seq ?_; refine q_region ?_; refine ql_pure tabOk rfl rfl ?_; refine ql_neqF tabOk rfl rfl rfl (by omega) ?_; refine q_nil ?_; refine q_cond_false rfl ?_; refine q_skip ?_; (iterate 2 refine q_seq ?_); refine q_region ?_; (iterate 2 refine ql_pure tabOk rfl rfl ?_))
  refine ql_callv (val := .int .i64 (listedV s.length c)) tabOk rfl rfl rfl rfl (fun w hs => ?_) ?_; exact rlisted_ca w lo2 hi9 a s.length cp _ c (hv.keep hs.chg0) hlc hlen
  have hme : measV s c = listedV s.length c := by unfold measV; rw [if_neg (by omega)]
  by_cases h1 : listedV s.length c ≠ 0
  · have e : areaE s c = (0, listedV s.length c) := by unfold areaE; rw [hme, if_pos h1]
    rw [e]
    generalize listedV s.length c = z at *
    (refine ql_pure tabOk rfl rfl ?_; refine q_nil ?_; refine q_seq ?_; refine q_region ?_; refine ql_pure tabOk rfl rfl ?_; refine ql_neqT tabOk rfl rfl rfl (by omega) ?_; refine q_nil ?_; refine q_cond_true rfl ?_; refine q_seq ?_; refine q_region ?_; (iterate 3 refine ql_pure tabOk rfl rfl ?_); refine q_nil ?_; refine q_ret ?_)
    refine q_fin tabOk rfl (by repeat (first | exact RVs.nil | apply RVs.tmp rfl | apply RVs.cellA rfl rfl (by repeat first | exact .head _ | refine .tail _ ?_) (by rfl) | apply RVs.cell1 rfl rfl (by repeat first | exact .head _ | refine .tail _ ?_))) fun w hs => ?_
    exact ⟨rfl, hs.chg0⟩
  have h1 : listedV s.length c = 0 := by omega
  have e : areaE s c = (areaV s c, 0) := by unfold areaE; rw [hme, h1, if_neg (by omega)]
  rw [e, h1]
  obtain ⟨ba, oa, rfl⟩ := hsa (by omega)
  (refine ql_pure tabOk rfl rfl ?_; refine q_nil ?_; refine q_seq ?_; refine q_region ?_; refine ql_pure tabOk rfl rfl ?_; refine ql_neqF tabOk rfl rfl rfl (by omega) ?_; refine q_nil ?_; refine q_cond_false rfl ?_; refine q_skip ?_; refine q_seq ?_; refine q_region ?_; refine ql_pure tabOk rfl rfl ?_; refine q_nil ?_; (iterate 2 refine q_seq ?_); refine q_region ?_; refine ql_pure tabOk rfl rfl ?_; refine q_nil ?_; refine q_block ?_)
  refine q_loop (σ := Nat) (fun k => k ≤ s.length) (fun k => s.length - k) (fun k => [(0, .slice (some ⟨ba, oa, none⟩) s.length cp), (1, v), (8, .int .i64 (areaP s c k)), (9, .int .i64 k)]) (fun _ => []) 0 (by omega) ⟨rfl, rfl, rfl, rfl, trivial⟩ (by repeat (first | exact Sp.nil | exact Sp.refl _ | refine Sp.cons (by repeat constructor) ?_)) ?_
  rintro k hk K hK
  have hbd := areaP_bd hst c k hk
  ((iterate 2 refine q_seq ?_); refine q_region ?_; (iterate 4 refine ql_pure tabOk rfl rfl ?_); refine q_nil ?_)
  refine q_if rfl (fun hc => ?_) (fun hc => ?_)
  · have hk2 : k < s.length := by omega
    clear hc
    have eS := areaP_succ s c k
    rw [has_cnt] at eS
    have hR := hst.all _ (List.getElem_mem hk2)
    have eat : lpAt s (k : Int) = s[k] := lpAt_at (by omega)
    rw [eat] at eS
    have hm1 : 0 ≤ s[k].len * s[k].wide := Int.mul_nonneg (by have := hR.len; omega) (by have := hR.wide; omega)
    have hm2 : s[k].len * s[k].wide ≤ 20000 * 20 := Int.mul_le_mul hR.len.2 hR.wide.2 (by have := hR.wide; omega) (by omega)
    (refine q_skip ?_; refine q_seq ?_; refine q_block ?_; refine q_seq ?_; refine q_region ?_; (iterate 2 refine ql_pure tabOk rfl rfl ?_))
    refine ql_callv (val := .int .i64 (cntI c k)) tabOk rfl rfl rfl rfl (fun w hs => ?_) ?_; exact ruses_ca w lo2 hi9 v c k (hv.keep hs.chg0) hlc
    generalize cntI c k = q at *
    by_cases hq : 0 < q
    · rw [decide_eq_true hq, if_pos (by simp)] at eS
      (refine ql_gtrT tabOk rfl rfl rfl (by omega) ?_; refine q_nil ?_; refine q_cond_true rfl ?_)
      refine q_draw _ [] (Sp.refl _) (by kernel_rfl) (by kernel_rfl) ?_
      ((iterate 3 refine qf_pure tabOk rfl rfl rfl ?_))
      refine qf_index tabOk rfl rfl rfl rfl rfl (by omega) (by omega) ?_
      (refine qf_pure tabOk rfl rfl rfl ?_)
      refine qf_load1 tabOk rfl rfl rfl (fun w hs => RdL.at0 (RdE.keep h hs.chg0) k hk2) ?_
      ((iterate 2 refine qf_pure tabOk rfl rfl rfl ?_))
      refine qf_index tabOk rfl rfl rfl rfl rfl (by omega) (by omega) ?_
      (refine qf_pure tabOk rfl rfl rfl ?_)
      refine qf_load1 tabOk rfl rfl rfl (fun w hs => RdL.at2 (RdE.keep h hs.chg0) k hk2) ?_
      ((iterate 2 refine qf_ar tabOk rfl rfl rfl rfl (by omega) (by omega) ?_); refine qf_pure tabOk rfl rfl rfl ?_; refine qf_nil ?_; refine q_blk ?_; refine q_region ?_; refine ql_pure tabOk rfl rfl ?_; refine ql_ar tabOk rfl rfl rfl rfl (by omega) (by omega) ?_; refine ql_pure tabOk rfl rfl ?_; refine q_nil ?_)
      exact hK (k + 1) _ _ (by omega) (by omega) ⟨rfl, rfl, lookI rfl (by omega), rfl, trivial⟩ (by repeat (first | exact Sp.nil | exact Sp.refl _ | refine Sp.cons (by repeat constructor) ?_))
    · rw [decide_eq_false hq, if_neg (by simp)] at eS
      (refine ql_gtrF tabOk rfl rfl rfl (by omega) ?_; refine q_nil ?_; refine q_cond_false rfl ?_; refine q_skip ?_; refine q_blk ?_; refine q_region ?_; refine ql_pure tabOk rfl rfl ?_; refine ql_ar tabOk rfl rfl rfl rfl (by omega) (by omega) ?_; refine ql_pure tabOk rfl rfl ?_; refine q_nil ?_)
      exact hK (k + 1) _ _ (by omega) (by omega) ⟨rfl, rfl, lookI rfl (by omega), rfl, trivial⟩ (by repeat (first | exact Sp.nil | exact Sp.refl _ | refine Sp.cons (by repeat constructor) ?_))
  · obtain rfl : k = s.length := by omega
    (refine q_exit _ rfl ?_; refine q_seq ?_; refine q_region ?_; (iterate 3 refine ql_pure tabOk rfl rfl ?_); refine q_nil ?_; refine q_ret ?_)
    refine q_fin tabOk rfl (by repeat (first | exact RVs.nil | apply RVs.tmp rfl | apply RVs.cellA rfl rfl (by repeat first | exact .head _ | refine .tail _ ?_) (by rfl) | apply RVs.cell1 rfl rfl (by repeat first | exact .head _ | refine .tail _ ?_))) fun w hs => ?_
    exact ⟨rfl, hs.chg0⟩
set_option maxHeartbeats 4000000 in
theorem rsnow_ca (w : World) (lo hi lo2 hi9 : Nat) (a : Option Addr) (cp : Nat) (v : Value) (s : List Lp) (c : List Int) (depth : Int) (h : RdL w lo hi (.slice a s.length cp) s) (hlen : s.length ≤ 1000000) (hv : RdI w lo2 hi9 v c) (hlc : c.length ≤ 1000000) :
    Ca Try.prog 71 [.slice a s.length cp, v, .int .i64 depth] w fun x w' => x = .tuple #[.int .i64 (snowE s c depth).1, .int .i64 (snowE s c depth).2] ∧ Chg [] w w' := by
  refine q_of (Sat.nil w M0) Try.func71 rfl (by simp [Try.ntmps71]) ?_
  (refine q_seq ?_; refine q_region ?_; (iterate 2 refine ql_pure tabOk rfl rfl ?_); refine q_nil ?_; refine q_seq ?_; refine q_region ?_; (iterate 2 refine ql_pure tabOk rfl rfl ?_))
  refine ql_callv (val := .tuple #[.int .i64 (areaE s c).1, .int .i64 (areaE s c).2]) tabOk rfl rfl rfl rfl (fun w hs => ?_) ?_; exact rarea_ca w lo hi lo2 hi9 a cp v s c (RdE.keep h hs.chg0) hlen (hv.keep hs.chg0) hlc
  by_cases h0 : measV s c ≠ 0
  · have e : areaE s c = (0, measV s c) := by unfold areaE; rw [if_pos h0]
    have e2 : snowE s c depth = (0, measV s c) := by unfold snowE; rw [if_pos h0]
    rw [e, e2]
    generalize measV s c = z at *
    dsimp only
    (refine ql_pure tabOk rfl rfl ?_; (iterate 2 refine ql_ext tabOk rfl rfl rfl ?_); (iterate 2 refine ql_pure tabOk rfl rfl ?_); refine q_nil ?_; (iterate 2 refine q_seq ?_); refine q_region ?_; refine ql_pure tabOk rfl rfl ?_; refine ql_neqT tabOk rfl rfl rfl (by omega) ?_; refine q_nil ?_; refine q_cond_true rfl ?_; refine q_seq ?_; refine q_region ?_; (iterate 3 refine ql_pure tabOk rfl rfl ?_); refine q_nil ?_; refine q_ret ?_)
    refine q_fin tabOk rfl (by repeat (first | exact RVs.nil | apply RVs.tmp rfl | apply RVs.cellA rfl rfl (by repeat first | exact .head _ | refine .tail _ ?_) (by rfl) | apply RVs.cell1 rfl rfl (by repeat first | exact .head _ | refine .tail _ ?_))) fun w hs => ?_
    exact ⟨rfl, hs.chg0⟩
  have h0 : measV s c = 0 := by omega
  have e : areaE s c = (areaV s c, 0) := by unfold areaE; rw [if_neg (by omega)]
  have hst := (meas_iff.1 h0).1
  rw [e]
  dsimp only
  (refine ql_pure tabOk rfl rfl ?_; (iterate 2 refine ql_ext tabOk rfl rfl rfl ?_); (iterate 2 refine ql_pure tabOk rfl rfl ?_); refine q_nil ?_; (iterate 2 refine q_seq ?_); refine q_region ?_; refine ql_pure tabOk rfl rfl ?_; refine ql_neqF tabOk rfl rfl rfl (by omega) ?_; refine q_nil ?_; refine q_cond_false rfl ?_; refine q_skip ?_; (iterate 2 refine q_seq ?_); refine q_region ?_; refine ql_pure tabOk rfl rfl ?_)
  refine ql_callv (val := .bool (!(wiB depth 1 200))) tabOk rfl rfl rfl rfl (fun w hs => ?_) ?_; exact out_ca depth 1 200 w
  cases g1 : wiB depth 1 200 with
  | false =>
    have e2 : snowE s c depth = (0, 3) := by unfold snowE; rw [if_neg (by omega), if_pos g1]
    rw [e2]
    (refine q_nil ?_; refine q_cond_true rfl ?_; refine q_seq ?_; refine q_region ?_; (iterate 2 refine ql_pure tabOk rfl rfl ?_); refine q_nil ?_; refine q_ret ?_)
    refine q_fin tabOk rfl (by repeat (first | exact RVs.nil | apply RVs.tmp rfl | apply RVs.cellA rfl rfl (by repeat first | exact .head _ | refine .tail _ ?_) (by rfl) | apply RVs.cell1 rfl rfl (by repeat first | exact .head _ | refine .tail _ ?_))) fun w hs => ?_
    exact ⟨rfl, hs.chg0⟩
  | true =>
  have hd := wiB_iff.1 g1
  have e2 : snowE s c depth = (snowV s c depth, 0) := by unfold snowE; rw [if_neg (by omega), if_neg (by simp [g1])]
  rw [e2]
  have hb := snowV_bd hst c hd
  unfold snowV at hb ⊢
  obtain ⟨ha, hm, hn⟩ := hb
  by_cases hz : areaV s c * depth % 100 > 0
  · have e3 : areaV s c * depth / 100 + 1 = (areaV s c * depth + 99) / 100 := by omega
    (refine q_nil ?_; refine q_cond_false rfl ?_; refine q_skip ?_; refine q_seq ?_; refine q_region ?_; (iterate 2 refine ql_pure tabOk rfl rfl ?_); refine ql_ar tabOk rfl rfl rfl rfl (by omega) (by omega) ?_; refine ql_pure tabOk rfl rfl ?_; refine q_nil ?_; (iterate 2 refine q_seq ?_); refine q_region ?_; refine ql_pure tabOk rfl rfl ?_; refine ql_remN rfl rfl rfl (by omega) (by omega) ?_; refine ql_gtrT tabOk rfl rfl rfl (by omega) ?_; refine q_nil ?_; refine q_cond_true rfl ?_; refine q_seq ?_; refine q_region ?_; refine ql_pure tabOk rfl rfl ?_; refine ql_quoN rfl rfl rfl (by omega) (by omega) (by omega) ?_; refine ql_ar tabOk rfl rfl rfl rfl (by omega) (by omega) ?_; (iterate 2 refine ql_pure tabOk rfl rfl ?_); refine q_nil ?_; refine q_ret ?_)
    refine q_fin tabOk rfl (by repeat (first | exact RVs.nil | apply RVs.tmp rfl | apply RVs.cellA rfl rfl (by repeat first | exact .head _ | refine .tail _ ?_) (by rfl) | apply RVs.cell1 rfl rfl (by repeat first | exact .head _ | refine .tail _ ?_))) fun w hs => ?_
    exact ⟨by rw [← e3]; rfl, hs.chg0⟩
  · have e3 : areaV s c * depth / 100 = (areaV s c * depth + 99) / 100 := by omega
    (refine q_nil ?_; refine q_cond_false rfl ?_; refine q_skip ?_; refine q_seq ?_; refine q_region ?_; (iterate 2 refine ql_pure tabOk rfl rfl ?_); refine ql_ar tabOk rfl rfl rfl rfl (by omega) (by omega) ?_; refine ql_pure tabOk rfl rfl ?_; refine q_nil ?_; (iterate 2 refine q_seq ?_); refine q_region ?_; refine ql_pure tabOk rfl rfl ?_; refine ql_remN rfl rfl rfl (by omega) (by omega) ?_; refine ql_gtrF tabOk rfl rfl rfl (by omega) ?_; refine q_nil ?_; refine q_cond_false rfl ?_; refine q_skip ?_; refine q_seq ?_; refine q_region ?_; refine ql_pure tabOk rfl rfl ?_; refine ql_quoN rfl rfl rfl (by omega) (by omega) (by omega) ?_; (iterate 2 refine ql_pure tabOk rfl rfl ?_); refine q_nil ?_; refine q_ret ?_)
    refine q_fin tabOk rfl (by repeat (first | exact RVs.nil | apply RVs.tmp rfl | apply RVs.cellA rfl rfl (by repeat first | exact .head _ | refine .tail _ ?_) (by rfl) | apply RVs.cell1 rfl rfl (by repeat first | exact .head _ | refine .tail _ ?_))) fun w hs => ?_
    exact ⟨by rw [← e3]; rfl, hs.chg0⟩
theorem snowE_in {s : List Lp} {r : Rl} {c : List Int} {depth : Int} (hcr : CR s r) (hd : 1 ≤ depth ∧ depth ≤ 200) (hc : c ∈ allC s r) : snowE s c depth = (snowV s c depth, 0) := by
  have hm := coursesL_mem.1 (List.mem_filter.1 hc).1
  have hla := hcr.r.laps
  have h1 : measV s c = 0 := meas_iff.2 ⟨hcr.s, listedV_iff.2 ⟨by rw [hm.1]; unfold nL; omega, hm.2.1, hm.2.2⟩⟩
  unfold snowE
  rw [if_neg (by omega), if_neg (by simp [wiB_iff.2 hd])]
def volB (s : List Lp) (depth volume : Int) (c : List Int) : Bool := decide (snowV s c depth ≤ volume) && true
theorem cov_vol (s : List Lp) (r : Rl) (depth volume : Int) : (allC s r).filter (volB s depth volume) = covL s r depth volume := by
  unfold allC covL
  rw [List.filter_filter]
  refine List.filter_congr fun c _ => ?_
  rw [Bool.and_comm]
  rfl
theorem allC_le {s : List Lp} {r : Rl} (hcr : CR s r) : (allC s r).length ≤ 2985984 := by
  have hla := hcr.r.laps
  have h1 := courses_le s.length (nL r) hcr.s.n2 (by unfold nL; omega)
  have h2 := List.length_filter_le (rightB s r) (coursesL s.length (nL r))
  exact Nat.le_trans h2 h1
theorem allC_len {s : List Lp} {r : Rl} (hcr : CR s r) {c : List Int} (hc : c ∈ allC s r) : c.length ≤ 6 := by
  have hla := hcr.r.laps
  have hm := coursesL_mem.1 (List.mem_filter.1 hc).1
  rw [hm.1]
  unfold nL
  omega
set_option maxHeartbeats 8000000 in
theorem rcov_main (w : World) (lo hi : Nat) (a : Option Addr) (cp : Nat) (s : List Lp) (r : Rl) (depth volume : Int) (h : RdL w lo hi (.slice a s.length cp) s) (hcr : CR s r) (hdp : 1 ≤ depth ∧ depth ≤ 200) (hvo : 0 ≤ volume ∧ volume ≤ 10000000) :
    Ca Try.prog 73 [.slice a s.length cp, .agg (rlC r).toArray, .int .i64 depth, .int .i64 volume] w fun x w' => ∃ y : Value × List (Value × List Int), (((x = .tuple #[y.1, .int .i64 0] ∧ (covL s r depth volume).length ≤ 300) ∨ (x = .tuple #[.slice none 0 0, .int .i64 10] ∧ 300 < (covL s r depth volume).length)) ∧ y.2.map (·.2) = covL s r depth volume) ∧ Sat w M0 (lsK y.1 y.2) w' := by
  have hn2 := hcr.s.n2
  refine q_of (Sat.nil w M0) Try.func73 rfl (by simp [Try.ntmps73]) ?_
  (refine q_seq ?_; refine q_region ?_)
  refine ql_box rfl rfl (fun b5 => ?_)
  ((iterate 2 refine ql_pure tabOk rfl rfl ?_); refine q_nil ?_; (iterate 2 refine q_seq ?_); refine q_region ?_; refine ql_pure tabOk rfl rfl ?_; refine ql_loadAB tabOk rfl rfl rfl (by repeat first | exact .head _ | refine .tail _ ?_) (by rfl) (by rfl) ?_)
  refine ql_callv (val := .int .i64 0) tabOk rfl rfl rfl rfl (fun w hs => ?_) ?_; exact by have := rcheckS_ca w lo hi a cp s r (RdE.keep h hs.chg0) (by omega); rw [checkS_iff.2 hcr] at this; exact this
  (refine ql_pure tabOk rfl rfl ?_; refine q_nil ?_; refine q_seq ?_; refine q_region ?_; refine ql_pure tabOk rfl rfl ?_; refine ql_neqF tabOk rfl rfl rfl (by omega) ?_; refine q_nil ?_; refine q_cond_false rfl ?_; refine q_skip ?_; (iterate 2 refine q_seq ?_); refine q_region ?_; refine ql_pure tabOk rfl rfl ?_)
  refine ql_callv (val := .bool false) tabOk rfl rfl rfl rfl (fun w hs => ?_) ?_; exact by have := out_ca depth 1 200 w; rw [wiB_iff.2 hdp] at this; exact this
  (refine ql_pure tabOk rfl rfl ?_; refine ql_gyes rfl ?_; refine ql_pure tabOk rfl rfl ?_; refine ql_gyes rfl ?_)
  refine ql_callv (val := .bool false) tabOk rfl rfl rfl rfl (fun w hs => ?_) ?_; exact by have := out_ca volume 0 10000000 w; rw [wiB_iff.2 hvo] at this; exact this
  (refine ql_pure tabOk rfl rfl ?_; refine q_nil ?_; refine q_cond_false rfl ?_; refine q_skip ?_; refine q_seq ?_; refine q_region ?_; refine ql_pure tabOk rfl rfl ?_; refine ql_loadAB tabOk rfl rfl rfl (by repeat first | exact .head _ | refine .tail _ ?_) (by rfl) (by rfl) ?_)
  refine ql_call (β := Value × List (Value × List Int)) tabOk [] _ M0 rfl rfl rfl rfl (Sp.refl _) (fun _ h => h.elim) (fun w' hs => rright_ca w' lo hi a cp s r (RdE.keep h hs.chg0) hcr) ?_
  rintro ⟨_, xs⟩ v0 ⟨rfl, hI⟩
  dsimp only [lsK, List.cons_append, List.nil_append] at hI ⊢
  have hxl : xs.length ≤ 2985984 := by have := congrArg List.length hI; rw [List.length_map] at this; have := allC_le hcr; omega
  have eA : (xs.filter (fun q => volB s depth volume q.2)).map (·.2) = covL s r depth volume := by rw [filter_map2, hI, cov_vol]
  refine ql_fact (fun w hs => hs.slice2 (v := v0) (by repeat first | exact .head _ | refine .tail _ ?_)) ?_
  rintro ⟨va, vc, rfl⟩
  (refine ql_pure tabOk rfl rfl ?_; refine q_nil ?_; refine q_seq ?_; refine q_region ?_; refine ql_pure tabOk rfl rfl ?_; refine q_nil ?_; (iterate 2 refine q_seq ?_); refine q_region ?_; refine ql_pure tabOk rfl rfl ?_; refine q_nil ?_; refine q_block ?_)
  refine q_conv (H' := [.ow (.slice none 0 0) 27 1 0 [], .ow (.slice va xs.length vc) 27 1 xs.length (xs.map (·.1)), un (rowsO 3 xs)]) (fun w' hs => (Sat.ownil hs 27 1).sp (by repeat (first | exact Sp.nil | exact Sp.refl _ | refine Sp.cons (by repeat constructor) ?_))) ?_
  refine q_loop (σ := Nat × Value) (fun s => s.1 ≤ xs.length) (fun s => xs.length - s.1) (fun q => [(0, .slice a s.length cp), (2, .int .i64 depth), (3, .int .i64 volume), (11, .slice va xs.length vc), (12, q.2), (13, .int .i64 q.1)])
    (fun q => [.ow q.2 27 1 ((xs.take q.1).filter (fun q => volB s depth volume q.2)).length (((xs.take q.1).filter (fun q => volB s depth volume q.2)).map (·.1)), .ow (.slice va xs.length vc) 27 1 xs.length (xs.map (·.1)), un (rowsO 3 xs)]) (0, .slice none 0 0) (by simp) ⟨rfl, rfl, rfl, rfl, rfl, rfl, trivial⟩ (by repeat (first | exact Sp.nil | exact Sp.refl _ | refine Sp.cons (by repeat constructor) ?_)) ?_
  rintro ⟨i, v⟩ hik K hK
  simp only at hik
  dsimp only
  ((iterate 2 refine q_seq ?_); refine q_region ?_; (iterate 4 refine ql_pure tabOk rfl rfl ?_); refine q_nil ?_)
  refine q_if rfl (fun hc => ?_) (fun hc => ?_)
  · have hi2 : i < xs.length := by omega
    clear hc
    have eF := filter_take (fun q => volB s depth volume q.2) xs hi2
    have hmem : xs[i] ∈ xs := List.getElem_mem hi2
    have hfl : ((xs.take i).filter (fun q => volB s depth volume q.2)).length ≤ i := by have h1 := List.length_filter_le (fun q : Value × List Int => volB s depth volume q.2) (xs.take i); rw [List.length_take] at h1; omega
    generalize hx : xs[i] = p at *
    obtain ⟨u, c⟩ := p
    dsimp only at eF
    have hcm : c ∈ allC s r := by rw [← hI]; exact List.mem_map.2 ⟨_, hmem, rfl⟩
    have hc6 := allC_len hcr hcm
    have hsn := snowE_in hcr hdp hcm
    refine q_fact (fun w hs => hs.ownSome (v := .slice va xs.length vc) (by repeat first | exact .head _ | refine .tail _ ?_) (by omega)) ?_
    rintro ⟨g0, d0, e⟩
    cases e
    refine q_fact (fun w hs => ls_slice hs (xs := xs) (t := 3) (by repeat first | exact .head _ | refine .tail _ ?_) hmem) ?_
    rintro ⟨ua, uc, rfl⟩
    have hvb : volB s depth volume c = (decide (snowV s c depth ≤ volume) && true) := rfl
    (refine q_skip ?_; refine q_seq ?_; refine q_block ?_; refine q_seq ?_; refine q_region ?_; (iterate 3 refine ql_pure tabOk rfl rfl ?_))
    refine ql_index tabOk rfl rfl rfl rfl rfl (by omega) (by omega) ?_
    refine ql_load1 (v := .slice ua c.length uc) tabOk rfl rfl rfl (fun w hs => ls_cell hs (by repeat first | exact .head _ | refine .tail _ ?_) hi2 hx) ?_
    (refine ql_pure tabOk rfl rfl ?_)
    refine ql_callv (val := .tuple #[.int .i64 (snowV s c depth), .int .i64 0]) tabOk rfl rfl rfl rfl (fun w hs => ?_) ?_; exact by have := rsnow_ca w lo hi 0 w.heap.size a cp (.slice ua c.length uc) s c depth (RdE.keep h hs.chg0) (by omega) (ls_rd hs (xs := xs) (t := 3) (by repeat first | exact .head _ | refine .tail _ ?_) hmem) (by omega); rw [hsn] at this; exact this
    generalize snowV s c depth = z at *
    by_cases hz : z ≤ volume
    · rw [hvb, decide_eq_true hz, if_pos (by simp)] at eF
      (refine ql_pure tabOk rfl rfl ?_; (iterate 2 refine ql_ext tabOk rfl rfl rfl ?_); (iterate 2 refine ql_pure tabOk rfl rfl ?_); refine q_nil ?_; refine q_seq ?_; refine q_region ?_; (iterate 2 refine ql_pure tabOk rfl rfl ?_); refine ql_leqT tabOk rfl rfl rfl (by omega) ?_; refine q_nil ?_; refine q_cond_true rfl ?_; refine q_region ?_; (iterate 3 refine ql_pure tabOk rfl rfl ?_))
      refine ql_index tabOk rfl rfl rfl rfl rfl (by omega) (by omega) ?_
      refine ql_load1 (v := .slice ua c.length uc) tabOk rfl rfl rfl (fun w hs => ls_cell hs (by repeat first | exact .head _ | refine .tail _ ?_) hi2 hx) ?_
      refine ql_mkS 27 [.slice ua c.length uc] rfl (by kernel_rfl) rfl (fun bn => ?_)
      refine ql_append (q := 1) slII rfl rfl rfl (fun v' => by repeat constructor) (fun w' hs => ⟨_, _, Blk.rd (hs.blk (b := bn) (by repeat first | exact .head _ | refine .tail _ ?_)) rfl 1⟩) (by simp [oneV]) (by omega) (by omega) (fun v2 => ?_)
      (refine ql_pure tabOk rfl rfl ?_; refine q_nil ?_; refine q_blk ?_; refine q_region ?_; refine ql_pure tabOk rfl rfl ?_; refine ql_ar tabOk rfl rfl rfl rfl (by omega) (by omega) ?_; refine ql_pure tabOk rfl rfl ?_; refine q_nil ?_)
      exact hK (i + 1, v2) _ _ (by simp only; omega) (by simp only; omega) ⟨rfl, rfl, rfl, rfl, rfl, rfl, trivial⟩ (by dsimp only; rw [eF, List.map_append, List.length_append]; repeat (first | exact Sp.nil | exact Sp.refl _ | refine Sp.cons (by repeat constructor) ?_))
    · rw [hvb, decide_eq_false hz, if_neg (by simp), List.append_nil] at eF
      (refine ql_pure tabOk rfl rfl ?_; (iterate 2 refine ql_ext tabOk rfl rfl rfl ?_); (iterate 2 refine ql_pure tabOk rfl rfl ?_); refine q_nil ?_; refine q_seq ?_; refine q_region ?_; (iterate 2 refine ql_pure tabOk rfl rfl ?_); refine ql_leqF tabOk rfl rfl rfl (by omega) ?_; refine q_nil ?_; refine q_cond_false rfl ?_; refine q_skip ?_; refine q_blk ?_; refine q_region ?_; refine ql_pure tabOk rfl rfl ?_; refine ql_ar tabOk rfl rfl rfl rfl (by omega) (by omega) ?_; refine ql_pure tabOk rfl rfl ?_; refine q_nil ?_)
      exact hK (i + 1, v) _ _ (by simp only; omega) (by simp only; omega) ⟨rfl, rfl, rfl, rfl, rfl, rfl, trivial⟩ (by dsimp only; rw [eF]; repeat (first | exact Sp.nil | exact Sp.refl _ | refine Sp.cons (by repeat constructor) ?_))
  · obtain rfl : i = xs.length := by omega
    rw [List.take_length]
    have hel := congrArg List.length eA
    rw [List.length_map] at hel
    clear hK hc
    generalize hF : (xs.filter (fun q => volB s depth volume q.2)) = F at *
    have hfl : F.length ≤ xs.length := by rw [← hF]; exact List.length_filter_le _ _
    refine q_fact (fun w hs => hs.slice2 (v := v) (by repeat first | exact .head _ | refine .tail _ ?_)) ?_
    rintro ⟨ya, yc, rfl⟩
    by_cases h3 : F.length ≤ 300
    · (refine q_exit _ rfl ?_; (iterate 2 refine q_seq ?_); refine q_region ?_; (iterate 2 refine ql_pure tabOk rfl rfl ?_); refine ql_gtrF tabOk rfl rfl rfl (by omega) ?_; refine q_nil ?_; refine q_cond_false rfl ?_; refine q_skip ?_; refine q_seq ?_; refine q_region ?_; (iterate 3 refine ql_pure tabOk rfl rfl ?_); refine q_nil ?_; refine q_ret ?_)
      refine q_fin tabOk rfl (by repeat (first | exact RVs.nil | apply RVs.tmp rfl | apply RVs.cellA rfl rfl (by repeat first | exact .head _ | refine .tail _ ?_) (by rfl) | apply RVs.cell1 rfl rfl (by repeat first | exact .head _ | refine .tail _ ?_))) fun w hs => ?_
      refine ⟨(_, F), ⟨.inl ⟨rfl, by omega⟩, eA⟩, ?_⟩
      subst hF
      exact (rows_filter (R := [.ow (.slice va xs.length vc) 27 1 xs.length (xs.map (·.1))]) _ (hs.sp (by repeat (first | exact Sp.nil | exact Sp.refl _ | refine Sp.cons (by repeat constructor) ?_)))).sp (by repeat (first | exact Sp.nil | exact Sp.refl _ | refine Sp.cons (by repeat constructor) ?_))
    · (refine q_exit _ rfl ?_; (iterate 2 refine q_seq ?_); refine q_region ?_; (iterate 2 refine ql_pure tabOk rfl rfl ?_); refine ql_gtrT tabOk rfl rfl rfl (by omega) ?_; refine q_nil ?_; refine q_cond_true rfl ?_; refine q_seq ?_; refine q_region ?_; (iterate 2 refine ql_pure tabOk rfl rfl ?_); refine q_nil ?_; refine q_ret ?_)
      refine q_fin tabOk rfl (by repeat (first | exact RVs.nil | apply RVs.tmp rfl | apply RVs.cellA rfl rfl (by repeat first | exact .head _ | refine .tail _ ?_) (by rfl) | apply RVs.cell1 rfl rfl (by repeat first | exact .head _ | refine .tail _ ?_))) fun w hs => ?_
      refine ⟨(.slice ya F.length yc, F), ⟨.inr ⟨rfl, by omega⟩, eA⟩, ?_⟩
      subst hF
      exact (rows_filter (R := [.ow (.slice va xs.length vc) 27 1 xs.length (xs.map (·.1))]) _ (hs.sp (by repeat (first | exact Sp.nil | exact Sp.refl _ | refine Sp.cons (by repeat constructor) ?_)))).sp (by repeat (first | exact Sp.nil | exact Sp.refl _ | refine Sp.cons (by repeat constructor) ?_))
end Go.Proofs.Ytgeajgmefokifaa

/- Walks of the reference: what a volume covers; the cheapest course. -/
namespace Go.Proofs.Ytgeajgmefokifaa
open Go Go.Eng

theorem rcov_ok (w : World) (lo hi : Nat) (a : Option Addr) (cp : Nat) (s : List Lp) (r : Rl) (depth volume : Int) (h : RdL w lo hi (.slice a s.length cp) s) (hlen : s.length ≤ 1000000) (e : (coveredV s r depth volume).2 = 0) :
    Ca Try.prog 73 [.slice a s.length cp, .agg (rlC r).toArray, .int .i64 depth, .int .i64 volume] w fun x w' => ∃ y : Value × List (Value × List Int), (x = .tuple #[y.1, .int .i64 0] ∧ y.2.map (·.2) = covL s r depth volume) ∧ Sat w M0 (lsK y.1 y.2) w' := by
  unfold coveredV at e
  split at e
  · rename_i hh; exact absurd e hh
  rename_i h0
  split at e
  · cases e
  rename_i h1
  split at e
  · cases e
  rename_i h2
  have h1' : wiB depth 1 200 = true ∧ wiB volume 0 10000000 = true := by simpa using h1
  exact (rcov_main w lo hi a cp s r depth volume h (checkS_iff.1 (by omega)) (wiB_iff.1 h1'.1) (wiB_iff.1 h1'.2)).mono fun v w' ⟨y, ⟨h1, h4⟩, h3⟩ => by
    rcases h1 with ⟨h1, _⟩ | ⟨_, h1⟩
    · exact ⟨y, ⟨h1, h4⟩, h3⟩
    · omega
set_option maxHeartbeats 2000000 in
theorem rcov_no (w : World) (lo hi : Nat) (a : Option Addr) (cp : Nat) (s : List Lp) (r : Rl) (depth volume : Int) (h : RdL w lo hi (.slice a s.length cp) s) (hlen : s.length ≤ 1000000) (e : (coveredV s r depth volume).2 ≠ 0) :
    Ca Try.prog 73 [.slice a s.length cp, .agg (rlC r).toArray, .int .i64 depth, .int .i64 volume] w fun x w' => x = .tuple #[.slice none 0 0, .int .i64 (coveredV s r depth volume).2] ∧ Chg [] w w' := by
  by_cases h0 : checkS s r = 0
  · by_cases h1 : (wiB depth 1 200 && wiB volume 0 10000000) = true
    · have h1' : wiB depth 1 200 = true ∧ wiB volume 0 10000000 = true := by simpa using h1
      by_cases h3 : 300 < (covL s r depth volume).length
      · have ev : (coveredV s r depth volume).2 = 10 := by unfold coveredV; rw [if_neg (by omega), if_neg (by simp [h1]), if_pos h3]
        rw [ev]
        exact (rcov_main w lo hi a cp s r depth volume h (checkS_iff.1 (by omega)) (wiB_iff.1 h1'.1) (wiB_iff.1 h1'.2)).mono fun v w' ⟨y, ⟨h1, h2⟩, h4⟩ => by
          rcases h1 with ⟨_, h1⟩ | ⟨h1, _⟩
          · omega
          · exact ⟨h1, h4.chg0⟩
      · exact absurd (by unfold coveredV; rw [if_neg (by omega), if_neg (by simp [h1]), if_neg h3]) e
    · have ev : (coveredV s r depth volume).2 = 3 := by unfold coveredV; rw [if_neg (by omega), if_pos (Bool.eq_false_iff.2 h1)]
      rw [ev]
      refine q_of (Sat.nil w M0) Try.func73 rfl (by simp [Try.ntmps73]) ?_
      (refine q_seq ?_; refine q_region ?_)
      refine ql_box rfl rfl (fun b5 => ?_)
      ((iterate 2 refine ql_pure tabOk rfl rfl ?_); refine q_nil ?_; (iterate 2 refine q_seq ?_); refine q_region ?_; refine ql_pure tabOk rfl rfl ?_; refine ql_loadAB tabOk rfl rfl rfl (by repeat first | exact .head _ | refine .tail _ ?_) (by rfl) (by rfl) ?_)
      refine ql_callv (val := .int .i64 0) tabOk rfl rfl rfl rfl (fun w hs => ?_) ?_; exact by have := rcheckS_ca w lo hi a cp s r (RdE.keep h hs.chg0) hlen; rw [h0] at this; exact this
      (refine ql_pure tabOk rfl rfl ?_; refine q_nil ?_; refine q_seq ?_; refine q_region ?_; refine ql_pure tabOk rfl rfl ?_; refine ql_neqF tabOk rfl rfl rfl (by omega) ?_; refine q_nil ?_; refine q_cond_false rfl ?_; refine q_skip ?_; (iterate 2 refine q_seq ?_); refine q_region ?_; refine ql_pure tabOk rfl rfl ?_)
      refine ql_callv (val := .bool (!(wiB depth 1 200))) tabOk rfl rfl rfl rfl (fun w hs => ?_) ?_; exact out_ca depth 1 200 w
      cases h2 : wiB depth 1 200 with
      | false =>
        (refine ql_pure tabOk rfl rfl ?_; (iterate 2 refine ql_gno rfl rfl rfl ?_); refine ql_pure tabOk rfl rfl ?_; refine q_nil ?_; refine q_cond_true rfl ?_; refine q_seq ?_; refine q_region ?_; (iterate 2 refine ql_pure tabOk rfl rfl ?_); refine q_nil ?_; refine q_ret ?_)
        refine q_fin tabOk rfl (by repeat (first | exact RVs.nil | apply RVs.tmp rfl | apply RVs.cellA rfl rfl (by repeat first | exact .head _ | refine .tail _ ?_) (by rfl) | apply RVs.cell1 rfl rfl (by repeat first | exact .head _ | refine .tail _ ?_))) fun w hs => ?_
        exact ⟨rfl, hs.chg0⟩
      | true =>
        rw [h2, Bool.true_and] at h1
        (refine ql_pure tabOk rfl rfl ?_; refine ql_gyes rfl ?_; refine ql_pure tabOk rfl rfl ?_; refine ql_gyes rfl ?_)
        refine ql_callv (val := .bool (!(wiB volume 0 10000000))) tabOk rfl rfl rfl rfl (fun w hs => ?_) ?_; exact out_ca volume 0 10000000 w
        rw [Bool.eq_false_iff.2 h1]
        (refine ql_pure tabOk rfl rfl ?_; refine q_nil ?_; refine q_cond_true rfl ?_; refine q_seq ?_; refine q_region ?_; (iterate 2 refine ql_pure tabOk rfl rfl ?_); refine q_nil ?_; refine q_ret ?_)
        refine q_fin tabOk rfl (by repeat (first | exact RVs.nil | apply RVs.tmp rfl | apply RVs.cellA rfl rfl (by repeat first | exact .head _ | refine .tail _ ?_) (by rfl) | apply RVs.cell1 rfl rfl (by repeat first | exact .head _ | refine .tail _ ?_))) fun w hs => ?_
        exact ⟨rfl, hs.chg0⟩
  · have ev : (coveredV s r depth volume).2 = checkS s r := by unfold coveredV; rw [if_pos h0]
    rw [ev]
    refine q_of (Sat.nil w M0) Try.func73 rfl (by simp [Try.ntmps73]) ?_
    (refine q_seq ?_; refine q_region ?_)
    refine ql_box rfl rfl (fun b5 => ?_)
    ((iterate 2 refine ql_pure tabOk rfl rfl ?_); refine q_nil ?_; (iterate 2 refine q_seq ?_); refine q_region ?_; refine ql_pure tabOk rfl rfl ?_; refine ql_loadAB tabOk rfl rfl rfl (by repeat first | exact .head _ | refine .tail _ ?_) (by rfl) (by rfl) ?_)
    refine ql_callv (val := .int .i64 (checkS s r)) tabOk rfl rfl rfl rfl (fun w hs => ?_) ?_; exact rcheckS_ca w lo hi a cp s r (RdE.keep h hs.chg0) hlen
    generalize checkS s r = z at *
    (refine ql_pure tabOk rfl rfl ?_; refine q_nil ?_; refine q_seq ?_; refine q_region ?_; refine ql_pure tabOk rfl rfl ?_; refine ql_neqT tabOk rfl rfl rfl (by omega) ?_; refine q_nil ?_; refine q_cond_true rfl ?_; refine q_seq ?_; refine q_region ?_; (iterate 3 refine ql_pure tabOk rfl rfl ?_); refine q_nil ?_; refine q_ret ?_)
    refine q_fin tabOk rfl (by repeat (first | exact RVs.nil | apply RVs.tmp rfl | apply RVs.cellA rfl rfl (by repeat first | exact .head _ | refine .tail _ ?_) (by rfl) | apply RVs.cell1 rfl rfl (by repeat first | exact .head _ | refine .tail _ ?_))) fun w hs => ?_
    exact ⟨rfl, hs.chg0⟩
def ltS (s : List Lp) (depth : Int) (a b : List Int) : Bool := decide (snowV s a depth < snowV s b depth) && true
theorem cheapO_eq (s : List Lp) (r : Rl) (depth : Int) : cheapO s r depth (coursesL s.length (nL r)) = (allC s r).foldl (bestS (ltS s depth)) none := cheap_filter s r depth _ none
set_option maxHeartbeats 8000000 in
theorem rcheap_main (w : World) (lo hi : Nat) (a : Option Addr) (cp : Nat) (s : List Lp) (r : Rl) (depth : Int) (h : RdL w lo hi (.slice a s.length cp) s) (hcr : CR s r) (hdp : 1 ≤ depth ∧ depth ≤ 200) :
    Ca Try.prog 74 [.slice a s.length cp, .agg (rlC r).toArray, .int .i64 depth] w fun x w' => ∃ y : Value × List Int, ((x = .tuple #[y.1, .int .i64 (snowV s y.2 depth), .int .i64 0] ∧ cheapO s r depth (coursesL s.length (nL r)) = some y.2) ∨ (x = .tuple #[.slice none 0 0, .int .i64 0, .int .i64 6] ∧ cheapO s r depth (coursesL s.length (nL r)) = none ∧ y = (.slice none 0 0, []))) ∧ Sat w M0 [.ow y.1 3 1 y.2.length (ints y.2)] w' := by
  have hn2 := hcr.s.n2
  have hO := cheapO_eq s r depth
  refine q_of (Sat.nil w M0) Try.func74 rfl (by simp [Try.ntmps74]) ?_
  (refine q_seq ?_; refine q_region ?_)
  refine ql_box rfl rfl (fun b4 => ?_)
  ((iterate 3 refine ql_pure tabOk rfl rfl ?_); refine q_nil ?_; (iterate 2 refine q_seq ?_); refine q_region ?_; refine ql_pure tabOk rfl rfl ?_; refine ql_loadAB tabOk rfl rfl rfl (by repeat first | exact .head _ | refine .tail _ ?_) (by rfl) (by rfl) ?_)
  refine ql_callv (val := .int .i64 0) tabOk rfl rfl rfl rfl (fun w hs => ?_) ?_; exact by have := rcheckS_ca w lo hi a cp s r (RdE.keep h hs.chg0) (by omega); rw [checkS_iff.2 hcr] at this; exact this
  (refine ql_pure tabOk rfl rfl ?_; refine q_nil ?_; refine q_seq ?_; refine q_region ?_; refine ql_pure tabOk rfl rfl ?_; refine ql_neqF tabOk rfl rfl rfl (by omega) ?_; refine q_nil ?_; refine q_cond_false rfl ?_; refine q_skip ?_; (iterate 2 refine q_seq ?_); refine q_region ?_; refine ql_pure tabOk rfl rfl ?_)
  refine ql_callv (val := .bool false) tabOk rfl rfl rfl rfl (fun w hs => ?_) ?_; exact by have := out_ca depth 1 200 w; rw [wiB_iff.2 hdp] at this; exact this
  (refine q_nil ?_; refine q_cond_false rfl ?_; refine q_skip ?_; refine q_seq ?_; refine q_region ?_; refine ql_pure tabOk rfl rfl ?_; refine ql_loadAB tabOk rfl rfl rfl (by repeat first | exact .head _ | refine .tail _ ?_) (by rfl) (by rfl) ?_)
  refine ql_call (β := Value × List (Value × List Int)) tabOk [] _ M0 rfl rfl rfl rfl (Sp.refl _) (fun _ h => h.elim) (fun w' hs => rright_ca w' lo hi a cp s r (RdE.keep h hs.chg0) hcr) ?_
  rintro ⟨_, xs⟩ v0 ⟨rfl, hI⟩
  dsimp only [lsK, List.cons_append, List.nil_append] at hI ⊢
  have hxl : xs.length ≤ 2985984 := by have := congrArg List.length hI; rw [List.length_map] at this; have := allC_le hcr; omega
  have hmm : ∀ u c, (u, c) ∈ xs → c ∈ allC s r ∧ c.length ≤ 6 ∧ snowE s c depth = (snowV s c depth, 0) := fun u c hm => by
    have : c ∈ allC s r := by rw [← hI]; exact List.mem_map.2 ⟨_, hm, rfl⟩
    exact ⟨this, allC_len hcr this, snowE_in hcr hdp this⟩
  rw [← hI] at hO
  have hstep : ∀ i, (hi : i < xs.length) → ((xs.map (·.2)).take (i + 1)).foldl (bestS (ltS s depth)) none = bestS (ltS s depth) (((xs.map (·.2)).take i).foldl (bestS (ltS s depth)) none) xs[i].2 := fun i hi => by
    rw [List.take_succ_eq_append_getElem (by simpa using hi), List.foldl_append, List.getElem_map]
    rfl
  clear hI
  refine ql_fact (fun w hs => hs.slice2 (v := v0) (by repeat first | exact .head _ | refine .tail _ ?_)) ?_
  rintro ⟨va, vc, rfl⟩
  by_cases h0 : xs.length = 0
  · obtain rfl := List.eq_nil_of_length_eq_zero h0
    (refine ql_pure tabOk rfl rfl ?_; refine q_nil ?_; (iterate 2 refine q_seq ?_); refine q_region ?_; (iterate 2 refine ql_pure tabOk rfl rfl ?_); refine ql_eqlT tabOk rfl rfl rfl (by omega) ?_; refine q_nil ?_; refine q_cond_true rfl ?_; refine q_seq ?_; refine q_region ?_; (iterate 3 refine ql_pure tabOk rfl rfl ?_); refine q_nil ?_; refine q_ret ?_)
    refine q_fin tabOk rfl (by repeat (first | exact RVs.nil | apply RVs.tmp rfl | apply RVs.cellA rfl rfl (by repeat first | exact .head _ | refine .tail _ ?_) (by rfl) | apply RVs.cell1 rfl rfl (by repeat first | exact .head _ | refine .tail _ ?_))) fun w hs => ?_
    exact ⟨(.slice none 0 0, []), .inr ⟨rfl, hO, rfl⟩, (Sat.ownil (t := 3) (sz := 1) hs).sp (by repeat (first | exact Sp.nil | exact Sp.refl _ | refine Sp.cons (by repeat constructor) ?_))⟩
  refine ql_fact (fun w hs => hs.ownSome (v := .slice va xs.length vc) (by repeat first | exact .head _ | refine .tail _ ?_) (by omega)) ?_
  rintro ⟨g0, d0, e⟩
  cases e
  have h00 := hstep 0 (by omega)
  (refine ql_pure tabOk rfl rfl ?_; refine q_nil ?_; (iterate 2 refine q_seq ?_); refine q_region ?_; (iterate 2 refine ql_pure tabOk rfl rfl ?_); refine ql_eqlF tabOk rfl rfl rfl (by omega) ?_; refine q_nil ?_; refine q_cond_false rfl ?_; refine q_skip ?_; refine q_seq ?_; refine q_region ?_; refine ql_pure tabOk rfl rfl ?_; refine q_nil ?_; (iterate 2 refine q_seq ?_); refine q_region ?_; refine ql_pure tabOk rfl rfl ?_; refine q_nil ?_; refine q_block ?_)
  refine q_loop (σ := Nat × Nat) (fun q => q.1 + 1 ≤ xs.length ∧ ∃ hj : q.2 < xs.length, ((xs.map (·.2)).take (q.1 + 1)).foldl (bestS (ltS s depth)) none = some xs[q.2].2) (fun q => xs.length - q.1) (fun q => [(0, .slice a s.length cp), (2, .int .i64 depth), (10, .slice (some ⟨g0, 0, none⟩) xs.length vc), (11, .int .i64 q.2), (12, .int .i64 ((q.1 : Int) + 1))])
    (fun q => [.ow (.slice (some ⟨g0, 0, none⟩) xs.length vc) 27 1 xs.length (xs.map (·.1)), un (rowsO 3 xs)]) (0, 0) ⟨by simp only; omega, by simp only; omega, h00⟩ ⟨rfl, rfl, rfl, rfl, rfl, trivial⟩ (by repeat (first | exact Sp.nil | exact Sp.refl _ | refine Sp.cons (by repeat constructor) ?_)) ?_
  rintro ⟨i, j⟩ ⟨hik, hj, hY⟩ K hK
  simp only at hik hj hY
  dsimp only
  have hmemj : xs[j] ∈ xs := List.getElem_mem hj
  generalize hxj : xs[j] = p at *
  obtain ⟨uj, cj⟩ := p
  obtain ⟨mj1, mj2, mj3⟩ := hmm _ _ hmemj
  refine q_fact (fun w hs => ls_slice hs (xs := xs) (t := 3) (by repeat first | exact .head _ | refine .tail _ ?_) hmemj) ?_
  rintro ⟨pa, pc, rfl⟩
  ((iterate 2 refine q_seq ?_); refine q_region ?_; (iterate 4 refine ql_pure tabOk rfl rfl ?_); refine q_nil ?_)
  refine q_if rfl (fun hc => ?_) (fun hc => ?_)
  · have hi2 : i + 1 < xs.length := by omega
    clear hc
    have hst := hstep (i + 1) hi2
    have hmem : xs[i + 1] ∈ xs := List.getElem_mem hi2
    generalize hxi : xs[i + 1] = p at *
    obtain ⟨u, c⟩ := p
    rw [hY] at hst
    obtain ⟨mc1, mc2, mc3⟩ := hmm _ _ hmem
    refine q_fact (fun w hs => ls_slice hs (xs := xs) (t := 3) (by repeat first | exact .head _ | refine .tail _ ?_) hmem) ?_
    rintro ⟨wa, wc, rfl⟩
    (refine q_skip ?_; refine q_seq ?_; refine q_block ?_; refine q_seq ?_; refine q_region ?_; (iterate 3 refine ql_pure tabOk rfl rfl ?_))
    refine ql_index tabOk rfl rfl rfl rfl rfl (by omega) (by omega) ?_
    refine ql_load1 (v := .slice wa c.length wc) tabOk rfl rfl rfl (fun w hs => ls_cell hs (i := i + 1) (by repeat first | exact .head _ | refine .tail _ ?_) hi2 hxi) ?_
    (refine ql_pure tabOk rfl rfl ?_)
    refine ql_callv (val := .tuple #[.int .i64 (snowV s c depth), .int .i64 0]) tabOk rfl rfl rfl rfl (fun w hs => ?_) ?_; exact by have := rsnow_ca w lo hi 0 w.heap.size a cp (.slice wa c.length wc) s c depth (RdE.keep h hs.chg0) (by omega) (ls_rd hs (xs := xs) (t := 3) (by repeat first | exact .head _ | refine .tail _ ?_) hmem) (by omega); rw [mc3] at this; exact this
    (refine ql_pure tabOk rfl rfl ?_; (iterate 2 refine ql_ext tabOk rfl rfl rfl ?_); (iterate 2 refine ql_pure tabOk rfl rfl ?_); refine q_nil ?_; refine q_seq ?_; refine q_region ?_; (iterate 3 refine ql_pure tabOk rfl rfl ?_))
    refine ql_index tabOk rfl rfl rfl rfl rfl (by omega) (by omega) ?_
    refine ql_load1 (v := .slice pa cj.length pc) tabOk rfl rfl rfl (fun w hs => ls_cell hs (i := j) (by repeat first | exact .head _ | refine .tail _ ?_) hj hxj) ?_
    (refine ql_pure tabOk rfl rfl ?_)
    refine ql_callv (val := .tuple #[.int .i64 (snowV s cj depth), .int .i64 0]) tabOk rfl rfl rfl rfl (fun w hs => ?_) ?_; exact by have := rsnow_ca w lo hi 0 w.heap.size a cp (.slice pa cj.length pc) s cj depth (RdE.keep h hs.chg0) (by omega) (ls_rd hs (xs := xs) (t := 3) (by repeat first | exact .head _ | refine .tail _ ?_) hmemj) (by omega); rw [mj3] at this; exact this
    have hst2 : ((xs.map (·.2)).take (i + 1 + 1)).foldl (bestS (ltS s depth)) none = if decide (snowV s c depth < snowV s cj depth) && true then some c else some cj := hst
    generalize snowV s c depth = z1 at *
    generalize snowV s cj depth = z2 at *
    by_cases hz : z1 < z2
    · rw [decide_eq_true hz, if_pos (by simp)] at hst2
      (refine ql_pure tabOk rfl rfl ?_; (iterate 2 refine ql_ext tabOk rfl rfl rfl ?_); (iterate 2 refine ql_pure tabOk rfl rfl ?_); refine q_nil ?_; refine q_seq ?_; refine q_region ?_; (iterate 2 refine ql_pure tabOk rfl rfl ?_); refine ql_lssT tabOk rfl rfl rfl (by omega) ?_; refine q_nil ?_; refine q_cond_true rfl ?_; refine q_region ?_; (iterate 2 refine ql_pure tabOk rfl rfl ?_); refine q_nil ?_; refine q_blk ?_; refine q_region ?_; refine ql_pure tabOk rfl rfl ?_; refine ql_ar tabOk rfl rfl rfl rfl (by omega) (by omega) ?_; refine ql_pure tabOk rfl rfl ?_; refine q_nil ?_)
      exact hK (i + 1, i + 1) _ _ ⟨by simp only; omega, hi2, by rw [hst2, hxi]⟩ (by simp only; omega) ⟨rfl, rfl, rfl, rfl, rfl, trivial⟩ (by repeat (first | exact Sp.nil | exact Sp.refl _ | refine Sp.cons (by repeat constructor) ?_))
    · rw [decide_eq_false hz, if_neg (by simp)] at hst2
      (refine ql_pure tabOk rfl rfl ?_; (iterate 2 refine ql_ext tabOk rfl rfl rfl ?_); (iterate 2 refine ql_pure tabOk rfl rfl ?_); refine q_nil ?_; refine q_seq ?_; refine q_region ?_; (iterate 2 refine ql_pure tabOk rfl rfl ?_); refine ql_lssF tabOk rfl rfl rfl (by omega) ?_; refine q_nil ?_; refine q_cond_false rfl ?_; refine q_skip ?_; refine q_blk ?_; refine q_region ?_; refine ql_pure tabOk rfl rfl ?_; refine ql_ar tabOk rfl rfl rfl rfl (by omega) (by omega) ?_; refine ql_pure tabOk rfl rfl ?_; refine q_nil ?_)
      exact hK (i + 1, j) _ _ ⟨by simp only; omega, hj, by rw [hst2, hxj]⟩ (by simp only; omega) ⟨rfl, rfl, rfl, rfl, rfl, trivial⟩ (by repeat (first | exact Sp.nil | exact Sp.refl _ | refine Sp.cons (by repeat constructor) ?_))
  · have hie : i + 1 = xs.length := by omega
    rw [hie, List.take_of_length_le (by simp)] at hY
    have hO2 := hO.trans hY
    (refine q_exit _ rfl ?_; refine q_seq ?_; refine q_region ?_; (iterate 3 refine ql_pure tabOk rfl rfl ?_))
    refine ql_index tabOk rfl rfl rfl rfl rfl (by omega) (by omega) ?_
    refine ql_load1 (v := .slice pa cj.length pc) tabOk rfl rfl rfl (fun w hs => ls_cell hs (i := j) (by repeat first | exact .head _ | refine .tail _ ?_) hj hxj) ?_
    (refine ql_pure tabOk rfl rfl ?_)
    refine ql_callv (val := .tuple #[.int .i64 (snowV s cj depth), .int .i64 0]) tabOk rfl rfl rfl rfl (fun w hs => ?_) ?_; exact by have := rsnow_ca w lo hi 0 w.heap.size a cp (.slice pa cj.length pc) s cj depth (RdE.keep h hs.chg0) (by omega) (ls_rd hs (xs := xs) (t := 3) (by repeat first | exact .head _ | refine .tail _ ?_) hmemj) (by omega); rw [mj3] at this; exact this
    (refine ql_pure tabOk rfl rfl ?_; (iterate 2 refine ql_ext tabOk rfl rfl rfl ?_); (iterate 2 refine ql_pure tabOk rfl rfl ?_); refine q_nil ?_; refine q_seq ?_; refine q_region ?_; (iterate 2 refine ql_pure tabOk rfl rfl ?_))
    refine ql_index tabOk rfl rfl rfl rfl rfl (by omega) (by omega) ?_
    refine ql_load1 (v := .slice pa cj.length pc) tabOk rfl rfl rfl (fun w hs => ls_cell hs (i := j) (by repeat first | exact .head _ | refine .tail _ ?_) hj hxj) ?_
    ((iterate 4 refine ql_pure tabOk rfl rfl ?_); refine q_nil ?_; refine q_ret ?_)
    refine q_fin tabOk rfl (by repeat (first | exact RVs.nil | apply RVs.tmp rfl | apply RVs.cellA rfl rfl (by repeat first | exact .head _ | refine .tail _ ?_) (by rfl) | apply RVs.cell1 rfl rfl (by repeat first | exact .head _ | refine .tail _ ?_))) fun w hs => ?_
    refine ⟨(_, cj), .inl ⟨rfl, hO2⟩, ?_⟩
    have h1 : Sat _ _ (un (rowsO 3 xs) :: []) w := hs.sp (by repeat (first | exact Sp.nil | exact Sp.refl _ | refine Sp.cons (by repeat constructor) ?_))
    have h2 := un_sub (L' := [.ow (.slice pa cj.length pc) 3 1 cj.length (ints cj)]) h1 (List.singleton_sublist.2 (List.mem_map.2 ⟨_, hmemj, rfl⟩))
    exact (Sat.un_iff.1 h2).sp (by repeat (first | exact Sp.nil | exact Sp.refl _ | refine Sp.cons (by repeat constructor) ?_))
theorem rcheap_ok (w : World) (lo hi : Nat) (a : Option Addr) (cp : Nat) (s : List Lp) (r : Rl) (depth : Int) (c : List Int) (h : RdL w lo hi (.slice a s.length cp) s) (hcr : CR s r) (hdp : 1 ≤ depth ∧ depth ≤ 200) (ho : cheapO s r depth (coursesL s.length (nL r)) = some c) :
    Ca Try.prog 74 [.slice a s.length cp, .agg (rlC r).toArray, .int .i64 depth] w fun x w' => ∃ v : Value, x = .tuple #[v, .int .i64 (snowV s c depth), .int .i64 0] ∧ Sat w M0 [.ow v 3 1 c.length (ints c)] w' :=
  (rcheap_main w lo hi a cp s r depth h hcr hdp).mono fun x w' ⟨y, h1, h2⟩ => by
    rcases h1 with ⟨h1, h3⟩ | ⟨_, h3, _⟩
    · rw [ho] at h3
      cases h3
      exact ⟨y.1, h1, h2⟩
    · rw [ho] at h3
      cases h3
set_option maxHeartbeats 2000000 in
theorem rcheap_no (w : World) (lo hi : Nat) (a : Option Addr) (cp : Nat) (s : List Lp) (r : Rl) (depth : Int) (h : RdL w lo hi (.slice a s.length cp) s) (hlen : s.length ≤ 1000000) (e : (cheapV s r depth).2.2 ≠ 0) :
    Ca Try.prog 74 [.slice a s.length cp, .agg (rlC r).toArray, .int .i64 depth] w fun x w' => x = .tuple #[.slice none 0 0, .int .i64 0, .int .i64 (cheapV s r depth).2.2] ∧ Chg [] w w' := by
  by_cases h0 : checkS s r = 0
  · by_cases h1 : wiB depth 1 200 = true
    · cases ho : cheapO s r depth (coursesL s.length (nL r)) with
      | none =>
        have ev : (cheapV s r depth).2.2 = 6 := by unfold cheapV; rw [if_neg (by omega), if_neg (by simp [h1]), ho]
        rw [ev]
        exact (rcheap_main w lo hi a cp s r depth h (checkS_iff.1 h0) (wiB_iff.1 h1)).mono fun v w' ⟨y, h1, h4⟩ => by
          rcases h1 with ⟨_, h1⟩ | ⟨h1, _⟩
          · rw [ho] at h1; cases h1
          · exact ⟨h1, h4.chg0⟩
      | some c => exact absurd (by unfold cheapV; rw [if_neg (by omega), if_neg (by simp [h1]), ho]) e
    · have ev : (cheapV s r depth).2.2 = 3 := by unfold cheapV; rw [if_neg (by omega), if_pos (Bool.eq_false_iff.2 h1)]
      rw [ev]
      refine q_of (Sat.nil w M0) Try.func74 rfl (by simp [Try.ntmps74]) ?_
      (refine q_seq ?_; refine q_region ?_)
      refine ql_box rfl rfl (fun b4 => ?_)
      ((iterate 3 refine ql_pure tabOk rfl rfl ?_); refine q_nil ?_; (iterate 2 refine q_seq ?_); refine q_region ?_; refine ql_pure tabOk rfl rfl ?_; refine ql_loadAB tabOk rfl rfl rfl (by repeat first | exact .head _ | refine .tail _ ?_) (by rfl) (by rfl) ?_)
      refine ql_callv (val := .int .i64 0) tabOk rfl rfl rfl rfl (fun w hs => ?_) ?_; exact by have := rcheckS_ca w lo hi a cp s r (RdE.keep h hs.chg0) hlen; rw [h0] at this; exact this
      (refine ql_pure tabOk rfl rfl ?_; refine q_nil ?_; refine q_seq ?_; refine q_region ?_; refine ql_pure tabOk rfl rfl ?_; refine ql_neqF tabOk rfl rfl rfl (by omega) ?_; refine q_nil ?_; refine q_cond_false rfl ?_; refine q_skip ?_; (iterate 2 refine q_seq ?_); refine q_region ?_; refine ql_pure tabOk rfl rfl ?_)
      refine ql_callv (val := .bool (!(wiB depth 1 200))) tabOk rfl rfl rfl rfl (fun w hs => ?_) ?_; exact out_ca depth 1 200 w
      rw [Bool.eq_false_iff.2 h1]
      (refine q_nil ?_; refine q_cond_true rfl ?_; refine q_seq ?_; refine q_region ?_; (iterate 3 refine ql_pure tabOk rfl rfl ?_); refine q_nil ?_; refine q_ret ?_)
      refine q_fin tabOk rfl (by repeat (first | exact RVs.nil | apply RVs.tmp rfl | apply RVs.cellA rfl rfl (by repeat first | exact .head _ | refine .tail _ ?_) (by rfl) | apply RVs.cell1 rfl rfl (by repeat first | exact .head _ | refine .tail _ ?_))) fun w hs => ?_
      exact ⟨rfl, hs.chg0⟩
  · have ev : (cheapV s r depth).2.2 = checkS s r := by unfold cheapV; rw [if_pos h0]
    rw [ev]
    refine q_of (Sat.nil w M0) Try.func74 rfl (by simp [Try.ntmps74]) ?_
    (refine q_seq ?_; refine q_region ?_)
    refine ql_box rfl rfl (fun b4 => ?_)
    ((iterate 3 refine ql_pure tabOk rfl rfl ?_); refine q_nil ?_; (iterate 2 refine q_seq ?_); refine q_region ?_; refine ql_pure tabOk rfl rfl ?_; refine ql_loadAB tabOk rfl rfl rfl (by repeat first | exact .head _ | refine .tail _ ?_) (by rfl) (by rfl) ?_)
    refine ql_callv (val := .int .i64 (checkS s r)) tabOk rfl rfl rfl rfl (fun w hs => ?_) ?_; exact rcheckS_ca w lo hi a cp s r (RdE.keep h hs.chg0) hlen
    generalize checkS s r = z at *
    (refine ql_pure tabOk rfl rfl ?_; refine q_nil ?_; refine q_seq ?_; refine q_region ?_; refine ql_pure tabOk rfl rfl ?_; refine ql_neqT tabOk rfl rfl rfl (by omega) ?_; refine q_nil ?_; refine q_cond_true rfl ?_; refine q_seq ?_; refine q_region ?_; (iterate 4 refine ql_pure tabOk rfl rfl ?_); refine q_nil ?_; refine q_ret ?_)
    refine q_fin tabOk rfl (by repeat (first | exact RVs.nil | apply RVs.tmp rfl | apply RVs.cellA rfl rfl (by repeat first | exact .head _ | refine .tail _ ?_) (by rfl) | apply RVs.cell1 rfl rfl (by repeat first | exact .head _ | refine .tail _ ?_))) fun w hs => ?_
    exact ⟨rfl, hs.chg0⟩
end Go.Proofs.Ytgeajgmefokifaa

/- Walks of the reference: the error of a weather. -/
namespace Go.Proofs.Ytgeajgmefokifaa
open Go Go.Eng

end Go.Proofs.Ytgeajgmefokifaa

/- Plain laws of what happens, step by step. -/
namespace Go.Proofs.Ytgeajgmefokifaa
open Go Go.Eng

end Go.Proofs.Ytgeajgmefokifaa

/- Walk of the reference: what happens in a weather. -/
namespace Go.Proofs.Ytgeajgmefokifaa
open Go Go.Eng

end Go.Proofs.Ytgeajgmefokifaa

/- Walk of the reference: the ends of a winter's spans. -/
namespace Go.Proofs.Ytgeajgmefokifaa
open Go Go.Eng

end Go.Proofs.Ytgeajgmefokifaa

/- Walks: winters and weathers compared that are equal. -/
namespace Go.Proofs.Ytgeajgmefokifaa
open Go Go.Eng

end Go.Proofs.Ytgeajgmefokifaa

/- Winters that are copied, and whose days are changed. -/
namespace Go.Proofs.Ytgeajgmefokifaa
open Go Go.Eng

/-! The cells of days -/
def fldD (d : Dy) : Nat → Int
  | 0 => d.n0
  | 1 => d.n1
  | 2 => d.m0
  | 3 => d.m1
  | 4 => d.l0
  | _ => d.l1
def setD (d : Dy) (f : Nat) (v : Int) : Dy :=
  match f with
  | 0 => { d with n0 := v }
  | 1 => { d with n1 := v }
  | 2 => { d with m0 := v }
  | 3 => { d with m1 := v }
  | 4 => { d with l0 := v }
  | _ => { d with l1 := v }
/-- Days in a block, with room behind them. -/
abbrev dyB (g : Nat) (l : List Dy) (sp : List Value) : Ck := .pt g (dyC l ++ sp) 73
section
variable {P : Program} {T : Tab} {ro : Cx} {n : Nat} {F : Fin} {w0 : World} {M : Nat → Prop} {k : List It} {ops : Array Oper} {rest : List Oper} {e : Env} {H Hq : List Ck}
end
/-! Copies -/
end Go.Proofs.Ytgeajgmefokifaa

/- Walks: a weather copied. -/
namespace Go.Proofs.Ytgeajgmefokifaa
open Go Go.Eng

theorem cloneI_ca (w : World) (lo hi : Nat) (v : Value) (l : List Int) (h : RdI w lo hi v l) (hlen : l.length ≤ 1000000) : Ca Try.prog 20 [v] w fun r w' => ∃ u : Value, r = u ∧ Sat w M0 [.ow u 3 1 l.length (ints l)] w' := by
  obtain ⟨a, ca, rfl, _⟩ := RdI.outI h
  have hrow : ∀ w', Chg [] w w' → Rd w' lo hi (.slice a l.length ca) 1 l.length (ints l) := fun w' hc => by
    have := (RdE.keep h hc).rd
    rw [cellsOf_ints] at this
    simpa using this
  refine q_of (Sat.nil w M0) Try.func20 rfl (by simp [Try.ntmps20]) ?_
  (refine q_seq ?_; refine q_region ?_; refine ql_pure tabOk rfl rfl ?_; refine q_nil ?_; refine q_seq ?_; refine q_region ?_; refine ql_pure tabOk rfl rfl ?_)
  refine ql_conv (H' := [.ow (.slice none 0 0) 3 1 0 []]) (fun w' hs => Sat.ownil hs 3 1) ?_
  refine ql_append (q := l.length) slI rfl rfl rfl (fun v' => by repeat constructor) (fun w' hs => ⟨lo, hi, hrow w' hs.chg0⟩) (by simp [oneV]) (by omega) (by omega) (fun u => ?_)
  (refine ql_pure tabOk rfl rfl ?_; refine q_nil ?_; refine q_ret ?_)
  refine q_fin tabOk rfl (by repeat (first | exact RVs.nil | apply RVs.tmp rfl | apply RVs.cellA rfl rfl (by repeat first | exact .head _ | refine .tail _ ?_) (by rfl) | apply RVs.cell1 rfl rfl (by repeat first | exact .head _ | refine .tail _ ?_))) fun w hs => ?_
  exact ⟨u, rfl, by simpa using hs⟩
end Go.Proofs.Ytgeajgmefokifaa

/- Walk: a winter of the reference. -/
namespace Go.Proofs.Ytgeajgmefokifaa
open Go Go.Eng

end Go.Proofs.Ytgeajgmefokifaa

/- Walks: whether there are too many days, or numbers. -/
namespace Go.Proofs.Ytgeajgmefokifaa
open Go Go.Eng

def longB (n : Nat) (ll : List (List Int)) : Bool := (ll.any fun l => decide (70 < l.length) && true) || (decide (65 < n) && true)
end Go.Proofs.Ytgeajgmefokifaa

/- Walk of the reference: piles. -/
namespace Go.Proofs.Ytgeajgmefokifaa
open Go Go.Eng

/-- Much is taken from piles, one after the other. -/
structure TkI (much : Int) (l : List Int) (k : Nat) (m : Int) (o : List Int) : Prop where
  kl : k ≤ l.length
  len : o.length = l.length
  mb : 0 ≤ m ∧ m ≤ much
  nn : ∀ x ∈ o, 0 ≤ x ∧ x ≤ 2000000
  eq : rremP much l = o.take k ++ rremP m (o.drop k)
theorem TkI.zero {much : Int} {l : List Int} (h : 0 ≤ much) (hl : ∀ x ∈ l, 0 ≤ x ∧ x ≤ 2000000) : TkI much l 0 much l := ⟨Nat.zero_le _, rfl, ⟨h, Int.le_refl _⟩, hl, by simp⟩
theorem TkI.step {much : Int} {l : List Int} {k : Nat} {m : Int} {o : List Int} (h : TkI much l k m o) (hk : k < o.length) (hm : 0 < m) {n : Int} (hn : n = min o[k] m) : TkI much l (k + 1) (m - n) (o.set k (o[k] - n)) := by
  subst hn
  have h0 := h.nn _ (List.getElem_mem hk)
  refine ⟨by have := h.len; omega, by simp [h.len], by have := h.mb; omega, fun x hx => ?_, ?_⟩
  · rcases List.mem_or_eq_of_mem_set hx with hx | rfl
    · exact h.nn x hx
    · omega
  · rw [h.eq, List.drop_eq_getElem_cons hk, rremP, if_pos (by omega)]
    have e1 : (o.set k (o[k] - min o[k] m)).take (k + 1) = o.take k ++ [o[k] - min o[k] m] := by
      rw [List.take_succ_eq_append_getElem (by simpa using hk), List.take_set_of_le (Nat.le_refl _)]
      simp
    have e2 : (o.set k (o[k] - min o[k] m)).drop (k + 1) = o.drop (k + 1) := by rw [List.drop_set_of_lt (by omega)]
    rw [e1, e2]
    simp
theorem TkI.full {much : Int} {l : List Int} {k : Nat} {m : Int} {o : List Int} (h : TkI much l k m o) (hk : ¬ k < o.length) : o = rremP much l := by
  have h1 := h.len
  have h2 := h.kl
  rw [h.eq, List.drop_eq_nil_of_le (by omega), List.take_of_length_le (by omega)]
  simp [rremP]
theorem TkI.done {much : Int} {l : List Int} {k : Nat} {m : Int} {o : List Int} (h : TkI much l k m o) (hm : ¬ m > 0) : o = rremP much l := by
  obtain rfl : m = 0 := by have := h.mb; omega
  rw [h.eq, rremP_zero, List.take_append_drop]
end Go.Proofs.Ytgeajgmefokifaa

/- Walks of the reference: the first day that can fail; whether a winter is held. -/
namespace Go.Proofs.Ytgeajgmefokifaa
open Go Go.Eng

/-- Whether no day can fail. -/
def heldB (x : Wn) : Bool := decide ((firstV x).2 = 6) && true
end Go.Proofs.Ytgeajgmefokifaa

/- Walk of the reference: proofs. -/
namespace Go.Proofs.Ytgeajgmefokifaa
open Go Go.Eng

/-- What is left, day by day. -/
def lfK (x : Wn) (frm : Int) (i : Nat) : Int := if i ≤ frm.toNat then x.stock else phK x frm (i - 1 - frm.toNat) - (worstW x).need.getD (i - 1) 0
end Go.Proofs.Ytgeajgmefokifaa

/- Plain laws of winters: more stock, more room, more snow made, less need and less loss. -/
namespace Go.Proofs.Ytgeajgmefokifaa
open Go

structure RichD (d d' : Dy) : Prop where
  n : d'.n0 = d.n0 ∧ d.n0 ≤ d'.n1 ∧ d'.n1 ≤ d.n1
  m : d'.m1 = d.m1 ∧ d.m0 ≤ d'.m0 ∧ d'.m0 ≤ d.m1
  l : d'.l0 = d.l0 ∧ d.l0 ≤ d'.l1 ∧ d'.l1 ≤ d.l1
structure RichL (l l' : List Dy) : Prop where
  len : l'.length = l.length
  all : ∀ i (h : i < l.length) (h' : i < l'.length), RichD l[i] l'[i]
end Go.Proofs.Ytgeajgmefokifaa

/- Walks of the reference: the least stock and the least store. -/
namespace Go.Proofs.Ytgeajgmefokifaa
open Go Go.Eng

end Go.Proofs.Ytgeajgmefokifaa

/- Walk of the reference: the ranges of stocks. -/
namespace Go.Proofs.Ytgeajgmefokifaa
open Go Go.Eng

end Go.Proofs.Ytgeajgmefokifaa

/- The walk of CourseOpens. -/
namespace Go.Proofs.Ytgeajgmefokifaa
open Go Go.Eng

end Go.Proofs.Ytgeajgmefokifaa

/- The walk of CourseWinters. -/
namespace Go.Proofs.Ytgeajgmefokifaa
open Go Go.Eng

end Go.Proofs.Ytgeajgmefokifaa

/- Walks: loops copied and turned, rules as numbers, whether there are too many lists; contracts in one piece. -/
namespace Go.Proofs.Ytgeajgmefokifaa
open Go Go.Eng

theorem slLp : SlT Try.prog 22 31 3 24 (.agg #[.int .i64 0, .int .i64 0, .int .i64 0]) := ⟨by kernel_rfl, by kernel_rfl, by kernel_rfl, by decide⟩
theorem slLr : SlT Try.prog 36 147 3 24 (.agg #[.int .i64 0, .int .i64 0, .int .i64 0]) := ⟨by kernel_rfl, by kernel_rfl, by kernel_rfl, by decide⟩
theorem lpC_snoc (l : List Lp) (d : Lp) : lpC (l ++ [d]) = lpC l ++ lpC [d] := by simp [lpC]
theorem lpC_take (l : List Lp) {k : Nat} (h : k < l.length) : lpC (l.take (k + 1)) = lpC (l.take k) ++ lpC [l[k]] := by
  rw [List.take_succ_eq_append_getElem h]
  exact lpC_snoc _ _
theorem lpC_one (l : List Lp) : ∀ c ∈ lpC l, oneV c = true := fun c hc => by obtain ⟨y, _, hy⟩ := List.mem_flatMap.1 hc; simp at hy; rcases hy with rfl | rfl | rfl <;> rfl
theorem Blk.rdLp {w : World} {b : Nat} {d : Lp} {t : TypeId} (h : Blk w b (lpC [d]) t) : Rd w b (b + 1) (.slice (some ⟨b, 0, none⟩) 1 1) 3 1 (lpC [d]) :=
  ⟨rfl, .inr ⟨b, 0, 1, rfl, fun _ => ⟨Nat.le_refl _, Nat.lt_succ_self _, h.lt⟩, fun j _ => by rw [Nat.zero_add]; exact Blk.cell h j⟩⟩
theorem sat_rdL {w0 w : World} {M : Nat → Prop} {H : List Ck} {v : Value} {t n : Nat} {l : List Lp} (hs : Sat w0 M H w) (hm : .ow v t 3 n (lpC l) ∈ H) (hn : n = l.length) : RdL w 0 w.heap.size v l := own_rdL (hs.mem hm) hn
theorem cloneL_ca (w : World) (lo hi : Nat) (v : Value) (l : List Lp) (h : RdL w lo hi v l) (hlen : l.length ≤ 1000000) : Ca Try.prog 19 [v] w fun r w' => ∃ u : Value, r = u ∧ Sat w M0 [.ow u 31 3 l.length (lpC l)] w' := by
  obtain ⟨a, ca, rfl, _⟩ := RdL.outI h
  refine q_of (Sat.nil w M0) Try.func19 rfl (by simp [Try.ntmps19]) ?_
  (refine q_seq ?_; refine q_region ?_; refine ql_pure tabOk rfl rfl ?_; refine q_nil ?_; refine q_seq ?_; refine q_region ?_; refine ql_pure tabOk rfl rfl ?_)
  refine ql_conv (H' := [.ow (.slice none 0 0) 31 3 0 []]) (fun w' hs => Sat.ownil hs 31 3) ?_
  refine ql_append (q := l.length) slLp rfl rfl rfl (fun v' => by repeat constructor) (fun w' hs => ⟨lo, hi, RdL.row (RdE.keep h hs.chg0)⟩) (lpC_one l) (by omega) (by omega) (fun u => ?_)
  (refine ql_pure tabOk rfl rfl ?_; refine q_nil ?_; refine q_ret ?_)
  refine q_fin tabOk rfl (by repeat (first | exact RVs.nil | apply RVs.tmp rfl | apply RVs.cellA rfl rfl (by repeat first | exact .head _ | refine .tail _ ?_) (by rfl) | apply RVs.cell1 rfl rfl (by repeat first | exact .head _ | refine .tail _ ?_))) fun w hs => ?_
  exact ⟨u, rfl, by simpa using hs⟩
set_option maxHeartbeats 2000000 in
theorem rloops_ca (w : World) (lo hi : Nat) (v : Value) (s : List Lp) (h : RdL w lo hi v s) (hlen : s.length ≤ 1000000) :
    Ca Try.prog 23 [v] w fun r w' => ∃ y : Option Addr × Nat, r = .slice y.1 s.length y.2 ∧ Sat w M0 [.ow (.slice y.1 s.length y.2) 147 3 s.length (lpC s)] w' := by
  obtain ⟨a, c, rfl, hsa⟩ := RdL.outI h
  refine q_of (Sat.nil w M0) Try.func23 rfl (by simp [Try.ntmps23]) ?_
  (refine q_seq ?_; refine q_region ?_; refine ql_pure tabOk rfl rfl ?_; refine q_nil ?_; refine q_seq ?_; refine q_region ?_; refine ql_pure tabOk rfl rfl ?_; refine q_nil ?_; (iterate 2 refine q_seq ?_); refine q_region ?_; (iterate 3 refine ql_pure tabOk rfl rfl ?_); refine q_nil ?_; refine q_block ?_)
  refine q_conv (H' := [.ow (.slice none 0 0) 147 3 0 (lpC [])]) (fun w' hs => (Sat.ownil hs 147 3).sp (by repeat (first | exact Sp.nil | exact Sp.refl _ | refine Sp.cons (by repeat constructor) ?_))) ?_
  refine q_loop (σ := Nat × Value) (fun q => q.1 ≤ s.length) (fun q => s.length - q.1) (fun q => [(3, q.2), (6, .slice a s.length c), (7, .int .i64 s.length), (8, .int .i64 q.1)])
    (fun q => [.ow q.2 147 3 q.1 (lpC (s.take q.1))]) (0, .slice none 0 0) (by simp) ⟨rfl, rfl, rfl, rfl, trivial⟩ (by repeat (first | exact Sp.nil | exact Sp.refl _ | refine Sp.cons (by repeat constructor) ?_)) ?_
  rintro ⟨k, dv⟩ hk K hK
  simp only at hk
  dsimp only
  (refine q_seq ?_; refine q_region ?_; refine ql_pure tabOk rfl rfl ?_; refine q_nil ?_; refine q_seq ?_)
  refine q_if rfl (fun hc => ?_) (fun hc => ?_)
  · have hk2 : k < s.length := by first | omega | (simp at hc; omega)
    clear hc
    obtain ⟨b, off, rfl⟩ := hsa (by omega)
    have e1 := lpC_take s hk2
    (refine q_skip ?_; refine q_seq ?_; refine q_block ?_; refine q_seq ?_; refine q_region ?_)
    refine ql_index tabOk rfl rfl rfl rfl rfl (by omega) (by omega) ?_
    skip
    refine ql_loadA tabOk rfl rfl rfl rfl (fun w hs => RdL.at (RdE.keep h hs.chg0) k hk2) ?_
    skip
    refine ql_alloc zero31 rfl (fun b5 => ?_)
    (refine ql_setA tabOk rfl rfl rfl rfl rfl (by repeat constructor) rfl ?_; refine q_nil ?_; refine q_region ?_; refine ql_pure tabOk rfl rfl ?_; refine ql_loadAB tabOk rfl rfl rfl (by repeat first | exact .head _ | refine .tail _ ?_) (by rfl) (by rfl) ?_)
    generalize s[k] = d at *
    obtain ⟨n0, n1, n2⟩ := d
    dsimp only at e1 ⊢
    refine ql_mkS 147 (lpC [⟨n0, n1, n2⟩]) rfl (by kernel_rfl) rfl (fun bn => ?_)
    refine ql_append (q := 1) slLr rfl rfl rfl (fun v' => by repeat constructor) (fun w' hs => ⟨_, _, Blk.rdLp (hs.blk (b := bn) (by repeat first | exact .head _ | refine .tail _ ?_))⟩) (lpC_one _) (by omega) (by omega) (fun u => ?_)
    (refine ql_pure tabOk rfl rfl ?_; refine q_nil ?_; refine q_blk ?_; refine q_region ?_; refine ql_ar tabOk rfl rfl rfl rfl (by omega) (by omega) ?_; refine ql_pure tabOk rfl rfl ?_; refine q_nil ?_)
    exact hK (k + 1, u) _ _ (by simp only; omega) (by simp only; omega) ⟨rfl, rfl, rfl, rfl, trivial⟩ (by dsimp only; rw [e1]; repeat (first | exact Sp.nil | exact Sp.refl _ | refine Sp.cons (by repeat constructor) ?_))
  · obtain rfl : k = s.length := by omega
    clear hc hK
    rw [List.take_length]
    refine q_fact (fun w hs => hs.slice2 (v := dv) (by repeat first | exact .head _ | refine .tail _ ?_)) ?_
    rintro ⟨ua, uc, rfl⟩
    (refine q_exit _ rfl ?_; refine q_seq ?_; refine q_region ?_; (iterate 2 refine ql_pure tabOk rfl rfl ?_); refine q_nil ?_; refine q_ret ?_)
    refine q_fin tabOk rfl (by repeat (first | exact RVs.nil | apply RVs.tmp rfl | apply RVs.cellA rfl rfl (by repeat first | exact .head _ | refine .tail _ ?_) (by rfl) | apply RVs.cell1 rfl rfl (by repeat first | exact .head _ | refine .tail _ ?_))) fun w hs => ?_
    exact ⟨(ua, uc), rfl, hs.sp (by repeat (first | exact Sp.nil | exact Sp.refl _ | refine Sp.cons (by repeat constructor) ?_))⟩
set_option maxHeartbeats 2000000 in
theorem many_ca (w : World) (a : Option Addr) (n c : Nat) (r : Rl) (hn : n ≤ maxLen) :
    Ca Try.prog 29 [.slice a n c, .agg (rlC r).toArray] w fun v w' => ∃ b : Bool, (v = .bool b ∧ (b = false → n ≤ 15)) ∧ Sat w M0 [] w' := by
  simp only [maxLen] at hn
  refine q_of (Sat.nil w M0) Try.func29 rfl (by simp [Try.ntmps29]) ?_
  (refine q_seq ?_; refine q_region ?_)
  refine ql_box rfl rfl (fun b3 => ?_)
  by_cases h15 : n > 15
  · (refine ql_pure tabOk rfl rfl ?_; refine q_nil ?_; (iterate 2 refine q_seq ?_); refine q_region ?_; (iterate 2 refine ql_pure tabOk rfl rfl ?_); refine ql_gtrT tabOk rfl rfl rfl (by omega) ?_; refine q_nil ?_; refine q_cond_true rfl ?_; refine q_seq ?_; refine q_region ?_; refine ql_pure tabOk rfl rfl ?_; refine q_nil ?_; refine q_ret ?_)
    refine q_fin tabOk rfl (by repeat (first | exact RVs.nil | apply RVs.tmp rfl | apply RVs.cellA rfl rfl (by repeat first | exact .head _ | refine .tail _ ?_) (by rfl) | apply RVs.cell1 rfl rfl (by repeat first | exact .head _ | refine .tail _ ?_))) fun w hs => ?_
    exact ⟨true, ⟨rfl, by simp⟩, hs.sp (by repeat (first | exact Sp.nil | exact Sp.refl _ | refine Sp.cons (by repeat constructor) ?_))⟩
  (refine ql_pure tabOk rfl rfl ?_; refine q_nil ?_; (iterate 2 refine q_seq ?_); refine q_region ?_; (iterate 2 refine ql_pure tabOk rfl rfl ?_); refine ql_gtrF tabOk rfl rfl rfl (by omega) ?_; refine q_nil ?_; refine q_cond_false rfl ?_; refine q_skip ?_; refine q_seq ?_; refine q_region ?_; refine ql_pure tabOk rfl rfl ?_; refine q_nil ?_; (iterate 2 refine q_seq ?_); refine q_region ?_; refine ql_pure tabOk rfl rfl ?_; refine ql_loadB tabOk rfl rfl rfl (by repeat first | exact .head _ | refine .tail _ ?_) (by rfl) ?_; (iterate 3 refine ql_pure tabOk rfl rfl ?_); refine q_nil ?_; refine q_block ?_)
  obtain ⟨T, hT, hT7⟩ : ∃ T : Nat, (T : Int) = min (max 0 r.laps) 7 ∧ T ≤ 7 := ⟨(min (max 0 r.laps) 7).toNat, by omega, by omega⟩
  obtain ⟨m, hm, hm1, hm2⟩ : ∃ m : Nat, (m : Int) = max 1 (n : Int) ∧ 1 ≤ m ∧ m ≤ 15 := ⟨max 1 n, by omega, by omega, by omega⟩
  refine q_loop (σ := Nat × Nat) (fun q => q.1 ≤ T ∧ q.2 ≤ 15 ^ q.1) (fun q => T - q.1) (fun q => [(0, .slice a n c), (3, .pointer (some ⟨b3, 0, none⟩)), (5, .int .i64 q.2), (12, .int .i64 T), (13, .int .i64 q.1)]) (fun _ => [.pt b3 (rlC r) 26]) (0, 1) ⟨by simp, by simp⟩ ⟨rfl, rfl, rfl, lookI rfl hT.symm, rfl, trivial⟩ (by repeat (first | exact Sp.nil | exact Sp.refl _ | refine Sp.cons (by repeat constructor) ?_)) ?_
  rintro ⟨k, A⟩ ⟨hk, hA⟩ K hK
  simp only at hk hA
  dsimp only
  have hA7 : A ≤ 170859375 := Nat.le_trans hA (Nat.pow_le_pow_right (by omega) (by omega) : 15 ^ k ≤ 15 ^ 7)
  (refine q_seq ?_; refine q_region ?_; refine ql_pure tabOk rfl rfl ?_; refine q_nil ?_; refine q_seq ?_)
  refine q_if rfl (fun hc => ?_) (fun hc => ?_)
  · have hk2 : k < T := by first | omega | (simp at hc; omega)
    clear hc
    have hAm : A * m ≤ 15 ^ (k + 1) := by rw [Nat.pow_succ]; exact Nat.mul_le_mul hA hm2
    have hAm2 : A * m ≤ 170859375 * 15 := Nat.mul_le_mul hA7 hm2
    have hc1 : (A : Int) * (m : Int) = ((A * m : Nat) : Int) := by simp
    have hc2 : 0 ≤ (A : Int) * (m : Int) ∧ (A : Int) * (m : Int) ≤ 170859375 * 15 := by rw [hc1]; omega
    rw [hm] at hc1 hc2
    (refine q_skip ?_; refine q_seq ?_; refine q_block ?_; refine q_region ?_; (iterate 4 refine ql_pure tabOk rfl rfl ?_); refine ql_ar tabOk rfl rfl rfl rfl (by omega) (by omega) ?_; refine ql_pure tabOk rfl rfl ?_; refine q_nil ?_; refine q_blk ?_; refine q_region ?_; refine ql_ar tabOk rfl rfl rfl rfl (by omega) (by omega) ?_; refine ql_pure tabOk rfl rfl ?_; refine q_nil ?_)
    exact hK (k + 1, A * m) _ _ ⟨by simp only; omega, hAm⟩ (by simp only; omega) ⟨rfl, rfl, lookI rfl hc1, rfl, rfl, trivial⟩ (by repeat (first | exact Sp.nil | exact Sp.refl _ | refine Sp.cons (by repeat constructor) ?_))
  · by_cases h41 : (A : Int) > 4100
    · by_cases h6 : r.laps ≤ 6
      · (refine q_exit _ rfl ?_; refine q_seq ?_; refine q_region ?_; refine ql_pure tabOk rfl rfl ?_; refine ql_gtrT tabOk rfl rfl rfl (by omega) ?_; refine ql_pure tabOk rfl rfl ?_; refine ql_gyes rfl ?_; refine ql_pure tabOk rfl rfl ?_; refine ql_gyes rfl ?_; refine ql_loadB tabOk rfl rfl rfl (by repeat first | exact .head _ | refine .tail _ ?_) (by rfl) ?_; refine ql_gyes rfl ?_; refine ql_leqT tabOk rfl rfl rfl (by omega) ?_; (iterate 2 refine ql_pure tabOk rfl rfl ?_); refine q_nil ?_; refine q_ret ?_)
        refine q_fin tabOk rfl (by repeat (first | exact RVs.nil | apply RVs.tmp rfl | apply RVs.cellA rfl rfl (by repeat first | exact .head _ | refine .tail _ ?_) (by rfl) | apply RVs.cell1 rfl rfl (by repeat first | exact .head _ | refine .tail _ ?_))) fun w hs => ?_
        exact ⟨true, ⟨rfl, by simp⟩, hs.sp (by repeat (first | exact Sp.nil | exact Sp.refl _ | refine Sp.cons (by repeat constructor) ?_))⟩
      · (refine q_exit _ rfl ?_; refine q_seq ?_; refine q_region ?_; refine ql_pure tabOk rfl rfl ?_; refine ql_gtrT tabOk rfl rfl rfl (by omega) ?_; refine ql_pure tabOk rfl rfl ?_; refine ql_gyes rfl ?_; refine ql_pure tabOk rfl rfl ?_; refine ql_gyes rfl ?_; refine ql_loadB tabOk rfl rfl rfl (by repeat first | exact .head _ | refine .tail _ ?_) (by rfl) ?_; refine ql_gyes rfl ?_; refine ql_leqF tabOk rfl rfl rfl (by omega) ?_; (iterate 2 refine ql_pure tabOk rfl rfl ?_); refine q_nil ?_; refine q_ret ?_)
        refine q_fin tabOk rfl (by repeat (first | exact RVs.nil | apply RVs.tmp rfl | apply RVs.cellA rfl rfl (by repeat first | exact .head _ | refine .tail _ ?_) (by rfl) | apply RVs.cell1 rfl rfl (by repeat first | exact .head _ | refine .tail _ ?_))) fun w hs => ?_
        exact ⟨false, ⟨rfl, fun _ => by omega⟩, hs.sp (by repeat (first | exact Sp.nil | exact Sp.refl _ | refine Sp.cons (by repeat constructor) ?_))⟩
    · (refine q_exit _ rfl ?_; refine q_seq ?_; refine q_region ?_; refine ql_pure tabOk rfl rfl ?_; refine ql_gtrF tabOk rfl rfl rfl (by omega) ?_; refine ql_pure tabOk rfl rfl ?_; (iterate 3 refine ql_gno rfl rfl rfl ?_); (iterate 2 refine ql_pure tabOk rfl rfl ?_); refine q_nil ?_; refine q_ret ?_)
      refine q_fin tabOk rfl (by repeat (first | exact RVs.nil | apply RVs.tmp rfl | apply RVs.cellA rfl rfl (by repeat first | exact .head _ | refine .tail _ ?_) (by rfl) | apply RVs.cell1 rfl rfl (by repeat first | exact .head _ | refine .tail _ ?_))) fun w hs => ?_
      exact ⟨false, ⟨rfl, fun _ => by omega⟩, hs.sp (by repeat (first | exact Sp.nil | exact Sp.refl _ | refine Sp.cons (by repeat constructor) ?_))⟩

/-! Contracts in one piece -/
theorem covV_cases (s : List Lp) (r : Rl) (depth volume : Int) : ((coveredV s r depth volume).2 = 0 ∧ (coveredV s r depth volume).1 = covL s r depth volume ∧ (covL s r depth volume).length ≤ 300) ∨ ((coveredV s r depth volume).2 ≠ 0 ∧ (coveredV s r depth volume).1 = []) := by
  unfold coveredV
  split
  · rename_i h
    exact .inr ⟨h, rfl⟩
  split
  · exact .inr ⟨by simp, rfl⟩
  split
  · exact .inr ⟨by simp, rfl⟩
  · rename_i h2
    exact .inl ⟨rfl, rfl, by omega⟩
theorem cheapV_cases (s : List Lp) (r : Rl) (depth : Int) : (∃ b, (cheapV s r depth) = (b, snowV s b depth, 0) ∧ CR s r ∧ (1 ≤ depth ∧ depth ≤ 200) ∧ cheapO s r depth (coursesL s.length (nL r)) = some b) ∨ ((cheapV s r depth).2.2 ≠ 0 ∧ (cheapV s r depth).1 = [] ∧ (cheapV s r depth).2.1 = 0) := by
  unfold cheapV
  split
  · rename_i h
    exact .inr ⟨h, rfl, rfl⟩
  rename_i h0
  split
  · exact .inr ⟨by simp, rfl, rfl⟩
  rename_i h1
  split
  · exact .inr ⟨by simp, rfl, rfl⟩
  · rename_i b hb
    exact .inl ⟨b, rfl, checkS_iff.1 (by omega), wiB_iff.1 (by simpa using h1), hb⟩
theorem sat_ownil {w w' : World} (t sz : Nat) (h : Chg [] w w') : Sat w M0 [.ow (.slice none 0 0) t sz 0 []] w' := Sat.ownil ((Sat.nil w M0).keep h) t sz
theorem sat_lsnil {w w' : World} (h : Chg [] w w') : Sat w M0 (lsK (.slice none 0 0) []) w' := (Sat.un_nil (sat_ownil 27 1 h)).sp (by repeat (first | exact Sp.nil | exact Sp.refl _ | refine Sp.cons (by repeat constructor) ?_))
section
variable (w : World) (lo hi : Nat) (a : Option Addr) (cp : Nat) (s : List Lp) (r : Rl) (h : RdL w lo hi (.slice a s.length cp) s) (hlen : s.length ≤ 1000000)
include h hlen
end
/-- The fewest rules, with the first course. -/
def yldV (s : List Lp) (r : Rl) : (List Int × List Int) × Int := if checkS s r ≠ 0 then (([], []), checkS s r) else ((brkL s r ((yieldO s r (coursesL s.length (nL r))).getD []), (yieldO s r (coursesL s.length (nL r))).getD []), 0)
section
variable (w : World) (lo hi : Nat) (a : Option Addr) (cp : Nat) (s : List Lp) (r : Rl) (h : RdL w lo hi (.slice a s.length cp) s) (hlen : s.length ≤ 1000000)
include h hlen
theorem cov_u (depth volume : Int) : Ca Try.prog 72 [.slice a s.length cp, .agg (rlC r).toArray, .int .i64 depth, .int .i64 volume] w fun x w' => ∃ y : Value × List (Value × List Int), (x = .tuple #[y.1, .int .i64 (coveredV s r depth volume).2] ∧ y.2.map (·.2) = (coveredV s r depth volume).1) ∧ Sat w M0 (lsK y.1 y.2) w' := by
  rcases covV_cases s r depth volume with ⟨e, e2, _⟩ | ⟨e, e2⟩
  · rw [e2]
    have := cov_ok w lo hi a cp s r depth volume h hlen e
    rw [e]
    exact this
  · rw [e2]
    exact (cov_no w lo hi a cp s r depth volume h hlen e).mono fun x w' ⟨h1, h2⟩ => ⟨(_, []), ⟨h1, rfl⟩, sat_lsnil h2⟩
theorem rcov_u (depth volume : Int) : Ca Try.prog 73 [.slice a s.length cp, .agg (rlC r).toArray, .int .i64 depth, .int .i64 volume] w fun x w' => ∃ y : Value × List (Value × List Int), (x = .tuple #[y.1, .int .i64 (coveredV s r depth volume).2] ∧ y.2.map (·.2) = (coveredV s r depth volume).1) ∧ Sat w M0 (lsK y.1 y.2) w' := by
  rcases covV_cases s r depth volume with ⟨e, e2, _⟩ | ⟨e, e2⟩
  · rw [e2]
    have := rcov_ok w lo hi a cp s r depth volume h hlen e
    rw [e]
    exact this
  · rw [e2]
    exact (rcov_no w lo hi a cp s r depth volume h hlen e).mono fun x w' ⟨h1, h2⟩ => ⟨(_, []), ⟨h1, rfl⟩, sat_lsnil h2⟩
theorem cheap_u (depth : Int) : Ca Try.prog 48 [.slice a s.length cp, .agg (rlC r).toArray, .int .i64 depth] w fun x w' => ∃ v : Value, x = .tuple #[v, .int .i64 (cheapV s r depth).2.1, .int .i64 (cheapV s r depth).2.2] ∧ Sat w M0 [.ow v 3 1 (cheapV s r depth).1.length (ints (cheapV s r depth).1)] w' := by
  rcases cheapV_cases s r depth with ⟨b, e, hcr, hd, ho⟩ | ⟨e, e2, e3⟩
  · rw [e]
    exact cheap_ok w lo hi a cp s r depth b h hcr hd ho
  · rw [e2, e3]
    exact (cheap_no w lo hi a cp s r depth h hlen e).mono fun x w' ⟨h1, h2⟩ => ⟨_, h1, sat_ownil _ _ h2⟩
theorem rcheap_u (depth : Int) : Ca Try.prog 74 [.slice a s.length cp, .agg (rlC r).toArray, .int .i64 depth] w fun x w' => ∃ v : Value, x = .tuple #[v, .int .i64 (cheapV s r depth).2.1, .int .i64 (cheapV s r depth).2.2] ∧ Sat w M0 [.ow v 3 1 (cheapV s r depth).1.length (ints (cheapV s r depth).1)] w' := by
  rcases cheapV_cases s r depth with ⟨b, e, hcr, hd, ho⟩ | ⟨e, e2, e3⟩
  · rw [e]
    exact rcheap_ok w lo hi a cp s r depth b h hcr hd ho
  · rw [e2, e3]
    exact (rcheap_no w lo hi a cp s r depth h hlen e).mono fun x w' ⟨h1, h2⟩ => ⟨_, h1, sat_ownil _ _ h2⟩
end
end Go.Proofs.Ytgeajgmefokifaa

/- The walk of CourseRules. -/
namespace Go.Proofs.Ytgeajgmefokifaa
open Go Go.Eng

end Go.Proofs.Ytgeajgmefokifaa

/- The walk of CourseLists. -/
namespace Go.Proofs.Ytgeajgmefokifaa
open Go Go.Eng

theorem covV_len (s : List Lp) (r : Rl) (depth volume : Int) : (coveredV s r depth volume).1.length ≤ 300 := by
  rcases covV_cases s r depth volume with ⟨_, e, h⟩ | ⟨_, e⟩
  · rw [e]; exact h
  · rw [e]; simp
theorem covV_row {s : List Lp} {r : Rl} {depth volume : Int} {c : List Int} (hc : c ∈ (coveredV s r depth volume).1) : c.length ≤ 1000000 := by
  unfold coveredV at hc
  split at hc
  · simp at hc
  rename_i h0
  split at hc
  · simp at hc
  split at hc
  · simp at hc
  have hcr := checkS_iff.1 (show checkS s r = 0 by omega)
  have hm := (List.mem_filter.1 hc)
  have h2 : c ∈ allC s r := List.mem_filter.2 ⟨hm.1, by have := hm.2; simp at this; exact this.1⟩
  have := allC_len hcr h2
  omega
end Go.Proofs.Ytgeajgmefokifaa

/- The walk of CourseSnow. -/
namespace Go.Proofs.Ytgeajgmefokifaa
open Go Go.Eng

theorem cheapV_len (s : List Lp) (r : Rl) (depth : Int) : (cheapV s r depth).1.length ≤ 1000000 := by
  rcases cheapV_cases s r depth with ⟨b, e, hcr, hd, ho⟩ | ⟨_, e, _⟩
  · rw [e]
    rcases cheap_best s r depth with ⟨h1, _⟩ | ⟨R, h1, h2, _⟩
    · rw [h1] at ho; cases ho
    · rw [h1] at ho
      cases ho
      have := allC_len hcr h2
      simp only
      omega
  · rw [e]; simp
set_option maxRecDepth 20000 in
set_option maxHeartbeats 8000000 in
theorem courseSnow_ca (w : World) (lo hi lo2 hi9 : Nat) (v u : Value) (s : List Lp) (r : Rl) (c : List Int) (depth volume : Int) (h : RdL w lo hi v s) (n1 : s.length ≤ maxLen) (hv : RdI w lo2 hi9 u c) (n2 : c.length ≤ maxLen) :
    Ca Try.prog 15 [v, .agg (rlC r).toArray, u, .int .i64 depth, .int .i64 volume] w fun x w' => x = .bool true ∧ Chg [] w w' := by
  obtain ⟨a, cp, rfl, _⟩ := RdL.outI h
  obtain ⟨ua, uc, rfl, _⟩ := RdI.outI hv
  refine q_of (Sat.nil w M0) Try.func15 rfl (by simp [Try.ntmps15]) ?_
  (refine q_seq ?_; refine q_region ?_)
  refine ql_box rfl rfl (fun b6 => ?_)
  (refine ql_pure tabOk rfl rfl ?_; refine q_nil ?_; (iterate 2 refine q_seq ?_); refine q_region ?_; refine ql_pure tabOk rfl rfl ?_; refine ql_loadAB tabOk rfl rfl rfl (by repeat first | exact .head _ | refine .tail _ ?_) (by rfl) (by rfl) ?_)
  refine ql_call (β := Bool) tabOk [] _ M0 rfl rfl rfl rfl (Sp.refl _) (fun _ h => h.elim) (fun w' hs => many_ca w' a s.length cp r n1) ?_
  rintro bm _ ⟨rfl, hbm⟩
  dsimp only [List.cons_append, List.nil_append]
  simp only [maxLen] at n2
  cases bm with
  | true =>
    (refine ql_pure tabOk rfl rfl ?_; (iterate 3 refine ql_gno rfl rfl rfl ?_); refine ql_pure tabOk rfl rfl ?_; refine q_nil ?_; refine q_cond_true rfl ?_; refine q_seq ?_; refine q_region ?_)
    refine ql_callv (val := .bool true) tabOk rfl rfl rfl rfl (fun w hs => ?_) ?_; exact awake_ca w
    (refine ql_pure tabOk rfl rfl ?_; refine q_nil ?_; refine q_ret ?_)
    refine q_fin tabOk rfl (by repeat (first | exact RVs.nil | apply RVs.tmp rfl | apply RVs.cellA rfl rfl (by repeat first | exact .head _ | refine .tail _ ?_) (by rfl) | apply RVs.cell1 rfl rfl (by repeat first | exact .head _ | refine .tail _ ?_))) fun w hs => ?_
    exact ⟨rfl, hs.chg0⟩
  | false =>
  have hlen := hbm rfl
  clear hbm n1
  by_cases h10 : c.length > 10
  · skip
    (refine ql_pure tabOk rfl rfl ?_; refine ql_gyes rfl ?_; refine ql_pure tabOk rfl rfl ?_; refine ql_gyes rfl ?_; refine ql_pure tabOk rfl rfl ?_; refine ql_gyes rfl ?_; refine ql_gtrT tabOk rfl rfl rfl (by omega) ?_; refine ql_pure tabOk rfl rfl ?_; refine q_nil ?_; refine q_cond_true rfl ?_; refine q_seq ?_; refine q_region ?_)
    refine ql_callv (val := .bool true) tabOk rfl rfl rfl rfl (fun w hs => ?_) ?_; exact awake_ca w
    (refine ql_pure tabOk rfl rfl ?_; refine q_nil ?_; refine q_ret ?_)
    refine q_fin tabOk rfl (by repeat (first | exact RVs.nil | apply RVs.tmp rfl | apply RVs.cellA rfl rfl (by repeat first | exact .head _ | refine .tail _ ?_) (by rfl) | apply RVs.cell1 rfl rfl (by repeat first | exact .head _ | refine .tail _ ?_))) fun w hs => ?_
    exact ⟨rfl, hs.chg0⟩
  (refine ql_pure tabOk rfl rfl ?_; refine ql_gyes rfl ?_; refine ql_pure tabOk rfl rfl ?_; refine ql_gyes rfl ?_; refine ql_pure tabOk rfl rfl ?_; refine ql_gyes rfl ?_; refine ql_gtrF tabOk rfl rfl rfl (by omega) ?_; refine ql_pure tabOk rfl rfl ?_; refine q_nil ?_)
  refine q_cond_false rfl ?_
  skip
  refine q_skip ?_
  (refine q_seq ?_)
  refine q_cut (σ := Nat × (Option Addr × Nat) × (Option Addr × Nat) × (Option Addr × Nat)) (fun y => [(0, .slice a s.length cp), (2, .slice ua c.length uc), (3, .int .i64 depth), (4, .int .i64 volume), (6, .pointer (some ⟨b6, 0, none⟩)), (11, .slice y.2.1.1 s.length y.2.1.2), (12, .slice y.2.2.1.1 c.length y.2.2.1.2), (13, .slice y.2.2.2.1 s.length y.2.2.2.2), (14, .pointer (some ⟨y.1, 0, none⟩))])
    (fun y => [.pt y.1 (rlC r) 38, .ow (.slice y.2.1.1 s.length y.2.1.2) 31 3 s.length (lpC s), .ow (.slice y.2.2.1.1 c.length y.2.2.1.2) 3 1 c.length (ints c), .ow (.slice y.2.2.2.1 s.length y.2.2.2.2) 147 3 s.length (lpC s), .pt b6 (rlC r) 26]) ?_ (fun K2 hK2 => ?_)
  rotate_left
  · skip
    refine q_drawT (.alt (chainT [0, 1] (.alt (chainT [2, 3] (.alt (chainT [4, 5, 7, 6, 8, 9, 10, 11] (.nil)) (chainT [7, 4, 5, 6, 8, 9, 10, 11] (.nil)))) (chainT [7, 2, 3, 4, 5, 6, 8, 9, 10, 11] (.nil)))) (chainT [7, 0, 1, 2, 3, 4, 5, 6, 8, 9, 10, 11] (.nil))) _ [] (Sp.refl _) (by kernel_rfl) (by kernel_rfl) ?_
    refine qt_alt ?_ ?_
    · skip
      refine qt_seg (by repeat (first | exact PickL.nil | (apply PickL.cons; rfl))) fun K1 hK1 => ?_
      (refine qf_pure tabOk rfl rfl rfl ?_)
      refine qf_call (β := Value) tabOk [] _ M0 rfl rfl rfl rfl (Sp.refl _) (fun _ h => h.elim) (fun w' hs => cloneL_ca w' lo hi _ s (RdE.keep h hs.chg0) (by omega)) ?_
      rintro _ z1 rfl
      dsimp only [List.cons_append, List.nil_append]
      refine qf_fact (fun w hs => hs.slice2 (v := z1) (by repeat first | exact .head _ | refine .tail _ ?_)) ?_
      rintro ⟨oa, oc, rfl⟩
      (refine qf_nil ?_)
      refine hK1 _ _ ?_
      refine qt_alt ?_ ?_
      · skip
        refine qt_seg (by repeat (first | exact PickL.nil | (apply PickL.cons; rfl))) fun K1 hK1 => ?_
        (refine qf_pure tabOk rfl rfl rfl ?_)
        refine qf_call (β := Value) tabOk [] _ M0 rfl rfl rfl rfl (Sp.refl _) (fun _ h => h.elim) (fun w' hs => cloneI_ca w' lo2 hi9 _ c (RdE.keep hv hs.chg0) (by omega)) ?_
        rintro _ z2 rfl
        dsimp only [List.cons_append, List.nil_append]
        refine qf_fact (fun w hs => hs.slice2 (v := z2) (by repeat first | exact .head _ | refine .tail _ ?_)) ?_
        rintro ⟨ma, mc, rfl⟩
        (refine qf_nil ?_)
        refine hK1 _ _ ?_
        refine qt_alt ?_ ?_
        · skip
          refine qt_seg (by repeat (first | exact PickL.nil | (apply PickL.cons; rfl))) fun K1 hK1 => ?_
          (refine qf_pure tabOk rfl rfl rfl ?_)
          refine qf_call (β := Option Addr × Nat) tabOk [] _ M0 rfl rfl rfl rfl (Sp.refl _) (fun _ h => h.elim) (fun w' hs => rloops_ca w' lo hi _ s (RdE.keep h hs.chg0) (by omega)) ?_
          rintro ⟨ra, rc⟩ _ rfl
          dsimp only [List.cons_append, List.nil_append]
          skip
          refine qf_alloc zero38 rfl (fun b14 => ?_)
          (refine qf_loadAB tabOk rfl rfl rfl (by repeat first | exact .head _ | refine .tail _ ?_) (by rfl) (by rfl) ?_; (iterate 3 refine qf_pure tabOk rfl rfl rfl ?_); refine qf_setA tabOk rfl rfl rfl rfl rfl (by repeat constructor) rfl ?_; refine qf_nil ?_)
          skip
          exact hK1 _ _ (qt_nil (hK2 ⟨b14, (oa, oc), (ma, mc), (ra, rc)⟩ _ _ ⟨rfl, rfl, rfl, rfl, rfl, rfl, rfl, rfl, rfl, trivial⟩ (by repeat (first | exact Sp.nil | exact Sp.refl _ | refine Sp.cons (by repeat constructor) ?_))))
        · skip
          refine qt_seg (by repeat (first | exact PickL.nil | (apply PickL.cons; rfl))) fun K1 hK1 => ?_
          skip
          refine qf_alloc zero38 rfl (fun b14 => ?_)
          (refine qf_pure tabOk rfl rfl rfl ?_)
          refine qf_call (β := Option Addr × Nat) tabOk [] _ M0 rfl rfl rfl rfl (Sp.refl _) (fun _ h => h.elim) (fun w' hs => rloops_ca w' lo hi _ s (RdE.keep h hs.chg0) (by omega)) ?_
          rintro ⟨ra, rc⟩ _ rfl
          dsimp only [List.cons_append, List.nil_append]
          (refine qf_loadAB tabOk rfl rfl rfl (by repeat first | exact .head _ | refine .tail _ ?_) (by rfl) (by rfl) ?_; (iterate 3 refine qf_pure tabOk rfl rfl rfl ?_); refine qf_setA tabOk rfl rfl rfl rfl rfl (by repeat constructor) rfl ?_; refine qf_nil ?_)
          skip
          exact hK1 _ _ (qt_nil (hK2 ⟨b14, (oa, oc), (ma, mc), (ra, rc)⟩ _ _ ⟨rfl, rfl, rfl, rfl, rfl, rfl, rfl, rfl, rfl, trivial⟩ (by repeat (first | exact Sp.nil | exact Sp.refl _ | refine Sp.cons (by repeat constructor) ?_))))
      · skip
        refine qt_seg (by repeat (first | exact PickL.nil | (apply PickL.cons; rfl))) fun K1 hK1 => ?_
        skip
        refine qf_alloc zero38 rfl (fun b14 => ?_)
        (refine qf_pure tabOk rfl rfl rfl ?_)
        refine qf_call (β := Value) tabOk [] _ M0 rfl rfl rfl rfl (Sp.refl _) (fun _ h => h.elim) (fun w' hs => cloneI_ca w' lo2 hi9 _ c (RdE.keep hv hs.chg0) (by omega)) ?_
        rintro _ z2 rfl
        dsimp only [List.cons_append, List.nil_append]
        refine qf_fact (fun w hs => hs.slice2 (v := z2) (by repeat first | exact .head _ | refine .tail _ ?_)) ?_
        rintro ⟨ma, mc, rfl⟩
        (refine qf_pure tabOk rfl rfl rfl ?_)
        refine qf_call (β := Option Addr × Nat) tabOk [] _ M0 rfl rfl rfl rfl (Sp.refl _) (fun _ h => h.elim) (fun w' hs => rloops_ca w' lo hi _ s (RdE.keep h hs.chg0) (by omega)) ?_
        rintro ⟨ra, rc⟩ _ rfl
        dsimp only [List.cons_append, List.nil_append]
        (refine qf_loadAB tabOk rfl rfl rfl (by repeat first | exact .head _ | refine .tail _ ?_) (by rfl) (by rfl) ?_; (iterate 3 refine qf_pure tabOk rfl rfl rfl ?_); refine qf_setA tabOk rfl rfl rfl rfl rfl (by repeat constructor) rfl ?_; refine qf_nil ?_)
        skip
        exact hK1 _ _ (qt_nil (hK2 ⟨b14, (oa, oc), (ma, mc), (ra, rc)⟩ _ _ ⟨rfl, rfl, rfl, rfl, rfl, rfl, rfl, rfl, rfl, trivial⟩ (by repeat (first | exact Sp.nil | exact Sp.refl _ | refine Sp.cons (by repeat constructor) ?_))))
    · skip
      refine qt_seg (by repeat (first | exact PickL.nil | (apply PickL.cons; rfl))) fun K1 hK1 => ?_
      skip
      refine qf_alloc zero38 rfl (fun b14 => ?_)
      (refine qf_pure tabOk rfl rfl rfl ?_)
      refine qf_call (β := Value) tabOk [] _ M0 rfl rfl rfl rfl (Sp.refl _) (fun _ h => h.elim) (fun w' hs => cloneL_ca w' lo hi _ s (RdE.keep h hs.chg0) (by omega)) ?_
      rintro _ z1 rfl
      dsimp only [List.cons_append, List.nil_append]
      refine qf_fact (fun w hs => hs.slice2 (v := z1) (by repeat first | exact .head _ | refine .tail _ ?_)) ?_
      rintro ⟨oa, oc, rfl⟩
      (refine qf_pure tabOk rfl rfl rfl ?_)
      refine qf_call (β := Value) tabOk [] _ M0 rfl rfl rfl rfl (Sp.refl _) (fun _ h => h.elim) (fun w' hs => cloneI_ca w' lo2 hi9 _ c (RdE.keep hv hs.chg0) (by omega)) ?_
      rintro _ z2 rfl
      dsimp only [List.cons_append, List.nil_append]
      refine qf_fact (fun w hs => hs.slice2 (v := z2) (by repeat first | exact .head _ | refine .tail _ ?_)) ?_
      rintro ⟨ma, mc, rfl⟩
      (refine qf_pure tabOk rfl rfl rfl ?_)
      refine qf_call (β := Option Addr × Nat) tabOk [] _ M0 rfl rfl rfl rfl (Sp.refl _) (fun _ h => h.elim) (fun w' hs => rloops_ca w' lo hi _ s (RdE.keep h hs.chg0) (by omega)) ?_
      rintro ⟨ra, rc⟩ _ rfl
      dsimp only [List.cons_append, List.nil_append]
      (refine qf_loadAB tabOk rfl rfl rfl (by repeat first | exact .head _ | refine .tail _ ?_) (by rfl) (by rfl) ?_; (iterate 3 refine qf_pure tabOk rfl rfl rfl ?_); refine qf_setA tabOk rfl rfl rfl rfl rfl (by repeat constructor) rfl ?_; refine qf_nil ?_)
      skip
      exact hK1 _ _ (qt_nil (hK2 ⟨b14, (oa, oc), (ma, mc), (ra, rc)⟩ _ _ ⟨rfl, rfl, rfl, rfl, rfl, rfl, rfl, rfl, rfl, trivial⟩ (by repeat (first | exact Sp.nil | exact Sp.refl _ | refine Sp.cons (by repeat constructor) ?_))))
  rintro ⟨b14, ⟨oa, oc⟩, ⟨ma, mc⟩, ⟨ra, rc⟩⟩
  dsimp only
  have hl1 := covV_len s r depth volume
  have hl2 := fun c hc => covV_row (s := s) (r := r) (depth := depth) (volume := volume) (c := c) hc
  have hl3 := cheapV_len s r depth
  (refine q_seq ?_; refine q_region ?_; (iterate 2 refine ql_pure tabOk rfl rfl ?_))
  refine ql_callv (val := .tuple #[.int .i64 (areaE s c).1, .int .i64 (areaE s c).2]) tabOk rfl rfl rfl rfl (fun w hs => ?_) ?_; exact areaE_ca w 0 w.heap.size 0 w.heap.size oa oc _ s c (sat_rdL hs (by repeat first | exact .head _ | refine .tail _ ?_) rfl) (by omega) (hs.rdI (by repeat first | exact .head _ | refine .tail _ ?_) rfl) (by omega)
  (refine ql_pure tabOk rfl rfl ?_; (iterate 2 refine ql_ext tabOk rfl rfl rfl ?_); (iterate 2 refine ql_pure tabOk rfl rfl ?_); refine q_nil ?_; refine q_seq ?_; refine q_region ?_; (iterate 2 refine ql_pure tabOk rfl rfl ?_))
  refine ql_callv (val := .tuple #[.int .i64 (areaE s c).1, .int .i64 (areaE s c).2]) tabOk rfl rfl rfl rfl (fun w hs => ?_) ?_; exact rarea_ca w 0 w.heap.size lo2 hi9 ra rc _ s c (sat_rdL hs (by repeat first | exact .head _ | refine .tail _ ?_) rfl) (by omega) (RdE.keep hv hs.chg0) (by omega)
  (refine ql_pure tabOk rfl rfl ?_; (iterate 2 refine ql_ext tabOk rfl rfl rfl ?_); (iterate 2 refine ql_pure tabOk rfl rfl ?_); refine q_nil ?_; (iterate 2 refine q_seq ?_); refine q_region ?_; (iterate 2 refine ql_pure tabOk rfl rfl ?_); refine ql_neqF tabOk rfl rfl rfl (by omega) ?_; refine ql_pure tabOk rfl rfl ?_; refine ql_gyes rfl ?_; refine ql_pure tabOk rfl rfl ?_; refine ql_gyes rfl ?_; refine ql_pure tabOk rfl rfl ?_; refine ql_gyes rfl ?_; refine ql_neqF tabOk rfl rfl rfl (by omega) ?_; refine ql_pure tabOk rfl rfl ?_; refine q_nil ?_; refine q_cond_false rfl ?_; refine q_skip ?_; refine q_seq ?_; refine q_region ?_; (iterate 3 refine ql_pure tabOk rfl rfl ?_))
  refine ql_callv (val := .tuple #[.int .i64 (snowE s c depth).1, .int .i64 (snowE s c depth).2]) tabOk rfl rfl rfl rfl (fun w hs => ?_) ?_; exact snowE_ca w 0 w.heap.size 0 w.heap.size oa oc _ s c depth (sat_rdL hs (by repeat first | exact .head _ | refine .tail _ ?_) rfl) (by omega) (hs.rdI (by repeat first | exact .head _ | refine .tail _ ?_) rfl) (by omega)
  (refine ql_pure tabOk rfl rfl ?_; (iterate 2 refine ql_ext tabOk rfl rfl rfl ?_); (iterate 2 refine ql_pure tabOk rfl rfl ?_); refine q_nil ?_; refine q_seq ?_; refine q_region ?_; (iterate 3 refine ql_pure tabOk rfl rfl ?_))
  refine ql_callv (val := .tuple #[.int .i64 (snowE s c depth).1, .int .i64 (snowE s c depth).2]) tabOk rfl rfl rfl rfl (fun w hs => ?_) ?_; exact rsnow_ca w 0 w.heap.size lo2 hi9 ra rc _ s c depth (sat_rdL hs (by repeat first | exact .head _ | refine .tail _ ?_) rfl) (by omega) (RdE.keep hv hs.chg0) (by omega)
  (refine ql_pure tabOk rfl rfl ?_; (iterate 2 refine ql_ext tabOk rfl rfl rfl ?_); (iterate 2 refine ql_pure tabOk rfl rfl ?_); refine q_nil ?_; (iterate 2 refine q_seq ?_); refine q_region ?_; (iterate 2 refine ql_pure tabOk rfl rfl ?_); refine ql_neqF tabOk rfl rfl rfl (by omega) ?_; refine ql_pure tabOk rfl rfl ?_; refine ql_gyes rfl ?_; refine ql_pure tabOk rfl rfl ?_; refine ql_gyes rfl ?_; refine ql_pure tabOk rfl rfl ?_; refine ql_gyes rfl ?_; refine ql_neqF tabOk rfl rfl rfl (by omega) ?_; refine ql_pure tabOk rfl rfl ?_; refine q_nil ?_; refine q_cond_false rfl ?_; refine q_skip ?_; refine q_seq ?_; refine q_region ?_; refine ql_pure tabOk rfl rfl ?_; refine ql_loadAB tabOk rfl rfl rfl (by repeat first | exact .head _ | refine .tail _ ?_) (by rfl) (by rfl) ?_; (iterate 2 refine ql_pure tabOk rfl rfl ?_))
  refine ql_call (β := Value × List (Value × List Int)) tabOk [] _ M0 rfl rfl rfl rfl (Sp.refl _) (fun _ h => h.elim) (fun w' hs => cov_u w' 0 w'.heap.size oa oc s r (sat_rdL hs (by repeat first | exact .head _ | refine .tail _ ?_) rfl) (by omega) depth volume) ?_
  rintro ⟨z1, xs⟩ _ ⟨rfl, hx⟩
  dsimp only [lsK, List.cons_append, List.nil_append] at hx ⊢
  (refine ql_pure tabOk rfl rfl ?_; (iterate 2 refine ql_ext tabOk rfl rfl rfl ?_); (iterate 2 refine ql_pure tabOk rfl rfl ?_); refine q_nil ?_; refine q_seq ?_; refine q_region ?_; refine ql_pure tabOk rfl rfl ?_; refine ql_loadAB tabOk rfl rfl rfl (by repeat first | exact .head _ | refine .tail _ ?_) (by rfl) (by rfl) ?_; (iterate 2 refine ql_pure tabOk rfl rfl ?_))
  refine ql_call (β := Value × List (Value × List Int)) tabOk [] _ M0 rfl rfl rfl rfl (Sp.refl _) (fun _ h => h.elim) (fun w' hs => rcov_u w' 0 w'.heap.size ra rc s r (sat_rdL (t := 147) hs (by repeat first | exact .head _ | refine .tail _ ?_) rfl) (by omega) depth volume) ?_
  rintro ⟨z2, ys⟩ _ ⟨rfl, hy⟩
  dsimp only [lsK, List.cons_append, List.nil_append] at hy ⊢
  generalize coveredV s r depth volume = A at *
  (refine ql_pure tabOk rfl rfl ?_; (iterate 2 refine ql_ext tabOk rfl rfl rfl ?_); (iterate 2 refine ql_pure tabOk rfl rfl ?_); refine q_nil ?_; (iterate 2 refine q_seq ?_); refine q_region ?_; (iterate 2 refine ql_pure tabOk rfl rfl ?_); refine ql_neqF tabOk rfl rfl rfl (by omega) ?_; refine ql_pure tabOk rfl rfl ?_; refine ql_gyes rfl ?_; refine ql_pure tabOk rfl rfl ?_; refine ql_gyes rfl ?_; refine ql_pure tabOk rfl rfl ?_; refine ql_gyes rfl ?_)
  refine ql_callv (val := .bool true) tabOk rfl rfl rfl rfl (fun w hs => ?_) ?_; exact eqII_ca w 0 w.heap.size 0 w.heap.size z1 z2 A.1 (hx ▸ ls_rdII hs (xs := xs) (t := 3) (t2 := 27) (n := xs.length) (by repeat first | exact .head _ | refine .tail _ ?_) (by repeat first | exact .head _ | refine .tail _ ?_)) (hy ▸ ls_rdII hs (xs := ys) (t := 3) (t2 := 27) (n := ys.length) (by repeat first | exact .head _ | refine .tail _ ?_) (by repeat first | exact .head _ | refine .tail _ ?_)) (by omega) hl2
  (refine ql_gyes rfl ?_; (iterate 2 refine ql_pure tabOk rfl rfl ?_); refine q_nil ?_; refine q_cond_false rfl ?_; refine q_skip ?_; refine q_seq ?_; refine q_region ?_; refine ql_pure tabOk rfl rfl ?_; refine ql_loadAB tabOk rfl rfl rfl (by repeat first | exact .head _ | refine .tail _ ?_) (by rfl) (by rfl) ?_; refine ql_pure tabOk rfl rfl ?_)
  refine ql_call (β := Value) tabOk [] _ M0 rfl rfl rfl rfl (Sp.refl _) (fun _ h => h.elim) (fun w' hs => cheap_u w' 0 w'.heap.size oa oc s r (sat_rdL hs (by repeat first | exact .head _ | refine .tail _ ?_) rfl) (by omega) depth) ?_
  rintro z3 _ rfl
  dsimp only [List.cons_append, List.nil_append]
  (refine ql_pure tabOk rfl rfl ?_; (iterate 3 refine ql_ext tabOk rfl rfl rfl ?_); (iterate 3 refine ql_pure tabOk rfl rfl ?_); refine q_nil ?_; refine q_seq ?_; refine q_region ?_; refine ql_pure tabOk rfl rfl ?_; refine ql_loadAB tabOk rfl rfl rfl (by repeat first | exact .head _ | refine .tail _ ?_) (by rfl) (by rfl) ?_; refine ql_pure tabOk rfl rfl ?_)
  refine ql_call (β := Value) tabOk [] _ M0 rfl rfl rfl rfl (Sp.refl _) (fun _ h => h.elim) (fun w' hs => rcheap_u w' 0 w'.heap.size ra rc s r (sat_rdL (t := 147) hs (by repeat first | exact .head _ | refine .tail _ ?_) rfl) (by omega) depth) ?_
  rintro z4 _ rfl
  dsimp only [List.cons_append, List.nil_append]
  generalize cheapV s r depth = Y at *
  (refine ql_pure tabOk rfl rfl ?_; (iterate 3 refine ql_ext tabOk rfl rfl rfl ?_); (iterate 3 refine ql_pure tabOk rfl rfl ?_); refine q_nil ?_; refine q_seq ?_; refine q_region ?_; (iterate 2 refine ql_pure tabOk rfl rfl ?_); refine ql_eqlT tabOk rfl rfl rfl (by omega) ?_; refine ql_pure tabOk rfl rfl ?_; refine ql_gyes rfl ?_; refine ql_pure tabOk rfl rfl ?_; refine ql_gyes rfl ?_; refine ql_pure tabOk rfl rfl ?_; refine ql_gyes rfl ?_; refine ql_eqlT tabOk rfl rfl rfl (by omega) ?_; (iterate 2 refine ql_pure tabOk rfl rfl ?_); refine ql_gyes rfl ?_; refine ql_pure tabOk rfl rfl ?_; refine ql_gyes rfl ?_; refine ql_pure tabOk rfl rfl ?_; refine ql_gyes rfl ?_)
  refine ql_callv (val := .bool true) tabOk rfl rfl rfl rfl (fun w hs => ?_) ?_; exact eqI_ca w 0 w.heap.size 0 w.heap.size z3 z4 Y.1 (hs.rdI (t := 3) (by repeat first | exact .head _ | refine .tail _ ?_) rfl) (hs.rdI (t := 3) (by repeat first | exact .head _ | refine .tail _ ?_) rfl) hl3
  ((iterate 2 refine ql_pure tabOk rfl rfl ?_); refine ql_gyes rfl ?_; refine ql_pure tabOk rfl rfl ?_; refine ql_gyes rfl ?_; refine ql_pure tabOk rfl rfl ?_; refine ql_gyes rfl ?_)
  refine ql_callv (val := .bool true) tabOk rfl rfl rfl rfl (fun w hs => ?_) ?_; exact eqL_ca w 0 w.heap.size lo hi _ _ s (sat_rdL hs (by repeat first | exact .head _ | refine .tail _ ?_) rfl) (RdE.keep h hs.chg0) (by omega)
  ((iterate 2 refine ql_pure tabOk rfl rfl ?_); refine ql_gyes rfl ?_; refine ql_pure tabOk rfl rfl ?_; refine ql_gyes rfl ?_; refine ql_pure tabOk rfl rfl ?_; refine ql_gyes rfl ?_)
  refine ql_callv (val := .bool true) tabOk rfl rfl rfl rfl (fun w hs => ?_) ?_; exact eqI_ca w 0 w.heap.size lo2 hi9 _ _ c (hs.rdI (by repeat first | exact .head _ | refine .tail _ ?_) rfl) (RdE.keep hv hs.chg0) (by omega)
  ((iterate 2 refine ql_pure tabOk rfl rfl ?_); refine ql_gyes rfl ?_)
  refine ql_callv (val := .bool true) tabOk rfl rfl rfl rfl (fun w hs => ?_) ?_; exact awake_ca w
  ((iterate 2 refine ql_pure tabOk rfl rfl ?_); refine q_nil ?_; refine q_ret ?_)
  refine q_fin tabOk rfl (by repeat (first | exact RVs.nil | apply RVs.tmp rfl | apply RVs.cellA rfl rfl (by repeat first | exact .head _ | refine .tail _ ?_) (by rfl) | apply RVs.cell1 rfl rfl (by repeat first | exact .head _ | refine .tail _ ?_))) fun w hs => ?_
  exact ⟨rfl, hs.chg0⟩
end Go.Proofs.Ytgeajgmefokifaa
