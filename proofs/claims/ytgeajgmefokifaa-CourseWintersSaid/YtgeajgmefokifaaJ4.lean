/- My texts K22, B27, K23, K24, K25, K1, K26, K27, L0, E0, E1, E2, E3, E4, E5, L7, E6, E7, E8, E9, E10, E11, W5, E12, E13, E14, joined: a claim takes at most 60 files. -/
import Derived.Test.YtgeajgmefokifaaJ3

/- Walks: lists compared; the fewest rules to be given up. -/
namespace Go.Proofs.Ytgeajgmefokifaa
open Go Go.Eng

theorem isNaNR_ca (x : Int) (w : World) : Ca Try.prog 142 [.int .i64 x] w fun v w' => v = .bool false ∧ Chg [] w w' := by
  refine q_of (Sat.nil w M0) Try.func142 rfl (by simp [Try.ntmps142]) ?_
  (refine q_seq ?_; refine q_region ?_; refine ql_pure tabOk rfl rfl ?_; refine q_nil ?_; refine q_seq ?_; refine q_region ?_; (iterate 2 refine ql_pure tabOk rfl rfl ?_); refine ql_neqF tabOk rfl rfl rfl (by omega) ?_; refine ql_pure tabOk rfl rfl ?_; refine q_nil ?_; refine q_ret ?_)
  refine q_fin tabOk rfl (by repeat (first | exact RVs.nil | apply RVs.tmp rfl | apply RVs.cellA rfl rfl (by repeat first | exact .head _ | refine .tail _ ?_) (by rfl) | apply RVs.cell1 rfl rfl (by repeat first | exact .head _ | refine .tail _ ?_))) fun w hs => ?_
  exact ⟨by simp [retV], hs.chg0⟩
def cmpI (x y : Int) : Int := if x < y then -1 else if y < x then 1 else 0
theorem cmpR_ca (x y : Int) (w : World) : Ca Try.prog 121 [.int .i64 x, .int .i64 y] w fun v w' => v = .int .i64 (cmpI x y) ∧ Chg [] w w' := by
  refine q_of (Sat.nil w M0) Try.func121 rfl (by simp [Try.ntmps121]) ?_
  (refine q_seq ?_; refine q_region ?_; refine ql_pure tabOk rfl rfl ?_; refine q_nil ?_; refine q_seq ?_; refine q_region ?_; refine ql_pure tabOk rfl rfl ?_)
  refine ql_callv (val := .bool false) tabOk rfl rfl rfl rfl (fun w hs => ?_) ?_; exact isNaNR_ca x w
  (refine ql_pure tabOk rfl rfl ?_; refine q_nil ?_; refine q_seq ?_; refine q_region ?_; refine ql_pure tabOk rfl rfl ?_)
  refine ql_callv (val := .bool false) tabOk rfl rfl rfl rfl (fun w hs => ?_) ?_; exact isNaNR_ca y w
  (refine ql_pure tabOk rfl rfl ?_; refine q_nil ?_; (iterate 2 refine q_seq ?_); refine q_region ?_; refine ql_pure tabOk rfl rfl ?_; refine q_nil ?_; refine q_cond_false rfl ?_; refine q_skip ?_; (iterate 2 refine q_seq ?_); refine q_region ?_; refine ql_pure tabOk rfl rfl ?_; refine q_nil ?_; refine q_cond_false rfl ?_; refine q_skip ?_; (iterate 2 refine q_seq ?_); refine q_region ?_; (iterate 3 refine ql_pure tabOk rfl rfl ?_); refine q_nil ?_)
  refine q_if rfl (fun hc => ?_) (fun hc => ?_)
  · have h1 : x < y := by first | assumption | (simpa using hc)
    (refine q_seq ?_; refine q_region ?_; refine ql_pure tabOk rfl rfl ?_; refine q_nil ?_; refine q_ret ?_)
    refine q_fin tabOk rfl (by repeat (first | exact RVs.nil | apply RVs.tmp rfl | apply RVs.cellA rfl rfl (by repeat first | exact .head _ | refine .tail _ ?_) (by rfl) | apply RVs.cell1 rfl rfl (by repeat first | exact .head _ | refine .tail _ ?_))) fun w hs => ?_
    exact ⟨by simp only [retV, cmpI]; rw [if_pos h1], hs.chg0⟩
  · have h1 : ¬ x < y := by first | assumption | (simpa using hc)
    clear hc
    (refine q_skip ?_; (iterate 2 refine q_seq ?_); refine q_region ?_; (iterate 3 refine ql_pure tabOk rfl rfl ?_); refine q_nil ?_)
    refine q_if rfl (fun hc => ?_) (fun hc => ?_)
    · have h2 : y < x := by first | assumption | (simpa using hc)
      (refine q_seq ?_; refine q_region ?_; refine ql_pure tabOk rfl rfl ?_; refine q_nil ?_; refine q_ret ?_)
      refine q_fin tabOk rfl (by repeat (first | exact RVs.nil | apply RVs.tmp rfl | apply RVs.cellA rfl rfl (by repeat first | exact .head _ | refine .tail _ ?_) (by rfl) | apply RVs.cell1 rfl rfl (by repeat first | exact .head _ | refine .tail _ ?_))) fun w hs => ?_
      exact ⟨by simp only [retV, cmpI]; rw [if_neg h1, if_pos h2], hs.chg0⟩
    · have h2 : ¬ y < x := by first | assumption | (simpa using hc)
      (refine q_skip ?_; refine q_seq ?_; refine q_region ?_; refine ql_pure tabOk rfl rfl ?_; refine q_nil ?_; refine q_ret ?_)
      refine q_fin tabOk rfl (by repeat (first | exact RVs.nil | apply RVs.tmp rfl | apply RVs.cellA rfl rfl (by repeat first | exact .head _ | refine .tail _ ?_) (by rfl) | apply RVs.cell1 rfl rfl (by repeat first | exact .head _ | refine .tail _ ?_))) fun w hs => ?_
      exact ⟨by simp only [retV, cmpI]; rw [if_neg h1, if_neg h2], hs.chg0⟩
theorem cmpB_drop {a b : List Int} {k : Nat} (h1 : k < a.length) (h2 : k < b.length) : cmpB (a.drop k) (b.drop k) = if a[k] = b[k] then cmpB (a.drop (k + 1)) (b.drop (k + 1)) else decide (a[k] < b[k]) && true := by
  rw [List.drop_eq_getElem_cons h1, List.drop_eq_getElem_cons h2, cmpB]

set_option maxHeartbeats 1000000 in
theorem compR_ca (w : World) (lo hi lo2 hi2 : Nat) (v u : Value) (a b : List Int) (h : RdI w lo hi v a) (g : RdI w lo2 hi2 u b) (hl : a.length ≤ 1000000) (hl2 : b.length ≤ 1000000) :
    Ca Try.prog 85 [v, u] w fun r w' => ∃ z : Int, (r = .int .i64 z ∧ -1 ≤ z ∧ z ≤ 1 ∧ (z < 0 ↔ cmpB a b = true)) ∧ Sat w M0 [] w' := by
  obtain ⟨aa, ca, rfl, hsa⟩ := RdI.outI h
  obtain ⟨ab, cb, rfl, hsb⟩ := RdI.outI g
  refine q_of (Sat.nil w M0) Try.func85 rfl (by simp [Try.ntmps85]) ?_
  (refine q_seq ?_; refine q_region ?_; refine ql_pure tabOk rfl rfl ?_; refine q_nil ?_; (iterate 2 refine q_seq ?_); refine q_region ?_; (iterate 3 refine ql_pure tabOk rfl rfl ?_); refine q_nil ?_; refine q_block ?_)
  refine q_loop (σ := Nat) (fun k => k ≤ a.length ∧ k ≤ b.length ∧ cmpB a b = cmpB (a.drop k) (b.drop k)) (fun k => a.length - k) (fun k => [(0, .slice aa a.length ca), (1, .slice ab b.length cb), (9, .slice aa a.length ca), (10, .int .i64 a.length), (11, .int .i64 k)]) (fun _ => []) 0 ⟨by simp, by simp, by simp⟩ ⟨rfl, rfl, rfl, rfl, rfl, trivial⟩ .nil ?_
  rintro k ⟨hk, hkb, hC⟩ K hK
  (refine q_seq ?_; refine q_region ?_; refine ql_pure tabOk rfl rfl ?_; refine q_nil ?_; refine q_seq ?_)
  refine q_if rfl (fun hc => ?_) (fun hc => ?_)
  · have hk2 : k < a.length := by omega
    clear hc
    obtain ⟨ba, oa, rfl⟩ := hsa (by omega)
    (refine q_skip ?_; refine q_seq ?_; refine q_block ?_; refine q_seq ?_; refine q_region ?_; refine ql_pure tabOk rfl rfl ?_)
    (refine ql_index tabOk rfl rfl rfl rfl rfl (by omega) (by omega) ?_; refine ql_load1 tabOk rfl rfl rfl (fun w hs => RdI.at (h.keep hs.chg0) k hk2) ?_)
    ((iterate 2 refine ql_pure tabOk rfl rfl ?_); refine q_nil ?_; (iterate 2 refine q_seq ?_); refine q_region ?_; (iterate 4 refine ql_pure tabOk rfl rfl ?_); refine q_nil ?_)
    refine q_if rfl (fun hc => ?_) (fun hc => ?_)
    · have hb : b.length ≤ k := by first | omega | (simp at hc; omega)
      have e : cmpB a b = false := by
        rw [hC, List.drop_eq_getElem_cons hk2, List.drop_eq_nil_of_le hb]
        rfl
      (refine q_seq ?_; refine q_region ?_; refine ql_pure tabOk rfl rfl ?_; refine q_nil ?_; refine q_ret ?_)
      refine q_fin tabOk rfl (by repeat (first | exact RVs.nil | apply RVs.tmp rfl | apply RVs.cellA rfl rfl (by repeat first | exact .head _ | refine .tail _ ?_) (by rfl) | apply RVs.cell1 rfl rfl (by repeat first | exact .head _ | refine .tail _ ?_))) fun w hs => ?_
      exact ⟨1, ⟨rfl, by omega, by omega, by simp [e]⟩, hs⟩
    · have hb : k < b.length := by first | omega | (simp at hc; omega)
      clear hc
      obtain ⟨bb, ob, rfl⟩ := hsb (by omega)
      have hd := cmpB_drop hk2 hb
      (refine q_skip ?_; refine q_seq ?_; refine q_region ?_; (iterate 2 refine ql_pure tabOk rfl rfl ?_))
      (refine ql_index tabOk rfl rfl rfl rfl rfl (by omega) (by omega) ?_; refine ql_load1 tabOk rfl rfl rfl (fun w hs => RdI.at (g.keep hs.chg0) k hb) ?_)
      (refine ql_pure tabOk rfl rfl ?_; refine q_nil ?_; refine q_seq ?_; refine q_region ?_; (iterate 2 refine ql_pure tabOk rfl rfl ?_))
      refine ql_callv (val := .int .i64 (cmpI a[k] b[k])) tabOk rfl rfl rfl rfl (fun w hs => ?_) ?_; exact cmpR_ca _ _ w
      generalize a[k] = x at *
      generalize b[k] = y at *
      rcases Int.lt_trichotomy x y with hxy | hxy | hxy
      · have e : cmpI x y = -1 := by unfold cmpI; rw [if_pos hxy]
        have e2 : cmpB a b = true := by rw [hC, hd, if_neg (by omega)]; simp [hxy]
        rw [e]
        (refine ql_pure tabOk rfl rfl ?_; refine q_nil ?_; refine q_seq ?_; refine q_region ?_; refine ql_pure tabOk rfl rfl ?_; refine ql_neqT tabOk rfl rfl rfl (by omega) ?_; refine q_nil ?_; refine q_cond_true rfl ?_; refine q_seq ?_; refine q_region ?_; (iterate 2 refine ql_pure tabOk rfl rfl ?_); refine q_nil ?_; refine q_ret ?_)
        refine q_fin tabOk rfl (by repeat (first | exact RVs.nil | apply RVs.tmp rfl | apply RVs.cellA rfl rfl (by repeat first | exact .head _ | refine .tail _ ?_) (by rfl) | apply RVs.cell1 rfl rfl (by repeat first | exact .head _ | refine .tail _ ?_))) fun w hs => ?_
        exact ⟨-1, ⟨rfl, by omega, by omega, by simp [e2]⟩, hs⟩
      · have e : cmpI x y = 0 := by unfold cmpI; rw [if_neg (by omega), if_neg (by omega)]
        rw [e]
        (refine ql_pure tabOk rfl rfl ?_; refine q_nil ?_; refine q_seq ?_; refine q_region ?_; refine ql_pure tabOk rfl rfl ?_; refine ql_neqF tabOk rfl rfl rfl (by omega) ?_; refine q_nil ?_; refine q_cond_false rfl ?_; refine q_skip ?_; refine q_blk ?_; refine q_region ?_; refine ql_ar tabOk rfl rfl rfl rfl (by omega) (by omega) ?_; refine ql_pure tabOk rfl rfl ?_; refine q_nil ?_)
        exact hK (k + 1) _ _ ⟨by omega, by omega, by rw [hC, hd, if_pos hxy]⟩ (by omega) ⟨rfl, rfl, rfl, rfl, rfl, trivial⟩ .nil
      · have e : cmpI x y = 1 := by unfold cmpI; rw [if_neg (by omega), if_pos hxy]
        have e2 : cmpB a b = false := by rw [hC, hd, if_neg (by omega)]; simp; omega
        rw [e]
        (refine ql_pure tabOk rfl rfl ?_; refine q_nil ?_; refine q_seq ?_; refine q_region ?_; refine ql_pure tabOk rfl rfl ?_; refine ql_neqT tabOk rfl rfl rfl (by omega) ?_; refine q_nil ?_; refine q_cond_true rfl ?_; refine q_seq ?_; refine q_region ?_; (iterate 2 refine ql_pure tabOk rfl rfl ?_); refine q_nil ?_; refine q_ret ?_)
        refine q_fin tabOk rfl (by repeat (first | exact RVs.nil | apply RVs.tmp rfl | apply RVs.cellA rfl rfl (by repeat first | exact .head _ | refine .tail _ ?_) (by rfl) | apply RVs.cell1 rfl rfl (by repeat first | exact .head _ | refine .tail _ ?_))) fun w hs => ?_
        exact ⟨1, ⟨rfl, by omega, by omega, by simp [e2]⟩, hs⟩
  · have hka : k = a.length := by omega
    subst hka
    clear hc
    (refine q_exit _ rfl ?_; (iterate 2 refine q_seq ?_); refine q_region ?_; (iterate 5 refine ql_pure tabOk rfl rfl ?_); refine q_nil ?_)
    refine q_if rfl (fun hc => ?_) (fun hc => ?_)
    · have hb : a.length < b.length := by first | omega | (simp at hc; omega)
      have e : cmpB a b = true := by
        rw [hC, List.drop_length, List.drop_eq_getElem_cons hb]
        rfl
      (refine q_seq ?_; refine q_region ?_; refine ql_pure tabOk rfl rfl ?_; refine q_nil ?_; refine q_ret ?_)
      refine q_fin tabOk rfl (by repeat (first | exact RVs.nil | apply RVs.tmp rfl | apply RVs.cellA rfl rfl (by repeat first | exact .head _ | refine .tail _ ?_) (by rfl) | apply RVs.cell1 rfl rfl (by repeat first | exact .head _ | refine .tail _ ?_))) fun w hs => ?_
      exact ⟨-1, ⟨rfl, by omega, by omega, by simp [e]⟩, hs⟩
    · have hb : ¬ a.length < b.length := by first | omega | (simp at hc; omega)
      have e : cmpB a b = false := by
        rw [hC, List.drop_length, List.drop_eq_nil_of_le (by omega)]
        rfl
      (refine q_skip ?_; refine q_seq ?_; refine q_region ?_; refine ql_pure tabOk rfl rfl ?_; refine q_nil ?_; refine q_ret ?_)
      refine q_fin tabOk rfl (by repeat (first | exact RVs.nil | apply RVs.tmp rfl | apply RVs.cellA rfl rfl (by repeat first | exact .head _ | refine .tail _ ?_) (by rfl) | apply RVs.cell1 rfl rfl (by repeat first | exact .head _ | refine .tail _ ?_))) fun w hs => ?_
      exact ⟨0, ⟨rfl, by omega, by omega, by simp [e]⟩, hs⟩

theorem brk_len (s : List Lp) (r : Rl) (c : List Int) : (brkL s r c).length ≤ 5 := markI_len (marksV s r c) 0
theorem yieldO_snoc (s : List Lp) (r : Rl) (pre : List (List Int)) (c : List Int) : yieldO s r (pre ++ [c]) = yieldS s r (yieldO s r pre) c := by simp [yieldO, List.foldl_append]

set_option maxHeartbeats 4000000 in
theorem yield_ok (w : World) (lo hi : Nat) (a : Option Addr) (cp : Nat) (s : List Lp) (r : Rl) (b : List Int) (h : RdL w lo hi (.slice a s.length cp) s) (hcr : CR s r) (ho : yieldO s r (coursesL s.length (nL r)) = some b) :
    Ca Try.prog 33 [.slice a s.length cp, .agg (rlC r).toArray] w fun x w' => ∃ y : Value × Value, x = .tuple #[y.1, y.2, .int .i64 0] ∧ Sat w M0 [.ow y.1 88 1 (brkL s r b).length (ints (brkL s r b)), .ow y.2 3 1 b.length (ints b)] w' := by
  have hn2 := hcr.s.n2
  have hla := hcr.r.laps
  refine q_ofM (Sat.nil w M0) Try.func33 rfl (by simp [Try.ntmps33]) ?_
  (refine q_seq ?_; refine q_region ?_)
  refine ql_box rfl rfl (fun b3 => ?_)
  ((iterate 3 refine ql_pure tabOk rfl rfl ?_); refine q_nil ?_; (iterate 2 refine q_seq ?_); refine q_region ?_; refine ql_pure tabOk rfl rfl ?_; refine ql_loadAB tabOk rfl rfl rfl (by repeat first | exact .head _ | refine .tail _ ?_) (by rfl) (by rfl) ?_)
  refine ql_callv (val := .int .i64 0) tabOk rfl rfl rfl rfl (fun w hs => ?_) ?_; exact by have := checkS_ca w lo hi _ s r (RdE.keep h hs.chg0) (by omega); rw [checkS_iff.2 hcr] at this; exact this
  (refine ql_pure tabOk rfl rfl ?_; refine q_nil ?_; refine q_seq ?_; refine q_region ?_; refine ql_pure tabOk rfl rfl ?_; refine ql_neqF tabOk rfl rfl rfl (by omega) ?_; refine q_nil ?_; refine q_cond_false rfl ?_; refine q_skip ?_; refine q_seq ?_; refine q_region ?_; refine ql_loadAB tabOk rfl rfl rfl (by repeat first | exact .head _ | refine .tail _ ?_) (by rfl) (by rfl) ?_; refine ql_pure tabOk rfl rfl ?_)
  refine ql_mk #[.int .i64 r.laps, .int .i64 r.g0, .int .i64 r.g1, .int .i64 r.c0, .int .i64 r.c1, .int .i64 r.p0, .int .i64 r.p1, .int .i64 r.wide, .int .i64 r.uses, .slice a s.length cp] rfl (by kernel_rfl) rfl ?_
  skip
  refine ql_alloc zero152 rfl (fun b8 => ?_)
  (refine ql_setA tabOk rfl rfl rfl rfl rfl (by repeat constructor) rfl ?_; refine q_nil ?_; refine q_seq ?_; refine q_region ?_)
  refine ql_alloc zero39 rfl (fun b9 => ?_)
  (refine q_nil ?_; refine q_seq ?_; refine q_region ?_)
  refine ql_alloc zero27 rfl (fun b10 => ?_)
  (refine q_nil ?_; (iterate 2 refine q_seq ?_); refine q_region ?_; refine ql_loadAB tabOk rfl rfl rfl (by repeat first | exact .head _ | refine .tail _ ?_) (by rfl) (by rfl) ?_)
  refine ql_call (β := Nat) tabOk [] _ M0 rfl rfl rfl rfl (Sp.refl _) (fun _ h => h.elim) (fun w' hs => courses_ca w' a s.length cp r) ?_
  rintro bb _ rfl
  (refine q_nil ?_; refine q_block ?_)
  refine q_conv (H' := [.pt b9 [.slice none 0 0] 39, .pt b10 [.slice none 0 0] 27, .ow (.slice none 0 0) 88 1 ([] : List Int).length (ints []), .ow (.slice none 0 0) 3 1 ([] : List Int).length (ints []), .pt bb (dkC r a s.length cp) 152, .pt b8 (dkC r a s.length cp) 152])
    (fun w' hs => (Sat.ownil (Sat.ownil hs 88 1) 3 1).sp (by repeat (first | exact Sp.nil | exact Sp.refl _ | refine Sp.cons (by repeat constructor) ?_))) ?_
  refine q_rangeP (α := Value × List Int) (fun x => [x.1]) (·.2) cK ((Value × List Int) × Value × List Int) (coursesL s.length (nL r)) (fun pre st => BestI (yieldO s r pre) st.2.1 st.2.2 ∧ st.2.2.length ≤ 6 ∧ st.1.2.length ≤ 5 ∧ (0 < st.2.2.length → st.1.2 = brkL s r st.2.2)) (fun _ _ => False)
    (fun st => [.pt b9 [st.1.1] 39, .pt b10 [st.2.1] 27, .ow st.1.1 88 1 st.1.2.length (ints st.1.2), .ow st.2.1 3 1 st.2.2.length (ints st.2.2)]) [.pt bb (dkC r a s.length cp) 152, .pt b8 (dkC r a s.length cp) 152] ((.slice none 0 0, []), .slice none 0 0, [])
    rfl (by kernel_rfl) rfl (fun _ => rfl) ⟨.inl ⟨rfl, rfl, rfl⟩, by simp, by simp, by simp⟩ (by repeat (first | exact Sp.nil | exact Sp.refl _ | refine Sp.cons (by repeat constructor) ?_)) ?_ ?_ ?_ (fun _ _ _ h => h.elim)
  · intro w1 D hs hD
    exact courses_it w1 D bb a s.length cp r hla hn2 (hs.blk (by repeat first | exact .head _ | refine .tail _ ?_)) (fun h => (hD _ h).1 ⟨.pt bb (dkC r a s.length cp) _, (by repeat first | exact .head _ | refine .tail _ ?_), rfl⟩)
  · rintro pre ⟨u, c⟩ post ⟨⟨rv, rl⟩, v, bl⟩ w1 l rdy bsy K F' hxx ⟨hI, h6, h5, hrl⟩ hsat hR hbegin hend hret hexit
    simp only at hI hxx h6 h5 hrl
    dsimp only
    obtain ⟨m1, m2, m3⟩ := memC hxx
    have hlm : c.length ≤ 6 := by unfold nL at m1; omega
    have hlp : 0 < c.length := by unfold nL at m1; omega
    have hsn := yieldO_snoc s r pre c
    have h55 := brk_len s r c
    dsimp only [lsK, cK, List.cons_append, List.nil_append] at hsat hR hbegin hend ⊢
    obtain ⟨ug, uc, rfl⟩ := hsat.ownSome (v := u) (by repeat first | exact .head _ | refine .tail _ ?_) hlp
    obtain ⟨rva, rvc, rfl⟩ := hsat.slice2 (v := rv) (by repeat first | exact .head _ | refine .tail _ ?_)
    have hd : ∀ w', ChgP _ w1 w' → Blk w' b8 (dkC r a s.length cp) 152 := fun w' hc => (hR w' hc).blk (by repeat first | exact .head _ | refine .tail _ ?_)
    have hkeep : yieldS s r (yieldO s r pre) c = yieldO s r pre → BestI (yieldO s r (pre ++ [c])) v bl := fun hh => by rw [hsn, hh]; exact hI
    have htake : yieldS s r (yieldO s r pre) c = some c → ∀ x, BestI (yieldO s r (pre ++ [c])) x c := fun hh x => by rw [hsn, hh]; exact .inr ⟨hlp, rfl⟩
    (refine q_region ?_; refine ql_pure tabOk rfl rfl ?_; refine q_nil ?_)
    refine hbegin _ _ ?_
    (refine q_block ?_; refine q_seq ?_; refine q_region ?_; refine ql_loadGA tabOk rfl rfl rfl (by assumption) (by rfl) (by rfl) ?_; refine ql_pure tabOk rfl rfl ?_)
    refine ql_callv (val := mkA s r c) tabOk rfl rfl rfl rfl (fun w hs => ?_) ?_; exact broken_ca w lo hi 0 w.heap.size a cp _ s r c (RdE.keep h (hR w hs.chg).chg0) hcr (hs.rdI (v := .slice (some ⟨ug, 0, none⟩) c.length uc) (l := c) (by repeat first | exact .head _ | refine .tail _ ?_) rfl) m2 hlm
    refine ql_call (β := Value) tabOk [] _ M0 rfl rfl rfl rfl (Sp.refl _) (fun _ h => h.elim) (fun w' hs => rules_ca w' (marksV s r c) rfl) ?_
    rintro _ nv rfl
    change QL _ _ _ _ _ _ _ _ _ _ ([.ow nv 88 1 (brkL s r c).length (ints (brkL s r c))] ++ _)
    dsimp only [List.cons_append, List.nil_append]
    refine ql_fact (fun w hs => hs.slice2 (v := nv) (by repeat first | exact .head _ | refine .tail _ ?_)) ?_
    rintro ⟨nva, nvc, rfl⟩
    (refine ql_pure tabOk rfl rfl ?_; refine q_nil ?_; refine q_seq ?_; refine q_region ?_; refine ql_loadB tabOk rfl rfl rfl (by repeat first | exact .head _ | refine .tail _ ?_) (by rfl) ?_)
    rcases hI with ⟨rfl, rfl, hoo⟩ | ⟨hbl, hoo⟩
    · have ht := htake (by simp [yieldS, hoo, bestS])
      refine ql_eqnil tabOk rfl rfl rfl rfl ?_
      (refine ql_pure tabOk rfl rfl ?_; (iterate 5 refine ql_gno rfl rfl rfl ?_); (iterate 2 refine ql_pure tabOk rfl rfl ?_); (iterate 6 refine ql_gno rfl rfl rfl ?_); (iterate 4 refine ql_gnone rfl rfl ?_); refine ql_gno rfl rfl rfl ?_; refine ql_pure tabOk rfl rfl ?_; refine q_nil ?_; refine q_cond_true rfl ?_; refine q_region ?_; (iterate 2 refine ql_pure tabOk rfl rfl ?_); (iterate 2 refine ql_set tabOk rfl rfl rfl rfl (by repeat constructor) ?_); refine q_nil ?_; refine q_blk ?_)
      exact hend _ _ ((_, brkL s r c), _, c) ⟨ht _, hlm, h55, fun _ => rfl⟩ (by repeat (first | exact Sp.nil | exact Sp.refl _ | refine Sp.cons (by repeat constructor) ?_))
    · obtain ⟨vg, vc, rfl⟩ := hsat.ownSome (v := v) (by repeat first | exact .head _ | refine .tail _ ?_) hbl
      obtain rfl := hrl hbl
      refine ql_eqnil tabOk rfl rfl rfl rfl ?_
      (refine ql_pure tabOk rfl rfl ?_; refine ql_gyes rfl ?_; refine ql_pure tabOk rfl rfl ?_; refine ql_gyes rfl ?_; refine ql_pure tabOk rfl rfl ?_; refine ql_gyes rfl ?_; refine ql_loadB tabOk rfl rfl rfl (by repeat first | exact .head _ | refine .tail _ ?_) (by rfl) ?_; refine ql_gyes rfl ?_; refine ql_pure tabOk rfl rfl ?_; refine ql_gyes rfl ?_; (iterate 3 refine ql_pure tabOk rfl rfl ?_))
      by_cases hlt : (brkL s r c).length < (brkL s r bl).length
      · have ht := htake (by simp [yieldS, hoo, bestS, fewB, hlt])
        rw [decide_eq_true (show ((brkL s r c).length : Int) < (brkL s r bl).length by omega)]
        ((iterate 6 refine ql_gno rfl rfl rfl ?_); (iterate 4 refine ql_gnone rfl rfl ?_); refine ql_gno rfl rfl rfl ?_; refine ql_pure tabOk rfl rfl ?_; refine q_nil ?_; refine q_cond_true rfl ?_; refine q_region ?_; (iterate 2 refine ql_pure tabOk rfl rfl ?_); (iterate 2 refine ql_set tabOk rfl rfl rfl rfl (by repeat constructor) ?_); refine q_nil ?_; refine q_blk ?_)
        exact hend _ _ ((_, brkL s r c), _, c) ⟨ht _, hlm, h55, fun _ => rfl⟩ (by repeat (first | exact Sp.nil | exact Sp.refl _ | refine Sp.cons (by repeat constructor) ?_))
      · rw [decide_eq_false (show ¬ ((brkL s r c).length : Int) < (brkL s r bl).length by omega)]
        (refine ql_gyes rfl ?_; refine ql_pure tabOk rfl rfl ?_; refine ql_gyes rfl ?_; refine ql_pure tabOk rfl rfl ?_; refine ql_gyes rfl ?_; refine ql_loadB tabOk rfl rfl rfl (by repeat first | exact .head _ | refine .tail _ ?_) (by rfl) ?_; refine ql_gyes rfl ?_; refine ql_pure tabOk rfl rfl ?_; refine ql_gyes rfl ?_; refine ql_pure tabOk rfl rfl ?_; refine ql_gyes rfl ?_; refine ql_pure tabOk rfl rfl ?_)
        by_cases heq : (brkL s r c).length = (brkL s r bl).length
        · rw [decide_eq_true (show ((brkL s r c).length : Int) = (brkL s r bl).length by omega)]
          (refine ql_gyes rfl ?_; refine ql_pure tabOk rfl rfl ?_; refine ql_gyes rfl ?_; refine ql_loadB tabOk rfl rfl rfl (by repeat first | exact .head _ | refine .tail _ ?_) (by rfl) ?_; refine ql_gyes rfl ?_)
          refine ql_call (β := Int) (ψ := fun z v => v = .int .i64 z ∧ -1 ≤ z ∧ z ≤ 1 ∧ (z < 0 ↔ cmpB (brkL s r c) (brkL s r bl) = true)) (L' := fun _ => []) tabOk [] _ M0 rfl rfl rfl rfl (Sp.refl _) (fun _ h => h.elim) (fun w' hs => compR_ca w' 0 w'.heap.size 0 w'.heap.size _ _ (brkL s r c) (brkL s r bl) (hs.rdI (v := .slice nva (brkL s r c).length nvc) (l := brkL s r c) (by repeat first | exact .head _ | refine .tail _ ?_) rfl) (hs.rdI (v := .slice rva (brkL s r bl).length rvc) (l := brkL s r bl) (by repeat first | exact .head _ | refine .tail _ ?_) rfl) (by omega) (by omega)) ?_
          rintro z _ ⟨rfl, hz1, hz2, hz3⟩
          by_cases hz : z < 0
          · have hcb := hz3.1 hz
            have ht := htake (by simp [yieldS, hoo, bestS, fewB, heq, hcb])
            (refine ql_gyes rfl ?_; refine ql_lssT tabOk rfl rfl rfl (by omega) ?_; refine ql_gyes rfl ?_; (iterate 2 refine ql_pure tabOk rfl rfl ?_); refine q_nil ?_; refine q_cond_true rfl ?_; refine q_region ?_; (iterate 2 refine ql_pure tabOk rfl rfl ?_); (iterate 2 refine ql_set tabOk rfl rfl rfl rfl (by repeat constructor) ?_); refine q_nil ?_; refine q_blk ?_)
            exact hend _ _ ((_, brkL s r c), _, c) ⟨ht _, hlm, h55, fun _ => rfl⟩ (by repeat (first | exact Sp.nil | exact Sp.refl _ | refine Sp.cons (by repeat constructor) ?_))
          · have hcb : cmpB (brkL s r c) (brkL s r bl) = false := Bool.eq_false_iff.2 fun hh => hz (hz3.2 hh)
            have hk := hkeep (by simp [yieldS, hoo, bestS, fewB, heq, hcb])
            (refine ql_gyes rfl ?_; refine ql_lssF tabOk rfl rfl rfl (by omega) ?_; refine ql_gyes rfl ?_; (iterate 2 refine ql_pure tabOk rfl rfl ?_); refine q_nil ?_; refine q_cond_false rfl ?_; refine q_skip ?_; refine q_blk ?_)
            exact hend _ _ ((_, brkL s r bl), _, bl) ⟨hk, h6, h5, fun _ => rfl⟩ (by repeat (first | exact Sp.nil | exact Sp.refl _ | refine Sp.cons (by repeat constructor) ?_))
        · have hk := hkeep (by simp [yieldS, hoo, bestS, fewB, heq, hlt])
          rw [decide_eq_false (show ¬ ((brkL s r c).length : Int) = (brkL s r bl).length by omega)]
          ((iterate 4 refine ql_gno rfl rfl rfl ?_); refine ql_gyes rfl ?_; (iterate 2 refine ql_pure tabOk rfl rfl ?_); refine q_nil ?_; refine q_cond_false rfl ?_; refine q_skip ?_; refine q_blk ?_)
          exact hend _ _ ((_, brkL s r bl), _, bl) ⟨hk, h6, h5, fun _ => rfl⟩ (by repeat (first | exact Sp.nil | exact Sp.refl _ | refine Sp.cons (by repeat constructor) ?_))
  · rintro D ⟨⟨rv, rl⟩, v, bl⟩ ⟨hI, h6, h5, hrl⟩
    simp only at hI h6 h5 hrl
    rcases hI with ⟨_, _, hoo⟩ | ⟨hbl, hoo⟩
    · rw [ho] at hoo; cases hoo
    · rw [ho] at hoo
      cases hoo
      obtain rfl := hrl hbl
      dsimp only [lsK, cK, List.cons_append, List.nil_append]
      (refine q_blk ?_; refine q_seq ?_)
      refine q_draw _ [] (Sp.refl _) (by kernel_rfl) (by kernel_rfl) ?_
      ((iterate 2 refine qf_loadB tabOk rfl rfl rfl (by repeat first | exact .head _ | refine .tail _ ?_) (by rfl) ?_); (iterate 3 refine qf_pure tabOk rfl rfl rfl ?_); refine qf_nil ?_; refine q_ret ?_)
      refine q_fact (fun w hs => hs.slice2 (v := rv) (by repeat first | exact .head _ | refine .tail _ ?_)) ?_
      rintro ⟨ra, rc, rfl⟩
      refine q_fact (fun w hs => hs.slice2 (v := v) (by repeat first | exact .head _ | refine .tail _ ?_)) ?_
      rintro ⟨va, vc, rfl⟩
      skip
      refine q_finMD tabOk (by repeat constructor) rfl (by repeat (first | exact RVs.nil | apply RVs.tmp rfl | apply RVs.cellA rfl rfl (by repeat first | exact .head _ | refine .tail _ ?_) (by rfl) | apply RVs.cell1 rfl rfl (by repeat first | exact .head _ | refine .tail _ ?_))) fun w hs => ?_
      exact ⟨(_, _), rfl, hs.sp (by repeat (first | exact Sp.nil | exact Sp.refl _ | refine Sp.cons (by repeat constructor) ?_))⟩
end Go.Proofs.Ytgeajgmefokifaa

/- The engine, part B27: structs of flat structs compared. -/
namespace Go.Eng
open Go Go.RowKit

section
variable {P : Program}
def nestF (P : Program) : Nat → List Field → List (List (Option IntKind)) → Bool
  | _, [], [] => true
  | o, f :: fs, k :: ks => !(f.name == "_") && Nat.beq f.offset o && flatB P f.type k && Nat.beq (P.cellsOf f.type) k.length && (P.info? f.type).isSome && nestF P (o + k.length) fs ks
  | _, _, _ => false
def nestB (P : Program) (t : Nat) (ks : List (List (Option IntKind))) : Bool :=
  !(P.stoodInHeld t) && !(P.eqGuardType P.depth t) && (match P.underlying t with | some (.struct fs) => nestF P 0 fs.toList ks | _ => false)
theorem fitV_len : ∀ (ks : List (Option IntKind)) (l : List Value), fitV ks l = true → l.length = ks.length
  | [], [], _ => rfl
  | [], _ :: _, h => by simp [fitV] at h
  | k :: ks, l, h => by
    obtain ⟨v, m, rfl, h1, _⟩ := fitV_cons h
    simp [fitV_len ks m h1]
theorem fitV_app : ∀ (ks js : List (Option IntKind)) (l : List Value), fitV (ks ++ js) l = true → ∃ l1 l2, l = l1 ++ l2 ∧ fitV ks l1 = true ∧ fitV js l2 = true
  | [], js, l, h => ⟨[], l, rfl, rfl, h⟩
  | k :: ks, js, l, h => by
    obtain ⟨v, m, rfl, h1, h2⟩ := fitV_cons (show fitV (k :: (ks ++ js)) l = true from h)
    obtain ⟨l1, l2, rfl, h3, h4⟩ := fitV_app ks js m h1
    refine ⟨v :: l1, l2, rfl, ?_, h4⟩
    rcases h2 with ⟨q, a, rfl, rfl⟩ | ⟨b, rfl, rfl⟩
    · simp only [List.cons_append, fitV, Bool.and_eq_true] at h
      simp [fitV, h3, h.1]
    · simp [fitV, h3]
theorem eqL_app : ∀ (ks : List (Option IntKind)) (l1 m1 l2 m2 : List Value), fitV ks l1 = true → fitV ks m1 = true → eqL (l1 ++ l2) (m1 ++ m2) = (eqL l1 m1 && eqL l2 m2)
  | [], l1, m1, l2, m2, h1, h2 => by
    cases l1 <;> simp [fitV] at h1
    cases m1 <;> simp [fitV] at h2
    simp [eqL]
  | k :: ks, l1, m1, l2, m2, h1, h2 => by
    obtain ⟨v, l, rfl, g1, e1⟩ := fitV_cons h1
    obtain ⟨u, m, rfl, g2, e2⟩ := fitV_cons h2
    have ih := eqL_app ks l m l2 m2 g1 g2
    rcases e1 with ⟨q, a, rfl, rfl⟩ | ⟨a, rfl, rfl⟩
    · rcases e2 with ⟨q', b, hq, rfl⟩ | ⟨b, hq, _⟩
      · simp only [List.cons_append, eqL, ih, Bool.and_assoc]
      · cases hq
    · rcases e2 with ⟨q', b, hq, _⟩ | ⟨b, _, rfl⟩
      · cases hq
      · simp only [List.cons_append, eqL, ih, Bool.and_assoc]
theorem run_partA {t n : Nat} {ks : List (Option IntKind)} (h : flatB P t ks = true) (hc : P.cellsOf t = n) (hi : (P.info? t).isSome = true) (xs : List Value) (o : Nat) (w : World) : (part t xs.toArray o).run P w = .ok (.agg ((xs.drop o).take n).toArray) w := by
  obtain ⟨h1, h2, h3, h4⟩ := flat_under h
  obtain ⟨i, hi⟩ := Option.isSome_iff_exists.1 hi
  have e : xs.toArray.extract o (o + n) = ((xs.drop o).take n).toArray := by
    apply Array.ext'
    simp [List.extract_eq_take_drop]
  simp [part, isAgg, run_underlying h3, run_sizeOf w hi, hc, e]
theorem eqFields_nest (d : Nat) (w : World) : ∀ (fs : List Field) (kss : List (List (Option IntKind))) (o : Nat) (xs ys : List Value) (l m : List Value), nestF P o fs kss = true → fitV kss.flatten l = true → fitV kss.flatten m = true → xs.drop o = l → ys.drop o = m →
    (Go.Op.eqFields (d + 2) xs.toArray ys.toArray fs).run P w = .ok (eqL l m) w
  | [], [], o, xs, ys, l, m, _, hl, hm, _, _ => by
    cases l <;> simp [fitV] at hl
    cases m <;> simp [fitV] at hm
    rfl
  | [], _ :: _, _, _, _, _, _, h, _, _, _, _ => by simp [nestF] at h
  | _ :: _, [], _, _, _, _, _, h, _, _, _, _ => by simp [nestF] at h
  | f :: fs, k :: ks, o, xs, ys, l, m, h, hl, hm, ex, ey => by
    simp only [nestF, Bool.and_eq_true] at h
    obtain ⟨⟨⟨⟨⟨hn, ho⟩, hf⟩, hc⟩, hi⟩, hr⟩ := h
    have ho := Nat.eq_of_beq_eq_true ho
    have hc := Nat.eq_of_beq_eq_true hc
    have hn : f.name ≠ "_" := by simpa using hn
    rw [List.flatten_cons] at hl hm
    obtain ⟨l1, l2, rfl, f1, f2⟩ := fitV_app _ _ _ hl
    obtain ⟨m1, m2, rfl, g1, g2⟩ := fitV_app _ _ _ hm
    have n1 := fitV_len _ _ f1
    have n2 := fitV_len _ _ g1
    have dx : xs.drop (o + k.length) = l2 := by rw [← List.drop_drop, ex, ← n1]; simp
    have dy : ys.drop (o + k.length) = m2 := by rw [← List.drop_drop, ey, ← n2]; simp
    have ih := eqFields_nest d w fs ks (o + k.length) xs ys l2 m2 hr f2 g2 dx dy
    have px := run_partA (P := P) hf hc hi xs f.offset w
    have py := run_partA (P := P) hf hc hi ys f.offset w
    rw [ho, ex, List.take_append_of_le_length (by omega), List.take_of_length_le (by omega)] at px
    rw [ho, ey, List.take_append_of_le_length (by omega), List.take_of_length_le (by omega)] at py
    have he := run_eqFlat hf f1 g1 d w
    rw [← ho] at px py
    simp only [Go.Op.eqFields, if_pos hn, Sem.run_bind, px, py, Result.andThen_ok, he]
    rw [eqL_app k l1 m1 l2 m2 f1 g1]
    cases eqL l1 m1
    · simp
    · simpa using ih
theorem nest_under {t : Nat} {ks : List (List (Option IntKind))} (h : nestB P t ks = true) : P.stoodInHeld t = false ∧ P.eqGuardType P.depth t = false ∧ P.underlying t = some (.struct (P.fieldsOf t)) ∧ nestF P 0 (P.fieldsOf t).toList ks = true := by
  simp only [nestB, Bool.and_eq_true, Bool.not_eq_true'] at h
  obtain ⟨⟨h1, h2⟩, h3⟩ := h
  split at h3
  · rename_i fs hu
    refine ⟨h1, h2, ?_, ?_⟩
    · simp [Program.fieldsOf, hu]
    · simpa [Program.fieldsOf, hu] using h3
  · cases h3
theorem run_eqNest {t : Nat} {ks : List (List (Option IntKind))} (h : nestB P t ks = true) {xs ys : List Value} (hx : fitV ks.flatten xs = true) (hy : fitV ks.flatten ys = true) (d : Nat) (w : World) : (Go.Op.equalIn (d + 3) t (.agg xs.toArray) (.agg ys.toArray)).run P w = .ok (eqL xs ys) w := by
  obtain ⟨h1, h2, h3, h4⟩ := nest_under h
  rw [run_equalIn_agg w (d + 2) t _ _ h3 h1]
  exact eqFields_nest d w _ ks 0 xs ys xs ys h4 hx hy rfl rfl
variable {ro : Cx} {n : Nat} {F : Fin} {w0 : World} {M : Nat → Prop} {k : List It} {ops : Array Oper} {rest : List Oper} {e : Env} {H Hq : List Ck}
theorem exec_eqNest {a : Act} {d t t' : Nat} {x y : Operand} {xs ys : List Value} {ks : List (List (Option IntKind))} {ty : TypeId} {pos : String} {af : Array Edge} (hf : Fits n e a) (hx : opv e x = some (.agg xs.toArray)) (hy : opv e y = some (.agg ys.toArray)) (hF : nestB P t ks = true) (h1 : fitV ks.flatten xs = true) (h2 : fitV ks.flatten ys = true) (w : World) :
    (execOp a.eval ⟨some d, .binOp .eql t x y t', ty, pos, af, none⟩).run P w = .ok (.value (.bool (eqL xs ys))) w ∧ (execOp a.eval ⟨some d, .binOp .neq t x y t', ty, pos, af, none⟩).run P w = .ok (.value (.bool (!(eqL xs ys)))) w := by
  have e1 := hf.op hx
  have e2 := hf.op hy
  have h3 := run_eqNest hF h1 h2 9997 w
  have hg := (nest_under hF).2.1
  constructor <;> simp [execOp, e1, e2, run_eqGuard_agg, hg, run_eql_struct, run_neq_struct, h3]
theorem qf_neN (ks : List (List (Option IntKind))) {d t t' : Nat} {x y : Operand} {xs ys : List Value} {ty : TypeId} {pos : String} {af : Array Edge} (hF : nestB P t ks = true) (hx : opv e x = some (.agg xs.toArray)) (hy : opv e y = some (.agg ys.toArray)) (h1 : fitV ks.flatten xs = true) (h2 : fitV ks.flatten ys = true) (hd : Nat.blt d n = true)
    (h : QF P ro n F w0 M k ops Hq rest ((d, .bool (!(eqL xs ys))) :: e) H) : QF P ro n F w0 M k ops Hq (⟨some d, .binOp .neq t x y t', ty, pos, af, none⟩ :: rest) e H := .mk fun w hw =>
  yf_quiet rfl hd (fun _ hf w' _ => (exec_eqNest hf hx hy hF h1 h2 w').2) (h.h w hw)
end
end Go.Eng

/- Walks: lists compared. -/
namespace Go.Proofs.Ytgeajgmefokifaa
open Go Go.Eng

def eqIB (a b : List Int) : Bool := decide (a = b) && true
theorem eqIB_iff {a b : List Int} : eqIB a b = true ↔ a = b := by simp [eqIB]
set_option maxHeartbeats 1000000 in
theorem eqIF_ca (w : World) (lo hi lo2 hi2 : Nat) (v u : Value) (l m : List Int) (h1 : RdI w lo hi v l) (h2 : RdI w lo2 hi2 u m) (hlen : l.length ≤ 1000000) (hlen2 : m.length ≤ 1000000) :
    Ca Try.prog 26 [v, u] w fun r w' => r = .bool (eqIB l m) ∧ Chg [] w w' := by
  obtain ⟨a, ca, rfl, hsa⟩ := RdI.outI h1
  obtain ⟨b, cb, rfl, hsb⟩ := RdI.outI h2
  refine q_of (Sat.nil w M0) Try.func26 rfl (by simp [Try.ntmps26]) ?_
  (refine q_seq ?_; refine q_region ?_; refine ql_pure tabOk rfl rfl ?_; refine q_nil ?_; (iterate 2 refine q_seq ?_); refine q_region ?_; (iterate 5 refine ql_pure tabOk rfl rfl ?_); refine q_nil ?_)
  by_cases hll : l.length = m.length
  · rw [decide_eq_true (show (l.length : Int) = m.length by omega)]
    (refine q_cond_false rfl ?_; refine q_skip ?_; (iterate 2 refine q_seq ?_); refine q_region ?_; (iterate 3 refine ql_pure tabOk rfl rfl ?_); refine q_nil ?_; refine q_block ?_)
    refine q_loop (σ := Nat) (fun s => s ≤ l.length ∧ l.take s = m.take s) (fun s => l.length - s) (fun s => [(0, .slice a l.length ca), (1, .slice b m.length cb), (12, .int .i64 l.length), (13, .int .i64 s)]) (fun _ => []) 0 (by simp) ⟨rfl, rfl, rfl, rfl, trivial⟩ (by repeat (first | exact Sp.nil | exact Sp.refl _ | refine Sp.cons (by repeat constructor) ?_)) ?_
    rintro i ⟨hi, ht⟩ K hK
    (refine q_seq ?_; refine q_region ?_; refine ql_pure tabOk rfl rfl ?_; refine q_nil ?_; refine q_seq ?_)
    refine q_if rfl (fun hc => ?_) (fun hc => ?_)
    · have hi2 : i < l.length := by omega
      have hi3 : i < m.length := by omega
      clear hc
      obtain ⟨ba, oa, rfl⟩ := hsa (by omega)
      obtain ⟨bb, ob, rfl⟩ := hsb (by omega)
      (refine q_skip ?_; refine q_seq ?_; refine q_block ?_; refine q_seq ?_; refine q_region ?_; (iterate 2 refine ql_pure tabOk rfl rfl ?_); refine q_nil ?_; refine q_seq ?_)
      refine q_draw _ [] (Sp.refl _) (by kernel_rfl) (by kernel_rfl) ?_
      ((iterate 2 refine qf_pure tabOk rfl rfl rfl ?_))
      (refine qf_index tabOk rfl rfl rfl rfl rfl (by omega) (by omega) ?_; refine qf_load1 tabOk rfl rfl rfl (fun w hs => RdI.at (RdE.keep h1 hs.chg0) i hi2) ?_)
      ((iterate 2 refine qf_pure tabOk rfl rfl rfl ?_))
      (refine qf_index tabOk rfl rfl rfl rfl rfl (by omega) (by omega) ?_; refine qf_load1 tabOk rfl rfl rfl (fun w hs => RdI.at (RdE.keep h2 hs.chg0) i hi3) ?_)
      (refine qf_pure tabOk rfl rfl rfl ?_; refine qf_nil ?_)
      by_cases he : l[i] = m[i]
      · skip
        rw [decide_eq_true he]
        (refine q_cond_false rfl ?_; refine q_skip ?_; refine q_blk ?_; refine q_region ?_; refine ql_ar tabOk rfl rfl rfl rfl (by omega) (by omega) ?_; refine ql_pure tabOk rfl rfl ?_; refine q_nil ?_)
        exact hK (i + 1) _ _ ⟨by omega, by rw [List.take_succ_eq_append_getElem hi2, List.take_succ_eq_append_getElem hi3, ht, he]⟩ (by omega) ⟨rfl, rfl, rfl, rfl, trivial⟩ (by repeat (first | exact Sp.nil | exact Sp.refl _ | refine Sp.cons (by repeat constructor) ?_))
      · have e : eqIB l m = false := Bool.eq_false_iff.2 fun hh => he (by have := eqIB_iff.1 hh; subst this; rfl)
        rw [e, decide_eq_false he]
        (refine q_cond_true rfl ?_; refine q_seq ?_; refine q_region ?_; refine ql_pure tabOk rfl rfl ?_; refine q_nil ?_; refine q_ret ?_)
        refine q_fin tabOk rfl (by repeat (first | exact RVs.nil | apply RVs.tmp rfl | apply RVs.cellA rfl rfl (by repeat first | exact .head _ | refine .tail _ ?_) (by rfl) | apply RVs.cell1 rfl rfl (by repeat first | exact .head _ | refine .tail _ ?_))) fun w hs => ?_
        exact ⟨rfl, hs.chg0⟩
    · obtain rfl : i = l.length := by omega
      have e : eqIB l m = true := eqIB_iff.2 (by rw [List.take_length] at ht; rw [hll, List.take_length] at ht; exact ht)
      rw [e]
      (refine q_exit _ rfl ?_; refine q_seq ?_; refine q_region ?_; refine ql_pure tabOk rfl rfl ?_; refine q_nil ?_; refine q_ret ?_)
      refine q_fin tabOk rfl (by repeat (first | exact RVs.nil | apply RVs.tmp rfl | apply RVs.cellA rfl rfl (by repeat first | exact .head _ | refine .tail _ ?_) (by rfl) | apply RVs.cell1 rfl rfl (by repeat first | exact .head _ | refine .tail _ ?_))) fun w hs => ?_
      exact ⟨rfl, hs.chg0⟩
  · have e : eqIB l m = false := Bool.eq_false_iff.2 fun hh => hll (by rw [eqIB_iff.1 hh])
    rw [e, decide_eq_false (show ¬ (l.length : Int) = m.length by omega)]
    (refine q_cond_true rfl ?_; refine q_seq ?_; refine q_region ?_; refine ql_pure tabOk rfl rfl ?_; refine q_nil ?_; refine q_ret ?_)
    refine q_fin tabOk rfl (by repeat (first | exact RVs.nil | apply RVs.tmp rfl | apply RVs.cellA rfl rfl (by repeat first | exact .head _ | refine .tail _ ?_) (by rfl) | apply RVs.cell1 rfl rfl (by repeat first | exact .head _ | refine .tail _ ?_))) fun w hs => ?_
    exact ⟨rfl, hs.chg0⟩
theorem eqI_ca (w : World) (lo hi lo2 hi2 : Nat) (v u : Value) (l : List Int) (h1 : RdI w lo hi v l) (h2 : RdI w lo2 hi2 u l) (hlen : l.length ≤ 1000000) :
    Ca Try.prog 26 [v, u] w fun r w' => r = .bool true ∧ Chg [] w w' := by
  have h := eqIF_ca w lo hi lo2 hi2 v u l l h1 h2 hlen hlen
  rwa [eqIB_iff.2 rfl] at h

set_option maxHeartbeats 1000000 in
theorem eqII_ca (w : World) (lo hi lo2 hi2 : Nat) (v u : Value) (ll : List (List Int)) (h1 : RdII w lo hi v ll) (h2 : RdII w lo2 hi2 u ll) (hlen : ll.length ≤ 1000000) (hrow : ∀ l ∈ ll, l.length ≤ 1000000) :
    Ca Try.prog 32 [v, u] w fun r w' => r = .bool true ∧ Chg [] w w' := by
  obtain ⟨a, ca, rfl, hsa⟩ := RdII.outI h1
  obtain ⟨b, cb, rfl, hsb⟩ := RdII.outI h2
  refine q_of (Sat.nil w M0) Try.func32 rfl (by simp [Try.ntmps32]) ?_
  (refine q_seq ?_; refine q_region ?_; refine ql_pure tabOk rfl rfl ?_; refine q_nil ?_; (iterate 2 refine q_seq ?_); refine q_region ?_; (iterate 4 refine ql_pure tabOk rfl rfl ?_); refine ql_neqF tabOk rfl rfl rfl (by omega) ?_; refine q_nil ?_; refine q_cond_false rfl ?_; refine q_skip ?_; (iterate 2 refine q_seq ?_); refine q_region ?_; (iterate 3 refine ql_pure tabOk rfl rfl ?_); refine q_nil ?_; refine q_block ?_)
  refine q_loop (σ := Nat) (fun s => s ≤ ll.length) (fun s => ll.length - s) (fun s => [(0, .slice a ll.length ca), (1, .slice b ll.length cb), (12, .int .i64 ll.length), (13, .int .i64 s)]) (fun _ => []) 0 (by omega) ⟨rfl, rfl, rfl, rfl, trivial⟩ (by repeat (first | exact Sp.nil | exact Sp.refl _ | refine Sp.cons (by repeat constructor) ?_)) ?_
  intro i hi K hK
  (refine q_seq ?_; refine q_region ?_; refine ql_pure tabOk rfl rfl ?_; refine q_nil ?_; refine q_seq ?_)
  refine q_if rfl (fun hc => ?_) (fun hc => ?_)
  · have hi2 : i < ll.length := by omega
    clear hc
    obtain ⟨ba, oa, rfl⟩ := hsa (by omega)
    obtain ⟨bb, ob, rfl⟩ := hsb (by omega)
    obtain ⟨ar, cr, hr1, hc1⟩ := h1.row i hi2
    obtain ⟨br, dr, hr2, hc2⟩ := h2.row i hi2
    have hrl := hrow _ (List.getElem_mem hi2)
    (refine q_skip ?_; refine q_seq ?_; refine q_block ?_; refine q_seq ?_; refine q_region ?_; (iterate 2 refine ql_pure tabOk rfl rfl ?_); refine q_nil ?_; refine q_seq ?_)
    refine q_draw _ [] (Sp.refl _) (by kernel_rfl) (by kernel_rfl) ?_
    ((iterate 2 refine qf_pure tabOk rfl rfl rfl ?_))
    refine qf_index tabOk rfl rfl rfl rfl rfl (by omega) (by omega) ?_
    refine qf_load1 (v := .slice ar ll[i].length cr) tabOk rfl rfl rfl (fun w' hs => hc1 w' hs.chg0) ?_
    ((iterate 2 refine qf_pure tabOk rfl rfl rfl ?_))
    refine qf_index tabOk rfl rfl rfl rfl rfl (by omega) (by omega) ?_
    refine qf_load1 (v := .slice br ll[i].length dr) tabOk rfl rfl rfl (fun w' hs => hc2 w' hs.chg0) ?_
    skip
    refine qf_callv (val := .bool true) tabOk rfl rfl rfl rfl (fun w hs => ?_) ?_; exact eqI_ca w _ _ _ _ _ _ ll[i] (RdE.keep hr1 hs.chg0) (RdE.keep hr2 hs.chg0) hrl
    (refine qf_pure tabOk rfl rfl rfl ?_; refine qf_nil ?_; refine q_cond_false rfl ?_; refine q_skip ?_; refine q_blk ?_; refine q_region ?_; refine ql_ar tabOk rfl rfl rfl rfl (by omega) (by omega) ?_; refine ql_pure tabOk rfl rfl ?_; refine q_nil ?_)
    exact hK (i + 1) _ _ (by omega) (by omega) ⟨rfl, rfl, rfl, rfl, trivial⟩ (by repeat (first | exact Sp.nil | exact Sp.refl _ | refine Sp.cons (by repeat constructor) ?_))
  · (refine q_exit _ rfl ?_; refine q_seq ?_; refine q_region ?_; refine ql_pure tabOk rfl rfl ?_; refine q_nil ?_; refine q_ret ?_)
    refine q_fin tabOk rfl (by repeat (first | exact RVs.nil | apply RVs.tmp rfl | apply RVs.cellA rfl rfl (by repeat first | exact .head _ | refine .tail _ ?_) (by rfl) | apply RVs.cell1 rfl rfl (by repeat first | exact .head _ | refine .tail _ ?_))) fun w hs => ?_
    exact ⟨rfl, hs.chg0⟩

set_option maxHeartbeats 1000000 in
theorem eqR_ca (w : World) (lo hi lo2 hi2 : Nat) (v u : Value) (l : List Int) (h1 : RdI w lo hi v l) (h2 : RdI w lo2 hi2 u l) (hlen : l.length ≤ 1000000) :
    Ca Try.prog 49 [v, u] w fun r w' => r = .bool true ∧ Chg [] w w' := by
  obtain ⟨a, ca, rfl, hsa⟩ := RdI.outI h1
  obtain ⟨b, cb, rfl, hsb⟩ := RdI.outI h2
  refine q_of (Sat.nil w M0) Try.func49 rfl (by simp [Try.ntmps49]) ?_
  (refine q_seq ?_; refine q_region ?_; refine ql_pure tabOk rfl rfl ?_; refine q_nil ?_; (iterate 2 refine q_seq ?_); refine q_region ?_; (iterate 4 refine ql_pure tabOk rfl rfl ?_); refine ql_neqF tabOk rfl rfl rfl (by omega) ?_; refine q_nil ?_; refine q_cond_false rfl ?_; refine q_skip ?_; (iterate 2 refine q_seq ?_); refine q_region ?_; (iterate 3 refine ql_pure tabOk rfl rfl ?_); refine q_nil ?_; refine q_block ?_)
  refine q_loop (σ := Nat) (fun s => s ≤ l.length) (fun s => l.length - s) (fun s => [(0, .slice a l.length ca), (1, .slice b l.length cb), (12, .int .i64 l.length), (13, .int .i64 s)]) (fun _ => []) 0 (by omega) ⟨rfl, rfl, rfl, rfl, trivial⟩ (by repeat (first | exact Sp.nil | exact Sp.refl _ | refine Sp.cons (by repeat constructor) ?_)) ?_
  intro i hi K hK
  (refine q_seq ?_; refine q_region ?_; refine ql_pure tabOk rfl rfl ?_; refine q_nil ?_; refine q_seq ?_)
  refine q_if rfl (fun hc => ?_) (fun hc => ?_)
  · have hi2 : i < l.length := by omega
    clear hc
    obtain ⟨ba, oa, rfl⟩ := hsa (by omega)
    obtain ⟨bb, ob, rfl⟩ := hsb (by omega)
    (refine q_skip ?_; refine q_seq ?_; refine q_block ?_; refine q_seq ?_; refine q_region ?_; (iterate 2 refine ql_pure tabOk rfl rfl ?_); refine q_nil ?_; refine q_seq ?_)
    refine q_draw _ [] (Sp.refl _) (by kernel_rfl) (by kernel_rfl) ?_
    ((iterate 2 refine qf_pure tabOk rfl rfl rfl ?_))
    (refine qf_index tabOk rfl rfl rfl rfl rfl (by omega) (by omega) ?_; refine qf_load1 tabOk rfl rfl rfl (fun w hs => RdI.at (RdE.keep h1 hs.chg0) i hi2) ?_)
    ((iterate 2 refine qf_pure tabOk rfl rfl rfl ?_))
    (refine qf_index tabOk rfl rfl rfl rfl rfl (by omega) (by omega) ?_; refine qf_load1 tabOk rfl rfl rfl (fun w hs => RdI.at (RdE.keep h2 hs.chg0) i hi2) ?_)
    (refine qf_neqF tabOk rfl rfl rfl (by omega) ?_; refine qf_nil ?_; refine q_cond_false rfl ?_; refine q_skip ?_; refine q_blk ?_; refine q_region ?_; refine ql_ar tabOk rfl rfl rfl rfl (by omega) (by omega) ?_; refine ql_pure tabOk rfl rfl ?_; refine q_nil ?_)
    skip
    exact hK (i + 1) _ _ (by omega) (by omega) ⟨rfl, rfl, rfl, rfl, trivial⟩ (by repeat (first | exact Sp.nil | exact Sp.refl _ | refine Sp.cons (by repeat constructor) ?_))
  · (refine q_exit _ rfl ?_; refine q_seq ?_; refine q_region ?_; refine ql_pure tabOk rfl rfl ?_; refine q_nil ?_; refine q_ret ?_)
    refine q_fin tabOk rfl (by repeat (first | exact RVs.nil | apply RVs.tmp rfl | apply RVs.cellA rfl rfl (by repeat first | exact .head _ | refine .tail _ ?_) (by rfl) | apply RVs.cell1 rfl rfl (by repeat first | exact .head _ | refine .tail _ ?_))) fun w hs => ?_
    exact ⟨rfl, hs.chg0⟩

theorem spn_flat : flatB Try.prog 24 [some .i64, some .i64] = true := by kernel_rfl
set_option maxHeartbeats 1000000 in
theorem eqS_ca (w : World) (lo hi lo2 hi2 : Nat) (v u : Value) (l : List (Int × Int)) (h1 : RdS w lo hi v l) (h2 : RdS w lo2 hi2 u l) (hlen : l.length ≤ 1000000) :
    Ca Try.prog 59 [v, u] w fun r w' => r = .bool true ∧ Chg [] w w' := by
  obtain ⟨a, ca, rfl, hsa⟩ := RdS.outI h1
  obtain ⟨b, cb, rfl, hsb⟩ := RdS.outI h2
  refine q_of (Sat.nil w M0) Try.func59 rfl (by simp [Try.ntmps59]) ?_
  (refine q_seq ?_; refine q_region ?_; refine ql_pure tabOk rfl rfl ?_; refine q_nil ?_; (iterate 2 refine q_seq ?_); refine q_region ?_; (iterate 4 refine ql_pure tabOk rfl rfl ?_); refine ql_neqF tabOk rfl rfl rfl (by omega) ?_; refine q_nil ?_; refine q_cond_false rfl ?_; refine q_skip ?_; (iterate 2 refine q_seq ?_); refine q_region ?_; (iterate 3 refine ql_pure tabOk rfl rfl ?_); refine q_nil ?_; refine q_block ?_)
  refine q_loop (σ := Nat) (fun s => s ≤ l.length) (fun s => l.length - s) (fun s => [(0, .slice a l.length ca), (1, .slice b l.length cb), (12, .int .i64 l.length), (13, .int .i64 s)]) (fun _ => []) 0 (by omega) ⟨rfl, rfl, rfl, rfl, trivial⟩ (by repeat (first | exact Sp.nil | exact Sp.refl _ | refine Sp.cons (by repeat constructor) ?_)) ?_
  intro i hi K hK
  (refine q_seq ?_; refine q_region ?_; refine ql_pure tabOk rfl rfl ?_; refine q_nil ?_; refine q_seq ?_)
  refine q_if rfl (fun hc => ?_) (fun hc => ?_)
  · have hi2 : i < l.length := by omega
    clear hc
    obtain ⟨ba, oa, rfl⟩ := hsa (by omega)
    obtain ⟨bb, ob, rfl⟩ := hsb (by omega)
    (refine q_skip ?_; refine q_seq ?_; refine q_block ?_; refine q_seq ?_; refine q_region ?_; (iterate 2 refine ql_pure tabOk rfl rfl ?_); refine q_nil ?_; refine q_seq ?_)
    refine q_draw _ [] (Sp.refl _) (by kernel_rfl) (by kernel_rfl) ?_
    ((iterate 2 refine qf_pure tabOk rfl rfl rfl ?_))
    refine qf_index tabOk rfl rfl rfl rfl rfl (by omega) (by omega) ?_
    refine qf_loadA tabOk rfl rfl rfl rfl (fun w hs => RdS.at (RdE.keep h1 hs.chg0) i hi2) ?_
    ((iterate 2 refine qf_pure tabOk rfl rfl rfl ?_))
    refine qf_index tabOk rfl rfl rfl rfl rfl (by omega) (by omega) ?_
    refine qf_loadA tabOk rfl rfl rfl rfl (fun w hs => RdS.at (RdE.keep h2 hs.chg0) i hi2) ?_
    skip
    refine qf_neF [some .i64, some .i64] spn_flat rfl rfl rfl rfl rfl ?_
    rw [eqL_refl]
    (refine qf_nil ?_; refine q_cond_false rfl ?_; refine q_skip ?_; refine q_blk ?_; refine q_region ?_; refine ql_ar tabOk rfl rfl rfl rfl (by omega) (by omega) ?_; refine ql_pure tabOk rfl rfl ?_; refine q_nil ?_)
    exact hK (i + 1) _ _ (by omega) (by omega) ⟨rfl, rfl, rfl, rfl, trivial⟩ (by repeat (first | exact Sp.nil | exact Sp.refl _ | refine Sp.cons (by repeat constructor) ?_))
  · (refine q_exit _ rfl ?_; refine q_seq ?_; refine q_region ?_; refine ql_pure tabOk rfl rfl ?_; refine q_nil ?_; refine q_ret ?_)
    refine q_fin tabOk rfl (by repeat (first | exact RVs.nil | apply RVs.tmp rfl | apply RVs.cellA rfl rfl (by repeat first | exact .head _ | refine .tail _ ?_) (by rfl) | apply RVs.cell1 rfl rfl (by repeat first | exact .head _ | refine .tail _ ?_))) fun w hs => ?_
    exact ⟨rfl, hs.chg0⟩

theorem pil_flat : flatB Try.prog 117 [some .i64, some .i64] = true := by kernel_rfl
set_option maxHeartbeats 1000000 in
theorem eqP_ca (w : World) (lo hi lo2 hi2 : Nat) (v u : Value) (l : List (Int × Int)) (h1 : RdS w lo hi v l) (h2 : RdS w lo2 hi2 u l) (hlen : l.length ≤ 1000000) :
    Ca Try.prog 83 [v, u] w fun r w' => r = .bool true ∧ Chg [] w w' := by
  obtain ⟨a, ca, rfl, hsa⟩ := RdS.outI h1
  obtain ⟨b, cb, rfl, hsb⟩ := RdS.outI h2
  refine q_of (Sat.nil w M0) Try.func83 rfl (by simp [Try.ntmps83]) ?_
  (refine q_seq ?_; refine q_region ?_; refine ql_pure tabOk rfl rfl ?_; refine q_nil ?_; (iterate 2 refine q_seq ?_); refine q_region ?_; (iterate 4 refine ql_pure tabOk rfl rfl ?_); refine ql_neqF tabOk rfl rfl rfl (by omega) ?_; refine q_nil ?_; refine q_cond_false rfl ?_; refine q_skip ?_; (iterate 2 refine q_seq ?_); refine q_region ?_; (iterate 3 refine ql_pure tabOk rfl rfl ?_); refine q_nil ?_; refine q_block ?_)
  refine q_loop (σ := Nat) (fun s => s ≤ l.length) (fun s => l.length - s) (fun s => [(0, .slice a l.length ca), (1, .slice b l.length cb), (12, .int .i64 l.length), (13, .int .i64 s)]) (fun _ => []) 0 (by omega) ⟨rfl, rfl, rfl, rfl, trivial⟩ (by repeat (first | exact Sp.nil | exact Sp.refl _ | refine Sp.cons (by repeat constructor) ?_)) ?_
  intro i hi K hK
  (refine q_seq ?_; refine q_region ?_; refine ql_pure tabOk rfl rfl ?_; refine q_nil ?_; refine q_seq ?_)
  refine q_if rfl (fun hc => ?_) (fun hc => ?_)
  · have hi2 : i < l.length := by omega
    clear hc
    obtain ⟨ba, oa, rfl⟩ := hsa (by omega)
    obtain ⟨bb, ob, rfl⟩ := hsb (by omega)
    (refine q_skip ?_; refine q_seq ?_; refine q_block ?_; refine q_seq ?_; refine q_region ?_; (iterate 2 refine ql_pure tabOk rfl rfl ?_); refine q_nil ?_; refine q_seq ?_)
    refine q_draw _ [] (Sp.refl _) (by kernel_rfl) (by kernel_rfl) ?_
    ((iterate 2 refine qf_pure tabOk rfl rfl rfl ?_))
    refine qf_index tabOk rfl rfl rfl rfl rfl (by omega) (by omega) ?_
    refine qf_loadA tabOk rfl rfl rfl rfl (fun w hs => RdS.at (RdE.keep h1 hs.chg0) i hi2) ?_
    ((iterate 2 refine qf_pure tabOk rfl rfl rfl ?_))
    refine qf_index tabOk rfl rfl rfl rfl rfl (by omega) (by omega) ?_
    refine qf_loadA tabOk rfl rfl rfl rfl (fun w hs => RdS.at (RdE.keep h2 hs.chg0) i hi2) ?_
    skip
    refine qf_neF [some .i64, some .i64] pil_flat rfl rfl rfl rfl rfl ?_
    rw [eqL_refl]
    (refine qf_nil ?_; refine q_cond_false rfl ?_; refine q_skip ?_; refine q_blk ?_; refine q_region ?_; refine ql_ar tabOk rfl rfl rfl rfl (by omega) (by omega) ?_; refine ql_pure tabOk rfl rfl ?_; refine q_nil ?_)
    exact hK (i + 1) _ _ (by omega) (by omega) ⟨rfl, rfl, rfl, rfl, trivial⟩ (by repeat (first | exact Sp.nil | exact Sp.refl _ | refine Sp.cons (by repeat constructor) ?_))
  · (refine q_exit _ rfl ?_; refine q_seq ?_; refine q_region ?_; refine ql_pure tabOk rfl rfl ?_; refine q_nil ?_; refine q_ret ?_)
    refine q_fin tabOk rfl (by repeat (first | exact RVs.nil | apply RVs.tmp rfl | apply RVs.cellA rfl rfl (by repeat first | exact .head _ | refine .tail _ ?_) (by rfl) | apply RVs.cell1 rfl rfl (by repeat first | exact .head _ | refine .tail _ ?_))) fun w hs => ?_
    exact ⟨rfl, hs.chg0⟩

theorem dy_nest : nestB Try.prog 73 [[some .i64, some .i64], [some .i64, some .i64], [some .i64, some .i64]] = true := by kernel_rfl
set_option maxHeartbeats 1000000 in
theorem eqD_ca (w : World) (lo hi lo2 hi2 : Nat) (v u : Value) (l : List Dy) (h1 : RdD w lo hi v l) (h2 : RdD w lo2 hi2 u l) (hlen : l.length ≤ 1000000) :
    Ca Try.prog 112 [v, u] w fun r w' => r = .bool true ∧ Chg [] w w' := by
  obtain ⟨a, ca, rfl, hsa⟩ := RdD.outI h1
  obtain ⟨b, cb, rfl, hsb⟩ := RdD.outI h2
  refine q_of (Sat.nil w M0) Try.func112 rfl (by simp [Try.ntmps112]) ?_
  (refine q_seq ?_; refine q_region ?_; refine ql_pure tabOk rfl rfl ?_; refine q_nil ?_; (iterate 2 refine q_seq ?_); refine q_region ?_; (iterate 4 refine ql_pure tabOk rfl rfl ?_); refine ql_neqF tabOk rfl rfl rfl (by omega) ?_; refine q_nil ?_; refine q_cond_false rfl ?_; refine q_skip ?_; (iterate 2 refine q_seq ?_); refine q_region ?_; (iterate 3 refine ql_pure tabOk rfl rfl ?_); refine q_nil ?_; refine q_block ?_)
  refine q_loop (σ := Nat) (fun s => s ≤ l.length) (fun s => l.length - s) (fun s => [(0, .slice a l.length ca), (1, .slice b l.length cb), (12, .int .i64 l.length), (13, .int .i64 s)]) (fun _ => []) 0 (by omega) ⟨rfl, rfl, rfl, rfl, trivial⟩ (by repeat (first | exact Sp.nil | exact Sp.refl _ | refine Sp.cons (by repeat constructor) ?_)) ?_
  intro i hi K hK
  (refine q_seq ?_; refine q_region ?_; refine ql_pure tabOk rfl rfl ?_; refine q_nil ?_; refine q_seq ?_)
  refine q_if rfl (fun hc => ?_) (fun hc => ?_)
  · have hi2 : i < l.length := by omega
    clear hc
    obtain ⟨ba, oa, rfl⟩ := hsa (by omega)
    obtain ⟨bb, ob, rfl⟩ := hsb (by omega)
    (refine q_skip ?_; refine q_seq ?_; refine q_block ?_; refine q_seq ?_; refine q_region ?_; (iterate 2 refine ql_pure tabOk rfl rfl ?_); refine q_nil ?_; refine q_seq ?_)
    refine q_draw _ [] (Sp.refl _) (by kernel_rfl) (by kernel_rfl) ?_
    ((iterate 2 refine qf_pure tabOk rfl rfl rfl ?_))
    refine qf_index tabOk rfl rfl rfl rfl rfl (by omega) (by omega) ?_
    refine qf_loadA tabOk rfl rfl rfl rfl (fun w hs => RdD.at (RdE.keep h1 hs.chg0) i hi2) ?_
    ((iterate 2 refine qf_pure tabOk rfl rfl rfl ?_))
    refine qf_index tabOk rfl rfl rfl rfl rfl (by omega) (by omega) ?_
    refine qf_loadA tabOk rfl rfl rfl rfl (fun w hs => RdD.at (RdE.keep h2 hs.chg0) i hi2) ?_
    skip
    refine qf_neN [[some .i64, some .i64], [some .i64, some .i64], [some .i64, some .i64]] dy_nest rfl rfl rfl rfl rfl ?_
    rw [eqL_refl]
    (refine qf_nil ?_; refine q_cond_false rfl ?_; refine q_skip ?_; refine q_blk ?_; refine q_region ?_; refine ql_ar tabOk rfl rfl rfl rfl (by omega) (by omega) ?_; refine ql_pure tabOk rfl rfl ?_; refine q_nil ?_)
    exact hK (i + 1) _ _ (by omega) (by omega) ⟨rfl, rfl, rfl, rfl, trivial⟩ (by repeat (first | exact Sp.nil | exact Sp.refl _ | refine Sp.cons (by repeat constructor) ?_))
  · (refine q_exit _ rfl ?_; refine q_seq ?_; refine q_region ?_; refine ql_pure tabOk rfl rfl ?_; refine q_nil ?_; refine q_ret ?_)
    refine q_fin tabOk rfl (by repeat (first | exact RVs.nil | apply RVs.tmp rfl | apply RVs.cellA rfl rfl (by repeat first | exact .head _ | refine .tail _ ?_) (by rfl) | apply RVs.cell1 rfl rfl (by repeat first | exact .head _ | refine .tail _ ?_))) fun w hs => ?_
    exact ⟨rfl, hs.chg0⟩
end Go.Proofs.Ytgeajgmefokifaa

/- Walks: the examples; awake. -/
namespace Go.Proofs.Ytgeajgmefokifaa
open Go Go.Eng

theorem Blk.rdS {w : World} {b : Nat} {l : List (Int × Int)} {cs : List Value} {t : TypeId} {c : Nat} (h : Blk w b cs t) (hc : cs = spC l) : RdS w 0 w.heap.size (.slice (some ⟨b, 0, none⟩) l.length c) l := by
  subst hc
  exact RdS.of ⟨spC_length l, .inr ⟨b, 0, c, rfl, fun _ => ⟨Nat.zero_le _, h.lt, h.lt⟩, fun j _ => by rw [Blk.cell h]; simp⟩⟩
theorem Blk.rdL {w : World} {b : Nat} {l : List Lp} {cs : List Value} {t : TypeId} {c : Nat} (h : Blk w b cs t) (hc : cs = lpC l) : RdL w 0 w.heap.size (.slice (some ⟨b, 0, none⟩) l.length c) l := by
  subst hc
  exact RdL.of ⟨lpC_length l, .inr ⟨b, 0, c, rfl, fun _ => ⟨Nat.zero_le _, h.lt, h.lt⟩, fun j _ => by rw [Blk.cell h]; simp⟩⟩
theorem Blk.rdD {w : World} {b : Nat} {l : List Dy} {cs : List Value} {t : TypeId} {c : Nat} (h : Blk w b cs t) (hc : cs = dyC l) : RdD w 0 w.heap.size (.slice (some ⟨b, 0, none⟩) l.length c) l := by
  subst hc
  exact RdD.of ⟨dyC_length l, .inr ⟨b, 0, c, rfl, fun _ => ⟨Nat.zero_le _, h.lt, h.lt⟩, fun j _ => by rw [Blk.cell h]; simp⟩⟩
theorem RdII.of {w : World} {lo hi : Nat} {v : Value} {ll : List (List Int)} {vs : List Value} (h : Rd w lo hi v 1 vs.length vs) (h1 : vs.length = ll.length) (h2 : ∀ i (h : i < vs.length) (h' : i < ll.length), RdI w lo hi vs[i] ll[i]) (h3 : ∀ e ∈ vs, oneV e = true) : RdII w lo hi v ll :=
  ⟨vs, RdE.one h h3, h1, h2⟩
theorem spanM_ca (a b : Int) (w : World) : Ca Try.prog 42 [.int .i64 a, .int .i64 b] w fun v w' => v = .agg #[.int .i64 a, .int .i64 b] ∧ Chg [] w w' := by
  refine q_of (Sat.nil w M0) Try.func42 rfl (by simp [Try.ntmps42]) ?_
  (refine q_seq ?_; refine q_region ?_)
  refine ql_alloc zero24 rfl (fun b2 => ?_)
  (refine q_nil ?_; refine q_seq ?_; refine q_region ?_; (iterate 2 refine ql_pure tabOk rfl rfl ?_))
  refine ql_mk #[.int .i64 a, .int .i64 b] rfl (by kernel_rfl) rfl ?_
  (refine ql_setA tabOk rfl rfl rfl rfl rfl (by repeat constructor) rfl ?_; refine q_nil ?_; refine q_ret ?_)
  refine q_fin tabOk rfl (by repeat (first | exact RVs.nil | apply RVs.tmp rfl | apply RVs.cellA rfl rfl (by repeat first | exact .head _ | refine .tail _ ?_) (by rfl) | apply RVs.cell1 rfl rfl (by repeat first | exact .head _ | refine .tail _ ?_))) fun w hs => ?_
  exact ⟨rfl, hs.chg0⟩
def threeS : List Lp := [⟨2000, 60, 6⟩, ⟨2500, 90, 6⟩, ⟨3000, 100, 6⟩]
def threeR : Rl := ⟨3, 7000, 7500, 200, 270, 2000, 3000, 6, 2⟩
def threeQ : Rl := ⟨3, 7000, 7000, 200, 270, 2000, 3000, 6, 1⟩
def shortW (n : Int) : Wn := ⟨500, 800, [⟨300, 300, 100, 200, 10, 20⟩, ⟨200, 400, 300, 600, 10, 20⟩, ⟨min n 500, n, 0, 100, 10, 20⟩]⟩
theorem three_ca (w : World) : Ca Try.prog 86 [] w fun v w' => ∃ b : Nat, v = .tuple #[.slice (some ⟨b, 0, none⟩) 3 3, .agg (rlC threeR).toArray] ∧ Sat w M0 [.pt b (lpC threeS) 31] w' := by
  refine q_of (Sat.nil w M0) Try.func86 rfl (by simp [Try.ntmps86]) ?_
  (refine q_seq ?_; refine q_region ?_; refine ql_pure tabOk rfl rfl ?_)
  refine ql_alloc zero26 rfl (fun b1 => ?_)
  (refine q_nil ?_; refine q_seq ?_; refine q_region ?_)
  refine ql_mk #[.int .i64 2000, .int .i64 60, .int .i64 6] rfl (by kernel_rfl) rfl ?_
  refine ql_mk #[.int .i64 2500, .int .i64 90, .int .i64 6] rfl (by kernel_rfl) rfl ?_
  refine ql_mk #[.int .i64 3000, .int .i64 100, .int .i64 6] rfl (by kernel_rfl) rfl ?_
  refine ql_mkS 31 (lpC threeS) rfl (by kernel_rfl) rfl (fun bn => ?_)
  refine ql_callv tabOk rfl rfl rfl rfl (fun w hs => spanM_ca _ _ w) ?_
  refine ql_callv tabOk rfl rfl rfl rfl (fun w hs => spanM_ca _ _ w) ?_
  refine ql_callv tabOk rfl rfl rfl rfl (fun w hs => spanM_ca _ _ w) ?_
  refine ql_mk #[.int .i64 3, .int .i64 7000, .int .i64 7500, .int .i64 200, .int .i64 270, .int .i64 2000, .int .i64 3000, .int .i64 6, .int .i64 2] rfl (by kernel_rfl) rfl ?_
  (refine ql_pure tabOk rfl rfl ?_; refine ql_setA tabOk rfl rfl rfl rfl rfl (by repeat constructor) rfl ?_; refine q_nil ?_; refine q_ret ?_)
  refine q_fin tabOk rfl (by repeat (first | exact RVs.nil | apply RVs.tmp rfl | apply RVs.cellA rfl rfl (by repeat first | exact .head _ | refine .tail _ ?_) (by rfl) | apply RVs.cell1 rfl rfl (by repeat first | exact .head _ | refine .tail _ ?_))) fun w hs => ?_
  exact ⟨bn, rfl, hs.sp (by repeat (first | exact Sp.nil | exact Sp.refl _ | refine Sp.cons (by repeat constructor) ?_))⟩
theorem short_ca (w : World) (n : Int) : Ca Try.prog 87 [.int .i64 n] w fun v w' => ∃ b : Nat, v = .agg #[.int .i64 500, .int .i64 800, .slice (some ⟨b, 0, none⟩) 3 3] ∧ Sat w M0 [.pt b (dyC (shortW n).days) 73] w' := by
  refine q_of (Sat.nil w M0) Try.func87 rfl (by simp [Try.ntmps87]) ?_
  (refine q_seq ?_; refine q_region ?_)
  refine ql_alloc zero61 rfl (fun b2 => ?_)
  (refine q_nil ?_; refine q_seq ?_; refine q_region ?_)
  refine ql_callv tabOk rfl rfl rfl rfl (fun w hs => spanM_ca _ _ w) ?_
  refine ql_callv tabOk rfl rfl rfl rfl (fun w hs => spanM_ca _ _ w) ?_
  refine ql_callv tabOk rfl rfl rfl rfl (fun w hs => spanM_ca _ _ w) ?_
  refine ql_mk #[.int .i64 300, .int .i64 300, .int .i64 100, .int .i64 200, .int .i64 10, .int .i64 20] rfl (by kernel_rfl) rfl ?_
  refine ql_callv tabOk rfl rfl rfl rfl (fun w hs => spanM_ca _ _ w) ?_
  refine ql_callv tabOk rfl rfl rfl rfl (fun w hs => spanM_ca _ _ w) ?_
  refine ql_callv tabOk rfl rfl rfl rfl (fun w hs => spanM_ca _ _ w) ?_
  refine ql_mk #[.int .i64 200, .int .i64 400, .int .i64 300, .int .i64 600, .int .i64 10, .int .i64 20] rfl (by kernel_rfl) rfl ?_
  ((iterate 3 refine ql_pure tabOk rfl rfl ?_))
  refine ql_callv tabOk rfl rfl rfl rfl (fun w hs => spanM_ca _ _ w) ?_
  refine ql_callv tabOk rfl rfl rfl rfl (fun w hs => spanM_ca _ _ w) ?_
  refine ql_callv tabOk rfl rfl rfl rfl (fun w hs => spanM_ca _ _ w) ?_
  refine ql_mk #[.int .i64 (min n 500), .int .i64 n, .int .i64 0, .int .i64 100, .int .i64 10, .int .i64 20] rfl (by kernel_rfl) rfl ?_
  refine ql_mkS 73 (dyC (shortW n).days) rfl (by kernel_rfl) rfl (fun bn => ?_)
  refine ql_mk #[.int .i64 500, .int .i64 800, .slice (some ⟨bn, 0, none⟩) 3 3] rfl (by kernel_rfl) rfl ?_
  (refine ql_setA tabOk rfl rfl rfl rfl rfl (by repeat constructor) rfl ?_; refine q_nil ?_; refine q_ret ?_)
  refine q_fin tabOk rfl (by repeat (first | exact RVs.nil | apply RVs.tmp rfl | apply RVs.cellA rfl rfl (by repeat first | exact .head _ | refine .tail _ ?_) (by rfl) | apply RVs.cell1 rfl rfl (by repeat first | exact .head _ | refine .tail _ ?_))) fun w hs => ?_
  exact ⟨bn, rfl, hs.sp (by repeat (first | exact Sp.nil | exact Sp.refl _ | refine Sp.cons (by repeat constructor) ?_))⟩
theorem aw_all : allC threeS threeR = [[0, 0, 2], [0, 1, 1], [0, 1, 2]] := by decide +kernel
theorem aw_cr : CR threeS threeR := checkS_iff.1 (by decide +kernel)
theorem aw_cr2 : CR threeS threeQ := checkS_iff.1 (by decide +kernel)
theorem aw_brk : (brokenV threeS threeR [1, 1, 1]).2 = 0 := by decide +kernel
theorem aw_brk2 : brkL threeS threeR [1, 1, 1] = [4] := by decide +kernel
theorem aw_cheap : cheapO threeS threeR 40 (coursesL threeS.length (nL threeR)) = some [0, 1, 1] := by decide +kernel
theorem aw_snow : snowV threeS [0, 1, 1] 40 = 10800 := by decide +kernel
theorem aw_yield : yieldO threeS threeQ (coursesL threeS.length (nL threeQ)) = some [0, 1, 2] := by decide +kernel
theorem aw_yield2 : brkL threeS threeQ [0, 1, 2] = [0] := by decide +kernel
theorem aw_first : firstV (shortW 500) = (2, 0) := by decide +kernel
theorem aw_proves : provesV (shortW 500) (-1) 2 = (360, 0) := by decide +kernel
theorem aw_ranges : rangesV (shortW 500) = [(280, 390), (160, 600)] := by decide +kernel
theorem aw_right : (shortW 500).Right := checkW_iff.1 (by decide +kernel)
theorem aw_least : leastV (shortW 100) = (460, 0) := by decide +kernel
theorem aw_room : roomV (shortW 100) = (540, 0) := by decide +kernel
end Go.Proofs.Ytgeajgmefokifaa

/- Walks: awake. -/
namespace Go.Proofs.Ytgeajgmefokifaa
open Go Go.Eng

theorem blk_II {w : World} {c1 c2 c3 c4 : Nat} {t1 t2 t3 t4 : TypeId} {l1 l2 l3 : List Int} (h1 : Blk w c1 (ints l1) t1) (h2 : Blk w c2 (ints l2) t2) (h3 : Blk w c3 (ints l3) t3)
    (h4 : Blk w c4 [.slice (some ⟨c1, 0, none⟩) l1.length l1.length, .slice (some ⟨c2, 0, none⟩) l2.length l2.length, .slice (some ⟨c3, 0, none⟩) l3.length l3.length] t4) : RdII w 0 w.heap.size (.slice (some ⟨c4, 0, none⟩) 3 3) [l1, l2, l3] := by
  refine RdII.of (vs := [.slice (some ⟨c1, 0, none⟩) l1.length l1.length, .slice (some ⟨c2, 0, none⟩) l2.length l2.length, .slice (some ⟨c3, 0, none⟩) l3.length l3.length]) ((Blk.rd h4 (by simp [oneV]) 3).wide (Nat.zero_le _) h4.lt) rfl (fun i hi hi' => ?_) (by simp [oneV])
  obtain rfl | rfl | rfl : i = 0 ∨ i = 1 ∨ i = 2 := by simp at hi; omega
  · exact Blk.rdI h1
  · exact Blk.rdI h2
  · exact Blk.rdI h3

theorem lsK_rd {w0 w : World} {M : Nat → Prop} {H : List Ck} {v : Value} {xs : List (Value × List Int)} (h : Sat w0 M H w) (h1 : Ck.ow v 27 1 xs.length (xs.map (·.1)) ∈ H) (h2 : un (rowsO 3 xs) ∈ H) : RdII w 0 w.heap.size v (xs.map (·.2)) :=
  rowsO_rd (h.mem h2) (h.mem h1)
set_option maxHeartbeats 4000000 in
set_option maxRecDepth 4000 in
theorem awake_ca (w : World) : Ca Try.prog 18 [] w fun v w' => v = .bool true ∧ Chg [] w w' := by
  refine q_of (Sat.nil w M0) Try.func18 rfl (by simp [Try.ntmps18]) ?_
  (refine q_seq ?_; refine q_region ?_; refine ql_pure tabOk rfl rfl ?_; refine q_nil ?_; refine q_seq ?_; refine q_region ?_)
  refine ql_call (β := Nat) tabOk [] _ M0 rfl rfl rfl rfl (Sp.refl _) (fun _ h => h.elim) (fun w' hs => three_ca w') ?_
  rintro bs _ rfl
  (refine ql_pure tabOk rfl rfl ?_; (iterate 2 refine ql_ext tabOk rfl rfl rfl ?_))
  refine ql_alloc zero26 rfl (fun b2 => ?_)
  (refine ql_pure tabOk rfl rfl ?_; refine ql_setA tabOk rfl rfl rfl rfl rfl (by repeat constructor) rfl ?_; refine q_nil ?_; refine q_seq ?_; refine q_region ?_; refine ql_pure tabOk rfl rfl ?_; refine ql_loadAB tabOk rfl rfl rfl (by repeat first | exact .head _ | refine .tail _ ?_) (by rfl) (by rfl) ?_)
  have hS : ∀ w', Blk w' bs (lpC threeS) 31 → RdL w' 0 w'.heap.size (.slice (some ⟨bs, 0, none⟩) threeS.length 3) threeS := fun w' hb => Blk.rdL hb rfl
  refine ql_call (β := Value × List (Value × List Int)) (ψ := fun y x => x = .tuple #[y.1, .int .i64 0] ∧ y.2.map (·.2) = allC threeS threeR) tabOk [] _ M0 rfl rfl rfl rfl (Sp.refl _) (fun _ h => h.elim) (fun w' hs => all_ok w' 0 w'.heap.size (some ⟨bs, 0, none⟩) 3 threeS threeR (hS w' (hs.blk (by repeat first | exact .head _ | refine .tail _ ?_))) aw_cr (by rw [aw_all]; decide)) ?_
  rintro ⟨va, xs⟩ _ ⟨rfl, hxs⟩
  rw [aw_all] at hxs
  dsimp only at hxs
  dsimp only [lsK, List.cons_append, List.nil_append]
  refine ql_fact (fun w hs => hs.slice (v := va) (by repeat first | exact .head _ | refine .tail _ ?_)) ?_
  rintro ⟨va1, va2, va3, rfl⟩
  (refine ql_pure tabOk rfl rfl ?_; (iterate 2 refine ql_ext tabOk rfl rfl rfl ?_); (iterate 2 refine ql_pure tabOk rfl rfl ?_); refine q_nil ?_; refine q_seq ?_; refine q_region ?_; refine ql_pure tabOk rfl rfl ?_; refine ql_loadAB tabOk rfl rfl rfl (by repeat first | exact .head _ | refine .tail _ ?_) (by rfl) (by rfl) ?_)
  refine ql_mkS 3 (ints [1, 1, 1]) rfl (by kernel_rfl) rfl (fun b3 => ?_)
  refine ql_call (β := Value) tabOk [] _ M0 rfl rfl rfl rfl (Sp.refl _) (fun _ h => h.elim) (fun w' hs => brok_ok w' 0 w'.heap.size 0 w'.heap.size (some ⟨bs, 0, none⟩) 3 _ threeS threeR [1, 1, 1] (hS w' (hs.blk (by repeat first | exact .head _ | refine .tail _ ?_))) (by decide) (Blk.rdI (l := [1, 1, 1]) (c := 3) (hs.blk (b := b3) (by repeat first | exact .head _ | refine .tail _ ?_))) (by decide) aw_brk) ?_
  rintro vb _ rfl
  rw [aw_brk2]
  dsimp only [List.cons_append, List.nil_append]
  refine ql_fact (fun w hs => hs.slice (v := vb) (by repeat first | exact .head _ | refine .tail _ ?_)) ?_
  rintro ⟨vb1, vb2, vb3, rfl⟩
  (refine ql_pure tabOk rfl rfl ?_; (iterate 2 refine ql_ext tabOk rfl rfl rfl ?_); (iterate 2 refine ql_pure tabOk rfl rfl ?_); refine q_nil ?_; refine q_seq ?_; refine q_region ?_; refine ql_pure tabOk rfl rfl ?_; refine ql_loadAB tabOk rfl rfl rfl (by repeat first | exact .head _ | refine .tail _ ?_) (by rfl) (by rfl) ?_)
  refine ql_call (β := Value) tabOk [] _ M0 rfl rfl rfl rfl (Sp.refl _) (fun _ h => h.elim) (fun w' hs => cheap_ok w' 0 w'.heap.size (some ⟨bs, 0, none⟩) 3 threeS threeR 40 [0, 1, 1] (hS w' (hs.blk (by repeat first | exact .head _ | refine .tail _ ?_))) aw_cr (by decide) aw_cheap) ?_
  rintro vc _ rfl
  rw [aw_snow]
  dsimp only [List.cons_append, List.nil_append]
  refine ql_fact (fun w hs => hs.slice (v := vc) (by repeat first | exact .head _ | refine .tail _ ?_)) ?_
  rintro ⟨vc1, vc2, vc3, rfl⟩
  (refine ql_pure tabOk rfl rfl ?_; (iterate 3 refine ql_ext tabOk rfl rfl rfl ?_); (iterate 3 refine ql_pure tabOk rfl rfl ?_); refine q_nil ?_; (iterate 2 refine q_seq ?_); refine q_region ?_; refine ql_pure tabOk rfl rfl ?_; refine ql_neqF tabOk rfl rfl rfl (by omega) ?_; refine ql_pure tabOk rfl rfl ?_; refine ql_gyes rfl ?_; refine ql_pure tabOk rfl rfl ?_; refine ql_gyes rfl ?_; refine ql_neqF tabOk rfl rfl rfl (by omega) ?_; (iterate 2 refine ql_pure tabOk rfl rfl ?_); refine ql_gyes rfl ?_; refine ql_pure tabOk rfl rfl ?_; refine ql_gyes rfl ?_; refine ql_neqF tabOk rfl rfl rfl (by omega) ?_; (iterate 2 refine ql_pure tabOk rfl rfl ?_); refine ql_gyes rfl ?_; refine ql_pure tabOk rfl rfl ?_; refine ql_gyes rfl ?_)
  refine ql_mkS 3 (ints [0, 0, 2]) rfl (by kernel_rfl) rfl (fun c1 => ?_)
  refine ql_gyes rfl ?_
  refine ql_mkS 3 (ints [0, 1, 1]) rfl (by kernel_rfl) rfl (fun c2 => ?_)
  refine ql_gyes rfl ?_
  refine ql_mkS 3 (ints [0, 1, 2]) rfl (by kernel_rfl) rfl (fun c3 => ?_)
  refine ql_gyes rfl ?_
  refine ql_mkS 27 [.slice (some ⟨c1, 0, none⟩) 3 3, .slice (some ⟨c2, 0, none⟩) 3 3, .slice (some ⟨c3, 0, none⟩) 3 3] rfl (by kernel_rfl) rfl (fun c4 => ?_)
  (refine ql_gyes rfl ?_)
  refine ql_callv (val := .bool true) tabOk rfl rfl rfl rfl (fun w hs => ?_) ?_; exact eqII_ca w 0 w.heap.size 0 w.heap.size _ _ [[0, 0, 2], [0, 1, 1], [0, 1, 2]] (hxs ▸ lsK_rd (v := .slice va1 va2 va3) (xs := xs) hs (by repeat first | exact .head _ | refine .tail _ ?_) (by repeat first | exact .head _ | refine .tail _ ?_)) (blk_II (l1 := [0, 0, 2]) (l2 := [0, 1, 1]) (l3 := [0, 1, 2]) (hs.blk (b := c1) (by repeat first | exact .head _ | refine .tail _ ?_)) (hs.blk (b := c2) (by repeat first | exact .head _ | refine .tail _ ?_)) (hs.blk (b := c3) (by repeat first | exact .head _ | refine .tail _ ?_)) (hs.blk (b := c4) (by repeat first | exact .head _ | refine .tail _ ?_))) (by decide) (by decide)
  (refine ql_gyes rfl ?_; (iterate 3 refine ql_pure tabOk rfl rfl ?_); refine ql_gyes rfl ?_; refine ql_pure tabOk rfl rfl ?_; refine ql_gyes rfl ?_)
  refine ql_mkS 88 (ints [4]) rfl (by kernel_rfl) rfl (fun c5 => ?_)
  refine ql_gyes rfl ?_
  refine ql_callv (val := .bool true) tabOk rfl rfl rfl rfl (fun w hs => ?_) ?_; exact eqR_ca w 0 w.heap.size 0 w.heap.size _ _ [4] (hs.rdI (v := .slice vb1 vb2 vb3) (l := [4]) (by repeat first | exact .head _ | refine .tail _ ?_) rfl) (Blk.rdI (l := [4]) (c := 1) (hs.blk (b := c5) (by repeat first | exact .head _ | refine .tail _ ?_))) (by decide)
  (refine ql_gyes rfl ?_; (iterate 3 refine ql_pure tabOk rfl rfl ?_); refine ql_gyes rfl ?_; refine ql_pure tabOk rfl rfl ?_; refine ql_gyes rfl ?_)
  refine ql_mkS 3 (ints [0, 1, 1]) rfl (by kernel_rfl) rfl (fun c6 => ?_)
  refine ql_gyes rfl ?_
  refine ql_callv (val := .bool true) tabOk rfl rfl rfl rfl (fun w hs => ?_) ?_; exact eqI_ca w 0 w.heap.size 0 w.heap.size _ _ [0, 1, 1] (hs.rdI (v := .slice vc1 vc2 vc3) (l := [0, 1, 1]) (by repeat first | exact .head _ | refine .tail _ ?_) rfl) (Blk.rdI (l := [0, 1, 1]) (c := 3) (hs.blk (b := c6) (by repeat first | exact .head _ | refine .tail _ ?_))) (by decide)
  (refine ql_gyes rfl ?_; (iterate 3 refine ql_pure tabOk rfl rfl ?_); refine ql_gyes rfl ?_; refine ql_pure tabOk rfl rfl ?_; refine ql_gyes rfl ?_; refine ql_neqF tabOk rfl rfl rfl (by omega) ?_; refine ql_pure tabOk rfl rfl ?_; refine q_nil ?_; refine q_cond_false rfl ?_; refine q_skip ?_; refine q_seq ?_; refine q_region ?_)
  refine ql_callv tabOk rfl rfl rfl rfl (fun w hs => spanM_ca _ _ w) ?_
  (refine ql_pure tabOk rfl rfl ?_; refine ql_st8 tabOk rfl rfl rfl rfl (by repeat constructor) ?_; refine ql_pure tabOk rfl rfl ?_)
  refine ql_stA (rlC threeQ) tabOk rfl rfl rfl rfl rfl (by repeat constructor) rfl rfl ?_
  (refine q_nil ?_; refine q_seq ?_; refine q_region ?_; refine ql_pure tabOk rfl rfl ?_; refine ql_loadAB tabOk rfl rfl rfl (by repeat first | exact .head _ | refine .tail _ ?_) (by rfl) (by rfl) ?_)
  refine ql_call (β := Value × Value) tabOk [] _ M0 rfl rfl rfl rfl (Sp.refl _) (fun _ h => h.elim) (fun w' hs => yield_ok w' 0 w'.heap.size (some ⟨bs, 0, none⟩) 3 threeS threeQ [0, 1, 2] (hS w' (hs.blk (by repeat first | exact .head _ | refine .tail _ ?_))) aw_cr2 aw_yield) ?_
  rintro ⟨vy, vz⟩ _ rfl
  rw [aw_yield2]
  dsimp only [List.cons_append, List.nil_append]
  refine ql_fact (fun w hs => hs.slice (v := vy) (by repeat first | exact .head _ | refine .tail _ ?_)) ?_
  rintro ⟨vy1, vy2, vy3, rfl⟩
  refine ql_fact (fun w hs => hs.slice (v := vz) (by repeat first | exact .head _ | refine .tail _ ?_)) ?_
  rintro ⟨vz1, vz2, vz3, rfl⟩
  (refine ql_pure tabOk rfl rfl ?_; (iterate 3 refine ql_ext tabOk rfl rfl rfl ?_); (iterate 3 refine ql_pure tabOk rfl rfl ?_); refine q_nil ?_; refine q_seq ?_; refine q_region ?_)
  have hD : ∀ n w' b, Blk w' b (dyC (shortW n).days) 73 → RdD w' 0 w'.heap.size (.slice (some ⟨b, 0, none⟩) (shortW n).days.length 3) (shortW n).days := fun n w' b hb => Blk.rdD hb rfl
  refine ql_call (β := Nat) tabOk [] _ M0 rfl rfl rfl rfl (Sp.refl _) (fun _ h => h.elim) (fun w' hs => short_ca w' 500) ?_
  rintro d1 _ rfl
  refine ql_callv (val := .tuple #[.int .i64 2, .int .i64 0]) tabOk rfl rfl rfl rfl (fun w hs => ?_) ?_; exact by have := first_ca w 0 w.heap.size (shortW 500) (some ⟨d1, 0, none⟩) 3 (hD 500 w d1 (hs.blk (by repeat first | exact .head _ | refine .tail _ ?_))) (by decide); rw [aw_first] at this; exact this
  (refine ql_pure tabOk rfl rfl ?_; (iterate 2 refine ql_ext tabOk rfl rfl rfl ?_); (iterate 2 refine ql_pure tabOk rfl rfl ?_); refine q_nil ?_; refine q_seq ?_; refine q_region ?_)
  refine ql_call (β := Nat) tabOk [] _ M0 rfl rfl rfl rfl (Sp.refl _) (fun _ h => h.elim) (fun w' hs => short_ca w' 500) ?_
  rintro d2 _ rfl
  refine ql_mk #[.int .i64 (-1), .int .i64 2] rfl (by kernel_rfl) rfl ?_
  refine ql_callv (val := .tuple #[.int .i64 360, .int .i64 0]) tabOk rfl rfl rfl rfl (fun w hs => ?_) ?_; exact by have := proves_ca w 0 w.heap.size (shortW 500) (some ⟨d2, 0, none⟩) 3 (-1) 2 (hD 500 w d2 (hs.blk (by repeat first | exact .head _ | refine .tail _ ?_))) (by decide); rw [aw_proves] at this; exact this
  (refine ql_pure tabOk rfl rfl ?_; (iterate 2 refine ql_ext tabOk rfl rfl rfl ?_); (iterate 2 refine ql_pure tabOk rfl rfl ?_); refine q_nil ?_; refine q_seq ?_; refine q_region ?_)
  refine ql_call (β := Nat) tabOk [] _ M0 rfl rfl rfl rfl (Sp.refl _) (fun _ h => h.elim) (fun w' hs => short_ca w' 500) ?_
  rintro d3 _ rfl
  refine ql_call (β := Value) tabOk [] _ M0 rfl rfl rfl rfl (Sp.refl _) (fun _ h => h.elim) (fun w' hs => ranges_ok w' 0 w'.heap.size (shortW 500) (some ⟨d3, 0, none⟩) 3 (hD 500 w' d3 (hs.blk (by repeat first | exact .head _ | refine .tail _ ?_))) aw_right) ?_
  rintro vx _ rfl
  rw [aw_ranges]
  dsimp only [List.cons_append, List.nil_append]
  refine ql_fact (fun w hs => hs.slice (v := vx) (by repeat first | exact .head _ | refine .tail _ ?_)) ?_
  rintro ⟨vx1, vx2, vx3, rfl⟩
  (refine ql_pure tabOk rfl rfl ?_; (iterate 2 refine ql_ext tabOk rfl rfl rfl ?_); (iterate 2 refine ql_pure tabOk rfl rfl ?_); refine q_nil ?_; (iterate 2 refine q_seq ?_); refine q_region ?_; refine ql_pure tabOk rfl rfl ?_; refine ql_neqF tabOk rfl rfl rfl (by omega) ?_; refine ql_pure tabOk rfl rfl ?_; refine ql_gyes rfl ?_; refine ql_pure tabOk rfl rfl ?_; refine ql_gyes rfl ?_; refine ql_neqF tabOk rfl rfl rfl (by omega) ?_; (iterate 2 refine ql_pure tabOk rfl rfl ?_); refine ql_gyes rfl ?_; refine ql_pure tabOk rfl rfl ?_; refine ql_gyes rfl ?_; refine ql_neqF tabOk rfl rfl rfl (by omega) ?_; (iterate 2 refine ql_pure tabOk rfl rfl ?_); refine ql_gyes rfl ?_; refine ql_pure tabOk rfl rfl ?_; refine ql_gyes rfl ?_; refine ql_neqF tabOk rfl rfl rfl (by omega) ?_; (iterate 2 refine ql_pure tabOk rfl rfl ?_); refine ql_gyes rfl ?_; refine ql_pure tabOk rfl rfl ?_; refine ql_gyes rfl ?_)
  refine ql_mkS 88 (ints [0]) rfl (by kernel_rfl) rfl (fun c7 => ?_)
  refine ql_gyes rfl ?_
  refine ql_callv (val := .bool true) tabOk rfl rfl rfl rfl (fun w hs => ?_) ?_; exact eqR_ca w 0 w.heap.size 0 w.heap.size _ _ [0] (hs.rdI (v := .slice vy1 vy2 vy3) (l := [0]) (by repeat first | exact .head _ | refine .tail _ ?_) rfl) (Blk.rdI (l := [0]) (c := 1) (hs.blk (b := c7) (by repeat first | exact .head _ | refine .tail _ ?_))) (by decide)
  (refine ql_gyes rfl ?_; (iterate 3 refine ql_pure tabOk rfl rfl ?_); refine ql_gyes rfl ?_; refine ql_pure tabOk rfl rfl ?_; refine ql_gyes rfl ?_)
  refine ql_mkS 3 (ints [0, 1, 2]) rfl (by kernel_rfl) rfl (fun c8 => ?_)
  refine ql_gyes rfl ?_
  refine ql_callv (val := .bool true) tabOk rfl rfl rfl rfl (fun w hs => ?_) ?_; exact eqI_ca w 0 w.heap.size 0 w.heap.size _ _ [0, 1, 2] (hs.rdI (v := .slice vz1 vz2 vz3) (l := [0, 1, 2]) (by repeat first | exact .head _ | refine .tail _ ?_) rfl) (Blk.rdI (l := [0, 1, 2]) (c := 3) (hs.blk (b := c8) (by repeat first | exact .head _ | refine .tail _ ?_))) (by decide)
  (refine ql_gyes rfl ?_; (iterate 3 refine ql_pure tabOk rfl rfl ?_); refine ql_gyes rfl ?_; refine ql_pure tabOk rfl rfl ?_; refine ql_gyes rfl ?_; refine ql_neqF tabOk rfl rfl rfl (by omega) ?_; (iterate 2 refine ql_pure tabOk rfl rfl ?_); refine ql_gyes rfl ?_; refine ql_pure tabOk rfl rfl ?_; refine ql_gyes rfl ?_; refine ql_neqF tabOk rfl rfl rfl (by omega) ?_; (iterate 2 refine ql_pure tabOk rfl rfl ?_); refine ql_gyes rfl ?_; refine ql_pure tabOk rfl rfl ?_; refine ql_gyes rfl ?_)
  refine ql_mk #[.int .i64 280, .int .i64 390] rfl (by kernel_rfl) rfl ?_
  refine ql_gyes rfl ?_
  refine ql_mk #[.int .i64 160, .int .i64 600] rfl (by kernel_rfl) rfl ?_
  refine ql_gyes rfl ?_
  refine ql_mkS 24 (spC [(280, 390), (160, 600)]) rfl (by kernel_rfl) rfl (fun c9 => ?_)
  refine ql_gyes rfl ?_
  refine ql_callv (val := .bool true) tabOk rfl rfl rfl rfl (fun w hs => ?_) ?_; exact eqS_ca w 0 w.heap.size 0 w.heap.size _ _ [(280, 390), (160, 600)] (own_rdS (t := 24) (hs.mem (c := .ow (.slice vx1 vx2 vx3) 24 2 2 (spC [(280, 390), (160, 600)])) (by repeat first | exact .head _ | refine .tail _ ?_)) rfl) (Blk.rdS (l := [(280, 390), (160, 600)]) (c := 2) (hs.blk (b := c9) (by repeat first | exact .head _ | refine .tail _ ?_)) rfl) (by decide)
  (refine ql_gyes rfl ?_; (iterate 2 refine ql_pure tabOk rfl rfl ?_); refine q_nil ?_; refine q_cond_false rfl ?_; refine q_skip ?_; refine q_seq ?_; refine q_region ?_)
  refine ql_call (β := Nat) tabOk [] _ M0 rfl rfl rfl rfl (Sp.refl _) (fun _ h => h.elim) (fun w' hs => short_ca w' 100) ?_
  rintro d4 _ rfl
  refine ql_callv (val := .tuple #[.int .i64 460, .int .i64 0]) tabOk rfl rfl rfl rfl (fun w hs => ?_) ?_; exact by have := least_ca w 0 w.heap.size (shortW 100) (some ⟨d4, 0, none⟩) 3 (hD 100 w d4 (hs.blk (by repeat first | exact .head _ | refine .tail _ ?_))) (by decide); rw [aw_least] at this; exact this
  (refine ql_pure tabOk rfl rfl ?_; (iterate 2 refine ql_ext tabOk rfl rfl rfl ?_); (iterate 2 refine ql_pure tabOk rfl rfl ?_); refine q_nil ?_; refine q_seq ?_; refine q_region ?_)
  refine ql_call (β := Nat) tabOk [] _ M0 rfl rfl rfl rfl (Sp.refl _) (fun _ h => h.elim) (fun w' hs => short_ca w' 100) ?_
  rintro d5 _ rfl
  refine ql_callv (val := .tuple #[.int .i64 540, .int .i64 0]) tabOk rfl rfl rfl rfl (fun w hs => ?_) ?_; exact by have := room_ca w 0 w.heap.size (shortW 100) (some ⟨d5, 0, none⟩) 3 (hD 100 w d5 (hs.blk (by repeat first | exact .head _ | refine .tail _ ?_))) (by decide); rw [aw_room] at this; exact this
  (refine ql_pure tabOk rfl rfl ?_; (iterate 2 refine ql_ext tabOk rfl rfl rfl ?_); (iterate 2 refine ql_pure tabOk rfl rfl ?_); refine q_nil ?_; refine q_seq ?_; refine q_region ?_; refine ql_pure tabOk rfl rfl ?_; refine ql_eqlT tabOk rfl rfl rfl (by omega) ?_; refine ql_pure tabOk rfl rfl ?_; refine ql_gyes rfl ?_; refine ql_pure tabOk rfl rfl ?_; refine ql_gyes rfl ?_; refine ql_eqlT tabOk rfl rfl rfl (by omega) ?_; (iterate 2 refine ql_pure tabOk rfl rfl ?_); refine ql_gyes rfl ?_; refine ql_pure tabOk rfl rfl ?_; refine ql_gyes rfl ?_; refine ql_eqlT tabOk rfl rfl rfl (by omega) ?_; (iterate 2 refine ql_pure tabOk rfl rfl ?_); refine ql_gyes rfl ?_; refine ql_pure tabOk rfl rfl ?_; refine ql_gyes rfl ?_; refine ql_eqlT tabOk rfl rfl rfl (by omega) ?_; (iterate 2 refine ql_pure tabOk rfl rfl ?_); refine q_nil ?_; refine q_ret ?_)
  refine q_fin tabOk rfl (by repeat (first | exact RVs.nil | apply RVs.tmp rfl | apply RVs.cellA rfl rfl (by repeat first | exact .head _ | refine .tail _ ?_) (by rfl) | apply RVs.cell1 rfl rfl (by repeat first | exact .head _ | refine .tail _ ?_))) fun w hs => ?_
  exact ⟨rfl, hs.chg0⟩
end Go.Proofs.Ytgeajgmefokifaa

/- Walks: klisterkit's deck. Only the ranges of what it deals are told. -/
namespace Go.Proofs.Ytgeajgmefokifaa
open Go Go.Eng

section
attribute [local irreducible] IntKind.wrap Int.tmod Int.tdiv

/-- The deck's own variable, after at most K cards. -/
def DkS (w : World) (b : Nat) (bs : Value) (K : Nat) : Prop :=
  ∃ next st, Blk w b [bs, .int .i64 next, .int .u32 st] 165 ∧ 0 ≤ next ∧ next ≤ K ∧ 0 ≤ st ∧ st < 4294967296
/-- Its bytes. -/
def DkB (w : World) (lo hi : Nat) (bs : Value) : Prop := ∃ nb cs, Rd w lo hi bs 1 nb cs ∧ (∀ c ∈ cs, ∃ x, c = .int .u8 x ∧ 0 ≤ x ∧ x < 256)
theorem DkB.keep {w w' : World} {lo hi : Nat} {bs : Value} (h : DkB w lo hi bs) (c : Chg [] w w') : DkB w' lo hi bs := by
  obtain ⟨nb, cs, h1, h2⟩ := h
  exact ⟨nb, cs, h1.keep c, h2⟩

end
/-- A deck, after at most K cards. -/
def dkP (bs : Value) (b K : Nat) : Ck := .gn (fun x => x = b) (fun w => DkS w b bs K) (fun w w' N h hc hN => by
  obtain ⟨next, st, h1, h2⟩ := h
  exact ⟨next, st, (hc.block b h1.lt (hN b rfl)).trans h1, h2⟩)

theorem DkS.mono {w : World} {b K K' : Nat} {bs : Value} (h : DkS w b bs K) (hk : K ≤ K') : DkS w b bs K' := by
  obtain ⟨next, st, h1, h2, h3, h4⟩ := h
  exact ⟨next, st, h1, h2, by omega, h4⟩
section
variable {K b : Nat} {bs : Value} {w0 w : World} {R : List Ck}
end
end Go.Proofs.Ytgeajgmefokifaa

/- Walks: a winter is made of numbers. -/
namespace Go.Proofs.Ytgeajgmefokifaa
open Go Go.Eng

structure DayB (d : Dy) : Prop where
  n : 0 ≤ d.n0 ∧ d.n0 ≤ 29 ∧ d.n0 ≤ d.n1 ∧ d.n1 ≤ d.n0 + 11
  m : 0 ≤ d.m0 ∧ d.m0 ≤ 39 ∧ d.m0 ≤ d.m1 ∧ d.m1 ≤ d.m0 + 19
  l : 0 ≤ d.l0 ∧ d.l0 ≤ 5 ∧ d.l0 ≤ d.l1 ∧ d.l1 ≤ d.l0 + 3
/-- What MadeWinter makes. -/
structure WinB (days : Nat) (x : Wn) : Prop where
  store : 20 ≤ x.store ∧ x.store ≤ 200
  stock : 0 ≤ x.stock ∧ x.stock ≤ x.store
  d1 : 1 ≤ x.days.length
  d2 : x.days.length ≤ days
  days : ∀ d ∈ x.days, DayB d
theorem WinB.right {days : Nat} {x : Wn} (h : WinB days x) (hd : days ≤ 60) : x.Right := by
  have h1 := h.store
  have h2 := h.d2
  refine ⟨by omega, h.stock, h.d1, by omega, fun d hdm => ?_⟩
  have := h.days d hdm
  have a := this.n
  have b := this.m
  have c := this.l
  exact ⟨by omega, by omega, by omega⟩
theorem dyC_snoc (l : List Dy) (d : Dy) : dyC (l ++ [d]) = dyC l ++ dyC [d] := by simp [dyC]
theorem dyC_one (l : List Dy) : ∀ c ∈ dyC l, oneV c = true := fun c hc => by obtain ⟨y, _, hy⟩ := List.mem_flatMap.1 hc; simp at hy; rcases hy with rfl | rfl | rfl | rfl | rfl | rfl <;> rfl
theorem slD : SlT Try.prog 59 73 6 48 (.agg #[.int .i64 0, .int .i64 0, .int .i64 0, .int .i64 0, .int .i64 0, .int .i64 0]) := ⟨by kernel_rfl, by kernel_rfl, by kernel_rfl, by decide⟩
theorem Blk.rdDy {w : World} {b : Nat} {d : Dy} {t : TypeId} (h : Blk w b (dyC [d]) t) : Rd w b (b + 1) (.slice (some ⟨b, 0, none⟩) 1 1) 6 1 (dyC [d]) :=
  ⟨rfl, .inr ⟨b, 0, 1, rfl, fun _ => ⟨Nat.le_refl _, Nat.lt_succ_self _, h.lt⟩, fun j _ => by rw [Blk.cell h]; simp⟩⟩
/-- The spans made so far. -/
structure DayI (i : Nat) (d : Dy) : Prop where
  n : 1 ≤ i → 0 ≤ d.n0 ∧ d.n0 ≤ 29 ∧ d.n0 ≤ d.n1 ∧ d.n1 ≤ d.n0 + 11
  m : 2 ≤ i → 0 ≤ d.m0 ∧ d.m0 ≤ 39 ∧ d.m0 ≤ d.m1 ∧ d.m1 ≤ d.m0 + 19
  l : 3 ≤ i → 0 ≤ d.l0 ∧ d.l0 ≤ 5 ∧ d.l0 ≤ d.l1 ∧ d.l1 ≤ d.l0 + 3

end Go.Proofs.Ytgeajgmefokifaa

/- Walks: a weather is drawn. -/
namespace Go.Proofs.Ytgeajgmefokifaa
open Go Go.Eng

theorem getD_snoc (l : List Int) (x : Int) (i : Nat) : (l ++ [x]).getD i 0 = if i < l.length then l.getD i 0 else if i = l.length then x else 0 := by
  simp only [List.getD_eq_getElem?_getD, List.getElem?_append]
  by_cases h : i < l.length
  · simp [h]
  · rw [if_neg h, if_neg h]
    by_cases h2 : i = l.length
    · subst h2; simp
    · rw [if_neg h2, List.getElem?_eq_none (by simp; omega)]
      rfl
/-- A weather of the first days. -/
structure WtP (days : List Dy) (k : Nat) (t : Wt) : Prop where
  ln : t.need.length = k
  lm : t.make.length = k
  ll : t.loss.length = k
  n : ∀ i, i < k → ∀ (h : i < days.length), days[i].n0 ≤ t.need.getD i 0 ∧ t.need.getD i 0 ≤ days[i].n1
  m : ∀ i, i < k → ∀ (h : i < days.length), days[i].m0 ≤ t.make.getD i 0 ∧ t.make.getD i 0 ≤ days[i].m1
  l : ∀ i, i < k → ∀ (h : i < days.length), days[i].l0 ≤ t.loss.getD i 0 ∧ t.loss.getD i 0 ≤ days[i].l1
theorem WtP.step {days : List Dy} {k : Nat} {t : Wt} (h : WtP days k t) (hk : k < days.length) {x y z : Int} (hx : days[k].n0 ≤ x ∧ x ≤ days[k].n1) (hy : days[k].m0 ≤ y ∧ y ≤ days[k].m1) (hz : days[k].l0 ≤ z ∧ z ≤ days[k].l1) : WtP days (k + 1) ⟨t.need ++ [x], t.make ++ [y], t.loss ++ [z]⟩ := by
  refine ⟨by simp [h.ln], by simp [h.lm], by simp [h.ll], fun i hi hd => ?_, fun i hi hd => ?_, fun i hi hd => ?_⟩
  · rw [getD_snoc, h.ln]
    split
    · exact h.n i (by assumption) hd
    · obtain rfl : i = k := by omega
      simpa using hx
  · rw [getD_snoc, h.lm]
    split
    · exact h.m i (by assumption) hd
    · obtain rfl : i = k := by omega
      simpa using hy
  · rw [getD_snoc, h.ll]
    split
    · exact h.l i (by assumption) hd
    · obtain rfl : i = k := by omega
      simpa using hz
theorem WtP.in {x : Wn} {t : Wt} (h : WtP x.days x.days.length t) : t.In x := ⟨h.ln, h.lm, h.ll, fun i hi => h.n i hi hi, fun i hi => h.m i hi hi, fun i hi => h.l i hi hi⟩
/-- The deck, and the days. -/
abbrev drL (bs : Value) (b K g c : Nat) (l : List Dy) : List Ck := [dkP bs b K, .ow (.slice (some ⟨g, 0, none⟩) l.length c) 73 6 l.length (dyC l)]

end Go.Proofs.Ytgeajgmefokifaa

/- What the laws of winters share. -/
namespace Go.Proofs.Ytgeajgmefokifaa
open Go Go.Eng

section
variable {K b g c : Nat} {bs : Value} {w0 w : World} {R : List Ck}
end
theorem fails_in {x : Wn} {t : Wt} (hx : x.Right) (ht : t.In x) (w : World) (lo hi : Nat) (a : Option Addr) (c : Nat) (v1 v2 v3 : Value) (h : RdD w lo hi (.slice a x.days.length c) x.days) (hw : WtR w t v1 v2 v3) :
    Ca Try.prog 64 [.agg (wnC x a c).toArray, .agg #[v1, v2, v3]] w fun r w' => r = .tuple #[.int .i64 (hapV x t).fails, .int .i64 0] ∧ Chg [] w w' := by
  have h2 := hx.d2
  have h3 := ht.need
  have h4 := ht.make
  have h5 := ht.loss
  exact (fails_ok w lo hi x a c t v1 v2 v3 h (by omega) hw (by omega) (by omega) (by omega) (weatV_iff.2 ⟨hx, ht⟩)).mono fun r w' ⟨_, h1, h2⟩ => ⟨h1, h2.chg0⟩
end Go.Proofs.Ytgeajgmefokifaa

/- Walks of the reference: the error of a winter. -/
namespace Go.Proofs.Ytgeajgmefokifaa
open Go Go.Eng

theorem out_ca (n lo hi : Int) (w : World) : Ca Try.prog 92 [.int .i64 n, .int .i64 lo, .int .i64 hi] w fun v w' => v = .bool (!(wiB n lo hi)) ∧ Chg [] w w' := by
  refine q_of (Sat.nil w M0) Try.func92 rfl (by simp [Try.ntmps92]) ?_
  by_cases h1 : n < lo
  · (refine q_seq ?_; refine q_region ?_; refine ql_pure tabOk rfl rfl ?_; refine q_nil ?_; refine q_seq ?_; refine q_region ?_; (iterate 2 refine ql_pure tabOk rfl rfl ?_); refine ql_lssT tabOk rfl rfl rfl (by omega) ?_; refine ql_pure tabOk rfl rfl ?_; (iterate 3 refine ql_gno rfl rfl rfl ?_); (iterate 2 refine ql_pure tabOk rfl rfl ?_); refine q_nil ?_; refine q_ret ?_)
    refine q_fin tabOk rfl (by repeat (first | exact RVs.nil | apply RVs.tmp rfl | apply RVs.cellA rfl rfl (by repeat first | exact .head _ | refine .tail _ ?_) (by rfl) | apply RVs.cell1 rfl rfl (by repeat first | exact .head _ | refine .tail _ ?_))) fun w hs => ?_
    exact ⟨by simp [wiB, retV]; omega, hs.chg0⟩
  · by_cases h2 : n > hi
    · (refine q_seq ?_; refine q_region ?_; refine ql_pure tabOk rfl rfl ?_; refine q_nil ?_; refine q_seq ?_; refine q_region ?_; (iterate 2 refine ql_pure tabOk rfl rfl ?_); refine ql_lssF tabOk rfl rfl rfl (by omega) ?_; refine ql_pure tabOk rfl rfl ?_; refine ql_gyes rfl ?_; refine ql_pure tabOk rfl rfl ?_; refine ql_gyes rfl ?_; refine ql_pure tabOk rfl rfl ?_; refine ql_gyes rfl ?_; refine ql_gtrT tabOk rfl rfl rfl (by omega) ?_; (iterate 2 refine ql_pure tabOk rfl rfl ?_); refine q_nil ?_; refine q_ret ?_)
      refine q_fin tabOk rfl (by repeat (first | exact RVs.nil | apply RVs.tmp rfl | apply RVs.cellA rfl rfl (by repeat first | exact .head _ | refine .tail _ ?_) (by rfl) | apply RVs.cell1 rfl rfl (by repeat first | exact .head _ | refine .tail _ ?_))) fun w hs => ?_
      exact ⟨by simp [wiB, retV]; omega, hs.chg0⟩
    · (refine q_seq ?_; refine q_region ?_; refine ql_pure tabOk rfl rfl ?_; refine q_nil ?_; refine q_seq ?_; refine q_region ?_; (iterate 2 refine ql_pure tabOk rfl rfl ?_); refine ql_lssF tabOk rfl rfl rfl (by omega) ?_; refine ql_pure tabOk rfl rfl ?_; refine ql_gyes rfl ?_; refine ql_pure tabOk rfl rfl ?_; refine ql_gyes rfl ?_; refine ql_pure tabOk rfl rfl ?_; refine ql_gyes rfl ?_; refine ql_gtrF tabOk rfl rfl rfl (by omega) ?_; (iterate 2 refine ql_pure tabOk rfl rfl ?_); refine q_nil ?_; refine q_ret ?_)
      refine q_fin tabOk rfl (by repeat (first | exact RVs.nil | apply RVs.tmp rfl | apply RVs.cellA rfl rfl (by repeat first | exact .head _ | refine .tail _ ?_) (by rfl) | apply RVs.cell1 rfl rfl (by repeat first | exact .head _ | refine .tail _ ?_))) fun w hs => ?_
      exact ⟨by simp [wiB, retV]; omega, hs.chg0⟩
theorem wrong_ca (a b g : Int) (w : World) : Ca Try.prog 93 [.agg #[.int .i64 a, .int .i64 b], .int .i64 g] w fun v w' => v = .bool (!(spnB a b g)) ∧ Chg [] w w' := by
  refine q_of (Sat.nil w M0) Try.func93 rfl (by simp [Try.ntmps93]) ?_
  (refine q_seq ?_; refine q_region ?_)
  refine ql_box rfl rfl (fun b2 => ?_)
  by_cases h1 : a < 0
  · (refine ql_pure tabOk rfl rfl ?_; refine q_nil ?_; refine q_seq ?_; refine q_region ?_; refine ql_pure tabOk rfl rfl ?_; refine ql_loadB tabOk rfl rfl rfl (by repeat first | exact .head _ | refine .tail _ ?_) (by rfl) ?_; refine ql_lssT tabOk rfl rfl rfl (by omega) ?_; refine ql_pure tabOk rfl rfl ?_; (iterate 4 refine ql_gno rfl rfl rfl ?_); (iterate 2 refine ql_pure tabOk rfl rfl ?_); (iterate 5 refine ql_gno rfl rfl rfl ?_); (iterate 2 refine ql_pure tabOk rfl rfl ?_); refine q_nil ?_; refine q_ret ?_)
    refine q_fin tabOk rfl (by repeat (first | exact RVs.nil | apply RVs.tmp rfl | apply RVs.cellA rfl rfl (by repeat first | exact .head _ | refine .tail _ ?_) (by rfl) | apply RVs.cell1 rfl rfl (by repeat first | exact .head _ | refine .tail _ ?_))) fun w hs => ?_
    exact ⟨by simp [spnB, retV]; omega, hs.chg0⟩
  · by_cases h2 : b > g
    · (refine ql_pure tabOk rfl rfl ?_; refine q_nil ?_; refine q_seq ?_; refine q_region ?_; refine ql_pure tabOk rfl rfl ?_; refine ql_loadB tabOk rfl rfl rfl (by repeat first | exact .head _ | refine .tail _ ?_) (by rfl) ?_; refine ql_lssF tabOk rfl rfl rfl (by omega) ?_; refine ql_pure tabOk rfl rfl ?_; refine ql_gyes rfl ?_; refine ql_pure tabOk rfl rfl ?_; refine ql_gyes rfl ?_; refine ql_loadB tabOk rfl rfl rfl (by repeat first | exact .head _ | refine .tail _ ?_) (by rfl) ?_; refine ql_gyes rfl ?_; refine ql_pure tabOk rfl rfl ?_; refine ql_gyes rfl ?_; refine ql_gtrT tabOk rfl rfl rfl (by omega) ?_; (iterate 2 refine ql_pure tabOk rfl rfl ?_); (iterate 5 refine ql_gno rfl rfl rfl ?_); (iterate 2 refine ql_pure tabOk rfl rfl ?_); refine q_nil ?_; refine q_ret ?_)
      refine q_fin tabOk rfl (by repeat (first | exact RVs.nil | apply RVs.tmp rfl | apply RVs.cellA rfl rfl (by repeat first | exact .head _ | refine .tail _ ?_) (by rfl) | apply RVs.cell1 rfl rfl (by repeat first | exact .head _ | refine .tail _ ?_))) fun w hs => ?_
      exact ⟨by simp [spnB, retV]; omega, hs.chg0⟩
    · by_cases h3 : a > b
      · (refine ql_pure tabOk rfl rfl ?_; refine q_nil ?_; refine q_seq ?_; refine q_region ?_; refine ql_pure tabOk rfl rfl ?_; refine ql_loadB tabOk rfl rfl rfl (by repeat first | exact .head _ | refine .tail _ ?_) (by rfl) ?_; refine ql_lssF tabOk rfl rfl rfl (by omega) ?_; refine ql_pure tabOk rfl rfl ?_; refine ql_gyes rfl ?_; refine ql_pure tabOk rfl rfl ?_; refine ql_gyes rfl ?_; refine ql_loadB tabOk rfl rfl rfl (by repeat first | exact .head _ | refine .tail _ ?_) (by rfl) ?_; refine ql_gyes rfl ?_; refine ql_pure tabOk rfl rfl ?_; refine ql_gyes rfl ?_; refine ql_gtrF tabOk rfl rfl rfl (by omega) ?_; (iterate 2 refine ql_pure tabOk rfl rfl ?_); refine ql_gyes rfl ?_; refine ql_pure tabOk rfl rfl ?_; refine ql_gyes rfl ?_; refine ql_loadB tabOk rfl rfl rfl (by repeat first | exact .head _ | refine .tail _ ?_) (by rfl) ?_; refine ql_gyes rfl ?_; refine ql_pure tabOk rfl rfl ?_; refine ql_gyes rfl ?_; refine ql_loadB tabOk rfl rfl rfl (by repeat first | exact .head _ | refine .tail _ ?_) (by rfl) ?_; refine ql_gyes rfl ?_; refine ql_gtrT tabOk rfl rfl rfl (by omega) ?_; (iterate 2 refine ql_pure tabOk rfl rfl ?_); refine q_nil ?_; refine q_ret ?_)
        refine q_fin tabOk rfl (by repeat (first | exact RVs.nil | apply RVs.tmp rfl | apply RVs.cellA rfl rfl (by repeat first | exact .head _ | refine .tail _ ?_) (by rfl) | apply RVs.cell1 rfl rfl (by repeat first | exact .head _ | refine .tail _ ?_))) fun w hs => ?_
        exact ⟨by simp [spnB, retV]; omega, hs.chg0⟩
      · (refine ql_pure tabOk rfl rfl ?_; refine q_nil ?_; refine q_seq ?_; refine q_region ?_; refine ql_pure tabOk rfl rfl ?_; refine ql_loadB tabOk rfl rfl rfl (by repeat first | exact .head _ | refine .tail _ ?_) (by rfl) ?_; refine ql_lssF tabOk rfl rfl rfl (by omega) ?_; refine ql_pure tabOk rfl rfl ?_; refine ql_gyes rfl ?_; refine ql_pure tabOk rfl rfl ?_; refine ql_gyes rfl ?_; refine ql_loadB tabOk rfl rfl rfl (by repeat first | exact .head _ | refine .tail _ ?_) (by rfl) ?_; refine ql_gyes rfl ?_; refine ql_pure tabOk rfl rfl ?_; refine ql_gyes rfl ?_; refine ql_gtrF tabOk rfl rfl rfl (by omega) ?_; (iterate 2 refine ql_pure tabOk rfl rfl ?_); refine ql_gyes rfl ?_; refine ql_pure tabOk rfl rfl ?_; refine ql_gyes rfl ?_; refine ql_loadB tabOk rfl rfl rfl (by repeat first | exact .head _ | refine .tail _ ?_) (by rfl) ?_; refine ql_gyes rfl ?_; refine ql_pure tabOk rfl rfl ?_; refine ql_gyes rfl ?_; refine ql_loadB tabOk rfl rfl rfl (by repeat first | exact .head _ | refine .tail _ ?_) (by rfl) ?_; refine ql_gyes rfl ?_; refine ql_gtrF tabOk rfl rfl rfl (by omega) ?_; (iterate 2 refine ql_pure tabOk rfl rfl ?_); refine q_nil ?_; refine q_ret ?_)
        refine q_fin tabOk rfl (by repeat (first | exact RVs.nil | apply RVs.tmp rfl | apply RVs.cellA rfl rfl (by repeat first | exact .head _ | refine .tail _ ?_) (by rfl) | apply RVs.cell1 rfl rfl (by repeat first | exact .head _ | refine .tail _ ?_))) fun w hs => ?_
        exact ⟨by simp [spnB, retV]; omega, hs.chg0⟩
section
variable {w : World} {lo hi b off len cap : Nat} {l : List Dy}
theorem RdD.need (h : RdD w lo hi (.slice (some ⟨b, off, none⟩) len cap) l) (i : Nat) (hi : i < l.length) (j : Nat) (hj : j < 2) : w.cell? ⟨b, off + i * 6 + 0 + j, none⟩ = [Value.int .i64 l[i].n0, Value.int .i64 l[i].n1][j]? := by
  have := RdD.at h i hi (0 + j) (by omega)
  rw [← Nat.add_assoc] at this
  rw [this]
  match j, hj with
  | 0, _ => rfl
  | 1, _ => rfl
theorem RdD.make (h : RdD w lo hi (.slice (some ⟨b, off, none⟩) len cap) l) (i : Nat) (hi : i < l.length) (j : Nat) (hj : j < 2) : w.cell? ⟨b, off + i * 6 + 2 + j, none⟩ = [Value.int .i64 l[i].m0, Value.int .i64 l[i].m1][j]? := by
  have := RdD.at h i hi (2 + j) (by omega)
  rw [← Nat.add_assoc] at this
  rw [this]
  match j, hj with
  | 0, _ => rfl
  | 1, _ => rfl
theorem RdD.loss (h : RdD w lo hi (.slice (some ⟨b, off, none⟩) len cap) l) (i : Nat) (hi : i < l.length) (j : Nat) (hj : j < 2) : w.cell? ⟨b, off + i * 6 + 4 + j, none⟩ = [Value.int .i64 l[i].l0, Value.int .i64 l[i].l1][j]? := by
  have := RdD.at h i hi (4 + j) (by omega)
  rw [← Nat.add_assoc] at this
  rw [this]
  match j, hj with
  | 0, _ => rfl
  | 1, _ => rfl
end
set_option maxHeartbeats 1000000 in
theorem rcheckW_ca (w : World) (lo hi : Nat) (x : Wn) (a : Option Addr) (c : Nat) (h : RdD w lo hi (.slice a x.days.length c) x.days) (hlen : x.days.length ≤ 1000000) : Ca Try.prog 76 [.agg (wnC x a c).toArray] w fun r w' => r = .int .i64 (checkW x) ∧ Chg [] w w' := by
  obtain ⟨a', c', he, hsa⟩ := RdD.outI h
  cases he
  refine q_of (Sat.nil w M0) Try.func76 rfl (by simp [Try.ntmps76]) ?_
  (refine q_seq ?_; refine q_region ?_)
  refine ql_box rfl rfl (fun b1 => ?_)
  (refine ql_pure tabOk rfl rfl ?_; refine q_nil ?_; (iterate 2 refine q_seq ?_); refine q_region ?_; refine ql_pure tabOk rfl rfl ?_; refine ql_loadB tabOk rfl rfl rfl (by repeat first | exact .head _ | refine .tail _ ?_) (by rfl) ?_)
  refine ql_callv (val := .bool (!(wiB x.store 1 1000000))) tabOk rfl rfl rfl rfl (fun w hs => ?_) ?_; exact out_ca x.store 1 1000000 w
  cases h1 : wiB x.store 1 1000000 with
  | false =>
    (refine ql_pure tabOk rfl rfl ?_; (iterate 5 refine ql_gno rfl rfl rfl ?_); refine ql_pure tabOk rfl rfl ?_; refine q_nil ?_; refine q_cond_true rfl ?_; refine q_seq ?_; refine q_region ?_; refine ql_pure tabOk rfl rfl ?_; refine q_nil ?_; refine q_ret ?_)
    refine q_fin tabOk rfl (by repeat (first | exact RVs.nil | apply RVs.tmp rfl | apply RVs.cellA rfl rfl (by repeat first | exact .head _ | refine .tail _ ?_) (by rfl) | apply RVs.cell1 rfl rfl (by repeat first | exact .head _ | refine .tail _ ?_))) fun w hs => ?_
    exact ⟨by simp [wiB] at h1; simp only [retV, checkW]; rw [if_pos (by omega)], hs.chg0⟩
  | true =>
  have h1' := wiB_iff.1 h1
  (refine ql_pure tabOk rfl rfl ?_; refine ql_gyes rfl ?_; refine ql_pure tabOk rfl rfl ?_; refine ql_gyes rfl ?_; refine ql_loadB tabOk rfl rfl rfl (by repeat first | exact .head _ | refine .tail _ ?_) (by rfl) ?_; refine ql_gyes rfl ?_; refine ql_pure tabOk rfl rfl ?_; refine ql_gyes rfl ?_; refine ql_loadB tabOk rfl rfl rfl (by repeat first | exact .head _ | refine .tail _ ?_) (by rfl) ?_; refine ql_gyes rfl ?_)
  refine ql_callv (val := .bool (!(wiB x.stock 0 x.store))) tabOk rfl rfl rfl rfl (fun w hs => ?_) ?_; exact out_ca x.stock 0 x.store w
  cases h2 : wiB x.stock 0 x.store with
  | false =>
    (refine ql_pure tabOk rfl rfl ?_; refine q_nil ?_; refine q_cond_true rfl ?_; refine q_seq ?_; refine q_region ?_; refine ql_pure tabOk rfl rfl ?_; refine q_nil ?_; refine q_ret ?_)
    refine q_fin tabOk rfl (by repeat (first | exact RVs.nil | apply RVs.tmp rfl | apply RVs.cellA rfl rfl (by repeat first | exact .head _ | refine .tail _ ?_) (by rfl) | apply RVs.cell1 rfl rfl (by repeat first | exact .head _ | refine .tail _ ?_))) fun w hs => ?_
    exact ⟨by simp [wiB] at h2; simp only [retV, checkW]; rw [if_pos (by omega)], hs.chg0⟩
  | true =>
  have h2' := wiB_iff.1 h2
  by_cases h3 : x.days.length < 1
  · (refine ql_pure tabOk rfl rfl ?_; refine q_nil ?_; refine q_cond_false rfl ?_; refine q_skip ?_; (iterate 2 refine q_seq ?_); refine q_region ?_; refine ql_pure tabOk rfl rfl ?_; refine ql_loadB tabOk rfl rfl rfl (by repeat first | exact .head _ | refine .tail _ ?_) (by rfl) ?_; refine ql_pure tabOk rfl rfl ?_; refine ql_lssT tabOk rfl rfl rfl (by omega) ?_; refine ql_pure tabOk rfl rfl ?_; (iterate 4 refine ql_gno rfl rfl rfl ?_); refine ql_pure tabOk rfl rfl ?_; refine q_nil ?_; refine q_cond_true rfl ?_; refine q_seq ?_; refine q_region ?_; refine ql_pure tabOk rfl rfl ?_; refine q_nil ?_; refine q_ret ?_)
    refine q_fin tabOk rfl (by repeat (first | exact RVs.nil | apply RVs.tmp rfl | apply RVs.cellA rfl rfl (by repeat first | exact .head _ | refine .tail _ ?_) (by rfl) | apply RVs.cell1 rfl rfl (by repeat first | exact .head _ | refine .tail _ ?_))) fun w hs => ?_
    exact ⟨by simp only [retV, checkW]; rw [if_neg (by omega), if_pos (by omega)], hs.chg0⟩
  by_cases h4 : x.days.length > 60
  · (refine ql_pure tabOk rfl rfl ?_; refine q_nil ?_; refine q_cond_false rfl ?_; refine q_skip ?_; (iterate 2 refine q_seq ?_); refine q_region ?_; refine ql_pure tabOk rfl rfl ?_; refine ql_loadB tabOk rfl rfl rfl (by repeat first | exact .head _ | refine .tail _ ?_) (by rfl) ?_; refine ql_pure tabOk rfl rfl ?_; refine ql_lssF tabOk rfl rfl rfl (by omega) ?_; refine ql_pure tabOk rfl rfl ?_; refine ql_gyes rfl ?_; refine ql_pure tabOk rfl rfl ?_; refine ql_gyes rfl ?_; refine ql_loadB tabOk rfl rfl rfl (by repeat first | exact .head _ | refine .tail _ ?_) (by rfl) ?_; refine ql_gyes rfl ?_; refine ql_pure tabOk rfl rfl ?_; refine ql_gyes rfl ?_; refine ql_gtrT tabOk rfl rfl rfl (by omega) ?_; refine ql_pure tabOk rfl rfl ?_; refine q_nil ?_; refine q_cond_true rfl ?_; refine q_seq ?_; refine q_region ?_; refine ql_pure tabOk rfl rfl ?_; refine q_nil ?_; refine q_ret ?_)
    refine q_fin tabOk rfl (by repeat (first | exact RVs.nil | apply RVs.tmp rfl | apply RVs.cellA rfl rfl (by repeat first | exact .head _ | refine .tail _ ?_) (by rfl) | apply RVs.cell1 rfl rfl (by repeat first | exact .head _ | refine .tail _ ?_))) fun w hs => ?_
    exact ⟨by simp only [retV, checkW]; rw [if_neg (by omega), if_pos (by omega)], hs.chg0⟩
  have eC : checkW x = if x.days.all dayB = true then 0 else 3 := by
    unfold checkW
    rw [if_neg (by omega), if_neg (by omega)]
  obtain ⟨b, off, rfl⟩ := hsa (by omega)
  (refine ql_pure tabOk rfl rfl ?_; refine q_nil ?_; refine q_cond_false rfl ?_; refine q_skip ?_; (iterate 2 refine q_seq ?_); refine q_region ?_; refine ql_pure tabOk rfl rfl ?_; refine ql_loadB tabOk rfl rfl rfl (by repeat first | exact .head _ | refine .tail _ ?_) (by rfl) ?_; refine ql_pure tabOk rfl rfl ?_; refine ql_lssF tabOk rfl rfl rfl (by omega) ?_; refine ql_pure tabOk rfl rfl ?_; refine ql_gyes rfl ?_; refine ql_pure tabOk rfl rfl ?_; refine ql_gyes rfl ?_; refine ql_loadB tabOk rfl rfl rfl (by repeat first | exact .head _ | refine .tail _ ?_) (by rfl) ?_; refine ql_gyes rfl ?_; refine ql_pure tabOk rfl rfl ?_; refine ql_gyes rfl ?_; refine ql_gtrF tabOk rfl rfl rfl (by omega) ?_; refine ql_pure tabOk rfl rfl ?_; refine q_nil ?_; refine q_cond_false rfl ?_; refine q_skip ?_; (iterate 2 refine q_seq ?_); refine q_region ?_; refine ql_pure tabOk rfl rfl ?_; refine q_nil ?_; refine q_block ?_)
  refine q_loop (σ := Nat) (fun k => k ≤ x.days.length ∧ (x.days.take k).all dayB = true) (fun k => x.days.length - k) (fun k => [(1, .pointer (some ⟨b1, 0, none⟩)), (3, .int .i64 k)]) (fun _ => [.pt b1 (wnC x (some ⟨b, off, none⟩) c) 93]) 0 ⟨by omega, rfl⟩ ⟨rfl, rfl, trivial⟩ (by repeat (first | exact Sp.nil | exact Sp.refl _ | refine Sp.cons (by repeat constructor) ?_)) ?_
  rintro k ⟨hk, hall⟩ K hK
  ((iterate 2 refine q_seq ?_); refine q_region ?_; (iterate 2 refine ql_pure tabOk rfl rfl ?_); refine ql_loadB tabOk rfl rfl rfl (by repeat first | exact .head _ | refine .tail _ ?_) (by rfl) ?_; (iterate 2 refine ql_pure tabOk rfl rfl ?_); refine q_nil ?_)
  refine q_if rfl (fun hc => ?_) (fun hc => ?_)
  · have hk2 : k < x.days.length := by omega
    clear hc
    have e : (x.days.take (k + 1)).all dayB = dayB x.days[k] := by rw [List.take_succ_eq_append_getElem hk2, List.all_append, hall]; simp
    have e2 : dayB x.days[k] = false → x.days.all dayB = false := fun hh => List.all_eq_false.2 ⟨x.days[k], List.getElem_mem hk2, by simp [hh]⟩
    have e3 : dayB x.days[k] = (spnB x.days[k].n0 x.days[k].n1 100000 && spnB x.days[k].m0 x.days[k].m1 100000 && spnB x.days[k].l0 x.days[k].l1 100000) := rfl
    (refine q_skip ?_; refine q_seq ?_; refine q_block ?_; refine q_seq ?_; refine q_region ?_; refine ql_pure tabOk rfl rfl ?_; refine ql_loadB tabOk rfl rfl rfl (by repeat first | exact .head _ | refine .tail _ ?_) (by rfl) ?_; refine ql_pure tabOk rfl rfl ?_)
    refine ql_index tabOk rfl rfl rfl rfl rfl (by omega) (by omega) ?_
    (refine ql_pure tabOk rfl rfl ?_)
    refine ql_loadA tabOk rfl rfl rfl rfl (fun w hs => RdD.need (RdE.keep h hs.chg0) k hk2) ?_
    skip
    refine ql_callv (val := .bool (!(spnB x.days[k].n0 x.days[k].n1 100000))) tabOk rfl rfl rfl rfl (fun w hs => ?_) ?_; exact wrong_ca x.days[k].n0 x.days[k].n1 100000 w
    cases g1 : spnB x.days[k].n0 x.days[k].n1 100000 with
    | false =>
      (refine ql_pure tabOk rfl rfl ?_; (iterate 7 refine ql_gno rfl rfl rfl ?_); (iterate 2 refine ql_pure tabOk rfl rfl ?_); (iterate 7 refine ql_gno rfl rfl rfl ?_); refine ql_pure tabOk rfl rfl ?_; refine q_nil ?_; refine q_cond_true rfl ?_; refine q_seq ?_; refine q_region ?_; refine ql_pure tabOk rfl rfl ?_; refine q_nil ?_; refine q_ret ?_)
      refine q_fin tabOk rfl (by repeat (first | exact RVs.nil | apply RVs.tmp rfl | apply RVs.cellA rfl rfl (by repeat first | exact .head _ | refine .tail _ ?_) (by rfl) | apply RVs.cell1 rfl rfl (by repeat first | exact .head _ | refine .tail _ ?_))) fun w hs => ?_
      exact ⟨by rw [eC, e2 (by rw [e3, g1]; rfl)]; rfl, hs.chg0⟩
    | true =>
    (refine ql_pure tabOk rfl rfl ?_; refine ql_gyes rfl ?_; refine ql_pure tabOk rfl rfl ?_; refine ql_gyes rfl ?_; refine ql_loadB tabOk rfl rfl rfl (by repeat first | exact .head _ | refine .tail _ ?_) (by rfl) ?_; refine ql_gyes rfl ?_; refine ql_pure tabOk rfl rfl ?_; refine ql_gyes rfl ?_)
    refine ql_index tabOk rfl rfl rfl rfl rfl (by omega) (by omega) ?_
    (refine ql_gyes rfl ?_; refine ql_pure tabOk rfl rfl ?_; refine ql_gyes rfl ?_)
    refine ql_loadA tabOk rfl rfl rfl rfl (fun w hs => RdD.make (RdE.keep h hs.chg0) k hk2) ?_
    (refine ql_gyes rfl ?_)
    refine ql_callv (val := .bool (!(spnB x.days[k].m0 x.days[k].m1 100000))) tabOk rfl rfl rfl rfl (fun w hs => ?_) ?_; exact wrong_ca x.days[k].m0 x.days[k].m1 100000 w
    cases g2 : spnB x.days[k].m0 x.days[k].m1 100000 with
    | false =>
      ((iterate 2 refine ql_pure tabOk rfl rfl ?_); (iterate 7 refine ql_gno rfl rfl rfl ?_); refine ql_pure tabOk rfl rfl ?_; refine q_nil ?_; refine q_cond_true rfl ?_; refine q_seq ?_; refine q_region ?_; refine ql_pure tabOk rfl rfl ?_; refine q_nil ?_; refine q_ret ?_)
      refine q_fin tabOk rfl (by repeat (first | exact RVs.nil | apply RVs.tmp rfl | apply RVs.cellA rfl rfl (by repeat first | exact .head _ | refine .tail _ ?_) (by rfl) | apply RVs.cell1 rfl rfl (by repeat first | exact .head _ | refine .tail _ ?_))) fun w hs => ?_
      exact ⟨by rw [eC, e2 (by rw [e3, g1, g2]; rfl)]; rfl, hs.chg0⟩
    | true =>
    ((iterate 2 refine ql_pure tabOk rfl rfl ?_); refine ql_gyes rfl ?_; refine ql_pure tabOk rfl rfl ?_; refine ql_gyes rfl ?_; refine ql_loadB tabOk rfl rfl rfl (by repeat first | exact .head _ | refine .tail _ ?_) (by rfl) ?_; refine ql_gyes rfl ?_; refine ql_pure tabOk rfl rfl ?_; refine ql_gyes rfl ?_)
    refine ql_index tabOk rfl rfl rfl rfl rfl (by omega) (by omega) ?_
    (refine ql_gyes rfl ?_; refine ql_pure tabOk rfl rfl ?_; refine ql_gyes rfl ?_)
    refine ql_loadA tabOk rfl rfl rfl rfl (fun w hs => RdD.loss (RdE.keep h hs.chg0) k hk2) ?_
    (refine ql_gyes rfl ?_)
    refine ql_callv (val := .bool (!(spnB x.days[k].l0 x.days[k].l1 100000))) tabOk rfl rfl rfl rfl (fun w hs => ?_) ?_; exact wrong_ca x.days[k].l0 x.days[k].l1 100000 w
    cases g3 : spnB x.days[k].l0 x.days[k].l1 100000 with
    | false =>
      (refine ql_pure tabOk rfl rfl ?_; refine q_nil ?_; refine q_cond_true rfl ?_; refine q_seq ?_; refine q_region ?_; refine ql_pure tabOk rfl rfl ?_; refine q_nil ?_; refine q_ret ?_)
      refine q_fin tabOk rfl (by repeat (first | exact RVs.nil | apply RVs.tmp rfl | apply RVs.cellA rfl rfl (by repeat first | exact .head _ | refine .tail _ ?_) (by rfl) | apply RVs.cell1 rfl rfl (by repeat first | exact .head _ | refine .tail _ ?_))) fun w hs => ?_
      exact ⟨by rw [eC, e2 (by rw [e3, g1, g2, g3]; rfl)]; rfl, hs.chg0⟩
    | true =>
    (refine ql_pure tabOk rfl rfl ?_; refine q_nil ?_; refine q_cond_false rfl ?_; refine q_skip ?_; refine q_blk ?_; refine q_region ?_; refine ql_pure tabOk rfl rfl ?_; refine ql_ar tabOk rfl rfl rfl rfl (by omega) (by omega) ?_; refine ql_pure tabOk rfl rfl ?_; refine q_nil ?_)
    exact hK (k + 1) _ _ ⟨by omega, by rw [e, e3, g1, g2, g3]; rfl⟩ (by omega) ⟨rfl, rfl, trivial⟩ (by repeat (first | exact Sp.nil | exact Sp.refl _ | refine Sp.cons (by repeat constructor) ?_))
  · obtain rfl : k = x.days.length := by omega
    rw [List.take_length] at hall
    (refine q_exit _ rfl ?_; refine q_seq ?_; refine q_region ?_; refine ql_pure tabOk rfl rfl ?_; refine q_nil ?_; refine q_ret ?_)
    refine q_fin tabOk rfl (by repeat (first | exact RVs.nil | apply RVs.tmp rfl | apply RVs.cellA rfl rfl (by repeat first | exact .head _ | refine .tail _ ?_) (by rfl) | apply RVs.cell1 rfl rfl (by repeat first | exact .head _ | refine .tail _ ?_))) fun w hs => ?_
    exact ⟨by rw [eC, hall]; rfl, hs.chg0⟩
end Go.Proofs.Ytgeajgmefokifaa

/- Walks of the reference: the error of a weather. -/
namespace Go.Proofs.Ytgeajgmefokifaa
open Go Go.Eng

set_option maxHeartbeats 2000000 in
theorem rweath_ca (w : World) (lo hi : Nat) (x : Wn) (a : Option Addr) (c : Nat) (t : Wt) (v1 v2 v3 : Value) (h : RdD w lo hi (.slice a x.days.length c) x.days) (hlen : x.days.length ≤ 1000000) (hw : WtR w t v1 v2 v3) (hl1 : t.need.length ≤ 1000000) (hl2 : t.make.length ≤ 1000000) (hl3 : t.loss.length ≤ 1000000) :
    Ca Try.prog 80 [.agg (wnC x a c).toArray, v1, v2, v3] w fun r w' => r = .int .i64 (weatV x t) ∧ Chg [] w w' := by
  obtain ⟨lo1, hi1, r1⟩ := hw.n
  obtain ⟨lo2, hi2, r2⟩ := hw.m
  obtain ⟨lo3, hi3, r3⟩ := hw.l
  obtain ⟨a1, c1, rfl, hs1⟩ := RdI.outI r1
  obtain ⟨a2, c2, rfl, hs2⟩ := RdI.outI r2
  obtain ⟨a3, c3, rfl, hs3⟩ := RdI.outI r3
  obtain ⟨a', c', he, hsa⟩ := RdD.outI h
  cases he
  refine q_of (Sat.nil w M0) Try.func80 rfl (by simp [Try.ntmps80]) ?_
  (refine q_seq ?_; refine q_region ?_)
  refine ql_box rfl rfl (fun b4 => ?_)
  (refine ql_pure tabOk rfl rfl ?_; refine q_nil ?_; (iterate 2 refine q_seq ?_); refine q_region ?_; refine ql_loadAB tabOk rfl rfl rfl (by repeat first | exact .head _ | refine .tail _ ?_) (by rfl) (by rfl) ?_)
  refine ql_callv (val := .int .i64 (checkW x)) tabOk rfl rfl rfl rfl (fun w hs => ?_) ?_; exact rcheckW_ca w lo hi x a c (RdE.keep h hs.chg0) hlen
  by_cases h0 : checkW x ≠ 0
  · have e : weatV x t = checkW x := by unfold weatV; rw [if_pos h0]
    rw [e]
    rcases checkW_or x with h1 | h1 | h1
    · exact absurd h1 h0
    · rw [h1]
      (refine ql_pure tabOk rfl rfl ?_; refine q_nil ?_; refine q_seq ?_; refine q_region ?_; refine ql_pure tabOk rfl rfl ?_; refine ql_neqT tabOk rfl rfl rfl (by omega) ?_; refine q_nil ?_; refine q_cond_true rfl ?_; refine q_seq ?_; refine q_region ?_; (iterate 2 refine ql_pure tabOk rfl rfl ?_); refine q_nil ?_; refine q_ret ?_)
      refine q_fin tabOk rfl (by repeat (first | exact RVs.nil | apply RVs.tmp rfl | apply RVs.cellA rfl rfl (by repeat first | exact .head _ | refine .tail _ ?_) (by rfl) | apply RVs.cell1 rfl rfl (by repeat first | exact .head _ | refine .tail _ ?_))) fun w hs => ?_
      exact ⟨rfl, hs.chg0⟩
    · rw [h1]
      (refine ql_pure tabOk rfl rfl ?_; refine q_nil ?_; refine q_seq ?_; refine q_region ?_; refine ql_pure tabOk rfl rfl ?_; refine ql_neqT tabOk rfl rfl rfl (by omega) ?_; refine q_nil ?_; refine q_cond_true rfl ?_; refine q_seq ?_; refine q_region ?_; (iterate 2 refine ql_pure tabOk rfl rfl ?_); refine q_nil ?_; refine q_ret ?_)
      refine q_fin tabOk rfl (by repeat (first | exact RVs.nil | apply RVs.tmp rfl | apply RVs.cellA rfl rfl (by repeat first | exact .head _ | refine .tail _ ?_) (by rfl) | apply RVs.cell1 rfl rfl (by repeat first | exact .head _ | refine .tail _ ?_))) fun w hs => ?_
      exact ⟨rfl, hs.chg0⟩
  have h0 : checkW x = 0 := by omega
  rw [h0]
  have hx := checkW_iff.1 h0
  have hn := hx.d2
  have hn1 := hx.d1
  by_cases k1 : t.need.length ≠ x.days.length
  · have e : weatV x t = 2 := by unfold weatV; rw [if_neg (by omega), if_pos (by omega)]
    (refine ql_pure tabOk rfl rfl ?_; refine q_nil ?_; refine q_seq ?_; refine q_region ?_; refine ql_pure tabOk rfl rfl ?_; refine ql_neqF tabOk rfl rfl rfl (by omega) ?_; refine q_nil ?_; refine q_cond_false rfl ?_; refine q_skip ?_; refine q_seq ?_; refine q_region ?_; refine ql_pure tabOk rfl rfl ?_; refine ql_loadB tabOk rfl rfl rfl (by repeat first | exact .head _ | refine .tail _ ?_) (by rfl) ?_; (iterate 2 refine ql_pure tabOk rfl rfl ?_); refine q_nil ?_; (iterate 2 refine q_seq ?_); refine q_region ?_; (iterate 3 refine ql_pure tabOk rfl rfl ?_); refine ql_neqT tabOk rfl rfl rfl (by omega) ?_; refine ql_pure tabOk rfl rfl ?_; (iterate 4 refine ql_gno rfl rfl rfl ?_); (iterate 2 refine ql_pure tabOk rfl rfl ?_); (iterate 4 refine ql_gno rfl rfl rfl ?_); refine ql_pure tabOk rfl rfl ?_; refine q_nil ?_; refine q_cond_true rfl ?_; refine q_seq ?_; refine q_region ?_; refine ql_pure tabOk rfl rfl ?_; refine q_nil ?_; refine q_ret ?_)
    refine q_fin tabOk rfl (by repeat (first | exact RVs.nil | apply RVs.tmp rfl | apply RVs.cellA rfl rfl (by repeat first | exact .head _ | refine .tail _ ?_) (by rfl) | apply RVs.cell1 rfl rfl (by repeat first | exact .head _ | refine .tail _ ?_))) fun w hs => ?_
    exact ⟨by rw [e]; rfl, hs.chg0⟩
  by_cases k2 : t.make.length ≠ x.days.length
  · have e : weatV x t = 2 := by unfold weatV; rw [if_neg (by omega), if_pos (by omega)]
    (refine ql_pure tabOk rfl rfl ?_; refine q_nil ?_; refine q_seq ?_; refine q_region ?_; refine ql_pure tabOk rfl rfl ?_; refine ql_neqF tabOk rfl rfl rfl (by omega) ?_; refine q_nil ?_; refine q_cond_false rfl ?_; refine q_skip ?_; refine q_seq ?_; refine q_region ?_; refine ql_pure tabOk rfl rfl ?_; refine ql_loadB tabOk rfl rfl rfl (by repeat first | exact .head _ | refine .tail _ ?_) (by rfl) ?_; (iterate 2 refine ql_pure tabOk rfl rfl ?_); refine q_nil ?_; (iterate 2 refine q_seq ?_); refine q_region ?_; (iterate 3 refine ql_pure tabOk rfl rfl ?_); refine ql_neqF tabOk rfl rfl rfl (by omega) ?_; refine ql_pure tabOk rfl rfl ?_; refine ql_gyes rfl ?_; refine ql_pure tabOk rfl rfl ?_; refine ql_gyes rfl ?_; refine ql_pure tabOk rfl rfl ?_; refine ql_gyes rfl ?_; refine ql_pure tabOk rfl rfl ?_; refine ql_gyes rfl ?_; refine ql_neqT tabOk rfl rfl rfl (by omega) ?_; (iterate 2 refine ql_pure tabOk rfl rfl ?_); (iterate 4 refine ql_gno rfl rfl rfl ?_); refine ql_pure tabOk rfl rfl ?_; refine q_nil ?_; refine q_cond_true rfl ?_; refine q_seq ?_; refine q_region ?_; refine ql_pure tabOk rfl rfl ?_; refine q_nil ?_; refine q_ret ?_)
    refine q_fin tabOk rfl (by repeat (first | exact RVs.nil | apply RVs.tmp rfl | apply RVs.cellA rfl rfl (by repeat first | exact .head _ | refine .tail _ ?_) (by rfl) | apply RVs.cell1 rfl rfl (by repeat first | exact .head _ | refine .tail _ ?_))) fun w hs => ?_
    exact ⟨by rw [e]; rfl, hs.chg0⟩
  by_cases k3 : t.loss.length ≠ x.days.length
  · have e : weatV x t = 2 := by unfold weatV; rw [if_neg (by omega), if_pos (by omega)]
    (refine ql_pure tabOk rfl rfl ?_; refine q_nil ?_; refine q_seq ?_; refine q_region ?_; refine ql_pure tabOk rfl rfl ?_; refine ql_neqF tabOk rfl rfl rfl (by omega) ?_; refine q_nil ?_; refine q_cond_false rfl ?_; refine q_skip ?_; refine q_seq ?_; refine q_region ?_; refine ql_pure tabOk rfl rfl ?_; refine ql_loadB tabOk rfl rfl rfl (by repeat first | exact .head _ | refine .tail _ ?_) (by rfl) ?_; (iterate 2 refine ql_pure tabOk rfl rfl ?_); refine q_nil ?_; (iterate 2 refine q_seq ?_); refine q_region ?_; (iterate 3 refine ql_pure tabOk rfl rfl ?_); refine ql_neqF tabOk rfl rfl rfl (by omega) ?_; refine ql_pure tabOk rfl rfl ?_; refine ql_gyes rfl ?_; refine ql_pure tabOk rfl rfl ?_; refine ql_gyes rfl ?_; refine ql_pure tabOk rfl rfl ?_; refine ql_gyes rfl ?_; refine ql_pure tabOk rfl rfl ?_; refine ql_gyes rfl ?_; refine ql_neqF tabOk rfl rfl rfl (by omega) ?_; (iterate 2 refine ql_pure tabOk rfl rfl ?_); refine ql_gyes rfl ?_; refine ql_pure tabOk rfl rfl ?_; refine ql_gyes rfl ?_; refine ql_pure tabOk rfl rfl ?_; refine ql_gyes rfl ?_; refine ql_pure tabOk rfl rfl ?_; refine ql_gyes rfl ?_; refine ql_neqT tabOk rfl rfl rfl (by omega) ?_; refine ql_pure tabOk rfl rfl ?_; refine q_nil ?_; refine q_cond_true rfl ?_; refine q_seq ?_; refine q_region ?_; refine ql_pure tabOk rfl rfl ?_; refine q_nil ?_; refine q_ret ?_)
    refine q_fin tabOk rfl (by repeat (first | exact RVs.nil | apply RVs.tmp rfl | apply RVs.cellA rfl rfl (by repeat first | exact .head _ | refine .tail _ ?_) (by rfl) | apply RVs.cell1 rfl rfl (by repeat first | exact .head _ | refine .tail _ ?_))) fun w hs => ?_
    exact ⟨by rw [e]; rfl, hs.chg0⟩
  have k1 : t.need.length = x.days.length := by omega
  have k2 : t.make.length = x.days.length := by omega
  have k3 : t.loss.length = x.days.length := by omega
  have eC : weatV x t = if (List.range x.days.length).all (inB x t) = true then 0 else 3 := by
    unfold weatV
    rw [if_neg (by omega), if_neg (by omega)]
  obtain ⟨b, off, rfl⟩ := hsa (by omega)
  obtain ⟨g1, f1, rfl⟩ := hs1 (by omega)
  obtain ⟨g2, f2, rfl⟩ := hs2 (by omega)
  obtain ⟨g3, f3, rfl⟩ := hs3 (by omega)
  (refine ql_pure tabOk rfl rfl ?_; refine q_nil ?_; refine q_seq ?_; refine q_region ?_; refine ql_pure tabOk rfl rfl ?_; refine ql_neqF tabOk rfl rfl rfl (by omega) ?_; refine q_nil ?_; refine q_cond_false rfl ?_; refine q_skip ?_; refine q_seq ?_; refine q_region ?_; refine ql_pure tabOk rfl rfl ?_; refine ql_loadB tabOk rfl rfl rfl (by repeat first | exact .head _ | refine .tail _ ?_) (by rfl) ?_; (iterate 2 refine ql_pure tabOk rfl rfl ?_); refine q_nil ?_; (iterate 2 refine q_seq ?_); refine q_region ?_; (iterate 3 refine ql_pure tabOk rfl rfl ?_); refine ql_neqF tabOk rfl rfl rfl (by omega) ?_; refine ql_pure tabOk rfl rfl ?_; refine ql_gyes rfl ?_; refine ql_pure tabOk rfl rfl ?_; refine ql_gyes rfl ?_; refine ql_pure tabOk rfl rfl ?_; refine ql_gyes rfl ?_; refine ql_pure tabOk rfl rfl ?_; refine ql_gyes rfl ?_; refine ql_neqF tabOk rfl rfl rfl (by omega) ?_; (iterate 2 refine ql_pure tabOk rfl rfl ?_); refine ql_gyes rfl ?_; refine ql_pure tabOk rfl rfl ?_; refine ql_gyes rfl ?_; refine ql_pure tabOk rfl rfl ?_; refine ql_gyes rfl ?_; refine ql_pure tabOk rfl rfl ?_; refine ql_gyes rfl ?_; refine ql_neqF tabOk rfl rfl rfl (by omega) ?_; refine ql_pure tabOk rfl rfl ?_; refine q_nil ?_; refine q_cond_false rfl ?_; refine q_skip ?_; (iterate 2 refine q_seq ?_); refine q_region ?_; refine ql_pure tabOk rfl rfl ?_; refine q_nil ?_; refine q_block ?_)
  refine q_loop (σ := Nat) (fun k => k ≤ x.days.length ∧ (List.range k).all (inB x t) = true) (fun k => x.days.length - k) (fun k => [(1, .slice (some ⟨g1, f1, none⟩) t.need.length c1), (2, .slice (some ⟨g2, f2, none⟩) t.make.length c2), (3, .slice (some ⟨g3, f3, none⟩) t.loss.length c3), (4, .pointer (some ⟨b4, 0, none⟩)), (10, .int .i64 x.days.length), (11, .int .i64 k)]) (fun _ => [.pt b4 (wnC x (some ⟨b, off, none⟩) c) 93]) 0 ⟨by omega, rfl⟩ ⟨rfl, rfl, rfl, rfl, rfl, rfl, trivial⟩ (by repeat (first | exact Sp.nil | exact Sp.refl _ | refine Sp.cons (by repeat constructor) ?_)) ?_
  rintro k ⟨hk, hall⟩ K hK
  ((iterate 2 refine q_seq ?_); refine q_region ?_; (iterate 3 refine ql_pure tabOk rfl rfl ?_); refine q_nil ?_)
  refine q_if rfl (fun hc => ?_) (fun hc => ?_)
  · have hk2 : k < x.days.length := by first | omega | (simp at hc; omega)
    clear hc
    have y1 : k < t.need.length := by omega
    have y2 : k < t.make.length := by omega
    have y3 : k < t.loss.length := by omega
    have e : (List.range (k + 1)).all (inB x t) = inB x t k := by rw [List.range_succ, List.all_append, hall]; simp
    have e2 : inB x t k = false → (List.range x.days.length).all (inB x t) = false := fun hh => List.all_eq_false.2 ⟨k, List.mem_range.2 hk2, by simp [hh]⟩
    have e3 : inB x t k = (wiB t.need[k] x.days[k].n0 x.days[k].n1 && wiB t.make[k] x.days[k].m0 x.days[k].m1 && wiB t.loss[k] x.days[k].l0 x.days[k].l1) := by
      have e : x.days.getD k ⟨0, 0, 0, 0, 0, 0⟩ = x.days[k] := by rw [List.getD_eq_getElem?_getD, List.getElem?_eq_getElem hk2]; rfl
      simp only [inB, e, getD_at y1, getD_at y2, getD_at y3, wiB]
    (refine q_skip ?_; refine q_seq ?_; refine q_block ?_; refine q_seq ?_; refine q_region ?_; refine ql_pure tabOk rfl rfl ?_; refine ql_loadB tabOk rfl rfl rfl (by repeat first | exact .head _ | refine .tail _ ?_) (by rfl) ?_; refine ql_pure tabOk rfl rfl ?_)
    refine ql_index tabOk rfl rfl rfl rfl rfl (by omega) (by omega) ?_
    skip
    refine ql_loadA tabOk rfl rfl rfl rfl (fun w hs => RdD.at (RdE.keep h hs.chg0) k hk2) ?_
    skip
    refine ql_alloc zero176 rfl (fun b12 => ?_)
    (refine ql_setA tabOk rfl rfl rfl rfl rfl (by repeat constructor) rfl ?_; refine q_nil ?_; refine q_seq ?_)
    refine q_draw _ [] (Sp.refl _) (by kernel_rfl) (by kernel_rfl) ?_
    ((iterate 2 refine qf_pure tabOk rfl rfl rfl ?_))
    (refine qf_index tabOk rfl rfl rfl rfl rfl (by omega) (by omega) ?_; refine qf_load1 tabOk rfl rfl rfl (fun w hs => RdI.at (RdE.keep r1 hs.chg0) k y1) ?_)
    ((iterate 2 refine qf_pure tabOk rfl rfl rfl ?_); refine qf_loadB tabOk rfl rfl rfl (by repeat first | exact .head _ | refine .tail _ ?_) (by rfl) ?_; (iterate 2 refine qf_pure tabOk rfl rfl rfl ?_); refine qf_loadB tabOk rfl rfl rfl (by repeat first | exact .head _ | refine .tail _ ?_) (by rfl) ?_)
    refine qf_callv (val := .bool (!(wiB t.need[k] x.days[k].n0 x.days[k].n1))) tabOk rfl rfl rfl rfl (fun w hs => ?_) ?_; exact out_ca t.need[k] x.days[k].n0 x.days[k].n1 w
    cases g1 : wiB t.need[k] x.days[k].n0 x.days[k].n1 with
    | false =>
      (refine qf_pure tabOk rfl rfl rfl ?_; (iterate 11 refine qf_gno rfl rfl rfl ?_); (iterate 2 refine qf_pure tabOk rfl rfl rfl ?_); (iterate 11 refine qf_gno rfl rfl rfl ?_); refine qf_pure tabOk rfl rfl rfl ?_; refine qf_nil ?_; refine q_cond_true rfl ?_; refine q_seq ?_; refine q_region ?_; refine ql_pure tabOk rfl rfl ?_; refine q_nil ?_; refine q_ret ?_)
      refine q_fin tabOk rfl (by repeat (first | exact RVs.nil | apply RVs.tmp rfl | apply RVs.cellA rfl rfl (by repeat first | exact .head _ | refine .tail _ ?_) (by rfl) | apply RVs.cell1 rfl rfl (by repeat first | exact .head _ | refine .tail _ ?_))) fun w hs => ?_
      exact ⟨by rw [eC, e2 (by rw [e3, g1]; rfl)]; rfl, hs.chg0⟩
    | true =>
    (refine qf_pure tabOk rfl rfl rfl ?_; refine qf_gyes rfl ?_; refine qf_pure tabOk rfl rfl rfl ?_; refine qf_gyes rfl ?_; refine qf_pure tabOk rfl rfl rfl ?_; refine qf_gyes rfl ?_)
    refine qf_index tabOk rfl rfl rfl rfl rfl (by omega) (by omega) ?_
    (refine qf_gyes rfl ?_)
    refine qf_load1 (v := .int .i64 t.make[k]) tabOk rfl rfl rfl (fun w hs => RdI.at (RdE.keep r2 hs.chg0) k y2) ?_
    (refine qf_gyes rfl ?_; refine qf_pure tabOk rfl rfl rfl ?_; refine qf_gyes rfl ?_; refine qf_pure tabOk rfl rfl rfl ?_; refine qf_gyes rfl ?_; refine qf_loadB tabOk rfl rfl rfl (by repeat first | exact .head _ | refine .tail _ ?_) (by rfl) ?_; refine qf_gyes rfl ?_; refine qf_pure tabOk rfl rfl rfl ?_; refine qf_gyes rfl ?_; refine qf_pure tabOk rfl rfl rfl ?_; refine qf_gyes rfl ?_; refine qf_loadB tabOk rfl rfl rfl (by repeat first | exact .head _ | refine .tail _ ?_) (by rfl) ?_; refine qf_gyes rfl ?_)
    refine qf_callv (val := .bool (!(wiB t.make[k] x.days[k].m0 x.days[k].m1))) tabOk rfl rfl rfl rfl (fun w hs => ?_) ?_; exact out_ca t.make[k] x.days[k].m0 x.days[k].m1 w
    cases g2 : wiB t.make[k] x.days[k].m0 x.days[k].m1 with
    | false =>
      ((iterate 2 refine qf_pure tabOk rfl rfl rfl ?_); (iterate 11 refine qf_gno rfl rfl rfl ?_); refine qf_pure tabOk rfl rfl rfl ?_; refine qf_nil ?_; refine q_cond_true rfl ?_; refine q_seq ?_; refine q_region ?_; refine ql_pure tabOk rfl rfl ?_; refine q_nil ?_; refine q_ret ?_)
      refine q_fin tabOk rfl (by repeat (first | exact RVs.nil | apply RVs.tmp rfl | apply RVs.cellA rfl rfl (by repeat first | exact .head _ | refine .tail _ ?_) (by rfl) | apply RVs.cell1 rfl rfl (by repeat first | exact .head _ | refine .tail _ ?_))) fun w hs => ?_
      exact ⟨by rw [eC, e2 (by rw [e3, g1, g2]; rfl)]; rfl, hs.chg0⟩
    | true =>
    ((iterate 2 refine qf_pure tabOk rfl rfl rfl ?_); refine qf_gyes rfl ?_; refine qf_pure tabOk rfl rfl rfl ?_; refine qf_gyes rfl ?_; refine qf_pure tabOk rfl rfl rfl ?_; refine qf_gyes rfl ?_)
    refine qf_index tabOk rfl rfl rfl rfl rfl (by omega) (by omega) ?_
    (refine qf_gyes rfl ?_)
    refine qf_load1 (v := .int .i64 t.loss[k]) tabOk rfl rfl rfl (fun w hs => RdI.at (RdE.keep r3 hs.chg0) k y3) ?_
    (refine qf_gyes rfl ?_; refine qf_pure tabOk rfl rfl rfl ?_; refine qf_gyes rfl ?_; refine qf_pure tabOk rfl rfl rfl ?_; refine qf_gyes rfl ?_; refine qf_loadB tabOk rfl rfl rfl (by repeat first | exact .head _ | refine .tail _ ?_) (by rfl) ?_; refine qf_gyes rfl ?_; refine qf_pure tabOk rfl rfl rfl ?_; refine qf_gyes rfl ?_; refine qf_pure tabOk rfl rfl rfl ?_; refine qf_gyes rfl ?_; refine qf_loadB tabOk rfl rfl rfl (by repeat first | exact .head _ | refine .tail _ ?_) (by rfl) ?_; refine qf_gyes rfl ?_)
    refine qf_callv (val := .bool (!(wiB t.loss[k] x.days[k].l0 x.days[k].l1))) tabOk rfl rfl rfl rfl (fun w hs => ?_) ?_; exact out_ca t.loss[k] x.days[k].l0 x.days[k].l1 w
    cases g3 : wiB t.loss[k] x.days[k].l0 x.days[k].l1 with
    | false =>
      (refine qf_pure tabOk rfl rfl rfl ?_; refine qf_nil ?_; refine q_cond_true rfl ?_; refine q_seq ?_; refine q_region ?_; refine ql_pure tabOk rfl rfl ?_; refine q_nil ?_; refine q_ret ?_)
      refine q_fin tabOk rfl (by repeat (first | exact RVs.nil | apply RVs.tmp rfl | apply RVs.cellA rfl rfl (by repeat first | exact .head _ | refine .tail _ ?_) (by rfl) | apply RVs.cell1 rfl rfl (by repeat first | exact .head _ | refine .tail _ ?_))) fun w hs => ?_
      exact ⟨by rw [eC, e2 (by rw [e3, g1, g2, g3]; rfl)]; rfl, hs.chg0⟩
    | true =>
    (refine qf_pure tabOk rfl rfl rfl ?_; refine qf_nil ?_; refine q_cond_false rfl ?_; refine q_skip ?_; refine q_blk ?_; refine q_region ?_; refine ql_pure tabOk rfl rfl ?_; refine ql_ar tabOk rfl rfl rfl rfl (by omega) (by omega) ?_; refine ql_pure tabOk rfl rfl ?_; refine q_nil ?_)
    exact hK (k + 1) _ _ ⟨by omega, by rw [e, e3, g1, g2, g3]; rfl⟩ (by omega) ⟨rfl, rfl, rfl, rfl, rfl, rfl, trivial⟩ (by repeat (first | exact Sp.nil | exact Sp.refl _ | refine Sp.cons (by repeat constructor) ?_))
  · obtain rfl : k = x.days.length := by omega
    (refine q_exit _ rfl ?_; refine q_seq ?_; refine q_region ?_; refine ql_pure tabOk rfl rfl ?_; refine q_nil ?_; refine q_ret ?_)
    refine q_fin tabOk rfl (by repeat (first | exact RVs.nil | apply RVs.tmp rfl | apply RVs.cellA rfl rfl (by repeat first | exact .head _ | refine .tail _ ?_) (by rfl) | apply RVs.cell1 rfl rfl (by repeat first | exact .head _ | refine .tail _ ?_))) fun w hs => ?_
    exact ⟨by rw [eC, hall]; rfl, hs.chg0⟩
end Go.Proofs.Ytgeajgmefokifaa

/- Plain laws of what happens, step by step. -/
namespace Go.Proofs.Ytgeajgmefokifaa
open Go Go.Eng

theorem hap_next (x : Wn) (t : Wt) {k : Nat} (hf : (hapP x t k).fails = -1) : hapP x t (k + 1) = dayS x.store k (t.need.getD k 0) (t.make.getD k 0) (t.loss.getD k 0) (hapP x t k) := by
  rw [hapP, if_pos hf]
theorem hap_stop (x : Wn) (t : Wt) {k : Nat} (hk : k < x.days.length) (hf : (hapP x t k).fails = -1) (h : fullS x.store (hapP x t k).stock (t.make.getD k 0) (t.loss.getD k 0) < t.need.getD k 0) : (hapV x t).fails = (k : Int) ∧ (hapV x t).stocks = (hapP x t k).stocks ∧ (hapV x t).made = (hapP x t k).made := by
  have e := hap_next x t hf
  unfold dayS at e
  rw [if_pos h] at e
  have e2 : hapV x t = hapP x t (k + 1) := hapP_stay x t (k := k + 1) (by rw [e]; show ¬((k : Int) = -1); omega) _ hk
  rw [e2, e]
  exact ⟨rfl, rfl, rfl⟩
theorem hap_go (x : Wn) (t : Wt) {k : Nat} (hf : (hapP x t k).fails = -1) (h : ¬ fullS x.store (hapP x t k).stock (t.make.getD k 0) (t.loss.getD k 0) < t.need.getD k 0) :
    (hapP x t (k + 1)).fails = -1 ∧ (hapP x t (k + 1)).stock = fullS x.store (hapP x t k).stock (t.make.getD k 0) (t.loss.getD k 0) - t.need.getD k 0 ∧ ints (hapP x t (k + 1)).stocks = ints (hapP x t k).stocks ++ [.int .i64 (fullS x.store (hapP x t k).stock (t.make.getD k 0) (t.loss.getD k 0) - t.need.getD k 0)] ∧
      ints (hapP x t (k + 1)).made = ints (hapP x t k).made ++ [.int .i64 (madeOf x.store (hapP x t k).stock (t.make.getD k 0) (t.loss.getD k 0))] := by
  have e := hap_next x t hf
  unfold dayS at e
  rw [if_neg h] at e
  rw [e]
  exact ⟨rfl, rfl, by simp [ints], by simp [ints]⟩
end Go.Proofs.Ytgeajgmefokifaa

/- Walk of the reference: what happens in a weather. -/
namespace Go.Proofs.Ytgeajgmefokifaa
open Go Go.Eng

set_option maxHeartbeats 4000000 in
theorem rhap_ca (w : World) (lo hi : Nat) (x : Wn) (a : Option Addr) (c : Nat) (t : Wt) (v1 v2 v3 : Value) (h : RdD w lo hi (.slice a x.days.length c) x.days) (hx : x.Right) (ht : t.Fine x.days.length) (hw : WtR w t v1 v2 v3) :
    Ca Try.prog 81 [.agg (wnC x a c).toArray, v1, v2, v3] w fun r w' => ∃ y : Value × Value, r = .tuple #[y.1, y.2, .int .i64 (hapV x t).fails] ∧ Sat w M0 [.ow y.1 3 1 (hapV x t).stocks.length (ints (hapV x t).stocks), .ow y.2 3 1 (hapV x t).made.length (ints (hapV x t).made)] w' := by
  have hd2 := hx.d2
  have hd1 := hx.d1
  have hst := hx.store
  have hsk := hx.stock
  have k1 := ht.need
  have k2 := ht.make
  have k3 := ht.loss
  obtain ⟨lo1, hi1, r1⟩ := hw.n
  obtain ⟨lo2, hi2, r2⟩ := hw.m
  obtain ⟨lo3, hi3, r3⟩ := hw.l
  obtain ⟨a1, c1, rfl, hs1⟩ := RdI.outI r1
  obtain ⟨a2, c2, rfl, hs2⟩ := RdI.outI r2
  obtain ⟨a3, c3, rfl, hs3⟩ := RdI.outI r3
  obtain ⟨g1, f1, rfl⟩ := hs1 (by omega)
  obtain ⟨g2, f2, rfl⟩ := hs2 (by omega)
  obtain ⟨g3, f3, rfl⟩ := hs3 (by omega)
  refine q_of (Sat.nil w M0) Try.func81 rfl (by simp [Try.ntmps81]) ?_
  (refine q_seq ?_; refine q_region ?_)
  refine ql_box rfl rfl (fun b4 => ?_)
  ((iterate 3 refine ql_pure tabOk rfl rfl ?_); refine q_nil ?_; refine q_seq ?_; refine q_region ?_; (iterate 2 refine ql_pure tabOk rfl rfl ?_); refine q_nil ?_; refine q_seq ?_; refine q_region ?_; refine ql_pure tabOk rfl rfl ?_; refine ql_loadB tabOk rfl rfl rfl (by repeat first | exact .head _ | refine .tail _ ?_) (by rfl) ?_; refine ql_pure tabOk rfl rfl ?_; refine q_nil ?_; (iterate 2 refine q_seq ?_); refine q_region ?_; refine ql_pure tabOk rfl rfl ?_; refine q_nil ?_; refine q_block ?_)
  refine q_conv (H' := [.ow (.slice none 0 0) 3 1 0 (ints []), .ow (.slice none 0 0) 3 1 0 (ints []), .pt b4 (wnC x a c) 93]) (fun w' hs => (Sat.ownil (Sat.ownil hs 3 1) 3 1).sp (by repeat (first | exact Sp.nil | exact Sp.refl _ | refine Sp.cons (by repeat constructor) ?_))) ?_
  refine q_loop (σ := Nat × Value × Value) (fun s => s.1 ≤ x.days.length ∧ (hapP x t s.1).fails = -1) (fun s => x.days.length - s.1) (fun s => [(1, .slice (some ⟨g1, f1, none⟩) t.need.length c1), (2, .slice (some ⟨g2, f2, none⟩) t.make.length c2), (3, .slice (some ⟨g3, f3, none⟩) t.loss.length c3), (4, .pointer (some ⟨b4, 0, none⟩)), (11, s.2.1), (12, s.2.2), (13, .int .i64 (hapP x t s.1).stock), (14, .int .i64 s.1)])
    (fun s => [.ow s.2.1 3 1 s.1 (ints (hapP x t s.1).stocks), .ow s.2.2 3 1 s.1 (ints (hapP x t s.1).made), .pt b4 (wnC x a c) 93]) (0, .slice none 0 0, .slice none 0 0) ⟨by simp, rfl⟩ ⟨rfl, rfl, rfl, rfl, rfl, rfl, rfl, rfl, trivial⟩ (by repeat (first | exact Sp.nil | exact Sp.refl _ | refine Sp.cons (by repeat constructor) ?_)) ?_
  rintro ⟨k, v, u⟩ ⟨hk, hf⟩ K hK
  simp only at hk hf
  dsimp only
  have hok := hap_ok x t hx.stock ht.need0 k hf
  have hs0 := hok.nn k (Nat.le_refl _)
  have hs1 := hok.top
  rw [← hok.stock] at hs0 hs1
  have hL1 : (hapP x t k).stocks.length = k := by rw [hok.stocks]; simp
  have hL2 : (hapP x t k).made.length = k := by rw [hok.made]; simp
  clear hok
  ((iterate 2 refine q_seq ?_); refine q_region ?_; (iterate 2 refine ql_pure tabOk rfl rfl ?_); refine ql_loadB tabOk rfl rfl rfl (by repeat first | exact .head _ | refine .tail _ ?_) (by rfl) ?_; (iterate 2 refine ql_pure tabOk rfl rfl ?_); refine q_nil ?_)
  refine q_if rfl (fun hc => ?_) (fun hc => ?_)
  · have hk2 : k < x.days.length := by first | omega | (simp at hc; omega)
    clear hc
    have y1 : k < t.need.length := by omega
    have y2 : k < t.make.length := by omega
    have y3 : k < t.loss.length := by omega
    have z1 := ht.need0 _ (List.getElem_mem y1)
    have z2 := ht.make0 _ (List.getElem_mem y2)
    have z3 := ht.loss0 _ (List.getElem_mem y3)
    have hstop := hap_stop x t hk2 hf
    have hgo := hap_go x t hf
    rw [getD_at y1, getD_at y2, getD_at y3] at hstop hgo
    have hF := fullS_eq (store := x.store) (mk := t.make[k]) (ls := t.loss[k]) hs0
    have hM : madeOf x.store (hapP x t k).stock t.make[k] t.loss[k] = min t.make[k] (x.store - max 0 ((hapP x t k).stock - t.loss[k])) := by unfold madeOf lossOf; omega
    rw [hF] at hstop hgo
    rw [hM] at hgo
    clear hF hM
    generalize (hapP x t k).stock = s at *
    (refine q_skip ?_; refine q_seq ?_; refine q_block ?_; refine q_seq ?_; refine q_region ?_; (iterate 3 refine ql_pure tabOk rfl rfl ?_))
    (refine ql_index tabOk rfl rfl rfl rfl rfl (by omega) (by omega) ?_; refine ql_load1 tabOk rfl rfl rfl (fun w hs => RdI.at (RdE.keep r3 hs.chg0) k y3) ?_)
    (refine ql_ar tabOk rfl rfl rfl rfl (by omega) (by omega) ?_; refine ql_pure tabOk rfl rfl ?_; refine q_nil ?_; (iterate 2 refine q_seq ?_); refine q_region ?_; (iterate 2 refine ql_pure tabOk rfl rfl ?_); refine q_nil ?_)
    refine q_if rfl (fun hc => ?_) (fun hc => ?_)
    · skip
      (refine q_region ?_; refine ql_pure tabOk rfl rfl ?_; refine q_nil ?_; refine q_seq ?_; refine q_region ?_; (iterate 2 refine ql_pure tabOk rfl rfl ?_))
      (refine ql_index tabOk rfl rfl rfl rfl rfl (by omega) (by omega) ?_; refine ql_load1 tabOk rfl rfl rfl (fun w hs => RdI.at (RdE.keep r2 hs.chg0) k y2) ?_)
      (refine ql_pure tabOk rfl rfl ?_; refine q_nil ?_; (iterate 2 refine q_seq ?_); refine q_region ?_; (iterate 2 refine ql_pure tabOk rfl rfl ?_); refine ql_ar tabOk rfl rfl rfl rfl (by omega) (by omega) ?_; refine ql_pure tabOk rfl rfl ?_; refine ql_loadB tabOk rfl rfl rfl (by repeat first | exact .head _ | refine .tail _ ?_) (by rfl) ?_; refine ql_pure tabOk rfl rfl ?_; refine q_nil ?_)
      refine q_if rfl (fun hc => ?_) (fun hc => ?_)
      · skip
        (refine q_region ?_; refine ql_pure tabOk rfl rfl ?_; refine ql_loadB tabOk rfl rfl rfl (by repeat first | exact .head _ | refine .tail _ ?_) (by rfl) ?_; refine ql_pure tabOk rfl rfl ?_; refine ql_ar tabOk rfl rfl rfl rfl (by omega) (by omega) ?_; refine ql_pure tabOk rfl rfl ?_; refine q_nil ?_; refine q_seq ?_; refine q_region ?_; (iterate 2 refine ql_pure tabOk rfl rfl ?_); refine ql_ar tabOk rfl rfl rfl rfl (by omega) (by omega) ?_; (iterate 2 refine ql_pure tabOk rfl rfl ?_))
        (refine ql_index tabOk rfl rfl rfl rfl rfl (by omega) (by omega) ?_; refine ql_load1 tabOk rfl rfl rfl (fun w hs => RdI.at (RdE.keep r1 hs.chg0) k y1) ?_)
        (refine ql_ar tabOk rfl rfl rfl rfl (by omega) (by omega) ?_; refine ql_pure tabOk rfl rfl ?_; refine q_nil ?_; (iterate 2 refine q_seq ?_); refine q_region ?_; (iterate 2 refine ql_pure tabOk rfl rfl ?_); refine q_nil ?_)
        refine q_if rfl (fun hc => ?_) (fun hc => ?_)
        · obtain ⟨p1, p2, p3⟩ := hstop (by omega)
          (refine q_seq ?_; refine q_region ?_; (iterate 6 refine ql_pure tabOk rfl rfl ?_); refine q_nil ?_; refine q_ret ?_)
          refine q_fin tabOk rfl (by repeat (first | exact RVs.nil | apply RVs.tmp rfl | apply RVs.cellA rfl rfl (by repeat first | exact .head _ | refine .tail _ ?_) (by rfl) | apply RVs.cell1 rfl rfl (by repeat first | exact .head _ | refine .tail _ ?_))) fun w hs => ?_
          exact ⟨(v, u), by rw [p1]; rfl, by rw [p2, p3, hL1, hL2]; exact hs.sp (by repeat (first | exact Sp.nil | exact Sp.refl _ | refine Sp.cons (by repeat constructor) ?_))⟩
        · obtain ⟨p1, p2, p3, p4⟩ := hgo (by omega)
          (refine q_skip ?_; refine q_region ?_; (iterate 2 refine ql_pure tabOk rfl rfl ?_))
          refine ql_mkS 3 [.int .i64 (0 + (x.store - 0) - t.need[k])] rfl (by kernel_rfl) rfl (fun c0 => ?_)
          refine ql_append (q := 1) slI rfl rfl rfl (fun v' => by repeat constructor) (fun w' hs => ⟨_, _, Blk.rd (hs.blk (b := c0) (by repeat first | exact .head _ | refine .tail _ ?_)) rfl 1⟩) (by simp [oneV]) (by omega) (by omega) (fun u0 => ?_)
          ((iterate 2 refine ql_pure tabOk rfl rfl ?_))
          refine ql_mkS 3 [.int .i64 ((x.store - 0))] rfl (by kernel_rfl) rfl (fun c1 => ?_)
          refine ql_append (q := 1) slI rfl rfl rfl (fun v' => by repeat constructor) (fun w' hs => ⟨_, _, Blk.rd (hs.blk (b := c1) (by repeat first | exact .head _ | refine .tail _ ?_)) rfl 1⟩) (by simp [oneV]) (by omega) (by omega) (fun u1 => ?_)
          ((iterate 2 refine ql_pure tabOk rfl rfl ?_); refine q_nil ?_; refine q_blk ?_; refine q_region ?_; refine ql_pure tabOk rfl rfl ?_; refine ql_ar tabOk rfl rfl rfl rfl (by omega) (by omega) ?_; refine ql_pure tabOk rfl rfl ?_; refine q_nil ?_)
          refine hK (k + 1, u0, u1) _ _ ⟨by dsimp only; omega, p1⟩ (by dsimp only; omega) ⟨rfl, rfl, rfl, rfl, rfl, rfl, lookI rfl (by rw [p2]; omega), rfl, trivial⟩ (by dsimp only; rw [p3, p4, show min (max 0 (s - t.loss[k]) + t.make[k]) x.store - t.need[k] = 0 + (x.store - 0) - t.need[k] by omega, show min t.make[k] (x.store - max 0 (s - t.loss[k])) = (x.store - 0) by omega]; repeat (first | exact Sp.nil | exact Sp.refl _ | refine Sp.cons (by repeat constructor) ?_))
      · skip
        (refine q_skip ?_; refine q_seq ?_; refine q_region ?_; (iterate 2 refine ql_pure tabOk rfl rfl ?_); refine ql_ar tabOk rfl rfl rfl rfl (by omega) (by omega) ?_; (iterate 2 refine ql_pure tabOk rfl rfl ?_))
        (refine ql_index tabOk rfl rfl rfl rfl rfl (by omega) (by omega) ?_; refine ql_load1 tabOk rfl rfl rfl (fun w hs => RdI.at (RdE.keep r1 hs.chg0) k y1) ?_)
        (refine ql_ar tabOk rfl rfl rfl rfl (by omega) (by omega) ?_; refine ql_pure tabOk rfl rfl ?_; refine q_nil ?_; (iterate 2 refine q_seq ?_); refine q_region ?_; (iterate 2 refine ql_pure tabOk rfl rfl ?_); refine q_nil ?_)
        refine q_if rfl (fun hc => ?_) (fun hc => ?_)
        · obtain ⟨p1, p2, p3⟩ := hstop (by omega)
          (refine q_seq ?_; refine q_region ?_; (iterate 6 refine ql_pure tabOk rfl rfl ?_); refine q_nil ?_; refine q_ret ?_)
          refine q_fin tabOk rfl (by repeat (first | exact RVs.nil | apply RVs.tmp rfl | apply RVs.cellA rfl rfl (by repeat first | exact .head _ | refine .tail _ ?_) (by rfl) | apply RVs.cell1 rfl rfl (by repeat first | exact .head _ | refine .tail _ ?_))) fun w hs => ?_
          exact ⟨(v, u), by rw [p1]; rfl, by rw [p2, p3, hL1, hL2]; exact hs.sp (by repeat (first | exact Sp.nil | exact Sp.refl _ | refine Sp.cons (by repeat constructor) ?_))⟩
        · obtain ⟨p1, p2, p3, p4⟩ := hgo (by omega)
          (refine q_skip ?_; refine q_region ?_; (iterate 2 refine ql_pure tabOk rfl rfl ?_))
          refine ql_mkS 3 [.int .i64 (0 + t.make[k] - t.need[k])] rfl (by kernel_rfl) rfl (fun c0 => ?_)
          refine ql_append (q := 1) slI rfl rfl rfl (fun v' => by repeat constructor) (fun w' hs => ⟨_, _, Blk.rd (hs.blk (b := c0) (by repeat first | exact .head _ | refine .tail _ ?_)) rfl 1⟩) (by simp [oneV]) (by omega) (by omega) (fun u0 => ?_)
          ((iterate 2 refine ql_pure tabOk rfl rfl ?_))
          refine ql_mkS 3 [.int .i64 (t.make[k])] rfl (by kernel_rfl) rfl (fun c1 => ?_)
          refine ql_append (q := 1) slI rfl rfl rfl (fun v' => by repeat constructor) (fun w' hs => ⟨_, _, Blk.rd (hs.blk (b := c1) (by repeat first | exact .head _ | refine .tail _ ?_)) rfl 1⟩) (by simp [oneV]) (by omega) (by omega) (fun u1 => ?_)
          ((iterate 2 refine ql_pure tabOk rfl rfl ?_); refine q_nil ?_; refine q_blk ?_; refine q_region ?_; refine ql_pure tabOk rfl rfl ?_; refine ql_ar tabOk rfl rfl rfl rfl (by omega) (by omega) ?_; refine ql_pure tabOk rfl rfl ?_; refine q_nil ?_)
          refine hK (k + 1, u0, u1) _ _ ⟨by dsimp only; omega, p1⟩ (by dsimp only; omega) ⟨rfl, rfl, rfl, rfl, rfl, rfl, lookI rfl (by rw [p2]; omega), rfl, trivial⟩ (by dsimp only; rw [p3, p4, show min (max 0 (s - t.loss[k]) + t.make[k]) x.store - t.need[k] = 0 + t.make[k] - t.need[k] by omega, show min t.make[k] (x.store - max 0 (s - t.loss[k])) = t.make[k] by omega]; repeat (first | exact Sp.nil | exact Sp.refl _ | refine Sp.cons (by repeat constructor) ?_))
    · skip
      (refine q_skip ?_; refine q_seq ?_; refine q_region ?_; (iterate 2 refine ql_pure tabOk rfl rfl ?_))
      (refine ql_index tabOk rfl rfl rfl rfl rfl (by omega) (by omega) ?_; refine ql_load1 tabOk rfl rfl rfl (fun w hs => RdI.at (RdE.keep r2 hs.chg0) k y2) ?_)
      (refine ql_pure tabOk rfl rfl ?_; refine q_nil ?_; (iterate 2 refine q_seq ?_); refine q_region ?_; (iterate 2 refine ql_pure tabOk rfl rfl ?_); refine ql_ar tabOk rfl rfl rfl rfl (by omega) (by omega) ?_; refine ql_pure tabOk rfl rfl ?_; refine ql_loadB tabOk rfl rfl rfl (by repeat first | exact .head _ | refine .tail _ ?_) (by rfl) ?_; refine ql_pure tabOk rfl rfl ?_; refine q_nil ?_)
      refine q_if rfl (fun hc => ?_) (fun hc => ?_)
      · skip
        (refine q_region ?_; refine ql_pure tabOk rfl rfl ?_; refine ql_loadB tabOk rfl rfl rfl (by repeat first | exact .head _ | refine .tail _ ?_) (by rfl) ?_; refine ql_pure tabOk rfl rfl ?_; refine ql_ar tabOk rfl rfl rfl rfl (by omega) (by omega) ?_; refine ql_pure tabOk rfl rfl ?_; refine q_nil ?_; refine q_seq ?_; refine q_region ?_; (iterate 2 refine ql_pure tabOk rfl rfl ?_); refine ql_ar tabOk rfl rfl rfl rfl (by omega) (by omega) ?_; (iterate 2 refine ql_pure tabOk rfl rfl ?_))
        (refine ql_index tabOk rfl rfl rfl rfl rfl (by omega) (by omega) ?_; refine ql_load1 tabOk rfl rfl rfl (fun w hs => RdI.at (RdE.keep r1 hs.chg0) k y1) ?_)
        (refine ql_ar tabOk rfl rfl rfl rfl (by omega) (by omega) ?_; refine ql_pure tabOk rfl rfl ?_; refine q_nil ?_; (iterate 2 refine q_seq ?_); refine q_region ?_; (iterate 2 refine ql_pure tabOk rfl rfl ?_); refine q_nil ?_)
        refine q_if rfl (fun hc => ?_) (fun hc => ?_)
        · obtain ⟨p1, p2, p3⟩ := hstop (by omega)
          (refine q_seq ?_; refine q_region ?_; (iterate 6 refine ql_pure tabOk rfl rfl ?_); refine q_nil ?_; refine q_ret ?_)
          refine q_fin tabOk rfl (by repeat (first | exact RVs.nil | apply RVs.tmp rfl | apply RVs.cellA rfl rfl (by repeat first | exact .head _ | refine .tail _ ?_) (by rfl) | apply RVs.cell1 rfl rfl (by repeat first | exact .head _ | refine .tail _ ?_))) fun w hs => ?_
          exact ⟨(v, u), by rw [p1]; rfl, by rw [p2, p3, hL1, hL2]; exact hs.sp (by repeat (first | exact Sp.nil | exact Sp.refl _ | refine Sp.cons (by repeat constructor) ?_))⟩
        · obtain ⟨p1, p2, p3, p4⟩ := hgo (by omega)
          (refine q_skip ?_; refine q_region ?_; (iterate 2 refine ql_pure tabOk rfl rfl ?_))
          refine ql_mkS 3 [.int .i64 ((s - t.loss[k]) + (x.store - (s - t.loss[k])) - t.need[k])] rfl (by kernel_rfl) rfl (fun c0 => ?_)
          refine ql_append (q := 1) slI rfl rfl rfl (fun v' => by repeat constructor) (fun w' hs => ⟨_, _, Blk.rd (hs.blk (b := c0) (by repeat first | exact .head _ | refine .tail _ ?_)) rfl 1⟩) (by simp [oneV]) (by omega) (by omega) (fun u0 => ?_)
          ((iterate 2 refine ql_pure tabOk rfl rfl ?_))
          refine ql_mkS 3 [.int .i64 ((x.store - (s - t.loss[k])))] rfl (by kernel_rfl) rfl (fun c1 => ?_)
          refine ql_append (q := 1) slI rfl rfl rfl (fun v' => by repeat constructor) (fun w' hs => ⟨_, _, Blk.rd (hs.blk (b := c1) (by repeat first | exact .head _ | refine .tail _ ?_)) rfl 1⟩) (by simp [oneV]) (by omega) (by omega) (fun u1 => ?_)
          ((iterate 2 refine ql_pure tabOk rfl rfl ?_); refine q_nil ?_; refine q_blk ?_; refine q_region ?_; refine ql_pure tabOk rfl rfl ?_; refine ql_ar tabOk rfl rfl rfl rfl (by omega) (by omega) ?_; refine ql_pure tabOk rfl rfl ?_; refine q_nil ?_)
          refine hK (k + 1, u0, u1) _ _ ⟨by dsimp only; omega, p1⟩ (by dsimp only; omega) ⟨rfl, rfl, rfl, rfl, rfl, rfl, lookI rfl (by rw [p2]; omega), rfl, trivial⟩ (by dsimp only; rw [p3, p4, show min (max 0 (s - t.loss[k]) + t.make[k]) x.store - t.need[k] = (s - t.loss[k]) + (x.store - (s - t.loss[k])) - t.need[k] by omega, show min t.make[k] (x.store - max 0 (s - t.loss[k])) = (x.store - (s - t.loss[k])) by omega]; repeat (first | exact Sp.nil | exact Sp.refl _ | refine Sp.cons (by repeat constructor) ?_))
      · skip
        (refine q_skip ?_; refine q_seq ?_; refine q_region ?_; (iterate 2 refine ql_pure tabOk rfl rfl ?_); refine ql_ar tabOk rfl rfl rfl rfl (by omega) (by omega) ?_; (iterate 2 refine ql_pure tabOk rfl rfl ?_))
        (refine ql_index tabOk rfl rfl rfl rfl rfl (by omega) (by omega) ?_; refine ql_load1 tabOk rfl rfl rfl (fun w hs => RdI.at (RdE.keep r1 hs.chg0) k y1) ?_)
        (refine ql_ar tabOk rfl rfl rfl rfl (by omega) (by omega) ?_; refine ql_pure tabOk rfl rfl ?_; refine q_nil ?_; (iterate 2 refine q_seq ?_); refine q_region ?_; (iterate 2 refine ql_pure tabOk rfl rfl ?_); refine q_nil ?_)
        refine q_if rfl (fun hc => ?_) (fun hc => ?_)
        · obtain ⟨p1, p2, p3⟩ := hstop (by omega)
          (refine q_seq ?_; refine q_region ?_; (iterate 6 refine ql_pure tabOk rfl rfl ?_); refine q_nil ?_; refine q_ret ?_)
          refine q_fin tabOk rfl (by repeat (first | exact RVs.nil | apply RVs.tmp rfl | apply RVs.cellA rfl rfl (by repeat first | exact .head _ | refine .tail _ ?_) (by rfl) | apply RVs.cell1 rfl rfl (by repeat first | exact .head _ | refine .tail _ ?_))) fun w hs => ?_
          exact ⟨(v, u), by rw [p1]; rfl, by rw [p2, p3, hL1, hL2]; exact hs.sp (by repeat (first | exact Sp.nil | exact Sp.refl _ | refine Sp.cons (by repeat constructor) ?_))⟩
        · obtain ⟨p1, p2, p3, p4⟩ := hgo (by omega)
          (refine q_skip ?_; refine q_region ?_; (iterate 2 refine ql_pure tabOk rfl rfl ?_))
          refine ql_mkS 3 [.int .i64 ((s - t.loss[k]) + t.make[k] - t.need[k])] rfl (by kernel_rfl) rfl (fun c0 => ?_)
          refine ql_append (q := 1) slI rfl rfl rfl (fun v' => by repeat constructor) (fun w' hs => ⟨_, _, Blk.rd (hs.blk (b := c0) (by repeat first | exact .head _ | refine .tail _ ?_)) rfl 1⟩) (by simp [oneV]) (by omega) (by omega) (fun u0 => ?_)
          ((iterate 2 refine ql_pure tabOk rfl rfl ?_))
          refine ql_mkS 3 [.int .i64 (t.make[k])] rfl (by kernel_rfl) rfl (fun c1 => ?_)
          refine ql_append (q := 1) slI rfl rfl rfl (fun v' => by repeat constructor) (fun w' hs => ⟨_, _, Blk.rd (hs.blk (b := c1) (by repeat first | exact .head _ | refine .tail _ ?_)) rfl 1⟩) (by simp [oneV]) (by omega) (by omega) (fun u1 => ?_)
          ((iterate 2 refine ql_pure tabOk rfl rfl ?_); refine q_nil ?_; refine q_blk ?_; refine q_region ?_; refine ql_pure tabOk rfl rfl ?_; refine ql_ar tabOk rfl rfl rfl rfl (by omega) (by omega) ?_; refine ql_pure tabOk rfl rfl ?_; refine q_nil ?_)
          refine hK (k + 1, u0, u1) _ _ ⟨by dsimp only; omega, p1⟩ (by dsimp only; omega) ⟨rfl, rfl, rfl, rfl, rfl, rfl, lookI rfl (by rw [p2]; omega), rfl, trivial⟩ (by dsimp only; rw [p3, p4, show min (max 0 (s - t.loss[k]) + t.make[k]) x.store - t.need[k] = (s - t.loss[k]) + t.make[k] - t.need[k] by omega, show min t.make[k] (x.store - max 0 (s - t.loss[k])) = t.make[k] by omega]; repeat (first | exact Sp.nil | exact Sp.refl _ | refine Sp.cons (by repeat constructor) ?_))
  · obtain rfl : k = x.days.length := by omega
    (refine q_exit _ rfl ?_; refine q_seq ?_; refine q_region ?_; (iterate 5 refine ql_pure tabOk rfl rfl ?_); refine q_nil ?_; refine q_ret ?_)
    refine q_fin tabOk rfl (by repeat (first | exact RVs.nil | apply RVs.tmp rfl | apply RVs.cellA rfl rfl (by repeat first | exact .head _ | refine .tail _ ?_) (by rfl) | apply RVs.cell1 rfl rfl (by repeat first | exact .head _ | refine .tail _ ?_))) fun w hs => ?_
    exact ⟨(v, u), by rw [hapV, hf]; rfl, by rw [hapV, hL1, hL2]; exact hs.sp (by repeat (first | exact Sp.nil | exact Sp.refl _ | refine Sp.cons (by repeat constructor) ?_))⟩
end Go.Proofs.Ytgeajgmefokifaa

/- Walk of the reference: the ends of a winter's spans. -/
namespace Go.Proofs.Ytgeajgmefokifaa
open Go Go.Eng

theorem map_snocI (l : List Dy) (f : Dy → Int) {k : Nat} (h : k < l.length) : ints ((l.take (k + 1)).map f) = ints ((l.take k).map f) ++ [.int .i64 (f l[k])] := by
  rw [List.take_succ_eq_append_getElem h]
  simp only [ints, List.map_append, List.map_cons, List.map_nil]
set_option maxRecDepth 20000 in
set_option maxHeartbeats 8000000 in
theorem rworst_ca (w : World) (lo hi : Nat) (x : Wn) (a : Option Addr) (c : Nat) (h : RdD w lo hi (.slice a x.days.length c) x.days) (hlen : x.days.length ≤ 1000000) :
    Ca Try.prog 78 [.agg (wnC x a c).toArray, .bool true] w fun r w' => ∃ y : Value × Value × Value, r = .tuple #[y.1, y.2.1, y.2.2] ∧ Sat w M0 [.ow y.1 3 1 x.days.length (ints (worstW x).need), .ow y.2.1 3 1 x.days.length (ints (worstW x).make), .ow y.2.2 3 1 x.days.length (ints (worstW x).loss)] w' := by
  obtain ⟨a', c', he, hsa⟩ := RdD.outI h
  cases he
  refine q_of (Sat.nil w M0) Try.func78 rfl (by simp [Try.ntmps78]) ?_
  (refine q_seq ?_; refine q_region ?_)
  refine ql_box rfl rfl (fun b2 => ?_)
  ((iterate 3 refine ql_pure tabOk rfl rfl ?_); refine q_nil ?_; refine q_seq ?_; refine q_region ?_; (iterate 3 refine ql_pure tabOk rfl rfl ?_); refine q_nil ?_; (iterate 2 refine q_seq ?_); refine q_region ?_; refine ql_pure tabOk rfl rfl ?_; refine q_nil ?_; refine q_block ?_)
  refine q_conv (H' := [.ow (.slice none 0 0) 3 1 0 (ints []), .ow (.slice none 0 0) 3 1 0 (ints []), .ow (.slice none 0 0) 3 1 0 (ints []), .pt b2 (wnC x a c) 93]) (fun w' hs => (Sat.ownil (Sat.ownil (Sat.ownil hs 3 1) 3 1) 3 1).sp (by repeat (first | exact Sp.nil | exact Sp.refl _ | refine Sp.cons (by repeat constructor) ?_))) ?_
  refine q_loop (σ := Nat × Value × Value × Value) (fun s => s.1 ≤ x.days.length) (fun s => x.days.length - s.1) (fun s => [(1, .bool true), (2, .pointer (some ⟨b2, 0, none⟩)), (7, s.2.1), (8, s.2.2.1), (9, s.2.2.2), (10, .int .i64 s.1)])
    (fun s => [.ow s.2.1 3 1 s.1 (ints ((x.days.take s.1).map (·.n1))), .ow s.2.2.1 3 1 s.1 (ints ((x.days.take s.1).map (·.m0))), .ow s.2.2.2 3 1 s.1 (ints ((x.days.take s.1).map (·.l1))), .pt b2 (wnC x a c) 93]) (0, .slice none 0 0, .slice none 0 0, .slice none 0 0) (by simp) ⟨rfl, rfl, rfl, rfl, rfl, rfl, trivial⟩ (by repeat (first | exact Sp.nil | exact Sp.refl _ | refine Sp.cons (by repeat constructor) ?_)) ?_
  rintro ⟨k, v1, v2, v3⟩ hk K hK
  simp only at hk
  dsimp only
  ((iterate 2 refine q_seq ?_); refine q_region ?_; (iterate 2 refine ql_pure tabOk rfl rfl ?_); refine ql_loadB tabOk rfl rfl rfl (by repeat first | exact .head _ | refine .tail _ ?_) (by rfl) ?_; (iterate 2 refine ql_pure tabOk rfl rfl ?_); refine q_nil ?_)
  refine q_if rfl (fun hc => ?_) (fun hc => ?_)
  · have hk2 : k < x.days.length := by first | omega | (simp at hc; omega)
    clear hc
    obtain ⟨b, off, rfl⟩ := hsa (by omega)
    have e1 := map_snocI x.days (·.n1) hk2
    have e2 := map_snocI x.days (·.m0) hk2
    have e3 := map_snocI x.days (·.l1) hk2
    (refine q_skip ?_; refine q_seq ?_; refine q_block ?_; refine q_seq ?_; refine q_region ?_; refine ql_pure tabOk rfl rfl ?_; refine ql_loadB tabOk rfl rfl rfl (by repeat first | exact .head _ | refine .tail _ ?_) (by rfl) ?_; refine ql_pure tabOk rfl rfl ?_)
    refine ql_index tabOk rfl rfl rfl rfl rfl (by omega) (by omega) ?_
    skip
    refine ql_loadA tabOk rfl rfl rfl rfl (fun w hs => RdD.at (RdE.keep h hs.chg0) k hk2) ?_
    skip
    refine ql_alloc zero176 rfl (fun b11 => ?_)
    (refine ql_setA tabOk rfl rfl rfl rfl rfl (by repeat constructor) rfl ?_; refine q_nil ?_; refine q_seq ?_; refine q_region ?_; refine ql_pure tabOk rfl rfl ?_; refine q_nil ?_; refine q_cond_true rfl ?_)
    generalize x.days[k] = d at *
    obtain ⟨n0, n1, m0, m1, l0, l1⟩ := d
    dsimp only at e1 e2 e3 ⊢
    refine q_drawT (.alt (chainT [1, 2, 3, 4] (.alt (chainT [0, 5] (.alt (chainT [7, 8, 9, 10] (.alt (chainT [6, 11] (chainT [13, 14, 15, 16] (chainT [12, 17, 18, 19, 20] (.nil)))) (chainT [13, 14, 15, 16] (chainT [6, 11] (chainT [12, 17, 18, 19, 20] (.nil)))))) (chainT [13, 14, 15, 16] (chainT [7, 8, 9, 10] (chainT [6, 11] (chainT [12, 17, 18, 19, 20] (.nil))))))) (.alt (chainT [7, 8, 9, 10] (.alt (chainT [0, 5] (.alt (chainT [6, 11] (chainT [13, 14, 15, 16] (chainT [12, 17, 18, 19, 20] (.nil)))) (chainT [13, 14, 15, 16] (chainT [6, 11] (chainT [12, 17, 18, 19, 20] (.nil)))))) (chainT [13, 14, 15, 16] (chainT [0, 5] (chainT [6, 11] (chainT [12, 17, 18, 19, 20] (.nil))))))) (chainT [13, 14, 15, 16] (.alt (chainT [0, 5] (chainT [7, 8, 9, 10] (chainT [6, 11] (chainT [12, 17, 18, 19, 20] (.nil))))) (chainT [7, 8, 9, 10] (chainT [0, 5] (chainT [6, 11] (chainT [12, 17, 18, 19, 20] (.nil)))))))))) (.alt (chainT [7, 8, 9, 10] (.alt (chainT [1, 2, 3, 4] (.alt (chainT [0, 5] (.alt (chainT [6, 11] (chainT [13, 14, 15, 16] (chainT [12, 17, 18, 19, 20] (.nil)))) (chainT [13, 14, 15, 16] (chainT [6, 11] (chainT [12, 17, 18, 19, 20] (.nil)))))) (chainT [13, 14, 15, 16] (chainT [0, 5] (chainT [6, 11] (chainT [12, 17, 18, 19, 20] (.nil))))))) (chainT [13, 14, 15, 16] (chainT [1, 2, 3, 4] (chainT [0, 5] (chainT [6, 11] (chainT [12, 17, 18, 19, 20] (.nil)))))))) (chainT [13, 14, 15, 16] (.alt (chainT [1, 2, 3, 4] (.alt (chainT [0, 5] (chainT [7, 8, 9, 10] (chainT [6, 11] (chainT [12, 17, 18, 19, 20] (.nil))))) (chainT [7, 8, 9, 10] (chainT [0, 5] (chainT [6, 11] (chainT [12, 17, 18, 19, 20] (.nil))))))) (chainT [7, 8, 9, 10] (chainT [1, 2, 3, 4] (chainT [0, 5] (chainT [6, 11] (chainT [12, 17, 18, 19, 20] (.nil)))))))))) _ [.ow v1 3 1 k (ints ((x.days.take k).map (·.n1))), .ow v2 3 1 k (ints ((x.days.take k).map (·.m0))), .ow v3 3 1 k (ints ((x.days.take k).map (·.l1)))] (Sp.cons (by repeat constructor) (Sp.cons (by repeat constructor) (Sp.cons (by repeat constructor) (Sp.refl _)))) (by kernel_rfl) (by kernel_rfl) ?_
    refine qt_let (σ := Nat × Value × Nat × Value × Nat × Value × Unit) (.nil) (fun ⟨lt0, ap0, lt1, ap1, lt2, ap2, ()⟩ => [(1, .bool true), (2, .pointer (some ⟨b2, 0, none⟩)), (10, .int .i64 k), (7, ap0), (8, ap1), (9, ap2)]) (fun ⟨lt0, ap0, lt1, ap1, lt2, ap2, ()⟩ => [.ow ap0 3 1 (k + 1) (ints ((x.days.take k).map (·.n1)) ++ [.int .i64 n1]), .ow ap1 3 1 (k + 1) (ints ((x.days.take k).map (·.m0)) ++ [.int .i64 m0]), .ow ap2 3 1 (k + 1) (ints ((x.days.take k).map (·.l1)) ++ [.int .i64 l1])]) ?_ (fun hS4_5_10_11_16_17 => ?_)
    · rintro ⟨lt0, ap0, lt1, ap1, lt2, ap2, _⟩
      refine qt_nil ?_
      (refine q_blk ?_; refine q_region ?_; refine ql_pure tabOk rfl rfl ?_; refine ql_ar tabOk rfl rfl rfl rfl (by omega) (by omega) ?_; refine ql_pure tabOk rfl rfl ?_; refine q_nil ?_)
      exact (hK (k + 1, ap0, ap1, ap2) _ _ (by simp only; omega) (by simp only; omega) ⟨rfl, rfl, rfl, rfl, rfl, rfl, trivial⟩ (by dsimp only; rw [e1, e2, e3]; repeat (first | exact Sp.nil | exact Sp.refl _ | refine Sp.cons (by repeat constructor) ?_)))
    refine qt_let (σ := Nat × Value × Nat × Value × Nat × Unit) (chainT [12, 17, 18, 19, 20] (.nil)) (fun ⟨lt0, ap0, lt1, ap1, lt2, ()⟩ => [(1, .bool true), (2, .pointer (some ⟨b2, 0, none⟩)), (10, .int .i64 k), (11, .pointer (some ⟨b11, 0, none⟩)), (7, v1), (8, v2), (9, v3), (30, ap0), (36, ap1), (41, .slice (some ⟨lt2, 0, none⟩) 1 1)]) (fun ⟨lt0, ap0, lt1, ap1, lt2, ()⟩ => [.ow ap0 3 1 (k + 1) (ints ((x.days.take k).map (·.n1)) ++ [.int .i64 n1]), .ow ap1 3 1 (k + 1) (ints ((x.days.take k).map (·.m0)) ++ [.int .i64 m0]), .ow v3 3 1 k (ints ((x.days.take k).map (·.l1))), .pt lt2 [.int .i64 l1] 3]) ?_ (fun hS4_5_10_11_16 => ?_)
    · rintro ⟨lt0, ap0, lt1, ap1, lt2, _⟩
      refine qt_seg (by repeat (first | exact PickL.nil | (apply PickL.cons; rfl))) fun K1 hK1 => ?_
      (refine qf_pure tabOk rfl rfl rfl ?_)
      refine qf_append (q := 1) slI rfl rfl rfl (fun v' => by repeat constructor) (fun w' hs => ⟨_, _, Blk.rd (hs.blk (b := lt2) (by repeat first | exact .head _ | refine .tail _ ?_)) rfl 1⟩) (by simp [oneV]) (by omega) (by omega) (fun ap2 => ?_)
      ((iterate 3 refine qf_pure tabOk rfl rfl rfl ?_); refine qf_nil ?_)
      exact hK1 _ _ (hS4_5_10_11_16_17 ⟨lt0, ap0, lt1, ap1, lt2, ap2, ()⟩ _ _ ⟨rfl, rfl, rfl, rfl, rfl, rfl, trivial⟩ (by repeat (first | exact Sp.nil | exact Sp.refl _ | refine Sp.cons (by repeat constructor) ?_)))
    refine qt_let (σ := Nat × Value × Nat × Value × Unit) (chainT [13, 14, 15, 16] (chainT [12, 17, 18, 19, 20] (.nil))) (fun ⟨lt0, ap0, lt1, ap1, ()⟩ => [(1, .bool true), (2, .pointer (some ⟨b2, 0, none⟩)), (10, .int .i64 k), (11, .pointer (some ⟨b11, 0, none⟩)), (7, v1), (8, v2), (9, v3), (30, ap0), (36, ap1)]) (fun ⟨lt0, ap0, lt1, ap1, ()⟩ => [.ow ap0 3 1 (k + 1) (ints ((x.days.take k).map (·.n1)) ++ [.int .i64 n1]), .ow ap1 3 1 (k + 1) (ints ((x.days.take k).map (·.m0)) ++ [.int .i64 m0]), .ow v3 3 1 k (ints ((x.days.take k).map (·.l1)))]) ?_ (fun hS4_5_10_11 => ?_)
    · rintro ⟨lt0, ap0, lt1, ap1, _⟩
      refine qt_seg (by repeat (first | exact PickL.nil | (apply PickL.cons; rfl))) fun K1 hK1 => ?_
      ((iterate 2 refine qf_pure tabOk rfl rfl rfl ?_); refine qf_loadB tabOk rfl rfl rfl (by repeat first | exact .head _ | refine .tail _ ?_) (by rfl) ?_)
      refine qf_mkS 3 [.int .i64 l1] rfl (by kernel_rfl) rfl (fun lt2 => ?_)
      (refine qf_nil ?_)
      exact hK1 _ _ (hS4_5_10_11_16 ⟨lt0, ap0, lt1, ap1, lt2, ()⟩ _ _ ⟨rfl, rfl, rfl, rfl, rfl, rfl, rfl, rfl, rfl, rfl, trivial⟩ (by repeat (first | exact Sp.nil | exact Sp.refl _ | refine Sp.cons (by repeat constructor) ?_)))
    refine qt_let (σ := Nat × Value × Nat × Nat × Unit) (chainT [6, 11] (chainT [12, 17, 18, 19, 20] (.nil))) (fun ⟨lt0, ap0, lt1, lt2, ()⟩ => [(1, .bool true), (2, .pointer (some ⟨b2, 0, none⟩)), (10, .int .i64 k), (11, .pointer (some ⟨b11, 0, none⟩)), (7, v1), (8, v2), (9, v3), (30, ap0), (35, .slice (some ⟨lt1, 0, none⟩) 1 1), (41, .slice (some ⟨lt2, 0, none⟩) 1 1)]) (fun ⟨lt0, ap0, lt1, lt2, ()⟩ => [.ow ap0 3 1 (k + 1) (ints ((x.days.take k).map (·.n1)) ++ [.int .i64 n1]), .ow v2 3 1 k (ints ((x.days.take k).map (·.m0))), .pt lt1 [.int .i64 m0] 3, .ow v3 3 1 k (ints ((x.days.take k).map (·.l1))), .pt lt2 [.int .i64 l1] 3]) ?_ (fun hS4_5_10_16 => ?_)
    · rintro ⟨lt0, ap0, lt1, lt2, _⟩
      refine qt_seg (by repeat (first | exact PickL.nil | (apply PickL.cons; rfl))) fun K1 hK1 => ?_
      (refine qf_pure tabOk rfl rfl rfl ?_)
      refine qf_append (q := 1) slI rfl rfl rfl (fun v' => by repeat constructor) (fun w' hs => ⟨_, _, Blk.rd (hs.blk (b := lt1) (by repeat first | exact .head _ | refine .tail _ ?_)) rfl 1⟩) (by simp [oneV]) (by omega) (by omega) (fun ap1 => ?_)
      (refine qf_nil ?_)
      exact hK1 _ _ (hS4_5_10_11_16 ⟨lt0, ap0, lt1, ap1, lt2, ()⟩ _ _ ⟨rfl, rfl, rfl, rfl, rfl, rfl, rfl, rfl, rfl, rfl, trivial⟩ (by repeat (first | exact Sp.nil | exact Sp.refl _ | refine Sp.cons (by repeat constructor) ?_)))
    refine qt_let (σ := Nat × Value × Nat × Unit) (.alt (chainT [6, 11] (chainT [13, 14, 15, 16] (chainT [12, 17, 18, 19, 20] (.nil)))) (chainT [13, 14, 15, 16] (chainT [6, 11] (chainT [12, 17, 18, 19, 20] (.nil))))) (fun ⟨lt0, ap0, lt1, ()⟩ => [(1, .bool true), (2, .pointer (some ⟨b2, 0, none⟩)), (10, .int .i64 k), (11, .pointer (some ⟨b11, 0, none⟩)), (7, v1), (8, v2), (9, v3), (30, ap0), (35, .slice (some ⟨lt1, 0, none⟩) 1 1)]) (fun ⟨lt0, ap0, lt1, ()⟩ => [.ow ap0 3 1 (k + 1) (ints ((x.days.take k).map (·.n1)) ++ [.int .i64 n1]), .ow v2 3 1 k (ints ((x.days.take k).map (·.m0))), .pt lt1 [.int .i64 m0] 3, .ow v3 3 1 k (ints ((x.days.take k).map (·.l1)))]) ?_ (fun hS4_5_10 => ?_)
    · rintro ⟨lt0, ap0, lt1, _⟩
      refine qt_alt ?_ ?_
      · skip
        refine qt_seg (by repeat (first | exact PickL.nil | (apply PickL.cons; rfl))) fun K1 hK1 => ?_
        (refine qf_pure tabOk rfl rfl rfl ?_)
        refine qf_append (q := 1) slI rfl rfl rfl (fun v' => by repeat constructor) (fun w' hs => ⟨_, _, Blk.rd (hs.blk (b := lt1) (by repeat first | exact .head _ | refine .tail _ ?_)) rfl 1⟩) (by simp [oneV]) (by omega) (by omega) (fun ap1 => ?_)
        (refine qf_nil ?_)
        exact hK1 _ _ (hS4_5_10_11 ⟨lt0, ap0, lt1, ap1, ()⟩ _ _ ⟨rfl, rfl, rfl, rfl, rfl, rfl, rfl, rfl, rfl, trivial⟩ (by repeat (first | exact Sp.nil | exact Sp.refl _ | refine Sp.cons (by repeat constructor) ?_)))
      · skip
        refine qt_seg (by repeat (first | exact PickL.nil | (apply PickL.cons; rfl))) fun K1 hK1 => ?_
        ((iterate 2 refine qf_pure tabOk rfl rfl rfl ?_); refine qf_loadB tabOk rfl rfl rfl (by repeat first | exact .head _ | refine .tail _ ?_) (by rfl) ?_)
        refine qf_mkS 3 [.int .i64 l1] rfl (by kernel_rfl) rfl (fun lt2 => ?_)
        (refine qf_nil ?_)
        exact hK1 _ _ (hS4_5_10_16 ⟨lt0, ap0, lt1, lt2, ()⟩ _ _ ⟨rfl, rfl, rfl, rfl, rfl, rfl, rfl, rfl, rfl, rfl, trivial⟩ (by repeat (first | exact Sp.nil | exact Sp.refl _ | refine Sp.cons (by repeat constructor) ?_)))
    refine qt_let (σ := Nat × Value × Nat × Unit) (chainT [7, 8, 9, 10] (chainT [6, 11] (chainT [12, 17, 18, 19, 20] (.nil)))) (fun ⟨lt0, ap0, lt2, ()⟩ => [(1, .bool true), (2, .pointer (some ⟨b2, 0, none⟩)), (10, .int .i64 k), (11, .pointer (some ⟨b11, 0, none⟩)), (7, v1), (8, v2), (9, v3), (30, ap0), (41, .slice (some ⟨lt2, 0, none⟩) 1 1)]) (fun ⟨lt0, ap0, lt2, ()⟩ => [.ow ap0 3 1 (k + 1) (ints ((x.days.take k).map (·.n1)) ++ [.int .i64 n1]), .ow v2 3 1 k (ints ((x.days.take k).map (·.m0))), .ow v3 3 1 k (ints ((x.days.take k).map (·.l1))), .pt lt2 [.int .i64 l1] 3]) ?_ (fun hS4_5_16 => ?_)
    · rintro ⟨lt0, ap0, lt2, _⟩
      refine qt_seg (by repeat (first | exact PickL.nil | (apply PickL.cons; rfl))) fun K1 hK1 => ?_
      ((iterate 2 refine qf_pure tabOk rfl rfl rfl ?_); refine qf_loadB tabOk rfl rfl rfl (by repeat first | exact .head _ | refine .tail _ ?_) (by rfl) ?_)
      refine qf_mkS 3 [.int .i64 m0] rfl (by kernel_rfl) rfl (fun lt1 => ?_)
      (refine qf_nil ?_)
      exact hK1 _ _ (hS4_5_10_16 ⟨lt0, ap0, lt1, lt2, ()⟩ _ _ ⟨rfl, rfl, rfl, rfl, rfl, rfl, rfl, rfl, rfl, rfl, trivial⟩ (by repeat (first | exact Sp.nil | exact Sp.refl _ | refine Sp.cons (by repeat constructor) ?_)))
    refine qt_let (σ := Nat × Nat × Nat × Unit) (chainT [0, 5] (chainT [6, 11] (chainT [12, 17, 18, 19, 20] (.nil)))) (fun ⟨lt0, lt1, lt2, ()⟩ => [(1, .bool true), (2, .pointer (some ⟨b2, 0, none⟩)), (10, .int .i64 k), (11, .pointer (some ⟨b11, 0, none⟩)), (7, v1), (8, v2), (9, v3), (29, .slice (some ⟨lt0, 0, none⟩) 1 1), (35, .slice (some ⟨lt1, 0, none⟩) 1 1), (41, .slice (some ⟨lt2, 0, none⟩) 1 1)]) (fun ⟨lt0, lt1, lt2, ()⟩ => [.ow v1 3 1 k (ints ((x.days.take k).map (·.n1))), .pt lt0 [.int .i64 n1] 3, .ow v2 3 1 k (ints ((x.days.take k).map (·.m0))), .pt lt1 [.int .i64 m0] 3, .ow v3 3 1 k (ints ((x.days.take k).map (·.l1))), .pt lt2 [.int .i64 l1] 3]) ?_ (fun hS4_10_16 => ?_)
    · rintro ⟨lt0, lt1, lt2, _⟩
      refine qt_seg (by repeat (first | exact PickL.nil | (apply PickL.cons; rfl))) fun K1 hK1 => ?_
      (refine qf_pure tabOk rfl rfl rfl ?_)
      refine qf_append (q := 1) slI rfl rfl rfl (fun v' => by repeat constructor) (fun w' hs => ⟨_, _, Blk.rd (hs.blk (b := lt0) (by repeat first | exact .head _ | refine .tail _ ?_)) rfl 1⟩) (by simp [oneV]) (by omega) (by omega) (fun ap0 => ?_)
      (refine qf_nil ?_)
      exact hK1 _ _ (hS4_5_10_16 ⟨lt0, ap0, lt1, lt2, ()⟩ _ _ ⟨rfl, rfl, rfl, rfl, rfl, rfl, rfl, rfl, rfl, rfl, trivial⟩ (by repeat (first | exact Sp.nil | exact Sp.refl _ | refine Sp.cons (by repeat constructor) ?_)))
    refine qt_let (σ := Nat × Value × Unit) (.alt (chainT [7, 8, 9, 10] (.alt (chainT [6, 11] (chainT [13, 14, 15, 16] (chainT [12, 17, 18, 19, 20] (.nil)))) (chainT [13, 14, 15, 16] (chainT [6, 11] (chainT [12, 17, 18, 19, 20] (.nil)))))) (chainT [13, 14, 15, 16] (chainT [7, 8, 9, 10] (chainT [6, 11] (chainT [12, 17, 18, 19, 20] (.nil)))))) (fun ⟨lt0, ap0, ()⟩ => [(1, .bool true), (2, .pointer (some ⟨b2, 0, none⟩)), (10, .int .i64 k), (11, .pointer (some ⟨b11, 0, none⟩)), (7, v1), (8, v2), (9, v3), (30, ap0)]) (fun ⟨lt0, ap0, ()⟩ => [.ow ap0 3 1 (k + 1) (ints ((x.days.take k).map (·.n1)) ++ [.int .i64 n1]), .ow v2 3 1 k (ints ((x.days.take k).map (·.m0))), .ow v3 3 1 k (ints ((x.days.take k).map (·.l1)))]) ?_ (fun hS4_5 => ?_)
    · rintro ⟨lt0, ap0, _⟩
      refine qt_alt ?_ ?_
      · skip
        refine qt_seg (by repeat (first | exact PickL.nil | (apply PickL.cons; rfl))) fun K1 hK1 => ?_
        ((iterate 2 refine qf_pure tabOk rfl rfl rfl ?_); refine qf_loadB tabOk rfl rfl rfl (by repeat first | exact .head _ | refine .tail _ ?_) (by rfl) ?_)
        refine qf_mkS 3 [.int .i64 m0] rfl (by kernel_rfl) rfl (fun lt1 => ?_)
        (refine qf_nil ?_)
        exact hK1 _ _ (hS4_5_10 ⟨lt0, ap0, lt1, ()⟩ _ _ ⟨rfl, rfl, rfl, rfl, rfl, rfl, rfl, rfl, rfl, trivial⟩ (by repeat (first | exact Sp.nil | exact Sp.refl _ | refine Sp.cons (by repeat constructor) ?_)))
      · skip
        refine qt_seg (by repeat (first | exact PickL.nil | (apply PickL.cons; rfl))) fun K1 hK1 => ?_
        ((iterate 2 refine qf_pure tabOk rfl rfl rfl ?_); refine qf_loadB tabOk rfl rfl rfl (by repeat first | exact .head _ | refine .tail _ ?_) (by rfl) ?_)
        refine qf_mkS 3 [.int .i64 l1] rfl (by kernel_rfl) rfl (fun lt2 => ?_)
        (refine qf_nil ?_)
        exact hK1 _ _ (hS4_5_16 ⟨lt0, ap0, lt2, ()⟩ _ _ ⟨rfl, rfl, rfl, rfl, rfl, rfl, rfl, rfl, rfl, trivial⟩ (by repeat (first | exact Sp.nil | exact Sp.refl _ | refine Sp.cons (by repeat constructor) ?_)))
    refine qt_let (σ := Nat × Nat × Unit) (.alt (chainT [0, 5] (.alt (chainT [6, 11] (chainT [13, 14, 15, 16] (chainT [12, 17, 18, 19, 20] (.nil)))) (chainT [13, 14, 15, 16] (chainT [6, 11] (chainT [12, 17, 18, 19, 20] (.nil)))))) (chainT [13, 14, 15, 16] (chainT [0, 5] (chainT [6, 11] (chainT [12, 17, 18, 19, 20] (.nil)))))) (fun ⟨lt0, lt1, ()⟩ => [(1, .bool true), (2, .pointer (some ⟨b2, 0, none⟩)), (10, .int .i64 k), (11, .pointer (some ⟨b11, 0, none⟩)), (7, v1), (8, v2), (9, v3), (29, .slice (some ⟨lt0, 0, none⟩) 1 1), (35, .slice (some ⟨lt1, 0, none⟩) 1 1)]) (fun ⟨lt0, lt1, ()⟩ => [.ow v1 3 1 k (ints ((x.days.take k).map (·.n1))), .pt lt0 [.int .i64 n1] 3, .ow v2 3 1 k (ints ((x.days.take k).map (·.m0))), .pt lt1 [.int .i64 m0] 3, .ow v3 3 1 k (ints ((x.days.take k).map (·.l1)))]) ?_ (fun hS4_10 => ?_)
    · rintro ⟨lt0, lt1, _⟩
      refine qt_alt ?_ ?_
      · skip
        refine qt_seg (by repeat (first | exact PickL.nil | (apply PickL.cons; rfl))) fun K1 hK1 => ?_
        (refine qf_pure tabOk rfl rfl rfl ?_)
        refine qf_append (q := 1) slI rfl rfl rfl (fun v' => by repeat constructor) (fun w' hs => ⟨_, _, Blk.rd (hs.blk (b := lt0) (by repeat first | exact .head _ | refine .tail _ ?_)) rfl 1⟩) (by simp [oneV]) (by omega) (by omega) (fun ap0 => ?_)
        (refine qf_nil ?_)
        exact hK1 _ _ (hS4_5_10 ⟨lt0, ap0, lt1, ()⟩ _ _ ⟨rfl, rfl, rfl, rfl, rfl, rfl, rfl, rfl, rfl, trivial⟩ (by repeat (first | exact Sp.nil | exact Sp.refl _ | refine Sp.cons (by repeat constructor) ?_)))
      · skip
        refine qt_seg (by repeat (first | exact PickL.nil | (apply PickL.cons; rfl))) fun K1 hK1 => ?_
        ((iterate 2 refine qf_pure tabOk rfl rfl rfl ?_); refine qf_loadB tabOk rfl rfl rfl (by repeat first | exact .head _ | refine .tail _ ?_) (by rfl) ?_)
        refine qf_mkS 3 [.int .i64 l1] rfl (by kernel_rfl) rfl (fun lt2 => ?_)
        (refine qf_nil ?_)
        exact hK1 _ _ (hS4_10_16 ⟨lt0, lt1, lt2, ()⟩ _ _ ⟨rfl, rfl, rfl, rfl, rfl, rfl, rfl, rfl, rfl, rfl, trivial⟩ (by repeat (first | exact Sp.nil | exact Sp.refl _ | refine Sp.cons (by repeat constructor) ?_)))
    refine qt_let (σ := Nat × Nat × Unit) (.alt (chainT [0, 5] (chainT [7, 8, 9, 10] (chainT [6, 11] (chainT [12, 17, 18, 19, 20] (.nil))))) (chainT [7, 8, 9, 10] (chainT [0, 5] (chainT [6, 11] (chainT [12, 17, 18, 19, 20] (.nil)))))) (fun ⟨lt0, lt2, ()⟩ => [(1, .bool true), (2, .pointer (some ⟨b2, 0, none⟩)), (10, .int .i64 k), (11, .pointer (some ⟨b11, 0, none⟩)), (7, v1), (8, v2), (9, v3), (29, .slice (some ⟨lt0, 0, none⟩) 1 1), (41, .slice (some ⟨lt2, 0, none⟩) 1 1)]) (fun ⟨lt0, lt2, ()⟩ => [.ow v1 3 1 k (ints ((x.days.take k).map (·.n1))), .pt lt0 [.int .i64 n1] 3, .ow v2 3 1 k (ints ((x.days.take k).map (·.m0))), .ow v3 3 1 k (ints ((x.days.take k).map (·.l1))), .pt lt2 [.int .i64 l1] 3]) ?_ (fun hS4_16 => ?_)
    · rintro ⟨lt0, lt2, _⟩
      refine qt_alt ?_ ?_
      · skip
        refine qt_seg (by repeat (first | exact PickL.nil | (apply PickL.cons; rfl))) fun K1 hK1 => ?_
        (refine qf_pure tabOk rfl rfl rfl ?_)
        refine qf_append (q := 1) slI rfl rfl rfl (fun v' => by repeat constructor) (fun w' hs => ⟨_, _, Blk.rd (hs.blk (b := lt0) (by repeat first | exact .head _ | refine .tail _ ?_)) rfl 1⟩) (by simp [oneV]) (by omega) (by omega) (fun ap0 => ?_)
        (refine qf_nil ?_)
        exact hK1 _ _ (hS4_5_16 ⟨lt0, ap0, lt2, ()⟩ _ _ ⟨rfl, rfl, rfl, rfl, rfl, rfl, rfl, rfl, rfl, trivial⟩ (by repeat (first | exact Sp.nil | exact Sp.refl _ | refine Sp.cons (by repeat constructor) ?_)))
      · skip
        refine qt_seg (by repeat (first | exact PickL.nil | (apply PickL.cons; rfl))) fun K1 hK1 => ?_
        ((iterate 2 refine qf_pure tabOk rfl rfl rfl ?_); refine qf_loadB tabOk rfl rfl rfl (by repeat first | exact .head _ | refine .tail _ ?_) (by rfl) ?_)
        refine qf_mkS 3 [.int .i64 m0] rfl (by kernel_rfl) rfl (fun lt1 => ?_)
        (refine qf_nil ?_)
        exact hK1 _ _ (hS4_10_16 ⟨lt0, lt1, lt2, ()⟩ _ _ ⟨rfl, rfl, rfl, rfl, rfl, rfl, rfl, rfl, rfl, rfl, trivial⟩ (by repeat (first | exact Sp.nil | exact Sp.refl _ | refine Sp.cons (by repeat constructor) ?_)))
    refine qt_let (σ := Nat × Nat × Unit) (chainT [1, 2, 3, 4] (chainT [0, 5] (chainT [6, 11] (chainT [12, 17, 18, 19, 20] (.nil))))) (fun ⟨lt1, lt2, ()⟩ => [(1, .bool true), (2, .pointer (some ⟨b2, 0, none⟩)), (10, .int .i64 k), (11, .pointer (some ⟨b11, 0, none⟩)), (7, v1), (8, v2), (9, v3), (35, .slice (some ⟨lt1, 0, none⟩) 1 1), (41, .slice (some ⟨lt2, 0, none⟩) 1 1)]) (fun ⟨lt1, lt2, ()⟩ => [.ow v1 3 1 k (ints ((x.days.take k).map (·.n1))), .ow v2 3 1 k (ints ((x.days.take k).map (·.m0))), .pt lt1 [.int .i64 m0] 3, .ow v3 3 1 k (ints ((x.days.take k).map (·.l1))), .pt lt2 [.int .i64 l1] 3]) ?_ (fun hS10_16 => ?_)
    · rintro ⟨lt1, lt2, _⟩
      refine qt_seg (by repeat (first | exact PickL.nil | (apply PickL.cons; rfl))) fun K1 hK1 => ?_
      ((iterate 2 refine qf_pure tabOk rfl rfl rfl ?_); refine qf_loadB tabOk rfl rfl rfl (by repeat first | exact .head _ | refine .tail _ ?_) (by rfl) ?_)
      refine qf_mkS 3 [.int .i64 n1] rfl (by kernel_rfl) rfl (fun lt0 => ?_)
      (refine qf_nil ?_)
      exact hK1 _ _ (hS4_10_16 ⟨lt0, lt1, lt2, ()⟩ _ _ ⟨rfl, rfl, rfl, rfl, rfl, rfl, rfl, rfl, rfl, rfl, trivial⟩ (by repeat (first | exact Sp.nil | exact Sp.refl _ | refine Sp.cons (by repeat constructor) ?_)))
    refine qt_let (σ := Nat × Unit) (.alt (chainT [0, 5] (.alt (chainT [7, 8, 9, 10] (.alt (chainT [6, 11] (chainT [13, 14, 15, 16] (chainT [12, 17, 18, 19, 20] (.nil)))) (chainT [13, 14, 15, 16] (chainT [6, 11] (chainT [12, 17, 18, 19, 20] (.nil)))))) (chainT [13, 14, 15, 16] (chainT [7, 8, 9, 10] (chainT [6, 11] (chainT [12, 17, 18, 19, 20] (.nil))))))) (.alt (chainT [7, 8, 9, 10] (.alt (chainT [0, 5] (.alt (chainT [6, 11] (chainT [13, 14, 15, 16] (chainT [12, 17, 18, 19, 20] (.nil)))) (chainT [13, 14, 15, 16] (chainT [6, 11] (chainT [12, 17, 18, 19, 20] (.nil)))))) (chainT [13, 14, 15, 16] (chainT [0, 5] (chainT [6, 11] (chainT [12, 17, 18, 19, 20] (.nil))))))) (chainT [13, 14, 15, 16] (.alt (chainT [0, 5] (chainT [7, 8, 9, 10] (chainT [6, 11] (chainT [12, 17, 18, 19, 20] (.nil))))) (chainT [7, 8, 9, 10] (chainT [0, 5] (chainT [6, 11] (chainT [12, 17, 18, 19, 20] (.nil))))))))) (fun ⟨lt0, ()⟩ => [(1, .bool true), (2, .pointer (some ⟨b2, 0, none⟩)), (10, .int .i64 k), (11, .pointer (some ⟨b11, 0, none⟩)), (7, v1), (8, v2), (9, v3), (29, .slice (some ⟨lt0, 0, none⟩) 1 1)]) (fun ⟨lt0, ()⟩ => [.ow v1 3 1 k (ints ((x.days.take k).map (·.n1))), .pt lt0 [.int .i64 n1] 3, .ow v2 3 1 k (ints ((x.days.take k).map (·.m0))), .ow v3 3 1 k (ints ((x.days.take k).map (·.l1)))]) ?_ (fun hS4 => ?_)
    · rintro ⟨lt0, _⟩
      refine qt_alt ?_ (qt_alt ?_ ?_)
      · skip
        refine qt_seg (by repeat (first | exact PickL.nil | (apply PickL.cons; rfl))) fun K1 hK1 => ?_
        (refine qf_pure tabOk rfl rfl rfl ?_)
        refine qf_append (q := 1) slI rfl rfl rfl (fun v' => by repeat constructor) (fun w' hs => ⟨_, _, Blk.rd (hs.blk (b := lt0) (by repeat first | exact .head _ | refine .tail _ ?_)) rfl 1⟩) (by simp [oneV]) (by omega) (by omega) (fun ap0 => ?_)
        (refine qf_nil ?_)
        exact hK1 _ _ (hS4_5 ⟨lt0, ap0, ()⟩ _ _ ⟨rfl, rfl, rfl, rfl, rfl, rfl, rfl, rfl, trivial⟩ (by repeat (first | exact Sp.nil | exact Sp.refl _ | refine Sp.cons (by repeat constructor) ?_)))
      · skip
        refine qt_seg (by repeat (first | exact PickL.nil | (apply PickL.cons; rfl))) fun K1 hK1 => ?_
        ((iterate 2 refine qf_pure tabOk rfl rfl rfl ?_); refine qf_loadB tabOk rfl rfl rfl (by repeat first | exact .head _ | refine .tail _ ?_) (by rfl) ?_)
        refine qf_mkS 3 [.int .i64 m0] rfl (by kernel_rfl) rfl (fun lt1 => ?_)
        (refine qf_nil ?_)
        exact hK1 _ _ (hS4_10 ⟨lt0, lt1, ()⟩ _ _ ⟨rfl, rfl, rfl, rfl, rfl, rfl, rfl, rfl, rfl, trivial⟩ (by repeat (first | exact Sp.nil | exact Sp.refl _ | refine Sp.cons (by repeat constructor) ?_)))
      · skip
        refine qt_seg (by repeat (first | exact PickL.nil | (apply PickL.cons; rfl))) fun K1 hK1 => ?_
        ((iterate 2 refine qf_pure tabOk rfl rfl rfl ?_); refine qf_loadB tabOk rfl rfl rfl (by repeat first | exact .head _ | refine .tail _ ?_) (by rfl) ?_)
        refine qf_mkS 3 [.int .i64 l1] rfl (by kernel_rfl) rfl (fun lt2 => ?_)
        (refine qf_nil ?_)
        exact hK1 _ _ (hS4_16 ⟨lt0, lt2, ()⟩ _ _ ⟨rfl, rfl, rfl, rfl, rfl, rfl, rfl, rfl, rfl, trivial⟩ (by repeat (first | exact Sp.nil | exact Sp.refl _ | refine Sp.cons (by repeat constructor) ?_)))
    refine qt_let (σ := Nat × Unit) (.alt (chainT [1, 2, 3, 4] (.alt (chainT [0, 5] (.alt (chainT [6, 11] (chainT [13, 14, 15, 16] (chainT [12, 17, 18, 19, 20] (.nil)))) (chainT [13, 14, 15, 16] (chainT [6, 11] (chainT [12, 17, 18, 19, 20] (.nil)))))) (chainT [13, 14, 15, 16] (chainT [0, 5] (chainT [6, 11] (chainT [12, 17, 18, 19, 20] (.nil))))))) (chainT [13, 14, 15, 16] (chainT [1, 2, 3, 4] (chainT [0, 5] (chainT [6, 11] (chainT [12, 17, 18, 19, 20] (.nil))))))) (fun ⟨lt1, ()⟩ => [(1, .bool true), (2, .pointer (some ⟨b2, 0, none⟩)), (10, .int .i64 k), (11, .pointer (some ⟨b11, 0, none⟩)), (7, v1), (8, v2), (9, v3), (35, .slice (some ⟨lt1, 0, none⟩) 1 1)]) (fun ⟨lt1, ()⟩ => [.ow v1 3 1 k (ints ((x.days.take k).map (·.n1))), .ow v2 3 1 k (ints ((x.days.take k).map (·.m0))), .pt lt1 [.int .i64 m0] 3, .ow v3 3 1 k (ints ((x.days.take k).map (·.l1)))]) ?_ (fun hS10 => ?_)
    · rintro ⟨lt1, _⟩
      refine qt_alt ?_ ?_
      · skip
        refine qt_seg (by repeat (first | exact PickL.nil | (apply PickL.cons; rfl))) fun K1 hK1 => ?_
        ((iterate 2 refine qf_pure tabOk rfl rfl rfl ?_); refine qf_loadB tabOk rfl rfl rfl (by repeat first | exact .head _ | refine .tail _ ?_) (by rfl) ?_)
        refine qf_mkS 3 [.int .i64 n1] rfl (by kernel_rfl) rfl (fun lt0 => ?_)
        (refine qf_nil ?_)
        exact hK1 _ _ (hS4_10 ⟨lt0, lt1, ()⟩ _ _ ⟨rfl, rfl, rfl, rfl, rfl, rfl, rfl, rfl, rfl, trivial⟩ (by repeat (first | exact Sp.nil | exact Sp.refl _ | refine Sp.cons (by repeat constructor) ?_)))
      · skip
        refine qt_seg (by repeat (first | exact PickL.nil | (apply PickL.cons; rfl))) fun K1 hK1 => ?_
        ((iterate 2 refine qf_pure tabOk rfl rfl rfl ?_); refine qf_loadB tabOk rfl rfl rfl (by repeat first | exact .head _ | refine .tail _ ?_) (by rfl) ?_)
        refine qf_mkS 3 [.int .i64 l1] rfl (by kernel_rfl) rfl (fun lt2 => ?_)
        (refine qf_nil ?_)
        exact hK1 _ _ (hS10_16 ⟨lt1, lt2, ()⟩ _ _ ⟨rfl, rfl, rfl, rfl, rfl, rfl, rfl, rfl, rfl, trivial⟩ (by repeat (first | exact Sp.nil | exact Sp.refl _ | refine Sp.cons (by repeat constructor) ?_)))
    refine qt_let (σ := Nat × Unit) (.alt (chainT [1, 2, 3, 4] (.alt (chainT [0, 5] (chainT [7, 8, 9, 10] (chainT [6, 11] (chainT [12, 17, 18, 19, 20] (.nil))))) (chainT [7, 8, 9, 10] (chainT [0, 5] (chainT [6, 11] (chainT [12, 17, 18, 19, 20] (.nil))))))) (chainT [7, 8, 9, 10] (chainT [1, 2, 3, 4] (chainT [0, 5] (chainT [6, 11] (chainT [12, 17, 18, 19, 20] (.nil))))))) (fun ⟨lt2, ()⟩ => [(1, .bool true), (2, .pointer (some ⟨b2, 0, none⟩)), (10, .int .i64 k), (11, .pointer (some ⟨b11, 0, none⟩)), (7, v1), (8, v2), (9, v3), (41, .slice (some ⟨lt2, 0, none⟩) 1 1)]) (fun ⟨lt2, ()⟩ => [.ow v1 3 1 k (ints ((x.days.take k).map (·.n1))), .ow v2 3 1 k (ints ((x.days.take k).map (·.m0))), .ow v3 3 1 k (ints ((x.days.take k).map (·.l1))), .pt lt2 [.int .i64 l1] 3]) ?_ (fun hS16 => ?_)
    · rintro ⟨lt2, _⟩
      refine qt_alt ?_ ?_
      · skip
        refine qt_seg (by repeat (first | exact PickL.nil | (apply PickL.cons; rfl))) fun K1 hK1 => ?_
        ((iterate 2 refine qf_pure tabOk rfl rfl rfl ?_); refine qf_loadB tabOk rfl rfl rfl (by repeat first | exact .head _ | refine .tail _ ?_) (by rfl) ?_)
        refine qf_mkS 3 [.int .i64 n1] rfl (by kernel_rfl) rfl (fun lt0 => ?_)
        (refine qf_nil ?_)
        exact hK1 _ _ (hS4_16 ⟨lt0, lt2, ()⟩ _ _ ⟨rfl, rfl, rfl, rfl, rfl, rfl, rfl, rfl, rfl, trivial⟩ (by repeat (first | exact Sp.nil | exact Sp.refl _ | refine Sp.cons (by repeat constructor) ?_)))
      · skip
        refine qt_seg (by repeat (first | exact PickL.nil | (apply PickL.cons; rfl))) fun K1 hK1 => ?_
        ((iterate 2 refine qf_pure tabOk rfl rfl rfl ?_); refine qf_loadB tabOk rfl rfl rfl (by repeat first | exact .head _ | refine .tail _ ?_) (by rfl) ?_)
        refine qf_mkS 3 [.int .i64 m0] rfl (by kernel_rfl) rfl (fun lt1 => ?_)
        (refine qf_nil ?_)
        exact hK1 _ _ (hS10_16 ⟨lt1, lt2, ()⟩ _ _ ⟨rfl, rfl, rfl, rfl, rfl, rfl, rfl, rfl, rfl, trivial⟩ (by repeat (first | exact Sp.nil | exact Sp.refl _ | refine Sp.cons (by repeat constructor) ?_)))
    refine qt_alt ?_ (qt_alt ?_ ?_)
    · skip
      refine qt_seg (by repeat (first | exact PickL.nil | (apply PickL.cons; rfl))) fun K1 hK1 => ?_
      ((iterate 2 refine qf_pure tabOk rfl rfl rfl ?_); refine qf_loadB tabOk rfl rfl rfl (by repeat first | exact .head _ | refine .tail _ ?_) (by rfl) ?_)
      refine qf_mkS 3 [.int .i64 n1] rfl (by kernel_rfl) rfl (fun lt0 => ?_)
      (refine qf_nil ?_)
      exact hK1 _ _ (hS4 ⟨lt0, ()⟩ _ _ ⟨rfl, rfl, rfl, rfl, rfl, rfl, rfl, rfl, trivial⟩ (by repeat (first | exact Sp.nil | exact Sp.refl _ | refine Sp.cons (by repeat constructor) ?_)))
    · skip
      refine qt_seg (by repeat (first | exact PickL.nil | (apply PickL.cons; rfl))) fun K1 hK1 => ?_
      ((iterate 2 refine qf_pure tabOk rfl rfl rfl ?_); refine qf_loadB tabOk rfl rfl rfl (by repeat first | exact .head _ | refine .tail _ ?_) (by rfl) ?_)
      refine qf_mkS 3 [.int .i64 m0] rfl (by kernel_rfl) rfl (fun lt1 => ?_)
      (refine qf_nil ?_)
      exact hK1 _ _ (hS10 ⟨lt1, ()⟩ _ _ ⟨rfl, rfl, rfl, rfl, rfl, rfl, rfl, rfl, trivial⟩ (by repeat (first | exact Sp.nil | exact Sp.refl _ | refine Sp.cons (by repeat constructor) ?_)))
    · skip
      refine qt_seg (by repeat (first | exact PickL.nil | (apply PickL.cons; rfl))) fun K1 hK1 => ?_
      ((iterate 2 refine qf_pure tabOk rfl rfl rfl ?_); refine qf_loadB tabOk rfl rfl rfl (by repeat first | exact .head _ | refine .tail _ ?_) (by rfl) ?_)
      refine qf_mkS 3 [.int .i64 l1] rfl (by kernel_rfl) rfl (fun lt2 => ?_)
      (refine qf_nil ?_)
      exact hK1 _ _ (hS16 ⟨lt2, ()⟩ _ _ ⟨rfl, rfl, rfl, rfl, rfl, rfl, rfl, rfl, trivial⟩ (by repeat (first | exact Sp.nil | exact Sp.refl _ | refine Sp.cons (by repeat constructor) ?_)))
  · obtain rfl : k = x.days.length := by omega
    clear hc hK
    (refine q_exit _ rfl ?_; refine q_seq ?_; refine q_region ?_; (iterate 6 refine ql_pure tabOk rfl rfl ?_); refine q_nil ?_; refine q_ret ?_)
    refine q_fin tabOk rfl (by repeat (first | exact RVs.nil | apply RVs.tmp rfl | apply RVs.cellA rfl rfl (by repeat first | exact .head _ | refine .tail _ ?_) (by rfl) | apply RVs.cell1 rfl rfl (by repeat first | exact .head _ | refine .tail _ ?_))) fun w hs => ?_
    exact ⟨(v1, v2, v3), rfl, by rw [List.take_length] at hs; exact hs.sp (by repeat (first | exact Sp.nil | exact Sp.refl _ | refine Sp.cons (by repeat constructor) ?_))⟩
end Go.Proofs.Ytgeajgmefokifaa

/- Walks: winters and weathers compared that are equal. -/
namespace Go.Proofs.Ytgeajgmefokifaa
open Go Go.Eng

theorem sameW_ca (w : World) (lo hi lo2 hi2 : Nat) (x : Wn) (a b : Option Addr) (c d : Nat) (h1 : RdD w lo hi (.slice a x.days.length c) x.days) (h2 : RdD w lo2 hi2 (.slice b x.days.length d) x.days) (hlen : x.days.length ≤ 1000000) :
    Ca Try.prog 60 [.agg (wnC x a c).toArray, .agg (wnC x b d).toArray] w fun r w' => r = .bool true ∧ Chg [] w w' := by
  refine q_of (Sat.nil w M0) Try.func60 rfl (by simp [Try.ntmps60]) ?_
  (refine q_seq ?_; refine q_region ?_)
  refine ql_box rfl rfl (fun b2 => ?_)
  refine ql_box rfl rfl (fun b3 => ?_)
  (refine ql_pure tabOk rfl rfl ?_; refine q_nil ?_; refine q_seq ?_; refine q_region ?_; refine ql_pure tabOk rfl rfl ?_; refine ql_loadB tabOk rfl rfl rfl (by repeat first | exact .head _ | refine .tail _ ?_) (by rfl) ?_; refine ql_pure tabOk rfl rfl ?_; refine ql_loadB tabOk rfl rfl rfl (by repeat first | exact .head _ | refine .tail _ ?_) (by rfl) ?_; refine ql_eqlT tabOk rfl rfl rfl (by omega) ?_; refine ql_pure tabOk rfl rfl ?_; refine ql_gyes rfl ?_; refine ql_pure tabOk rfl rfl ?_; refine ql_gyes rfl ?_; refine ql_loadB tabOk rfl rfl rfl (by repeat first | exact .head _ | refine .tail _ ?_) (by rfl) ?_; refine ql_gyes rfl ?_; refine ql_pure tabOk rfl rfl ?_; refine ql_gyes rfl ?_; refine ql_loadB tabOk rfl rfl rfl (by repeat first | exact .head _ | refine .tail _ ?_) (by rfl) ?_; refine ql_gyes rfl ?_; refine ql_eqlT tabOk rfl rfl rfl (by omega) ?_; (iterate 2 refine ql_pure tabOk rfl rfl ?_); refine ql_gyes rfl ?_; refine ql_pure tabOk rfl rfl ?_; refine ql_gyes rfl ?_; refine ql_loadB tabOk rfl rfl rfl (by repeat first | exact .head _ | refine .tail _ ?_) (by rfl) ?_; refine ql_gyes rfl ?_; refine ql_pure tabOk rfl rfl ?_; refine ql_gyes rfl ?_; refine ql_loadB tabOk rfl rfl rfl (by repeat first | exact .head _ | refine .tail _ ?_) (by rfl) ?_; refine ql_gyes rfl ?_)
  refine ql_callv (val := .bool true) tabOk rfl rfl rfl rfl (fun w hs => ?_) ?_; exact eqD_ca w lo hi lo2 hi2 _ _ x.days (RdE.keep h1 hs.chg0) (RdE.keep h2 hs.chg0) hlen
  ((iterate 2 refine ql_pure tabOk rfl rfl ?_); refine q_nil ?_; refine q_ret ?_)
  refine q_fin tabOk rfl (by repeat (first | exact RVs.nil | apply RVs.tmp rfl | apply RVs.cellA rfl rfl (by repeat first | exact .head _ | refine .tail _ ?_) (by rfl) | apply RVs.cell1 rfl rfl (by repeat first | exact .head _ | refine .tail _ ?_))) fun w hs => ?_
  exact ⟨rfl, hs.chg0⟩
theorem alikeW_ca (w : World) (t : Wt) (v1 v2 v3 u1 u2 u3 : Value) (h1 : WtR w t v1 v2 v3) (h2 : WtR w t u1 u2 u3) (hl1 : t.need.length ≤ 1000000) (hl2 : t.make.length ≤ 1000000) (hl3 : t.loss.length ≤ 1000000) :
    Ca Try.prog 79 [.agg #[v1, v2, v3], .agg #[u1, u2, u3]] w fun r w' => r = .bool true ∧ Chg [] w w' := by
  obtain ⟨p1, q1, r1⟩ := h1.n
  obtain ⟨p2, q2, r2⟩ := h1.m
  obtain ⟨p3, q3, r3⟩ := h1.l
  obtain ⟨P1, Q1, s1⟩ := h2.n
  obtain ⟨P2, Q2, s2⟩ := h2.m
  obtain ⟨P3, Q3, s3⟩ := h2.l
  obtain ⟨a1, c1, rfl, _⟩ := RdI.outI r1
  obtain ⟨a2, c2, rfl, _⟩ := RdI.outI r2
  obtain ⟨a3, c3, rfl, _⟩ := RdI.outI r3
  obtain ⟨d1, e1, rfl, _⟩ := RdI.outI s1
  obtain ⟨d2, e2, rfl, _⟩ := RdI.outI s2
  obtain ⟨d3, e3, rfl, _⟩ := RdI.outI s3
  refine q_of (Sat.nil w M0) Try.func79 rfl (by simp [Try.ntmps79]) ?_
  (refine q_seq ?_; refine q_region ?_)
  refine ql_box rfl rfl (fun b2 => ?_)
  refine ql_box rfl rfl (fun b3 => ?_)
  (refine ql_pure tabOk rfl rfl ?_; refine q_nil ?_; refine q_seq ?_; refine q_region ?_; refine ql_pure tabOk rfl rfl ?_; refine ql_loadB tabOk rfl rfl rfl (by repeat first | exact .head _ | refine .tail _ ?_) (by rfl) ?_; refine ql_pure tabOk rfl rfl ?_; refine ql_loadB tabOk rfl rfl rfl (by repeat first | exact .head _ | refine .tail _ ?_) (by rfl) ?_)
  refine ql_callv (val := .bool true) tabOk rfl rfl rfl rfl (fun w hs => ?_) ?_; exact eqI_ca w p1 q1 P1 Q1 _ _ t.need (RdE.keep r1 hs.chg0) (RdE.keep s1 hs.chg0) hl1
  (refine ql_pure tabOk rfl rfl ?_; refine ql_gyes rfl ?_; refine ql_pure tabOk rfl rfl ?_; refine ql_gyes rfl ?_; refine ql_loadB tabOk rfl rfl rfl (by repeat first | exact .head _ | refine .tail _ ?_) (by rfl) ?_; refine ql_gyes rfl ?_; refine ql_pure tabOk rfl rfl ?_; refine ql_gyes rfl ?_; refine ql_loadB tabOk rfl rfl rfl (by repeat first | exact .head _ | refine .tail _ ?_) (by rfl) ?_; refine ql_gyes rfl ?_)
  refine ql_callv (val := .bool true) tabOk rfl rfl rfl rfl (fun w hs => ?_) ?_; exact eqI_ca w p2 q2 P2 Q2 _ _ t.make (RdE.keep r2 hs.chg0) (RdE.keep s2 hs.chg0) hl2
  ((iterate 2 refine ql_pure tabOk rfl rfl ?_); refine ql_gyes rfl ?_; refine ql_pure tabOk rfl rfl ?_; refine ql_gyes rfl ?_; refine ql_loadB tabOk rfl rfl rfl (by repeat first | exact .head _ | refine .tail _ ?_) (by rfl) ?_; refine ql_gyes rfl ?_; refine ql_pure tabOk rfl rfl ?_; refine ql_gyes rfl ?_; refine ql_loadB tabOk rfl rfl rfl (by repeat first | exact .head _ | refine .tail _ ?_) (by rfl) ?_; refine ql_gyes rfl ?_)
  refine ql_callv (val := .bool true) tabOk rfl rfl rfl rfl (fun w hs => ?_) ?_; exact eqI_ca w p3 q3 P3 Q3 _ _ t.loss (RdE.keep r3 hs.chg0) (RdE.keep s3 hs.chg0) hl3
  ((iterate 2 refine ql_pure tabOk rfl rfl ?_); refine q_nil ?_; refine q_ret ?_)
  refine q_fin tabOk rfl (by repeat (first | exact RVs.nil | apply RVs.tmp rfl | apply RVs.cellA rfl rfl (by repeat first | exact .head _ | refine .tail _ ?_) (by rfl) | apply RVs.cell1 rfl rfl (by repeat first | exact .head _ | refine .tail _ ?_))) fun w hs => ?_
  exact ⟨rfl, hs.chg0⟩
end Go.Proofs.Ytgeajgmefokifaa

/- Winters that are copied, and whose days are changed. -/
namespace Go.Proofs.Ytgeajgmefokifaa
open Go Go.Eng

/-! The cells of days -/
def fldD (d : Dy) : Nat → Int
  | 0 => d.n0
  | 1 => d.n1
  | 2 => d.m0
  | 3 => d.m1
  | 4 => d.l0
  | _ => d.l1
def setD (d : Dy) (f : Nat) (v : Int) : Dy :=
  match f with
  | 0 => { d with n0 := v }
  | 1 => { d with n1 := v }
  | 2 => { d with m0 := v }
  | 3 => { d with m1 := v }
  | 4 => { d with l0 := v }
  | _ => { d with l1 := v }
/-- Days in a block, with room behind them. -/
abbrev dyB (g : Nat) (l : List Dy) (sp : List Value) : Ck := .pt g (dyC l ++ sp) 73
section
variable {P : Program} {T : Tab} {ro : Cx} {n : Nat} {F : Fin} {w0 : World} {M : Nat → Prop} {k : List It} {ops : Array Oper} {rest : List Oper} {e : Env} {H Hq : List Ck}
end
/-! Copies -/
theorem cloneD_ca (w : World) (lo hi : Nat) (v : Value) (l : List Dy) (h : RdD w lo hi v l) (hlen : l.length ≤ 1000000) : Ca Try.prog 106 [v] w fun r w' => ∃ u : Value, r = u ∧ Sat w M0 [.ow u 73 6 l.length (dyC l)] w' := by
  obtain ⟨a, ca, rfl, _⟩ := RdD.outI h
  refine q_of (Sat.nil w M0) Try.func106 rfl (by simp [Try.ntmps106]) ?_
  (refine q_seq ?_; refine q_region ?_; refine ql_pure tabOk rfl rfl ?_; refine q_nil ?_; refine q_seq ?_; refine q_region ?_; refine ql_pure tabOk rfl rfl ?_)
  refine ql_conv (H' := [.ow (.slice none 0 0) 73 6 0 []]) (fun w' hs => Sat.ownil hs 73 6) ?_
  refine ql_append (q := l.length) slD rfl rfl rfl (fun v' => by repeat constructor) (fun w' hs => ⟨lo, hi, RdD.row (RdE.keep h hs.chg0)⟩) (dyC_one l) (by omega) (by omega) (fun u => ?_)
  (refine ql_pure tabOk rfl rfl ?_; refine q_nil ?_; refine q_ret ?_)
  refine q_fin tabOk rfl (by repeat (first | exact RVs.nil | apply RVs.tmp rfl | apply RVs.cellA rfl rfl (by repeat first | exact .head _ | refine .tail _ ?_) (by rfl) | apply RVs.cell1 rfl rfl (by repeat first | exact .head _ | refine .tail _ ?_))) fun w hs => ?_
  exact ⟨u, rfl, by simpa using hs⟩
theorem cloneW_ca (w : World) (lo hi : Nat) (x : Wn) (a : Option Addr) (c : Nat) (h : RdD w lo hi (.slice a x.days.length c) x.days) (hlen : x.days.length ≤ 1000000) :
    Ca Try.prog 41 [.agg (wnC x a c).toArray] w fun r w' => ∃ y : Option Addr × Nat, r = .agg (wnC x y.1 y.2).toArray ∧ Sat w M0 [.ow (.slice y.1 x.days.length y.2) 73 6 x.days.length (dyC x.days)] w' := by
  refine q_of (Sat.nil w M0) Try.func41 rfl (by simp [Try.ntmps41]) ?_
  (refine q_seq ?_; refine q_region ?_)
  refine ql_box rfl rfl (fun b1 => ?_)
  refine ql_alloc zero61 rfl (fun b2 => ?_)
  (refine q_nil ?_; refine q_seq ?_)
  refine q_draw _ [.pt b2 _ _] (Sp.cons (by repeat constructor) (Sp.refl _)) (by kernel_rfl) (by kernel_rfl) ?_
  (refine qf_pure tabOk rfl rfl rfl ?_; refine qf_loadB tabOk rfl rfl rfl (by repeat first | exact .head _ | refine .tail _ ?_) (by rfl) ?_; refine qf_pure tabOk rfl rfl rfl ?_; refine qf_loadB tabOk rfl rfl rfl (by repeat first | exact .head _ | refine .tail _ ?_) (by rfl) ?_; refine qf_pure tabOk rfl rfl rfl ?_; refine qf_loadB tabOk rfl rfl rfl (by repeat first | exact .head _ | refine .tail _ ?_) (by rfl) ?_)
  refine qf_call (β := Value) tabOk [] _ M0 rfl rfl rfl rfl (Sp.refl _) (fun _ h => h.elim) (fun w' hs => cloneD_ca w' lo hi _ x.days (RdE.keep h hs.chg0) hlen) ?_
  rintro _ u rfl
  dsimp only [List.cons_append, List.nil_append]
  refine qf_fact (fun w hs => hs.slice2 (v := u) (by repeat first | exact .head _ | refine .tail _ ?_)) ?_
  rintro ⟨ua, uc, rfl⟩
  skip
  refine qf_mk #[.int .i64 x.stock, .int .i64 x.store, .slice ua x.days.length uc] rfl (by kernel_rfl) rfl ?_
  (refine qf_setA tabOk rfl rfl rfl rfl rfl (by repeat constructor) rfl ?_; refine qf_nil ?_; refine q_ret ?_)
  refine q_fin tabOk rfl (by repeat (first | exact RVs.nil | apply RVs.tmp rfl | apply RVs.cellA rfl rfl (by repeat first | exact .head _ | refine .tail _ ?_) (by rfl) | apply RVs.cell1 rfl rfl (by repeat first | exact .head _ | refine .tail _ ?_))) fun w hs => ?_
  exact ⟨(ua, uc), rfl, hs.sp (by repeat (first | exact Sp.nil | exact Sp.refl _ | refine Sp.cons (by repeat constructor) ?_))⟩
end Go.Proofs.Ytgeajgmefokifaa

/- Walks: a weather copied. -/
namespace Go.Proofs.Ytgeajgmefokifaa
open Go Go.Eng

theorem cloneI_ca (w : World) (lo hi : Nat) (v : Value) (l : List Int) (h : RdI w lo hi v l) (hlen : l.length ≤ 1000000) : Ca Try.prog 20 [v] w fun r w' => ∃ u : Value, r = u ∧ Sat w M0 [.ow u 3 1 l.length (ints l)] w' := by
  obtain ⟨a, ca, rfl, _⟩ := RdI.outI h
  have hrow : ∀ w', Chg [] w w' → Rd w' lo hi (.slice a l.length ca) 1 l.length (ints l) := fun w' hc => by
    have := (RdE.keep h hc).rd
    rw [cellsOf_ints] at this
    simpa using this
  refine q_of (Sat.nil w M0) Try.func20 rfl (by simp [Try.ntmps20]) ?_
  (refine q_seq ?_; refine q_region ?_; refine ql_pure tabOk rfl rfl ?_; refine q_nil ?_; refine q_seq ?_; refine q_region ?_; refine ql_pure tabOk rfl rfl ?_)
  refine ql_conv (H' := [.ow (.slice none 0 0) 3 1 0 []]) (fun w' hs => Sat.ownil hs 3 1) ?_
  refine ql_append (q := l.length) slI rfl rfl rfl (fun v' => by repeat constructor) (fun w' hs => ⟨lo, hi, hrow w' hs.chg0⟩) (by simp [oneV]) (by omega) (by omega) (fun u => ?_)
  (refine ql_pure tabOk rfl rfl ?_; refine q_nil ?_; refine q_ret ?_)
  refine q_fin tabOk rfl (by repeat (first | exact RVs.nil | apply RVs.tmp rfl | apply RVs.cellA rfl rfl (by repeat first | exact .head _ | refine .tail _ ?_) (by rfl) | apply RVs.cell1 rfl rfl (by repeat first | exact .head _ | refine .tail _ ?_))) fun w hs => ?_
  exact ⟨u, rfl, by simpa using hs⟩
theorem cloneT_ca (w : World) (t : Wt) (v1 v2 v3 : Value) (h : WtR w t v1 v2 v3) (hl1 : t.need.length ≤ 1000000) (hl2 : t.make.length ≤ 1000000) (hl3 : t.loss.length ≤ 1000000) :
    Ca Try.prog 75 [.agg #[v1, v2, v3]] w fun r w' => ∃ y : Value × Value × Value, r = .agg #[y.1, y.2.1, y.2.2] ∧ Sat w M0 (wtK y.1 y.2.1 y.2.2 t) w' := by
  obtain ⟨p1, q1, r1⟩ := h.n
  obtain ⟨p2, q2, r2⟩ := h.m
  obtain ⟨p3, q3, r3⟩ := h.l
  obtain ⟨a1, c1, rfl, _⟩ := RdI.outI r1
  obtain ⟨a2, c2, rfl, _⟩ := RdI.outI r2
  obtain ⟨a3, c3, rfl, _⟩ := RdI.outI r3
  refine q_of (Sat.nil w M0) Try.func75 rfl (by simp [Try.ntmps75]) ?_
  (refine q_seq ?_; refine q_region ?_)
  refine ql_box rfl rfl (fun b1 => ?_)
  refine ql_alloc zero107 rfl (fun b2 => ?_)
  (refine q_nil ?_; refine q_seq ?_)
  refine q_draw _ [.pt b2 _ _] (Sp.cons (by repeat constructor) (Sp.refl _)) (by kernel_rfl) (by kernel_rfl) ?_
  (refine qf_pure tabOk rfl rfl rfl ?_; refine qf_loadB tabOk rfl rfl rfl (by repeat first | exact .head _ | refine .tail _ ?_) (by rfl) ?_)
  refine qf_call (β := Value) tabOk [] _ M0 rfl rfl rfl rfl (Sp.refl _) (fun _ h => h.elim) (fun w' hs => cloneI_ca w' p1 q1 _ t.need (RdE.keep r1 hs.chg0) hl1) ?_
  rintro _ u1 rfl
  dsimp only [List.cons_append, List.nil_append]
  refine qf_fact (fun w hs => hs.slice2 (v := u1) (by repeat first | exact .head _ | refine .tail _ ?_)) ?_
  rintro ⟨ua1, uc1, rfl⟩
  (refine qf_pure tabOk rfl rfl rfl ?_; refine qf_loadB tabOk rfl rfl rfl (by repeat first | exact .head _ | refine .tail _ ?_) (by rfl) ?_)
  refine qf_call (β := Value) tabOk [] _ M0 rfl rfl rfl rfl (Sp.refl _) (fun _ h => h.elim) (fun w' hs => cloneI_ca w' p2 q2 _ t.make (RdE.keep r2 hs.chg0) hl2) ?_
  rintro _ u2 rfl
  dsimp only [List.cons_append, List.nil_append]
  refine qf_fact (fun w hs => hs.slice2 (v := u2) (by repeat first | exact .head _ | refine .tail _ ?_)) ?_
  rintro ⟨ua2, uc2, rfl⟩
  (refine qf_pure tabOk rfl rfl rfl ?_; refine qf_loadB tabOk rfl rfl rfl (by repeat first | exact .head _ | refine .tail _ ?_) (by rfl) ?_)
  refine qf_call (β := Value) tabOk [] _ M0 rfl rfl rfl rfl (Sp.refl _) (fun _ h => h.elim) (fun w' hs => cloneI_ca w' p3 q3 _ t.loss (RdE.keep r3 hs.chg0) hl3) ?_
  rintro _ u3 rfl
  dsimp only [List.cons_append, List.nil_append]
  refine qf_fact (fun w hs => hs.slice2 (v := u3) (by repeat first | exact .head _ | refine .tail _ ?_)) ?_
  rintro ⟨ua3, uc3, rfl⟩
  skip
  refine qf_mk #[.slice ua1 t.need.length uc1, .slice ua2 t.make.length uc2, .slice ua3 t.loss.length uc3] rfl (by kernel_rfl) rfl ?_
  (refine qf_setA tabOk rfl rfl rfl rfl rfl (by repeat constructor) rfl ?_; refine qf_nil ?_; refine q_ret ?_)
  refine q_fin tabOk rfl (by repeat (first | exact RVs.nil | apply RVs.tmp rfl | apply RVs.cellA rfl rfl (by repeat first | exact .head _ | refine .tail _ ?_) (by rfl) | apply RVs.cell1 rfl rfl (by repeat first | exact .head _ | refine .tail _ ?_))) fun w hs => ?_
  exact ⟨(_, _, _), rfl, hs.sp (by repeat (first | exact Sp.nil | exact Sp.refl _ | refine Sp.cons (by repeat constructor) ?_))⟩
end Go.Proofs.Ytgeajgmefokifaa

/- Walk: a winter of the reference. -/
namespace Go.Proofs.Ytgeajgmefokifaa
open Go Go.Eng

theorem slDr : SlT Try.prog 91 176 6 48 (.agg #[.int .i64 0, .int .i64 0, .int .i64 0, .int .i64 0, .int .i64 0, .int .i64 0]) := ⟨by kernel_rfl, by kernel_rfl, by kernel_rfl, by decide⟩
theorem dyC_take (l : List Dy) {k : Nat} (h : k < l.length) : dyC (l.take (k + 1)) = dyC (l.take k) ++ dyC [l[k]] := by
  rw [List.take_succ_eq_append_getElem h]
  exact dyC_snoc _ _
set_option maxHeartbeats 2000000 in
theorem rwin_ca (w : World) (lo hi : Nat) (x : Wn) (a : Option Addr) (c : Nat) (h : RdD w lo hi (.slice a x.days.length c) x.days) (hlen : x.days.length ≤ 1000000) :
    Ca Try.prog 51 [.agg (wnC x a c).toArray] w fun r w' => ∃ y : Option Addr × Nat, r = .agg (wnC x y.1 y.2).toArray ∧ Sat w M0 [.ow (.slice y.1 x.days.length y.2) 176 6 x.days.length (dyC x.days)] w' := by
  obtain ⟨a', c', he, hsa⟩ := RdD.outI h
  cases he
  refine q_of (Sat.nil w M0) Try.func51 rfl (by simp [Try.ntmps51]) ?_
  (refine q_seq ?_; refine q_region ?_)
  refine ql_box rfl rfl (fun b1 => ?_)
  refine ql_alloc zero93 rfl (fun b2 => ?_)
  (refine q_nil ?_; refine q_seq ?_; refine q_region ?_; refine ql_pure tabOk rfl rfl ?_; refine ql_loadB tabOk rfl rfl rfl (by repeat first | exact .head _ | refine .tail _ ?_) (by rfl) ?_; refine ql_pure tabOk rfl rfl ?_; refine ql_loadB tabOk rfl rfl rfl (by repeat first | exact .head _ | refine .tail _ ?_) (by rfl) ?_)
  refine ql_mk #[.int .i64 x.stock, .int .i64 x.store, .slice none 0 0] rfl (by kernel_rfl) rfl ?_
  skip
  refine ql_alloc zero93 rfl (fun b3 => ?_)
  (refine ql_setA tabOk rfl rfl rfl rfl rfl (by repeat constructor) rfl ?_; refine q_nil ?_; (iterate 2 refine q_seq ?_); refine q_region ?_; refine ql_pure tabOk rfl rfl ?_; refine ql_loadB tabOk rfl rfl rfl (by repeat first | exact .head _ | refine .tail _ ?_) (by rfl) ?_; (iterate 2 refine ql_pure tabOk rfl rfl ?_); refine q_nil ?_; refine q_block ?_)
  refine q_conv (H' := [.pt b3 [.int .i64 x.stock, .int .i64 x.store, .slice none 0 0] 93, .ow (.slice none 0 0) 176 6 0 (dyC []), .pt b1 (wnC x a c) 61, .pt b2 [.int .i64 0, .int .i64 0, .slice none 0 0] 93]) (fun w' hs => (Sat.ownil hs 176 6).sp (by repeat (first | exact Sp.nil | exact Sp.refl _ | refine Sp.cons (by repeat constructor) ?_))) ?_
  refine q_loop (σ := Nat × Value) (fun s => s.1 ≤ x.days.length) (fun s => x.days.length - s.1) (fun s => [(2, .pointer (some ⟨b2, 0, none⟩)), (3, .pointer (some ⟨b3, 0, none⟩)), (12, .slice a x.days.length c), (13, .int .i64 x.days.length), (14, .int .i64 s.1)])
    (fun s => [.pt b3 [.int .i64 x.stock, .int .i64 x.store, s.2] 93, .ow s.2 176 6 s.1 (dyC (x.days.take s.1)), .pt b1 (wnC x a c) 61, .pt b2 [.int .i64 0, .int .i64 0, .slice none 0 0] 93]) (0, .slice none 0 0) (by simp) ⟨rfl, rfl, rfl, rfl, rfl, trivial⟩ (by repeat (first | exact Sp.nil | exact Sp.refl _ | refine Sp.cons (by repeat constructor) ?_)) ?_
  rintro ⟨k, dv⟩ hk K hK
  simp only at hk
  dsimp only
  (refine q_seq ?_; refine q_region ?_; refine ql_pure tabOk rfl rfl ?_; refine q_nil ?_; refine q_seq ?_)
  refine q_if rfl (fun hc => ?_) (fun hc => ?_)
  · have hk2 : k < x.days.length := by first | omega | (simp at hc; omega)
    clear hc
    obtain ⟨b, off, rfl⟩ := hsa (by omega)
    have e1 := dyC_take x.days hk2
    (refine q_skip ?_; refine q_seq ?_; refine q_block ?_; refine q_seq ?_; refine q_region ?_)
    refine ql_index tabOk rfl rfl rfl rfl rfl (by omega) (by omega) ?_
    skip
    refine ql_loadA tabOk rfl rfl rfl rfl (fun w hs => RdD.at (RdE.keep h hs.chg0) k hk2) ?_
    skip
    refine ql_alloc zero73 rfl (fun b5 => ?_)
    (refine ql_setA tabOk rfl rfl rfl rfl rfl (by repeat constructor) rfl ?_; refine q_nil ?_; refine q_region ?_; refine ql_pure tabOk rfl rfl ?_; refine ql_loadB tabOk rfl rfl rfl (by repeat first | exact .head _ | refine .tail _ ?_) (by rfl) ?_; refine ql_loadAB tabOk rfl rfl rfl (by repeat first | exact .head _ | refine .tail _ ?_) (by rfl) (by rfl) ?_)
    generalize x.days[k] = d at *
    obtain ⟨n0, n1, m0, m1, l0, l1⟩ := d
    dsimp only at e1 ⊢
    refine ql_mkS 176 (dyC [⟨n0, n1, m0, m1, l0, l1⟩]) rfl (by kernel_rfl) rfl (fun bn => ?_)
    refine ql_append (q := 1) slDr rfl rfl rfl (fun v' => by repeat constructor) (fun w' hs => ⟨_, _, Blk.rdDy (hs.blk (b := bn) (by repeat first | exact .head _ | refine .tail _ ?_))⟩) (dyC_one _) (by omega) (by omega) (fun u => ?_)
    refine ql_fact (fun w hs => hs.slice (v := u) (by repeat first | exact .head _ | refine .tail _ ?_)) ?_
    rintro ⟨a1, g1, d1, rfl⟩
    (refine ql_pure tabOk rfl rfl ?_; refine ql_st2 tabOk rfl rfl rfl rfl (by repeat constructor) ?_; refine q_nil ?_; refine q_blk ?_; refine q_region ?_; refine ql_ar tabOk rfl rfl rfl rfl (by omega) (by omega) ?_; refine ql_pure tabOk rfl rfl ?_; refine q_nil ?_)
    exact hK (k + 1, .slice a1 g1 d1) _ _ (by simp only; omega) (by simp only; omega) ⟨rfl, rfl, rfl, rfl, rfl, trivial⟩ (by dsimp only; rw [e1]; repeat (first | exact Sp.nil | exact Sp.refl _ | refine Sp.cons (by repeat constructor) ?_))
  · obtain rfl : k = x.days.length := by omega
    clear hc hK
    rw [List.take_length]
    refine q_fact (fun w hs => hs.slice2 (v := dv) (by repeat first | exact .head _ | refine .tail _ ?_)) ?_
    rintro ⟨ua, uc, rfl⟩
    (refine q_exit _ rfl ?_; refine q_seq ?_; refine q_region ?_; refine ql_loadAB tabOk rfl rfl rfl (by repeat first | exact .head _ | refine .tail _ ?_) (by rfl) (by rfl) ?_; refine ql_setA tabOk rfl rfl rfl rfl rfl (by repeat constructor) rfl ?_; refine q_nil ?_; refine q_ret ?_)
    refine q_fin tabOk rfl (by repeat (first | exact RVs.nil | apply RVs.tmp rfl | apply RVs.cellA rfl rfl (by repeat first | exact .head _ | refine .tail _ ?_) (by rfl) | apply RVs.cell1 rfl rfl (by repeat first | exact .head _ | refine .tail _ ?_))) fun w hs => ?_
    exact ⟨(ua, uc), rfl, hs.sp (by repeat (first | exact Sp.nil | exact Sp.refl _ | refine Sp.cons (by repeat constructor) ?_))⟩
end Go.Proofs.Ytgeajgmefokifaa

/- Walks: whether there are too many days, or numbers. -/
namespace Go.Proofs.Ytgeajgmefokifaa
open Go Go.Eng

def longB (n : Nat) (ll : List (List Int)) : Bool := (ll.any fun l => decide (70 < l.length) && true) || (decide (65 < n) && true)
theorem longB_no {n : Nat} {ll : List (List Int)} (h : longB n ll = false) : n ≤ 65 ∧ ∀ l ∈ ll, l.length ≤ 70 := by
  simp only [longB, Bool.and_true, Bool.or_eq_false_iff, List.any_eq_false, decide_eq_true_eq, decide_eq_false_iff_not] at h
  exact ⟨by omega, fun l hl => by have := h.1 l hl; omega⟩
set_option maxHeartbeats 1000000 in
theorem longW_ca (w : World) (lo hi : Nat) (x : Wn) (a : Option Addr) (c : Nat) (v : Value) (ll : List (List Int)) (h : RdII w lo hi v ll) (hlen : ll.length ≤ 1000) (hrow : ∀ l ∈ ll, l.length ≤ maxLen) (hx : x.days.length ≤ maxLen) :
    Ca Try.prog 50 [.agg (wnC x a c).toArray, v] w fun r w' => r = .bool (longB x.days.length ll) ∧ Chg [] w w' := by
  obtain ⟨la, lc, rfl, hsa⟩ := RdII.outI h
  simp only [maxLen] at hrow hx
  refine q_of (Sat.nil w M0) Try.func50 rfl (by simp [Try.ntmps50]) ?_
  (refine q_seq ?_; refine q_region ?_)
  refine ql_box rfl rfl (fun b2 => ?_)
  (refine ql_pure tabOk rfl rfl ?_; refine q_nil ?_; (iterate 2 refine q_seq ?_); refine q_region ?_; (iterate 3 refine ql_pure tabOk rfl rfl ?_); refine q_nil ?_; refine q_block ?_)
  refine q_loop (σ := Nat) (fun k => k ≤ ll.length ∧ ∀ l ∈ ll.take k, l.length ≤ 70) (fun k => ll.length - k) (fun k => [(2, .pointer (some ⟨b2, 0, none⟩)), (7, .slice la ll.length lc), (8, .int .i64 ll.length), (9, .int .i64 k)]) (fun _ => [.pt b2 (wnC x a c) 61]) 0 ⟨by omega, by simp⟩ ⟨rfl, rfl, rfl, rfl, trivial⟩ (by repeat (first | exact Sp.nil | exact Sp.refl _ | refine Sp.cons (by repeat constructor) ?_)) ?_
  rintro k ⟨hk, hall⟩ K hK
  (refine q_seq ?_; refine q_region ?_; refine ql_pure tabOk rfl rfl ?_; refine q_nil ?_; refine q_seq ?_)
  refine q_if rfl (fun hc => ?_) (fun hc => ?_)
  · have hk2 : k < ll.length := by omega
    clear hc
    obtain ⟨b, off, rfl⟩ := hsa (by omega)
    obtain ⟨ra, rc, hr, hcell⟩ := h.row k hk2
    have hl := hrow _ (List.getElem_mem hk2)
    (refine q_skip ?_; refine q_seq ?_; refine q_block ?_; refine q_seq ?_; refine q_region ?_)
    refine ql_index tabOk rfl rfl rfl rfl rfl (by omega) (by omega) ?_
    refine ql_load1 (v := .slice ra ll[k].length rc) tabOk rfl rfl rfl (fun w' hs => hcell w' hs.chg0) ?_
    (refine ql_pure tabOk rfl rfl ?_; refine q_nil ?_; refine q_seq ?_; refine q_region ?_; (iterate 3 refine ql_pure tabOk rfl rfl ?_); refine q_nil ?_)
    refine q_if rfl (fun hc => ?_) (fun hc => ?_)
    · have e : longB x.days.length ll = true := by
        unfold longB
        rw [List.any_eq_true.2 ⟨ll[k], List.getElem_mem hk2, by simp; omega⟩]
        rfl
      (refine q_seq ?_; refine q_region ?_; refine ql_pure tabOk rfl rfl ?_; refine q_nil ?_; refine q_ret ?_)
      refine q_fin tabOk rfl (by repeat (first | exact RVs.nil | apply RVs.tmp rfl | apply RVs.cellA rfl rfl (by repeat first | exact .head _ | refine .tail _ ?_) (by rfl) | apply RVs.cell1 rfl rfl (by repeat first | exact .head _ | refine .tail _ ?_))) fun w hs => ?_
      exact ⟨by rw [e]; rfl, hs.chg0⟩
    · (refine q_skip ?_; refine q_blk ?_; refine q_region ?_; refine ql_ar tabOk rfl rfl rfl rfl (by omega) (by omega) ?_; refine ql_pure tabOk rfl rfl ?_; refine q_nil ?_)
      exact hK (k + 1) _ _ ⟨by omega, fun l hl => by
        rw [List.take_succ_eq_append_getElem hk2] at hl
        rcases List.mem_append.1 hl with hl | hl
        · exact hall l hl
        · obtain rfl := List.mem_singleton.1 hl
          omega⟩ (by omega) ⟨rfl, rfl, rfl, rfl, trivial⟩ (by repeat (first | exact Sp.nil | exact Sp.refl _ | refine Sp.cons (by repeat constructor) ?_))
  · obtain rfl : k = ll.length := by omega
    rw [List.take_length] at hall
    have e : longB x.days.length ll = (decide (65 < x.days.length) && true) := by
      unfold longB
      rw [List.any_eq_false.2 (fun l hl => by have := hall l hl; simp; omega)]
      rfl
    by_cases h6 : 65 < x.days.length
    · (refine q_exit _ rfl ?_; refine q_seq ?_; refine q_region ?_; refine ql_pure tabOk rfl rfl ?_; refine ql_loadB tabOk rfl rfl rfl (by repeat first | exact .head _ | refine .tail _ ?_) (by rfl) ?_; refine ql_pure tabOk rfl rfl ?_; refine ql_gtrT tabOk rfl rfl rfl (by omega) ?_; refine ql_pure tabOk rfl rfl ?_; refine q_nil ?_; refine q_ret ?_)
      refine q_fin tabOk rfl (by repeat (first | exact RVs.nil | apply RVs.tmp rfl | apply RVs.cellA rfl rfl (by repeat first | exact .head _ | refine .tail _ ?_) (by rfl) | apply RVs.cell1 rfl rfl (by repeat first | exact .head _ | refine .tail _ ?_))) fun w hs => ?_
      exact ⟨by rw [e]; simp [h6, retV], hs.chg0⟩
    · (refine q_exit _ rfl ?_; refine q_seq ?_; refine q_region ?_; refine ql_pure tabOk rfl rfl ?_; refine ql_loadB tabOk rfl rfl rfl (by repeat first | exact .head _ | refine .tail _ ?_) (by rfl) ?_; refine ql_pure tabOk rfl rfl ?_; refine ql_gtrF tabOk rfl rfl rfl (by omega) ?_; refine ql_pure tabOk rfl rfl ?_; refine q_nil ?_; refine q_ret ?_)
      refine q_fin tabOk rfl (by repeat (first | exact RVs.nil | apply RVs.tmp rfl | apply RVs.cellA rfl rfl (by repeat first | exact .head _ | refine .tail _ ?_) (by rfl) | apply RVs.cell1 rfl rfl (by repeat first | exact .head _ | refine .tail _ ?_))) fun w hs => ?_
      exact ⟨by rw [e]; simp [h6, retV], hs.chg0⟩
end Go.Proofs.Ytgeajgmefokifaa

/- Walk of the reference: piles. -/
namespace Go.Proofs.Ytgeajgmefokifaa
open Go Go.Eng

/-- Much is taken from piles, one after the other. -/
structure TkI (much : Int) (l : List Int) (k : Nat) (m : Int) (o : List Int) : Prop where
  kl : k ≤ l.length
  len : o.length = l.length
  mb : 0 ≤ m ∧ m ≤ much
  nn : ∀ x ∈ o, 0 ≤ x ∧ x ≤ 2000000
  eq : rremP much l = o.take k ++ rremP m (o.drop k)
theorem TkI.zero {much : Int} {l : List Int} (h : 0 ≤ much) (hl : ∀ x ∈ l, 0 ≤ x ∧ x ≤ 2000000) : TkI much l 0 much l := ⟨Nat.zero_le _, rfl, ⟨h, Int.le_refl _⟩, hl, by simp⟩
theorem TkI.step {much : Int} {l : List Int} {k : Nat} {m : Int} {o : List Int} (h : TkI much l k m o) (hk : k < o.length) (hm : 0 < m) {n : Int} (hn : n = min o[k] m) : TkI much l (k + 1) (m - n) (o.set k (o[k] - n)) := by
  subst hn
  have h0 := h.nn _ (List.getElem_mem hk)
  refine ⟨by have := h.len; omega, by simp [h.len], by have := h.mb; omega, fun x hx => ?_, ?_⟩
  · rcases List.mem_or_eq_of_mem_set hx with hx | rfl
    · exact h.nn x hx
    · omega
  · rw [h.eq, List.drop_eq_getElem_cons hk, rremP, if_pos (by omega)]
    have e1 : (o.set k (o[k] - min o[k] m)).take (k + 1) = o.take k ++ [o[k] - min o[k] m] := by
      rw [List.take_succ_eq_append_getElem (by simpa using hk), List.take_set_of_le (Nat.le_refl _)]
      simp
    have e2 : (o.set k (o[k] - min o[k] m)).drop (k + 1) = o.drop (k + 1) := by rw [List.drop_set_of_lt (by omega)]
    rw [e1, e2]
    simp
theorem TkI.full {much : Int} {l : List Int} {k : Nat} {m : Int} {o : List Int} (h : TkI much l k m o) (hk : ¬ k < o.length) : o = rremP much l := by
  have h1 := h.len
  have h2 := h.kl
  rw [h.eq, List.drop_eq_nil_of_le (by omega), List.take_of_length_le (by omega)]
  simp [rremP]
theorem TkI.done {much : Int} {l : List Int} {k : Nat} {m : Int} {o : List Int} (h : TkI much l k m o) (hm : ¬ m > 0) : o = rremP much l := by
  obtain rfl : m = 0 := by have := h.mb; omega
  rw [h.eq, rremP_zero, List.take_append_drop]
theorem set_ints (l : List Int) (k : Nat) (v : Int) : (ints l).set k (.int .i64 v) = ints (l.set k v) := by simp [ints, List.map_set]

set_option maxHeartbeats 4000000 in
theorem rpiles_ca (w : World) (lo hi : Nat) (x : Wn) (a : Option Addr) (c : Nat) (t : Wt) (v1 v2 v3 : Value) (h : RdD w lo hi (.slice a x.days.length c) x.days) (hx : x.Right) (ht : t.Fine x.days.length) (hw : WtR w t v1 v2 v3) :
    Ca Try.prog 82 [.agg (wnC x a c).toArray, v1, v2, v3] w fun r w' => ∃ y : Value, r = y ∧ Sat w M0 [.ow y 3 1 ((hapV x t).stocks.length + 1) (ints (rpP x t (hapV x t).stocks.length))] w' := by
  have hd2 := hx.d2
  have hst := hx.store
  have hsk := hx.stock
  have k1 := ht.need
  have k2 := ht.make
  have k3 := ht.loss
  obtain ⟨lo1, hi1, r1⟩ := hw.n
  obtain ⟨lo2, hi2, r2⟩ := hw.m
  obtain ⟨lo3, hi3, r3⟩ := hw.l
  obtain ⟨a1, c1, rfl, hs1⟩ := RdI.outI r1
  obtain ⟨a2, c2, rfl, hs2⟩ := RdI.outI r2
  obtain ⟨a3, c3, rfl, hs3⟩ := RdI.outI r3
  refine q_of (Sat.nil w M0) Try.func82 rfl (by simp [Try.ntmps82]) ?_
  (refine q_seq ?_; refine q_region ?_)
  refine ql_box rfl rfl (fun b4 => ?_)
  (refine ql_pure tabOk rfl rfl ?_; refine q_nil ?_; refine q_seq ?_; refine q_region ?_; refine ql_loadAB tabOk rfl rfl rfl (by repeat first | exact .head _ | refine .tail _ ?_) (by rfl) (by rfl) ?_; (iterate 3 refine ql_pure tabOk rfl rfl ?_))
  refine ql_call (β := Value × Value) tabOk [] _ M0 rfl rfl rfl rfl (Sp.refl _) (fun _ h => h.elim) (fun w' hs => rhap_ca w' lo hi x a c t _ _ _ (RdE.keep h hs.chg0) hx ht (hw.keep hs.chg0)) ?_
  rintro ⟨y1, y2⟩ _ rfl
  dsimp only [List.cons_append, List.nil_append]
  obtain ⟨n, en, hn, eS, eM, hnn, _, _, _, _⟩ := hap_count hx ht
  rw [en]
  have enM : (hapV x t).made.length = n := by rw [eM]; simp
  rw [enM]
  generalize hapV x t = S at *
  (refine ql_pure tabOk rfl rfl ?_; (iterate 3 refine ql_ext tabOk rfl rfl rfl ?_); (iterate 3 refine ql_pure tabOk rfl rfl ?_); refine q_nil ?_; refine q_seq ?_; refine q_region ?_; refine ql_pure tabOk rfl rfl ?_; refine ql_loadB tabOk rfl rfl rfl (by repeat first | exact .head _ | refine .tail _ ?_) (by rfl) ?_)
  refine ql_mkS 3 [.int .i64 x.stock] rfl (by kernel_rfl) rfl (fun b0 => ?_)
  refine ql_conv (H' := [.ow (.slice (some ⟨b0, 0, none⟩) 1 1) 3 1 1 (ints (rpP x t 0)), .ow y1 3 1 n (ints S.stocks), .ow y2 3 1 n (ints S.made), .pt b4 (wnC x a c) 93]) (fun w' hs => (Sat.pt_ow (t := 3) (sz := 1) (m := 1) rfl (by omega) (hs.sp (by repeat (first | exact Sp.nil | exact Sp.refl _ | refine Sp.cons (by repeat constructor) ?_)))).sp (by repeat (first | exact Sp.nil | exact Sp.refl _ | refine Sp.cons (by repeat constructor) ?_))) ?_
  (refine ql_pure tabOk rfl rfl ?_; refine q_nil ?_; refine q_seq ?_; refine q_region ?_; refine ql_pure tabOk rfl rfl ?_; refine ql_loadB tabOk rfl rfl rfl (by repeat first | exact .head _ | refine .tail _ ?_) (by rfl) ?_; refine ql_pure tabOk rfl rfl ?_; refine q_nil ?_; (iterate 2 refine q_seq ?_); refine q_region ?_; refine ql_pure tabOk rfl rfl ?_; refine q_nil ?_; refine q_block ?_)
  refine q_loop (σ := Nat × Value) (fun s => s.1 ≤ n ∧ ∀ z ∈ rpP x t s.1, 0 ≤ z ∧ z ≤ 2000000) (fun s => n - s.1) (fun s => [(1, .slice a1 t.need.length c1), (3, .slice a3 t.loss.length c3), (9, y1), (10, y2), (12, s.2), (13, .int .i64 (sq x t s.1)), (14, .int .i64 s.1)])
    (fun s => [.ow s.2 3 1 (s.1 + 1) (ints (rpP x t s.1)), .ow y1 3 1 n (ints S.stocks), .ow y2 3 1 n (ints S.made), .pt b4 (wnC x a c) 93]) (0, .slice (some ⟨b0, 0, none⟩) 1 1) ⟨by simp, by simp [rpP]; omega⟩ ⟨rfl, rfl, rfl, rfl, rfl, rfl, rfl, trivial⟩ (by repeat (first | exact Sp.nil | exact Sp.refl _ | refine Sp.cons (by repeat constructor) ?_)) ?_
  rintro ⟨i, v⟩ ⟨hi, hbd⟩ K hK
  simp only at hi hbd
  dsimp only
  refine q_fact (fun w hs => hs.slice2 (v := y1) (by repeat first | exact .head _ | refine .tail _ ?_)) ?_
  rintro ⟨s1, d1, rfl⟩
  refine q_fact (fun w hs => hs.slice2 (v := y2) (by repeat first | exact .head _ | refine .tail _ ?_)) ?_
  rintro ⟨s2, d2, rfl⟩
  ((iterate 2 refine q_seq ?_); refine q_region ?_; (iterate 4 refine ql_pure tabOk rfl rfl ?_); refine q_nil ?_)
  refine q_if rfl (fun hc => ?_) (fun hc => ?_)
  · have hi2 : i < n := by omega
    clear hc
    obtain ⟨g1, f1, rfl⟩ := hs1 (by omega)
    obtain ⟨g3, f3, rfl⟩ := hs3 (by omega)
    refine q_fact (fun w hs => hs.ownSome (v := .slice s1 n d1) (by repeat first | exact .head _ | refine .tail _ ?_) (by omega)) ?_
    rintro ⟨h1, e1, he⟩
    cases he
    refine q_fact (fun w hs => hs.ownSome (v := .slice s2 n d2) (by repeat first | exact .head _ | refine .tail _ ?_) (by omega)) ?_
    rintro ⟨h2, e2, he⟩
    cases he
    refine q_fact (fun w hs => hs.ownSome (v := v) (by repeat first | exact .head _ | refine .tail _ ?_) (by omega)) ?_
    rintro ⟨gv, cv, rfl⟩
    have y1 : i < t.need.length := by omega
    have y2 : i < t.make.length := by omega
    have y3 : i < t.loss.length := by omega
    have z1 := ht.need0 _ (List.getElem_mem y1)
    have z2 := ht.make0 _ (List.getElem_mem y2)
    have z3 := ht.loss0 _ (List.getElem_mem y3)
    have hq := hnn i (by omega)
    have m1 : i < S.stocks.length := by omega
    have m2 : i < S.made.length := by omega
    have em1 : S.stocks[i] = sq x t (i + 1) := by simp [eS]
    have em2 : S.made[i] = madeOf x.store (sq x t i) t.make[i] t.loss[i] := by simp [eM, List.getD_eq_getElem?_getD, y2, y3]
    have hmk : 0 ≤ madeOf x.store (sq x t i) t.make[i] t.loss[i] ∧ madeOf x.store (sq x t i) t.make[i] t.loss[i] ≤ 2000000 := by unfold madeOf lossOf; omega
    have hlen0 := rpP_length x t i
    have eR : rpP x t (i + 1) = rremP t.need[i] (rremP (min (sq x t i) t.loss[i]) (rpP x t i) ++ [madeOf x.store (sq x t i) t.make[i] t.loss[i]]) := by
      simp only [rpP, lossOf, getD_at y1, getD_at y2, getD_at y3]
    rw [← em2] at eR hmk
    generalize rpP x t i = L0 at *
    generalize sq x t i = sk at *
    clear hnn eM
    (refine q_skip ?_; refine q_seq ?_; refine q_block ?_; refine q_seq ?_; refine q_region ?_; (iterate 2 refine ql_pure tabOk rfl rfl ?_))
    (refine ql_index tabOk rfl rfl rfl rfl rfl (by omega) (by omega) ?_; refine ql_load1 tabOk rfl rfl rfl (fun w hs => RdI.at (RdE.keep r3 hs.chg0) i y3) ?_)
    (refine ql_pure tabOk rfl rfl ?_; refine q_nil ?_; (iterate 2 refine q_seq ?_); refine q_region ?_; (iterate 3 refine ql_pure tabOk rfl rfl ?_); refine q_nil ?_)
    refine q_if rfl (fun hc => ?_) (fun hc => ?_)
    · (refine q_region ?_; (iterate 2 refine ql_pure tabOk rfl rfl ?_); refine q_nil ?_; (iterate 2 refine q_seq ?_); refine q_region ?_; refine ql_pure tabOk rfl rfl ?_; refine q_nil ?_; refine q_block ?_)
      refine q_loop (σ := Nat × Int × List Int) (fun s => TkI (sk) (L0) s.1 s.2.1 s.2.2) (fun s => (L0).length - s.1) (fun s => [(1, .slice (some ⟨g1, f1, none⟩) t.need.length c1), (3, .slice (some ⟨g3, f3, none⟩) t.loss.length c3), (9, .slice (some ⟨h1, 0, none⟩) n d1), (10, .slice (some ⟨h2, 0, none⟩) n d2), (12, .slice (some ⟨gv, 0, none⟩) (i + 1) cv), (14, .int .i64 i), (15, .int .i64 s.2.1), (16, .int .i64 s.1)])
        (fun s => [.ow (.slice (some ⟨gv, 0, none⟩) (i + 1) cv) 3 1 (i + 1) (ints s.2.2), .ow (.slice (some ⟨h1, 0, none⟩) n d1) 3 1 n (ints S.stocks), .ow (.slice (some ⟨h2, 0, none⟩) n d2) 3 1 n (ints S.made), .pt b4 (wnC x a c) 93]) (0, sk, L0) (TkI.zero (by omega) hbd) ⟨rfl, rfl, rfl, rfl, rfl, rfl, rfl, rfl, trivial⟩ (by repeat (first | exact Sp.nil | exact Sp.refl _ | refine Sp.cons (by repeat constructor) ?_)) ?_
      rintro ⟨ka, ma, oa⟩ hI Ka hKa
      simp only at hI
      dsimp only
      have hla := hI.len
      have hma := hI.mb
      by_cases hkk : ka < oa.length
      · by_cases hmm : ma > 0
        · have hba := hI.nn _ (List.getElem_mem hkk)
          ((iterate 2 refine q_seq ?_); refine q_region ?_; (iterate 3 refine ql_pure tabOk rfl rfl ?_); refine ql_lssT tabOk rfl rfl rfl (by omega) ?_; refine ql_pure tabOk rfl rfl ?_; refine ql_gyes rfl ?_; refine ql_pure tabOk rfl rfl ?_; refine ql_gyes rfl ?_; refine ql_gtrT tabOk rfl rfl rfl (by omega) ?_; refine ql_pure tabOk rfl rfl ?_; refine q_nil ?_; refine q_cond_true rfl ?_; refine q_skip ?_; refine q_seq ?_; refine q_block ?_; refine q_seq ?_; refine q_region ?_; (iterate 2 refine ql_pure tabOk rfl rfl ?_))
          (refine ql_index tabOk rfl rfl rfl rfl rfl (by omega) (by omega) ?_; refine ql_load1 tabOk rfl rfl rfl (fun w hs => RdI.at (hs.rdI (l := oa) (t := 3) (n := (i + 1)) (by repeat first | exact .head _ | refine .tail _ ?_) (by omega)) ka hkk) ?_)
          (refine ql_pure tabOk rfl rfl ?_; refine q_nil ?_; (iterate 2 refine q_seq ?_); refine q_region ?_; (iterate 3 refine ql_pure tabOk rfl rfl ?_); refine q_nil ?_)
          refine q_if rfl (fun hc => ?_) (fun hc => ?_)
          · have hst := hI.step hkk hmm (n := ma) (by omega)
            (refine q_region ?_; (iterate 2 refine ql_pure tabOk rfl rfl ?_); refine q_nil ?_; refine q_seq ?_; refine q_region ?_; (iterate 4 refine ql_pure tabOk rfl rfl ?_))
            refine ql_index tabOk rfl rfl rfl rfl rfl (by omega) (by omega) ?_
            refine ql_load1 tabOk rfl rfl rfl (fun w hs => RdI.at (hs.rdI (l := oa) (t := 3) (n := (i + 1)) (by repeat first | exact .head _ | refine .tail _ ?_) (by omega)) ka hkk) ?_
            (refine ql_pure tabOk rfl rfl ?_; refine ql_ar tabOk rfl rfl rfl rfl (by omega) (by omega) ?_)
            refine ql_index tabOk rfl rfl rfl rfl rfl (by omega) (by omega) ?_
            refine ql_storeW tabOk ka rfl rfl rfl rfl (by repeat constructor) (by omega) (by simpa using hkk) ?_
            rw [set_ints]
            (refine q_nil ?_; refine q_region ?_; (iterate 2 refine ql_pure tabOk rfl rfl ?_); refine ql_ar tabOk rfl rfl rfl rfl (by omega) (by omega) ?_; refine ql_pure tabOk rfl rfl ?_; refine q_nil ?_; refine q_blk ?_; refine q_region ?_; refine ql_pure tabOk rfl rfl ?_; refine ql_ar tabOk rfl rfl rfl rfl (by omega) (by omega) ?_; refine ql_pure tabOk rfl rfl ?_; refine q_nil ?_)
            exact hKa (ka + 1, _, _) _ _ hst (by simp only; omega) ⟨rfl, rfl, rfl, rfl, rfl, rfl, rfl, rfl, trivial⟩ (by repeat (first | exact Sp.nil | exact Sp.refl _ | refine Sp.cons (by repeat constructor) ?_))
          · have hst := hI.step hkk hmm (n := oa[ka]) (by omega)
            (refine q_skip ?_; refine q_seq ?_; refine q_region ?_; (iterate 4 refine ql_pure tabOk rfl rfl ?_))
            refine ql_index tabOk rfl rfl rfl rfl rfl (by omega) (by omega) ?_
            refine ql_load1 tabOk rfl rfl rfl (fun w hs => RdI.at (hs.rdI (l := oa) (t := 3) (n := (i + 1)) (by repeat first | exact .head _ | refine .tail _ ?_) (by omega)) ka hkk) ?_
            (refine ql_pure tabOk rfl rfl ?_; refine ql_ar tabOk rfl rfl rfl rfl (by omega) (by omega) ?_)
            refine ql_index tabOk rfl rfl rfl rfl rfl (by omega) (by omega) ?_
            refine ql_storeW tabOk ka rfl rfl rfl rfl (by repeat constructor) (by omega) (by simpa using hkk) ?_
            rw [set_ints]
            (refine q_nil ?_; refine q_region ?_; (iterate 2 refine ql_pure tabOk rfl rfl ?_); refine ql_ar tabOk rfl rfl rfl rfl (by omega) (by omega) ?_; refine ql_pure tabOk rfl rfl ?_; refine q_nil ?_; refine q_blk ?_; refine q_region ?_; refine ql_pure tabOk rfl rfl ?_; refine ql_ar tabOk rfl rfl rfl rfl (by omega) (by omega) ?_; refine ql_pure tabOk rfl rfl ?_; refine q_nil ?_)
            exact hKa (ka + 1, _, _) _ _ hst (by simp only; omega) ⟨rfl, rfl, rfl, rfl, rfl, rfl, rfl, rfl, trivial⟩ (by repeat (first | exact Sp.nil | exact Sp.refl _ | refine Sp.cons (by repeat constructor) ?_))
        · have he := hI.done hmm
          have hb2 := hI.nn
          ((iterate 2 refine q_seq ?_); refine q_region ?_; (iterate 3 refine ql_pure tabOk rfl rfl ?_); refine ql_lssT tabOk rfl rfl rfl (by omega) ?_; refine ql_pure tabOk rfl rfl ?_; refine ql_gyes rfl ?_; refine ql_pure tabOk rfl rfl ?_; refine ql_gyes rfl ?_; refine ql_gtrF tabOk rfl rfl rfl (by omega) ?_; refine ql_pure tabOk rfl rfl ?_; refine q_nil ?_; refine q_cond_false rfl ?_; refine q_exit _ rfl ?_; refine q_seq ?_; refine q_region ?_; (iterate 3 refine ql_pure tabOk rfl rfl ?_))
          subst he
          have hbL : ∀ z ∈ rremP (sk) L0 ++ [S.made[i]], 0 ≤ z ∧ z ≤ 2000000 := fun z hz => by
            rcases List.mem_append.1 hz with hz | hz
            · exact hb2 z hz
            · obtain rfl := List.mem_singleton.1 hz
              exact hmk
          clear hKa hI hb2
          (refine ql_index tabOk rfl rfl rfl rfl rfl (by omega) (by omega) ?_; refine ql_load1 tabOk rfl rfl rfl (fun w hs => RdI.at (hs.rdI (l := S.made) (t := 3) (n := n) (by repeat first | exact .head _ | refine .tail _ ?_) (by omega)) i m2) ?_)
          skip
          refine ql_mkS 3 [.int .i64 S.made[i]] rfl (by kernel_rfl) rfl (fun c0 => ?_)
          refine ql_append (q := 1) slI rfl rfl rfl (fun v' => by repeat constructor) (fun w' hs => ⟨_, _, Blk.rd (hs.blk (b := c0) (by repeat first | exact .head _ | refine .tail _ ?_)) rfl 1⟩) (by simp [oneV]) (by omega) (by omega) (fun u0 => ?_)
          rw [show ints (rremP (sk) L0) ++ [.int .i64 S.made[i]] = ints (rremP (sk) L0 ++ [S.made[i]]) by simp [ints]]
          have hlL : (rremP (sk) L0 ++ [S.made[i]]).length = i + 1 + 1 := by simp; omega
          have eR2 : rpP x t (i + 1) = rremP t.need[i] (rremP (sk) L0 ++ [S.made[i]]) := by rw [eR]; congr 3; omega
          generalize rremP (sk) L0 ++ [S.made[i]] = LN at *
          refine ql_fact (fun w hs => hs.ownSome (v := u0) (by repeat first | exact .head _ | refine .tail _ ?_) (by omega)) ?_
          rintro ⟨gu, cu, rfl⟩
          (refine ql_pure tabOk rfl rfl ?_; refine q_nil ?_; refine q_seq ?_; refine q_region ?_; (iterate 2 refine ql_pure tabOk rfl rfl ?_))
          (refine ql_index tabOk rfl rfl rfl rfl rfl (by omega) (by omega) ?_; refine ql_load1 tabOk rfl rfl rfl (fun w hs => RdI.at (RdE.keep r1 hs.chg0) i y1) ?_)
          (refine ql_pure tabOk rfl rfl ?_; refine q_nil ?_; (iterate 2 refine q_seq ?_); refine q_region ?_; refine ql_pure tabOk rfl rfl ?_; refine q_nil ?_; refine q_block ?_)
          refine q_loop (σ := Nat × Int × List Int) (fun s => TkI (t.need[i]) (LN) s.1 s.2.1 s.2.2) (fun s => (LN).length - s.1) (fun s => [(9, .slice (some ⟨h1, 0, none⟩) n d1), (10, .slice (some ⟨h2, 0, none⟩) n d2), (1, .slice (some ⟨g1, f1, none⟩) t.need.length c1), (3, .slice (some ⟨g3, f3, none⟩) t.loss.length c3), (12, .slice (some ⟨gu, 0, none⟩) (i + 1 + 1) cu), (14, .int .i64 i), (18, .int .i64 s.2.1), (19, .int .i64 s.1)])
            (fun s => [.ow (.slice (some ⟨gu, 0, none⟩) (i + 1 + 1) cu) 3 1 (i + 1 + 1) (ints s.2.2), .ow (.slice (some ⟨h1, 0, none⟩) n d1) 3 1 n (ints S.stocks), .ow (.slice (some ⟨h2, 0, none⟩) n d2) 3 1 n (ints S.made), .pt b4 (wnC x a c) 93]) (0, t.need[i], LN) (TkI.zero (by omega) (hbL)) ⟨rfl, rfl, rfl, rfl, rfl, rfl, rfl, rfl, trivial⟩ (by repeat (first | exact Sp.nil | exact Sp.refl _ | refine Sp.cons (by repeat constructor) ?_)) ?_
          rintro ⟨kb, mb, ob⟩ hI Kb hKb
          simp only at hI
          dsimp only
          have hlb := hI.len
          have hmb := hI.mb
          by_cases hkk : kb < ob.length
          · by_cases hmm : mb > 0
            · have hbb := hI.nn _ (List.getElem_mem hkk)
              ((iterate 2 refine q_seq ?_); refine q_region ?_; (iterate 3 refine ql_pure tabOk rfl rfl ?_); refine ql_lssT tabOk rfl rfl rfl (by omega) ?_; refine ql_pure tabOk rfl rfl ?_; refine ql_gyes rfl ?_; refine ql_pure tabOk rfl rfl ?_; refine ql_gyes rfl ?_; refine ql_gtrT tabOk rfl rfl rfl (by omega) ?_; refine ql_pure tabOk rfl rfl ?_; refine q_nil ?_; refine q_cond_true rfl ?_; refine q_skip ?_; refine q_seq ?_; refine q_block ?_; refine q_seq ?_; refine q_region ?_; (iterate 2 refine ql_pure tabOk rfl rfl ?_))
              (refine ql_index tabOk rfl rfl rfl rfl rfl (by omega) (by omega) ?_; refine ql_load1 tabOk rfl rfl rfl (fun w hs => RdI.at (hs.rdI (l := ob) (t := 3) (n := (i + 1 + 1)) (by repeat first | exact .head _ | refine .tail _ ?_) (by omega)) kb hkk) ?_)
              (refine ql_pure tabOk rfl rfl ?_; refine q_nil ?_; (iterate 2 refine q_seq ?_); refine q_region ?_; (iterate 3 refine ql_pure tabOk rfl rfl ?_); refine q_nil ?_)
              refine q_if rfl (fun hc => ?_) (fun hc => ?_)
              · have hst := hI.step hkk hmm (n := mb) (by omega)
                (refine q_region ?_; (iterate 2 refine ql_pure tabOk rfl rfl ?_); refine q_nil ?_; refine q_seq ?_; refine q_region ?_; (iterate 4 refine ql_pure tabOk rfl rfl ?_))
                refine ql_index tabOk rfl rfl rfl rfl rfl (by omega) (by omega) ?_
                refine ql_load1 tabOk rfl rfl rfl (fun w hs => RdI.at (hs.rdI (l := ob) (t := 3) (n := (i + 1 + 1)) (by repeat first | exact .head _ | refine .tail _ ?_) (by omega)) kb hkk) ?_
                (refine ql_pure tabOk rfl rfl ?_; refine ql_ar tabOk rfl rfl rfl rfl (by omega) (by omega) ?_)
                refine ql_index tabOk rfl rfl rfl rfl rfl (by omega) (by omega) ?_
                refine ql_storeW tabOk kb rfl rfl rfl rfl (by repeat constructor) (by omega) (by simpa using hkk) ?_
                rw [set_ints]
                (refine q_nil ?_; refine q_region ?_; (iterate 2 refine ql_pure tabOk rfl rfl ?_); refine ql_ar tabOk rfl rfl rfl rfl (by omega) (by omega) ?_; refine ql_pure tabOk rfl rfl ?_; refine q_nil ?_; refine q_blk ?_; refine q_region ?_; refine ql_pure tabOk rfl rfl ?_; refine ql_ar tabOk rfl rfl rfl rfl (by omega) (by omega) ?_; refine ql_pure tabOk rfl rfl ?_; refine q_nil ?_)
                exact hKb (kb + 1, _, _) _ _ hst (by simp only; omega) ⟨rfl, rfl, rfl, rfl, rfl, rfl, rfl, rfl, trivial⟩ (by repeat (first | exact Sp.nil | exact Sp.refl _ | refine Sp.cons (by repeat constructor) ?_))
              · have hst := hI.step hkk hmm (n := ob[kb]) (by omega)
                (refine q_skip ?_; refine q_seq ?_; refine q_region ?_; (iterate 4 refine ql_pure tabOk rfl rfl ?_))
                refine ql_index tabOk rfl rfl rfl rfl rfl (by omega) (by omega) ?_
                refine ql_load1 tabOk rfl rfl rfl (fun w hs => RdI.at (hs.rdI (l := ob) (t := 3) (n := (i + 1 + 1)) (by repeat first | exact .head _ | refine .tail _ ?_) (by omega)) kb hkk) ?_
                (refine ql_pure tabOk rfl rfl ?_; refine ql_ar tabOk rfl rfl rfl rfl (by omega) (by omega) ?_)
                refine ql_index tabOk rfl rfl rfl rfl rfl (by omega) (by omega) ?_
                refine ql_storeW tabOk kb rfl rfl rfl rfl (by repeat constructor) (by omega) (by simpa using hkk) ?_
                rw [set_ints]
                (refine q_nil ?_; refine q_region ?_; (iterate 2 refine ql_pure tabOk rfl rfl ?_); refine ql_ar tabOk rfl rfl rfl rfl (by omega) (by omega) ?_; refine ql_pure tabOk rfl rfl ?_; refine q_nil ?_; refine q_blk ?_; refine q_region ?_; refine ql_pure tabOk rfl rfl ?_; refine ql_ar tabOk rfl rfl rfl rfl (by omega) (by omega) ?_; refine ql_pure tabOk rfl rfl ?_; refine q_nil ?_)
                exact hKb (kb + 1, _, _) _ _ hst (by simp only; omega) ⟨rfl, rfl, rfl, rfl, rfl, rfl, rfl, rfl, trivial⟩ (by repeat (first | exact Sp.nil | exact Sp.refl _ | refine Sp.cons (by repeat constructor) ?_))
            · have he := hI.done hmm
              have hb2 := hI.nn
              ((iterate 2 refine q_seq ?_); refine q_region ?_; (iterate 3 refine ql_pure tabOk rfl rfl ?_); refine ql_lssT tabOk rfl rfl rfl (by omega) ?_; refine ql_pure tabOk rfl rfl ?_; refine ql_gyes rfl ?_; refine ql_pure tabOk rfl rfl ?_; refine ql_gyes rfl ?_; refine ql_gtrF tabOk rfl rfl rfl (by omega) ?_; refine ql_pure tabOk rfl rfl ?_; refine q_nil ?_; refine q_cond_false rfl ?_; refine q_exit _ rfl ?_; refine q_region ?_; (iterate 2 refine ql_pure tabOk rfl rfl ?_))
              subst he
              (refine ql_index tabOk rfl rfl rfl rfl rfl (by omega) (by omega) ?_; refine ql_load1 tabOk rfl rfl rfl (fun w hs => RdI.at (hs.rdI (l := S.stocks) (t := 3) (n := n) (by repeat first | exact .head _ | refine .tail _ ?_) (by omega)) i m1) ?_)
              (refine ql_pure tabOk rfl rfl ?_; refine q_nil ?_; refine q_blk ?_; refine q_region ?_; refine ql_pure tabOk rfl rfl ?_; refine ql_ar tabOk rfl rfl rfl rfl (by omega) (by omega) ?_; refine ql_pure tabOk rfl rfl ?_; refine q_nil ?_)
              exact hK (i + 1, .slice (some ⟨gu, 0, none⟩) (i + 1 + 1) cu) _ _ ⟨by simp only; omega, by dsimp only; rw [eR2]; exact hb2⟩ (by simp only; omega) ⟨rfl, rfl, rfl, rfl, rfl, lookI rfl (by rw [em1]), rfl, trivial⟩ (by dsimp only; rw [eR2]; repeat (first | exact Sp.nil | exact Sp.refl _ | refine Sp.cons (by repeat constructor) ?_))
          · have he := hI.full hkk
            have hb2 := hI.nn
            ((iterate 2 refine q_seq ?_); refine q_region ?_; (iterate 3 refine ql_pure tabOk rfl rfl ?_); refine ql_lssF tabOk rfl rfl rfl (by omega) ?_; refine ql_pure tabOk rfl rfl ?_; (iterate 2 refine ql_gno rfl rfl rfl ?_); refine ql_pure tabOk rfl rfl ?_; refine q_nil ?_; refine q_cond_false rfl ?_; refine q_exit _ rfl ?_; refine q_region ?_; (iterate 2 refine ql_pure tabOk rfl rfl ?_))
            subst he
            (refine ql_index tabOk rfl rfl rfl rfl rfl (by omega) (by omega) ?_; refine ql_load1 tabOk rfl rfl rfl (fun w hs => RdI.at (hs.rdI (l := S.stocks) (t := 3) (n := n) (by repeat first | exact .head _ | refine .tail _ ?_) (by omega)) i m1) ?_)
            (refine ql_pure tabOk rfl rfl ?_; refine q_nil ?_; refine q_blk ?_; refine q_region ?_; refine ql_pure tabOk rfl rfl ?_; refine ql_ar tabOk rfl rfl rfl rfl (by omega) (by omega) ?_; refine ql_pure tabOk rfl rfl ?_; refine q_nil ?_)
            exact hK (i + 1, .slice (some ⟨gu, 0, none⟩) (i + 1 + 1) cu) _ _ ⟨by simp only; omega, by dsimp only; rw [eR2]; exact hb2⟩ (by simp only; omega) ⟨rfl, rfl, rfl, rfl, rfl, lookI rfl (by rw [em1]), rfl, trivial⟩ (by dsimp only; rw [eR2]; repeat (first | exact Sp.nil | exact Sp.refl _ | refine Sp.cons (by repeat constructor) ?_))
      · have he := hI.full hkk
        have hb2 := hI.nn
        ((iterate 2 refine q_seq ?_); refine q_region ?_; (iterate 3 refine ql_pure tabOk rfl rfl ?_); refine ql_lssF tabOk rfl rfl rfl (by omega) ?_; refine ql_pure tabOk rfl rfl ?_; (iterate 2 refine ql_gno rfl rfl rfl ?_); refine ql_pure tabOk rfl rfl ?_; refine q_nil ?_; refine q_cond_false rfl ?_; refine q_exit _ rfl ?_; refine q_seq ?_; refine q_region ?_; (iterate 3 refine ql_pure tabOk rfl rfl ?_))
        subst he
        have hbL : ∀ z ∈ rremP (sk) L0 ++ [S.made[i]], 0 ≤ z ∧ z ≤ 2000000 := fun z hz => by
          rcases List.mem_append.1 hz with hz | hz
          · exact hb2 z hz
          · obtain rfl := List.mem_singleton.1 hz
            exact hmk
        clear hKa hI hb2
        (refine ql_index tabOk rfl rfl rfl rfl rfl (by omega) (by omega) ?_; refine ql_load1 tabOk rfl rfl rfl (fun w hs => RdI.at (hs.rdI (l := S.made) (t := 3) (n := n) (by repeat first | exact .head _ | refine .tail _ ?_) (by omega)) i m2) ?_)
        skip
        refine ql_mkS 3 [.int .i64 S.made[i]] rfl (by kernel_rfl) rfl (fun c0 => ?_)
        refine ql_append (q := 1) slI rfl rfl rfl (fun v' => by repeat constructor) (fun w' hs => ⟨_, _, Blk.rd (hs.blk (b := c0) (by repeat first | exact .head _ | refine .tail _ ?_)) rfl 1⟩) (by simp [oneV]) (by omega) (by omega) (fun u0 => ?_)
        rw [show ints (rremP (sk) L0) ++ [.int .i64 S.made[i]] = ints (rremP (sk) L0 ++ [S.made[i]]) by simp [ints]]
        have hlL : (rremP (sk) L0 ++ [S.made[i]]).length = i + 1 + 1 := by simp; omega
        have eR2 : rpP x t (i + 1) = rremP t.need[i] (rremP (sk) L0 ++ [S.made[i]]) := by rw [eR]; congr 3; omega
        generalize rremP (sk) L0 ++ [S.made[i]] = LN at *
        refine ql_fact (fun w hs => hs.ownSome (v := u0) (by repeat first | exact .head _ | refine .tail _ ?_) (by omega)) ?_
        rintro ⟨gu, cu, rfl⟩
        (refine ql_pure tabOk rfl rfl ?_; refine q_nil ?_; refine q_seq ?_; refine q_region ?_; (iterate 2 refine ql_pure tabOk rfl rfl ?_))
        (refine ql_index tabOk rfl rfl rfl rfl rfl (by omega) (by omega) ?_; refine ql_load1 tabOk rfl rfl rfl (fun w hs => RdI.at (RdE.keep r1 hs.chg0) i y1) ?_)
        (refine ql_pure tabOk rfl rfl ?_; refine q_nil ?_; (iterate 2 refine q_seq ?_); refine q_region ?_; refine ql_pure tabOk rfl rfl ?_; refine q_nil ?_; refine q_block ?_)
        refine q_loop (σ := Nat × Int × List Int) (fun s => TkI (t.need[i]) (LN) s.1 s.2.1 s.2.2) (fun s => (LN).length - s.1) (fun s => [(9, .slice (some ⟨h1, 0, none⟩) n d1), (10, .slice (some ⟨h2, 0, none⟩) n d2), (1, .slice (some ⟨g1, f1, none⟩) t.need.length c1), (3, .slice (some ⟨g3, f3, none⟩) t.loss.length c3), (12, .slice (some ⟨gu, 0, none⟩) (i + 1 + 1) cu), (14, .int .i64 i), (18, .int .i64 s.2.1), (19, .int .i64 s.1)])
          (fun s => [.ow (.slice (some ⟨gu, 0, none⟩) (i + 1 + 1) cu) 3 1 (i + 1 + 1) (ints s.2.2), .ow (.slice (some ⟨h1, 0, none⟩) n d1) 3 1 n (ints S.stocks), .ow (.slice (some ⟨h2, 0, none⟩) n d2) 3 1 n (ints S.made), .pt b4 (wnC x a c) 93]) (0, t.need[i], LN) (TkI.zero (by omega) (hbL)) ⟨rfl, rfl, rfl, rfl, rfl, rfl, rfl, rfl, trivial⟩ (by repeat (first | exact Sp.nil | exact Sp.refl _ | refine Sp.cons (by repeat constructor) ?_)) ?_
        rintro ⟨kb, mb, ob⟩ hI Kb hKb
        simp only at hI
        dsimp only
        have hlb := hI.len
        have hmb := hI.mb
        by_cases hkk : kb < ob.length
        · by_cases hmm : mb > 0
          · have hbb := hI.nn _ (List.getElem_mem hkk)
            ((iterate 2 refine q_seq ?_); refine q_region ?_; (iterate 3 refine ql_pure tabOk rfl rfl ?_); refine ql_lssT tabOk rfl rfl rfl (by omega) ?_; refine ql_pure tabOk rfl rfl ?_; refine ql_gyes rfl ?_; refine ql_pure tabOk rfl rfl ?_; refine ql_gyes rfl ?_; refine ql_gtrT tabOk rfl rfl rfl (by omega) ?_; refine ql_pure tabOk rfl rfl ?_; refine q_nil ?_; refine q_cond_true rfl ?_; refine q_skip ?_; refine q_seq ?_; refine q_block ?_; refine q_seq ?_; refine q_region ?_; (iterate 2 refine ql_pure tabOk rfl rfl ?_))
            (refine ql_index tabOk rfl rfl rfl rfl rfl (by omega) (by omega) ?_; refine ql_load1 tabOk rfl rfl rfl (fun w hs => RdI.at (hs.rdI (l := ob) (t := 3) (n := (i + 1 + 1)) (by repeat first | exact .head _ | refine .tail _ ?_) (by omega)) kb hkk) ?_)
            (refine ql_pure tabOk rfl rfl ?_; refine q_nil ?_; (iterate 2 refine q_seq ?_); refine q_region ?_; (iterate 3 refine ql_pure tabOk rfl rfl ?_); refine q_nil ?_)
            refine q_if rfl (fun hc => ?_) (fun hc => ?_)
            · have hst := hI.step hkk hmm (n := mb) (by omega)
              (refine q_region ?_; (iterate 2 refine ql_pure tabOk rfl rfl ?_); refine q_nil ?_; refine q_seq ?_; refine q_region ?_; (iterate 4 refine ql_pure tabOk rfl rfl ?_))
              refine ql_index tabOk rfl rfl rfl rfl rfl (by omega) (by omega) ?_
              refine ql_load1 tabOk rfl rfl rfl (fun w hs => RdI.at (hs.rdI (l := ob) (t := 3) (n := (i + 1 + 1)) (by repeat first | exact .head _ | refine .tail _ ?_) (by omega)) kb hkk) ?_
              (refine ql_pure tabOk rfl rfl ?_; refine ql_ar tabOk rfl rfl rfl rfl (by omega) (by omega) ?_)
              refine ql_index tabOk rfl rfl rfl rfl rfl (by omega) (by omega) ?_
              refine ql_storeW tabOk kb rfl rfl rfl rfl (by repeat constructor) (by omega) (by simpa using hkk) ?_
              rw [set_ints]
              (refine q_nil ?_; refine q_region ?_; (iterate 2 refine ql_pure tabOk rfl rfl ?_); refine ql_ar tabOk rfl rfl rfl rfl (by omega) (by omega) ?_; refine ql_pure tabOk rfl rfl ?_; refine q_nil ?_; refine q_blk ?_; refine q_region ?_; refine ql_pure tabOk rfl rfl ?_; refine ql_ar tabOk rfl rfl rfl rfl (by omega) (by omega) ?_; refine ql_pure tabOk rfl rfl ?_; refine q_nil ?_)
              exact hKb (kb + 1, _, _) _ _ hst (by simp only; omega) ⟨rfl, rfl, rfl, rfl, rfl, rfl, rfl, rfl, trivial⟩ (by repeat (first | exact Sp.nil | exact Sp.refl _ | refine Sp.cons (by repeat constructor) ?_))
            · have hst := hI.step hkk hmm (n := ob[kb]) (by omega)
              (refine q_skip ?_; refine q_seq ?_; refine q_region ?_; (iterate 4 refine ql_pure tabOk rfl rfl ?_))
              refine ql_index tabOk rfl rfl rfl rfl rfl (by omega) (by omega) ?_
              refine ql_load1 tabOk rfl rfl rfl (fun w hs => RdI.at (hs.rdI (l := ob) (t := 3) (n := (i + 1 + 1)) (by repeat first | exact .head _ | refine .tail _ ?_) (by omega)) kb hkk) ?_
              (refine ql_pure tabOk rfl rfl ?_; refine ql_ar tabOk rfl rfl rfl rfl (by omega) (by omega) ?_)
              refine ql_index tabOk rfl rfl rfl rfl rfl (by omega) (by omega) ?_
              refine ql_storeW tabOk kb rfl rfl rfl rfl (by repeat constructor) (by omega) (by simpa using hkk) ?_
              rw [set_ints]
              (refine q_nil ?_; refine q_region ?_; (iterate 2 refine ql_pure tabOk rfl rfl ?_); refine ql_ar tabOk rfl rfl rfl rfl (by omega) (by omega) ?_; refine ql_pure tabOk rfl rfl ?_; refine q_nil ?_; refine q_blk ?_; refine q_region ?_; refine ql_pure tabOk rfl rfl ?_; refine ql_ar tabOk rfl rfl rfl rfl (by omega) (by omega) ?_; refine ql_pure tabOk rfl rfl ?_; refine q_nil ?_)
              exact hKb (kb + 1, _, _) _ _ hst (by simp only; omega) ⟨rfl, rfl, rfl, rfl, rfl, rfl, rfl, rfl, trivial⟩ (by repeat (first | exact Sp.nil | exact Sp.refl _ | refine Sp.cons (by repeat constructor) ?_))
          · have he := hI.done hmm
            have hb2 := hI.nn
            ((iterate 2 refine q_seq ?_); refine q_region ?_; (iterate 3 refine ql_pure tabOk rfl rfl ?_); refine ql_lssT tabOk rfl rfl rfl (by omega) ?_; refine ql_pure tabOk rfl rfl ?_; refine ql_gyes rfl ?_; refine ql_pure tabOk rfl rfl ?_; refine ql_gyes rfl ?_; refine ql_gtrF tabOk rfl rfl rfl (by omega) ?_; refine ql_pure tabOk rfl rfl ?_; refine q_nil ?_; refine q_cond_false rfl ?_; refine q_exit _ rfl ?_; refine q_region ?_; (iterate 2 refine ql_pure tabOk rfl rfl ?_))
            subst he
            (refine ql_index tabOk rfl rfl rfl rfl rfl (by omega) (by omega) ?_; refine ql_load1 tabOk rfl rfl rfl (fun w hs => RdI.at (hs.rdI (l := S.stocks) (t := 3) (n := n) (by repeat first | exact .head _ | refine .tail _ ?_) (by omega)) i m1) ?_)
            (refine ql_pure tabOk rfl rfl ?_; refine q_nil ?_; refine q_blk ?_; refine q_region ?_; refine ql_pure tabOk rfl rfl ?_; refine ql_ar tabOk rfl rfl rfl rfl (by omega) (by omega) ?_; refine ql_pure tabOk rfl rfl ?_; refine q_nil ?_)
            exact hK (i + 1, .slice (some ⟨gu, 0, none⟩) (i + 1 + 1) cu) _ _ ⟨by simp only; omega, by dsimp only; rw [eR2]; exact hb2⟩ (by simp only; omega) ⟨rfl, rfl, rfl, rfl, rfl, lookI rfl (by rw [em1]), rfl, trivial⟩ (by dsimp only; rw [eR2]; repeat (first | exact Sp.nil | exact Sp.refl _ | refine Sp.cons (by repeat constructor) ?_))
        · have he := hI.full hkk
          have hb2 := hI.nn
          ((iterate 2 refine q_seq ?_); refine q_region ?_; (iterate 3 refine ql_pure tabOk rfl rfl ?_); refine ql_lssF tabOk rfl rfl rfl (by omega) ?_; refine ql_pure tabOk rfl rfl ?_; (iterate 2 refine ql_gno rfl rfl rfl ?_); refine ql_pure tabOk rfl rfl ?_; refine q_nil ?_; refine q_cond_false rfl ?_; refine q_exit _ rfl ?_; refine q_region ?_; (iterate 2 refine ql_pure tabOk rfl rfl ?_))
          subst he
          (refine ql_index tabOk rfl rfl rfl rfl rfl (by omega) (by omega) ?_; refine ql_load1 tabOk rfl rfl rfl (fun w hs => RdI.at (hs.rdI (l := S.stocks) (t := 3) (n := n) (by repeat first | exact .head _ | refine .tail _ ?_) (by omega)) i m1) ?_)
          (refine ql_pure tabOk rfl rfl ?_; refine q_nil ?_; refine q_blk ?_; refine q_region ?_; refine ql_pure tabOk rfl rfl ?_; refine ql_ar tabOk rfl rfl rfl rfl (by omega) (by omega) ?_; refine ql_pure tabOk rfl rfl ?_; refine q_nil ?_)
          exact hK (i + 1, .slice (some ⟨gu, 0, none⟩) (i + 1 + 1) cu) _ _ ⟨by simp only; omega, by dsimp only; rw [eR2]; exact hb2⟩ (by simp only; omega) ⟨rfl, rfl, rfl, rfl, rfl, lookI rfl (by rw [em1]), rfl, trivial⟩ (by dsimp only; rw [eR2]; repeat (first | exact Sp.nil | exact Sp.refl _ | refine Sp.cons (by repeat constructor) ?_))
    · (refine q_skip ?_; (iterate 2 refine q_seq ?_); refine q_region ?_; refine ql_pure tabOk rfl rfl ?_; refine q_nil ?_; refine q_block ?_)
      refine q_loop (σ := Nat × Int × List Int) (fun s => TkI (t.loss[i]) (L0) s.1 s.2.1 s.2.2) (fun s => (L0).length - s.1) (fun s => [(1, .slice (some ⟨g1, f1, none⟩) t.need.length c1), (3, .slice (some ⟨g3, f3, none⟩) t.loss.length c3), (9, .slice (some ⟨h1, 0, none⟩) n d1), (10, .slice (some ⟨h2, 0, none⟩) n d2), (12, .slice (some ⟨gv, 0, none⟩) (i + 1) cv), (14, .int .i64 i), (15, .int .i64 s.2.1), (16, .int .i64 s.1)])
        (fun s => [.ow (.slice (some ⟨gv, 0, none⟩) (i + 1) cv) 3 1 (i + 1) (ints s.2.2), .ow (.slice (some ⟨h1, 0, none⟩) n d1) 3 1 n (ints S.stocks), .ow (.slice (some ⟨h2, 0, none⟩) n d2) 3 1 n (ints S.made), .pt b4 (wnC x a c) 93]) (0, t.loss[i], L0) (TkI.zero (by omega) hbd) ⟨rfl, rfl, rfl, rfl, rfl, rfl, rfl, rfl, trivial⟩ (by repeat (first | exact Sp.nil | exact Sp.refl _ | refine Sp.cons (by repeat constructor) ?_)) ?_
      rintro ⟨ka, ma, oa⟩ hI Ka hKa
      simp only at hI
      dsimp only
      have hla := hI.len
      have hma := hI.mb
      by_cases hkk : ka < oa.length
      · by_cases hmm : ma > 0
        · have hba := hI.nn _ (List.getElem_mem hkk)
          ((iterate 2 refine q_seq ?_); refine q_region ?_; (iterate 3 refine ql_pure tabOk rfl rfl ?_); refine ql_lssT tabOk rfl rfl rfl (by omega) ?_; refine ql_pure tabOk rfl rfl ?_; refine ql_gyes rfl ?_; refine ql_pure tabOk rfl rfl ?_; refine ql_gyes rfl ?_; refine ql_gtrT tabOk rfl rfl rfl (by omega) ?_; refine ql_pure tabOk rfl rfl ?_; refine q_nil ?_; refine q_cond_true rfl ?_; refine q_skip ?_; refine q_seq ?_; refine q_block ?_; refine q_seq ?_; refine q_region ?_; (iterate 2 refine ql_pure tabOk rfl rfl ?_))
          (refine ql_index tabOk rfl rfl rfl rfl rfl (by omega) (by omega) ?_; refine ql_load1 tabOk rfl rfl rfl (fun w hs => RdI.at (hs.rdI (l := oa) (t := 3) (n := (i + 1)) (by repeat first | exact .head _ | refine .tail _ ?_) (by omega)) ka hkk) ?_)
          (refine ql_pure tabOk rfl rfl ?_; refine q_nil ?_; (iterate 2 refine q_seq ?_); refine q_region ?_; (iterate 3 refine ql_pure tabOk rfl rfl ?_); refine q_nil ?_)
          refine q_if rfl (fun hc => ?_) (fun hc => ?_)
          · have hst := hI.step hkk hmm (n := ma) (by omega)
            (refine q_region ?_; (iterate 2 refine ql_pure tabOk rfl rfl ?_); refine q_nil ?_; refine q_seq ?_; refine q_region ?_; (iterate 4 refine ql_pure tabOk rfl rfl ?_))
            refine ql_index tabOk rfl rfl rfl rfl rfl (by omega) (by omega) ?_
            refine ql_load1 tabOk rfl rfl rfl (fun w hs => RdI.at (hs.rdI (l := oa) (t := 3) (n := (i + 1)) (by repeat first | exact .head _ | refine .tail _ ?_) (by omega)) ka hkk) ?_
            (refine ql_pure tabOk rfl rfl ?_; refine ql_ar tabOk rfl rfl rfl rfl (by omega) (by omega) ?_)
            refine ql_index tabOk rfl rfl rfl rfl rfl (by omega) (by omega) ?_
            refine ql_storeW tabOk ka rfl rfl rfl rfl (by repeat constructor) (by omega) (by simpa using hkk) ?_
            rw [set_ints]
            (refine q_nil ?_; refine q_region ?_; (iterate 2 refine ql_pure tabOk rfl rfl ?_); refine ql_ar tabOk rfl rfl rfl rfl (by omega) (by omega) ?_; refine ql_pure tabOk rfl rfl ?_; refine q_nil ?_; refine q_blk ?_; refine q_region ?_; refine ql_pure tabOk rfl rfl ?_; refine ql_ar tabOk rfl rfl rfl rfl (by omega) (by omega) ?_; refine ql_pure tabOk rfl rfl ?_; refine q_nil ?_)
            exact hKa (ka + 1, _, _) _ _ hst (by simp only; omega) ⟨rfl, rfl, rfl, rfl, rfl, rfl, rfl, rfl, trivial⟩ (by repeat (first | exact Sp.nil | exact Sp.refl _ | refine Sp.cons (by repeat constructor) ?_))
          · have hst := hI.step hkk hmm (n := oa[ka]) (by omega)
            (refine q_skip ?_; refine q_seq ?_; refine q_region ?_; (iterate 4 refine ql_pure tabOk rfl rfl ?_))
            refine ql_index tabOk rfl rfl rfl rfl rfl (by omega) (by omega) ?_
            refine ql_load1 tabOk rfl rfl rfl (fun w hs => RdI.at (hs.rdI (l := oa) (t := 3) (n := (i + 1)) (by repeat first | exact .head _ | refine .tail _ ?_) (by omega)) ka hkk) ?_
            (refine ql_pure tabOk rfl rfl ?_; refine ql_ar tabOk rfl rfl rfl rfl (by omega) (by omega) ?_)
            refine ql_index tabOk rfl rfl rfl rfl rfl (by omega) (by omega) ?_
            refine ql_storeW tabOk ka rfl rfl rfl rfl (by repeat constructor) (by omega) (by simpa using hkk) ?_
            rw [set_ints]
            (refine q_nil ?_; refine q_region ?_; (iterate 2 refine ql_pure tabOk rfl rfl ?_); refine ql_ar tabOk rfl rfl rfl rfl (by omega) (by omega) ?_; refine ql_pure tabOk rfl rfl ?_; refine q_nil ?_; refine q_blk ?_; refine q_region ?_; refine ql_pure tabOk rfl rfl ?_; refine ql_ar tabOk rfl rfl rfl rfl (by omega) (by omega) ?_; refine ql_pure tabOk rfl rfl ?_; refine q_nil ?_)
            exact hKa (ka + 1, _, _) _ _ hst (by simp only; omega) ⟨rfl, rfl, rfl, rfl, rfl, rfl, rfl, rfl, trivial⟩ (by repeat (first | exact Sp.nil | exact Sp.refl _ | refine Sp.cons (by repeat constructor) ?_))
        · have he := hI.done hmm
          have hb2 := hI.nn
          ((iterate 2 refine q_seq ?_); refine q_region ?_; (iterate 3 refine ql_pure tabOk rfl rfl ?_); refine ql_lssT tabOk rfl rfl rfl (by omega) ?_; refine ql_pure tabOk rfl rfl ?_; refine ql_gyes rfl ?_; refine ql_pure tabOk rfl rfl ?_; refine ql_gyes rfl ?_; refine ql_gtrF tabOk rfl rfl rfl (by omega) ?_; refine ql_pure tabOk rfl rfl ?_; refine q_nil ?_; refine q_cond_false rfl ?_; refine q_exit _ rfl ?_; refine q_seq ?_; refine q_region ?_; (iterate 3 refine ql_pure tabOk rfl rfl ?_))
          subst he
          have hbL : ∀ z ∈ rremP (t.loss[i]) L0 ++ [S.made[i]], 0 ≤ z ∧ z ≤ 2000000 := fun z hz => by
            rcases List.mem_append.1 hz with hz | hz
            · exact hb2 z hz
            · obtain rfl := List.mem_singleton.1 hz
              exact hmk
          clear hKa hI hb2
          (refine ql_index tabOk rfl rfl rfl rfl rfl (by omega) (by omega) ?_; refine ql_load1 tabOk rfl rfl rfl (fun w hs => RdI.at (hs.rdI (l := S.made) (t := 3) (n := n) (by repeat first | exact .head _ | refine .tail _ ?_) (by omega)) i m2) ?_)
          skip
          refine ql_mkS 3 [.int .i64 S.made[i]] rfl (by kernel_rfl) rfl (fun c0 => ?_)
          refine ql_append (q := 1) slI rfl rfl rfl (fun v' => by repeat constructor) (fun w' hs => ⟨_, _, Blk.rd (hs.blk (b := c0) (by repeat first | exact .head _ | refine .tail _ ?_)) rfl 1⟩) (by simp [oneV]) (by omega) (by omega) (fun u0 => ?_)
          rw [show ints (rremP (t.loss[i]) L0) ++ [.int .i64 S.made[i]] = ints (rremP (t.loss[i]) L0 ++ [S.made[i]]) by simp [ints]]
          have hlL : (rremP (t.loss[i]) L0 ++ [S.made[i]]).length = i + 1 + 1 := by simp; omega
          have eR2 : rpP x t (i + 1) = rremP t.need[i] (rremP (t.loss[i]) L0 ++ [S.made[i]]) := by rw [eR]; congr 3; omega
          generalize rremP (t.loss[i]) L0 ++ [S.made[i]] = LN at *
          refine ql_fact (fun w hs => hs.ownSome (v := u0) (by repeat first | exact .head _ | refine .tail _ ?_) (by omega)) ?_
          rintro ⟨gu, cu, rfl⟩
          (refine ql_pure tabOk rfl rfl ?_; refine q_nil ?_; refine q_seq ?_; refine q_region ?_; (iterate 2 refine ql_pure tabOk rfl rfl ?_))
          (refine ql_index tabOk rfl rfl rfl rfl rfl (by omega) (by omega) ?_; refine ql_load1 tabOk rfl rfl rfl (fun w hs => RdI.at (RdE.keep r1 hs.chg0) i y1) ?_)
          (refine ql_pure tabOk rfl rfl ?_; refine q_nil ?_; (iterate 2 refine q_seq ?_); refine q_region ?_; refine ql_pure tabOk rfl rfl ?_; refine q_nil ?_; refine q_block ?_)
          refine q_loop (σ := Nat × Int × List Int) (fun s => TkI (t.need[i]) (LN) s.1 s.2.1 s.2.2) (fun s => (LN).length - s.1) (fun s => [(9, .slice (some ⟨h1, 0, none⟩) n d1), (10, .slice (some ⟨h2, 0, none⟩) n d2), (1, .slice (some ⟨g1, f1, none⟩) t.need.length c1), (3, .slice (some ⟨g3, f3, none⟩) t.loss.length c3), (12, .slice (some ⟨gu, 0, none⟩) (i + 1 + 1) cu), (14, .int .i64 i), (18, .int .i64 s.2.1), (19, .int .i64 s.1)])
            (fun s => [.ow (.slice (some ⟨gu, 0, none⟩) (i + 1 + 1) cu) 3 1 (i + 1 + 1) (ints s.2.2), .ow (.slice (some ⟨h1, 0, none⟩) n d1) 3 1 n (ints S.stocks), .ow (.slice (some ⟨h2, 0, none⟩) n d2) 3 1 n (ints S.made), .pt b4 (wnC x a c) 93]) (0, t.need[i], LN) (TkI.zero (by omega) (hbL)) ⟨rfl, rfl, rfl, rfl, rfl, rfl, rfl, rfl, trivial⟩ (by repeat (first | exact Sp.nil | exact Sp.refl _ | refine Sp.cons (by repeat constructor) ?_)) ?_
          rintro ⟨kb, mb, ob⟩ hI Kb hKb
          simp only at hI
          dsimp only
          have hlb := hI.len
          have hmb := hI.mb
          by_cases hkk : kb < ob.length
          · by_cases hmm : mb > 0
            · have hbb := hI.nn _ (List.getElem_mem hkk)
              ((iterate 2 refine q_seq ?_); refine q_region ?_; (iterate 3 refine ql_pure tabOk rfl rfl ?_); refine ql_lssT tabOk rfl rfl rfl (by omega) ?_; refine ql_pure tabOk rfl rfl ?_; refine ql_gyes rfl ?_; refine ql_pure tabOk rfl rfl ?_; refine ql_gyes rfl ?_; refine ql_gtrT tabOk rfl rfl rfl (by omega) ?_; refine ql_pure tabOk rfl rfl ?_; refine q_nil ?_; refine q_cond_true rfl ?_; refine q_skip ?_; refine q_seq ?_; refine q_block ?_; refine q_seq ?_; refine q_region ?_; (iterate 2 refine ql_pure tabOk rfl rfl ?_))
              (refine ql_index tabOk rfl rfl rfl rfl rfl (by omega) (by omega) ?_; refine ql_load1 tabOk rfl rfl rfl (fun w hs => RdI.at (hs.rdI (l := ob) (t := 3) (n := (i + 1 + 1)) (by repeat first | exact .head _ | refine .tail _ ?_) (by omega)) kb hkk) ?_)
              (refine ql_pure tabOk rfl rfl ?_; refine q_nil ?_; (iterate 2 refine q_seq ?_); refine q_region ?_; (iterate 3 refine ql_pure tabOk rfl rfl ?_); refine q_nil ?_)
              refine q_if rfl (fun hc => ?_) (fun hc => ?_)
              · have hst := hI.step hkk hmm (n := mb) (by omega)
                (refine q_region ?_; (iterate 2 refine ql_pure tabOk rfl rfl ?_); refine q_nil ?_; refine q_seq ?_; refine q_region ?_; (iterate 4 refine ql_pure tabOk rfl rfl ?_))
                refine ql_index tabOk rfl rfl rfl rfl rfl (by omega) (by omega) ?_
                refine ql_load1 tabOk rfl rfl rfl (fun w hs => RdI.at (hs.rdI (l := ob) (t := 3) (n := (i + 1 + 1)) (by repeat first | exact .head _ | refine .tail _ ?_) (by omega)) kb hkk) ?_
                (refine ql_pure tabOk rfl rfl ?_; refine ql_ar tabOk rfl rfl rfl rfl (by omega) (by omega) ?_)
                refine ql_index tabOk rfl rfl rfl rfl rfl (by omega) (by omega) ?_
                refine ql_storeW tabOk kb rfl rfl rfl rfl (by repeat constructor) (by omega) (by simpa using hkk) ?_
                rw [set_ints]
                (refine q_nil ?_; refine q_region ?_; (iterate 2 refine ql_pure tabOk rfl rfl ?_); refine ql_ar tabOk rfl rfl rfl rfl (by omega) (by omega) ?_; refine ql_pure tabOk rfl rfl ?_; refine q_nil ?_; refine q_blk ?_; refine q_region ?_; refine ql_pure tabOk rfl rfl ?_; refine ql_ar tabOk rfl rfl rfl rfl (by omega) (by omega) ?_; refine ql_pure tabOk rfl rfl ?_; refine q_nil ?_)
                exact hKb (kb + 1, _, _) _ _ hst (by simp only; omega) ⟨rfl, rfl, rfl, rfl, rfl, rfl, rfl, rfl, trivial⟩ (by repeat (first | exact Sp.nil | exact Sp.refl _ | refine Sp.cons (by repeat constructor) ?_))
              · have hst := hI.step hkk hmm (n := ob[kb]) (by omega)
                (refine q_skip ?_; refine q_seq ?_; refine q_region ?_; (iterate 4 refine ql_pure tabOk rfl rfl ?_))
                refine ql_index tabOk rfl rfl rfl rfl rfl (by omega) (by omega) ?_
                refine ql_load1 tabOk rfl rfl rfl (fun w hs => RdI.at (hs.rdI (l := ob) (t := 3) (n := (i + 1 + 1)) (by repeat first | exact .head _ | refine .tail _ ?_) (by omega)) kb hkk) ?_
                (refine ql_pure tabOk rfl rfl ?_; refine ql_ar tabOk rfl rfl rfl rfl (by omega) (by omega) ?_)
                refine ql_index tabOk rfl rfl rfl rfl rfl (by omega) (by omega) ?_
                refine ql_storeW tabOk kb rfl rfl rfl rfl (by repeat constructor) (by omega) (by simpa using hkk) ?_
                rw [set_ints]
                (refine q_nil ?_; refine q_region ?_; (iterate 2 refine ql_pure tabOk rfl rfl ?_); refine ql_ar tabOk rfl rfl rfl rfl (by omega) (by omega) ?_; refine ql_pure tabOk rfl rfl ?_; refine q_nil ?_; refine q_blk ?_; refine q_region ?_; refine ql_pure tabOk rfl rfl ?_; refine ql_ar tabOk rfl rfl rfl rfl (by omega) (by omega) ?_; refine ql_pure tabOk rfl rfl ?_; refine q_nil ?_)
                exact hKb (kb + 1, _, _) _ _ hst (by simp only; omega) ⟨rfl, rfl, rfl, rfl, rfl, rfl, rfl, rfl, trivial⟩ (by repeat (first | exact Sp.nil | exact Sp.refl _ | refine Sp.cons (by repeat constructor) ?_))
            · have he := hI.done hmm
              have hb2 := hI.nn
              ((iterate 2 refine q_seq ?_); refine q_region ?_; (iterate 3 refine ql_pure tabOk rfl rfl ?_); refine ql_lssT tabOk rfl rfl rfl (by omega) ?_; refine ql_pure tabOk rfl rfl ?_; refine ql_gyes rfl ?_; refine ql_pure tabOk rfl rfl ?_; refine ql_gyes rfl ?_; refine ql_gtrF tabOk rfl rfl rfl (by omega) ?_; refine ql_pure tabOk rfl rfl ?_; refine q_nil ?_; refine q_cond_false rfl ?_; refine q_exit _ rfl ?_; refine q_region ?_; (iterate 2 refine ql_pure tabOk rfl rfl ?_))
              subst he
              (refine ql_index tabOk rfl rfl rfl rfl rfl (by omega) (by omega) ?_; refine ql_load1 tabOk rfl rfl rfl (fun w hs => RdI.at (hs.rdI (l := S.stocks) (t := 3) (n := n) (by repeat first | exact .head _ | refine .tail _ ?_) (by omega)) i m1) ?_)
              (refine ql_pure tabOk rfl rfl ?_; refine q_nil ?_; refine q_blk ?_; refine q_region ?_; refine ql_pure tabOk rfl rfl ?_; refine ql_ar tabOk rfl rfl rfl rfl (by omega) (by omega) ?_; refine ql_pure tabOk rfl rfl ?_; refine q_nil ?_)
              exact hK (i + 1, .slice (some ⟨gu, 0, none⟩) (i + 1 + 1) cu) _ _ ⟨by simp only; omega, by dsimp only; rw [eR2]; exact hb2⟩ (by simp only; omega) ⟨rfl, rfl, rfl, rfl, rfl, lookI rfl (by rw [em1]), rfl, trivial⟩ (by dsimp only; rw [eR2]; repeat (first | exact Sp.nil | exact Sp.refl _ | refine Sp.cons (by repeat constructor) ?_))
          · have he := hI.full hkk
            have hb2 := hI.nn
            ((iterate 2 refine q_seq ?_); refine q_region ?_; (iterate 3 refine ql_pure tabOk rfl rfl ?_); refine ql_lssF tabOk rfl rfl rfl (by omega) ?_; refine ql_pure tabOk rfl rfl ?_; (iterate 2 refine ql_gno rfl rfl rfl ?_); refine ql_pure tabOk rfl rfl ?_; refine q_nil ?_; refine q_cond_false rfl ?_; refine q_exit _ rfl ?_; refine q_region ?_; (iterate 2 refine ql_pure tabOk rfl rfl ?_))
            subst he
            (refine ql_index tabOk rfl rfl rfl rfl rfl (by omega) (by omega) ?_; refine ql_load1 tabOk rfl rfl rfl (fun w hs => RdI.at (hs.rdI (l := S.stocks) (t := 3) (n := n) (by repeat first | exact .head _ | refine .tail _ ?_) (by omega)) i m1) ?_)
            (refine ql_pure tabOk rfl rfl ?_; refine q_nil ?_; refine q_blk ?_; refine q_region ?_; refine ql_pure tabOk rfl rfl ?_; refine ql_ar tabOk rfl rfl rfl rfl (by omega) (by omega) ?_; refine ql_pure tabOk rfl rfl ?_; refine q_nil ?_)
            exact hK (i + 1, .slice (some ⟨gu, 0, none⟩) (i + 1 + 1) cu) _ _ ⟨by simp only; omega, by dsimp only; rw [eR2]; exact hb2⟩ (by simp only; omega) ⟨rfl, rfl, rfl, rfl, rfl, lookI rfl (by rw [em1]), rfl, trivial⟩ (by dsimp only; rw [eR2]; repeat (first | exact Sp.nil | exact Sp.refl _ | refine Sp.cons (by repeat constructor) ?_))
      · have he := hI.full hkk
        have hb2 := hI.nn
        ((iterate 2 refine q_seq ?_); refine q_region ?_; (iterate 3 refine ql_pure tabOk rfl rfl ?_); refine ql_lssF tabOk rfl rfl rfl (by omega) ?_; refine ql_pure tabOk rfl rfl ?_; (iterate 2 refine ql_gno rfl rfl rfl ?_); refine ql_pure tabOk rfl rfl ?_; refine q_nil ?_; refine q_cond_false rfl ?_; refine q_exit _ rfl ?_; refine q_seq ?_; refine q_region ?_; (iterate 3 refine ql_pure tabOk rfl rfl ?_))
        subst he
        have hbL : ∀ z ∈ rremP (t.loss[i]) L0 ++ [S.made[i]], 0 ≤ z ∧ z ≤ 2000000 := fun z hz => by
          rcases List.mem_append.1 hz with hz | hz
          · exact hb2 z hz
          · obtain rfl := List.mem_singleton.1 hz
            exact hmk
        clear hKa hI hb2
        (refine ql_index tabOk rfl rfl rfl rfl rfl (by omega) (by omega) ?_; refine ql_load1 tabOk rfl rfl rfl (fun w hs => RdI.at (hs.rdI (l := S.made) (t := 3) (n := n) (by repeat first | exact .head _ | refine .tail _ ?_) (by omega)) i m2) ?_)
        skip
        refine ql_mkS 3 [.int .i64 S.made[i]] rfl (by kernel_rfl) rfl (fun c0 => ?_)
        refine ql_append (q := 1) slI rfl rfl rfl (fun v' => by repeat constructor) (fun w' hs => ⟨_, _, Blk.rd (hs.blk (b := c0) (by repeat first | exact .head _ | refine .tail _ ?_)) rfl 1⟩) (by simp [oneV]) (by omega) (by omega) (fun u0 => ?_)
        rw [show ints (rremP (t.loss[i]) L0) ++ [.int .i64 S.made[i]] = ints (rremP (t.loss[i]) L0 ++ [S.made[i]]) by simp [ints]]
        have hlL : (rremP (t.loss[i]) L0 ++ [S.made[i]]).length = i + 1 + 1 := by simp; omega
        have eR2 : rpP x t (i + 1) = rremP t.need[i] (rremP (t.loss[i]) L0 ++ [S.made[i]]) := by rw [eR]; congr 3; omega
        generalize rremP (t.loss[i]) L0 ++ [S.made[i]] = LN at *
        refine ql_fact (fun w hs => hs.ownSome (v := u0) (by repeat first | exact .head _ | refine .tail _ ?_) (by omega)) ?_
        rintro ⟨gu, cu, rfl⟩
        (refine ql_pure tabOk rfl rfl ?_; refine q_nil ?_; refine q_seq ?_; refine q_region ?_; (iterate 2 refine ql_pure tabOk rfl rfl ?_))
        (refine ql_index tabOk rfl rfl rfl rfl rfl (by omega) (by omega) ?_; refine ql_load1 tabOk rfl rfl rfl (fun w hs => RdI.at (RdE.keep r1 hs.chg0) i y1) ?_)
        (refine ql_pure tabOk rfl rfl ?_; refine q_nil ?_; (iterate 2 refine q_seq ?_); refine q_region ?_; refine ql_pure tabOk rfl rfl ?_; refine q_nil ?_; refine q_block ?_)
        refine q_loop (σ := Nat × Int × List Int) (fun s => TkI (t.need[i]) (LN) s.1 s.2.1 s.2.2) (fun s => (LN).length - s.1) (fun s => [(9, .slice (some ⟨h1, 0, none⟩) n d1), (10, .slice (some ⟨h2, 0, none⟩) n d2), (1, .slice (some ⟨g1, f1, none⟩) t.need.length c1), (3, .slice (some ⟨g3, f3, none⟩) t.loss.length c3), (12, .slice (some ⟨gu, 0, none⟩) (i + 1 + 1) cu), (14, .int .i64 i), (18, .int .i64 s.2.1), (19, .int .i64 s.1)])
          (fun s => [.ow (.slice (some ⟨gu, 0, none⟩) (i + 1 + 1) cu) 3 1 (i + 1 + 1) (ints s.2.2), .ow (.slice (some ⟨h1, 0, none⟩) n d1) 3 1 n (ints S.stocks), .ow (.slice (some ⟨h2, 0, none⟩) n d2) 3 1 n (ints S.made), .pt b4 (wnC x a c) 93]) (0, t.need[i], LN) (TkI.zero (by omega) (hbL)) ⟨rfl, rfl, rfl, rfl, rfl, rfl, rfl, rfl, trivial⟩ (by repeat (first | exact Sp.nil | exact Sp.refl _ | refine Sp.cons (by repeat constructor) ?_)) ?_
        rintro ⟨kb, mb, ob⟩ hI Kb hKb
        simp only at hI
        dsimp only
        have hlb := hI.len
        have hmb := hI.mb
        by_cases hkk : kb < ob.length
        · by_cases hmm : mb > 0
          · have hbb := hI.nn _ (List.getElem_mem hkk)
            ((iterate 2 refine q_seq ?_); refine q_region ?_; (iterate 3 refine ql_pure tabOk rfl rfl ?_); refine ql_lssT tabOk rfl rfl rfl (by omega) ?_; refine ql_pure tabOk rfl rfl ?_; refine ql_gyes rfl ?_; refine ql_pure tabOk rfl rfl ?_; refine ql_gyes rfl ?_; refine ql_gtrT tabOk rfl rfl rfl (by omega) ?_; refine ql_pure tabOk rfl rfl ?_; refine q_nil ?_; refine q_cond_true rfl ?_; refine q_skip ?_; refine q_seq ?_; refine q_block ?_; refine q_seq ?_; refine q_region ?_; (iterate 2 refine ql_pure tabOk rfl rfl ?_))
            (refine ql_index tabOk rfl rfl rfl rfl rfl (by omega) (by omega) ?_; refine ql_load1 tabOk rfl rfl rfl (fun w hs => RdI.at (hs.rdI (l := ob) (t := 3) (n := (i + 1 + 1)) (by repeat first | exact .head _ | refine .tail _ ?_) (by omega)) kb hkk) ?_)
            (refine ql_pure tabOk rfl rfl ?_; refine q_nil ?_; (iterate 2 refine q_seq ?_); refine q_region ?_; (iterate 3 refine ql_pure tabOk rfl rfl ?_); refine q_nil ?_)
            refine q_if rfl (fun hc => ?_) (fun hc => ?_)
            · have hst := hI.step hkk hmm (n := mb) (by omega)
              (refine q_region ?_; (iterate 2 refine ql_pure tabOk rfl rfl ?_); refine q_nil ?_; refine q_seq ?_; refine q_region ?_; (iterate 4 refine ql_pure tabOk rfl rfl ?_))
              refine ql_index tabOk rfl rfl rfl rfl rfl (by omega) (by omega) ?_
              refine ql_load1 tabOk rfl rfl rfl (fun w hs => RdI.at (hs.rdI (l := ob) (t := 3) (n := (i + 1 + 1)) (by repeat first | exact .head _ | refine .tail _ ?_) (by omega)) kb hkk) ?_
              (refine ql_pure tabOk rfl rfl ?_; refine ql_ar tabOk rfl rfl rfl rfl (by omega) (by omega) ?_)
              refine ql_index tabOk rfl rfl rfl rfl rfl (by omega) (by omega) ?_
              refine ql_storeW tabOk kb rfl rfl rfl rfl (by repeat constructor) (by omega) (by simpa using hkk) ?_
              rw [set_ints]
              (refine q_nil ?_; refine q_region ?_; (iterate 2 refine ql_pure tabOk rfl rfl ?_); refine ql_ar tabOk rfl rfl rfl rfl (by omega) (by omega) ?_; refine ql_pure tabOk rfl rfl ?_; refine q_nil ?_; refine q_blk ?_; refine q_region ?_; refine ql_pure tabOk rfl rfl ?_; refine ql_ar tabOk rfl rfl rfl rfl (by omega) (by omega) ?_; refine ql_pure tabOk rfl rfl ?_; refine q_nil ?_)
              exact hKb (kb + 1, _, _) _ _ hst (by simp only; omega) ⟨rfl, rfl, rfl, rfl, rfl, rfl, rfl, rfl, trivial⟩ (by repeat (first | exact Sp.nil | exact Sp.refl _ | refine Sp.cons (by repeat constructor) ?_))
            · have hst := hI.step hkk hmm (n := ob[kb]) (by omega)
              (refine q_skip ?_; refine q_seq ?_; refine q_region ?_; (iterate 4 refine ql_pure tabOk rfl rfl ?_))
              refine ql_index tabOk rfl rfl rfl rfl rfl (by omega) (by omega) ?_
              refine ql_load1 tabOk rfl rfl rfl (fun w hs => RdI.at (hs.rdI (l := ob) (t := 3) (n := (i + 1 + 1)) (by repeat first | exact .head _ | refine .tail _ ?_) (by omega)) kb hkk) ?_
              (refine ql_pure tabOk rfl rfl ?_; refine ql_ar tabOk rfl rfl rfl rfl (by omega) (by omega) ?_)
              refine ql_index tabOk rfl rfl rfl rfl rfl (by omega) (by omega) ?_
              refine ql_storeW tabOk kb rfl rfl rfl rfl (by repeat constructor) (by omega) (by simpa using hkk) ?_
              rw [set_ints]
              (refine q_nil ?_; refine q_region ?_; (iterate 2 refine ql_pure tabOk rfl rfl ?_); refine ql_ar tabOk rfl rfl rfl rfl (by omega) (by omega) ?_; refine ql_pure tabOk rfl rfl ?_; refine q_nil ?_; refine q_blk ?_; refine q_region ?_; refine ql_pure tabOk rfl rfl ?_; refine ql_ar tabOk rfl rfl rfl rfl (by omega) (by omega) ?_; refine ql_pure tabOk rfl rfl ?_; refine q_nil ?_)
              exact hKb (kb + 1, _, _) _ _ hst (by simp only; omega) ⟨rfl, rfl, rfl, rfl, rfl, rfl, rfl, rfl, trivial⟩ (by repeat (first | exact Sp.nil | exact Sp.refl _ | refine Sp.cons (by repeat constructor) ?_))
          · have he := hI.done hmm
            have hb2 := hI.nn
            ((iterate 2 refine q_seq ?_); refine q_region ?_; (iterate 3 refine ql_pure tabOk rfl rfl ?_); refine ql_lssT tabOk rfl rfl rfl (by omega) ?_; refine ql_pure tabOk rfl rfl ?_; refine ql_gyes rfl ?_; refine ql_pure tabOk rfl rfl ?_; refine ql_gyes rfl ?_; refine ql_gtrF tabOk rfl rfl rfl (by omega) ?_; refine ql_pure tabOk rfl rfl ?_; refine q_nil ?_; refine q_cond_false rfl ?_; refine q_exit _ rfl ?_; refine q_region ?_; (iterate 2 refine ql_pure tabOk rfl rfl ?_))
            subst he
            (refine ql_index tabOk rfl rfl rfl rfl rfl (by omega) (by omega) ?_; refine ql_load1 tabOk rfl rfl rfl (fun w hs => RdI.at (hs.rdI (l := S.stocks) (t := 3) (n := n) (by repeat first | exact .head _ | refine .tail _ ?_) (by omega)) i m1) ?_)
            (refine ql_pure tabOk rfl rfl ?_; refine q_nil ?_; refine q_blk ?_; refine q_region ?_; refine ql_pure tabOk rfl rfl ?_; refine ql_ar tabOk rfl rfl rfl rfl (by omega) (by omega) ?_; refine ql_pure tabOk rfl rfl ?_; refine q_nil ?_)
            exact hK (i + 1, .slice (some ⟨gu, 0, none⟩) (i + 1 + 1) cu) _ _ ⟨by simp only; omega, by dsimp only; rw [eR2]; exact hb2⟩ (by simp only; omega) ⟨rfl, rfl, rfl, rfl, rfl, lookI rfl (by rw [em1]), rfl, trivial⟩ (by dsimp only; rw [eR2]; repeat (first | exact Sp.nil | exact Sp.refl _ | refine Sp.cons (by repeat constructor) ?_))
        · have he := hI.full hkk
          have hb2 := hI.nn
          ((iterate 2 refine q_seq ?_); refine q_region ?_; (iterate 3 refine ql_pure tabOk rfl rfl ?_); refine ql_lssF tabOk rfl rfl rfl (by omega) ?_; refine ql_pure tabOk rfl rfl ?_; (iterate 2 refine ql_gno rfl rfl rfl ?_); refine ql_pure tabOk rfl rfl ?_; refine q_nil ?_; refine q_cond_false rfl ?_; refine q_exit _ rfl ?_; refine q_region ?_; (iterate 2 refine ql_pure tabOk rfl rfl ?_))
          subst he
          (refine ql_index tabOk rfl rfl rfl rfl rfl (by omega) (by omega) ?_; refine ql_load1 tabOk rfl rfl rfl (fun w hs => RdI.at (hs.rdI (l := S.stocks) (t := 3) (n := n) (by repeat first | exact .head _ | refine .tail _ ?_) (by omega)) i m1) ?_)
          (refine ql_pure tabOk rfl rfl ?_; refine q_nil ?_; refine q_blk ?_; refine q_region ?_; refine ql_pure tabOk rfl rfl ?_; refine ql_ar tabOk rfl rfl rfl rfl (by omega) (by omega) ?_; refine ql_pure tabOk rfl rfl ?_; refine q_nil ?_)
          exact hK (i + 1, .slice (some ⟨gu, 0, none⟩) (i + 1 + 1) cu) _ _ ⟨by simp only; omega, by dsimp only; rw [eR2]; exact hb2⟩ (by simp only; omega) ⟨rfl, rfl, rfl, rfl, rfl, lookI rfl (by rw [em1]), rfl, trivial⟩ (by dsimp only; rw [eR2]; repeat (first | exact Sp.nil | exact Sp.refl _ | refine Sp.cons (by repeat constructor) ?_))
  · obtain rfl : i = n := by omega
    clear hc hK
    (refine q_exit _ rfl ?_; refine q_seq ?_; refine q_region ?_; (iterate 2 refine ql_pure tabOk rfl rfl ?_); refine q_nil ?_; refine q_ret ?_)
    refine q_fin tabOk rfl (by repeat (first | exact RVs.nil | apply RVs.tmp rfl | apply RVs.cellA rfl rfl (by repeat first | exact .head _ | refine .tail _ ?_) (by rfl) | apply RVs.cell1 rfl rfl (by repeat first | exact .head _ | refine .tail _ ?_))) fun w hs => ?_
    exact ⟨v, rfl, hs.sp (by repeat (first | exact Sp.nil | exact Sp.refl _ | refine Sp.cons (by repeat constructor) ?_))⟩
end Go.Proofs.Ytgeajgmefokifaa

/- Walks of the reference: the first day that can fail; whether a winter is held. -/
namespace Go.Proofs.Ytgeajgmefokifaa
open Go Go.Eng

theorem wtN_R {w0 w : World} {M : Nat → Prop} {H : List Ck} {v1 v2 v3 : Value} {t : Wt} {n : Nat} (h : Sat w0 M H w) (e : t.Fine n) (m1 : .ow v1 3 1 n (ints t.need) ∈ H) (m2 : .ow v2 3 1 n (ints t.make) ∈ H) (m3 : .ow v3 3 1 n (ints t.loss) ∈ H) : WtR w t v1 v2 v3 :=
  wtK_R h (by rw [e.need]; exact m1) (by rw [e.make]; exact m2) (by rw [e.loss]; exact m3)
/-- Whether no day can fail. -/
def heldB (x : Wn) : Bool := decide ((firstV x).2 = 6) && true
end Go.Proofs.Ytgeajgmefokifaa

/- Walk of the reference: proofs. -/
namespace Go.Proofs.Ytgeajgmefokifaa
open Go Go.Eng

/-- What is left, day by day. -/
def lfK (x : Wn) (frm : Int) (i : Nat) : Int := if i ≤ frm.toNat then x.stock else phK x frm (i - 1 - frm.toNat) - (worstW x).need.getD (i - 1) 0
end Go.Proofs.Ytgeajgmefokifaa

/- Plain laws of winters: more stock, more room, more snow made, less need and less loss. -/
namespace Go.Proofs.Ytgeajgmefokifaa
open Go

structure RichD (d d' : Dy) : Prop where
  n : d'.n0 = d.n0 ∧ d.n0 ≤ d'.n1 ∧ d'.n1 ≤ d.n1
  m : d'.m1 = d.m1 ∧ d.m0 ≤ d'.m0 ∧ d'.m0 ≤ d.m1
  l : d'.l0 = d.l0 ∧ d.l0 ≤ d'.l1 ∧ d'.l1 ≤ d.l1
structure RichL (l l' : List Dy) : Prop where
  len : l'.length = l.length
  all : ∀ i (h : i < l.length) (h' : i < l'.length), RichD l[i] l'[i]
end Go.Proofs.Ytgeajgmefokifaa

/- Walks of the reference: the least stock and the least store. -/
namespace Go.Proofs.Ytgeajgmefokifaa
open Go Go.Eng

end Go.Proofs.Ytgeajgmefokifaa

/- Walk of the reference: the ranges of stocks. -/
namespace Go.Proofs.Ytgeajgmefokifaa
open Go Go.Eng

end Go.Proofs.Ytgeajgmefokifaa

/- The walk of CourseOpens. -/
namespace Go.Proofs.Ytgeajgmefokifaa
open Go Go.Eng

theorem sat_rdD {w0 w : World} {M : Nat → Prop} {H : List Ck} {v : Value} {t n : Nat} {l : List Dy} (hs : Sat w0 M H w) (hm : .ow v t 6 n (dyC l) ∈ H) (hn : n = l.length) : RdD w 0 w.heap.size v l := own_rdD (hs.mem hm) hn
theorem sat_rdS {w0 w : World} {M : Nat → Prop} {H : List Ck} {v : Value} {t n : Nat} {l : List (Int × Int)} (hs : Sat w0 M H w) (hm : .ow v t 2 n (spC l) ∈ H) (hn : n = l.length) : RdS w 0 w.heap.size v l := own_rdS (hs.mem hm) hn
end Go.Proofs.Ytgeajgmefokifaa
