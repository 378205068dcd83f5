/- My texts F48, F49, F50, LwJ, joined: a claim takes at most 60 files. -/
import Derived.Test.YtopdmadgkjdgcaaGreatJ4

/- Walks: whether some holds guard a span, in both packages; whether minutes are marks, in the reference. Written by gen_F48.py. -/
namespace Go.Proofs.YtopdmadgkjdgcaaGreat
set_option maxRecDepth 4000
open Go Go.Eng
def okC (L : List Hd) (C : List Int) : Bool := C.all fun i => inB i 0 ((L.length : Int) - 1)
def hC (L : List Hd) (C : List Int) : List Hd := C.map fun i => hdL L i.toNat
/-- What is told of holds that are handed in. -/
def GrdsR (L : List Hd) (a b : Int) (C : List Int) (y : Bool × Int) : Prop := (okC L C = false ∧ y = (false, 1)) ∨ (okC L C = true ∧ y.2 = 0 ∧ (y.1 = true ↔ Gd (hC L C) a b))
theorem grds_uniq {L : List Hd} {a b : Int} {C : List Int} {y z : Bool × Int} (h : GrdsR L a b C y) (g : GrdsR L a b C z) : y = z := by
  rcases h with ⟨h1, h2⟩ | ⟨h1, h2, h3⟩
  · rcases g with ⟨_, g2⟩ | ⟨g1, _⟩
    · rw [h2, g2]
    · rw [h1] at g1; cases g1
  · rcases g with ⟨g1, _⟩ | ⟨_, g2, g3⟩
    · rw [h1] at g1; cases g1
    · obtain ⟨y1, y2⟩ := y
      obtain ⟨z1, z2⟩ := z
      dsimp only at h2 h3 g2 g3
      subst h2 g2
      cases y1 <;> cases z1 <;> simp_all
theorem rGrd_no (w : World) (lo hi : Nat) (L : List Hd) (v cv : Value) (a b : Int) (h : RdH w lo hi v L) (hlen : L.length ≤ maxLen) (h0 : chkSp L a b ≠ 0) : Ca Tryz.prog 75 [v, .int .i64 a, .int .i64 b, cv] w fun x w' => x = .tuple #[.bool false, .int .i64 (chkSp L a b)] ∧ Chg [] w w' := by
  refine q_of (Sat.nil w M0) Tryz.func75 rfl (by simp [Tryz.ntmps75]) ?_
  (refine q_seq (q_region (ql_pure tabOk rfl rfl (ql_pure tabOk rfl rfl (q_nil (q_seq (q_seq (q_region ?_))))))); (iterate 3 refine ql_pure tabOk rfl rfl ?_))
  refine ql_callv (val := .int .i64 (chkSp L a b)) tabOk rfl rfl rfl rfl (fun w hs => ?_) ?_; exact rspan2_ca w lo hi L v a b (RdE.keep h hs.chg0) hlen
  (refine ql_pure tabOk rfl rfl (q_nil (q_seq (q_region (ql_pure tabOk rfl rfl (ql_neqT tabOk rfl rfl rfl (by omega) (q_nil (q_cond_true rfl (q_seq (q_region ?_))))))))); (iterate 3 refine ql_pure tabOk rfl rfl ?_); refine q_nil (q_ret ?_))
  refine q_fin tabOk rfl (by repeat constructor) fun w hs => ?_
  exact ⟨rfl, hs.chg0⟩
set_option maxHeartbeats 4000000 in
theorem rGrd_ok (w : World) (lo hi lo2 hi2 : Nat) (L : List Hd) (v mv : Value) (a b : Int) (C : List Int) (h : RdH w lo hi v L) (hM : RdI w lo2 hi2 mv C) (hC1 : C.length ≤ 1000) (h0 : SpOk L a b) : Ca Tryz.prog 75 [v, .int .i64 a, .int .i64 b, mv] w fun x w' => (∃ y : Bool × Int, x = .tuple #[.bool y.1, .int .i64 y.2] ∧ GrdsR L a b C y) ∧ Chg [] w w' := by
  have hb := h0.rb
  have hn1 := h0.g.n1
  have hn30 := h0.g.n30
  have hlen : L.length ≤ maxLen := by simp only [maxLen]; omega
  obtain ⟨va, vc, rfl, hsa⟩ := RdH.outI h
  obtain ⟨gb, go, rfl⟩ := hsa (by omega)
  obtain ⟨ma, mc, rfl, hsm⟩ := RdI.outI hM
  refine q_of (Sat.nil w M0) Tryz.func75 rfl (by simp [Tryz.ntmps75]) ?_
  (refine q_seq (q_region (ql_pure tabOk rfl rfl (ql_pure tabOk rfl rfl (q_nil (q_seq (q_seq (q_region ?_))))))); (iterate 3 refine ql_pure tabOk rfl rfl ?_))
  refine ql_callv (val := .int .i64 0) tabOk rfl rfl rfl rfl (fun w hs => ?_) ?_; exact by have := rspan2_ca w lo hi L _ a b (RdE.keep h hs.chg0) hlen; rw [chkSp_zero.2 h0] at this; exact this
  (refine ql_pure tabOk rfl rfl (q_nil (q_seq (q_region (ql_pure tabOk rfl rfl (ql_neqF tabOk rfl rfl rfl (by omega) (q_nil (q_cond_false rfl (q_skip (q_seq (q_region (ql_pure tabOk rfl rfl ?_))))))))))); refine q_nil (q_seq (q_seq (q_region (ql_pure tabOk rfl rfl (q_nil (q_block ?_)))))))
  refine q_conv (H' := [.ow (.slice none 0 0) 218 3 0 (hdC (hC L (C.take 0)))]) (fun w' hs => Sat.ownil hs 218 3) ?_
  refine q_loop (σ := Nat × Value) (fun ⟨k, u⟩ => k ≤ C.length ∧ okC L (C.take k) = true) (fun ⟨k, _⟩ => C.length - k) (fun ⟨k, u⟩ => [(0, .slice (some ⟨gb, go, none⟩) L.length vc), (1, .int .i64 a), (2, .int .i64 b), (3, .slice ma C.length mc), (11, u), (12, .int .i64 k)])
    (fun ⟨k, u⟩ => [.ow u 218 3 k (hdC (hC L (C.take k)))]) (0, .slice none 0 0) ⟨by omega, rfl⟩ ⟨rfl, rfl, rfl, rfl, rfl, rfl, trivial⟩ (by repeat constructor) ?_
  rintro ⟨k, u⟩ ⟨hk, hok⟩ K hK
  dsimp only at hk hok hK ⊢
  (refine q_seq (q_seq (q_region ?_)); (iterate 4 refine ql_pure tabOk rfl rfl ?_); refine q_nil ?_)
  refine q_if rfl (fun hc => ?_) (fun hc => ?_)
  · have hk2 : k < C.length := by omega
    clear hc
    obtain ⟨mb, mo, rfl⟩ := hsm (by omega)
    have hall := take_all (p := fun i => inB i 0 ((L.length : Int) - 1)) hk2 hok
    (refine q_skip (q_seq (q_block (q_seq (q_seq (q_region (ql_pure tabOk rfl rfl (ql_pure tabOk rfl rfl ?_))))))))
    refine ql_index tabOk rfl rfl rfl rfl rfl (by omega) (by omega) ?_
    skip
    refine ql_load1 (v := .int .i64 C[k]) tabOk rfl rfl rfl (fun w hs => RdI.at (RdE.keep hM hs.chg0) (k) hk2) ?_
    (refine ql_pure tabOk rfl rfl (ql_pure tabOk rfl rfl (ql_ar tabOk rfl rfl rfl rfl (by omega) (by omega) ?_)))
    refine ql_callv (val := .bool (!(inB C[k] 0 ((L.length : Int) - 1)))) tabOk rfl rfl rfl rfl (fun w hs => ?_) ?_; exact routs_ca C[k] 0 ((L.length : Int) - 1) w
    cases hin : inB C[k] 0 ((L.length : Int) - 1) with
    | false =>
      (refine q_nil (q_cond_true rfl (q_seq (q_region (ql_pure tabOk rfl rfl (ql_pure tabOk rfl rfl (q_nil (q_ret ?_))))))))
      refine q_fin tabOk rfl (by repeat constructor) fun w hs => ?_
      exact ⟨⟨(false, 1), rfl, .inl ⟨not_all (p := fun i => inB i 0 ((L.length : Int) - 1)) hk2 hin, rfl⟩⟩, hs.chg0⟩
    | true =>
      have hib := inB_iff.1 hin
      obtain ⟨i, hi'⟩ := Int.eq_ofNat_of_zero_le hib.1
      have hil : i < L.length := by omega
      (refine q_nil (q_cond_false rfl (q_skip (q_region ?_))); (iterate 4 refine ql_pure tabOk rfl rfl ?_))
      refine ql_index tabOk rfl rfl rfl rfl rfl (by omega) (by omega) ?_
      skip
      refine ql_load1 (v := .int .i64 C[k]) tabOk rfl rfl rfl (fun w hs => RdI.at (RdE.keep hM hs.chg0) (k) hk2) ?_
      rw [hi']
      skip
      refine ql_index tabOk rfl rfl rfl rfl rfl (by omega) (by omega) ?_
      refine ql_loadA (cs := [.int .i64 L[i].who, .int .i64 L[i].f, .int .i64 L[i].t]) tabOk rfl rfl rfl rfl (fun w hs q hq => RdH.at (RdE.keep h hs.chg0) i hil q hq) ?_
      skip
      refine ql_mkS 218 [.int .i64 L[i].who, .int .i64 L[i].f, .int .i64 L[i].t] rfl (by kernel_rfl) rfl (fun bn => ?_)
      skip
      refine ql_append (q := 1) (news := [.int .i64 L[i].who, .int .i64 L[i].f, .int .i64 L[i].t]) slRH rfl rfl rfl (fun v' => by repeat constructor) (fun w' hs => ⟨_, _, Blk.rdN (hs.blk (b := bn) (by repeat constructor)) rfl⟩) (by simp [oneV]) (by omega) (by omega) (fun u' => ?_)
      have e : hdC (hC L (C.take (k + 1))) = hdC (hC L (C.take k)) ++ [.int .i64 L[i].who, .int .i64 L[i].f, .int .i64 L[i].t] := by
        rw [List.take_succ_eq_append_getElem hk2, hC, List.map_append, List.map_singleton, hdC_snoc, hi', Int.toNat_natCast]
        have : hdL L i = L[i] := by unfold hdL; rw [List.getD_eq_getElem?_getD, List.getElem?_eq_getElem hil]; rfl
        rw [this]
        rfl
      rw [← e]
      (refine ql_pure tabOk rfl rfl (q_nil (q_blk (q_region (ql_pure tabOk rfl rfl (ql_ar tabOk rfl rfl rfl rfl (by omega) (by omega) (ql_pure tabOk rfl rfl (q_nil ?_))))))))
      exact hK (k + 1, u') _ _ ⟨by omega, hall hin⟩ (by dsimp only; omega) ⟨rfl, rfl, rfl, rfl, rfl, rfl, trivial⟩ (by repeat constructor)
  · obtain rfl : k = C.length := by omega
    clear hc hK
    rw [List.take_length] at hok ⊢
    have hcl : (hC L C).length = C.length := by simp [hC]
    (refine q_exit _ rfl (q_seq (q_region ?_)); (iterate 3 refine ql_pure tabOk rfl rfl ?_))
    refine ql_call (β := Int) (ψ := fun y v => v = .int .i64 y ∧ GpR (hC L C) a b y) (L' := fun _ => []) tabOk [] _ M0 rfl rfl rfl rfl (Sp.refl _) (fun _ h => h.elim) (fun w' hs => (rgap_ca w' 0 w'.heap.size (hC L C) u a b (own_rdH (hs.mem (c := .ow u 218 3 C.length (hdC (hC L C))) (by repeat constructor)) hcl.symm) (by rw [hcl]; simp only [maxLen]; omega) (by omega) h0.ra.1 (by omega)).mono fun x w2 ⟨⟨y, h1, h2⟩, h3⟩ => ⟨y, ⟨h1, h2⟩, (Sat.nil w' M0).keep h3⟩) ?_
    rintro y _ ⟨rfl, hy⟩
    dsimp only [List.cons_append, List.nil_append]
    by_cases hyb : y = b
    · subst hyb
      (refine ql_pure tabOk rfl rfl (ql_eqlT tabOk rfl rfl rfl (by omega) (ql_pure tabOk rfl rfl (ql_pure tabOk rfl rfl (q_nil (q_ret ?_))))))
      refine q_fin tabOk rfl (by repeat constructor) fun w hs => ?_
      exact ⟨⟨(true, 0), rfl, .inr ⟨hok, rfl, ⟨fun _ => Classical.byContradiction fun hn => absurd (hy.lt.2 hn) (Int.lt_irrefl _), fun _ => rfl⟩⟩⟩, hs.chg0⟩
    · (refine ql_pure tabOk rfl rfl (ql_eqlF tabOk rfl rfl rfl (by omega) (ql_pure tabOk rfl rfl (ql_pure tabOk rfl rfl (q_nil (q_ret ?_))))))
      refine q_fin tabOk rfl (by repeat constructor) fun w hs => ?_
      refine ⟨⟨(false, 0), rfl, .inr ⟨hok, rfl, ⟨(fun h => by cases h), fun hg => absurd hg (hy.lt.1 ?_)⟩⟩⟩, hs.chg0⟩
      rcases hy with ⟨h1, _⟩ | ⟨h1, _⟩
      · exact absurd h1 hyb
      · exact h1.2
theorem rMks_no (w : World) (lo hi : Nat) (L : List Hd) (v cv : Value) (a b : Int) (h : RdH w lo hi v L) (hlen : L.length ≤ maxLen) (h0 : chkSp L a b ≠ 0) : Ca Tryz.prog 77 [v, .int .i64 a, .int .i64 b, cv] w fun x w' => x = .tuple #[.bool false, .int .i64 (chkSp L a b)] ∧ Chg [] w w' := by
  refine q_of (Sat.nil w M0) Tryz.func77 rfl (by simp [Tryz.ntmps77]) ?_
  (refine q_seq (q_region (ql_pure tabOk rfl rfl (ql_pure tabOk rfl rfl (q_nil (q_seq (q_seq (q_region ?_))))))); (iterate 3 refine ql_pure tabOk rfl rfl ?_))
  refine ql_callv (val := .int .i64 (chkSp L a b)) tabOk rfl rfl rfl rfl (fun w hs => ?_) ?_; exact rspan2_ca w lo hi L v a b (RdE.keep h hs.chg0) hlen
  (refine ql_pure tabOk rfl rfl (q_nil (q_seq (q_region (ql_pure tabOk rfl rfl (ql_neqT tabOk rfl rfl rfl (by omega) (q_nil (q_cond_true rfl (q_seq (q_region ?_))))))))); (iterate 3 refine ql_pure tabOk rfl rfl ?_); refine q_nil (q_ret ?_))
  refine q_fin tabOk rfl (by repeat constructor) fun w hs => ?_
  exact ⟨rfl, hs.chg0⟩
/-- Minutes of the span, each later than the one before it, up to a place. -/
def IncK (a b : Int) (M : List Int) (k : Nat) : Prop := ∀ j (h : j < M.length), j < k → (a ≤ M[j] ∧ M[j] < b) ∧ (0 < j → M.getD (j - 1) 0 < M[j])
theorem inc_all {a b : Int} {M : List Int} (h : IncK a b M M.length) : (∀ m ∈ M, a ≤ m ∧ m < b) ∧ M.Pairwise (· < ·) := by
  refine ⟨fun m hm => ?_, ?_⟩
  · obtain ⟨i, hi, rfl⟩ := List.mem_iff_getElem.1 hm
    exact (h i hi hi).1
  · have h2 : ∀ d i (hi : i + d + 1 < M.length), M[i] < M[i + d + 1] := fun d => by
      induction d with
      | zero =>
        intro i hi
        have := (h (i + 1) hi hi).2 (by omega)
        rw [Nat.add_sub_cancel, getD_get (by omega)] at this
        exact this
      | succ d ih =>
        intro i hi
        have h3 := ih i (by omega)
        have h4 := (h (i + (d + 1) + 1) hi hi).2 (by omega)
        rw [Nat.add_sub_cancel, getD_get (by omega)] at h4
        exact Int.lt_trans h3 h4
    refine List.pairwise_iff_getElem.2 fun i j hi hj hij => ?_
    obtain ⟨d, rfl⟩ : ∃ d, j = i + d + 1 := ⟨j - i - 1, by omega⟩
    exact h2 d i hj
set_option maxHeartbeats 4000000 in
theorem rMks_ok (w : World) (lo hi lo2 hi2 : Nat) (L : List Hd) (v mv : Value) (a b : Int) (M : List Int) (h : RdH w lo hi v L) (hM : RdI w lo2 hi2 mv M) (hM1 : M.length ≤ 1000) (h0 : SpOk L a b) : Ca Tryz.prog 77 [v, .int .i64 a, .int .i64 b, mv] w fun x w' => (∃ y : Bool, x = .tuple #[.bool y, .int .i64 0] ∧ (y = true ↔ Mk L a b M)) ∧ Chg [] w w' := by
  have hb := h0.rb
  have hn1 := h0.g.n1
  have hn30 := h0.g.n30
  have hlen : L.length ≤ maxLen := by simp only [maxLen]; omega
  obtain ⟨va, vc, rfl, hsa⟩ := RdH.outI h
  obtain ⟨gb, go, rfl⟩ := hsa (by omega)
  obtain ⟨ma, mc, rfl, hsm⟩ := RdI.outI hM
  refine q_of (Sat.nil w M0) Tryz.func77 rfl (by simp [Tryz.ntmps77]) ?_
  (refine q_seq (q_region (ql_pure tabOk rfl rfl (ql_pure tabOk rfl rfl (q_nil (q_seq (q_seq (q_region ?_))))))); (iterate 3 refine ql_pure tabOk rfl rfl ?_))
  refine ql_callv (val := .int .i64 0) tabOk rfl rfl rfl rfl (fun w hs => ?_) ?_; exact by have := rspan2_ca w lo hi L _ a b (RdE.keep h hs.chg0) hlen; rw [chkSp_zero.2 h0] at this; exact this
  (refine ql_pure tabOk rfl rfl (q_nil (q_seq (q_region (ql_pure tabOk rfl rfl (ql_neqF tabOk rfl rfl rfl (by omega) (q_nil (q_cond_false rfl (q_skip (q_seq (q_seq (q_region ?_))))))))))); refine ql_pure tabOk rfl rfl (q_nil (q_block ?_)))
  refine q_loop (σ := Nat) (fun k => k ≤ M.length ∧ IncK a b M k) (fun k => M.length - k) (fun k => [(0, .slice (some ⟨gb, go, none⟩) L.length vc), (1, .int .i64 a), (2, .int .i64 b), (3, .slice ma M.length mc), (11, .int .i64 k)]) (fun _ => []) 0 ⟨by omega, fun j _ h => by omega⟩ ⟨rfl, rfl, rfl, rfl, rfl, trivial⟩ (by repeat constructor) ?_
  rintro k ⟨hk, hI⟩ K hK
  (refine q_seq (q_seq (q_region ?_)); (iterate 4 refine ql_pure tabOk rfl rfl ?_); refine q_nil ?_)
  refine q_if rfl (fun hc => ?_) (fun hc => ?_)
  · have hk2 : k < M.length := by omega
    clear hc
    obtain ⟨mb, mo, rfl⟩ := hsm (by omega)
    (refine q_skip (q_seq (q_block (q_seq ?_))))
    refine q_draw _ [] (Sp.refl _) (by kernel_rfl) (by kernel_rfl) ?_
    (refine qf_pure tabOk rfl rfl rfl (qf_pure tabOk rfl rfl rfl ?_))
    refine qf_index tabOk rfl rfl rfl rfl rfl (by omega) (by omega) ?_
    skip
    refine qf_load1 (v := .int .i64 M[k]) tabOk rfl rfl rfl (fun w hs => RdI.at (RdE.keep hM hs.chg0) (k) hk2) ?_
    by_cases c1 : M[k] < a
    · have hbad : ¬ Mk L a b M := fun g => by have := (g.bd _ (List.getElem_mem hk2)).1; omega
      (refine qf_pure tabOk rfl rfl rfl (qf_lssT tabOk rfl rfl rfl (by omega) (qf_pure tabOk rfl rfl rfl ?_)); (iterate 6 refine qf_gno rfl rfl rfl ?_); refine qf_pure tabOk rfl rfl rfl (qf_pure tabOk rfl rfl rfl ?_); (iterate 3 refine qf_gno rfl rfl rfl ?_); (iterate 10 refine qf_gnone rfl rfl ?_); refine qf_gno rfl rfl rfl (qf_pure tabOk rfl rfl rfl (qf_nil (q_cond_true rfl (q_seq (q_region (ql_pure tabOk rfl rfl (ql_pure tabOk rfl rfl (q_nil (q_ret ?_))))))))))
      refine q_fin tabOk rfl (by repeat constructor) fun w hs => ?_
      exact ⟨⟨false, rfl, ⟨(fun h => by cases h), fun h => absurd h hbad⟩⟩, hs.chg0⟩
    · (refine qf_pure tabOk rfl rfl rfl (qf_lssF tabOk rfl rfl rfl (by omega) (qf_pure tabOk rfl rfl rfl (qf_gyes rfl (qf_pure tabOk rfl rfl rfl (qf_gyes rfl (qf_pure tabOk rfl rfl rfl (qf_gyes rfl ?_))))))))
      refine qf_index tabOk rfl rfl rfl rfl rfl (by omega) (by omega) ?_
      (refine qf_gyes rfl ?_)
      refine qf_load1 (v := .int .i64 M[k]) tabOk rfl rfl rfl (fun w hs => RdI.at (RdE.keep hM hs.chg0) (k) hk2) ?_
      by_cases c2 : b ≤ M[k]
      · have hbad : ¬ Mk L a b M := fun g => by have := (g.bd _ (List.getElem_mem hk2)).2; omega
        (refine qf_gyes rfl (qf_pure tabOk rfl rfl rfl (qf_gyes rfl (qf_geqT tabOk rfl rfl rfl (by omega) (qf_pure tabOk rfl rfl rfl (qf_pure tabOk rfl rfl rfl ?_))))); (iterate 3 refine qf_gno rfl rfl rfl ?_); (iterate 10 refine qf_gnone rfl rfl ?_); refine qf_gno rfl rfl rfl (qf_pure tabOk rfl rfl rfl (qf_nil (q_cond_true rfl (q_seq (q_region (ql_pure tabOk rfl rfl (ql_pure tabOk rfl rfl (q_nil (q_ret ?_))))))))))
        refine q_fin tabOk rfl (by repeat constructor) fun w hs => ?_
        exact ⟨⟨false, rfl, ⟨(fun h => by cases h), fun h => absurd h hbad⟩⟩, hs.chg0⟩
      · by_cases c3 : k = 0
        · subst c3
          (refine qf_gyes rfl (qf_pure tabOk rfl rfl rfl (qf_gyes rfl (qf_geqF tabOk rfl rfl rfl (by omega) (qf_pure tabOk rfl rfl rfl (qf_pure tabOk rfl rfl rfl (qf_gyes rfl (qf_pure tabOk rfl rfl rfl (qf_gyes rfl (qf_gtrF tabOk rfl rfl rfl (by omega) (qf_gyes rfl (qf_pure tabOk rfl rfl rfl ?_))))))))))); (iterate 10 refine qf_gno rfl rfl rfl ?_); refine qf_gyes rfl (qf_pure tabOk rfl rfl rfl (qf_pure tabOk rfl rfl rfl (qf_nil (q_cond_false rfl (q_skip (q_blk (q_region (ql_pure tabOk rfl rfl (ql_ar tabOk rfl rfl rfl rfl (by omega) (by omega) (ql_pure tabOk rfl rfl (q_nil ?_))))))))))))
          exact hK (0 + 1) _ _ ⟨by omega, fun j hj hj1 => by obtain rfl : j = 0 := by omega
                                                             exact ⟨by omega, fun h => by omega⟩⟩ (by omega) ⟨rfl, rfl, rfl, rfl, rfl, trivial⟩ (by repeat constructor)
        · obtain ⟨r, rfl⟩ : ∃ r, k = r + 1 := ⟨k - 1, by omega⟩
          have hr : r < M.length := by omega
          have hr1 : ((r + 1 : Nat) : Int) - 1 = r := by omega
          (refine qf_gyes rfl (qf_pure tabOk rfl rfl rfl (qf_gyes rfl (qf_geqF tabOk rfl rfl rfl (by omega) (qf_pure tabOk rfl rfl rfl (qf_pure tabOk rfl rfl rfl (qf_gyes rfl (qf_pure tabOk rfl rfl rfl (qf_gyes rfl (qf_gtrT tabOk rfl rfl rfl (by omega) (qf_gyes rfl (qf_pure tabOk rfl rfl rfl ?_))))))))))); refine qf_gyes rfl (qf_pure tabOk rfl rfl rfl (qf_gyes rfl (qf_pure tabOk rfl rfl rfl (qf_gyes rfl ?_)))))
          refine qf_index tabOk rfl rfl rfl rfl rfl (by omega) (by omega) ?_
          (refine qf_gyes rfl ?_)
          refine qf_load1 (v := .int .i64 M[r + 1]) tabOk rfl rfl rfl (fun w hs => RdI.at (RdE.keep hM hs.chg0) (r + 1) hk2) ?_
          (refine qf_gyes rfl (qf_pure tabOk rfl rfl rfl (qf_gyes rfl (qf_pure tabOk rfl rfl rfl (qf_gyes rfl (qf_ar tabOk rfl rfl rfl rfl (by omega) (by omega) (qf_gyes rfl ?_)))))))
          rw [hr1]
          refine qf_index tabOk rfl rfl rfl rfl rfl (by omega) (by omega) ?_
          (refine qf_gyes rfl ?_)
          refine qf_load1 (v := .int .i64 M[r]) tabOk rfl rfl rfl (fun w hs => RdI.at (RdE.keep hM hs.chg0) (r) hr) ?_
          by_cases c4 : M[r + 1] ≤ M[r]
          · have hbad : ¬ Mk L a b M := fun g => by
              have := List.pairwise_iff_getElem.1 g.inc r (r + 1) hr hk2 (by omega)
              omega
            (refine qf_gyes rfl (qf_leqT tabOk rfl rfl rfl (by omega) (qf_gyes rfl (qf_pure tabOk rfl rfl rfl (qf_pure tabOk rfl rfl rfl (qf_nil (q_cond_true rfl (q_seq (q_region (ql_pure tabOk rfl rfl (ql_pure tabOk rfl rfl (q_nil ?_))))))))))); refine q_ret ?_)
            refine q_fin tabOk rfl (by repeat constructor) fun w hs => ?_
            exact ⟨⟨false, rfl, ⟨(fun h => by cases h), fun h => absurd h hbad⟩⟩, hs.chg0⟩
          · (refine qf_gyes rfl (qf_leqF tabOk rfl rfl rfl (by omega) (qf_gyes rfl (qf_pure tabOk rfl rfl rfl (qf_pure tabOk rfl rfl rfl (qf_nil (q_cond_false rfl (q_skip (q_blk (q_region (ql_pure tabOk rfl rfl (ql_ar tabOk rfl rfl rfl rfl (by omega) (by omega) ?_))))))))))); refine ql_pure tabOk rfl rfl (q_nil ?_))
            exact hK (r + 1 + 1) _ _ ⟨by omega, fun j hj hj1 => by
              by_cases e : j = r + 1
              · subst e
                exact ⟨by omega, fun _ => by rw [Nat.add_sub_cancel, getD_get hr]; omega⟩
              · exact hI j hj (by omega)⟩ (by omega) ⟨rfl, rfl, rfl, rfl, rfl, trivial⟩ (by repeat constructor)
  · obtain rfl : k = M.length := by omega
    clear hc hK
    obtain ⟨hbd, hinc⟩ := inc_all hI
    clear hI
    (refine q_exit _ rfl (q_seq (q_seq (q_region (ql_pure tabOk rfl rfl (q_nil (q_block ?_)))))))
    refine q_loop (σ := Nat) (fun k => k ≤ L.length ∧ ∀ j (hj : j < L.length), j < k → (M.filter L[j].cov).length ≤ 1) (fun k => L.length - k) (fun k => [(0, .slice (some ⟨gb, go, none⟩) L.length vc), (3, .slice ma M.length mc), (12, .int .i64 k)]) (fun _ => []) 0 ⟨by omega, fun j _ h => by omega⟩ ⟨rfl, rfl, rfl, trivial⟩ (by repeat constructor) ?_
    rintro k ⟨hk, hI⟩ K hK
    (refine q_seq (q_seq (q_region ?_)); (iterate 4 refine ql_pure tabOk rfl rfl ?_); refine q_nil ?_)
    refine q_if rfl (fun hc => ?_) (fun hc => ?_)
    · have hk2 : k < L.length := by omega
      clear hc
      (refine q_skip (q_seq (q_block (q_seq (q_region (ql_pure tabOk rfl rfl (q_nil (q_seq (q_seq (q_region (ql_pure tabOk rfl rfl (q_nil ?_))))))))))); refine q_block ?_)
      refine q_loop (σ := Nat × Nat) (fun ⟨i, n⟩ => i ≤ M.length ∧ n = ((M.take i).filter L[k].cov).length) (fun ⟨i, _⟩ => M.length - i) (fun ⟨i, n⟩ => [(0, .slice (some ⟨gb, go, none⟩) L.length vc), (3, .slice ma M.length mc), (12, .int .i64 k), (13, .int .i64 n), (14, .int .i64 i)]) (fun _ => []) (0, 0) ⟨by omega, rfl⟩ ⟨rfl, rfl, rfl, rfl, rfl, trivial⟩ (by repeat constructor) ?_
      rintro ⟨i, n⟩ ⟨hi', hn⟩ K2 hK2
      dsimp only at hi' hn hK2 ⊢
      have hn2 : n ≤ i := by rw [hn]; exact Nat.le_trans (List.length_filter_le _ _) (by rw [List.length_take]; omega)
      (refine q_seq (q_seq (q_region ?_)); (iterate 4 refine ql_pure tabOk rfl rfl ?_); refine q_nil ?_)
      refine q_if rfl (fun hc => ?_) (fun hc => ?_)
      · have hi2 : i < M.length := by omega
        clear hc
        obtain ⟨mb, mo, rfl⟩ := hsm (by omega)
        have hst : ((M.take (i + 1)).filter L[k].cov).length = n + if L[k].cov M[i] = true then 1 else 0 := by
          rw [List.take_succ_eq_append_getElem hi2, List.filter_append, List.length_append, ← hn]
          by_cases c : L[k].cov M[i] = true
          · rw [if_pos c, List.filter_cons_of_pos c]; rfl
          · rw [if_neg c, List.filter_cons_of_neg c]; rfl
        (refine q_skip (q_seq (q_block (q_seq ?_))))
        refine q_draw _ [] (Sp.refl _) (by kernel_rfl) (by kernel_rfl) ?_
        (refine qf_pure tabOk rfl rfl rfl (qf_pure tabOk rfl rfl rfl ?_))
        refine qf_index tabOk rfl rfl rfl rfl rfl (by omega) (by omega) ?_
        (refine qf_pure tabOk rfl rfl rfl ?_)
        refine qf_load1 (v := .int .i64 L[k].f) tabOk rfl rfl rfl (fun w hs => RdH.at1 (RdE.keep h hs.chg0) k hk2) ?_
        (refine qf_pure tabOk rfl rfl rfl (qf_pure tabOk rfl rfl rfl ?_))
        refine qf_index tabOk rfl rfl rfl rfl rfl (by omega) (by omega) ?_
        skip
        refine qf_load1 (v := .int .i64 M[i]) tabOk rfl rfl rfl (fun w hs => RdI.at (RdE.keep hM hs.chg0) (i) hi2) ?_
        by_cases c1 : L[k].f ≤ M[i]
        · (refine qf_leqT tabOk rfl rfl rfl (by omega) (qf_pure tabOk rfl rfl rfl (qf_gyes rfl (qf_pure tabOk rfl rfl rfl (qf_gyes rfl (qf_pure tabOk rfl rfl rfl (qf_gyes rfl ?_)))))))
          refine qf_index tabOk rfl rfl rfl rfl rfl (by omega) (by omega) ?_
          (refine qf_gyes rfl (qf_pure tabOk rfl rfl rfl (qf_gyes rfl ?_)))
          refine qf_load1 (v := .int .i64 L[k].t) tabOk rfl rfl rfl (fun w hs => RdH.at2 (RdE.keep h hs.chg0) k hk2) ?_
          (refine qf_gyes rfl (qf_pure tabOk rfl rfl rfl (qf_gyes rfl (qf_pure tabOk rfl rfl rfl (qf_gyes rfl ?_)))))
          refine qf_index tabOk rfl rfl rfl rfl rfl (by omega) (by omega) ?_
          (refine qf_gyes rfl ?_)
          refine qf_load1 (v := .int .i64 M[i]) tabOk rfl rfl rfl (fun w hs => RdI.at (RdE.keep hM hs.chg0) (i) hi2) ?_
          by_cases c2 : M[i] < L[k].t
          · rw [if_pos (Hd.cov_iff.2 ⟨c1, c2⟩)] at hst
            (refine qf_gyes rfl (qf_gtrT tabOk rfl rfl rfl (by omega) (qf_pure tabOk rfl rfl rfl (qf_nil (q_cond_true rfl (q_region (ql_pure tabOk rfl rfl (ql_ar tabOk rfl rfl rfl rfl (by omega) (by omega) (ql_pure tabOk rfl rfl (q_nil (q_blk (q_region ?_))))))))))); refine ql_pure tabOk rfl rfl (ql_ar tabOk rfl rfl rfl rfl (by omega) (by omega) (ql_pure tabOk rfl rfl (q_nil ?_))))
            exact hK2 (i + 1, n + 1) _ _ ⟨by omega, hst.symm⟩ (by dsimp only; omega) ⟨rfl, rfl, rfl, lookI rfl (by dsimp only; omega), rfl, trivial⟩ (by repeat constructor)
          · rw [if_neg (fun g => c2 (Hd.cov_iff.1 g).2)] at hst
            (refine qf_gyes rfl (qf_gtrF tabOk rfl rfl rfl (by omega) (qf_pure tabOk rfl rfl rfl (qf_nil (q_cond_false rfl (q_skip (q_blk (q_region (ql_pure tabOk rfl rfl (ql_ar tabOk rfl rfl rfl rfl (by omega) (by omega) (ql_pure tabOk rfl rfl (q_nil ?_))))))))))))
            exact hK2 (i + 1, n) _ _ ⟨by omega, hst.symm⟩ (by dsimp only; omega) ⟨rfl, rfl, rfl, rfl, rfl, trivial⟩ (by repeat constructor)
        · rw [if_neg (fun g => c1 (Hd.cov_iff.1 g).1)] at hst
          (refine qf_leqF tabOk rfl rfl rfl (by omega) (qf_pure tabOk rfl rfl rfl ?_); (iterate 10 refine qf_gno rfl rfl rfl ?_); refine qf_pure tabOk rfl rfl rfl (qf_nil (q_cond_false rfl (q_skip (q_blk (q_region (ql_pure tabOk rfl rfl (ql_ar tabOk rfl rfl rfl rfl (by omega) (by omega) (ql_pure tabOk rfl rfl (q_nil ?_))))))))))
          exact hK2 (i + 1, n) _ _ ⟨by omega, hst.symm⟩ (by dsimp only; omega) ⟨rfl, rfl, rfl, rfl, rfl, trivial⟩ (by repeat constructor)
      · obtain rfl : i = M.length := by omega
        clear hc hK2
        rw [List.take_length] at hn
        by_cases c1 : 1 < n
        · have hbad : ¬ Mk L a b M := fun g => by
            have := (mk_iff.1 g).2.2 L[k] (List.getElem_mem hk2)
            omega
          (refine q_exit _ rfl (q_seq (q_region (ql_pure tabOk rfl rfl (ql_gtrT tabOk rfl rfl rfl (by omega) (q_nil (q_cond_true rfl (q_seq (q_region (ql_pure tabOk rfl rfl (ql_pure tabOk rfl rfl (q_nil ?_))))))))))); refine q_ret ?_)
          refine q_fin tabOk rfl (by repeat constructor) fun w hs => ?_
          exact ⟨⟨false, rfl, ⟨(fun h => by cases h), fun h => absurd h hbad⟩⟩, hs.chg0⟩
        · (refine q_exit _ rfl (q_seq (q_region (ql_pure tabOk rfl rfl (ql_gtrF tabOk rfl rfl rfl (by omega) (q_nil (q_cond_false rfl (q_skip (q_blk (q_region (ql_pure tabOk rfl rfl (ql_ar tabOk rfl rfl rfl rfl (by omega) (by omega) ?_))))))))))); refine ql_pure tabOk rfl rfl (q_nil ?_))
          exact hK (k + 1) _ _ ⟨by omega, fun j hj hj1 => by
            by_cases e : j = k
            · subst e; omega
            · exact hI j hj (by omega)⟩ (by omega) ⟨rfl, rfl, rfl, trivial⟩ (by repeat constructor)
    · obtain rfl : k = L.length := by omega
      (refine q_exit _ rfl (q_seq (q_region (ql_pure tabOk rfl rfl (ql_pure tabOk rfl rfl (q_nil (q_ret ?_)))))))
      refine q_fin tabOk rfl (by repeat constructor) fun w hs => ?_
      exact ⟨⟨true, rfl, ⟨fun _ => mk_iff.2 ⟨hbd, hinc, fun g hg => by
        obtain ⟨j, hj, rfl⟩ := List.mem_iff_getElem.1 hg
        exact hI j hj hj⟩, fun _ => rfl⟩⟩, hs.chg0⟩
end Go.Proofs.YtopdmadgkjdgcaaGreat

/- Walks: how many holds are enough, by the reference; whether some holds guard a span, by the package. Written by gen_F49.py. -/
namespace Go.Proofs.YtopdmadgkjdgcaaGreat
set_option maxRecDepth 4000
open Go Go.Eng
theorem hdL_get {L : List Hd} {i : Nat} (h : i < L.length) : hdL L i = L[i] := by
  unfold hdL
  rw [List.getD_eq_getElem?_getD, List.getElem?_eq_getElem h]
  rfl
/-- The levels in the middle of a round. -/
def mixL (L : List Hd) (a : Int) (n i : Nat) : List Int := (List.range L.length).map fun j => if j < i then (lvl L a (n + 1) j : Int) else (lvl L a n j : Int)
section
variable {L : List Hd} {a b : Int} {n i : Nat}
theorem mix_len : (mixL L a n i).length = L.length := by simp [mixL]
theorem mix_get {k : Nat} (hk : k < L.length) {h : k < (mixL L a n i).length} : (mixL L a n i)[k]'h = if k < i then (lvl L a (n + 1) k : Int) else (lvl L a n k : Int) := by simp [mixL]
theorem mix_start : List.replicate L.length (0 : Int) = mixL L a 0 0 := List.ext_getElem (by simp [mixL]) fun k h1 h2 => by
  simp [mixL, lvl]
theorem mix_full : mixL L a n L.length = mixL L a (n + 1) 0 := List.ext_getElem (by simp [mixL]) fun k h1 h2 => by
  have hk : k < L.length := by rw [mix_len] at h1; exact h1
  rw [mix_get hk, mix_get hk, if_pos hk, if_neg (by omega)]
theorem mix_set (hi : i < L.length) {z : Int} (hz : z = lvl L a (n + 1) i) : (mixL L a n i).set i z = mixL L a n (i + 1) := List.ext_getElem (by simp [mixL]) fun k h1 h2 => by
  have hk : k < L.length := by rw [mix_len] at h2; exact h2
  rw [List.getElem_set]
  by_cases e : i = k
  · subst e
    rw [if_pos rfl, mix_get hk, if_pos (by omega), hz]
  · rw [if_neg e, mix_get hk, mix_get hk]
    by_cases c : k < i
    · rw [if_pos c, if_pos (by omega)]
    · rw [if_neg c, if_neg (by omega)]
theorem mix_keep (hi : i < L.length) (hz : lvl L a (n + 1) i = lvl L a n i) : mixL L a n i = mixL L a n (i + 1) := List.ext_getElem (by simp [mixL]) fun k h1 h2 => by
  have hk : k < L.length := by rw [mix_len] at h2; exact h2
  rw [mix_get hk, mix_get hk]
  by_cases c : k < i
  · rw [if_pos c, if_pos (by omega)]
  · rw [if_neg c]
    by_cases e : k = i
    · subst e
      rw [if_pos (by omega), hz]
    · rw [if_neg (by omega)]
theorem lvl_n {k : Nat} (hn : 0 < n) : lvl L a (n + 1) k = n ↔ lvl L a n k = n := by
  have e : lvl L a (n + 1) k = if 0 < lvl L a n k ∨ (hdL L k).t ≤ a then lvl L a n k else if (n = 0 ∧ (hdL L k).f ≤ a) ∨ (0 < n ∧ ∃ j, j < L.length ∧ lvl L a n j = n ∧ (hdL L k).f ≤ (hdL L j).t) then n + 1 else 0 := rfl
  rw [e]
  split
  · exact Iff.rfl
  · rename_i h
    split <;> omega
theorem lvl_step (h1 : ¬ 0 < lvl L a n i) (h2 : ¬ (hdL L i).t ≤ a) : lvl L a (n + 1) i = if (n = 0 ∧ (hdL L i).f ≤ a) ∨ (0 < n ∧ ∃ j, j < L.length ∧ lvl L a n j = n ∧ (hdL L i).f ≤ (hdL L j).t) then n + 1 else 0 := by
  rw [lvl, if_neg (by omega)]
theorem lvl_stay (h : 0 < lvl L a n i ∨ (hdL L i).t ≤ a) : lvl L a (n + 1) i = lvl L a n i := by rw [lvl, if_pos h]
end
/-- What is told of the fewest holds. -/
def RchR (L : List Hd) (a b : Int) (y : Nat × Int) : Prop := (y.2 = 0 ∧ 0 < y.1 ∧ FndL L a b y.1 ∧ ∀ m, 0 < m → m < y.1 → ¬ FndL L a b m) ∨ (y = (0, 6) ∧ (¬ Gd L a b ∨ ∀ m, 0 < m → m ≤ L.length → ¬ FndL L a b m))
theorem rChn_no (w : World) (lo hi : Nat) (L : List Hd) (v : Value) (a b : Int) (h : RdH w lo hi v L) (hlen : L.length ≤ maxLen) (h0 : chkSp L a b ≠ 0) : Ca Tryz.prog 79 [v, .int .i64 a, .int .i64 b] w fun x w' => x = .tuple #[.int .i64 0, .int .i64 (chkSp L a b)] ∧ Chg [] w w' := by
  refine q_of (Sat.nil w M0) Tryz.func79 rfl (by simp [Tryz.ntmps79]) ?_
  (refine q_seq (q_region (ql_pure tabOk rfl rfl (ql_pure tabOk rfl rfl (q_nil (q_seq (q_seq (q_region ?_))))))); (iterate 3 refine ql_pure tabOk rfl rfl ?_))
  refine ql_callv (val := .int .i64 (chkSp L a b)) tabOk rfl rfl rfl rfl (fun w hs => ?_) ?_; exact rspan2_ca w lo hi L v a b (RdE.keep h hs.chg0) hlen
  (refine ql_pure tabOk rfl rfl (q_nil (q_seq (q_region (ql_pure tabOk rfl rfl (ql_neqT tabOk rfl rfl rfl (by omega) (q_nil (q_cond_true rfl (q_seq (q_region ?_))))))))); (iterate 3 refine ql_pure tabOk rfl rfl ?_); refine q_nil (q_ret ?_))
  refine q_fin tabOk rfl (by repeat constructor) fun w hs => ?_
  exact ⟨rfl, hs.chg0⟩
set_option maxHeartbeats 8000000 in
theorem rChn_ok (w : World) (lo hi : Nat) (L : List Hd) (v : Value) (a b : Int) (h : RdH w lo hi v L) (h0 : SpOk L a b) : Ca Tryz.prog 79 [v, .int .i64 a, .int .i64 b] w fun x w' => (∃ y : Nat × Int, x = .tuple #[.int .i64 y.1, .int .i64 y.2] ∧ RchR L a b y) ∧ Chg [] w w' := by
  have hb := h0.rb
  have hn1 := h0.g.n1
  have hn30 := h0.g.n30
  have hlen : L.length ≤ maxLen := by simp only [maxLen]; omega
  obtain ⟨va, vc, rfl, hsa⟩ := RdH.outI h
  obtain ⟨gb, go, rfl⟩ := hsa (by omega)
  refine q_of (Sat.nil w M0) Tryz.func79 rfl (by simp [Tryz.ntmps79]) ?_
  (refine q_seq (q_region (ql_pure tabOk rfl rfl (ql_pure tabOk rfl rfl (q_nil (q_seq (q_seq (q_region ?_))))))); (iterate 3 refine ql_pure tabOk rfl rfl ?_))
  refine ql_callv (val := .int .i64 0) tabOk rfl rfl rfl rfl (fun w hs => ?_) ?_; exact by have := rspan2_ca w lo hi L _ a b (RdE.keep h hs.chg0) hlen; rw [chkSp_zero.2 h0] at this; exact this
  (refine ql_pure tabOk rfl rfl (q_nil (q_seq (q_region (ql_pure tabOk rfl rfl (ql_neqF tabOk rfl rfl rfl (by omega) (q_nil (q_cond_false rfl (q_skip (q_seq (q_seq (q_region ?_))))))))))); (iterate 3 refine ql_pure tabOk rfl rfl ?_))
  refine ql_call (β := Int) (ψ := fun y v => v = .int .i64 y ∧ GpR L a b y) (L' := fun _ => []) tabOk [] _ M0 rfl rfl rfl rfl (Sp.refl _) (fun _ h => h.elim) (fun w' hs => (rgap_ca w' lo hi L _ a b (RdE.keep h hs.chg0) hlen (by omega) h0.ra.1 (by omega)).mono fun x w2 ⟨⟨y, h1, h2⟩, h3⟩ => ⟨y, ⟨h1, h2⟩, (Sat.nil w' M0).keep h3⟩) ?_
  rintro y _ ⟨rfl, hy⟩
  dsimp only [List.cons_append, List.nil_append]
  by_cases hyb : y < b
  · (refine ql_pure tabOk rfl rfl (ql_lssT tabOk rfl rfl rfl (by omega) (q_nil (q_cond_true rfl (q_seq (q_region (ql_pure tabOk rfl rfl (ql_pure tabOk rfl rfl (q_nil (q_ret ?_))))))))))
    refine q_fin tabOk rfl (by repeat constructor) fun w hs => ?_
    exact ⟨⟨(0, 6), rfl, .inr ⟨rfl, .inl (hy.lt.1 hyb)⟩⟩, hs.chg0⟩
  · clear hy
    (refine ql_pure tabOk rfl rfl (ql_lssF tabOk rfl rfl rfl (by omega) (q_nil (q_cond_false rfl (q_skip (q_seq (q_region (ql_pure tabOk rfl rfl (ql_pure tabOk rfl rfl ?_)))))))))
    refine ql_makeI slI rfl rfl rfl (by omega) (fun b9 => ?_)
    rw [mix_start (a := a)]
    (refine ql_pure tabOk rfl rfl (q_nil (q_seq (q_seq (q_region (ql_pure tabOk rfl rfl (q_nil (q_block ?_))))))))
    refine q_loop (σ := Nat) (fun n => n ≤ L.length ∧ ∀ m, 0 < m → m ≤ n → ¬ FndL L a b m) (fun n => L.length - n) (fun n => [(0, .slice (some ⟨gb, go, none⟩) L.length vc), (1, .int .i64 a), (2, .int .i64 b), (9, .slice (some ⟨b9, 0, none⟩) L.length L.length), (10, .int .i64 (n + 1 : Nat))]) (fun n => [.pt b9 (ints (mixL L a n 0)) 3]) 0 ⟨by omega, fun m h1 h2 => by omega⟩ ⟨rfl, rfl, rfl, rfl, rfl, trivial⟩ (by repeat constructor) ?_
    rintro n ⟨hn, hno⟩ K hK
    (refine q_seq (q_seq (q_region ?_)); (iterate 4 refine ql_pure tabOk rfl rfl ?_); refine q_nil ?_)
    refine q_if rfl (fun hc => ?_) (fun hc => ?_)
    · have hnl : n < L.length := by omega
      clear hc
      (refine q_skip (q_seq (q_block (q_seq (q_seq (q_region (ql_pure tabOk rfl rfl (q_nil (q_block ?_)))))))))
      refine q_loop (σ := Nat) (fun i => i ≤ L.length) (fun i => L.length - i) (fun i => [(0, .slice (some ⟨gb, go, none⟩) L.length vc), (1, .int .i64 a), (2, .int .i64 b), (9, .slice (some ⟨b9, 0, none⟩) L.length L.length), (10, .int .i64 (n + 1 : Nat)), (11, .int .i64 i)]) (fun i => [.pt b9 (ints (mixL L a n i)) 3]) 0 (by omega) ⟨rfl, rfl, rfl, rfl, rfl, rfl, trivial⟩ (by repeat constructor) ?_
      rintro i hi2 K2 hK2
      (refine q_seq (q_seq (q_region ?_)); (iterate 4 refine ql_pure tabOk rfl rfl ?_); refine q_nil ?_)
      refine q_if rfl (fun hc => ?_) (fun hc => ?_)
      · have hi : i < L.length := by omega
        clear hc
        have hlv := lvl_le (L := L) (a := a) n i
        (refine q_skip (q_seq (q_block (q_seq (q_seq (q_region (ql_pure tabOk rfl rfl (ql_pure tabOk rfl rfl ?_))))))))
        refine ql_index tabOk rfl rfl rfl rfl rfl (by omega) (by omega) ?_
        skip
        refine ql_loadI tabOk (i) rfl rfl rfl (by repeat constructor) (by omega) (by rw [mix_len]; exact hi) ?_
        rw [mix_get hi]
        rw [if_neg (Nat.lt_irrefl i)]
        by_cases c1 : 0 < lvl L a n i
        · have e := mix_keep hi (lvl_stay (.inl c1))
          (refine ql_gtrT tabOk rfl rfl rfl (by omega) (ql_pure tabOk rfl rfl ?_); (iterate 7 refine ql_gno rfl rfl rfl ?_); refine ql_pure tabOk rfl rfl (q_nil (q_cond_true rfl (q_exit _ rfl (q_region (ql_pure tabOk rfl rfl (ql_ar tabOk rfl rfl rfl rfl (by omega) (by omega) (ql_pure tabOk rfl rfl (q_nil ?_)))))))))
          exact hK2 (i + 1) _ _ (by omega) (by omega) ⟨rfl, rfl, rfl, rfl, rfl, rfl, trivial⟩ (by rw [← e]; repeat constructor)
        · (refine ql_gtrF tabOk rfl rfl rfl (by omega) (ql_pure tabOk rfl rfl (ql_gyes rfl (ql_pure tabOk rfl rfl (ql_gyes rfl (ql_pure tabOk rfl rfl (ql_gyes rfl ?_)))))))
          refine ql_index tabOk rfl rfl rfl rfl rfl (by omega) (by omega) ?_
          (refine ql_gyes rfl (ql_pure tabOk rfl rfl (ql_gyes rfl ?_)))
          refine ql_load1 (v := .int .i64 (hdL L i).t) tabOk rfl rfl rfl (fun w hs => by rw [hdL_get hi]; exact RdH.at2 (RdE.keep h hs.chg0) i hi) ?_
          by_cases c2 : (hdL L i).t ≤ a
          · have e := mix_keep hi (lvl_stay (n := n) (.inr c2))
            (refine ql_gyes rfl (ql_pure tabOk rfl rfl (ql_gyes rfl (ql_leqT tabOk rfl rfl rfl (by omega) (ql_pure tabOk rfl rfl (q_nil (q_cond_true rfl (q_exit _ rfl (q_region (ql_pure tabOk rfl rfl (ql_ar tabOk rfl rfl rfl rfl (by omega) (by omega) (ql_pure tabOk rfl rfl ?_))))))))))); refine q_nil ?_)
            exact hK2 (i + 1) _ _ (by omega) (by omega) ⟨rfl, rfl, rfl, rfl, rfl, rfl, trivial⟩ (by rw [← e]; repeat constructor)
          · have hst := lvl_step (L := L) c1 c2
            (refine ql_gyes rfl (ql_pure tabOk rfl rfl (ql_gyes rfl (ql_leqF tabOk rfl rfl rfl (by omega) (ql_pure tabOk rfl rfl (q_nil (q_cond_false rfl (q_skip (q_seq ?_)))))))))
            refine q_cut (σ := {c : Bool // c = true ↔ n = 0 ∧ (hdL L i).f ≤ a}) (fun c => [(0, .slice (some ⟨gb, go, none⟩) L.length vc), (1, .int .i64 a), (2, .int .i64 b), (9, .slice (some ⟨b9, 0, none⟩) L.length L.length), (10, .int .i64 (n + 1 : Nat)), (11, .int .i64 i), (12, .bool c.1)]) (fun _ => [.pt b9 (ints (mixL L a n i)) 3]) ?_ ?_
            rotate_left
            · intro K3 hK3
              by_cases hn0 : n = 0
              · (refine q_region (ql_pure tabOk rfl rfl (ql_eqlT tabOk rfl rfl rfl (by omega) (ql_pure tabOk rfl rfl (ql_gyes rfl (ql_pure tabOk rfl rfl (ql_gyes rfl (ql_pure tabOk rfl rfl (ql_gyes rfl ?_)))))))))
                refine ql_index tabOk rfl rfl rfl rfl rfl (by omega) (by omega) ?_
                (refine ql_gyes rfl (ql_pure tabOk rfl rfl (ql_gyes rfl ?_)))
                refine ql_load1 (v := .int .i64 (hdL L i).f) tabOk rfl rfl rfl (fun w hs => by rw [hdL_get hi]; exact RdH.at1 (RdE.keep h hs.chg0) i hi) ?_
                by_cases hf : (hdL L i).f ≤ a
                · (refine ql_gyes rfl (ql_pure tabOk rfl rfl (ql_gyes rfl (ql_leqT tabOk rfl rfl rfl (by omega) (ql_pure tabOk rfl rfl (ql_pure tabOk rfl rfl (q_nil ?_)))))))
                  exact hK3 ⟨true, by simp [hn0, hf]⟩ _ _ ⟨rfl, rfl, rfl, rfl, rfl, rfl, rfl, trivial⟩ (by repeat constructor)
                · (refine ql_gyes rfl (ql_pure tabOk rfl rfl (ql_gyes rfl (ql_leqF tabOk rfl rfl rfl (by omega) (ql_pure tabOk rfl rfl (ql_pure tabOk rfl rfl (q_nil ?_)))))))
                  exact hK3 ⟨false, by simp [hf]⟩ _ _ ⟨rfl, rfl, rfl, rfl, rfl, rfl, rfl, trivial⟩ (by repeat constructor)
              · (refine q_region (ql_pure tabOk rfl rfl (ql_eqlF tabOk rfl rfl rfl (by omega) (ql_pure tabOk rfl rfl ?_))); (iterate 7 refine ql_gno rfl rfl rfl ?_); refine ql_pure tabOk rfl rfl (ql_pure tabOk rfl rfl (q_nil ?_)))
                exact hK3 ⟨false, by simp [hn0]⟩ _ _ ⟨rfl, rfl, rfl, rfl, rfl, rfl, rfl, trivial⟩ (by repeat constructor)
            rintro ⟨c, hcn⟩
            dsimp only at hcn ⊢
            have hcs : c = true ↔ ((n = 0 ∧ (hdL L i).f ≤ a) ∨ (0 < n ∧ ∃ j, j < 0 ∧ lvl L a n j = n ∧ (hdL L i).f ≤ (hdL L j).t)) := by
              rw [hcn]
              constructor
              · exact .inl
              · rintro (h | ⟨_, j, h, _⟩)
                · exact h
                · omega
            (refine q_seq (q_seq (q_region (ql_pure tabOk rfl rfl (q_nil (q_block ?_))))))
            refine q_loop (σ := Nat × Bool) (fun ⟨k, c⟩ => k ≤ L.length ∧ (c = true ↔ ((n = 0 ∧ (hdL L i).f ≤ a) ∨ (0 < n ∧ ∃ j, j < k ∧ lvl L a n j = n ∧ (hdL L i).f ≤ (hdL L j).t)))) (fun ⟨k, _⟩ => L.length - k) (fun ⟨k, c⟩ => [(0, .slice (some ⟨gb, go, none⟩) L.length vc), (1, .int .i64 a), (2, .int .i64 b), (9, .slice (some ⟨b9, 0, none⟩) L.length L.length), (10, .int .i64 (n + 1 : Nat)), (11, .int .i64 i), (12, .bool c), (13, .int .i64 k)]) (fun _ => [.pt b9 (ints (mixL L a n i)) 3]) (0, c) ⟨by omega, hcs⟩ ⟨rfl, rfl, rfl, rfl, rfl, rfl, rfl, rfl, trivial⟩ (by repeat constructor) ?_
            clear hcs hcn c
            rintro ⟨k, c⟩ ⟨hk, hcn⟩ K3 hK3
            dsimp only at hk hcn hK3 ⊢
            (refine q_seq (q_seq (q_region ?_)); (iterate 4 refine ql_pure tabOk rfl rfl ?_); refine q_nil ?_)
            refine q_if rfl (fun hc => ?_) (fun hc => ?_)
            · have hk2 : k < L.length := by omega
              clear hc
              have hmore : ∀ c2 : Bool, (c2 = true ↔ (c = true ∨ (0 < n ∧ lvl L a n k = n ∧ (hdL L i).f ≤ (hdL L k).t))) → (c2 = true ↔ ((n = 0 ∧ (hdL L i).f ≤ a) ∨ (0 < n ∧ ∃ j, j < k + 1 ∧ lvl L a n j = n ∧ (hdL L i).f ≤ (hdL L j).t))) := fun c2 h2 => by
                rw [h2, hcn]
                constructor
                · rintro ((h | ⟨h, j, h3, h4⟩) | ⟨h, h3⟩)
                  · exact .inl h
                  · exact .inr ⟨h, j, by omega, h4⟩
                  · exact .inr ⟨h, k, by omega, h3⟩
                · rintro (h | ⟨h, j, h3, h4⟩)
                  · exact .inl (.inl h)
                  · by_cases e : j = k
                    · subst e
                      exact .inr ⟨h, h4⟩
                    · exact .inl (.inr ⟨h, j, by omega, h4⟩)
              cases c with
              | true =>
                (refine q_skip (q_seq (q_block ?_)))
                refine q_draw _ [] (Sp.refl _) (by kernel_rfl) (by kernel_rfl) ?_
                (refine qf_pure tabOk rfl rfl rfl (qf_pure tabOk rfl rfl rfl ?_); (iterate 3 refine qf_gno rfl rfl rfl ?_); (iterate 7 refine qf_gnone rfl rfl ?_); refine qf_gno rfl rfl rfl (qf_gno rfl rfl rfl ?_); (iterate 11 refine qf_gnone rfl rfl ?_); refine qf_gno rfl rfl rfl (qf_pure tabOk rfl rfl rfl (qf_pure tabOk rfl rfl rfl (qf_nil (q_blk (q_region (ql_pure tabOk rfl rfl (ql_ar tabOk rfl rfl rfl rfl (by omega) (by omega) (ql_pure tabOk rfl rfl (q_nil ?_))))))))))
                exact hK3 (k + 1, true) _ _ ⟨by omega, hmore true (by simp)⟩ (by dsimp only; omega) ⟨rfl, rfl, rfl, rfl, rfl, rfl, rfl, rfl, trivial⟩ (by repeat constructor)
              | false =>
                by_cases hn0 : n = 0
                · (refine q_skip (q_seq (q_block ?_)))
                  refine q_draw _ [] (Sp.refl _) (by kernel_rfl) (by kernel_rfl) ?_
                  (refine qf_pure tabOk rfl rfl rfl (qf_pure tabOk rfl rfl rfl (qf_gyes rfl (qf_pure tabOk rfl rfl rfl (qf_gyes rfl (qf_gtrF tabOk rfl rfl rfl (by omega) (qf_gyes rfl (qf_pure tabOk rfl rfl rfl ?_))))))); (iterate 7 refine qf_gno rfl rfl rfl ?_); refine qf_gyes rfl (qf_pure tabOk rfl rfl rfl (qf_gyes rfl (qf_pure tabOk rfl rfl rfl ?_))); (iterate 11 refine qf_gno rfl rfl rfl ?_); refine qf_gyes rfl ?_; (iterate 3 refine qf_pure tabOk rfl rfl rfl ?_); refine qf_nil (q_blk (q_region (ql_pure tabOk rfl rfl (ql_ar tabOk rfl rfl rfl rfl (by omega) (by omega) (ql_pure tabOk rfl rfl (q_nil ?_)))))))
                  exact hK3 (k + 1, false) _ _ ⟨by omega, hmore false (by simp; omega)⟩ (by dsimp only; omega) ⟨rfl, rfl, rfl, rfl, rfl, rfl, rfl, rfl, trivial⟩ (by repeat constructor)
                · have hlk := lvl_le (L := L) (a := a) n k
                  have hlk2 := lvl_le (L := L) (a := a) (n + 1) k
                  have hlk3 := lvl_n (L := L) (a := a) (k := k) (show 0 < n by omega)
                  (refine q_skip (q_seq (q_block ?_)))
                  refine q_draw _ [] (Sp.refl _) (by kernel_rfl) (by kernel_rfl) ?_
                  (refine qf_pure tabOk rfl rfl rfl (qf_pure tabOk rfl rfl rfl (qf_gyes rfl (qf_pure tabOk rfl rfl rfl (qf_gyes rfl (qf_gtrT tabOk rfl rfl rfl (by omega) (qf_gyes rfl (qf_pure tabOk rfl rfl rfl (qf_gyes rfl (qf_pure tabOk rfl rfl rfl (qf_gyes rfl (qf_pure tabOk rfl rfl rfl ?_))))))))))); refine qf_gyes rfl ?_)
                  refine qf_index tabOk rfl rfl rfl rfl rfl (by omega) (by omega) ?_
                  (refine qf_gyes rfl ?_)
                  refine qf_loadI tabOk (k) rfl rfl rfl (by repeat constructor) (by omega) (by rw [mix_len]; exact hk2) ?_
                  rw [mix_get hk2]
                  have hq : (if k < i then (lvl L a (n + 1) k : Int) else (lvl L a n k : Int)) = n ↔ lvl L a n k = n := by
                    split
                    · rw [← hlk3]; omega
                    · omega
                  have hq2 : 0 ≤ (if k < i then (lvl L a (n + 1) k : Int) else (lvl L a n k : Int)) ∧ (if k < i then (lvl L a (n + 1) k : Int) else (lvl L a n k : Int)) ≤ 100 := by
                    split <;> omega
                  generalize (if k < i then (lvl L a (n + 1) k : Int) else (lvl L a n k : Int)) = z at hq hq2 ⊢
                  by_cases hz : z = n
                  · have hz2 := hq.1 hz
                    (refine qf_gyes rfl (qf_pure tabOk rfl rfl rfl (qf_gyes rfl (qf_ar tabOk rfl rfl rfl rfl (by omega) (by omega) (qf_gyes rfl (qf_eqlT tabOk rfl rfl rfl (by omega) (qf_gyes rfl (qf_pure tabOk rfl rfl rfl (qf_gyes rfl (qf_pure tabOk rfl rfl rfl (qf_gyes rfl (qf_pure tabOk rfl rfl rfl ?_))))))))))); refine qf_gyes rfl (qf_pure tabOk rfl rfl rfl (qf_gyes rfl ?_)))
                    refine qf_index tabOk rfl rfl rfl rfl rfl (by omega) (by omega) ?_
                    (refine qf_gyes rfl (qf_pure tabOk rfl rfl rfl (qf_gyes rfl ?_)))
                    refine qf_load1 (v := .int .i64 (hdL L i).f) tabOk rfl rfl rfl (fun w hs => by rw [hdL_get hi]; exact RdH.at1 (RdE.keep h hs.chg0) i hi) ?_
                    (refine qf_gyes rfl (qf_pure tabOk rfl rfl rfl (qf_gyes rfl (qf_pure tabOk rfl rfl rfl (qf_gyes rfl ?_)))))
                    refine qf_index tabOk rfl rfl rfl rfl rfl (by omega) (by omega) ?_
                    (refine qf_gyes rfl (qf_pure tabOk rfl rfl rfl (qf_gyes rfl ?_)))
                    refine qf_load1 (v := .int .i64 (hdL L k).t) tabOk rfl rfl rfl (fun w hs => by rw [hdL_get hk2]; exact RdH.at2 (RdE.keep h hs.chg0) k hk2) ?_
                    by_cases hf : (hdL L i).f ≤ (hdL L k).t
                    · (refine qf_gyes rfl (qf_leqT tabOk rfl rfl rfl (by omega) (qf_gyes rfl ?_)); (iterate 3 refine qf_pure tabOk rfl rfl rfl ?_); refine qf_nil (q_blk (q_region (ql_pure tabOk rfl rfl (ql_ar tabOk rfl rfl rfl rfl (by omega) (by omega) (ql_pure tabOk rfl rfl (q_nil ?_)))))))
                      exact hK3 (k + 1, true) _ _ ⟨by omega, hmore true (by simp; exact ⟨by omega, hz2, hf⟩)⟩ (by dsimp only; omega) ⟨rfl, rfl, rfl, rfl, rfl, rfl, rfl, rfl, trivial⟩ (by repeat constructor)
                    · (refine qf_gyes rfl (qf_leqF tabOk rfl rfl rfl (by omega) (qf_gyes rfl ?_)); (iterate 3 refine qf_pure tabOk rfl rfl rfl ?_); refine qf_nil (q_blk (q_region (ql_pure tabOk rfl rfl (ql_ar tabOk rfl rfl rfl rfl (by omega) (by omega) (ql_pure tabOk rfl rfl (q_nil ?_)))))))
                      exact hK3 (k + 1, false) _ _ ⟨by omega, hmore false (by simp [hf])⟩ (by dsimp only; omega) ⟨rfl, rfl, rfl, rfl, rfl, rfl, rfl, rfl, trivial⟩ (by repeat constructor)
                  · have hz2 : lvl L a n k ≠ n := fun e => hz (hq.2 e)
                    (refine qf_gyes rfl (qf_pure tabOk rfl rfl rfl (qf_gyes rfl (qf_ar tabOk rfl rfl rfl rfl (by omega) (by omega) (qf_gyes rfl (qf_eqlF tabOk rfl rfl rfl (by omega) (qf_gyes rfl (qf_pure tabOk rfl rfl rfl (qf_gyes rfl (qf_pure tabOk rfl rfl rfl ?_))))))))); (iterate 11 refine qf_gno rfl rfl rfl ?_); refine qf_gyes rfl ?_; (iterate 3 refine qf_pure tabOk rfl rfl rfl ?_); refine qf_nil (q_blk (q_region (ql_pure tabOk rfl rfl (ql_ar tabOk rfl rfl rfl rfl (by omega) (by omega) (ql_pure tabOk rfl rfl (q_nil ?_)))))))
                    exact hK3 (k + 1, false) _ _ ⟨by omega, hmore false (by simp [hz2])⟩ (by dsimp only; omega) ⟨rfl, rfl, rfl, rfl, rfl, rfl, rfl, rfl, trivial⟩ (by repeat constructor)
            · obtain rfl : k = L.length := by omega
              clear hc hK3
              cases c with
              | true =>
                have hst2 : ((n + 1 : Nat) : Int) = lvl L a (n + 1) i := by rw [hst, if_pos (hcn.1 rfl)]
                (refine q_exit _ rfl (q_seq (q_region (ql_pure tabOk rfl rfl (q_nil (q_cond_true rfl (q_region ?_)))))); (iterate 3 refine ql_pure tabOk rfl rfl ?_))
                refine ql_index tabOk rfl rfl rfl rfl rfl (by omega) (by omega) ?_
                refine ql_storeI tabOk i rfl rfl rfl (by repeat constructor) (by omega) (by rw [mix_len]; exact hi) ?_
                rw [mix_set hi hst2]
                (refine q_nil (q_blk (q_region (ql_pure tabOk rfl rfl (ql_ar tabOk rfl rfl rfl rfl (by omega) (by omega) (ql_pure tabOk rfl rfl (q_nil ?_)))))))
                exact hK2 (i + 1) _ _ (by omega) (by omega) ⟨rfl, rfl, rfl, rfl, rfl, rfl, trivial⟩ (by repeat constructor)
              | false =>
                have e := mix_keep hi (show lvl L a (n + 1) i = lvl L a n i by rw [hst, if_neg (fun h => by have := hcn.2 h; cases this)]; omega)
                (refine q_exit _ rfl (q_seq (q_region (ql_pure tabOk rfl rfl (q_nil (q_cond_false rfl (q_skip (q_blk (q_region (ql_pure tabOk rfl rfl (ql_ar tabOk rfl rfl rfl rfl (by omega) (by omega) (ql_pure tabOk rfl rfl ?_))))))))))); refine q_nil ?_)
                exact hK2 (i + 1) _ _ (by omega) (by omega) ⟨rfl, rfl, rfl, rfl, rfl, rfl, trivial⟩ (by rw [← e]; repeat constructor)
      · obtain rfl : i = L.length := by omega
        clear hc hK2
        rw [mix_full]
        (refine q_exit _ rfl (q_seq (q_region (ql_pure tabOk rfl rfl (q_nil (q_block ?_))))))
        refine q_loop (σ := Nat) (fun i => i ≤ L.length ∧ ∀ j, j < i → ¬ (lvl L a (n + 1) j = n + 1 ∧ b ≤ (hdL L j).t)) (fun i => L.length - i) (fun i => [(0, .slice (some ⟨gb, go, none⟩) L.length vc), (1, .int .i64 a), (2, .int .i64 b), (9, .slice (some ⟨b9, 0, none⟩) L.length L.length), (10, .int .i64 (n + 1 : Nat)), (14, .int .i64 i)]) (fun _ => [.pt b9 (ints (mixL L a (n + 1) 0)) 3]) 0 ⟨by omega, fun j h => by omega⟩ ⟨rfl, rfl, rfl, rfl, rfl, rfl, trivial⟩ (by repeat constructor) ?_
        rintro i ⟨hi2, hnf⟩ K2 hK2
        (refine q_seq (q_seq (q_region ?_)); (iterate 4 refine ql_pure tabOk rfl rfl ?_); refine q_nil ?_)
        refine q_if rfl (fun hc => ?_) (fun hc => ?_)
        · have hi : i < L.length := by omega
          clear hc
          have hlv := lvl_le (L := L) (a := a) (n + 1) i
          (refine q_skip (q_seq (q_block (q_seq (q_region (ql_pure tabOk rfl rfl (ql_pure tabOk rfl rfl ?_)))))))
          refine ql_index tabOk rfl rfl rfl rfl rfl (by omega) (by omega) ?_
          skip
          refine ql_loadI tabOk (i) rfl rfl rfl (by repeat constructor) (by omega) (by rw [mix_len]; exact hi) ?_
          rw [mix_get hi]
          rw [if_neg (Nat.not_lt_zero i)]
          by_cases c1 : lvl L a (n + 1) i = n + 1
          · (refine ql_pure tabOk rfl rfl (ql_eqlT tabOk rfl rfl rfl (by omega) (ql_pure tabOk rfl rfl (ql_gyes rfl (ql_pure tabOk rfl rfl (ql_gyes rfl (ql_pure tabOk rfl rfl (ql_gyes rfl ?_))))))))
            refine ql_index tabOk rfl rfl rfl rfl rfl (by omega) (by omega) ?_
            (refine ql_gyes rfl (ql_pure tabOk rfl rfl (ql_gyes rfl ?_)))
            refine ql_load1 (v := .int .i64 (hdL L i).t) tabOk rfl rfl rfl (fun w hs => by rw [hdL_get hi]; exact RdH.at2 (RdE.keep h hs.chg0) i hi) ?_
            by_cases c2 : b ≤ (hdL L i).t
            · (refine ql_gyes rfl (ql_pure tabOk rfl rfl (ql_gyes rfl (ql_geqT tabOk rfl rfl rfl (by omega) (ql_pure tabOk rfl rfl (q_nil (q_cond_true rfl (q_seq (q_region ?_)))))))); (iterate 3 refine ql_pure tabOk rfl rfl ?_); refine q_nil (q_ret ?_))
              refine q_fin tabOk rfl (by repeat constructor) fun w hs => ?_
              exact ⟨⟨(n + 1, 0), rfl, .inl ⟨rfl, by simp, ⟨i, hi, c1, c2⟩, fun m h1 h2 => hno m h1 (by dsimp only at h2; omega)⟩⟩, hs.chg0⟩
            · (refine ql_gyes rfl (ql_pure tabOk rfl rfl (ql_gyes rfl (ql_geqF tabOk rfl rfl rfl (by omega) (ql_pure tabOk rfl rfl (q_nil (q_cond_false rfl (q_skip (q_blk (q_region (ql_pure tabOk rfl rfl (ql_ar tabOk rfl rfl rfl rfl (by omega) (by omega) ?_))))))))))); refine ql_pure tabOk rfl rfl (q_nil ?_))
              exact hK2 (i + 1) _ _ ⟨by omega, fun j hj => by
                by_cases e : j = i
                · rw [e]; exact fun h => c2 h.2
                · exact hnf j (by omega)⟩ (by omega) ⟨rfl, rfl, rfl, rfl, rfl, rfl, trivial⟩ (by repeat constructor)
          · (refine ql_pure tabOk rfl rfl (ql_eqlF tabOk rfl rfl rfl (by omega) (ql_pure tabOk rfl rfl ?_)); (iterate 7 refine ql_gno rfl rfl rfl ?_); refine ql_pure tabOk rfl rfl (q_nil (q_cond_false rfl (q_skip (q_blk (q_region (ql_pure tabOk rfl rfl (ql_ar tabOk rfl rfl rfl rfl (by omega) (by omega) (ql_pure tabOk rfl rfl (q_nil ?_))))))))))
            exact hK2 (i + 1) _ _ ⟨by omega, fun j hj => by
              by_cases e : j = i
              · rw [e]; exact fun h => c1 h.1
              · exact hnf j (by omega)⟩ (by omega) ⟨rfl, rfl, rfl, rfl, rfl, rfl, trivial⟩ (by repeat constructor)
        · obtain rfl : i = L.length := by omega
          clear hc hK2
          (refine q_exit _ rfl (q_blk (q_region (ql_pure tabOk rfl rfl (ql_ar tabOk rfl rfl rfl rfl (by omega) (by omega) (ql_pure tabOk rfl rfl (q_nil ?_)))))))
          exact hK (n + 1) _ _ ⟨by omega, fun m h1 h2 => by
            by_cases e : m = n + 1
            · rw [e]
              rintro ⟨j, h3, h4⟩
              exact hnf j h3 h4
            · exact hno m h1 (by omega)⟩ (by omega) ⟨rfl, rfl, rfl, rfl, lookI rfl (by omega), trivial⟩ (by repeat constructor)
    · obtain rfl : n = L.length := by omega
      (refine q_exit _ rfl (q_seq (q_region (ql_pure tabOk rfl rfl (ql_pure tabOk rfl rfl (q_nil (q_ret ?_)))))))
      refine q_fin tabOk rfl (by repeat constructor) fun w hs => ?_
      exact ⟨⟨(0, 6), rfl, .inr ⟨rfl, .inr hno⟩⟩, hs.chg0⟩
end Go.Proofs.YtopdmadgkjdgcaaGreat

/- Walks: whether some holds guard a span, by the package. -/
namespace Go.Proofs.YtopdmadgkjdgcaaGreat
set_option maxRecDepth 4000
open Go Go.Eng
def pIn (n : Int) : Value → Bool
  | .int _ i => inB i 0 (n - 1)
  | _ => false
theorem grd1_p (w : World) (b n c : Nat) (a : Option Addr) (C : List Int) {t : TypeId} (hn : n ≤ 1000) (hb : Blk w b [.slice a n c] t) : PredAt Tryz.prog tab w (.func (.func 143) #[] #[.pointer (some ⟨b, 0, none⟩)]) (ints C) (pIn n) := by
  refine ⟨_, _, _, rfl, rfl, fun w' hw' x hx => ?_⟩
  obtain ⟨i, _, rfl⟩ := List.mem_map.1 hx
  have hb' := hb.keep hw'
  refine q_of (Sat.nil w' M0) Tryz.func143 rfl (by simp [Tryz.ntmps143]) ?_
  (refine q_seq (q_region (ql_pure tabOk rfl rfl (q_nil (q_seq (q_region (ql_pure tabOk rfl rfl ?_)))))); refine ql_loadP tabOk rfl rfl rfl (by assumption) (by rfl) ?_; refine ql_pure tabOk rfl rfl (ql_ar tabOk rfl rfl rfl rfl (by omega) (by omega) ?_))
  refine ql_callv (val := .bool (inB i 0 ((n : Int) - 1))) tabOk rfl rfl rfl rfl (fun w hs => ?_) ?_; exact rfin_ca i 0 ((n : Int) - 1) w
  (refine ql_pure tabOk rfl rfl (q_nil (q_ret ?_)))
  refine q_fin tabOk rfl (by repeat constructor) fun w hs => ?_
  exact ⟨rfl, hs.chg0⟩
/-- The holds that a chain names. -/
def someL (L : List Hd) (C : List Int) (k : Nat) : List Hd := ((List.range k).filter fun i : Nat => decide ((i : Int) ∈ C)).map (hdL L)
theorem some_len (L : List Hd) (C : List Int) (k : Nat) : (someL L C k).length ≤ k := by
  unfold someL
  rw [List.length_map]
  exact Nat.le_trans (List.length_filter_le _ _) (by simp)
theorem some_mem {L : List Hd} {C : List Int} (hok : okC L C = true) {x : Hd} : x ∈ someL L C L.length ↔ x ∈ hC L C := by
  unfold someL hC
  rw [List.mem_map, List.mem_map]
  constructor
  · rintro ⟨i, hi, rfl⟩
    rw [List.mem_filter, decide_eq_true_iff] at hi
    exact ⟨i, hi.2, by rw [Int.toNat_natCast]⟩
  · rintro ⟨i, hi, rfl⟩
    have hb := inB_iff.1 (List.all_eq_true.1 hok i hi)
    refine ⟨i.toNat, ?_, rfl⟩
    rw [List.mem_filter, decide_eq_true_iff, List.mem_range, Int.toNat_of_nonneg hb.1]
    exact ⟨by omega, hi⟩
theorem some_next (L : List Hd) (C : List Int) (k : Nat) : someL L C (k + 1) = if (k : Int) ∈ C then someL L C k ++ [hdL L k] else someL L C k := by
  unfold someL
  rw [List.range_succ, List.filter_append, List.map_append]
  split
  · rename_i h
    rw [List.filter_cons_of_pos (by simpa using h)]
    rfl
  · rename_i h
    rw [List.filter_cons_of_neg (by simpa using h)]
    simp
theorem rgrd_no (w : World) (lo hi : Nat) (L : List Hd) (v cv : Value) (a b : Int) (h : RdH w lo hi v L) (hlen : L.length ≤ maxLen) (h0 : chkSp L a b ≠ 0) : Ca Tryz.prog 74 [v, .int .i64 a, .int .i64 b, cv] w fun x w' => x = .tuple #[.bool false, .int .i64 (chkSp L a b)] ∧ Chg [] w w' := by
  obtain ⟨va, vc, rfl, hsa⟩ := RdH.outI h
  refine q_of (Sat.nil w M0) Tryz.func74 rfl (by simp [Tryz.ntmps74]) ?_
  (refine q_seq (q_region ?_))
  refine ql_box rfl rfl (fun b4 => ?_)
  (refine ql_pure tabOk rfl rfl (ql_pure tabOk rfl rfl (q_nil (q_seq (q_region ?_)))); refine ql_loadBa tabOk rfl rfl rfl ?_; refine ql_pure tabOk rfl rfl (ql_pure tabOk rfl rfl ?_))
  refine ql_callv (val := .int .i64 (chkSp L a b)) tabOk rfl rfl rfl rfl (fun w hs => ?_) ?_; exact spanned_ca w lo hi L _ a b (RdE.keep h hs.chg0) hlen
  (refine ql_pure tabOk rfl rfl (q_nil (q_seq (q_block (q_seq (q_region (ql_pure tabOk rfl rfl (ql_neqT tabOk rfl rfl rfl (by omega) (ql_pure tabOk rfl rfl (q_nil (q_cond_true rfl (q_seq ?_))))))))))); refine q_region ?_; (iterate 3 refine ql_pure tabOk rfl rfl ?_); refine q_nil (q_ret ?_))
  refine q_fin tabOk rfl (by repeat constructor) fun w hs => ?_
  exact ⟨rfl, hs.chg0⟩
set_option maxHeartbeats 4000000 in
theorem rgrd_ok (w : World) (lo hi lo2 hi2 : Nat) (L : List Hd) (v mv : Value) (a b : Int) (C : List Int) (h : RdH w lo hi v L) (hM : RdI w lo2 hi2 mv C) (hC1 : C.length ≤ 1000) (h0 : SpOk L a b) : Ca Tryz.prog 74 [v, .int .i64 a, .int .i64 b, mv] w fun x w' => (∃ y : Bool × Int, x = .tuple #[.bool y.1, .int .i64 y.2] ∧ GrdsR L a b C y) ∧ Chg [] w w' := by
  have hb := h0.rb
  have hn1 := h0.g.n1
  have hn30 := h0.g.n30
  have hlen : L.length ≤ maxLen := by simp only [maxLen]; omega
  obtain ⟨va, vc, rfl, hsa⟩ := RdH.outI h
  obtain ⟨gb, go, rfl⟩ := hsa (by omega)
  refine q_of (Sat.nil w M0) Tryz.func74 rfl (by simp [Tryz.ntmps74]) ?_
  (refine q_seq (q_region ?_))
  refine ql_box rfl rfl (fun b4 => ?_)
  (refine ql_pure tabOk rfl rfl (ql_pure tabOk rfl rfl (q_nil (q_seq (q_region ?_)))); refine ql_loadBa tabOk rfl rfl rfl ?_; refine ql_pure tabOk rfl rfl (ql_pure tabOk rfl rfl ?_))
  refine ql_callv (val := .int .i64 0) tabOk rfl rfl rfl rfl (fun w hs => ?_) ?_; exact by have := spanned_ca w lo hi L _ a b (RdE.keep h hs.chg0) hlen; rw [chkSp_zero.2 h0] at this; exact this
  (refine ql_pure tabOk rfl rfl (q_nil (q_seq (q_block (q_seq (q_region (ql_pure tabOk rfl rfl (ql_neqF tabOk rfl rfl rfl (by omega) (ql_pure tabOk rfl rfl (q_nil (q_cond_false rfl (q_seq ?_))))))))))); refine q_region (ql_pure tabOk rfl rfl (ql_pure tabOk rfl rfl ?_)))
  refine ql_callv (val := .bool (okC L C)) tabOk rfl rfl rfl rfl (fun w hs => ?_) ?_; exact by have := all_rint w lo2 hi2 mv (.func (.func 143) #[] #[.pointer (some ⟨b4, 0, none⟩)]) (ints C) (pIn L.length) (RdE.keep hM hs.chg0) (fun i _ => by simp [ints, oneV]) (by simp [ints]; omega) (grd1_p w b4 L.length vc _ C (by omega) (hs.blk (b := b4) (by repeat constructor))); rw [show (ints C).all (pIn L.length) = okC L C from by simp only [ints, List.all_map]; rfl] at this; exact this
  cases hok : okC L C with
  | false =>
    (refine ql_pure tabOk rfl rfl (ql_pure tabOk rfl rfl (q_nil (q_cond_true rfl (q_seq (q_region (ql_pure tabOk rfl rfl (ql_pure tabOk rfl rfl (q_nil (q_ret ?_))))))))))
    refine q_fin tabOk rfl (by repeat constructor) fun w hs => ?_
    exact ⟨⟨(false, 1), rfl, .inl ⟨hok, rfl⟩⟩, hs.chg0⟩
  | true =>
    (refine ql_pure tabOk rfl rfl (ql_pure tabOk rfl rfl (q_nil (q_cond_false rfl (q_skip (q_blk (q_seq (q_region (ql_pure tabOk rfl rfl (q_nil (q_seq (q_seq ?_))))))))))); refine q_region ?_; refine ql_loadBa tabOk rfl rfl rfl ?_; refine ql_pure tabOk rfl rfl (ql_pure tabOk rfl rfl (q_nil (q_block ?_))))
    refine q_conv (H' := [.ow (.slice none 0 0) 28 3 (someL L C 0).length (hdC (someL L C 0)), .pt b4 [.slice (some ⟨gb, go, none⟩) L.length vc] 23]) (fun w' hs => Sat.ownil hs 28 3) ?_
    refine q_loop (σ := Nat × Value) (fun ⟨k, u⟩ => k ≤ L.length) (fun ⟨k, _⟩ => L.length - k) (fun ⟨k, u⟩ => [(1, .int .i64 a), (2, .int .i64 b), (3, mv), (4, .pointer (some ⟨b4, 0, none⟩)), (11, u), (30, .slice (some ⟨gb, go, none⟩) L.length vc), (31, .int .i64 L.length), (32, .int .i64 k)])
      (fun ⟨k, u⟩ => [.ow u 28 3 (someL L C k).length (hdC (someL L C k)), .pt b4 [.slice (some ⟨gb, go, none⟩) L.length vc] 23]) (0, .slice none 0 0) (by dsimp only; omega) ⟨rfl, rfl, rfl, rfl, rfl, rfl, rfl, rfl, trivial⟩ (by repeat constructor) ?_
    rintro ⟨k, u⟩ hk K hK
    dsimp only at hk hK ⊢
    have hsl := some_len L C k
    (refine q_seq (q_region (ql_pure tabOk rfl rfl (q_nil (q_seq ?_)))))
    refine q_if rfl (fun hc => ?_) (fun hc => ?_)
    · have hk2 : k < L.length := by omega
      clear hc
      have hnx := some_next L C k
      rw [hdL_get hk2] at hnx
      (refine q_skip (q_seq (q_block (q_seq (q_region (ql_pure tabOk rfl rfl ?_))))))
      refine ql_index tabOk rfl rfl rfl rfl rfl (by omega) (by omega) ?_
      refine ql_loadA (cs := [.int .i64 L[k].who, .int .i64 L[k].f, .int .i64 L[k].t]) tabOk rfl rfl rfl rfl (fun w hs q hq => RdH.at (RdE.keep h hs.chg0) k hk2 q hq) ?_
      skip
      refine ql_alloc zero28 rfl (fun b13 => ?_)
      (refine ql_pure tabOk rfl rfl ?_; refine ql_setA tabOk rfl rfl rfl rfl rfl (by repeat constructor) rfl ?_; refine q_nil (q_seq (q_region (ql_pure tabOk rfl rfl (ql_pure tabOk rfl rfl ?_)))))
      refine ql_callv (val := .bool (decide ((k : Int) ∈ C))) tabOk rfl rfl rfl rfl (fun w hs => ?_) ?_; exact contI_ca w lo2 hi2 mv C k (RdE.keep hM hs.chg0) (by omega)
      by_cases hm : (k : Int) ∈ C
      · rw [if_pos hm] at hnx
        rw [decide_eq_true hm]
        (refine q_nil (q_cond_true rfl (q_region (ql_pure tabOk rfl rfl ?_))); refine ql_loadABa tabOk rfl rfl rfl ?_)
        refine ql_mkS 28 [.int .i64 L[k].who, .int .i64 L[k].f, .int .i64 L[k].t] rfl (by kernel_rfl) rfl (fun bn => ?_)
        skip
        refine ql_append (q := 1) (news := [.int .i64 L[k].who, .int .i64 L[k].f, .int .i64 L[k].t]) slH rfl rfl rfl (fun v' => by repeat constructor) (fun w' hs => ⟨_, _, Blk.rdN (hs.blk (b := bn) (by repeat constructor)) rfl⟩) (by simp [oneV]) (by omega) (by omega) (fun u' => ?_)
        (refine ql_pure tabOk rfl rfl (q_nil (q_blk (q_region (ql_ar tabOk rfl rfl rfl rfl (by omega) (by omega) (ql_pure tabOk rfl rfl (q_nil ?_)))))))
        exact hK (k + 1, u') _ _ (by dsimp only; omega) (by dsimp only; omega) ⟨rfl, rfl, rfl, rfl, rfl, rfl, rfl, rfl, trivial⟩ (by dsimp only; rw [hnx, hdC_snoc, List.length_append, List.length_singleton]; repeat constructor)
      · rw [if_neg hm] at hnx
        rw [decide_eq_false hm]
        (refine q_nil (q_cond_false rfl (q_skip (q_blk (q_region (ql_ar tabOk rfl rfl rfl rfl (by omega) (by omega) (ql_pure tabOk rfl rfl (q_nil ?_))))))))
        exact hK (k + 1, u) _ _ (by dsimp only; omega) (by dsimp only; omega) ⟨rfl, rfl, rfl, rfl, rfl, rfl, rfl, rfl, trivial⟩ (by dsimp only; rw [hnx]; repeat constructor)
    · obtain rfl : k = L.length := by omega
      clear hc hK
      have hgd := gd_congr (a := a) (b := b) (fun x => some_mem hok (x := x))
      have hsub : ∀ x ∈ someL L C L.length, x ∈ L := fun x hx => by
        unfold someL at hx
        obtain ⟨i, hi, rfl⟩ := List.mem_map.1 hx
        rw [List.mem_filter, List.mem_range] at hi
        exact hdL_mem hi.1
      have hra := h0.ra
      generalize someL L C L.length = S at hsl hgd hsub ⊢
      (refine q_exit _ rfl (q_seq (q_region ?_)); (iterate 3 refine ql_pure tabOk rfl rfl ?_))
      refine ql_call (β := (Value × List Nat) × (Value × List Int) × Int) tabOk [] _ M0 rfl rfl rfl rfl (Sp.refl _) (fun _ h => h.elim) (fun w' hs => links_ca w' 0 w'.heap.size u S (own_rdH (hs.mem (c := .ow u 28 3 S.length (hdC S)) (by repeat constructor)) rfl) (fun x hx => by have := h0.g.all x (hsub x hx); omega) (by omega) a b h0.ra (by omega)) ?_
      rintro ⟨⟨v1, hl⟩, ⟨v2, ms⟩, e⟩ _ ⟨rfl, hlk⟩
      dsimp only [List.cons_append, List.nil_append] at hlk ⊢
      have hfull := hlk.full (by omega)
      by_cases he : e = b
      · (refine ql_pure tabOk rfl rfl ?_; (iterate 3 refine ql_ext tabOk rfl rfl rfl ?_); (iterate 3 refine ql_pure tabOk rfl rfl ?_); refine q_nil (q_seq (q_region (ql_pure tabOk rfl rfl (ql_pure tabOk rfl rfl (ql_eqlT tabOk rfl rfl rfl (by omega) (ql_pure tabOk rfl rfl (ql_pure tabOk rfl rfl (q_nil (q_ret ?_))))))))))
        refine q_fin tabOk rfl (by repeat constructor) fun w hs => ?_
        exact ⟨⟨(true, 0), rfl, .inr ⟨hok, rfl, ⟨fun _ => hgd.1 (hfull.1 he), fun _ => rfl⟩⟩⟩, hs.chg0⟩
      · (refine ql_pure tabOk rfl rfl ?_; (iterate 3 refine ql_ext tabOk rfl rfl rfl ?_); (iterate 3 refine ql_pure tabOk rfl rfl ?_); refine q_nil (q_seq (q_region (ql_pure tabOk rfl rfl (ql_pure tabOk rfl rfl (ql_eqlF tabOk rfl rfl rfl (by omega) (ql_pure tabOk rfl rfl (ql_pure tabOk rfl rfl (q_nil (q_ret ?_))))))))))
        refine q_fin tabOk rfl (by repeat constructor) fun w hs => ?_
        exact ⟨⟨(false, 0), rfl, .inr ⟨hok, rfl, ⟨(fun h => by cases h), fun hg => absurd (hfull.2 (hgd.2 hg)) he⟩⟩⟩, hs.chg0⟩
end Go.Proofs.YtopdmadgkjdgcaaGreat

/- RifleGuards. Written by gen_LwJ.py. -/
namespace Go.Proofs.YtopdmadgkjdgcaaGreat
set_option maxRecDepth 4000
open Go Go.Eng
theorem cloneHd_ca (w : World) (lo hi : Nat) (v : Value) (l : List Hd) (h : RdH w lo hi v l) (hlen : l.length ≤ 1000) : Ca Tryz.prog 67 [v] w fun x w' => ∃ u : Value, x = u ∧ Sat w M0 [.ow u 28 3 l.length (hdC l)] w' := by
  obtain ⟨a, c, rfl, ha⟩ := RdH.outI h
  refine q_of (Sat.nil w M0) Tryz.func67 rfl (by simp [Tryz.ntmps67]) ?_
  refine q_conv (H' := [.ow (.slice none 0 0) 28 3 0 (hdC [])]) (fun w' hs => Sat.ownil hs 28 3) ?_
  (refine q_seq (q_region (ql_pure tabOk rfl rfl (q_nil (q_seq (q_region (ql_pure tabOk rfl rfl ?_)))))))
  refine ql_append (q := l.length) (news := hdC l) slH rfl rfl rfl (fun v' => by repeat constructor) (fun w' hs => ⟨_, _, RdH.row (RdE.keep h hs.chg0)⟩) (hdC_one l) (by omega) (by omega) (fun u' => ?_)
  (refine ql_pure tabOk rfl rfl (q_nil (q_ret ?_)))
  refine q_fin tabOk rfl (by repeat constructor) fun w hs => ?_
  exact ⟨u', rfl, hs.sp (by simp only [hdC, List.flatMap_nil, List.nil_append, Nat.zero_add]; repeat constructor)⟩
theorem all_sub {L : List Hd} {hs : List Nat} {C : List Int} (hi : ∀ i ∈ hs, i < L.length) (hp : C.Perm (nI hs)) : okC L C = true ∧ ∀ x, x ∈ hC L C ↔ x ∈ hs.map (hdL L) := by
  have hm : ∀ c, c ∈ C ↔ ∃ i ∈ hs, (i : Int) = c := fun c => by
    rw [hp.mem_iff]
    simp [nI]
  refine ⟨List.all_eq_true.2 fun c hc => ?_, fun x => ?_⟩
  · obtain ⟨i, h1, rfl⟩ := (hm c).1 hc
    exact inB_iff.2 ⟨by omega, by have := hi i h1; omega⟩
  · unfold hC
    rw [List.mem_map, List.mem_map]
    constructor
    · rintro ⟨c, hc, rfl⟩
      obtain ⟨i, h1, rfl⟩ := (hm c).1 hc
      exact ⟨i, h1, by rw [Int.toNat_natCast]⟩
    · rintro ⟨i, h1, rfl⟩
      exact ⟨(i : Int), (hm _).2 ⟨i, h1, rfl⟩, by rw [Int.toNat_natCast]⟩
theorem lk_same {L : List Hd} {a b : Int} {h1 h2 : List Nat} {m1 m2 : List Int} (g1 : Lk L b a h1 m1 b) (g2 : Lk L b a h2 m2 b) : h1.length = h2.length := by
  have k1 := lk_mono g1 g2 (Int.le_refl _) (Int.le_refl _) fun _ h => h
  have k2 := lk_mono g2 g1 (Int.le_refl _) (Int.le_refl _) fun _ h => h
  omega
set_option maxHeartbeats 8000000 in
set_option maxRecDepth 20000 in
theorem rifleGuards_ca (w : World) (L : List Hd) (v0 : Value) (a b : Int) (C M : List Int) (cv0 mv0 : Value) (h : RdH w 0 w.heap.size v0 L) (hRC : RdI w 0 w.heap.size cv0 C) (hM : RdI w 0 w.heap.size mv0 M) (hl1 : L.length ≤ maxLen) (hl2 : C.length ≤ maxLen) (hl3 : M.length ≤ maxLen) : Ca Tryz.prog 12 [v0, .int .i64 a, .int .i64 b, cv0, mv0] w fun r w' => r = .bool true ∧ Chg [] w w' := by
  simp only [maxLen] at hl1 hl2 hl3
  obtain ⟨va, vc, ev, _⟩ := RdH.outI h
  obtain ⟨ca, cc, ec, _⟩ := RdI.outI hRC
  obtain ⟨ma, mc, em, _⟩ := RdI.outI hM
  refine q_of (Sat.nil w M0) Tryz.func12 rfl (by simp [Tryz.ntmps12]) ?_
  by_cases hbig : 35 < L.length ∨ 40 < C.length ∨ 40 < M.length
  · subst ev ec em
    by_cases c1 : 35 < L.length
    · (refine q_seq (q_region (ql_pure tabOk rfl rfl (q_nil (q_seq (q_seq (q_region (ql_pure tabOk rfl rfl (ql_pure tabOk rfl rfl (ql_gtrT tabOk rfl rfl rfl (by omega) (ql_pure tabOk rfl rfl ?_)))))))))); (iterate 3 refine ql_gno rfl rfl rfl ?_); refine ql_pure tabOk rfl rfl (ql_pure tabOk rfl rfl ?_); (iterate 3 refine ql_gno rfl rfl rfl ?_); refine ql_pure tabOk rfl rfl (q_nil (q_cond_true rfl (q_seq (q_region ?_)))))
      refine ql_callv (val := .bool true) tabOk rfl rfl rfl rfl (fun w hs => ?_) ?_; exact rawake_ca w
      (refine ql_pure tabOk rfl rfl (q_nil (q_ret ?_)))
      refine q_fin tabOk rfl (by repeat constructor) fun w hs => ?_
      exact ⟨rfl, hs.chg0⟩
    · by_cases c2 : 40 < C.length
      · (refine q_seq (q_region (ql_pure tabOk rfl rfl (q_nil (q_seq (q_seq (q_region (ql_pure tabOk rfl rfl (ql_pure tabOk rfl rfl (ql_gtrF tabOk rfl rfl rfl (by omega) (ql_pure tabOk rfl rfl (ql_gyes rfl ?_))))))))))); refine ql_pure tabOk rfl rfl (ql_gyes rfl (ql_pure tabOk rfl rfl (ql_gyes rfl (ql_gtrT tabOk rfl rfl rfl (by omega) (ql_pure tabOk rfl rfl (ql_pure tabOk rfl rfl ?_)))))); (iterate 3 refine ql_gno rfl rfl rfl ?_); refine ql_pure tabOk rfl rfl (q_nil (q_cond_true rfl (q_seq (q_region ?_)))))
        refine ql_callv (val := .bool true) tabOk rfl rfl rfl rfl (fun w hs => ?_) ?_; exact rawake_ca w
        (refine ql_pure tabOk rfl rfl (q_nil (q_ret ?_)))
        refine q_fin tabOk rfl (by repeat constructor) fun w hs => ?_
        exact ⟨rfl, hs.chg0⟩
      · have c3 : 40 < M.length := by omega
        (refine q_seq (q_region (ql_pure tabOk rfl rfl (q_nil (q_seq (q_seq (q_region (ql_pure tabOk rfl rfl (ql_pure tabOk rfl rfl (ql_gtrF tabOk rfl rfl rfl (by omega) (ql_pure tabOk rfl rfl (ql_gyes rfl ?_))))))))))); refine ql_pure tabOk rfl rfl (ql_gyes rfl (ql_pure tabOk rfl rfl (ql_gyes rfl (ql_gtrF tabOk rfl rfl rfl (by omega) (ql_pure tabOk rfl rfl (ql_pure tabOk rfl rfl (ql_gyes rfl (ql_pure tabOk rfl rfl (ql_gyes rfl (ql_pure tabOk rfl rfl (ql_gyes rfl ?_))))))))))); refine ql_gtrT tabOk rfl rfl rfl (by omega) (ql_pure tabOk rfl rfl (q_nil (q_cond_true rfl (q_seq (q_region ?_))))))
        refine ql_callv (val := .bool true) tabOk rfl rfl rfl rfl (fun w hs => ?_) ?_; exact rawake_ca w
        (refine ql_pure tabOk rfl rfl (q_nil (q_ret ?_)))
        refine q_fin tabOk rfl (by repeat constructor) fun w hs => ?_
        exact ⟨rfl, hs.chg0⟩
  · have d1 : L.length ≤ 35 := by omega
    have d2 : C.length ≤ 40 := by omega
    have d3 : M.length ≤ 40 := by omega
    clear hbig
    have hm1 : L.length ≤ maxLen := by simp only [maxLen]; omega
    refine q_conv (H' := []) (fun w' hs => hs) ?_
    subst ev ec em
    (refine q_seq (q_region (ql_pure tabOk rfl rfl (q_nil (q_seq (q_seq (q_region (ql_pure tabOk rfl rfl (ql_pure tabOk rfl rfl (ql_gtrF tabOk rfl rfl rfl (by omega) (ql_pure tabOk rfl rfl (ql_gyes rfl ?_))))))))))); refine ql_pure tabOk rfl rfl (ql_gyes rfl (ql_pure tabOk rfl rfl (ql_gyes rfl (ql_gtrF tabOk rfl rfl rfl (by omega) (ql_pure tabOk rfl rfl (ql_pure tabOk rfl rfl (ql_gyes rfl (ql_pure tabOk rfl rfl (ql_gyes rfl (ql_pure tabOk rfl rfl (ql_gyes rfl ?_))))))))))); refine ql_gtrF tabOk rfl rfl rfl (by omega) (ql_pure tabOk rfl rfl (q_nil (q_cond_false rfl (q_skip (q_seq (q_region (ql_pure tabOk rfl rfl ?_))))))))
    generalize ev : (Value.slice va L.length vc) = v0 at h ⊢
    generalize ec : (Value.slice ca C.length cc) = cv0 at hRC ⊢
    generalize em : (Value.slice ma M.length mc) = mv0 at hM ⊢
    refine ql_call (β := Value) tabOk [] _ M0 rfl rfl rfl rfl (Sp.refl _) (fun _ h => h.elim) (fun w' hs => cloneHd_ca w' 0 w.heap.size _ L (RdE.keep h hs.chg0) (by omega)) ?_
    rintro _ vo rfl
    dsimp only [List.cons_append, List.nil_append]
    refine ql_fact (fun w hs => hs.slice2 (v := vo) (by repeat constructor)) ?_
    rintro ⟨oa, oc, rfl⟩
    (refine ql_pure tabOk rfl rfl ?_)
    refine ql_call (β := Value) tabOk [] _ M0 rfl rfl rfl rfl (Sp.refl _) (fun _ h => h.elim) (fun w' hs => cloneI_ca w' 0 w.heap.size _ C (RdE.keep hRC hs.chg0) (by omega)) ?_
    rintro _ vi rfl
    dsimp only [List.cons_append, List.nil_append]
    refine ql_fact (fun w hs => hs.slice2 (v := vi) (by repeat constructor)) ?_
    rintro ⟨ia, ic, rfl⟩
    (refine ql_pure tabOk rfl rfl ?_)
    refine ql_call (β := Value) tabOk [] _ M0 rfl rfl rfl rfl (Sp.refl _) (fun _ h => h.elim) (fun w' hs => cloneI_ca w' 0 w.heap.size _ M (RdE.keep hM hs.chg0) (by omega)) ?_
    rintro _ vu rfl
    dsimp only [List.cons_append, List.nil_append]
    refine ql_fact (fun w hs => hs.slice2 (v := vu) (by repeat constructor)) ?_
    rintro ⟨ua, uc, rfl⟩
    (refine ql_pure tabOk rfl rfl ?_)
    refine ql_call (β := Value) tabOk [] _ M0 rfl rfl rfl rfl (Sp.refl _) (fun _ h => h.elim) (fun w' hs => rholds_ca w' 0 w.heap.size _ L (RdE.keep h hs.chg0) (by omega)) ?_
    rintro _ vr rfl
    dsimp only [List.cons_append, List.nil_append]
    refine ql_fact (fun w hs => hs.slice2 (v := vr) (by repeat constructor)) ?_
    rintro ⟨ra, rc, rfl⟩
    ((iterate 4 refine ql_pure tabOk rfl rfl ?_); refine q_nil (q_seq (q_seq (q_region (ql_pure tabOk rfl rfl ?_)))))
    refine ql_callv (val := .int .i64 (chkG L)) tabOk rfl rfl rfl rfl (fun w hs => ?_) ?_; exact checkG_ca w 0 w.heap.size L _ (own_rdH (hs.mem (c := .ow (.slice oa L.length oc) 28 3 L.length (hdC L)) (by repeat constructor)) rfl) hm1
    (refine ql_pure tabOk rfl rfl ?_)
    refine ql_callv (val := .int .i64 (chkG L)) tabOk rfl rfl rfl rfl (fun w hs => ?_) ?_; exact rchkG_ca w 0 w.heap.size L _ (own_rdH (hs.mem (c := .ow (.slice ra L.length rc) 218 3 L.length (hdC L)) (by repeat constructor)) rfl) hm1
    (refine ql_neqF tabOk rfl rfl rfl (by omega) (q_nil (q_cond_false rfl (q_skip (q_seq (q_region ?_))))); (iterate 3 refine ql_pure tabOk rfl rfl ?_))
    by_cases hsp : chkSp L a b = 0
    · have h0 := chkSp_zero.1 hsp
      have hbb := h0.rb
      have hn30 := h0.g.n30
      refine ql_call (β := Int × Int) tabOk [] _ M0 rfl rfl rfl rfl (Sp.refl _) (fun _ h => h.elim) (fun w' hs => gap_ok w' 0 w'.heap.size L _ a b (own_rdH (hs.mem (c := .ow (.slice oa L.length oc) 28 3 L.length (hdC L)) (by repeat constructor)) rfl) (by omega) h0) ?_
      rintro ⟨g1, e1⟩ _ ⟨rfl, hg1⟩
      dsimp only [List.cons_append, List.nil_append]
      (refine ql_pure tabOk rfl rfl (ql_ext tabOk rfl rfl rfl (ql_ext tabOk rfl rfl rfl (ql_pure tabOk rfl rfl (ql_pure tabOk rfl rfl (q_nil (q_seq (q_region ?_))))))); (iterate 3 refine ql_pure tabOk rfl rfl ?_))
      refine ql_call (β := Int × Int) (ψ := fun y v => v = .tuple #[.int .i64 y.1, .int .i64 y.2] ∧ GapR L a b y.1 y.2) (L' := fun _ => []) tabOk [] _ M0 rfl rfl rfl rfl (Sp.refl _) (fun _ h => h.elim) (fun w' hs => (rGap_ok w' 0 w'.heap.size L _ a b (own_rdH (hs.mem (c := .ow (.slice ra L.length rc) 218 3 L.length (hdC L)) (by repeat constructor)) rfl) h0).mono fun x w2 ⟨⟨y, h1, h2⟩, h3⟩ => ⟨y, ⟨h1, h2⟩, (Sat.nil w' M0).keep h3⟩) ?_
      rintro ⟨g2, e2⟩ _ ⟨rfl, hg2⟩
      dsimp only [List.cons_append, List.nil_append]
      obtain ⟨rfl, rfl⟩ : g1 = g2 ∧ e1 = e2 := gap_uniq hg1 hg2
      clear hg1 hg2
      (refine ql_pure tabOk rfl rfl (ql_ext tabOk rfl rfl rfl (ql_ext tabOk rfl rfl rfl (ql_pure tabOk rfl rfl (ql_pure tabOk rfl rfl (q_nil (q_seq (q_seq (q_region (ql_pure tabOk rfl rfl (ql_pure tabOk rfl rfl (ql_neqF tabOk rfl rfl rfl (by omega) ?_))))))))))); refine ql_pure tabOk rfl rfl (ql_gyes rfl (ql_pure tabOk rfl rfl (ql_gyes rfl (ql_pure tabOk rfl rfl (ql_gyes rfl (ql_neqF tabOk rfl rfl rfl (by omega) (ql_pure tabOk rfl rfl (q_nil (q_cond_false rfl (q_skip (q_seq ?_))))))))))); refine q_region ?_; (iterate 4 refine ql_pure tabOk rfl rfl ?_))
      refine ql_call (β := Bool × Int) (ψ := fun y v => v = .tuple #[.bool y.1, .int .i64 y.2] ∧ GrdsR L a b C y) (L' := fun _ => []) tabOk [] _ M0 rfl rfl rfl rfl (Sp.refl _) (fun _ h => h.elim) (fun w' hs => (rgrd_ok w' 0 w'.heap.size 0 w'.heap.size L _ _ a b C (own_rdH (hs.mem (c := .ow (.slice oa L.length oc) 28 3 L.length (hdC L)) (by repeat constructor)) rfl) (own_rdI (hs.mem (c := .ow (.slice ia C.length ic) 3 1 C.length (ints C)) (by repeat constructor)) rfl) (by omega) h0).mono fun x w2 ⟨⟨y, h1, h2⟩, h3⟩ => ⟨y, ⟨h1, h2⟩, (Sat.nil w' M0).keep h3⟩) ?_
      rintro ⟨z1, x1⟩ _ ⟨rfl, hz1⟩
      dsimp only [List.cons_append, List.nil_append]
      (refine ql_pure tabOk rfl rfl (ql_ext tabOk rfl rfl rfl (ql_ext tabOk rfl rfl rfl (ql_pure tabOk rfl rfl (ql_pure tabOk rfl rfl (q_nil (q_seq (q_region ?_))))))); (iterate 4 refine ql_pure tabOk rfl rfl ?_))
      refine ql_call (β := Bool × Int) (ψ := fun y v => v = .tuple #[.bool y.1, .int .i64 y.2] ∧ GrdsR L a b C y) (L' := fun _ => []) tabOk [] _ M0 rfl rfl rfl rfl (Sp.refl _) (fun _ h => h.elim) (fun w' hs => (rGrd_ok w' 0 w'.heap.size 0 w.heap.size L _ _ a b C (own_rdH (hs.mem (c := .ow (.slice ra L.length rc) 218 3 L.length (hdC L)) (by repeat constructor)) rfl) (RdE.keep hRC hs.chg0) (by omega) h0).mono fun x w2 ⟨⟨y, h1, h2⟩, h3⟩ => ⟨y, ⟨h1, h2⟩, (Sat.nil w' M0).keep h3⟩) ?_
      rintro ⟨z2, x2⟩ _ ⟨rfl, hz2⟩
      dsimp only [List.cons_append, List.nil_append]
      obtain ⟨rfl, rfl⟩ : z1 = z2 ∧ x1 = x2 := by have := grds_uniq hz1 hz2; injection this with h1 h2; exact ⟨h1, h2⟩
      clear hz1 hz2
      (refine ql_pure tabOk rfl rfl (ql_ext tabOk rfl rfl rfl (ql_ext tabOk rfl rfl rfl (ql_pure tabOk rfl rfl (ql_pure tabOk rfl rfl (q_nil (q_seq (q_seq (q_region (ql_pure tabOk rfl rfl (ql_pure tabOk rfl rfl ?_)))))))))))
      refine ql_neb (p := z1) (q := z1) (by kernel_rfl) rfl rfl rfl ?_
      rw [show (!(z1 == z1)) = false from by cases z1 <;> rfl]
      (refine ql_pure tabOk rfl rfl (ql_gyes rfl (ql_pure tabOk rfl rfl (ql_gyes rfl (ql_pure tabOk rfl rfl (ql_gyes rfl (ql_neqF tabOk rfl rfl rfl (by omega) (ql_pure tabOk rfl rfl (q_nil (q_cond_false rfl (q_skip (q_seq ?_))))))))))); refine q_region ?_; (iterate 4 refine ql_pure tabOk rfl rfl ?_))
      refine ql_callv (val := .tuple #[.bool (mkK L a b M M.length), .int .i64 0]) tabOk rfl rfl rfl rfl (fun w hs => ?_) ?_; exact mks_ok w 0 w.heap.size 0 w.heap.size L _ _ M a b (own_rdH (hs.mem (c := .ow (.slice oa L.length oc) 28 3 L.length (hdC L)) (by repeat constructor)) rfl) (own_rdI (hs.mem (c := .ow (.slice ua M.length uc) 3 1 M.length (ints M)) (by repeat constructor)) rfl) (by omega) h0
      (refine ql_pure tabOk rfl rfl (ql_ext tabOk rfl rfl rfl (ql_ext tabOk rfl rfl rfl (ql_pure tabOk rfl rfl (ql_pure tabOk rfl rfl (q_nil (q_seq (q_region ?_))))))); (iterate 4 refine ql_pure tabOk rfl rfl ?_))
      refine ql_call (β := Bool) (ψ := fun y v => v = .tuple #[.bool y, .int .i64 0] ∧ (y = true ↔ Mk L a b M)) (L' := fun _ => []) tabOk [] _ M0 rfl rfl rfl rfl (Sp.refl _) (fun _ h => h.elim) (fun w' hs => (rMks_ok w' 0 w'.heap.size 0 w.heap.size L _ _ a b M (own_rdH (hs.mem (c := .ow (.slice ra L.length rc) 218 3 L.length (hdC L)) (by repeat constructor)) rfl) (RdE.keep hM hs.chg0) (by omega) h0).mono fun x w2 ⟨⟨y, h1, h2⟩, h3⟩ => ⟨y, ⟨h1, h2⟩, (Sat.nil w' M0).keep h3⟩) ?_
      rintro z3 _ ⟨rfl, hz3⟩
      dsimp only [List.cons_append, List.nil_append]
      obtain rfl : z3 = mkK L a b M M.length := by rw [Bool.eq_iff_iff, hz3, mkK_iff]
      clear hz3
      (refine ql_pure tabOk rfl rfl (ql_ext tabOk rfl rfl rfl (ql_ext tabOk rfl rfl rfl (ql_pure tabOk rfl rfl (ql_pure tabOk rfl rfl (q_nil (q_seq (q_seq (q_region (ql_pure tabOk rfl rfl (ql_pure tabOk rfl rfl ?_)))))))))))
      refine ql_neb (p := (mkK L a b M M.length)) (q := (mkK L a b M M.length)) (by kernel_rfl) rfl rfl rfl ?_
      rw [show (!((mkK L a b M M.length) == (mkK L a b M M.length))) = false from by cases mkK L a b M M.length <;> rfl]
      (refine ql_pure tabOk rfl rfl (ql_gyes rfl (ql_pure tabOk rfl rfl (ql_gyes rfl (ql_pure tabOk rfl rfl (ql_gyes rfl (ql_neqF tabOk rfl rfl rfl (by omega) (ql_pure tabOk rfl rfl (q_nil (q_cond_false rfl (q_skip (q_seq ?_))))))))))); refine q_region ?_; (iterate 3 refine ql_pure tabOk rfl rfl ?_))
      refine ql_call (β := (Value × List Int) × Int) tabOk [] _ M0 rfl rfl rfl rfl (Sp.refl _) (fun _ h => h.elim) (fun w' hs => chn_ok w' 0 w'.heap.size L _ a b (own_rdH (hs.mem (c := .ow (.slice oa L.length oc) 28 3 L.length (hdC L)) (by repeat constructor)) rfl) (by omega) h0) ?_
      rintro ⟨⟨uc2, CC⟩, e3⟩ _ ⟨rfl, hc3⟩
      dsimp only [List.cons_append, List.nil_append]
      (refine ql_pure tabOk rfl rfl (ql_ext tabOk rfl rfl rfl (ql_ext tabOk rfl rfl rfl (ql_pure tabOk rfl rfl (ql_pure tabOk rfl rfl (q_nil (q_seq (q_region ?_))))))); (iterate 3 refine ql_pure tabOk rfl rfl ?_))
      refine ql_call (β := (Value × List Int) × Int) tabOk [] _ M0 rfl rfl rfl rfl (Sp.refl _) (fun _ h => h.elim) (fun w' hs => mrk_ok w' 0 w'.heap.size L _ a b (own_rdH (hs.mem (c := .ow (.slice oa L.length oc) 28 3 L.length (hdC L)) (by repeat constructor)) rfl) (by omega) h0) ?_
      rintro ⟨⟨um2, MM⟩, e4⟩ _ ⟨rfl, hm4⟩
      dsimp only [List.cons_append, List.nil_append]
      (refine ql_pure tabOk rfl rfl (ql_ext tabOk rfl rfl rfl (ql_ext tabOk rfl rfl rfl (ql_pure tabOk rfl rfl (ql_pure tabOk rfl rfl (q_nil (q_seq (q_region ?_))))))); (iterate 3 refine ql_pure tabOk rfl rfl ?_))
      refine ql_call (β := Nat × Int) (ψ := fun y v => v = .tuple #[.int .i64 y.1, .int .i64 y.2] ∧ RchR L a b y) (L' := fun _ => []) tabOk [] _ M0 rfl rfl rfl rfl (Sp.refl _) (fun _ h => h.elim) (fun w' hs => (rChn_ok w' 0 w'.heap.size L _ a b (own_rdH (hs.mem (c := .ow (.slice ra L.length rc) 218 3 L.length (hdC L)) (by repeat constructor)) rfl) h0).mono fun x w2 ⟨⟨y, h1, h2⟩, h3⟩ => ⟨y, ⟨h1, h2⟩, (Sat.nil w' M0).keep h3⟩) ?_
      rintro ⟨n5, e5⟩ _ ⟨rfl, hr5⟩
      dsimp only [List.cons_append, List.nil_append]
      unfold RchR at hr5
      dsimp only at hc3 hm4 hr5 ⊢
      refine ql_fact (fun w hs => hs.slice2 (v := uc2) (by repeat constructor)) ?_
      rintro ⟨xa, xc, rfl⟩
      refine ql_fact (fun w hs => hs.slice2 (v := um2) (by repeat constructor)) ?_
      rintro ⟨ya, yc, rfl⟩
      obtain ⟨hs2, hm4⟩ := hm4
      by_cases hG : Gd L a b
      · rcases hc3 with ⟨rfl, hs1, ms1, hk1, hp1, hso⟩ | ⟨_, _, hno⟩
        rotate_left
        · exact absurd hG hno
        rcases hm4 with ⟨rfl, hk2⟩ | ⟨_, _, _, hno⟩
        rotate_left
        · exact absurd hG hno
        have hn5 : e5 = 0 ∧ n5 = hs1.length := by
          rcases hr5 with ⟨h1, h2, h3, h4⟩ | ⟨h1, h2⟩
          · exact ⟨h1, fnd_len hk1 (by omega) h2 h3 h4⟩
          · obtain ⟨v, k1, k2, k3⟩ := fnd_ex hk1 (by omega)
            rcases h2 with h2 | h2
            · exact absurd hG h2
            · exact absurd k3 (h2 v k1 k2)
        obtain ⟨rfl, rfl⟩ := hn5
        clear hr5
        have hcl : CC.length = hs1.length := by rw [hp1.length_eq, nI_len]
        have hml : MM.length = hs1.length := by rw [← hk2.len]; exact (lk_same hk1 hk2).symm
        have hsl : hs1.length ≤ 30 := by have := hk1.min (C := L) (fun _ h => h) hG; omega
        have hsub := all_sub hk1.idx hp1
        have hgc : Gd (hC L CC) a b := (gd_congr hsub.2).2 hk1.gd
        have hmk := hk2.mk
        have hnd : (nI hs1).Nodup := by
          have := hk1.nodup
          unfold nI
          exact List.pairwise_map.2 (this.imp fun h e => h (by omega))
        have hcn := hp1.nodup_iff.2 hnd
        (refine ql_pure tabOk rfl rfl (ql_ext tabOk rfl rfl rfl (ql_ext tabOk rfl rfl rfl (ql_pure tabOk rfl rfl (ql_pure tabOk rfl rfl (q_nil (q_seq (q_seq (q_region (ql_pure tabOk rfl rfl (ql_pure tabOk rfl rfl (ql_neqF tabOk rfl rfl rfl (by omega) ?_))))))))))); refine ql_pure tabOk rfl rfl (ql_gyes rfl (ql_pure tabOk rfl rfl (ql_gyes rfl (ql_pure tabOk rfl rfl (ql_gyes rfl (ql_neqF tabOk rfl rfl rfl (by omega) (ql_pure tabOk rfl rfl (ql_pure tabOk rfl rfl (ql_gyes rfl (ql_pure tabOk rfl rfl (ql_gyes rfl ?_))))))))))); refine ql_pure tabOk rfl rfl (ql_gyes rfl (ql_pure tabOk rfl rfl (ql_gyes rfl (ql_neqF tabOk rfl rfl rfl (by omega) (ql_pure tabOk rfl rfl (ql_pure tabOk rfl rfl (ql_gyes rfl (ql_pure tabOk rfl rfl (ql_gyes rfl (ql_pure tabOk rfl rfl (ql_gyes rfl ?_))))))))))); refine ql_pure tabOk rfl rfl (ql_gyes rfl (ql_neqF tabOk rfl rfl rfl (by omega) (ql_pure tabOk rfl rfl (q_nil (q_cond_false rfl (q_skip (q_seq (q_seq (q_region (ql_pure tabOk rfl rfl (ql_eqlT tabOk rfl rfl rfl (by omega) ?_))))))))))); refine q_nil (q_cond_true rfl (q_seq (q_region ?_))); (iterate 4 refine ql_pure tabOk rfl rfl ?_))
        refine ql_call (β := Bool × Int) (ψ := fun y v => v = .tuple #[.bool y.1, .int .i64 y.2] ∧ GrdsR L a b CC y) (L' := fun _ => []) tabOk [] _ M0 rfl rfl rfl rfl (Sp.refl _) (fun _ h => h.elim) (fun w' hs => (rGrd_ok w' 0 w'.heap.size 0 w'.heap.size L _ _ a b CC (own_rdH (hs.mem (c := .ow (.slice ra L.length rc) 218 3 L.length (hdC L)) (by repeat constructor)) rfl) (own_rdI (hs.mem (c := .ow (.slice xa CC.length xc) 3 1 CC.length (ints CC)) (by repeat constructor)) rfl) (by omega) h0).mono fun x w2 ⟨⟨y, h1, h2⟩, h3⟩ => ⟨y, ⟨h1, h2⟩, (Sat.nil w' M0).keep h3⟩) ?_
        rintro ⟨z4, x4⟩ _ ⟨rfl, hz4⟩
        dsimp only [List.cons_append, List.nil_append]
        have hz5 : z4 = true ∧ x4 = 0 := by
          rcases hz4 with ⟨h1, _⟩ | ⟨_, h2, h3⟩
          · rw [hsub.1] at h1; cases h1
          · exact ⟨h3.2 hgc, h2⟩
        obtain ⟨rfl, rfl⟩ := hz5
        clear hz4
        (refine ql_pure tabOk rfl rfl (ql_ext tabOk rfl rfl rfl (ql_ext tabOk rfl rfl rfl (ql_pure tabOk rfl rfl (ql_pure tabOk rfl rfl (q_nil (q_seq (q_region ?_))))))); (iterate 4 refine ql_pure tabOk rfl rfl ?_))
        refine ql_call (β := Bool) (ψ := fun y v => v = .tuple #[.bool y, .int .i64 0] ∧ (y = true ↔ Mk L a b MM)) (L' := fun _ => []) tabOk [] _ M0 rfl rfl rfl rfl (Sp.refl _) (fun _ h => h.elim) (fun w' hs => (rMks_ok w' 0 w'.heap.size 0 w'.heap.size L _ _ a b MM (own_rdH (hs.mem (c := .ow (.slice ra L.length rc) 218 3 L.length (hdC L)) (by repeat constructor)) rfl) (own_rdI (hs.mem (c := .ow (.slice ya MM.length yc) 3 1 MM.length (ints MM)) (by repeat constructor)) rfl) (by omega) h0).mono fun x w2 ⟨⟨y, h1, h2⟩, h3⟩ => ⟨y, ⟨h1, h2⟩, (Sat.nil w' M0).keep h3⟩) ?_
        rintro z6 _ ⟨rfl, hz6⟩
        dsimp only [List.cons_append, List.nil_append]
        obtain rfl : z6 = true := hz6.2 hmk
        clear hz6
        (refine ql_pure tabOk rfl rfl (ql_ext tabOk rfl rfl rfl (ql_ext tabOk rfl rfl rfl (ql_pure tabOk rfl rfl (ql_pure tabOk rfl rfl (q_nil (q_seq (q_seq (q_region (ql_pure tabOk rfl rfl (ql_neqF tabOk rfl rfl rfl (by omega) (ql_pure tabOk rfl rfl ?_))))))))))); refine ql_gyes rfl (ql_pure tabOk rfl rfl (ql_gyes rfl (ql_neqF tabOk rfl rfl rfl (by omega) (ql_pure tabOk rfl rfl (ql_pure tabOk rfl rfl (ql_gyes rfl (ql_pure tabOk rfl rfl (ql_gyes rfl ?_)))))))); (iterate 3 refine ql_pure tabOk rfl rfl ?_); refine ql_gyes rfl (ql_pure tabOk rfl rfl (ql_gyes rfl (ql_pure tabOk rfl rfl (ql_pure tabOk rfl rfl (q_nil (q_cond_false rfl (q_skip (q_seq (q_region (ql_pure tabOk rfl rfl (q_nil ?_))))))))))); refine q_block ?_)
        refine q_loop (σ := Nat) (fun i => 1 ≤ i) (fun i => CC.length - i) (fun i => [(0, v0), (3, cv0), (4, mv0), (11, (.slice oa L.length oc)), (12, (.slice ia C.length ic)), (13, (.slice ua M.length uc)), (21, (.slice xa CC.length xc)), (29, .int .i64 i)]) (fun _ => [.ow (.slice xa CC.length xc) 3 1 CC.length (ints CC), .ow (.slice oa L.length oc) 28 3 L.length (hdC L), .ow (.slice ia C.length ic) 3 1 C.length (ints C), .ow (.slice ua M.length uc) 3 1 M.length (ints M), .ow (.slice ra L.length rc) 218 3 L.length (hdC L)]) 1 (by omega) ⟨rfl, rfl, rfl, rfl, rfl, rfl, rfl, rfl, trivial⟩ (by repeat constructor) ?_
        intro i hi1 K hK
        (refine q_seq (q_seq (q_region ?_)); (iterate 4 refine ql_pure tabOk rfl rfl ?_); refine q_nil ?_)
        refine q_if rfl (fun hc => ?_) (fun hc => ?_)
        · have hi2 : i < CC.length := by omega
          clear hc
          obtain ⟨j, rfl⟩ : ∃ j, i = j + 1 := ⟨i - 1, by omega⟩
          have hj : j < CC.length := by omega
          have hj1 : ((j + 1 : Nat) : Int) - 1 = j := by omega
          have hlt : CC[j] < CC[j + 1] := by
            have q1 := List.pairwise_iff_getElem.1 hso j (j + 1) hj hi2 (by omega)
            have q2 := List.pairwise_iff_getElem.1 hcn j (j + 1) hj hi2 (by omega)
            omega
          (refine q_skip (q_seq (q_block (q_seq ?_))))
          refine q_draw _ [] (Sp.refl _) (by kernel_rfl) (by kernel_rfl) ?_
          (refine qf_pure tabOk rfl rfl rfl (qf_pure tabOk rfl rfl rfl (qf_ar tabOk rfl rfl rfl rfl (by omega) (by omega) ?_)))
          refine qf_fact (fun w hs => hs.ownSome (v := (.slice xa CC.length xc)) (by repeat constructor) (by omega)) ?_
          rintro ⟨xb, xd, e⟩
          cases e
          rw [hj1]
          refine qf_index tabOk rfl rfl rfl rfl rfl (by omega) (by omega) ?_
          skip
          refine qf_load1 (v := .int .i64 CC[j]) tabOk rfl rfl rfl (fun w hs => RdI.at (own_rdI (hs.mem (c := .ow (.slice (some ⟨xb, 0, none⟩) CC.length xc) 3 1 CC.length (ints CC)) (by repeat constructor)) rfl) j hj) ?_
          (refine qf_pure tabOk rfl rfl rfl (qf_pure tabOk rfl rfl rfl ?_))
          refine qf_index tabOk rfl rfl rfl rfl rfl (by omega) (by omega) ?_
          skip
          refine qf_load1 (v := .int .i64 CC[j + 1]) tabOk rfl rfl rfl (fun w hs => RdI.at (own_rdI (hs.mem (c := .ow (.slice (some ⟨xb, 0, none⟩) CC.length xc) 3 1 CC.length (ints CC)) (by repeat constructor)) rfl) (j + 1) hi2) ?_
          (refine qf_geqF tabOk rfl rfl rfl (by omega) (qf_nil (q_cond_false rfl (q_skip (q_blk (q_region (ql_pure tabOk rfl rfl (ql_ar tabOk rfl rfl rfl rfl (by omega) (by omega) (ql_pure tabOk rfl rfl (q_nil ?_))))))))))
          exact hK (j + 1 + 1) _ _ (by omega) (by omega) ⟨rfl, rfl, rfl, rfl, rfl, rfl, rfl, rfl, trivial⟩ (by repeat constructor)
        · clear hc hK
          (refine q_exit _ rfl (q_seq (q_region (ql_pure tabOk rfl rfl (ql_pure tabOk rfl rfl ?_)))))
          refine ql_callv (val := .bool true) tabOk rfl rfl rfl rfl (fun w hs => ?_) ?_; exact eqH_ca w 0 w.heap.size _ _ _ v0 L (own_rdH (hs.mem (c := .ow (.slice oa L.length oc) 28 3 L.length (hdC L)) (by repeat constructor)) rfl) (RdE.keep h hs.chg0) (by omega)
          (refine ql_pure tabOk rfl rfl (ql_gyes rfl (ql_pure tabOk rfl rfl (ql_gyes rfl (ql_pure tabOk rfl rfl (ql_gyes rfl ?_))))))
          refine ql_callv (val := .bool true) tabOk rfl rfl rfl rfl (fun w hs => ?_) ?_; exact eqI_ca w 0 w.heap.size _ _ _ cv0 C (own_rdI (hs.mem (c := .ow (.slice ia C.length ic) 3 1 C.length (ints C)) (by repeat constructor)) rfl) (RdE.keep hRC hs.chg0) (by omega)
          (refine ql_pure tabOk rfl rfl (ql_pure tabOk rfl rfl (ql_gyes rfl (ql_pure tabOk rfl rfl (ql_gyes rfl (ql_pure tabOk rfl rfl (ql_gyes rfl ?_)))))))
          refine ql_callv (val := .bool true) tabOk rfl rfl rfl rfl (fun w hs => ?_) ?_; exact eqI_ca w 0 w.heap.size _ _ _ mv0 M (own_rdI (hs.mem (c := .ow (.slice ua M.length uc) 3 1 M.length (ints M)) (by repeat constructor)) rfl) (RdE.keep hM hs.chg0) (by omega)
          (refine ql_pure tabOk rfl rfl (ql_pure tabOk rfl rfl (ql_gyes rfl ?_)))
          refine ql_callv (val := .bool true) tabOk rfl rfl rfl rfl (fun w hs => ?_) ?_; exact rawake_ca w
          (refine ql_pure tabOk rfl rfl (ql_pure tabOk rfl rfl (q_nil (q_ret ?_))))
          refine q_fin tabOk rfl (by repeat constructor) fun w hs => ?_
          exact ⟨rfl, hs.chg0⟩
      · rcases hc3 with ⟨_, hs1, ms1, hk1, _⟩ | ⟨rfl, rfl, _⟩
        · exact absurd ((hk1.full (by omega)).1 rfl) hG
        rcases hm4 with ⟨_, hk2⟩ | ⟨rfl, rfl, rfl, _⟩
        · exact absurd ((hk2.full (by omega)).1 rfl) hG
        have hn5 : n5 = 0 ∧ e5 = 6 := by
          rcases hr5 with ⟨h1, h2, ⟨i, h3, h4, h5⟩, _⟩ | ⟨h1, _⟩
          · obtain ⟨D, k1, k2, k3⟩ := lvl_gd (a := a) n5 i h3 (by omega)
            exact absurd ((k3.part (Int.le_refl _) h5).sub k1) hG
          · injection h1 with h1 h2
            exact ⟨h1, h2⟩
        obtain ⟨rfl, rfl⟩ := hn5
        (refine ql_pure tabOk rfl rfl (ql_ext tabOk rfl rfl rfl (ql_ext tabOk rfl rfl rfl (ql_pure tabOk rfl rfl (ql_pure tabOk rfl rfl (q_nil (q_seq (q_seq (q_region (ql_pure tabOk rfl rfl (ql_pure tabOk rfl rfl (ql_neqF tabOk rfl rfl rfl (by omega) ?_))))))))))); refine ql_pure tabOk rfl rfl (ql_gyes rfl (ql_pure tabOk rfl rfl (ql_gyes rfl (ql_pure tabOk rfl rfl (ql_gyes rfl (ql_neqF tabOk rfl rfl rfl (by omega) (ql_pure tabOk rfl rfl (ql_pure tabOk rfl rfl (ql_gyes rfl (ql_pure tabOk rfl rfl (ql_gyes rfl ?_))))))))))); refine ql_pure tabOk rfl rfl (ql_gyes rfl (ql_pure tabOk rfl rfl (ql_gyes rfl ?_))); (iterate 3 refine ql_pure tabOk rfl rfl ?_); refine ql_gyes rfl (ql_pure tabOk rfl rfl (ql_gyes rfl (ql_pure tabOk rfl rfl (ql_gyes rfl (ql_pure tabOk rfl rfl (ql_gyes rfl (ql_pure tabOk rfl rfl (ql_pure tabOk rfl rfl (q_nil (q_cond_false rfl (q_skip ?_))))))))))); refine q_seq (q_seq (q_region (ql_pure tabOk rfl rfl (ql_eqlF tabOk rfl rfl rfl (by omega) (q_nil (q_cond_false rfl (q_skip (q_seq (q_region (ql_pure tabOk rfl rfl (ql_pure tabOk rfl rfl ?_))))))))))))
        refine ql_callv (val := .bool true) tabOk rfl rfl rfl rfl (fun w hs => ?_) ?_; exact eqH_ca w 0 w.heap.size _ _ _ v0 L (own_rdH (hs.mem (c := .ow (.slice oa L.length oc) 28 3 L.length (hdC L)) (by repeat constructor)) rfl) (RdE.keep h hs.chg0) (by omega)
        (refine ql_pure tabOk rfl rfl (ql_gyes rfl (ql_pure tabOk rfl rfl (ql_gyes rfl (ql_pure tabOk rfl rfl (ql_gyes rfl ?_))))))
        refine ql_callv (val := .bool true) tabOk rfl rfl rfl rfl (fun w hs => ?_) ?_; exact eqI_ca w 0 w.heap.size _ _ _ cv0 C (own_rdI (hs.mem (c := .ow (.slice ia C.length ic) 3 1 C.length (ints C)) (by repeat constructor)) rfl) (RdE.keep hRC hs.chg0) (by omega)
        (refine ql_pure tabOk rfl rfl (ql_pure tabOk rfl rfl (ql_gyes rfl (ql_pure tabOk rfl rfl (ql_gyes rfl (ql_pure tabOk rfl rfl (ql_gyes rfl ?_)))))))
        refine ql_callv (val := .bool true) tabOk rfl rfl rfl rfl (fun w hs => ?_) ?_; exact eqI_ca w 0 w.heap.size _ _ _ mv0 M (own_rdI (hs.mem (c := .ow (.slice ua M.length uc) 3 1 M.length (ints M)) (by repeat constructor)) rfl) (RdE.keep hM hs.chg0) (by omega)
        (refine ql_pure tabOk rfl rfl (ql_pure tabOk rfl rfl (ql_gyes rfl ?_)))
        refine ql_callv (val := .bool true) tabOk rfl rfl rfl rfl (fun w hs => ?_) ?_; exact rawake_ca w
        (refine ql_pure tabOk rfl rfl (ql_pure tabOk rfl rfl (q_nil (q_ret ?_))))
        refine q_fin tabOk rfl (by repeat constructor) fun w hs => ?_
        exact ⟨rfl, hs.chg0⟩
    · refine ql_callv (val := .tuple #[.int .i64 0, .int .i64 (chkSp L a b)]) tabOk rfl rfl rfl rfl (fun w hs => ?_) ?_; exact gap_no w 0 w.heap.size L _ a b (own_rdH (hs.mem (c := .ow (.slice oa L.length oc) 28 3 L.length (hdC L)) (by repeat constructor)) rfl) hm1 hsp
      (refine ql_pure tabOk rfl rfl (ql_ext tabOk rfl rfl rfl (ql_ext tabOk rfl rfl rfl (ql_pure tabOk rfl rfl (ql_pure tabOk rfl rfl (q_nil (q_seq (q_region ?_))))))); (iterate 3 refine ql_pure tabOk rfl rfl ?_))
      refine ql_callv (val := .tuple #[.int .i64 0, .int .i64 (chkSp L a b)]) tabOk rfl rfl rfl rfl (fun w hs => ?_) ?_; exact rGap_no w 0 w.heap.size L _ a b (own_rdH (hs.mem (c := .ow (.slice ra L.length rc) 218 3 L.length (hdC L)) (by repeat constructor)) rfl) hm1 hsp
      (refine ql_pure tabOk rfl rfl (ql_ext tabOk rfl rfl rfl (ql_ext tabOk rfl rfl rfl (ql_pure tabOk rfl rfl (ql_pure tabOk rfl rfl (q_nil (q_seq (q_seq (q_region (ql_pure tabOk rfl rfl (ql_pure tabOk rfl rfl (ql_neqF tabOk rfl rfl rfl (by omega) ?_))))))))))); refine ql_pure tabOk rfl rfl (ql_gyes rfl (ql_pure tabOk rfl rfl (ql_gyes rfl (ql_pure tabOk rfl rfl (ql_gyes rfl (ql_neqF tabOk rfl rfl rfl (by omega) (ql_pure tabOk rfl rfl (q_nil (q_cond_false rfl (q_skip (q_seq ?_))))))))))); refine q_region ?_; (iterate 4 refine ql_pure tabOk rfl rfl ?_))
      refine ql_callv (val := .tuple #[.bool false, .int .i64 (chkSp L a b)]) tabOk rfl rfl rfl rfl (fun w hs => ?_) ?_; exact rgrd_no w 0 w.heap.size L _ _ a b (own_rdH (hs.mem (c := .ow (.slice oa L.length oc) 28 3 L.length (hdC L)) (by repeat constructor)) rfl) hm1 hsp
      (refine ql_pure tabOk rfl rfl (ql_ext tabOk rfl rfl rfl (ql_ext tabOk rfl rfl rfl (ql_pure tabOk rfl rfl (ql_pure tabOk rfl rfl (q_nil (q_seq (q_region ?_))))))); (iterate 4 refine ql_pure tabOk rfl rfl ?_))
      refine ql_callv (val := .tuple #[.bool false, .int .i64 (chkSp L a b)]) tabOk rfl rfl rfl rfl (fun w hs => ?_) ?_; exact rGrd_no w 0 w.heap.size L _ _ a b (own_rdH (hs.mem (c := .ow (.slice ra L.length rc) 218 3 L.length (hdC L)) (by repeat constructor)) rfl) hm1 hsp
      (refine ql_pure tabOk rfl rfl (ql_ext tabOk rfl rfl rfl (ql_ext tabOk rfl rfl rfl (ql_pure tabOk rfl rfl (ql_pure tabOk rfl rfl (q_nil (q_seq (q_seq (q_region (ql_pure tabOk rfl rfl (ql_pure tabOk rfl rfl ?_)))))))))))
      refine ql_neb (p := false) (q := false) (by kernel_rfl) rfl rfl rfl ?_
      rw [show (!(false == false)) = false from rfl]
      (refine ql_pure tabOk rfl rfl (ql_gyes rfl (ql_pure tabOk rfl rfl (ql_gyes rfl (ql_pure tabOk rfl rfl (ql_gyes rfl (ql_neqF tabOk rfl rfl rfl (by omega) (ql_pure tabOk rfl rfl (q_nil (q_cond_false rfl (q_skip (q_seq ?_))))))))))); refine q_region ?_; (iterate 4 refine ql_pure tabOk rfl rfl ?_))
      refine ql_callv (val := .tuple #[.bool false, .int .i64 (chkSp L a b)]) tabOk rfl rfl rfl rfl (fun w hs => ?_) ?_; exact mks_no w 0 w.heap.size L _ _ a b (own_rdH (hs.mem (c := .ow (.slice oa L.length oc) 28 3 L.length (hdC L)) (by repeat constructor)) rfl) hm1 hsp
      (refine ql_pure tabOk rfl rfl (ql_ext tabOk rfl rfl rfl (ql_ext tabOk rfl rfl rfl (ql_pure tabOk rfl rfl (ql_pure tabOk rfl rfl (q_nil (q_seq (q_region ?_))))))); (iterate 4 refine ql_pure tabOk rfl rfl ?_))
      refine ql_callv (val := .tuple #[.bool false, .int .i64 (chkSp L a b)]) tabOk rfl rfl rfl rfl (fun w hs => ?_) ?_; exact rMks_no w 0 w.heap.size L _ _ a b (own_rdH (hs.mem (c := .ow (.slice ra L.length rc) 218 3 L.length (hdC L)) (by repeat constructor)) rfl) hm1 hsp
      (refine ql_pure tabOk rfl rfl (ql_ext tabOk rfl rfl rfl (ql_ext tabOk rfl rfl rfl (ql_pure tabOk rfl rfl (ql_pure tabOk rfl rfl (q_nil (q_seq (q_seq (q_region (ql_pure tabOk rfl rfl (ql_pure tabOk rfl rfl ?_)))))))))))
      refine ql_neb (p := false) (q := false) (by kernel_rfl) rfl rfl rfl ?_
      rw [show (!(false == false)) = false from rfl]
      (refine ql_pure tabOk rfl rfl (ql_gyes rfl (ql_pure tabOk rfl rfl (ql_gyes rfl (ql_pure tabOk rfl rfl (ql_gyes rfl (ql_neqF tabOk rfl rfl rfl (by omega) (ql_pure tabOk rfl rfl (q_nil (q_cond_false rfl (q_skip (q_seq ?_))))))))))); refine q_region ?_; (iterate 3 refine ql_pure tabOk rfl rfl ?_))
      refine ql_callv (val := .tuple #[.slice none 0 0, .int .i64 (chkSp L a b)]) tabOk rfl rfl rfl rfl (fun w hs => ?_) ?_; exact chn_no w 0 w.heap.size L _ a b (own_rdH (hs.mem (c := .ow (.slice oa L.length oc) 28 3 L.length (hdC L)) (by repeat constructor)) rfl) hm1 hsp
      (refine ql_pure tabOk rfl rfl (ql_ext tabOk rfl rfl rfl (ql_ext tabOk rfl rfl rfl (ql_pure tabOk rfl rfl (ql_pure tabOk rfl rfl (q_nil (q_seq (q_region ?_))))))); (iterate 3 refine ql_pure tabOk rfl rfl ?_))
      refine ql_callv (val := .tuple #[.slice none 0 0, .int .i64 (chkSp L a b)]) tabOk rfl rfl rfl rfl (fun w hs => ?_) ?_; exact mrk_no w 0 w.heap.size L _ a b (own_rdH (hs.mem (c := .ow (.slice oa L.length oc) 28 3 L.length (hdC L)) (by repeat constructor)) rfl) hm1 hsp
      (refine ql_pure tabOk rfl rfl (ql_ext tabOk rfl rfl rfl (ql_ext tabOk rfl rfl rfl (ql_pure tabOk rfl rfl (ql_pure tabOk rfl rfl (q_nil (q_seq (q_region ?_))))))); (iterate 3 refine ql_pure tabOk rfl rfl ?_))
      refine ql_callv (val := .tuple #[.int .i64 0, .int .i64 (chkSp L a b)]) tabOk rfl rfl rfl rfl (fun w hs => ?_) ?_; exact rChn_no w 0 w.heap.size L _ a b (own_rdH (hs.mem (c := .ow (.slice ra L.length rc) 218 3 L.length (hdC L)) (by repeat constructor)) rfl) hm1 hsp
      (refine ql_pure tabOk rfl rfl (ql_ext tabOk rfl rfl rfl (ql_ext tabOk rfl rfl rfl (ql_pure tabOk rfl rfl (ql_pure tabOk rfl rfl (q_nil (q_seq (q_seq (q_region (ql_pure tabOk rfl rfl (ql_pure tabOk rfl rfl (ql_neqF tabOk rfl rfl rfl (by omega) ?_))))))))))); refine ql_pure tabOk rfl rfl (ql_gyes rfl (ql_pure tabOk rfl rfl (ql_gyes rfl (ql_pure tabOk rfl rfl (ql_gyes rfl (ql_neqF tabOk rfl rfl rfl (by omega) (ql_pure tabOk rfl rfl (ql_pure tabOk rfl rfl (ql_gyes rfl (ql_pure tabOk rfl rfl (ql_gyes rfl ?_))))))))))); refine ql_pure tabOk rfl rfl (ql_gyes rfl (ql_pure tabOk rfl rfl (ql_gyes rfl (ql_neqF tabOk rfl rfl rfl (by omega) (ql_pure tabOk rfl rfl (ql_pure tabOk rfl rfl (ql_gyes rfl (ql_pure tabOk rfl rfl (ql_gyes rfl (ql_pure tabOk rfl rfl (ql_gyes rfl ?_))))))))))); refine ql_pure tabOk rfl rfl (ql_gyes rfl (ql_neqF tabOk rfl rfl rfl (by omega) (ql_pure tabOk rfl rfl (q_nil (q_cond_false rfl (q_skip (q_seq (q_seq (q_region (ql_pure tabOk rfl rfl (ql_eqlF tabOk rfl rfl rfl (by omega) ?_))))))))))); refine q_nil (q_cond_false rfl (q_skip (q_seq (q_region (ql_pure tabOk rfl rfl (ql_pure tabOk rfl rfl ?_)))))))
      refine ql_callv (val := .bool true) tabOk rfl rfl rfl rfl (fun w hs => ?_) ?_; exact eqH_ca w 0 w.heap.size _ _ _ v0 L (own_rdH (hs.mem (c := .ow (.slice oa L.length oc) 28 3 L.length (hdC L)) (by repeat constructor)) rfl) (RdE.keep h hs.chg0) (by omega)
      (refine ql_pure tabOk rfl rfl (ql_gyes rfl (ql_pure tabOk rfl rfl (ql_gyes rfl (ql_pure tabOk rfl rfl (ql_gyes rfl ?_))))))
      refine ql_callv (val := .bool true) tabOk rfl rfl rfl rfl (fun w hs => ?_) ?_; exact eqI_ca w 0 w.heap.size _ _ _ cv0 C (own_rdI (hs.mem (c := .ow (.slice ia C.length ic) 3 1 C.length (ints C)) (by repeat constructor)) rfl) (RdE.keep hRC hs.chg0) (by omega)
      (refine ql_pure tabOk rfl rfl (ql_pure tabOk rfl rfl (ql_gyes rfl (ql_pure tabOk rfl rfl (ql_gyes rfl (ql_pure tabOk rfl rfl (ql_gyes rfl ?_)))))))
      refine ql_callv (val := .bool true) tabOk rfl rfl rfl rfl (fun w hs => ?_) ?_; exact eqI_ca w 0 w.heap.size _ _ _ mv0 M (own_rdI (hs.mem (c := .ow (.slice ua M.length uc) 3 1 M.length (ints M)) (by repeat constructor)) rfl) (RdE.keep hM hs.chg0) (by omega)
      (refine ql_pure tabOk rfl rfl (ql_pure tabOk rfl rfl (ql_gyes rfl ?_)))
      refine ql_callv (val := .bool true) tabOk rfl rfl rfl rfl (fun w hs => ?_) ?_; exact rawake_ca w
      (refine ql_pure tabOk rfl rfl (ql_pure tabOk rfl rfl (q_nil (q_ret ?_))))
      refine q_fin tabOk rfl (by repeat constructor) fun w hs => ?_
      exact ⟨rfl, hs.chg0⟩
end Go.Proofs.YtopdmadgkjdgcaaGreat
