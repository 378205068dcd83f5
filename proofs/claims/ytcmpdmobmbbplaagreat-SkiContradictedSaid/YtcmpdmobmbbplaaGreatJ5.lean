/- My texts L8, joined: a claim takes at most 60 files. -/
import Derived.Test.YtcmpdmobmbbplaaGreatJ4

/- SkiContradicted. -/
namespace Go.Proofs.YtcmpdmobmbbplaaGreat
set_option maxRecDepth 4000
open Go Go.Eng
def ordN (l : Lb) : Nat := if agreedV l = 0 then cnt l.ord l.n (2 ^ l.n - 1) else 0
theorem ordersA_ca (w : World) (lo hi : Nat) (l : Lb) (v : Value) (h : RdR w lo hi v l.runs) (hlen : l.runs.length ≤ maxLen) : Ca Tryz.prog 29 [.agg (lbC l v).toArray] w fun x w' => x = .tuple #[.int .i64 (ordN l : Nat), .int .i64 (agreedV l)] ∧ Chg [] w w' := by
  by_cases h0 : agreedV l = 0
  · obtain ⟨hl, hc⟩ := agreed_iff.1 h0
    have := orders_ok w lo hi l v h hl hc
    unfold ordN
    rw [h0, if_pos rfl]
    exact this
  · have := orders_no w lo hi l v h hlen h0
    unfold ordN
    rw [if_neg h0]
    exact this
/-- The lead of a run is turned. -/
def flipR (r : List Rn) (i : Nat) : List Rn := r.set i ⟨(r.getD i ⟨0, 0, 0⟩).a, (r.getD i ⟨0, 0, 0⟩).b, -(r.getD i ⟨0, 0, 0⟩).lead⟩
theorem flip_len (r : List Rn) (i : Nat) : (flipR r i).length = r.length := by simp [flipR]
theorem rnC_setLead : ∀ (l : List Rn) (i : Nat) (x : Int), (rnC l).set (i * 3 + 2) (.int .i64 x) = rnC (l.modify i fun r => ⟨r.a, r.b, x⟩)
  | [], i, x => by simp [rnC]
  | r :: l, 0, x => rfl
  | r :: l, i + 1, x => by
    have := rnC_setLead l i x
    simp only [List.modify_succ_cons]
    show (_ :: _ :: _ :: rnC l).set ((i + 1) * 3 + 2) _ = _ :: _ :: _ :: rnC _
    rw [show (i + 1) * 3 + 2 = (i * 3 + 2) + 1 + 1 + 1 from by omega, List.set_cons_succ, List.set_cons_succ, List.set_cons_succ, this]
theorem flip_cells {r : List Rn} {i : Nat} (hi : i < r.length) : (rnC r).set (i * 3 + 2) (.int .i64 (-r[i].lead)) = rnC (flipR r i) := by
  rw [rnC_setLead]
  congr 1
  refine List.ext_getElem (by simp [flipR]) fun j h1 h2 => ?_
  rw [List.getElem_modify]
  simp only [flipR, List.getElem_set, List.getD_eq_getElem?_getD, List.getElem?_eq_getElem hi, Option.getD_some]
  by_cases e : i = j
  · subst e; simp
  · simp [e]
theorem flip_ok {s e : Int} {r : List Rn} {i : Nat} (h : (⟨s, e, r⟩ : Lb).Ok) (hi : i < r.length) : (⟨s, e, flipR r i⟩ : Lb).Ok := ⟨h.s0, h.s1, h.e0, h.e1, by have := h.len; show (flipR r i).length ≤ 40; rw [flip_len]; exact this, fun x hx => by
  obtain ⟨j, hj, rfl⟩ := List.mem_iff_getElem.1 hx
  have hj2 : j < r.length := by rw [← flip_len r i]; exact hj
  have ho := h.run r[i] (List.getElem_mem hi)
  have ho2 := h.run r[j] (List.getElem_mem hj2)
  simp only [flipR, List.getElem_set, List.getD_eq_getElem?_getD, List.getElem?_eq_getElem hi, Option.getD_some]
  split
  · have l0 := ho.l0
    have l1 := ho.l1
    exact ⟨ho.a0, ho.a1, ho.b0, ho.b1, ho.ne, by simp only; omega, by simp only; omega⟩
  · exact ho2⟩
/-- What is told of a lab and of the runs that are to be dropped. -/
theorem agreed_noC {l : Lb} (hl : l.Ok) : agreedV l = 0 ↔ NoC l.ord l.n := by rw [agreed_iff]; exact ⟨fun h => h.2, fun h => ⟨hl, h⟩⟩
theorem agreed_seven {l : Lb} (hl : l.Ok) (h : ¬ NoC l.ord l.n) : agreedV l = 7 := by
  have h1 := check_iff.2 hl
  have h2 : conflB l.ord l.n = true := by
    cases hc : conflB l.ord l.n with
    | true => rfl
    | false => exact absurd (confl_iff.1 hc) h
  unfold agreedV
  rw [if_neg (by rw [h1]; simp), if_pos h2]
theorem wo_agreed {l : Lb} (hl : l.Ok) (D : List Nat) : agreedV (woL l D) = 0 ↔ NoC (woL l D).ord l.n := agreed_noC (wo_ok hl D)
theorem ro_none {l : Lb} (hl : l.Ok) (hc : NoC l.ord l.n) {c : List Int} {e : Int} (h : RoR l c e) : c = [] ∧ e = 6 := by
  rcases h with ⟨h1, _⟩ | ⟨_, _, h1, h2⟩ | ⟨_, _, s, h1, h2, _⟩
  · exact absurd (check_iff.2 hl) h1
  · exact ⟨h1, h2⟩
  · rw [hc s h1] at h2; cases h2
theorem short_lt2 {l : Lb} (hl : l.Ok) {a b : Nat} {c : List Int} (h : Short l a b c) : c.length ≤ 8 := by
  have := isD_le hl (short_isD hl.e0 h)
  have := hl.n8
  omega
def smB (l : Lb) (c : List Int) (k : Nat) : Bool := (List.range k).any fun s => decide ((chainV l s s c).2 = 0) && (chainV l s s c).1
theorem sm_succ (l : Lb) (c : List Int) (k : Nat) : smB l c (k + 1) = (smB l c k || (decide ((chainV l k k c).2 = 0) && (chainV l k k c).1)) := by
  unfold smB
  rw [List.range_succ, List.any_append]
  simp
theorem sm_true {l : Lb} {c : List Int} {s n : Nat} (hs : s < n) (h : chainV l s s c = (true, 0)) : smB l c n = true := List.any_eq_true.2 ⟨s, List.mem_range.2 hs, by rw [h]; rfl⟩
set_option maxHeartbeats 8000000 in
set_option maxRecDepth 20000 in
theorem skiContra_ca (w : World) (a : Option Addr) (nb cb : Nat) (at0 : Option Addr) (nt ct : Nat) (hbyb1 : DkB w 0 w.heap.size (.slice a nb cb)) (hbyb7 : DkB w 0 w.heap.size (.slice at0 nt ct)) :
    Ca Tryz.prog 6 [.slice a nb cb, .slice at0 nt ct] w fun r w' => r = .bool true ∧ Chg [] w w' := by
  refine q_of (Sat.nil w M0) Tryz.func6 rfl (by simp [Tryz.ntmps6]) ?_
  (refine q_seq (q_region (ql_pure tabOk rfl rfl (q_nil (q_seq (q_region (ql_pure tabOk rfl rfl ?_)))))))
  refine ql_call (β := Nat) tabOk [] _ M0 rfl rfl rfl rfl (Sp.refl _) (fun _ h => h.elim) (fun w' hs => of_ca w' a nb cb) ?_
  rintro b1 _ rfl
  dsimp only [List.cons_append, List.nil_append]
  refine ql_call (β := Value × Value × Lb × List Int) (ψ := fun y v => v = .tuple #[.agg (lbC y.2.2.1 y.1).toArray, y.2.1] ∧ MadeL 7 20 y.2.2.1 y.2.2.2) (L' := fun y => [.ow y.1 40 3 y.2.2.1.runs.length (rnC y.2.2.1.runs), .ow y.2.1 3 1 y.2.2.2.length (ints y.2.2.2), dkP (.slice a nb cb) b1 (0 + 100)]) tabOk [dkP (.slice a nb cb) b1 0] _ (fun x => x = b1) rfl rfl rfl rfl (Sp.cons (by repeat constructor) (Sp.refl _)) (fun x hx => ⟨_, .head _, hx⟩) (fun w' hs => madeK (most := 7) (runs := 20) hbyb1 hs (by omega) (by omega) (by omega) (by omega)) ?_
  rintro ⟨v, rv, ⟨ls, err, runs⟩, real⟩ _ ⟨rfl, hm⟩
  dsimp only [List.cons_append, List.nil_append, lbC] at hm ⊢
  have hok := hm.ok
  have hs2 : 2 ≤ ls := hm.s2
  have hsm : ls ≤ 7 := hm.sm
  have he0 : 0 ≤ err := hok.e0
  have he12 : err ≤ 11 := hm.e12
  have hlen : runs.length ≤ 20 := hm.len
  obtain ⟨sk, rfl⟩ := Int.eq_ofNat_of_zero_le (show 0 ≤ ls by omega)
  have hln : (⟨(sk : Int), err, runs⟩ : Lb).n = sk := by unfold Lb.n; simp
  refine ql_fact (fun w hs => hs.slice2 (v := v) (by repeat constructor)) ?_
  rintro ⟨va, vc, rfl⟩
  refine ql_fact (fun w hs => hs.slice2 (v := rv) (by repeat constructor)) ?_
  rintro ⟨rg, rc, rfl⟩
  (refine ql_pure tabOk rfl rfl (ql_ext tabOk rfl rfl rfl (ql_ext tabOk rfl rfl rfl ?_)))
  refine ql_alloc zero24 rfl (fun b5 => ?_)
  (refine ql_setA tabOk rfl rfl rfl rfl rfl (by repeat constructor) rfl ?_; refine ql_pure tabOk rfl rfl (q_nil (q_seq (q_region (ql_pure tabOk rfl rfl ?_)))))
  refine ql_call (β := Nat) tabOk [] _ M0 rfl rfl rfl rfl (Sp.refl _) (fun _ h => h.elim) (fun w' hs => of_ca w' at0 nt ct) ?_
  rintro b7 _ rfl
  dsimp only [List.cons_append, List.nil_append]
  obtain ⟨n0, hn0⟩ : ∃ n0, n0 = runs.length := ⟨_, rfl⟩
  rw [← hn0] at hlen ⊢
  (refine ql_pure tabOk rfl rfl (q_nil (q_seq (q_seq (q_region (ql_pure tabOk rfl rfl ?_))))))
  refine ql_call (β := Int) (ψ := fun x v => v = .int .i64 x ∧ 0 ≤ x ∧ x ≤ 5 - 1) (L' := fun _ => [dkP (.slice at0 nt ct) b7 (0 + 1)]) tabOk [dkP (.slice at0 nt ct) b7 (0)] _ (fun x => x = b7) rfl rfl rfl rfl (Sp.cons (by repeat constructor) (Sp.refl _)) (fun x hx => ⟨_, .head _, hx⟩) (fun w' hs => drw0 hbyb7 hs (by omega) (by omega)) ?_
  rintro q5 _ ⟨rfl, hq0, hq1⟩
  dsimp only [List.cons_append, List.nil_append]
  (refine ql_pure tabOk rfl rfl (q_nil ?_))
  refine q_conv (H' := [dkP (.slice at0 nt ct) b7 (0 + 1), .pt b5 [.int .i64 sk, .int .i64 err, .slice va n0 vc] 24, .ow (.slice va n0 vc) 40 3 n0 (rnC runs)]) (fun w' hs => hs.sp (by repeat constructor)) ?_
  refine q_cut (σ := {r : List Rn // r.length = n0 ∧ (⟨(sk : Int), err, r⟩ : Lb).Ok}) (fun _ => [(5, .pointer (some ⟨b5, 0, none⟩)), (7, .pointer (some ⟨b7, 0, none⟩))]) (fun r => [dkP (.slice at0 nt ct) b7 (100), .pt b5 [.int .i64 sk, .int .i64 err, .slice va n0 vc] 24, .ow (.slice va n0 vc) 40 3 n0 (rnC r.1)]) ?_ ?_
  rotate_left
  · intro KZ hKZ
    (refine q_block ?_)
    refine q_loop (σ := Nat × List Rn) (fun z => (z.1 : Int) ≤ q5 ∧ z.2.length = n0 ∧ (⟨(sk : Int), err, z.2⟩ : Lb).Ok) (fun z => q5.toNat - z.1) (fun z => [(5, .pointer (some ⟨b5, 0, none⟩)), (7, .pointer (some ⟨b7, 0, none⟩)), (34, .int .i64 q5), (35, .int .i64 z.1)]) (fun z => [dkP (.slice at0 nt ct) b7 (1 + z.1), .pt b5 [.int .i64 sk, .int .i64 err, .slice va n0 vc] 24, .ow (.slice va n0 vc) 40 3 n0 (rnC z.2)]) (0, runs) ⟨by simpa using hq0, hn0.symm, hok⟩ ⟨rfl, rfl, rfl, rfl, trivial⟩ (by repeat constructor) ?_
    rintro ⟨k, r⟩ ⟨hk, hr1, hrok⟩ K hK
    dsimp only at hk hr1 hrok hK ⊢
    (refine q_seq (q_region (ql_pure tabOk rfl rfl (q_nil (q_seq ?_)))))
    refine q_if rfl (fun hc => ?_) (fun hc => ?_)
    · have hk2 : (k : Int) < q5 := by omega
      clear hc
      by_cases hz : 0 < n0
      · (refine q_skip (q_seq (q_block (q_seq (q_region (ql_pure tabOk rfl rfl ?_))))); refine ql_loadBa tabOk rfl rfl rfl ?_; refine ql_pure tabOk rfl rfl (ql_pure tabOk rfl rfl (q_nil (q_seq (q_region (ql_pure tabOk rfl rfl (ql_gtrT tabOk rfl rfl rfl (by omega) (q_nil (q_cond_true rfl (q_seq (q_region (ql_pure tabOk rfl rfl ?_))))))))))); refine ql_pure tabOk rfl rfl ?_)
        refine ql_fact (fun w hs => hs.ownSome (v := .slice va n0 vc) (by repeat constructor) hz) ?_
        rintro ⟨g, gq, ev⟩
        cases ev
        refine ql_call (β := Int) (ψ := fun x v => v = .int .i64 x ∧ 0 ≤ x ∧ x ≤ n0 - 1) (L' := fun _ => [dkP (.slice at0 nt ct) b7 (1 + k + 1)]) tabOk [dkP (.slice at0 nt ct) b7 (1 + k)] _ (fun x => x = b7) rfl rfl rfl rfl (Sp.cons (by repeat constructor) (Sp.refl _)) (fun x hx => ⟨_, .head _, hx⟩) (fun w' hs => drw0 hbyb7 hs (by omega) (by omega)) ?_
        rintro iz _ ⟨rfl, hi0, hi1⟩
        obtain ⟨i, rfl⟩ := Int.eq_ofNat_of_zero_le hi0
        have hir : i < r.length := by omega
        have hlb := hrok.run r[i] (List.getElem_mem hir)
        have l0 := hlb.l0
        have l1 := hlb.l1
        dsimp only [List.cons_append, List.nil_append]
        (refine ql_pure tabOk rfl rfl (q_nil ?_))
        refine q_drawS 10 [dkP (.slice at0 nt ct) b7 (1 + (k + 1)), .pt b5 [.int .i64 sk, .int .i64 err, .slice (some ⟨g, 0, none⟩) n0 vc] 24] [.ow (.slice (some ⟨g, 0, none⟩) n0 vc) 40 3 n0 (rnC r)] (by repeat constructor) (by kernel_rfl) (by kernel_rfl) (by kernel_rfl) fun K1 hK1 => ?_
        (refine qf_pure tabOk rfl rfl rfl ?_; refine qf_loadBa tabOk rfl rfl rfl ?_; refine qf_pure tabOk rfl rfl rfl (qf_pure tabOk rfl rfl rfl ?_); refine qf_loadBa tabOk rfl rfl rfl ?_; refine qf_pure tabOk rfl rfl rfl ?_)
        refine qf_index tabOk rfl rfl rfl rfl rfl (by omega) (by omega) ?_
        (refine qf_pure tabOk rfl rfl rfl ?_)
        refine qf_load1 (v := .int .i64 r[i].lead) tabOk rfl rfl rfl (fun w hs => RdR.at2 (runs_rdK hs (v := .slice (some ⟨g, 0, none⟩) n0 vc) (t := 40) (l := r) (by repeat constructor) hr1.symm) i hir) ?_
        (refine qf_neg tabOk rfl rfl (by omega) (by omega) (qf_nil ?_))
        refine hK1 _ _ [.ow (.slice (some ⟨g, 0, none⟩) n0 vc) 40 3 n0 (rnC r)] (by repeat constructor) ?_
        skip
        refine qf_index tabOk rfl rfl rfl rfl rfl (by omega) (by omega) ?_
        (refine qf_pure tabOk rfl rfl rfl ?_)
        refine qf_storeWs tabOk (i * 3 + 2) rfl rfl rfl rfl (by repeat constructor) (by omega) (by rw [rnC_length]; omega) ?_
        rw [flip_cells hir]
        (refine qf_nil (q_blk (q_region (ql_ar tabOk rfl rfl rfl rfl (by omega) (by omega) (ql_pure tabOk rfl rfl (q_nil ?_))))))
        exact hK (k + 1, flipR r i) _ _ ⟨by simp only; omega, by dsimp only; rw [flip_len]; exact hr1, flip_ok hrok hir⟩ (by simp only; omega) ⟨rfl, rfl, rfl, rfl, trivial⟩ (by repeat constructor)
      · (refine q_skip (q_seq (q_block (q_seq (q_region (ql_pure tabOk rfl rfl ?_))))); refine ql_loadBa tabOk rfl rfl rfl ?_; refine ql_pure tabOk rfl rfl (ql_pure tabOk rfl rfl (q_nil (q_seq (q_region (ql_pure tabOk rfl rfl (ql_gtrF tabOk rfl rfl rfl (by omega) (q_nil (q_cond_false rfl (q_skip (q_blk (q_region ?_))))))))))); refine ql_ar tabOk rfl rfl rfl rfl (by omega) (by omega) (ql_pure tabOk rfl rfl (q_nil ?_)))
        refine q_conv (H' := [dkP (.slice at0 nt ct) b7 (1 + (k + 1)), .pt b5 [.int .i64 sk, .int .i64 err, .slice va n0 vc] 24, .ow (.slice va n0 vc) 40 3 n0 (rnC r)]) (fun w' hs => (Sat.dk (K' := 1 + (k + 1)) (hs.sp (H' := [dkP (.slice at0 nt ct) b7 (1 + k), .pt b5 [.int .i64 sk, .int .i64 err, .slice va n0 vc] 24, .ow (.slice va n0 vc) 40 3 n0 (rnC r)]) (by repeat constructor)) (by omega)).sp (by repeat constructor)) ?_
        exact hK (k + 1, r) _ _ ⟨by simp only; omega, hr1, hrok⟩ (by simp only; omega) ⟨rfl, rfl, rfl, rfl, trivial⟩ (by repeat constructor)
    · clear hc hK
      (refine q_exit _ rfl ?_)
      refine q_conv (H' := [dkP (.slice at0 nt ct) b7 (100), .pt b5 [.int .i64 sk, .int .i64 err, .slice va n0 vc] 24, .ow (.slice va n0 vc) 40 3 n0 (rnC r)]) (fun w' hs => (Sat.dk (K' := 100) (hs.sp (H' := [dkP (.slice at0 nt ct) b7 (1 + k), .pt b5 [.int .i64 sk, .int .i64 err, .slice va n0 vc] 24, .ow (.slice va n0 vc) 40 3 n0 (rnC r)]) (by repeat constructor)) (by omega)).sp (by repeat constructor)) ?_
      exact hKZ ⟨r, hr1, hrok⟩ _ _ ⟨rfl, rfl, trivial⟩ (by repeat constructor)
  rintro ⟨r, hr1, hrok⟩
  dsimp only
  clear hm hok hn0
  obtain ⟨l, hl0⟩ : ∃ l : Lb, l = ⟨(sk : Int), err, r⟩ := ⟨_, rfl⟩
  rw [← hl0] at hrok
  have hls : l.skis = (sk : Int) := by rw [hl0]
  have hln' : l.n = sk := by unfold Lb.n; rw [hls]; simp
  have hlr : l.runs.length = n0 := by rw [hl0]; exact hr1
  have he : l.err = err := by rw [hl0]
  refine q_conv (H' := [dkP (.slice at0 nt ct) b7 (100), .pt b5 (lbC l (.slice va l.runs.length vc)) 24, .ow (.slice va l.runs.length vc) 40 3 l.runs.length (rnC l.runs)]) (fun w' hs => by subst hl0; subst hr1; exact hs.sp (by repeat constructor)) ?_
  clear hr1 hl0
  have hmax : l.runs.length ≤ maxLen := by rw [hlr]; have : maxLen = 9223372036854775807 := rfl; omega
  (refine q_seq (q_region ?_); refine ql_loadABa tabOk rfl rfl rfl ?_)
  refine ql_call (β := Value × List Int × Int) tabOk [] _ M0 rfl rfl rfl rfl (Sp.refl _) (fun _ h => h.elim) (fun w' hs => round_ca w' 0 w'.heap.size l (.slice va l.runs.length vc) (runs_rdK hs (v := .slice va l.runs.length vc) (t := 40) (l := l.runs) (by repeat constructor) rfl) hmax) ?_
  rintro ⟨v10, c10, e10⟩ _ ⟨rfl, hro⟩
  dsimp only [List.cons_append, List.nil_append] at hro ⊢
  (refine ql_pure tabOk rfl rfl (ql_ext tabOk rfl rfl rfl (ql_ext tabOk rfl rfl rfl (ql_pure tabOk rfl rfl (ql_pure tabOk rfl rfl (q_nil (q_seq (q_region ?_))))))); refine ql_loadABa tabOk rfl rfl rfl ?_)
  refine ql_call (β := Value) tabOk [] _ M0 rfl rfl rfl rfl (Sp.refl _) (fun _ h => h.elim) (fun w' hs => fasterA_ca w' 0 w'.heap.size l (.slice va l.runs.length vc) (runs_rdK hs (v := .slice va l.runs.length vc) (t := 40) (l := l.runs) (by repeat constructor) rfl) hmax) ?_
  rintro v12 _ rfl
  dsimp only [List.cons_append, List.nil_append]
  (refine ql_pure tabOk rfl rfl (ql_ext tabOk rfl rfl rfl (ql_ext tabOk rfl rfl rfl (ql_pure tabOk rfl rfl (ql_pure tabOk rfl rfl (q_nil (q_seq (q_region ?_))))))); refine ql_loadABa tabOk rfl rfl rfl ?_)
  refine ql_callv (val := .tuple #[.int .i64 (ordN l : Nat), .int .i64 (agreedV l)]) tabOk rfl rfl rfl rfl (fun w hs => ?_) ?_; exact ordersA_ca w 0 w.heap.size l (.slice va l.runs.length vc) (runs_rdK hs (v := .slice va l.runs.length vc) (t := 40) (l := l.runs) (by repeat constructor) rfl) hmax
  (refine ql_pure tabOk rfl rfl (ql_ext tabOk rfl rfl rfl (ql_ext tabOk rfl rfl rfl (ql_pure tabOk rfl rfl (ql_pure tabOk rfl rfl (q_nil (q_seq (q_region ?_))))))); refine ql_loadABa tabOk rfl rfl rfl ?_)
  refine ql_call (β := Value × List Nat) tabOk [] _ M0 rfl rfl rfl rfl (Sp.refl _) (fun _ h => h.elim) (fun w' hs => drop_ok w' 0 w'.heap.size l (.slice va l.runs.length vc) (runs_rdK hs (v := .slice va l.runs.length vc) (t := 40) (l := l.runs) (by repeat constructor) rfl) hrok) ?_
  rintro ⟨v16, d⟩ _ ⟨rfl, hdr⟩
  dsimp only [List.cons_append, List.nil_append] at hdr ⊢
  refine ql_fact (fun w hs => hs.slice2 (v := v16) (by repeat constructor)) ?_
  rintro ⟨a16, c16, rfl⟩
  have hdl : d.length ≤ 20 := by
    have := sub_len (D := List.range l.runs.length) (hdr.asc.imp (fun h => by omega)) (fun x hx => List.mem_range.2 (hdr.lt x hx))
    rw [List.length_range] at this
    omega
  have hdp := drop_pos hrok hdr
  refine ql_fact (fun w hs => hs.slice2 (v := v10) (by repeat constructor)) ?_
  rintro ⟨a10, q10, rfl⟩
  have hcase : (NoC l.ord l.n ∧ c10 = [] ∧ e10 = 6 ∧ agreedV l = 0 ∧ d.length = 0) ∨ (¬ NoC l.ord l.n ∧ e10 = 0 ∧ agreedV l = 7 ∧ 0 < d.length ∧ ∃ s : Nat, s < l.n ∧ Short l s s c10) := by
    by_cases hc : NoC l.ord l.n
    · obtain ⟨h1, h2⟩ := ro_none hrok hc hro
      exact .inl ⟨hc, h1, h2, (agreed_noC hrok).2 hc, by rw [hdp.2 hc]; rfl⟩
    · refine .inr ⟨hc, ?_⟩
      have h3 : 0 < d.length := List.length_pos_iff.2 (fun e => hc (hdp.1 e))
      rcases hro with ⟨h1, _⟩ | ⟨_, h1, _⟩ | ⟨_, h1, s, h2, _, h4⟩
      · exact absurd (check_iff.2 hrok) h1
      · exact absurd h1 hc
      · exact ⟨h1, agreed_seven hrok hc, h3, s, h2, h4⟩
  generalize hon : ordN l = on
  clear hon
  (refine ql_pure tabOk rfl rfl (ql_ext tabOk rfl rfl rfl (ql_ext tabOk rfl rfl rfl (ql_pure tabOk rfl rfl (ql_pure tabOk rfl rfl (q_nil (q_seq (q_seq ?_))))))))
  refine q_cut (σ := Unit) (fun _ => [(5, .pointer (some ⟨b5, 0, none⟩)), (7, .pointer (some ⟨b7, 0, none⟩)), (10, .slice a10 c10.length q10), (11, .int .i64 e10), (16, .slice a16 d.length c16), (111, .bool false)]) (fun _ => [.ow (.slice a16 d.length c16) 3 1 d.length (ints (chI d)), .ow (.slice a10 c10.length q10) 3 1 c10.length (ints c10), dkP (.slice at0 nt ct) b7 (100), .pt b5 (lbC l (.slice va l.runs.length vc)) 24, .ow (.slice va l.runs.length vc) 40 3 l.runs.length (rnC l.runs)]) ?_ ?_
  rotate_left
  · intro KZ hKZ
    rcases hcase with ⟨_, h1, h2, h3, h4⟩ | ⟨_, h2, h3, h4, _⟩
    · rw [h2, h3]
      (refine q_region (ql_pure tabOk rfl rfl (ql_eqlF tabOk rfl rfl rfl (by omega) (ql_pure tabOk rfl rfl (ql_eqlF tabOk rfl rfl rfl (by omega) ?_)))))
      refine ql_neb (by kernel_rfl) rfl rfl rfl ?_
      (refine ql_pure tabOk rfl rfl (ql_gyes rfl (ql_pure tabOk rfl rfl (ql_gyes rfl (ql_neqT tabOk rfl rfl rfl (by omega) (ql_gyes rfl (ql_pure tabOk rfl rfl (ql_gyes rfl (ql_pure tabOk rfl rfl (ql_gyes rfl (ql_neqF tabOk rfl rfl rfl (by omega) (ql_gyes rfl ?_))))))))))); refine ql_pure tabOk rfl rfl (ql_gyes rfl (ql_pure tabOk rfl rfl (ql_gyes rfl (ql_neqF tabOk rfl rfl rfl (by omega) (ql_gyes rfl (ql_pure tabOk rfl rfl (ql_gyes rfl ?_))))))); (iterate 3 refine ql_pure tabOk rfl rfl ?_); refine ql_gyes rfl (ql_pure tabOk rfl rfl (ql_gyes rfl (ql_pure tabOk rfl rfl (ql_gyes rfl (ql_neqF tabOk rfl rfl rfl (by omega) (ql_pure tabOk rfl rfl (ql_pure tabOk rfl rfl (ql_gyes rfl (ql_pure tabOk rfl rfl (ql_gyes rfl (ql_neqF tabOk rfl rfl rfl (by omega) ?_))))))))))); refine ql_pure tabOk rfl rfl (ql_pure tabOk rfl rfl (ql_gyes rfl (ql_pure tabOk rfl rfl (ql_gyes rfl (ql_pure tabOk rfl rfl (ql_gyes rfl (ql_gtrF tabOk rfl rfl rfl (by omega) (ql_gyes rfl (ql_pure tabOk rfl rfl (ql_gyes rfl (ql_eqlF tabOk rfl rfl rfl (by omega) ?_))))))))))); refine ql_gyes rfl ?_)
      refine ql_neb (by kernel_rfl) rfl rfl rfl ?_
      (refine ql_pure tabOk rfl rfl (q_nil ?_))
      exact hKZ () _ _ ⟨rfl, rfl, rfl, by rw [h2]; rfl, rfl, rfl, trivial⟩ (by repeat constructor)
    · rw [h2, h3]
      (refine q_region (ql_pure tabOk rfl rfl (ql_eqlT tabOk rfl rfl rfl (by omega) (ql_pure tabOk rfl rfl (ql_eqlT tabOk rfl rfl rfl (by omega) ?_)))))
      refine ql_neb (by kernel_rfl) rfl rfl rfl ?_
      (refine ql_pure tabOk rfl rfl (ql_gyes rfl (ql_pure tabOk rfl rfl (ql_gyes rfl (ql_neqF tabOk rfl rfl rfl (by omega) (ql_gyes rfl (ql_pure tabOk rfl rfl ?_)))))); (iterate 3 refine ql_gno rfl rfl rfl ?_); refine ql_gnone rfl rfl (ql_gnone rfl rfl (ql_gno rfl rfl rfl (ql_gyes rfl ?_))); (iterate 3 refine ql_pure tabOk rfl rfl ?_); refine ql_gyes rfl (ql_pure tabOk rfl rfl (ql_gyes rfl (ql_pure tabOk rfl rfl (ql_gyes rfl (ql_neqF tabOk rfl rfl rfl (by omega) (ql_pure tabOk rfl rfl (ql_pure tabOk rfl rfl (ql_gyes rfl (ql_pure tabOk rfl rfl (ql_gyes rfl (ql_neqF tabOk rfl rfl rfl (by omega) ?_))))))))))); refine ql_pure tabOk rfl rfl (ql_pure tabOk rfl rfl (ql_gyes rfl (ql_pure tabOk rfl rfl (ql_gyes rfl (ql_pure tabOk rfl rfl (ql_gyes rfl (ql_gtrT tabOk rfl rfl rfl (by omega) (ql_gyes rfl (ql_pure tabOk rfl rfl (ql_gyes rfl (ql_eqlT tabOk rfl rfl rfl (by omega) ?_))))))))))); refine ql_gyes rfl ?_)
      refine ql_neb (by kernel_rfl) rfl rfl rfl ?_
      (refine ql_pure tabOk rfl rfl (q_nil ?_))
      exact hKZ () _ _ ⟨rfl, rfl, rfl, by rw [h2]; rfl, rfl, rfl, trivial⟩ (by repeat constructor)
  intro _
  refine q_cond_false rfl ?_
  refine q_skip ?_
  refine q_seq ?_
  refine q_cut (σ := Unit) (fun _ => [(5, .pointer (some ⟨b5, 0, none⟩)), (7, .pointer (some ⟨b7, 0, none⟩)), (16, .slice a16 d.length c16)]) (fun _ => [.ow (.slice a16 d.length c16) 3 1 d.length (ints (chI d)), dkP (.slice at0 nt ct) b7 (100), .pt b5 (lbC l (.slice va l.runs.length vc)) 24, .ow (.slice va l.runs.length vc) 40 3 l.runs.length (rnC l.runs)]) ?_ ?_
  rotate_left
  · intro KZ hKZ
    rcases hcase with ⟨_, h1, h2, h3, h4⟩ | ⟨_, h2, h3, h4, s0, hs0, hsh⟩
    · rw [h2]
      (refine q_seq (q_region (ql_pure tabOk rfl rfl (ql_eqlF tabOk rfl rfl rfl (by omega) (q_nil (q_cond_false rfl (q_skip ?_)))))))
      exact hKZ () _ _ ⟨rfl, rfl, rfl, trivial⟩ (by repeat constructor)
    · have hsl := short_lt2 hrok hsh
      have hsm0 := sm_true (n := sk) (by omega) (short_shows (two_ok' hrok hs0 hs0) hsh)
      rw [h2]
      (refine q_seq (q_region (ql_pure tabOk rfl rfl (ql_eqlT tabOk rfl rfl rfl (by omega) (q_nil (q_cond_true rfl (q_seq (q_region (ql_pure tabOk rfl rfl (q_nil (q_seq (q_seq ?_))))))))))); refine q_region (ql_pure tabOk rfl rfl ?_); refine ql_loadBa tabOk rfl rfl rfl ?_; refine ql_pure tabOk rfl rfl (q_nil (q_block ?_)))
      rw [hls]
      refine q_loop (σ := Nat) (fun k => k ≤ sk) (fun k => sk - k) (fun k => [(5, .pointer (some ⟨b5, 0, none⟩)), (7, .pointer (some ⟨b7, 0, none⟩)), (10, .slice a10 c10.length q10), (16, .slice a16 d.length c16), (18, .bool (smB l c10 k)), (115, .int .i64 sk), (116, .int .i64 k)]) (fun _ => [.ow (.slice a10 c10.length q10) 3 1 c10.length (ints c10), .ow (.slice a16 d.length c16) 3 1 d.length (ints (chI d)), dkP (.slice at0 nt ct) b7 (100), .pt b5 (lbC l (.slice va l.runs.length vc)) 24, .ow (.slice va l.runs.length vc) 40 3 l.runs.length (rnC l.runs)]) 0 (by omega) ⟨rfl, rfl, rfl, rfl, rfl, rfl, rfl, trivial⟩ (by repeat constructor) ?_
      rintro k hk K hK
      (refine q_seq (q_region (ql_pure tabOk rfl rfl (q_nil (q_seq ?_)))))
      refine q_if rfl (fun hc => ?_) (fun hc => ?_)
      · have hk2 : k < sk := by omega
        clear hc
        have hsc := sm_succ l c10 k
        (refine q_skip (q_seq (q_block (q_seq (q_region (ql_pure tabOk rfl rfl (ql_pure tabOk rfl rfl (q_nil (q_seq (q_region ?_))))))))); refine ql_loadABa tabOk rfl rfl rfl ?_; (iterate 3 refine ql_pure tabOk rfl rfl ?_))
        refine ql_callv (val := .tuple #[.bool (chainV l k k c10).1, .int .i64 (chainV l k k c10).2]) tabOk rfl rfl rfl rfl (fun w hs => ?_) ?_; exact chainShows_ca w 0 w.heap.size 0 w.heap.size l (.slice va l.runs.length vc) k k (.slice a10 c10.length q10) c10 (runs_rdK hs (v := .slice va l.runs.length vc) (t := 40) (l := l.runs) (by repeat constructor) rfl) hmax (hs.rdI (v := .slice a10 c10.length q10) (l := c10) (t := 3) (n := c10.length) (by repeat constructor) rfl) (by omega)
        generalize chainV l k k c10 = cv at hsc ⊢
        obtain ⟨is, er⟩ := cv
        dsimp only at hsc ⊢
        cases hb : smB l c10 k with
        | true =>
          rw [hb, Bool.true_or] at hsc
          (refine ql_pure tabOk rfl rfl (ql_ext tabOk rfl rfl rfl (ql_ext tabOk rfl rfl rfl (ql_pure tabOk rfl rfl (ql_pure tabOk rfl rfl (q_nil (q_region (ql_pure tabOk rfl rfl (ql_pure tabOk rfl rfl ?_)))))))); (iterate 3 refine ql_gno rfl rfl rfl ?_); refine ql_gnone rfl rfl (ql_gno rfl rfl rfl (ql_pure tabOk rfl rfl (ql_pure tabOk rfl rfl (q_nil (q_blk (q_region (ql_ar tabOk rfl rfl rfl rfl (by omega) (by omega) (ql_pure tabOk rfl rfl (q_nil ?_))))))))))
          exact hK (k + 1) _ _ (by omega) (by omega) ⟨rfl, rfl, rfl, rfl, by rw [hsc]; rfl, rfl, rfl, trivial⟩ (by repeat constructor)
        | false =>
          rw [hb, Bool.false_or] at hsc
          by_cases her : er = 0
          · rw [decide_eq_true her, Bool.true_and] at hsc
            cases is with
            | true =>
              (refine ql_pure tabOk rfl rfl (ql_ext tabOk rfl rfl rfl (ql_ext tabOk rfl rfl rfl (ql_pure tabOk rfl rfl (ql_pure tabOk rfl rfl (q_nil (q_region (ql_pure tabOk rfl rfl (ql_pure tabOk rfl rfl (ql_gyes rfl (ql_pure tabOk rfl rfl (ql_gyes rfl ?_))))))))))); refine ql_eqlT tabOk rfl rfl rfl (by omega) (ql_gyes rfl (ql_pure tabOk rfl rfl (ql_gyes rfl (ql_pure tabOk rfl rfl (ql_gyes rfl ?_))))); (iterate 3 refine ql_pure tabOk rfl rfl ?_); refine q_nil (q_blk (q_region (ql_ar tabOk rfl rfl rfl rfl (by omega) (by omega) (ql_pure tabOk rfl rfl (q_nil ?_))))))
              exact hK (k + 1) _ _ (by omega) (by omega) ⟨rfl, rfl, rfl, rfl, by rw [hsc]; rfl, rfl, rfl, trivial⟩ (by repeat constructor)
            | false =>
              (refine ql_pure tabOk rfl rfl (ql_ext tabOk rfl rfl rfl (ql_ext tabOk rfl rfl rfl (ql_pure tabOk rfl rfl (ql_pure tabOk rfl rfl (q_nil (q_region (ql_pure tabOk rfl rfl (ql_pure tabOk rfl rfl (ql_gyes rfl (ql_pure tabOk rfl rfl (ql_gyes rfl ?_))))))))))); refine ql_eqlT tabOk rfl rfl rfl (by omega) (ql_gyes rfl (ql_pure tabOk rfl rfl (ql_gyes rfl (ql_pure tabOk rfl rfl (ql_gyes rfl ?_))))); (iterate 3 refine ql_pure tabOk rfl rfl ?_); refine q_nil (q_blk (q_region (ql_ar tabOk rfl rfl rfl rfl (by omega) (by omega) (ql_pure tabOk rfl rfl (q_nil ?_))))))
              exact hK (k + 1) _ _ (by omega) (by omega) ⟨rfl, rfl, rfl, rfl, by rw [hsc]; rfl, rfl, rfl, trivial⟩ (by repeat constructor)
          · rw [decide_eq_false her, Bool.false_and] at hsc
            (refine ql_pure tabOk rfl rfl (ql_ext tabOk rfl rfl rfl (ql_ext tabOk rfl rfl rfl (ql_pure tabOk rfl rfl (ql_pure tabOk rfl rfl (q_nil (q_region (ql_pure tabOk rfl rfl (ql_pure tabOk rfl rfl (ql_gyes rfl (ql_pure tabOk rfl rfl (ql_gyes rfl ?_))))))))))); refine ql_eqlF tabOk rfl rfl rfl (by omega) (ql_gyes rfl (ql_pure tabOk rfl rfl (ql_gno rfl rfl rfl (ql_gyes rfl ?_)))); (iterate 3 refine ql_pure tabOk rfl rfl ?_); refine q_nil (q_blk (q_region (ql_ar tabOk rfl rfl rfl rfl (by omega) (by omega) (ql_pure tabOk rfl rfl (q_nil ?_))))))
            exact hK (k + 1) _ _ (by omega) (by omega) ⟨rfl, rfl, rfl, rfl, by rw [hsc]; rfl, rfl, rfl, trivial⟩ (by repeat constructor)
      · obtain rfl : sk = k := by omega
        rw [hsm0]
        (refine q_exit _ rfl (q_seq (q_region (ql_pure tabOk rfl rfl (ql_pure tabOk rfl rfl (q_nil (q_cond_false rfl (q_skip ?_))))))))
        exact hKZ () _ _ ⟨rfl, rfl, rfl, trivial⟩ (by repeat constructor)
  intro _
  refine q_seq ?_
  refine q_region ?_
  (refine ql_pure tabOk rfl rfl (ql_pure tabOk rfl rfl (q_nil ?_)))
  refine q_seq ?_
  refine q_cut (σ := Unit) (fun _ => [(5, .pointer (some ⟨b5, 0, none⟩)), (7, .pointer (some ⟨b7, 0, none⟩)), (16, .slice a16 d.length c16), (22, .func (.func 43) #[] #[.pointer (some ⟨b5, 0, none⟩)])]) (fun _ => [.ow (.slice a16 d.length c16) 3 1 d.length (ints (chI d)), dkP (.slice at0 nt ct) b7 (100), .pt b5 (lbC l (.slice va l.runs.length vc)) 24, .ow (.slice va l.runs.length vc) 40 3 l.runs.length (rnC l.runs)]) ?_ ?_
  rotate_left
  · intro KZ hKZ
    have hw1 : (decide (agreedV (woL l d) = 0) && true) = true := by rw [decide_eq_true ((wo_agreed hrok d).2 hdr.noC)]; rfl
    (refine q_seq (q_region (ql_pure tabOk rfl rfl (ql_pure tabOk rfl rfl ?_))))
    refine ql_callFv rfl rfl rfl (fun w hs => CaF.of tabOk (by kernel_rfl) (without_ca w 0 w.heap.size 0 w.heap.size b5 24 l (.slice va l.runs.length vc) (.slice a16 d.length c16) d (hs.blk (by repeat constructor)) (runs_rdK hs (v := .slice va l.runs.length vc) (t := 40) (l := l.runs) (by repeat constructor) rfl) hrok (hs.rdI (v := .slice a16 d.length c16) (l := chI d) (t := 3) (n := d.length) (by repeat constructor) (chI_len _).symm) (by omega))) ?_
    rw [hw1]
    by_cases hd0 : d.length = 0
    · (refine ql_pure tabOk rfl rfl (ql_pure tabOk rfl rfl (ql_gyes rfl (ql_pure tabOk rfl rfl (ql_gyes rfl (ql_pure tabOk rfl rfl (ql_gyes rfl (ql_gtrF tabOk rfl rfl rfl (by omega) (ql_gyes rfl (ql_pure tabOk rfl rfl ?_))))))))); (iterate 4 refine ql_gno rfl rfl rfl ?_); refine ql_gyes rfl (ql_pure tabOk rfl rfl (ql_pure tabOk rfl rfl (q_nil (q_cond_false rfl (q_skip ?_))))))
      exact hKZ () _ _ ⟨rfl, rfl, rfl, rfl, trivial⟩ (by repeat constructor)
    · have hw2 : (decide (agreedV (woL l (d.drop 1)) = 0) && true) = false := by
        rw [decide_eq_false (fun h0 => by
          have := hdr.min _ ((wo_agreed hrok (d.drop 1)).1 h0)
          rw [List.length_drop] at this
          omega)]
        rfl
      have hdr1 : (chI d).drop 1 = chI (d.drop 1) := by unfold chI; rw [List.map_drop]
      (refine ql_pure tabOk rfl rfl (ql_pure tabOk rfl rfl (ql_gyes rfl (ql_pure tabOk rfl rfl (ql_gyes rfl (ql_pure tabOk rfl rfl (ql_gyes rfl (ql_gtrT tabOk rfl rfl rfl (by omega) (ql_gyes rfl (ql_pure tabOk rfl rfl (ql_gyes rfl (ql_pure tabOk rfl rfl ?_))))))))))); refine ql_gyes rfl (ql_pure tabOk rfl rfl (ql_gyes rfl ?_)))
      refine ql_fact (fun w hs => own_cap hs (c := c16) (n := d.length) (a := a16) (e := 3) (sz := 1) (m := d.length) (xs := ints (chI d)) (by repeat constructor)) (fun hcap => ?_)
      refine ql_from (sz := 1) 1 rfl (by kernel_rfl) rfl rfl rfl (by omega) ?_
      (refine ql_gyes rfl ?_)
      refine ql_callFv rfl rfl rfl (fun w hs => CaF.of tabOk (by kernel_rfl) (without_ca w 0 w.heap.size 0 w.heap.size b5 24 l (.slice va l.runs.length vc) _ (d.drop 1) (hs.blk (by repeat constructor)) (runs_rdK hs (v := .slice va l.runs.length vc) (t := 40) (l := l.runs) (by repeat constructor) rfl) hrok (by have := rdI_from (k := 1) (hs.rdI (v := .slice a16 d.length c16) (l := chI d) (t := 3) (n := d.length) (by repeat constructor) (chI_len _).symm) (by omega) (chI_len _).symm hcap; rw [hdr1] at this; exact this) (by rw [List.length_drop]; omega))) ?_
      rw [hw2]
      (refine ql_gyes rfl (ql_pure tabOk rfl rfl (ql_pure tabOk rfl rfl (q_nil (q_cond_false rfl (q_skip ?_))))))
      exact hKZ () _ _ ⟨rfl, rfl, rfl, rfl, trivial⟩ (by repeat constructor)
  intro _
  (refine q_seq (q_seq (q_region (ql_pure tabOk rfl rfl (q_nil (q_block ?_))))))
  refine q_loop (σ := Nat) (fun r => r ≤ 6) (fun r => 6 - r) (fun r => [(5, .pointer (some ⟨b5, 0, none⟩)), (7, .pointer (some ⟨b7, 0, none⟩)), (16, .slice a16 d.length c16), (22, .func (.func 43) #[] #[.pointer (some ⟨b5, 0, none⟩)]), (154, .int .i64 r)]) (fun r => [dkP (.slice at0 nt ct) b7 (100 + r * 30), .ow (.slice a16 d.length c16) 3 1 d.length (ints (chI d)), .pt b5 (lbC l (.slice va l.runs.length vc)) 24, .ow (.slice va l.runs.length vc) 40 3 l.runs.length (rnC l.runs)]) 0 (by omega) ⟨rfl, rfl, rfl, rfl, rfl, trivial⟩ (by repeat constructor) ?_
  rintro r hr K hK
  (refine q_seq (q_region (ql_pure tabOk rfl rfl (q_nil (q_seq ?_)))))
  refine q_if rfl (fun hc => ?_) (fun hc => ?_)
  · have hr2 : r < 6 := by omega
    clear hc
    (refine q_skip (q_seq (q_block (q_seq (q_region (ql_pure tabOk rfl rfl (q_nil (q_seq (q_seq (q_region (ql_pure tabOk rfl rfl ?_)))))))))); refine ql_loadBa tabOk rfl rfl rfl ?_; refine ql_pure tabOk rfl rfl (ql_pure tabOk rfl rfl (q_nil (q_block ?_))))
    refine q_conv (H' := [.ow (.slice none 0 0) 3 1 0 (ints (chI [])), dkP (.slice at0 nt ct) b7 (100 + r * 30 + 0), .ow (.slice a16 d.length c16) 3 1 d.length (ints (chI d)), .pt b5 (lbC l (.slice va l.runs.length vc)) 24, .ow (.slice va l.runs.length vc) 40 3 l.runs.length (rnC l.runs)]) (fun w' hs => (Sat.ownil (hs.sp (H' := [dkP (.slice at0 nt ct) b7 (100 + r * 30 + 0), .ow (.slice a16 d.length c16) 3 1 d.length (ints (chI d)), .pt b5 (lbC l (.slice va l.runs.length vc)) 24, .ow (.slice va l.runs.length vc) 40 3 l.runs.length (rnC l.runs)]) (by repeat constructor)) 3 1).sp (by repeat constructor)) ?_
    refine q_loop (σ := Nat × Value × List Nat) (fun z => z.1 ≤ l.runs.length ∧ z.2.2.length ≤ z.1) (fun z => l.runs.length - z.1) (fun z => [(5, .pointer (some ⟨b5, 0, none⟩)), (7, .pointer (some ⟨b7, 0, none⟩)), (16, .slice a16 d.length c16), (22, .func (.func 43) #[] #[.pointer (some ⟨b5, 0, none⟩)]), (23, z.2.1), (154, .int .i64 r), (158, .int .i64 l.runs.length), (159, .int .i64 z.1)]) (fun z => [.ow z.2.1 3 1 z.2.2.length (ints (chI z.2.2)), dkP (.slice at0 nt ct) b7 (100 + r * 30 + z.1), .ow (.slice a16 d.length c16) 3 1 d.length (ints (chI d)), .pt b5 (lbC l (.slice va l.runs.length vc)) 24, .ow (.slice va l.runs.length vc) 40 3 l.runs.length (rnC l.runs)]) (0, .slice none 0 0, []) ⟨by simp only; omega, by simp⟩ ⟨rfl, rfl, rfl, rfl, rfl, rfl, rfl, rfl, trivial⟩ (by repeat constructor) ?_
    rintro ⟨i, u, ch⟩ ⟨hi, hch⟩ K2 hK2
    dsimp only at hi hch hK2 ⊢
    (refine q_seq (q_region (ql_pure tabOk rfl rfl (q_nil (q_seq ?_)))))
    refine q_if rfl (fun hc => ?_) (fun hc => ?_)
    · have hi2 : i < l.runs.length := by omega
      clear hc
      (refine q_skip (q_seq (q_block (q_seq (q_region (ql_pure tabOk rfl rfl (ql_pure tabOk rfl rfl (q_nil (q_seq (q_region (ql_pure tabOk rfl rfl ?_)))))))))))
      refine ql_call (β := Bool) (ψ := fun x v => v = .bool x) (L' := fun _ => [dkP (.slice at0 nt ct) b7 (100 + r * 30 + i + 1)]) tabOk [dkP (.slice at0 nt ct) b7 (100 + r * 30 + i)] _ (fun x => x = b7) rfl rfl rfl rfl (Sp.cons (by repeat constructor) (Sp.refl _)) (fun x hx => ⟨_, .head _, hx⟩) (fun w' hs => coin0 hbyb7 hs (by omega) (by omega)) ?_
      rintro cbx _ rfl
      dsimp only [List.cons_append, List.nil_append]
      cases cbx with
      | true =>
        (refine q_nil (q_cond_true rfl (q_region (ql_pure tabOk rfl rfl (ql_pure tabOk rfl rfl ?_)))))
        refine ql_mkS 3 [.int .i64 i] rfl (by kernel_rfl) rfl (fun bn => ?_)
        skip
        refine ql_append (q := 1) (news := [.int .i64 i]) slI rfl rfl rfl (fun v' => by repeat constructor) (fun w' hs => ⟨_, _, Blk.rdN (hs.blk (b := bn) (by repeat constructor)) rfl⟩) (by simp [oneV]) (by omega) (by omega) (fun u' => ?_)
        (refine ql_pure tabOk rfl rfl (q_nil (q_blk (q_region (ql_ar tabOk rfl rfl rfl rfl (by omega) (by omega) (ql_pure tabOk rfl rfl (q_nil ?_)))))))
        exact hK2 (i + 1, u', ch ++ [i]) _ _ ⟨by simp only; omega, by simp only [List.length_append, List.length_singleton]; omega⟩ (by simp only; omega) ⟨rfl, rfl, rfl, rfl, rfl, rfl, rfl, rfl, trivial⟩ (by dsimp only; rw [List.length_append, List.length_singleton, chI_add]; repeat constructor)
      | false =>
        (refine q_nil (q_cond_false rfl (q_skip (q_blk (q_region (ql_ar tabOk rfl rfl rfl rfl (by omega) (by omega) (ql_pure tabOk rfl rfl (q_nil ?_))))))))
        exact hK2 (i + 1, u, ch) _ _ ⟨by simp only; omega, by simp only; omega⟩ (by simp only; omega) ⟨rfl, rfl, rfl, rfl, rfl, rfl, rfl, rfl, trivial⟩ (by repeat constructor)
    · have hiN : i = l.runs.length := by omega
      subst hiN
      clear hc hK2
      refine q_fact (fun w hs => hs.slice2 (v := u) (by repeat constructor)) ?_
      rintro ⟨ua, uc, rfl⟩
      by_cases hlt : ch.length < d.length
      · have hw3 : (decide (agreedV (woL l ch) = 0) && true) = false := by
          rw [decide_eq_false (fun h0 => by
            have := hdr.min _ ((wo_agreed hrok ch).1 h0)
            omega)]
          rfl
        (refine q_exit _ rfl (q_seq (q_region ?_)); (iterate 4 refine ql_pure tabOk rfl rfl ?_); refine ql_lssT tabOk rfl rfl rfl (by omega) (ql_pure tabOk rfl rfl (ql_gyes rfl (ql_pure tabOk rfl rfl (ql_gyes rfl (ql_pure tabOk rfl rfl (ql_gyes rfl ?_)))))))
        refine ql_callFv rfl rfl rfl (fun w hs => CaF.of tabOk (by kernel_rfl) (without_ca w 0 w.heap.size 0 w.heap.size b5 24 l (.slice va l.runs.length vc) (.slice ua ch.length uc) ch (hs.blk (by repeat constructor)) (runs_rdK hs (v := .slice va l.runs.length vc) (t := 40) (l := l.runs) (by repeat constructor) rfl) hrok (hs.rdI (v := .slice ua ch.length uc) (l := chI ch) (t := 3) (n := ch.length) (by repeat constructor) (chI_len _).symm) (by omega))) ?_
        rw [hw3]
        (refine ql_pure tabOk rfl rfl (q_nil (q_cond_false rfl (q_skip (q_blk (q_region (ql_ar tabOk rfl rfl rfl rfl (by omega) (by omega) (ql_pure tabOk rfl rfl (q_nil ?_)))))))))
        refine q_conv (H' := [dkP (.slice at0 nt ct) b7 (100 + (r + 1) * 30), .ow (.slice a16 d.length c16) 3 1 d.length (ints (chI d)), .pt b5 (lbC l (.slice va l.runs.length vc)) 24, .ow (.slice va l.runs.length vc) 40 3 l.runs.length (rnC l.runs)]) (fun w' hs => (Sat.dk (K' := 100 + (r + 1) * 30) (hs.sp (H' := [dkP (.slice at0 nt ct) b7 (100 + r * 30 + l.runs.length), .ow (.slice a16 d.length c16) 3 1 d.length (ints (chI d)), .pt b5 (lbC l (.slice va l.runs.length vc)) 24, .ow (.slice va l.runs.length vc) 40 3 l.runs.length (rnC l.runs)]) (by repeat constructor)) (by omega)).sp (by repeat constructor)) ?_
        exact hK (r + 1) _ _ (by omega) (by omega) ⟨rfl, rfl, rfl, rfl, rfl, trivial⟩ (by repeat constructor)
      · skip
        (refine q_exit _ rfl (q_seq (q_region ?_)); (iterate 4 refine ql_pure tabOk rfl rfl ?_); refine ql_lssF tabOk rfl rfl rfl (by omega) (ql_pure tabOk rfl rfl ?_); (iterate 3 refine ql_gno rfl rfl rfl ?_); refine ql_pure tabOk rfl rfl (q_nil (q_cond_false rfl (q_skip (q_blk (q_region (ql_ar tabOk rfl rfl rfl rfl (by omega) (by omega) (ql_pure tabOk rfl rfl (q_nil ?_)))))))))
        refine q_conv (H' := [dkP (.slice at0 nt ct) b7 (100 + (r + 1) * 30), .ow (.slice a16 d.length c16) 3 1 d.length (ints (chI d)), .pt b5 (lbC l (.slice va l.runs.length vc)) 24, .ow (.slice va l.runs.length vc) 40 3 l.runs.length (rnC l.runs)]) (fun w' hs => (Sat.dk (K' := 100 + (r + 1) * 30) (hs.sp (H' := [dkP (.slice at0 nt ct) b7 (100 + r * 30 + l.runs.length), .ow (.slice a16 d.length c16) 3 1 d.length (ints (chI d)), .pt b5 (lbC l (.slice va l.runs.length vc)) 24, .ow (.slice va l.runs.length vc) 40 3 l.runs.length (rnC l.runs)]) (by repeat constructor)) (by omega)).sp (by repeat constructor)) ?_
        exact hK (r + 1) _ _ (by omega) (by omega) ⟨rfl, rfl, rfl, rfl, rfl, trivial⟩ (by repeat constructor)
  · clear hc hK
    (refine q_exit _ rfl (q_seq (q_region ?_)))
    refine ql_callv (val := .bool true) tabOk rfl rfl rfl rfl (fun w hs => ?_) ?_; exact awake_ca w
    (refine ql_pure tabOk rfl rfl (q_nil (q_ret ?_)))
    refine q_fin tabOk rfl (by repeat constructor) fun w hs => ?_
    exact ⟨rfl, hs.chg0⟩
end Go.Proofs.YtcmpdmobmbbplaaGreat
