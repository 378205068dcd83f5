/- My texts K51, L9, joined: a claim takes at most 60 files. -/
import Derived.Test.YtcmpdmobmbbplaaGreatJ4

/- Walks: shuffles of a new deck; places and plans of any lab; what skis and runs in another order say. -/
namespace Go.Proofs.YtcmpdmobmbbplaaGreat
set_option maxRecDepth 4000
open Go Go.Eng
theorem shuf0 {w0 w : World} {R : List Ck} {b K : Nat} {bs : Value} {m : Nat} (hby : DkB w0 0 w0.heap.size bs) (hs : Sat w0 M0 (dkP bs b K :: R) w) (hm : m ≤ 1000) (hK : K < 1000000) :
    Ca Tryz.prog 24 [.pointer (some ⟨b, 0, none⟩), .int .i64 m] w fun v w' => ∃ x : Value × List Nat, (v = x.1 ∧ x.2.Perm (List.range m)) ∧ Sat w (fun x => x = b) [.ow x.1 3 1 m (ints (chI x.2)), dkP bs b (K + m)] w' :=
  shuf_ca m hm K hK w b 0 w0.heap.size bs (hby.keep hs.chg0) (dk_new hs) (hs.all _ (.head _))
def plA (l : Lb) : List (Int × Int) := if agreedV l = 0 then plC l l.ord l.n else []
theorem placesA_ca (w : World) (lo hi : Nat) (l : Lb) (v : Value) (h : RdR w lo hi v l.runs) (hlen : l.runs.length ≤ maxLen) : Ca Tryz.prog 28 [.agg (lbC l v).toArray] w fun x w' => ∃ u : Value, x = .tuple #[u, .int .i64 (agreedV l)] ∧ Sat w M0 [.ow u 64 2 (plA l).length (spC (plA l))] w' := by
  by_cases h0 : agreedV l = 0
  · obtain ⟨hl, hc⟩ := agreed_iff.1 h0
    refine (places_ok w lo hi l v h hl hc).mono fun x w' ⟨u, h1, h2⟩ => ⟨u, by rw [h0]; exact h1, ?_⟩
    unfold plA
    rw [if_pos h0, plC_len]
    exact h2
  · refine (places_no w lo hi l v h hlen h0).mono fun x w' ⟨h1, h2⟩ => ⟨_, h1, ?_⟩
    unfold plA
    rw [if_neg h0]
    exact Sat.ownil ((Sat.nil w M0).keep h2) _ _
theorem fewestA_ca (w : World) (lo hi : Nat) (l : Lb) (v : Value) (k : Int) (h : RdR w lo hi v l.runs) (hlen : l.runs.length ≤ maxLen) : Ca Tryz.prog 15 [.agg (lbC l v).toArray, .int .i64 k] w fun x w' => x = .tuple #[.int .i64 (fewestV l k).1, .int .i64 (fewestV l k).2] ∧ Chg [] w w' := by
  by_cases h0 : plannedV l k = 0
  · have hp := planned_iff.1 h0
    obtain ⟨n, rfl⟩ := Int.eq_ofNat_of_zero_le (show 0 ≤ k by have := hp.k1; omega)
    have := fewest_ok w lo hi l v n h hp
    unfold fewestV
    rw [if_neg (by rw [h0]; simp), Int.toNat_natCast]
    exact this
  · have := fewest_no w lo hi l v k h hlen h0
    unfold fewestV
    rw [if_pos h0]
    exact this
section
variable {l m : Lb} {t u : Nat → Nat} {σ : List Nat}
theorem ren_agreed (h : RenL l m t σ) (hl : l.Ok) (hb : Bij l.n t u) : agreedV m = agreedV l := by
  have hm := h.ok hl hb
  have ho := h.o hl hb
  by_cases hc : NoC l.ord l.n
  · have h1 := ho.noC hc
    rw [(agreed_noC hl).2 hc, (agreed_noC hm).2 (by rw [h.n]; exact h1)]
  · have h1 : ¬ NoC m.ord m.n := fun h2 => hc (by rw [h.n] at h2; exact ho.symm.noC h2)
    rw [agreed_seven hl hc, agreed_seven hm h1]
theorem ren_ord (h : RenL l m t σ) (hl : l.Ok) (hb : Bij l.n t u) : ordN m = ordN l := by
  unfold ordN
  rw [ren_agreed h hl hb, h.n, (h.o hl hb).cnt]
theorem ren_plA (h : RenL l m t σ) (hl : l.Ok) (hb : Bij l.n t u) (h0 : agreedV l = 0) : (plA l).length = l.n ∧ (plA m).length = l.n ∧ ∀ s, s < l.n → (plA m)[t s]? = (plA l)[s]? := by
  have ho := h.o hl hb
  unfold plA
  rw [ren_agreed h hl hb, if_pos h0, if_pos h0, h.n]
  refine ⟨plC_len _ _ _, plC_len _ _ _, fun s hs => ?_⟩
  have ts := hb.t1 s hs
  unfold plC
  rw [List.getElem?_map, List.getElem?_map, List.getElem?_range ts, List.getElem?_range hs]
  simp only [Option.map_some]
  rw [h.n, h.sk, ho.up hs, ho.dn hs]
theorem ren_plA0 (h : RenL l m t σ) (hl : l.Ok) (hb : Bij l.n t u) : (plA m).length = (plA l).length := by
  by_cases h0 : agreedV l = 0
  · obtain ⟨h1, h2, _⟩ := ren_plA h hl hb h0
    omega
  · unfold plA
    rw [ren_agreed h hl hb, if_neg h0, if_neg h0]
theorem ren_few (h : RenL l m t σ) (hl : l.Ok) (hb : Bij l.n t u) {k : Nat} (h1 : 1 ≤ k) (hk : k ≤ l.n) : fewestV m k = fewestV l k := by
  have hm := h.ok hl hb
  have ho := h.o hl hb
  have hn := h.n
  have e : plannedV m k = plannedV l k := by
    unfold plannedV placedV
    rw [check_iff.2 hl, check_iff.2 hm, h.sk, ren_agreed h hl hb]
  unfold fewestV
  rw [e]
  by_cases h0 : plannedV l k = 0
  · have hp := planned_iff.1 h0
    rw [if_neg (by rw [h0]; simp), if_neg (by rw [h0]; simp), hn, Int.toNat_natCast, ho.plan (by omega) hk hp.noC]
  · rw [if_pos h0, if_pos h0]
theorem ren_chR (h : RenL l m t σ) (hl : l.Ok) (hb : Bij l.n t u) {a b : Nat} (ha : a < l.n) (hb' : b < l.n) {c c' : List Int} {e e' : Int} (h1 : ChR l a b c e) (h2 : ChR m (t a : Nat) (t b : Nat) c' e') : e = e' ∧ c.length = c'.length := by
  have hm := h.ok hl hb
  have ta := hb.t1 a ha
  have tb := hb.t1 b hb'
  have t1 := two_ok' hl ha hb'
  have t2 := two_ok' hm (a := t a) (b := t b) (by rw [h.n]; exact ta) (by rw [h.n]; exact tb)
  rcases h1 with ⟨g, _⟩ | ⟨_, g1, rfl, rfl⟩ | ⟨_, g1, rfl⟩
  · exact absurd t1 g
  · rw [Int.toNat_natCast, Int.toNat_natCast] at g1
    rcases h2 with ⟨g, _⟩ | ⟨_, g2, rfl, rfl⟩ | ⟨_, g2, rfl⟩
    · exact absurd t2 g
    · exact ⟨rfl, rfl⟩
    · rw [Int.toNat_natCast, Int.toNat_natCast] at g2
      exact (ren_no h hl hb ha hb' g1 g2).elim
  · rw [Int.toNat_natCast, Int.toNat_natCast] at g1
    rcases h2 with ⟨g, _⟩ | ⟨_, g2, rfl, rfl⟩ | ⟨_, g2, rfl⟩
    · exact absurd t2 g
    · rw [Int.toNat_natCast, Int.toNat_natCast] at g2
      exact (ren_no2 h hl g2 g1).elim
    · rw [Int.toNat_natCast, Int.toNat_natCast] at g2
      exact ⟨rfl, ren_chain h hl hb ha hb' g1 g2⟩
end
theorem perm_bij {n : Nat} {P : List Nat} (hp : P.Perm (List.range n)) : ∃ u, Bij n (fun i => P.getD i 0) u := by
  have hl : P.length = n := by rw [hp.length_eq, List.length_range]
  have hn := hp.nodup_iff.2 List.nodup_range
  have hg : ∀ i (h : i < n), P.getD i 0 = P[i]'(by omega) := fun i h => by rw [List.getD_eq_getElem?_getD, List.getElem?_eq_getElem (by omega), Option.getD_some]
  refine bij_of (fun i hi => ?_) (fun i j hi hj e => ?_)
  · rw [hg i hi]
    exact List.mem_range.1 (hp.mem_iff.1 (List.getElem_mem _))
  · simp only [hg i hi, hg j hj] at e
    exact (List.getElem_inj hn).1 e
end Go.Proofs.YtcmpdmobmbbplaaGreat

/- SkiNamed. -/
namespace Go.Proofs.YtcmpdmobmbbplaaGreat
set_option maxRecDepth 4000
open Go Go.Eng
/-- A run, or what it says from the other side. -/
def SwR (r x : Rn) : Prop := x = r ∨ x = ⟨r.b, r.a, -r.lead⟩
theorem sw_ren {r x : Rn} (h : SwR r x) (P : List Nat) {p q : Nat} (hp : p = P.getD x.a.toNat 0) (hq : q = P.getD x.b.toNat 0) : RenR (fun i => P.getD i 0) r ⟨p, q, x.lead⟩ := by
  rcases h with rfl | rfl
  · exact .inl ⟨by rw [hp], by rw [hq], rfl⟩
  · exact .inr ⟨by rw [hp], by rw [hq], rfl⟩
theorem sw_ok {s : Int} {r x : Rn} (h : SwR r x) (ho : r.Ok s) : x.Ok s := by
  rcases h with rfl | rfl
  · exact ho
  · have l0 := ho.l0
    have l1 := ho.l1
    exact ⟨ho.b0, ho.b1, ho.a0, ho.a1, ho.ne.symm, by simp only; omega, by simp only; omega⟩
set_option maxHeartbeats 8000000 in
set_option maxRecDepth 20000 in
theorem skiNamed_ca (w : World) (a : Option Addr) (nb cb : Nat) (at0 : Option Addr) (nt ct : Nat) (a2 : Int) (ha2 : 0 ≤ a2 ∧ a2 < 256) (hbyb1 : DkB w 0 w.heap.size (.slice a nb cb)) (hbyD : DkB w 0 w.heap.size (.slice at0 nt ct)) :
    Ca Tryz.prog 4 [.slice a nb cb, .slice at0 nt ct, .int .u8 a2] w fun r w' => r = .bool true ∧ Chg [] w w' := by
  refine q_of (Sat.nil w M0) Tryz.func4 rfl (by simp [Tryz.ntmps4]) ?_
  (refine q_seq (q_region (ql_pure tabOk rfl rfl (q_nil (q_seq (q_region (ql_pure tabOk rfl rfl ?_)))))))
  refine ql_call (β := Nat) tabOk [] _ M0 rfl rfl rfl rfl (Sp.refl _) (fun _ h => h.elim) (fun w' hs => of_ca w' a nb cb) ?_
  rintro b1 _ rfl
  dsimp only [List.cons_append, List.nil_append]
  refine ql_call (β := Value × Value × Lb × List Int) (ψ := fun y v => v = .tuple #[.agg (lbC y.2.2.1 y.1).toArray, y.2.1] ∧ MadeL 5 12 y.2.2.1 y.2.2.2) (L' := fun y => [.ow y.1 40 3 y.2.2.1.runs.length (rnC y.2.2.1.runs), .ow y.2.1 3 1 y.2.2.2.length (ints y.2.2.2), dkP (.slice a nb cb) b1 (0 + 100)]) tabOk [dkP (.slice a nb cb) b1 0] _ (fun x => x = b1) rfl rfl rfl rfl (Sp.cons (by repeat constructor) (Sp.refl _)) (fun x hx => ⟨_, .head _, hx⟩) (fun w' hs => madeK (most := 5) (runs := 12) hbyb1 hs (by omega) (by omega) (by omega) (by omega)) ?_
  rintro ⟨v, rv, ⟨ls, err, runs⟩, real⟩ _ ⟨rfl, hm⟩
  dsimp only [List.cons_append, List.nil_append, lbC] at hm ⊢
  have hok := hm.ok
  have hs2 : 2 ≤ ls := hm.s2
  have hsm : ls ≤ 5 := hm.sm
  have he0 : 0 ≤ err := hok.e0
  have he12 : err ≤ 11 := hm.e12
  have hlen : runs.length ≤ 12 := hm.len
  obtain ⟨sk, rfl⟩ := Int.eq_ofNat_of_zero_le (show 0 ≤ ls by omega)
  have hln : (⟨(sk : Int), err, runs⟩ : Lb).n = sk := by unfold Lb.n; simp
  refine ql_fact (fun w hs => hs.slice2 (v := v) (by repeat constructor)) ?_
  rintro ⟨va, vc, rfl⟩
  refine ql_fact (fun w hs => hs.slice2 (v := rv) (by repeat constructor)) ?_
  rintro ⟨rg, rc, rfl⟩
  (refine ql_pure tabOk rfl rfl (ql_ext tabOk rfl rfl rfl (ql_ext tabOk rfl rfl rfl ?_)))
  refine ql_alloc zero24 rfl (fun bL => ?_)
  (refine ql_setA tabOk rfl rfl rfl rfl rfl (by repeat constructor) rfl ?_; refine ql_pure tabOk rfl rfl (q_nil (q_seq (q_region (ql_pure tabOk rfl rfl ?_)))))
  refine ql_call (β := Nat) tabOk [] _ M0 rfl rfl rfl rfl (Sp.refl _) (fun _ h => h.elim) (fun w' hs => of_ca w' at0 nt ct) ?_
  rintro bD _ rfl
  dsimp only [List.cons_append, List.nil_append]
  obtain ⟨n0, hn0⟩ : ∃ n0, n0 = runs.length := ⟨_, rfl⟩
  rw [← hn0] at hlen ⊢
  (refine ql_pure tabOk rfl rfl (q_nil (q_seq (q_seq (q_region (ql_pure tabOk rfl rfl ?_))))))
  refine ql_call (β := Int) (ψ := fun x v => v = .int .i64 x ∧ 0 ≤ x ∧ x ≤ 3 - 1) (L' := fun _ => [dkP (.slice at0 nt ct) bD (0 + 1)]) tabOk [dkP (.slice at0 nt ct) bD (0)] _ (fun x => x = bD) rfl rfl rfl rfl (Sp.cons (by repeat constructor) (Sp.refl _)) (fun x hx => ⟨_, .head _, hx⟩) (fun w' hs => drw0 hbyD hs (by omega) (by omega)) ?_
  rintro q5 _ ⟨rfl, hq0, hq1⟩
  dsimp only [List.cons_append, List.nil_append]
  (refine ql_pure tabOk rfl rfl (q_nil ?_))
  refine q_conv (H' := [dkP (.slice at0 nt ct) bD (0 + 1), .pt bL [.int .i64 sk, .int .i64 err, .slice va n0 vc] 24, .ow (.slice va n0 vc) 40 3 n0 (rnC runs)]) (fun w' hs => hs.sp (by repeat constructor)) ?_
  refine q_cut (σ := {r : List Rn // r.length = n0 ∧ (⟨(sk : Int), err, r⟩ : Lb).Ok}) (fun _ => [(2, .int .u8 a2), (7, .pointer (some ⟨bL, 0, none⟩)), (9, .pointer (some ⟨bD, 0, none⟩))]) (fun r => [dkP (.slice at0 nt ct) bD (100), .pt bL [.int .i64 sk, .int .i64 err, .slice va n0 vc] 24, .ow (.slice va n0 vc) 40 3 n0 (rnC r.1)]) ?_ ?_
  rotate_left
  · intro KZ hKZ
    (refine q_block ?_)
    refine q_loop (σ := Nat × List Rn) (fun z => (z.1 : Int) ≤ q5 ∧ z.2.length = n0 ∧ (⟨(sk : Int), err, z.2⟩ : Lb).Ok) (fun z => q5.toNat - z.1) (fun z => [(2, .int .u8 a2), (7, .pointer (some ⟨bL, 0, none⟩)), (9, .pointer (some ⟨bD, 0, none⟩)), (44, .int .i64 q5), (45, .int .i64 z.1)]) (fun z => [dkP (.slice at0 nt ct) bD (1 + z.1), .pt bL [.int .i64 sk, .int .i64 err, .slice va n0 vc] 24, .ow (.slice va n0 vc) 40 3 n0 (rnC z.2)]) (0, runs) ⟨by simpa using hq0, hn0.symm, hok⟩ ⟨rfl, rfl, rfl, rfl, rfl, trivial⟩ (by repeat constructor) ?_
    rintro ⟨k, r⟩ ⟨hk, hr1, hrok⟩ K hK
    dsimp only at hk hr1 hrok hK ⊢
    (refine q_seq (q_region (ql_pure tabOk rfl rfl (q_nil (q_seq ?_)))))
    refine q_if rfl (fun hc => ?_) (fun hc => ?_)
    · have hk2 : (k : Int) < q5 := by omega
      clear hc
      by_cases hz : 0 < n0
      · (refine q_skip (q_seq (q_block (q_seq (q_region (ql_pure tabOk rfl rfl ?_))))); refine ql_loadBa tabOk rfl rfl rfl ?_; refine ql_pure tabOk rfl rfl (ql_pure tabOk rfl rfl (q_nil (q_seq (q_region (ql_pure tabOk rfl rfl (ql_gtrT tabOk rfl rfl rfl (by omega) (q_nil (q_cond_true rfl (q_seq (q_region (ql_pure tabOk rfl rfl ?_))))))))))); refine ql_pure tabOk rfl rfl ?_)
        refine ql_fact (fun w hs => hs.ownSome (v := .slice va n0 vc) (by repeat constructor) hz) ?_
        rintro ⟨g, gq, ev⟩
        cases ev
        refine ql_call (β := Int) (ψ := fun x v => v = .int .i64 x ∧ 0 ≤ x ∧ x ≤ n0 - 1) (L' := fun _ => [dkP (.slice at0 nt ct) bD (1 + k + 1)]) tabOk [dkP (.slice at0 nt ct) bD (1 + k)] _ (fun x => x = bD) rfl rfl rfl rfl (Sp.cons (by repeat constructor) (Sp.refl _)) (fun x hx => ⟨_, .head _, hx⟩) (fun w' hs => drw0 hbyD hs (by omega) (by omega)) ?_
        rintro iz _ ⟨rfl, hi0, hi1⟩
        obtain ⟨i, rfl⟩ := Int.eq_ofNat_of_zero_le hi0
        have hir : i < r.length := by omega
        have hlb := hrok.run r[i] (List.getElem_mem hir)
        have l0 := hlb.l0
        have l1 := hlb.l1
        dsimp only [List.cons_append, List.nil_append]
        (refine ql_pure tabOk rfl rfl (q_nil ?_))
        refine q_drawS 10 [dkP (.slice at0 nt ct) bD (1 + (k + 1)), .pt bL [.int .i64 sk, .int .i64 err, .slice (some ⟨g, 0, none⟩) n0 vc] 24] [.ow (.slice (some ⟨g, 0, none⟩) n0 vc) 40 3 n0 (rnC r)] (by repeat constructor) (by kernel_rfl) (by kernel_rfl) (by kernel_rfl) fun K1 hK1 => ?_
        (refine qf_pure tabOk rfl rfl rfl ?_; refine qf_loadBa tabOk rfl rfl rfl ?_; refine qf_pure tabOk rfl rfl rfl (qf_pure tabOk rfl rfl rfl ?_); refine qf_loadBa tabOk rfl rfl rfl ?_; refine qf_pure tabOk rfl rfl rfl ?_)
        refine qf_index tabOk rfl rfl rfl rfl rfl (by omega) (by omega) ?_
        (refine qf_pure tabOk rfl rfl rfl ?_)
        refine qf_load1 (v := .int .i64 r[i].lead) tabOk rfl rfl rfl (fun w hs => RdR.at2 (runs_rdK hs (v := .slice (some ⟨g, 0, none⟩) n0 vc) (t := 40) (l := r) (by repeat constructor) hr1.symm) i hir) ?_
        (refine qf_neg tabOk rfl rfl (by omega) (by omega) (qf_nil ?_))
        refine hK1 _ _ [.ow (.slice (some ⟨g, 0, none⟩) n0 vc) 40 3 n0 (rnC r)] (by repeat constructor) ?_
        skip
        refine qf_index tabOk rfl rfl rfl rfl rfl (by omega) (by omega) ?_
        (refine qf_pure tabOk rfl rfl rfl ?_)
        refine qf_storeWs tabOk (i * 3 + 2) rfl rfl rfl rfl (by repeat constructor) (by omega) (by rw [rnC_length]; omega) ?_
        rw [flip_cells hir]
        (refine qf_nil (q_blk (q_region (ql_ar tabOk rfl rfl rfl rfl (by omega) (by omega) (ql_pure tabOk rfl rfl (q_nil ?_))))))
        exact hK (k + 1, flipR r i) _ _ ⟨by simp only; omega, by dsimp only; rw [flip_len]; exact hr1, flip_ok hrok hir⟩ (by simp only; omega) ⟨rfl, rfl, rfl, rfl, rfl, trivial⟩ (by repeat constructor)
      · (refine q_skip (q_seq (q_block (q_seq (q_region (ql_pure tabOk rfl rfl ?_))))); refine ql_loadBa tabOk rfl rfl rfl ?_; refine ql_pure tabOk rfl rfl (ql_pure tabOk rfl rfl (q_nil (q_seq (q_region (ql_pure tabOk rfl rfl (ql_gtrF tabOk rfl rfl rfl (by omega) (q_nil (q_cond_false rfl (q_skip (q_blk (q_region ?_))))))))))); refine ql_ar tabOk rfl rfl rfl rfl (by omega) (by omega) (ql_pure tabOk rfl rfl (q_nil ?_)))
        refine q_conv (H' := [dkP (.slice at0 nt ct) bD (1 + (k + 1)), .pt bL [.int .i64 sk, .int .i64 err, .slice va n0 vc] 24, .ow (.slice va n0 vc) 40 3 n0 (rnC r)]) (fun w' hs => (Sat.dk (K' := 1 + (k + 1)) (hs.sp (H' := [dkP (.slice at0 nt ct) bD (1 + k), .pt bL [.int .i64 sk, .int .i64 err, .slice va n0 vc] 24, .ow (.slice va n0 vc) 40 3 n0 (rnC r)]) (by repeat constructor)) (by omega)).sp (by repeat constructor)) ?_
        exact hK (k + 1, r) _ _ ⟨by simp only; omega, hr1, hrok⟩ (by simp only; omega) ⟨rfl, rfl, rfl, rfl, rfl, trivial⟩ (by repeat constructor)
    · clear hc hK
      (refine q_exit _ rfl ?_)
      refine q_conv (H' := [dkP (.slice at0 nt ct) bD (100), .pt bL [.int .i64 sk, .int .i64 err, .slice va n0 vc] 24, .ow (.slice va n0 vc) 40 3 n0 (rnC r)]) (fun w' hs => (Sat.dk (K' := 100) (hs.sp (H' := [dkP (.slice at0 nt ct) bD (1 + k), .pt bL [.int .i64 sk, .int .i64 err, .slice va n0 vc] 24, .ow (.slice va n0 vc) 40 3 n0 (rnC r)]) (by repeat constructor)) (by omega)).sp (by repeat constructor)) ?_
      exact hKZ ⟨r, hr1, hrok⟩ _ _ ⟨rfl, rfl, rfl, trivial⟩ (by repeat constructor)
  rintro ⟨r, hr1, hrok⟩
  dsimp only
  clear hm hok hn0
  obtain ⟨l, hl0⟩ : ∃ l : Lb, l = ⟨(sk : Int), err, r⟩ := ⟨_, rfl⟩
  rw [← hl0] at hrok
  have hls : l.skis = (sk : Int) := by rw [hl0]
  have hln' : l.n = sk := by unfold Lb.n; rw [hls]; simp
  have hlr : l.runs.length = n0 := by rw [hl0]; exact hr1
  have he : l.err = err := by rw [hl0]
  refine q_conv (H' := [dkP (.slice at0 nt ct) bD (100), .pt bL (lbC l (.slice va l.runs.length vc)) 24, .ow (.slice va l.runs.length vc) 40 3 l.runs.length (rnC l.runs)]) (fun w' hs => by subst hl0; subst hr1; exact hs.sp (by repeat constructor)) ?_
  clear hr1 hl0
  have hmax : l.runs.length ≤ maxLen := by rw [hlr]; have : maxLen = 9223372036854775807 := rfl; omega
  have e2 : IntKind.i64.wrap a2 = a2 := w64 (by omega) (by omega)
  obtain ⟨kq, hkq, hkq2⟩ := mod_natK ha2.1 (show 0 < sk by omega)
  have q2 : 0 ≤ IntKind.i64.wrap a2 % l.skis ∧ IntKind.i64.wrap a2 % l.skis < sk := by rw [e2, hls, hkq]; omega
  (refine q_seq (q_region ?_); (iterate 3 refine ql_pure tabOk rfl rfl ?_); refine ql_loadBa tabOk rfl rfl rfl ?_; refine ql_remN rfl rfl rfl (by omega) (by omega) (ql_ar tabOk rfl rfl rfl rfl (by omega) (by omega) (ql_pure tabOk rfl rfl (q_nil (q_seq (q_region (ql_pure tabOk rfl rfl (ql_pure tabOk rfl rfl ?_))))))); refine ql_loadBa tabOk rfl rfl rfl ?_)
  rw [e2, hls, hkq]
  refine ql_call (β := Value × List Nat) (ψ := fun x v => v = x.1 ∧ x.2.Perm (List.range (sk))) (L' := fun x => [.ow x.1 3 1 (sk) (ints (chI x.2)), dkP (.slice at0 nt ct) bD (100 + sk)]) tabOk [dkP (.slice at0 nt ct) bD (100)] _ (fun x => x = bD) rfl rfl rfl rfl (Sp.cons (by repeat constructor) (Sp.refl _)) (fun x hx => ⟨_, .head _, hx⟩) (fun w' hs => shuf0 hbyD hs (by omega) (by omega)) ?_
  rintro ⟨_, P⟩ tv ⟨rfl, hP⟩
  dsimp only [List.cons_append, List.nil_append] at hP ⊢
  refine ql_fact (fun w hs => hs.ownSome (v := tv) (by repeat constructor) (by omega)) ?_
  rintro ⟨gt, ct2, rfl⟩
  have hPl : P.length = sk := by rw [hP.length_eq, List.length_range]
  obtain ⟨ui, hbij⟩ := perm_bij hP
  (refine ql_pure tabOk rfl rfl (q_nil (q_seq (q_region (ql_pure tabOk rfl rfl ?_)))); refine ql_loadBa tabOk rfl rfl rfl ?_; refine ql_pure tabOk rfl rfl ?_; refine ql_loadBa tabOk rfl rfl rfl ?_)
  refine ql_mk (lbC ⟨l.skis, l.err, []⟩ (.slice none 0 0)).toArray rfl (by kernel_rfl) rfl ?_
  skip
  refine ql_alloc zero24 rfl (fun bM => ?_)
  (refine ql_setA tabOk rfl rfl rfl rfl rfl (by repeat constructor) rfl ?_; refine q_nil (q_seq (q_seq (q_region (ql_pure tabOk rfl rfl (ql_pure tabOk rfl rfl ?_))))); refine ql_loadBa tabOk rfl rfl rfl ?_; refine ql_pure tabOk rfl rfl ?_)
  refine ql_call (β := Value × List Nat) (ψ := fun x v => v = x.1 ∧ x.2.Perm (List.range (l.runs.length))) (L' := fun x => [.ow x.1 3 1 (l.runs.length) (ints (chI x.2)), dkP (.slice at0 nt ct) bD (100 + sk + l.runs.length)]) tabOk [dkP (.slice at0 nt ct) bD (100 + sk)] _ (fun x => x = bD) rfl rfl rfl rfl (Sp.cons (by repeat constructor) (Sp.refl _)) (fun x hx => ⟨_, .head _, hx⟩) (fun w' hs => shuf0 hbyD hs (by omega) (by omega)) ?_
  rintro ⟨_, Q⟩ qv ⟨rfl, hQ⟩
  dsimp only [List.cons_append, List.nil_append] at hQ ⊢
  have hQl : Q.length = l.runs.length := by rw [hQ.length_eq, List.length_range]
  refine ql_fact (fun w hs => hs.slice2 (v := qv) (by repeat constructor)) ?_
  rintro ⟨qa, qc, rfl⟩
  (refine ql_pure tabOk rfl rfl (ql_pure tabOk rfl rfl (q_nil (q_block ?_))))
  refine q_conv (H' := [.ow (.slice none 0 0) 40 3 ([] : List Rn).length (rnC []), .pt bM [.int .i64 l.skis, .int .i64 l.err, .slice none 0 0] 24, .ow (.slice qa l.runs.length qc) 3 1 l.runs.length (ints (chI Q)), dkP (.slice at0 nt ct) bD (100 + sk + l.runs.length), .ow (.slice (some ⟨gt, 0, none⟩) sk ct2) 3 1 sk (ints (chI P)), .pt bL (lbC l (.slice va l.runs.length vc)) 24, .ow (.slice va l.runs.length vc) 40 3 l.runs.length (rnC l.runs)]) (fun w' hs => (Sat.ownil hs 40 3).sp (by repeat constructor)) ?_
  refine q_loop (σ := Nat × Value × List Rn) (fun z => z.1 ≤ l.runs.length ∧ z.2.2.length = z.1 ∧ ∀ j, j < z.1 → RenR (fun i => P.getD i 0) (rnG l (Q.getD j 0)) (z.2.2.getD j ⟨0, 0, 0⟩)) (fun z => l.runs.length - z.1) (fun z => [(7, .pointer (some ⟨bL, 0, none⟩)), (9, .pointer (some ⟨bD, 0, none⟩)), (12, .int .i64 (1 + kq)), (13, .slice (some ⟨gt, 0, none⟩) sk ct2), (14, .pointer (some ⟨bM, 0, none⟩)), (87, .slice qa l.runs.length qc), (88, .int .i64 l.runs.length), (89, .int .i64 z.1)]) (fun z => [.ow z.2.1 40 3 z.2.2.length (rnC z.2.2), .pt bM [.int .i64 l.skis, .int .i64 l.err, z.2.1] 24, .ow (.slice qa l.runs.length qc) 3 1 l.runs.length (ints (chI Q)), dkP (.slice at0 nt ct) bD (100 + sk + l.runs.length + z.1), .ow (.slice (some ⟨gt, 0, none⟩) sk ct2) 3 1 sk (ints (chI P)), .pt bL (lbC l (.slice va l.runs.length vc)) 24, .ow (.slice va l.runs.length vc) 40 3 l.runs.length (rnC l.runs)]) (0, .slice none 0 0, []) ⟨by simp, rfl, fun j hj => by omega⟩ ⟨rfl, rfl, rfl, rfl, rfl, rfl, rfl, rfl, trivial⟩ (by repeat constructor) ?_
  rintro ⟨k, x, ms⟩ ⟨hk, hms, hren⟩ K hK
  dsimp only at hk hms hren hK ⊢
  (refine q_seq (q_region (ql_pure tabOk rfl rfl (q_nil (q_seq ?_)))))
  refine q_if rfl (fun hc => ?_) (fun hc => ?_)
  · have hk2 : k < l.runs.length := by omega
    clear hc
    have hQk : k < Q.length := by omega
    have hQk2 : k < (chI Q).length := by rw [chI_len]; exact hQk
    have hQlt : Q[k] < l.runs.length := List.mem_range.1 (hQ.mem_iff.1 (List.getElem_mem hQk))
    obtain ⟨i, hi⟩ : ∃ i, i = Q[k] := ⟨_, rfl⟩
    rw [← hi] at hQlt
    have hro := hrok.run l.runs[i] (List.getElem_mem hQlt)
    obtain ⟨r, hrr⟩ : ∃ r, r = l.runs[i] := ⟨_, rfl⟩
    rw [← hrr] at hro
    refine q_fact (fun w hs => hs.ownSome (v := .slice qa l.runs.length qc) (by repeat constructor) (by omega)) ?_
    rintro ⟨gq, qq, ev⟩
    cases ev
    refine q_fact (fun w hs => hs.ownSome (v := .slice va l.runs.length vc) (by repeat constructor) (by omega)) ?_
    rintro ⟨gv, qq, ev⟩
    cases ev
    have l0 := hro.l0
    have l1 := hro.l1
    (refine q_skip (q_seq (q_block (q_seq (q_region ?_)))))
    refine ql_index tabOk rfl rfl rfl rfl rfl (by omega) (by omega) ?_
    refine ql_load1 (v := .int .i64 i) tabOk rfl rfl rfl (fun w hs => by
      have := RdI.at (hs.rdI (v := .slice (some ⟨gq, 0, none⟩) l.runs.length qc) (l := chI Q) (t := 3) (n := l.runs.length) (by repeat constructor) (by rw [chI_len]; exact hQl.symm)) k hQk2
      rw [chI_at hQk hQk2, ← hi] at this
      exact this) ?_
    (refine ql_pure tabOk rfl rfl (q_nil (q_seq (q_region (ql_pure tabOk rfl rfl ?_)))); refine ql_loadBa tabOk rfl rfl rfl ?_; refine ql_pure tabOk rfl rfl ?_)
    refine ql_index tabOk rfl rfl rfl rfl rfl (by omega) (by omega) ?_
    refine ql_loadA (cs := [.int .i64 r.a, .int .i64 r.b, .int .i64 r.lead]) tabOk rfl rfl rfl rfl (fun w hs j hj => by rw [hrr]; exact RdR.at (runs_rdK hs (v := .slice (some ⟨gv, 0, none⟩) l.runs.length vc) (t := 40) (l := l.runs) (by repeat constructor) rfl) i hQlt j hj) ?_
    skip
    refine ql_alloc zero40 rfl (fun b17 => ?_)
    (refine ql_setA tabOk rfl rfl rfl rfl rfl (by repeat constructor) rfl ?_; refine q_nil ?_)
    refine q_seq ?_
    refine q_cut (σ := {y : Rn // SwR r y}) (fun _ => [(7, .pointer (some ⟨bL, 0, none⟩)), (9, .pointer (some ⟨bD, 0, none⟩)), (12, .int .i64 (1 + kq)), (13, .slice (some ⟨gt, 0, none⟩) sk ct2), (14, .pointer (some ⟨bM, 0, none⟩)), (17, .pointer (some ⟨b17, 0, none⟩)), (87, .slice (some ⟨gq, 0, none⟩) l.runs.length qc), (88, .int .i64 l.runs.length), (89, .int .i64 k)]) (fun y => [.pt b17 [.int .i64 y.1.a, .int .i64 y.1.b, .int .i64 y.1.lead] 40, .ow x 40 3 ms.length (rnC ms), .pt bM [.int .i64 l.skis, .int .i64 l.err, x] 24, .ow (.slice (some ⟨gq, 0, none⟩) l.runs.length qc) 3 1 l.runs.length (ints (chI Q)), dkP (.slice at0 nt ct) bD (100 + sk + l.runs.length + k + 1), .ow (.slice (some ⟨gt, 0, none⟩) sk ct2) 3 1 sk (ints (chI P)), .pt bL (lbC l (.slice (some ⟨gv, 0, none⟩) l.runs.length vc)) 24, .ow (.slice (some ⟨gv, 0, none⟩) l.runs.length vc) 40 3 l.runs.length (rnC l.runs)]) ?_ ?_
    rotate_left
    · intro KZ hKZ
      (refine q_seq (q_region (ql_pure tabOk rfl rfl ?_)))
      refine ql_call (β := Bool) (ψ := fun x v => v = .bool x) (L' := fun _ => [dkP (.slice at0 nt ct) bD (100 + sk + l.runs.length + k + 1)]) tabOk [dkP (.slice at0 nt ct) bD (100 + sk + l.runs.length + k)] _ (fun x => x = bD) rfl rfl rfl rfl (Sp.cons (by repeat constructor) (Sp.refl _)) (fun x hx => ⟨_, .head _, hx⟩) (fun w' hs => coin0 hbyD hs (by omega) (by omega)) ?_
      rintro cb _ rfl
      dsimp only [List.cons_append, List.nil_append]
      cases cb with
      | false =>
        (refine q_nil (q_cond_false rfl (q_skip ?_)))
        exact hKZ ⟨r, .inl rfl⟩ _ _ ⟨rfl, rfl, rfl, rfl, rfl, rfl, rfl, rfl, rfl, trivial⟩ (by repeat constructor)
      | true =>
        (refine q_nil (q_cond_true rfl (q_region (ql_pure tabOk rfl rfl ?_))); refine ql_loadBa tabOk rfl rfl rfl ?_; refine ql_pure tabOk rfl rfl ?_; refine ql_loadBa tabOk rfl rfl rfl ?_; refine ql_pure tabOk rfl rfl ?_; refine ql_loadBa tabOk rfl rfl rfl ?_; refine ql_neg tabOk rfl rfl (by omega) (by omega) ?_)
        refine ql_mk #[.int .i64 r.b, .int .i64 r.a, .int .i64 (-r.lead)] rfl (by kernel_rfl) rfl ?_
        (refine ql_setA tabOk rfl rfl rfl rfl rfl (by repeat constructor) rfl ?_; refine q_nil ?_)
        exact hKZ ⟨⟨r.b, r.a, -r.lead⟩, .inr rfl⟩ _ _ ⟨rfl, rfl, rfl, rfl, rfl, rfl, rfl, rfl, rfl, trivial⟩ (by repeat constructor)
    rintro ⟨y, hy⟩
    dsimp only
    have hyo := sw_ok hy hro
    obtain ⟨xa, hxa⟩ := Int.eq_ofNat_of_zero_le hyo.a0
    obtain ⟨xb, hxb⟩ := Int.eq_ofNat_of_zero_le hyo.b0
    have hxa2 : xa < P.length := by have := hyo.a1; omega
    have hxb2 : xb < P.length := by have := hyo.b1; omega
    have hxa3 : xa < (chI P).length := by rw [chI_len]; exact hxa2
    have hxb3 : xb < (chI P).length := by rw [chI_len]; exact hxb2
    have hPc : sk = (chI P).length := by rw [chI_len, hPl]
    have hnew : RenR (fun i => P.getD i 0) r ⟨(P[xa] : Nat), (P[xb] : Nat), y.lead⟩ := sw_ren hy P (by rw [hxa, Int.toNat_natCast, List.getD_eq_getElem?_getD, List.getElem?_eq_getElem hxa2, Option.getD_some]) (by rw [hxb, Int.toNat_natCast, List.getD_eq_getElem?_getD, List.getElem?_eq_getElem hxb2, Option.getD_some])
    have hrg : rnG l (Q.getD k 0) = r := by
      unfold rnG
      rw [List.getD_eq_getElem?_getD (l := Q), List.getElem?_eq_getElem hQk, Option.getD_some, ← hi, List.getD_eq_getElem?_getD, List.getElem?_eq_getElem hQlt, Option.getD_some, hrr]
    rw [hxa, hxb]
    refine q_fact (fun w hs => hs.slice2 (v := x) (by repeat constructor)) ?_
    rintro ⟨xsa, xsc, rfl⟩
    skip
    refine q_drawS 16 [.pt b17 [.int .i64 xa, .int .i64 xb, .int .i64 y.lead] 40, .ow (.slice (some ⟨gq, 0, none⟩) l.runs.length qc) 3 1 l.runs.length (ints (chI Q)), dkP (.slice at0 nt ct) bD (100 + sk + l.runs.length + k + 1), .ow (.slice (some ⟨gt, 0, none⟩) sk ct2) 3 1 sk (ints (chI P)), .pt bL (lbC l (.slice (some ⟨gv, 0, none⟩) l.runs.length vc)) 24, .ow (.slice (some ⟨gv, 0, none⟩) l.runs.length vc) 40 3 l.runs.length (rnC l.runs)] [.ow (.slice xsa ms.length xsc) 40 3 ms.length (rnC ms), .pt bM [.int .i64 l.skis, .int .i64 l.err, .slice xsa ms.length xsc] 24] (by repeat constructor) (by kernel_rfl) (by kernel_rfl) (by kernel_rfl) fun K1 hK1 => ?_
    (refine qf_pure tabOk rfl rfl rfl ?_; refine qf_loadBa tabOk rfl rfl rfl ?_; refine qf_pure tabOk rfl rfl rfl (qf_pure tabOk rfl rfl rfl ?_); refine qf_loadBa tabOk rfl rfl rfl ?_)
    refine qf_index tabOk rfl rfl rfl rfl rfl (by omega) (by omega) ?_
    skip
    refine qf_load1 (v := .int .i64 (P[xa] : Nat)) tabOk rfl rfl rfl (fun w hs => by
      have := RdI.at (hs.rdI (v := .slice (some ⟨gt, 0, none⟩) sk ct2) (l := chI P) (t := 3) (n := sk) (by repeat constructor) hPc) xa hxa3
      rw [chI_at hxa2 hxa3] at this
      exact this) ?_
    (refine qf_pure tabOk rfl rfl rfl (qf_pure tabOk rfl rfl rfl ?_); refine qf_loadBa tabOk rfl rfl rfl ?_)
    refine qf_index tabOk rfl rfl rfl rfl rfl (by omega) (by omega) ?_
    skip
    refine qf_load1 (v := .int .i64 (P[xb] : Nat)) tabOk rfl rfl rfl (fun w hs => by
      have := RdI.at (hs.rdI (v := .slice (some ⟨gt, 0, none⟩) sk ct2) (l := chI P) (t := 3) (n := sk) (by repeat constructor) hPc) xb hxb3
      rw [chI_at hxb2 hxb3] at this
      exact this) ?_
    (refine qf_pure tabOk rfl rfl rfl ?_; refine qf_loadBa tabOk rfl rfl rfl ?_)
    refine qf_mk #[.int .i64 (P[xa] : Nat), .int .i64 (P[xb] : Nat), .int .i64 y.lead] rfl (by kernel_rfl) rfl ?_
    skip
    refine qf_mkS 40 [.int .i64 (P[xa] : Nat), .int .i64 (P[xb] : Nat), .int .i64 y.lead] rfl (by kernel_rfl) rfl (fun bn => ?_)
    (refine qf_nil ?_)
    refine hK1 _ _ [.pt bn [.int .i64 (P[xa] : Nat), .int .i64 (P[xb] : Nat), .int .i64 y.lead] 40, .ow (.slice xsa ms.length xsc) 40 3 ms.length (rnC ms), .pt bM [.int .i64 l.skis, .int .i64 l.err, .slice xsa ms.length xsc] 24] (by repeat constructor) ?_
    skip
    refine qf_append (q := 1) (news := [.int .i64 (P[xa] : Nat), .int .i64 (P[xb] : Nat), .int .i64 y.lead]) slR rfl rfl rfl (fun v' => by repeat constructor) (fun w' hs => ⟨_, _, Blk.rdN (hs.blk (b := bn) (by repeat constructor)) rfl⟩) (by simp [oneV]) (by omega) (by omega) (fun u' => ?_)
    refine qf_fact (fun w' hs => hs.own_one (v := u') (by repeat constructor)) (fun hone => ?_)
    (refine qf_pure tabOk rfl rfl rfl ?_)
    refine qf_st2 tabOk rfl rfl rfl hone (by repeat constructor) ?_
    (refine qf_nil (q_blk (q_region (ql_ar tabOk rfl rfl rfl rfl (by omega) (by omega) (ql_pure tabOk rfl rfl (q_nil ?_))))))
    exact hK (k + 1, u', ms ++ [⟨(P[xa] : Nat), (P[xb] : Nat), y.lead⟩]) _ _ ⟨by simp only; omega, by simp only [List.length_append, List.length_singleton]; omega, fun j hj => by
      by_cases e : j = k
      · subst e
        have e3 := getD_app2 ms (⟨(P[xa] : Nat), (P[xb] : Nat), y.lead⟩ : Rn) ⟨0, 0, 0⟩
        rw [hms] at e3
        show RenR _ (rnG l (Q.getD j 0)) ((ms ++ [_]).getD j ⟨0, 0, 0⟩)
        rw [hrg, e3]
        exact hnew
      · rw [getD_app1 _ _ _ (by omega)]
        exact hren j (by simp only at hj; omega)⟩ (by simp only; omega) ⟨rfl, rfl, rfl, rfl, rfl, rfl, rfl, rfl, trivial⟩ (by dsimp only; rw [List.length_append, List.length_singleton, rnC_snoc]; repeat constructor)
  · obtain rfl : k = l.runs.length := by omega
    clear hc hK hk
    obtain ⟨m, hm0⟩ : ∃ m : Lb, m = ⟨l.skis, l.err, ms⟩ := ⟨_, rfl⟩
    have hR : RenL l m (fun i => P.getD i 0) Q := ⟨by rw [hm0], by rw [hm0], by rw [hm0]; exact hms, hQ, fun j hj => by rw [hm0]; exact hren j hj⟩
    rw [← hln'] at hbij
    have hmok := hR.ok hrok hbij
    have hmn := hR.n
    have hmks : m.skis = (sk : Int) := by rw [hR.sk, hls]
    have hml := hR.len
    refine q_fact (fun w hs => hs.slice2 (v := x) (by repeat constructor)) ?_
    rintro ⟨ma, mc, rfl⟩
    refine q_conv (H' := [.pt bM (lbC m (.slice ma m.runs.length mc)) 24, .ow (.slice ma m.runs.length mc) 40 3 m.runs.length (rnC m.runs), .ow (.slice (some ⟨gt, 0, none⟩) sk ct2) 3 1 sk (ints (chI P)), dkP (.slice at0 nt ct) bD (100 + sk + l.runs.length + l.runs.length), .pt bL (lbC l (.slice va l.runs.length vc)) 24, .ow (.slice va l.runs.length vc) 40 3 l.runs.length (rnC l.runs)]) (fun w' hs => by subst hm0; exact hs.sp (by repeat constructor)) ?_
    clear hm0 hren hms
    have hmmax : m.runs.length ≤ maxLen := by rw [hml]; exact hmax
    have hag := ren_agreed hR hrok hbij
    have hor := ren_ord hR hrok hbij
    have hfw := ren_few hR hrok hbij (k := 1 + kq) (by omega) (by omega)
    have hpl0 := ren_plA0 hR hrok hbij
    have hpl := fun h0 => ren_plA hR hrok hbij h0
    have hch := fun a b ha hb c c' e e' => ren_chR hR hrok hbij (a := a) (b := b) ha hb (c := c) (c' := c') (e := e) (e' := e')
    (refine q_exit _ rfl (q_seq (q_region ?_)); refine ql_loadABa tabOk rfl rfl rfl ?_)
    refine ql_call (β := Value × List Nat) tabOk [] _ M0 rfl rfl rfl rfl (Sp.refl _) (fun _ h => h.elim) (fun w' hs => drop_ok w' 0 w'.heap.size l (.slice va l.runs.length vc) (runs_rdK hs (v := .slice va l.runs.length vc) (t := 40) (l := l.runs) (by repeat constructor) rfl) hrok) ?_
    rintro ⟨v18, d1⟩ _ ⟨rfl, hd1⟩
    dsimp only [List.cons_append, List.nil_append] at hd1 ⊢
    refine ql_fact (fun w hs => hs.slice2 (v := v18) (by repeat constructor)) ?_
    rintro ⟨a18, c18, rfl⟩
    (refine ql_pure tabOk rfl rfl (ql_ext tabOk rfl rfl rfl (ql_ext tabOk rfl rfl rfl (ql_pure tabOk rfl rfl (ql_pure tabOk rfl rfl (q_nil (q_seq (q_region ?_))))))); refine ql_loadABa tabOk rfl rfl rfl ?_)
    refine ql_call (β := Value × List Nat) tabOk [] _ M0 rfl rfl rfl rfl (Sp.refl _) (fun _ h => h.elim) (fun w' hs => drop_ok w' 0 w'.heap.size m (.slice ma m.runs.length mc) (runs_rdK hs (v := .slice ma m.runs.length mc) (t := 40) (l := m.runs) (by repeat constructor) rfl) hmok) ?_
    rintro ⟨v20, d2⟩ _ ⟨rfl, hd2⟩
    dsimp only [List.cons_append, List.nil_append] at hd2 ⊢
    refine ql_fact (fun w hs => hs.slice2 (v := v20) (by repeat constructor)) ?_
    rintro ⟨a20, c20, rfl⟩
    have hdd := ren_drop hR hrok hbij hd1 hd2
    (refine ql_pure tabOk rfl rfl (ql_ext tabOk rfl rfl rfl (ql_ext tabOk rfl rfl rfl (ql_pure tabOk rfl rfl (ql_pure tabOk rfl rfl (q_nil (q_seq (q_seq (q_region (ql_pure tabOk rfl rfl (ql_neqF tabOk rfl rfl rfl (by omega) (ql_pure tabOk rfl rfl ?_))))))))))); refine ql_gyes rfl (ql_pure tabOk rfl rfl (ql_gyes rfl (ql_neqF tabOk rfl rfl rfl (by omega) (ql_pure tabOk rfl rfl (ql_pure tabOk rfl rfl (ql_gyes rfl (ql_pure tabOk rfl rfl (ql_gyes rfl (ql_pure tabOk rfl rfl (ql_gyes rfl (ql_pure tabOk rfl rfl ?_))))))))))); refine ql_gyes rfl (ql_pure tabOk rfl rfl (ql_gyes rfl (ql_neqF tabOk rfl rfl rfl (by omega) (ql_pure tabOk rfl rfl (q_nil (q_cond_false rfl (q_skip (q_seq (q_seq (q_region (ql_pure tabOk rfl rfl ?_))))))))))); refine ql_loadBa tabOk rfl rfl rfl ?_; refine ql_pure tabOk rfl rfl (q_nil (q_block ?_)))
    rw [hls]
    refine q_loop (σ := Nat) (fun a => a ≤ sk) (fun a => sk - a) (fun a => [(7, .pointer (some ⟨bL, 0, none⟩)), (12, .int .i64 (1 + kq)), (13, .slice (some ⟨gt, 0, none⟩) sk ct2), (14, .pointer (some ⟨bM, 0, none⟩)), (151, .int .i64 sk), (152, .int .i64 a)]) (fun _ => [.pt bM (lbC m (.slice ma m.runs.length mc)) 24, .ow (.slice ma m.runs.length mc) 40 3 m.runs.length (rnC m.runs), .ow (.slice (some ⟨gt, 0, none⟩) sk ct2) 3 1 sk (ints (chI P)), .pt bL (lbC l (.slice va l.runs.length vc)) 24, .ow (.slice va l.runs.length vc) 40 3 l.runs.length (rnC l.runs)]) 0 (by omega) ⟨rfl, rfl, rfl, rfl, rfl, rfl, trivial⟩ (by repeat constructor) ?_
    rintro xx hxx K hK
    (refine q_seq (q_region (ql_pure tabOk rfl rfl (q_nil (q_seq ?_)))))
    refine q_if rfl (fun hc => ?_) (fun hc => ?_)
    · have hx2 : xx < sk := by omega
      clear hc
      (refine q_skip (q_seq (q_block (q_seq (q_region (ql_pure tabOk rfl rfl (ql_pure tabOk rfl rfl (q_nil (q_seq (q_region (ql_pure tabOk rfl rfl ?_)))))))))); refine ql_loadBa tabOk rfl rfl rfl ?_; refine ql_pure tabOk rfl rfl (q_nil (q_block ?_)))
      rw [hls]
      refine q_loop (σ := Nat) (fun b => b ≤ sk) (fun b => sk - b) (fun b => [(7, .pointer (some ⟨bL, 0, none⟩)), (12, .int .i64 (1 + kq)), (13, .slice (some ⟨gt, 0, none⟩) sk ct2), (14, .pointer (some ⟨bM, 0, none⟩)), (22, .int .i64 xx), (151, .int .i64 sk), (152, .int .i64 xx), (156, .int .i64 sk), (157, .int .i64 b)]) (fun _ => [.pt bM (lbC m (.slice ma m.runs.length mc)) 24, .ow (.slice ma m.runs.length mc) 40 3 m.runs.length (rnC m.runs), .ow (.slice (some ⟨gt, 0, none⟩) sk ct2) 3 1 sk (ints (chI P)), .pt bL (lbC l (.slice va l.runs.length vc)) 24, .ow (.slice va l.runs.length vc) 40 3 l.runs.length (rnC l.runs)]) 0 (by omega) ⟨rfl, rfl, rfl, rfl, rfl, rfl, rfl, rfl, rfl, trivial⟩ (by repeat constructor) ?_
      rintro yy hyy K2 hK2
      (refine q_seq (q_region (ql_pure tabOk rfl rfl (q_nil (q_seq ?_)))))
      refine q_if rfl (fun hc => ?_) (fun hc => ?_)
      · have hy2 : yy < sk := by omega
        clear hc
        have hPx : xx < P.length := by omega
        have hPy : yy < P.length := by omega
        have hPx2 : xx < (chI P).length := by rw [chI_len]; exact hPx
        have hPy2 : yy < (chI P).length := by rw [chI_len]; exact hPy
        have hPc : sk = (chI P).length := by rw [chI_len, hPl]
        obtain ⟨px, hpx⟩ : ∃ p, p = P[xx] := ⟨_, rfl⟩
        obtain ⟨py, hpy⟩ : ∃ p, p = P[yy] := ⟨_, rfl⟩
        have hgx : P.getD xx 0 = px := by rw [List.getD_eq_getElem?_getD, List.getElem?_eq_getElem hPx, Option.getD_some, hpx]
        have hgy : P.getD yy 0 = py := by rw [List.getD_eq_getElem?_getD, List.getElem?_eq_getElem hPy, Option.getD_some, hpy]
        (refine q_skip (q_seq (q_block (q_seq (q_region (ql_pure tabOk rfl rfl (ql_pure tabOk rfl rfl (q_nil (q_seq (q_region ?_))))))))); refine ql_loadABa tabOk rfl rfl rfl ?_; refine ql_pure tabOk rfl rfl (ql_pure tabOk rfl rfl ?_))
        refine ql_call (β := Value × List Int × Int) tabOk [] _ M0 rfl rfl rfl rfl (Sp.refl _) (fun _ h => h.elim) (fun w' hs => chain0_ca w' 0 w'.heap.size l (.slice va l.runs.length vc) xx yy (runs_rdK hs (v := .slice va l.runs.length vc) (t := 40) (l := l.runs) (by repeat constructor) rfl) hmax) ?_
        rintro ⟨v24, c24, e24⟩ _ ⟨rfl, hc1⟩
        dsimp only [List.cons_append, List.nil_append] at hc1 ⊢
        refine ql_fact (fun w hs => hs.slice2 (v := v24) (by repeat constructor)) ?_
        rintro ⟨a24, q24, rfl⟩
        (refine ql_pure tabOk rfl rfl (ql_ext tabOk rfl rfl rfl (ql_ext tabOk rfl rfl rfl (ql_pure tabOk rfl rfl (ql_pure tabOk rfl rfl (q_nil (q_seq ?_)))))))
        refine q_draw _ [] (Sp.refl _) (by kernel_rfl) (by kernel_rfl) ?_
        (refine qf_loadABa tabOk rfl rfl rfl ?_; refine qf_pure tabOk rfl rfl rfl (qf_pure tabOk rfl rfl rfl ?_))
        refine qf_index tabOk rfl rfl rfl rfl rfl (by omega) (by omega) ?_
        skip
        refine qf_load1 (v := .int .i64 px) tabOk rfl rfl rfl (fun w hs => by
          have := RdI.at (hs.rdI (v := .slice (some ⟨gt, 0, none⟩) sk ct2) (l := chI P) (t := 3) (n := sk) (by repeat constructor) hPc) xx hPx2
          rw [chI_at hPx hPx2, ← hpx] at this
          exact this) ?_
        (refine qf_pure tabOk rfl rfl rfl (qf_pure tabOk rfl rfl rfl ?_))
        refine qf_index tabOk rfl rfl rfl rfl rfl (by omega) (by omega) ?_
        skip
        refine qf_load1 (v := .int .i64 py) tabOk rfl rfl rfl (fun w hs => by
          have := RdI.at (hs.rdI (v := .slice (some ⟨gt, 0, none⟩) sk ct2) (l := chI P) (t := 3) (n := sk) (by repeat constructor) hPc) yy hPy2
          rw [chI_at hPy hPy2, ← hpy] at this
          exact this) ?_
        skip
        refine qf_call (β := Value × List Int × Int) (ψ := fun y x => x = .tuple #[y.1, .int .i64 y.2.2] ∧ ChR m px py y.2.1 y.2.2) (L' := fun y => [.ow y.1 3 1 y.2.1.length (ints y.2.1)]) tabOk [] _ M0 rfl rfl rfl rfl (Sp.refl _) (fun _ h => h.elim) (fun w' hs => chain0_ca w' 0 w'.heap.size m (.slice ma m.runs.length mc) px py (runs_rdK hs (v := .slice ma m.runs.length mc) (t := 40) (l := m.runs) (by repeat constructor) rfl) hmmax) ?_
        rintro ⟨v26, c26, e26⟩ _ ⟨rfl, hc2⟩
        dsimp only [List.cons_append, List.nil_append] at hc2 ⊢
        refine qf_fact (fun w hs => hs.slice2 (v := v26) (by repeat constructor)) ?_
        rintro ⟨a26, q26, rfl⟩
        obtain ⟨hee, hcl⟩ := hch xx yy (by omega) (by omega) _ _ _ _ hc1 (by rw [hgx, hgy]; exact hc2)
        subst hee
        (refine qf_pure tabOk rfl rfl rfl (qf_ext tabOk rfl rfl rfl (qf_ext tabOk rfl rfl rfl (qf_pure tabOk rfl rfl rfl (qf_pure tabOk rfl rfl rfl (qf_nil (q_seq (q_region (ql_pure tabOk rfl rfl (ql_pure tabOk rfl rfl (ql_neqF tabOk rfl rfl rfl (by omega) (ql_pure tabOk rfl rfl ?_))))))))))); refine ql_gyes rfl (ql_pure tabOk rfl rfl (ql_gyes rfl (ql_pure tabOk rfl rfl (ql_gyes rfl (ql_pure tabOk rfl rfl (ql_gyes rfl (ql_pure tabOk rfl rfl (ql_gyes rfl (ql_neqF tabOk rfl rfl rfl (by omega) (ql_pure tabOk rfl rfl (q_nil ?_))))))))))); refine q_cond_false rfl (q_skip (q_blk (q_region (ql_ar tabOk rfl rfl rfl rfl (by omega) (by omega) (ql_pure tabOk rfl rfl (q_nil ?_)))))))
        exact hK2 (yy + 1) _ _ (by omega) (by omega) ⟨rfl, rfl, rfl, rfl, rfl, rfl, rfl, rfl, rfl, trivial⟩ (by repeat constructor)
      · clear hc hK2 hyy
        (refine q_exit _ rfl (q_blk (q_region (ql_ar tabOk rfl rfl rfl rfl (by omega) (by omega) (ql_pure tabOk rfl rfl (q_nil ?_))))))
        exact hK (xx + 1) _ _ (by omega) (by omega) ⟨rfl, rfl, rfl, rfl, rfl, rfl, trivial⟩ (by repeat constructor)
    · clear hc hK hxx
      have hPc : sk = (chI P).length := by rw [chI_len, hPl]
      (refine q_exit _ rfl (q_seq (q_region ?_)); refine ql_loadABa tabOk rfl rfl rfl ?_)
      refine ql_call (β := Value) tabOk [] _ M0 rfl rfl rfl rfl (Sp.refl _) (fun _ h => h.elim) (fun w' hs => placesA_ca w' 0 w'.heap.size l (.slice va l.runs.length vc) (runs_rdK hs (v := .slice va l.runs.length vc) (t := 40) (l := l.runs) (by repeat constructor) rfl) hmax) ?_
      rintro v28 _ rfl
      dsimp only [List.cons_append, List.nil_append]
      refine ql_fact (fun w hs => hs.slice2 (v := v28) (by repeat constructor)) ?_
      rintro ⟨a28, c28, rfl⟩
      (refine ql_pure tabOk rfl rfl (ql_ext tabOk rfl rfl rfl (ql_ext tabOk rfl rfl rfl (ql_pure tabOk rfl rfl (ql_pure tabOk rfl rfl (q_nil (q_seq (q_region ?_))))))); refine ql_loadABa tabOk rfl rfl rfl ?_)
      refine ql_call (β := Value) tabOk [] _ M0 rfl rfl rfl rfl (Sp.refl _) (fun _ h => h.elim) (fun w' hs => placesA_ca w' 0 w'.heap.size m (.slice ma m.runs.length mc) (runs_rdK hs (v := .slice ma m.runs.length mc) (t := 40) (l := m.runs) (by repeat constructor) rfl) hmmax) ?_
      rintro v29 _ rfl
      dsimp only [List.cons_append, List.nil_append]
      refine ql_fact (fun w hs => hs.slice2 (v := v29) (by repeat constructor)) ?_
      rintro ⟨a29, c29, rfl⟩
      (refine ql_pure tabOk rfl rfl (ql_ext tabOk rfl rfl rfl (ql_ext tabOk rfl rfl rfl (ql_pure tabOk rfl rfl (ql_pure tabOk rfl rfl (q_nil (q_seq (q_region ?_))))))); refine ql_loadABa tabOk rfl rfl rfl ?_)
      refine ql_callv (val := .tuple #[.int .i64 (ordN l : Nat), .int .i64 (agreedV l)]) tabOk rfl rfl rfl rfl (fun w hs => ?_) ?_; exact ordersA_ca w 0 w.heap.size l (.slice va l.runs.length vc) (runs_rdK hs (v := .slice va l.runs.length vc) (t := 40) (l := l.runs) (by repeat constructor) rfl) hmax
      (refine ql_pure tabOk rfl rfl (ql_ext tabOk rfl rfl rfl (ql_ext tabOk rfl rfl rfl (ql_pure tabOk rfl rfl (ql_pure tabOk rfl rfl (q_nil (q_seq (q_region ?_))))))); refine ql_loadABa tabOk rfl rfl rfl ?_)
      refine ql_callv (val := .tuple #[.int .i64 (ordN m : Nat), .int .i64 (agreedV m)]) tabOk rfl rfl rfl rfl (fun w hs => ?_) ?_; exact ordersA_ca w 0 w.heap.size m (.slice ma m.runs.length mc) (runs_rdK hs (v := .slice ma m.runs.length mc) (t := 40) (l := m.runs) (by repeat constructor) rfl) hmmax
      rw [hag, hor]
      generalize hon : ordN l = on
      generalize hpL : plA l = pL at hpl0 hpl ⊢
      generalize hpM : plA m = pM at hpl0 hpl ⊢
      clear hon hor
      by_cases h0 : agreedV l = 0
      · obtain ⟨hp1, hp2, hp3⟩ := hpl h0
        rw [h0]
        (refine ql_pure tabOk rfl rfl (ql_ext tabOk rfl rfl rfl (ql_ext tabOk rfl rfl rfl (ql_pure tabOk rfl rfl (ql_pure tabOk rfl rfl (q_nil (q_seq (q_seq (q_region (ql_pure tabOk rfl rfl (ql_pure tabOk rfl rfl (ql_neqF tabOk rfl rfl rfl (by omega) ?_))))))))))); refine ql_pure tabOk rfl rfl (ql_gyes rfl (ql_pure tabOk rfl rfl (ql_gyes rfl (ql_pure tabOk rfl rfl (ql_gyes rfl (ql_neqF tabOk rfl rfl rfl (by omega) (ql_pure tabOk rfl rfl (ql_pure tabOk rfl rfl (ql_gyes rfl (ql_pure tabOk rfl rfl (ql_gyes rfl ?_))))))))))); refine ql_pure tabOk rfl rfl (ql_gyes rfl (ql_neqF tabOk rfl rfl rfl (by omega) (ql_pure tabOk rfl rfl (ql_pure tabOk rfl rfl (ql_gyes rfl (ql_pure tabOk rfl rfl (ql_gyes rfl (ql_pure tabOk rfl rfl (ql_gyes rfl (ql_neqF tabOk rfl rfl rfl (by omega) (ql_pure tabOk rfl rfl ?_))))))))))); refine ql_pure tabOk rfl rfl (ql_gyes rfl (ql_pure tabOk rfl rfl (ql_gyes rfl (ql_pure tabOk rfl rfl (ql_gyes rfl (ql_pure tabOk rfl rfl (ql_gyes rfl (ql_pure tabOk rfl rfl (ql_gyes rfl (ql_neqF tabOk rfl rfl rfl (by omega) (ql_pure tabOk rfl rfl ?_))))))))))); refine q_nil (q_cond_false rfl (q_skip (q_seq (q_seq (q_region (ql_pure tabOk rfl rfl (ql_eqlT tabOk rfl rfl rfl (by omega) (q_nil (q_cond_true rfl (q_seq (q_seq ?_))))))))))); refine q_region ?_; (iterate 3 refine ql_pure tabOk rfl rfl ?_); refine ql_loadBa tabOk rfl rfl rfl ?_; refine ql_neqF tabOk rfl rfl rfl (by omega) (q_nil (q_cond_false rfl (q_skip (q_seq (q_region (ql_pure tabOk rfl rfl ?_)))))); refine ql_loadBa tabOk rfl rfl rfl ?_; refine ql_pure tabOk rfl rfl (q_nil (q_block ?_)))
        rw [hls]
        skip
        refine q_loop (σ := Nat) (fun s => s ≤ sk) (fun s => sk - s) (fun s => [(7, .pointer (some ⟨bL, 0, none⟩)), (12, .int .i64 (1 + kq)), (13, .slice (some ⟨gt, 0, none⟩) sk ct2), (14, .pointer (some ⟨bM, 0, none⟩)), (28, .slice a28 pL.length c28), (29, .slice a29 pM.length c29), (245, .int .i64 sk), (246, .int .i64 s)]) (fun _ => [.ow (.slice a29 pM.length c29) 64 2 pM.length (spC pM), .ow (.slice a28 pL.length c28) 64 2 pL.length (spC pL), .pt bM (lbC m (.slice ma m.runs.length mc)) 24, .ow (.slice ma m.runs.length mc) 40 3 m.runs.length (rnC m.runs), .ow (.slice (some ⟨gt, 0, none⟩) sk ct2) 3 1 sk (ints (chI P)), .pt bL (lbC l (.slice va l.runs.length vc)) 24, .ow (.slice va l.runs.length vc) 40 3 l.runs.length (rnC l.runs)]) 0 (by omega) ⟨rfl, rfl, rfl, rfl, rfl, rfl, rfl, rfl, trivial⟩ (by repeat constructor) ?_
        rintro s hs' K hK
        (refine q_seq (q_region (ql_pure tabOk rfl rfl (q_nil (q_seq ?_)))))
        refine q_if rfl (fun hc => ?_) (fun hc => ?_)
        · have hs2' : s < sk := by omega
          clear hc
          have hPs : s < P.length := by omega
          have hPs2 : s < (chI P).length := by rw [chI_len]; exact hPs
          obtain ⟨ps, hps⟩ : ∃ p, p = P[s] := ⟨_, rfl⟩
          have hgs : P.getD s 0 = ps := by rw [List.getD_eq_getElem?_getD, List.getElem?_eq_getElem hPs, Option.getD_some, hps]
          have hps2 : ps < sk := by rw [hps]; exact List.mem_range.1 (hP.mem_iff.1 (List.getElem_mem hPs))
          have hsL : s < pL.length := by omega
          have hsM : ps < pM.length := by omega
          have hee : pM[ps] = pL[s] := by
            have := hp3 s (by omega)
            rw [hgs, List.getElem?_eq_getElem hsM, List.getElem?_eq_getElem hsL] at this
            exact Option.some.inj this
          obtain ⟨⟨z1, z2⟩, hz⟩ : ∃ z, pL[s] = z := ⟨_, rfl⟩
          refine q_fact (fun w hs => hs.ownSome (v := .slice a28 pL.length c28) (by repeat constructor) (by omega)) ?_
          rintro ⟨g28, q28, ev⟩
          cases ev
          refine q_fact (fun w hs => hs.ownSome (v := .slice a29 pM.length c29) (by repeat constructor) (by omega)) ?_
          rintro ⟨g29, q29, ev⟩
          cases ev
          (refine q_skip (q_seq (q_block (q_seq (q_region (ql_pure tabOk rfl rfl (ql_pure tabOk rfl rfl (q_nil (q_seq ?_)))))))))
          refine q_draw _ [] (Sp.refl _) (by kernel_rfl) (by kernel_rfl) ?_
          (refine qf_pure tabOk rfl rfl rfl (qf_pure tabOk rfl rfl rfl ?_))
          refine qf_index tabOk rfl rfl rfl rfl rfl (by omega) (by omega) ?_
          skip
          refine qf_loadA (cs := [.int .i64 z1, .int .i64 z2]) tabOk rfl rfl rfl rfl (fun w hs q hq => sp_at hs (t := 64) (L := pL) (by repeat constructor) rfl hsL hz q hq) ?_
          ((iterate 3 refine qf_pure tabOk rfl rfl rfl ?_))
          refine qf_index tabOk rfl rfl rfl rfl rfl (by omega) (by omega) ?_
          skip
          refine qf_load1 (v := .int .i64 ps) tabOk rfl rfl rfl (fun w hs => by
            have := RdI.at (hs.rdI (v := .slice (some ⟨gt, 0, none⟩) sk ct2) (l := chI P) (t := 3) (n := sk) (by repeat constructor) hPc) s hPs2
            rw [chI_at hPs hPs2, ← hps] at this
            exact this) ?_
          skip
          refine qf_index tabOk rfl rfl rfl rfl rfl (by omega) (by omega) ?_
          skip
          refine qf_loadA (cs := [.int .i64 z1, .int .i64 z2]) tabOk rfl rfl rfl rfl (fun w hs q hq => sp_at hs (t := 64) (L := pM) (by repeat constructor) rfl hsM (hee.trans hz) q hq) ?_
          skip
          refine qf_neF [some .i64, some .i64] spn_flat rfl rfl rfl rfl rfl ?_
          rw [eqL_refl]
          (refine qf_nil (q_cond_false rfl (q_skip (q_blk (q_region (ql_ar tabOk rfl rfl rfl rfl (by omega) (by omega) (ql_pure tabOk rfl rfl (q_nil ?_))))))))
          exact hK (s + 1) _ _ (by omega) (by omega) ⟨rfl, rfl, rfl, rfl, rfl, rfl, rfl, rfl, trivial⟩ (by repeat constructor)
        · clear hc hK hs'
          (refine q_exit _ rfl (q_seq (q_region ?_)); refine ql_loadABa tabOk rfl rfl rfl ?_; refine ql_pure tabOk rfl rfl ?_)
          refine ql_callv (val := .tuple #[.int .i64 (fewestV l (1 + kq : Nat)).1, .int .i64 (fewestV l (1 + kq : Nat)).2]) tabOk rfl rfl rfl rfl (fun w hs => ?_) ?_; exact fewestA_ca w 0 w.heap.size l (.slice va l.runs.length vc) (1 + kq : Nat) (runs_rdK hs (v := .slice va l.runs.length vc) (t := 40) (l := l.runs) (by repeat constructor) rfl) hmax
          (refine ql_pure tabOk rfl rfl (ql_ext tabOk rfl rfl rfl (ql_ext tabOk rfl rfl rfl (ql_pure tabOk rfl rfl (ql_pure tabOk rfl rfl (q_nil (q_seq (q_region ?_))))))); refine ql_loadABa tabOk rfl rfl rfl ?_; refine ql_pure tabOk rfl rfl ?_)
          refine ql_callv (val := .tuple #[.int .i64 (fewestV m (1 + kq : Nat)).1, .int .i64 (fewestV m (1 + kq : Nat)).2]) tabOk rfl rfl rfl rfl (fun w hs => ?_) ?_; exact fewestA_ca w 0 w.heap.size m (.slice ma m.runs.length mc) (1 + kq : Nat) (runs_rdK hs (v := .slice ma m.runs.length mc) (t := 40) (l := m.runs) (by repeat constructor) rfl) hmmax
          rw [hfw]
          generalize (fewestV l (1 + kq : Nat)).1 = f1
          generalize (fewestV l (1 + kq : Nat)).2 = f2
          (refine ql_pure tabOk rfl rfl (ql_ext tabOk rfl rfl rfl (ql_ext tabOk rfl rfl rfl (ql_pure tabOk rfl rfl (ql_pure tabOk rfl rfl (q_nil (q_seq (q_region (ql_pure tabOk rfl rfl (ql_pure tabOk rfl rfl (ql_eqlT tabOk rfl rfl rfl (by omega) (ql_pure tabOk rfl rfl ?_))))))))))); refine ql_gyes rfl (ql_pure tabOk rfl rfl (ql_gyes rfl (ql_pure tabOk rfl rfl (ql_gyes rfl (ql_eqlT tabOk rfl rfl rfl (by omega) (ql_pure tabOk rfl rfl (ql_pure tabOk rfl rfl (ql_gyes rfl ?_)))))))))
          refine ql_callv (val := .bool true) tabOk rfl rfl rfl rfl (fun w hs => ?_) ?_; exact awake_ca w
          (refine ql_pure tabOk rfl rfl (ql_pure tabOk rfl rfl (q_nil (q_ret ?_))))
          refine q_fin tabOk rfl (by repeat constructor) fun w hs => ?_
          exact ⟨rfl, hs.chg0⟩
      · (refine ql_pure tabOk rfl rfl (ql_ext tabOk rfl rfl rfl (ql_ext tabOk rfl rfl rfl (ql_pure tabOk rfl rfl (ql_pure tabOk rfl rfl (q_nil (q_seq (q_seq (q_region (ql_pure tabOk rfl rfl (ql_pure tabOk rfl rfl (ql_neqF tabOk rfl rfl rfl (by omega) ?_))))))))))); refine ql_pure tabOk rfl rfl (ql_gyes rfl (ql_pure tabOk rfl rfl (ql_gyes rfl (ql_pure tabOk rfl rfl (ql_gyes rfl (ql_neqF tabOk rfl rfl rfl (by omega) (ql_pure tabOk rfl rfl (ql_pure tabOk rfl rfl (ql_gyes rfl (ql_pure tabOk rfl rfl (ql_gyes rfl ?_))))))))))); refine ql_pure tabOk rfl rfl (ql_gyes rfl (ql_neqF tabOk rfl rfl rfl (by omega) (ql_pure tabOk rfl rfl (ql_pure tabOk rfl rfl (ql_gyes rfl (ql_pure tabOk rfl rfl (ql_gyes rfl (ql_pure tabOk rfl rfl (ql_gyes rfl (ql_neqF tabOk rfl rfl rfl (by omega) (ql_pure tabOk rfl rfl ?_))))))))))); refine ql_pure tabOk rfl rfl (ql_gyes rfl (ql_pure tabOk rfl rfl (ql_gyes rfl (ql_pure tabOk rfl rfl (ql_gyes rfl (ql_pure tabOk rfl rfl (ql_gyes rfl (ql_pure tabOk rfl rfl (ql_gyes rfl (ql_neqF tabOk rfl rfl rfl (by omega) (ql_pure tabOk rfl rfl ?_))))))))))); refine q_nil (q_cond_false rfl (q_skip (q_seq (q_seq (q_region (ql_pure tabOk rfl rfl (ql_eqlF tabOk rfl rfl rfl (by omega) (q_nil (q_cond_false rfl (q_skip (q_seq ?_))))))))))); refine q_region ?_; refine ql_loadABa tabOk rfl rfl rfl ?_; refine ql_pure tabOk rfl rfl ?_)
        refine ql_callv (val := .tuple #[.int .i64 (fewestV l (1 + kq : Nat)).1, .int .i64 (fewestV l (1 + kq : Nat)).2]) tabOk rfl rfl rfl rfl (fun w hs => ?_) ?_; exact fewestA_ca w 0 w.heap.size l (.slice va l.runs.length vc) (1 + kq : Nat) (runs_rdK hs (v := .slice va l.runs.length vc) (t := 40) (l := l.runs) (by repeat constructor) rfl) hmax
        (refine ql_pure tabOk rfl rfl (ql_ext tabOk rfl rfl rfl (ql_ext tabOk rfl rfl rfl (ql_pure tabOk rfl rfl (ql_pure tabOk rfl rfl (q_nil (q_seq (q_region ?_))))))); refine ql_loadABa tabOk rfl rfl rfl ?_; refine ql_pure tabOk rfl rfl ?_)
        refine ql_callv (val := .tuple #[.int .i64 (fewestV m (1 + kq : Nat)).1, .int .i64 (fewestV m (1 + kq : Nat)).2]) tabOk rfl rfl rfl rfl (fun w hs => ?_) ?_; exact fewestA_ca w 0 w.heap.size m (.slice ma m.runs.length mc) (1 + kq : Nat) (runs_rdK hs (v := .slice ma m.runs.length mc) (t := 40) (l := m.runs) (by repeat constructor) rfl) hmmax
        rw [hfw]
        generalize (fewestV l (1 + kq : Nat)).1 = f1
        generalize (fewestV l (1 + kq : Nat)).2 = f2
        (refine ql_pure tabOk rfl rfl (ql_ext tabOk rfl rfl rfl (ql_ext tabOk rfl rfl rfl (ql_pure tabOk rfl rfl (ql_pure tabOk rfl rfl (q_nil (q_seq (q_region (ql_pure tabOk rfl rfl (ql_pure tabOk rfl rfl (ql_eqlT tabOk rfl rfl rfl (by omega) (ql_pure tabOk rfl rfl ?_))))))))))); refine ql_gyes rfl (ql_pure tabOk rfl rfl (ql_gyes rfl (ql_pure tabOk rfl rfl (ql_gyes rfl (ql_eqlT tabOk rfl rfl rfl (by omega) (ql_pure tabOk rfl rfl (ql_pure tabOk rfl rfl (ql_gyes rfl ?_)))))))))
        refine ql_callv (val := .bool true) tabOk rfl rfl rfl rfl (fun w hs => ?_) ?_; exact awake_ca w
        (refine ql_pure tabOk rfl rfl (ql_pure tabOk rfl rfl (q_nil (q_ret ?_))))
        refine q_fin tabOk rfl (by repeat constructor) fun w hs => ?_
        exact ⟨rfl, hs.chg0⟩
end Go.Proofs.YtcmpdmobmbbplaaGreat
