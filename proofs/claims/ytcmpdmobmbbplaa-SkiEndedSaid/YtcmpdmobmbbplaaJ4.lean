/- My texts D3, W10, D4, K29, W11, W12, D5, L3, joined: a claim takes at most 60 files. -/
import Derived.Test.YtcmpdmobmbbplaaJ3

/- Walks: labs are copied, and get a run more. -/
namespace Go.Proofs.Ytcmpdmobmbbplaa
open Go Go.Eng

theorem rnC_one (l : List Rn) : ∀ c ∈ rnC l, oneV c = true := fun c hc => by obtain ⟨y, _, hy⟩ := List.mem_flatMap.1 hc; simp at hy; rcases hy with rfl | rfl | rfl <;> rfl
theorem cloneR_ca (w : World) (lo hi : Nat) (v : Value) (l : List Rn) (h : RdR w lo hi v l) (hlen : l.length ≤ 1000) : Ca Try.prog 70 [v] w fun x w' => ∃ u : Value, x = u ∧ Sat w M0 [.ow u 33 3 l.length (rnC l)] w' := by
  obtain ⟨a, c, rfl, ha⟩ := RdR.outI h
  refine q_of (Sat.nil w M0) Try.func70 rfl (by simp [Try.ntmps70]) ?_
  refine q_conv (H' := [.ow (.slice none 0 0) 33 3 0 (rnC [])]) (fun w' hs => Sat.ownil hs 33 3) ?_
  (refine q_seq (q_region (ql_pure tabOk rfl rfl (q_nil (q_seq (q_region (ql_pure tabOk rfl rfl ?_)))))))
  refine ql_append (q := l.length) (news := rnC l) slR rfl rfl rfl (fun v' => by repeat constructor) (fun w' hs => ⟨_, _, RdR.row (RdE.keep h hs.chg0)⟩) (rnC_one l) (by omega) (by omega) (fun u' => ?_)
  (refine ql_pure tabOk rfl rfl (q_nil (q_ret ?_)))
  refine q_fin tabOk rfl (by repeat constructor) fun w hs => ?_
  exact ⟨u', rfl, hs.sp (by simp only [rnC, List.flatMap_nil, List.nil_append, Nat.zero_add]; repeat constructor)⟩
def tD3_563eb24 : OT := chainT [0, 1, 2, 3, 4, 5, 6, 7, 8] (.nil)
theorem cloneL_ca (w : World) (lo hi : Nat) (l : Lb) (v : Value) (h : RdR w lo hi v l.runs) (hlen : l.runs.length ≤ 1000) : Ca Try.prog 13 [.agg (lbC l v).toArray] w fun x w' => ∃ u : Value, x = .agg (lbC l u).toArray ∧ Sat w M0 [.ow u 33 3 l.runs.length (rnC l.runs)] w' := by
  obtain ⟨a, c, rfl, ha⟩ := RdR.outI h
  refine q_of (Sat.nil w M0) Try.func13 rfl (by simp [Try.ntmps13]) ?_
  (refine q_seq (q_region ?_))
  refine ql_box rfl rfl (fun b1 => ?_)
  skip
  refine ql_alloc zero25 rfl (fun b2 => ?_)
  (refine q_nil (q_seq ?_))
  refine q_cut (σ := Value) (fun u => [(2, .pointer (some ⟨b2, 0, none⟩))])
      (fun u => [.pt b2 [.int .i64 l.skis, .int .i64 l.err, u] 25, .ow u 33 3 l.runs.length (rnC l.runs)]) ?_ ?_
  rotate_left
  · intro K2 hK2
    refine q_drawT (tD3_563eb24) _ [.pt b2 [.int .i64 0, .int .i64 0, .slice none 0 0] 25] (Sp.cons (by repeat constructor) (Sp.refl _)) (by kernel_rfl) (by kernel_rfl) ?_
    refine qt_seg (by repeat (first | exact PickL.nil | (apply PickL.cons; rfl))) fun K1 hK1 => ?_
    (refine qf_pure tabOk rfl rfl rfl ?_; refine qf_loadBa tabOk rfl rfl rfl ?_; refine qf_pure tabOk rfl rfl rfl ?_; refine qf_loadBa tabOk rfl rfl rfl ?_; refine qf_pure tabOk rfl rfl rfl ?_; refine qf_loadBa tabOk rfl rfl rfl ?_)
    refine qf_call (β := Value) tabOk [] _ M0 rfl rfl rfl rfl (Sp.refl _) (fun _ h => h.elim) (fun w' hs => cloneR_ca w' lo hi _ l.runs (RdE.keep h hs.chg0) (by omega)) ?_
    rintro _ u rfl
    dsimp only [List.cons_append, List.nil_append]
    refine qf_fact (fun w hs => hs.slice2 (v := u) (by repeat constructor)) ?_
    rintro ⟨a1, c1, rfl⟩
    skip
    refine qf_mk #[.int .i64 l.skis, .int .i64 l.err, .slice a1 l.runs.length c1] rfl (by kernel_rfl) rfl ?_
    (refine qf_setA tabOk rfl rfl rfl rfl rfl (by repeat constructor) rfl ?_; refine qf_nil ?_)
    exact hK1 _ _ (qt_nil (hK2 (.slice a1 l.runs.length c1) _ _ ⟨rfl, trivial⟩ (by repeat constructor)))
  intro u
  (refine q_ret ?_)
  refine q_fin tabOk rfl (by repeat constructor) fun w hs => ?_
  exact ⟨u, rfl, hs.sp (by repeat constructor)⟩
theorem further_ca (w : World) (lo hi : Nat) (l : Lb) (v : Value) (x y : Int) (h : RdR w lo hi v l.runs) (hlen : l.runs.length ≤ 1000) (he : 0 ≤ l.err ∧ l.err ≤ 1000) : Ca Try.prog 27 [.agg (lbC l v).toArray, .int .i64 x, .int .i64 y] w fun r w' => ∃ u : Value, r = .agg (lbC (l.add ⟨x, y, l.err + 1⟩) u).toArray ∧ Sat w M0 [.ow u 33 3 (l.add ⟨x, y, l.err + 1⟩).runs.length (rnC (l.add ⟨x, y, l.err + 1⟩).runs)] w' := by
  obtain ⟨a, c, rfl, ha⟩ := RdR.outI h
  refine q_of (Sat.nil w M0) Try.func27 rfl (by simp [Try.ntmps27]) ?_
  (refine q_seq (q_region ?_))
  refine ql_box rfl rfl (fun b3 => ?_)
  skip
  refine ql_alloc zero25 rfl (fun b6 => ?_)
  (refine q_nil (q_seq (q_region ?_)); refine ql_loadABa tabOk rfl rfl rfl ?_)
  refine ql_call (β := Value) tabOk [] _ M0 rfl rfl rfl rfl (Sp.refl _) (fun _ h => h.elim) (fun w' hs => cloneL_ca w' lo hi l _ (RdE.keep h hs.chg0) hlen) ?_
  rintro u _ rfl
  dsimp only [List.cons_append, List.nil_append]
  refine ql_fact (fun w hs => hs.slice2 (v := u) (by repeat constructor)) ?_
  rintro ⟨a1, c1, rfl⟩
  skip
  refine ql_alloc zero25 rfl (fun b7 => ?_)
  (refine ql_setA tabOk rfl rfl rfl rfl rfl (by repeat constructor) rfl ?_; refine q_nil (q_seq (q_region (ql_pure tabOk rfl rfl ?_))); refine ql_loadBa tabOk rfl rfl rfl ?_; (iterate 3 refine ql_pure tabOk rfl rfl ?_); refine ql_loadBa tabOk rfl rfl rfl ?_; refine ql_ar tabOk rfl rfl rfl rfl (by omega) (by omega) ?_)
  refine ql_mk #[.int .i64 x, .int .i64 y, .int .i64 (l.err + 1)] rfl (by kernel_rfl) rfl ?_
  skip
  refine ql_mkS 33 [.int .i64 x, .int .i64 y, .int .i64 (l.err + 1)] rfl (by kernel_rfl) rfl (fun bn => ?_)
  skip
  refine ql_append (q := 1) (news := [.int .i64 x, .int .i64 y, .int .i64 (l.err + 1)]) slR rfl rfl rfl (fun v' => by repeat constructor) (fun w' hs => ⟨_, _, Blk.rdN (hs.blk (b := bn) (by repeat constructor)) rfl⟩) (by simp [oneV]) (by omega) (by omega) (fun u' => ?_)
  refine ql_fact (fun w hs => hs.slice2 (v := u') (by repeat constructor)) ?_
  rintro ⟨a2, c2, rfl⟩
  (refine ql_pure tabOk rfl rfl ?_; refine ql_st2 tabOk rfl rfl rfl rfl (by repeat constructor) ?_; refine q_nil (q_seq (q_region ?_)); refine ql_loadABa tabOk rfl rfl rfl ?_; refine ql_setA tabOk rfl rfl rfl rfl rfl (by repeat constructor) rfl ?_; refine q_nil (q_ret ?_))
  have e1 := rnC_snoc l.runs ⟨x, y, l.err + 1⟩
  refine q_fin tabOk rfl (by repeat constructor) fun w hs => ?_
  exact ⟨.slice a2 (l.runs.length + 1) c2, rfl, hs.sp (by
    show Sp _ [.ow _ _ _ (l.runs ++ [(⟨x, y, l.err + 1⟩ : Rn)]).length (rnC (l.runs ++ [(⟨x, y, l.err + 1⟩ : Rn)]))]
    rw [e1, List.length_append]
    repeat constructor)⟩
end Go.Proofs.Ytcmpdmobmbbplaa

/- Plain law of SkiMore. -/
namespace Go.Proofs.Ytcmpdmobmbbplaa

/-- What is told of a lab. -/
structure Told (k : Nat) (l : Lb) : Prop where
  ok : l.Ok
  noC : NoC l.ord l.n
theorem run_ok {s x y ld : Int} (hx : 0 ≤ x ∧ x < s) (hy : 0 ≤ y ∧ y < s) (hne : x ≠ y) (hl : -10000 ≤ ld ∧ ld ≤ 10000) : (⟨x, y, ld⟩ : Rn).Ok s := ⟨hx.1, hx.2, hy.1, hy.2, hne, hl.1, hl.2⟩
theorem Lb.Ok.loose {l : Lb} (h : l.Ok) {d : Int} (hd : 0 ≤ d) (h2 : l.err + d ≤ 1000) : (l.loose d).Ok := ⟨h.s0, h.s1, by have := h.e0; show 0 ≤ l.err + d; omega, h2, h.len, h.run⟩
/-- The places of a ski, as they are told. -/
def spanP (l : Lb) (s : Nat) : Int × Int := ((1 + upN l.ord s l.n : Nat), l.skis - dnN l.ord s l.n)
end Go.Proofs.Ytcmpdmobmbbplaa

/- Lists of labs, and what is told of them. -/
namespace Go.Proofs.Ytcmpdmobmbbplaa
open Go Go.Eng

abbrev LbM := Lb × Option Addr × Nat
def labCs (M : List LbM) : List Value := M.flatMap fun m => [.int .i64 m.1.skis, .int .i64 m.1.err, .slice m.2.1 m.1.runs.length m.2.2]
def labOs (t : Nat) (M : List LbM) : List Ck := M.map fun m => .ow (.slice m.2.1 m.1.runs.length m.2.2) t 3 m.1.runs.length (rnC m.1.runs)
/-- Places that were told. -/
def plOs (t : Nat) (M : List LbM) (ps : List Value) : List Ck := (M.zip ps).map fun x => .ow x.2 t 2 x.1.1.n (spC (plC x.1.1 x.1.1.ord x.1.1.n))
/-- An array that is filled. -/
def filA (f : Nat → Int) (n j : Nat) : List Int := (List.range n).map fun i => if i < j then f i else 0
theorem plC_get (l : Lb) (o : Nat) {k s : Nat} (hs : s < k) : (plC l o k)[s]? = some (((1 + upN o s l.n : Nat) : Int), l.skis - dnN o s l.n) := by
  unfold plC
  rw [List.getElem?_map, List.getElem?_range hs]
  rfl
def lbM (M : List LbM) (i : Nat) : Lb := (M.getD i (⟨0, 0, []⟩, none, 0)).1
def oM (M : List LbM) (i : Nat) : Int := cnt (lbM M i).ord (lbM M i).n (2 ^ (lbM M i).n - 1)
def rM (M : List LbM) (k i : Nat) : Int := (planO (lbM M i).n k (lbM M i).ord : Nat)
/-- What all labs of a list have. -/
structure AllOk (sk : Nat) (m : LbM) : Prop where
  ok : m.1.Ok
  noC : NoC m.1.ord m.1.n
  skis : m.1.skis = (sk : Int)
theorem AllOk.n {sk : Nat} {m : LbM} (h : AllOk sk m) : m.1.n = sk := by unfold Lb.n; rw [h.skis]; omega
end Go.Proofs.Ytcmpdmobmbbplaa

/- Walks: all pairs of skis of which one is faster; whether a pair is among them. -/
namespace Go.Proofs.Ytcmpdmobmbbplaa
open Go Go.Eng

/-- The pairs with a faster ski of a list of skis. -/
def prA (o n : Nat) (L : List Nat) : List (Int × Int) := L.flatMap fun a => ((List.range n).filter fun b => fa o a b).map fun (b : Nat) => ((a : Int), (b : Int))
/-- All pairs of skis of which one is faster. -/
def fasL (o n : Nat) : List (Int × Int) := prA o n (List.range n)
/-- Those of the skis ahead of the k-th one, and the first ones of its own. -/
def fasI (o n a b : Nat) : List (Int × Int) := prA o n (List.range a) ++ ((List.range b).filter fun b => fa o a b).map fun (b : Nat) => ((a : Int), (b : Int))
theorem fasI_next (o n a : Nat) : fasI o n a n = fasI o n (a + 1) 0 := by
  unfold fasI prA
  rw [List.range_succ, List.flatMap_append]
  simp
theorem fasI_yes {o n a b : Nat} (h : fa o a b = true) : fasI o n a (b + 1) = fasI o n a b ++ [((a : Int), (b : Int))] := by
  unfold fasI
  rw [List.range_succ, List.filter_append, List.map_append, List.append_assoc]
  simp [h]
theorem fasI_no {o n a b : Nat} (h : fa o a b = false) : fasI o n a (b + 1) = fasI o n a b := by
  unfold fasI
  rw [List.range_succ, List.filter_append, List.map_append]
  simp [h]
theorem fasI_all (o n : Nat) : fasI o n n 0 = fasL o n := by unfold fasI fasL; simp
theorem fasI_len {o n : Nat} : ∀ a b, b ≤ n → (fasI o n a b).length ≤ a * n + b
  | 0, b, _ => by
    unfold fasI prA
    have := List.length_filter_le (fun c => fa o 0 c) (List.range b)
    rw [List.length_range] at this
    simp
    exact this
  | a + 1, b, hb => by
    have ih := fasI_len (o := o) a n (Nat.le_refl _)
    rw [fasI_next] at ih
    have h1 := List.length_filter_le (fun c => fa o (a + 1) c) (List.range b)
    rw [List.length_range] at h1
    unfold fasI at ih ⊢
    rw [List.length_append, List.length_map] at ih ⊢
    simp only [List.range_zero, List.filter_nil, List.length_nil, Nat.add_zero] at ih
    rw [Nat.add_mul, Nat.one_mul]
    omega
theorem fas_mem {o n a b : Nat} : ((a : Int), (b : Int)) ∈ fasL o n ↔ a < n ∧ b < n ∧ fa o a b = true := by
  unfold fasL prA
  simp only [List.mem_flatMap, List.mem_map, List.mem_filter, List.mem_range, Prod.mk.injEq]
  constructor
  · rintro ⟨c, hc, d, ⟨hd, hf⟩, e1, e2⟩
    obtain rfl : c = a := by omega
    obtain rfl : d = b := by omega
    exact ⟨hc, hd, hf⟩
  · rintro ⟨h1, h2, h3⟩
    exact ⟨a, h1, b, ⟨h2, h3⟩, rfl, rfl⟩
theorem slP : SlT Try.prog 58 63 2 16 (.agg #[.int .i64 0, .int .i64 0]) := ⟨by kernel_rfl, by kernel_rfl, by kernel_rfl, by decide⟩
theorem spC_snoc (l : List (Int × Int)) (p : Int × Int) : spC (l ++ [p]) = spC l ++ [.int .i64 p.1, .int .i64 p.2] := by simp [spC]
set_option maxHeartbeats 1000000 in
theorem faster_ok (w : World) (lo hi : Nat) (l : Lb) (v : Value) (h : RdR w lo hi v l.runs) (hl : l.Ok) (hn : NoC l.ord l.n) : Ca Try.prog 25 [.agg (lbC l v).toArray] w fun x w' => ∃ u : Value, x = .tuple #[u, .int .i64 0] ∧ Sat w M0 [.ow u 63 2 (fasL l.ord l.n).length (spC (fasL l.ord l.n))] w' := by
  obtain ⟨n, en, hn', h8, h1⟩ := hl.nat
  rw [hn']
  refine q_of (Sat.nil w M0) Try.func25 rfl (by simp [Try.ntmps25]) ?_
  (refine q_seq (q_region ?_))
  refine ql_box rfl rfl (fun b1 => ?_)
  rw [agg_cells]
  (refine ql_pure tabOk rfl rfl (ql_pure tabOk rfl rfl (q_nil (q_seq (q_region ?_)))); refine ql_loadABa tabOk rfl rfl rfl ?_)
  refine ql_call (β := Nat) tabOk [] _ M0 rfl rfl rfl rfl (Sp.refl _) (fun _ h => h.elim) (fun w' hs => agreed_ok w' lo hi l v (RdE.keep h hs.chg0) hl hn) ?_
  rintro b _ rfl
  dsimp only [List.cons_append, List.nil_append]
  (refine ql_pure tabOk rfl rfl (ql_ext tabOk rfl rfl rfl (ql_ext tabOk rfl rfl rfl (ql_pure tabOk rfl rfl (ql_pure tabOk rfl rfl (q_nil (q_seq (q_seq (q_region (ql_pure tabOk rfl rfl (ql_neqF tabOk rfl rfl rfl (by omega) (q_nil ?_))))))))))); refine q_cond_false rfl (q_skip (q_seq (q_region (ql_pure tabOk rfl rfl (q_nil (q_seq (q_seq (q_region ?_)))))))); (iterate 4 refine ql_pure tabOk rfl rfl ?_); refine ql_loadBa tabOk rfl rfl rfl ?_; refine ql_pure tabOk rfl rfl (q_nil (q_block ?_)))
  rw [en]
  refine q_conv (H' := [.ow (.slice none 0 0) 63 2 (fasI l.ord n 0 0).length (spC (fasI l.ord n 0 0)), .pt b (dkC l v l.ord) 136]) (fun w' hs => (Sat.ownil hs 63 2).sp (by repeat constructor)) ?_
  refine q_loop (σ := Nat × Value) (fun y => y.1 ≤ n) (fun y => n - y.1) (fun y => [(4, .pointer (some ⟨b, 0, none⟩)), (6, y.2), (21, .int .i64 n), (22, .int .i64 y.1)]) (fun y => [.ow y.2 63 2 (fasI l.ord n y.1 0).length (spC (fasI l.ord n y.1 0)), .pt b (dkC l v l.ord) 136]) (0, .slice none 0 0) (by simp only; omega) ⟨rfl, rfl, rfl, rfl, trivial⟩ (by repeat constructor) ?_
  rintro ⟨x, u⟩ hs1 K hK
  dsimp only at hs1 ⊢
  (refine q_seq (q_region (ql_pure tabOk rfl rfl (q_nil (q_seq ?_)))))
  refine q_if rfl (fun hc => ?_) (fun hc => ?_)
  · have hs2 : x < n := by omega
    clear hc
    (refine q_skip (q_seq (q_block (q_seq (q_region (ql_pure tabOk rfl rfl (ql_pure tabOk rfl rfl (q_nil (q_seq (q_region ?_))))))))); (iterate 4 refine ql_pure tabOk rfl rfl ?_); refine ql_loadBa tabOk rfl rfl rfl ?_; refine ql_pure tabOk rfl rfl (q_nil (q_block ?_)))
    rw [en]
    refine q_loop (σ := Nat × Value) (fun y => y.1 ≤ n) (fun y => n - y.1) (fun y => [(4, .pointer (some ⟨b, 0, none⟩)), (6, y.2), (7, .int .i64 x), (21, .int .i64 n), (22, .int .i64 x), (29, .int .i64 n), (30, .int .i64 y.1)]) (fun y => [.ow y.2 63 2 (fasI l.ord n x y.1).length (spC (fasI l.ord n x y.1)), .pt b (dkC l v l.ord) 136]) (0, u) (by simp only; omega) ⟨rfl, rfl, rfl, rfl, rfl, rfl, rfl, trivial⟩ (by repeat constructor) ?_
    clear hs1
    rintro ⟨y, u⟩ hs1 K2 hK2
    dsimp only at hs1 ⊢
    (refine q_seq (q_region (ql_pure tabOk rfl rfl (q_nil (q_seq ?_)))))
    refine q_if rfl (fun hc => ?_) (fun hc => ?_)
    · have hs3 : y < n := by omega
      clear hc
      (refine q_skip (q_seq (q_block (q_seq (q_region (ql_pure tabOk rfl rfl (ql_pure tabOk rfl rfl (q_nil (q_seq (q_region ?_))))))))); (iterate 5 refine ql_pure tabOk rfl rfl ?_))
      refine ql_indexA (len := 8) o_arr rfl rfl rfl (by omega) (by omega) ?_
      skip
      refine ql_indexA (len := 8) r_arr rfl rfl rfl (by omega) (by omega) ?_
      skip
      refine ql_load1 (v := .bool (fa l.ord x y)) tabOk rfl rfl rfl (fun w hs => d_cell (hs.blk (by repeat constructor)) x y (by omega) (by omega) (by omega)) ?_
      cases hx : fa l.ord x y with
      | true =>
        have hlen := fasI_len (o := l.ord) (n := n) x y (by omega)
        have hxn : x * n ≤ 8 * 8 := Nat.mul_le_mul (by omega) h8
        (refine q_nil (q_cond_true rfl (q_region ?_)); (iterate 3 refine ql_pure tabOk rfl rfl ?_))
        refine ql_mk #[.int .i64 x, .int .i64 y] rfl (by kernel_rfl) rfl ?_
        skip
        refine ql_mkS 63 [.int .i64 x, .int .i64 y] rfl (by kernel_rfl) rfl (fun bn => ?_)
        skip
        refine ql_append (q := 1) (news := [.int .i64 x, .int .i64 y]) slP rfl rfl rfl (fun v' => by repeat constructor) (fun w' hs => ⟨_, _, Blk.rdN (hs.blk (b := bn) (by repeat constructor)) rfl⟩) (by simp [oneV]) (by omega) (by omega) (fun u' => ?_)
        (refine ql_pure tabOk rfl rfl (q_nil (q_blk (q_region (ql_ar tabOk rfl rfl rfl rfl (by omega) (by omega) (ql_pure tabOk rfl rfl (q_nil ?_)))))))
        exact hK2 (y + 1, u') _ _ (by simp only; omega) (by simp only; omega) ⟨rfl, rfl, rfl, rfl, rfl, rfl, rfl, trivial⟩ (by dsimp only; rw [fasI_yes hx, spC_snoc, List.length_append, List.length_singleton]; repeat constructor)
      | false =>
        (refine q_nil (q_cond_false rfl (q_skip (q_blk (q_region (ql_ar tabOk rfl rfl rfl rfl (by omega) (by omega) (ql_pure tabOk rfl rfl (q_nil ?_))))))))
        exact hK2 (y + 1, u) _ _ (by simp only; omega) (by simp only; omega) ⟨rfl, rfl, rfl, rfl, rfl, rfl, rfl, trivial⟩ (by dsimp only; rw [fasI_no hx]; repeat constructor)
    · obtain rfl : y = n := by omega
      (refine q_exit _ rfl (q_blk (q_region (ql_ar tabOk rfl rfl rfl rfl (by omega) (by omega) (ql_pure tabOk rfl rfl (q_nil ?_))))))
      exact hK (x + 1, u) _ _ (by simp only; omega) (by simp only; omega) ⟨rfl, rfl, rfl, rfl, trivial⟩ (by dsimp only; rw [← fasI_next]; repeat constructor)
  · obtain rfl : x = n := by omega
    (refine q_exit _ rfl (q_seq (q_region ?_)); (iterate 3 refine ql_pure tabOk rfl rfl ?_); refine q_nil (q_ret ?_))
    refine q_fin tabOk rfl (by repeat constructor) fun w hs => ?_
    exact ⟨u, rfl, by rw [← fasI_all]; exact hs.sp (by repeat constructor)⟩
/-- Where a pair is, or -1. -/
def idxP (L : List (Int × Int)) (p : Int × Int) : Int := if p ∈ L then (L.idxOf p : Int) else -1
theorem idxP_at {L : List (Int × Int)} {p : Int × Int} {i : Nat} (hi : i < L.length) (h : p ∉ L.take i) (e : L[i] = p) : idxP L p = i := by
  unfold idxP
  rw [if_pos (by rw [← e]; exact List.getElem_mem hi)]
  have h1 : (L.take i ++ L.drop i).idxOf p = (L.drop i).idxOf p + (L.take i).length := by rw [List.idxOf_append, if_neg h]
  rw [List.take_append_drop, List.drop_eq_getElem_cons hi, e, List.idxOf_cons_self, List.length_take] at h1
  omega
theorem idxP_iff {L : List (Int × Int)} {p : Int × Int} : 0 ≤ idxP L p ↔ p ∈ L := by
  unfold idxP
  split
  · rename_i h; exact ⟨fun _ => h, fun _ => by omega⟩
  · rename_i h; exact ⟨fun h2 => by omega, fun h2 => absurd h2 h⟩
theorem eqL_pair (a b c d : Int) : eqL [.int .i64 a, .int .i64 b] [.int .i64 c, .int .i64 d] = decide (((c, d) : Int × Int) = (a, b)) := by
  simp only [eqL, Bool.and_true, Prod.mk.injEq]
  by_cases h1 : a = c <;> by_cases h2 : b = d <;> simp [h1, h2, Ne.symm, eq_comm]
set_option maxHeartbeats 1000000 in
theorem indexP_ca (w : World) (lo hi : Nat) (v : Value) (L : List (Int × Int)) (p q : Int) (h : RdS w lo hi v L) (hlen : L.length ≤ 1000000) :
    Ca Try.prog 86 [v, .agg #[.int .i64 p, .int .i64 q]] w fun r w' => r = .int .i64 (idxP L (p, q)) ∧ Chg [] w w' := by
  obtain ⟨a, ca, rfl, hsa⟩ := RdS.outI h
  refine q_of (Sat.nil w M0) Try.func86 rfl (by simp [Try.ntmps86]) ?_
  (refine q_seq (q_region ?_))
  refine ql_box rfl rfl (fun b3 => ?_)
  (refine ql_pure tabOk rfl rfl (q_nil (q_seq (q_seq (q_region ?_)))); (iterate 3 refine ql_pure tabOk rfl rfl ?_); refine q_nil (q_block ?_))
  refine q_loop (σ := Nat) (fun s => s ≤ L.length ∧ (p, q) ∉ L.take s) (fun s => L.length - s) (fun s => [(0, .slice a L.length ca), (3, .pointer (some ⟨b3, 0, none⟩)), (7, .int .i64 L.length), (8, .int .i64 s)]) (fun _ => [.pt b3 [.int .i64 p, .int .i64 q] 63]) 0 (by simp) ⟨rfl, rfl, rfl, rfl, trivial⟩ (by repeat constructor) ?_
  rintro i ⟨hi, ht⟩ K hK
  (refine q_seq (q_region (ql_pure tabOk rfl rfl (q_nil (q_seq ?_)))))
  refine q_if rfl (fun hc => ?_) (fun hc => ?_)
  · have hi2 : i < L.length := by omega
    clear hc
    obtain ⟨ba, oa, rfl⟩ := hsa (by omega)
    (refine q_skip (q_seq (q_block (q_seq (q_region (ql_pure tabOk rfl rfl (ql_pure tabOk rfl rfl (q_nil (q_seq ?_)))))))))
    refine q_draw _ [] (Sp.refl _) (by kernel_rfl) (by kernel_rfl) ?_
    (refine qf_loadABa tabOk rfl rfl rfl ?_; refine qf_pure tabOk rfl rfl rfl (qf_pure tabOk rfl rfl rfl ?_))
    refine qf_index tabOk rfl rfl rfl rfl rfl (by omega) (by omega) ?_
    refine qf_loadA tabOk rfl rfl rfl rfl (fun w hs => RdS.at (RdE.keep h hs.chg0) i hi2) ?_
    skip
    refine qf_eqF [some .i64, some .i64] pair_flat rfl rfl rfl rfl rfl ?_
    rw [show List.take 2 (List.drop 0 [Value.int .i64 p, .int .i64 q]) = [Value.int .i64 p, .int .i64 q] from rfl, eqL_pair]
    cases he : decide (((L[i].1, L[i].2) : Int × Int) = (p, q)) with
    | true =>
      have he2 : L[i] = (p, q) := of_decide_eq_true he
      (refine qf_nil (q_cond_true rfl (q_seq (q_region (ql_pure tabOk rfl rfl (ql_pure tabOk rfl rfl (q_nil (q_ret ?_))))))))
      refine q_fin tabOk rfl (by repeat constructor) fun w hs => ?_
      exact ⟨by rw [idxP_at hi2 ht he2]; rfl, hs.chg0⟩
    | false =>
      have he2 : ¬ L[i] = (p, q) := of_decide_eq_false he
      (refine qf_nil (q_cond_false rfl (q_skip (q_blk (q_region (ql_ar tabOk rfl rfl rfl rfl (by omega) (by omega) (ql_pure tabOk rfl rfl (q_nil ?_))))))))
      exact hK (i + 1) _ _ ⟨by omega, fun hm => by
        rw [List.take_succ_eq_append_getElem hi2] at hm
        rcases List.mem_append.1 hm with hm | hm
        · exact ht hm
        · exact he2 (List.mem_singleton.1 hm).symm⟩ (by omega) ⟨rfl, rfl, rfl, rfl, trivial⟩ (by repeat constructor)
  · obtain rfl : i = L.length := by omega
    rw [List.take_length] at ht
    (refine q_exit _ rfl (q_seq (q_region (ql_pure tabOk rfl rfl (q_nil (q_ret ?_))))))
    refine q_fin tabOk rfl (by repeat constructor) fun w hs => ?_
    exact ⟨by unfold idxP; rw [if_neg ht]; rfl, hs.chg0⟩
theorem containsP_ca (w : World) (lo hi : Nat) (v : Value) (L : List (Int × Int)) (p q : Int) (h : RdS w lo hi v L) (hlen : L.length ≤ 1000000) :
    Ca Try.prog 26 [v, .agg #[.int .i64 p, .int .i64 q]] w fun r w' => r = .bool (decide ((p, q) ∈ L) && true) ∧ Chg [] w w' := by
  refine q_of (Sat.nil w M0) Try.func26 rfl (by simp [Try.ntmps26]) ?_
  (refine q_seq (q_region ?_))
  refine ql_box rfl rfl (fun b3 => ?_)
  (refine ql_pure tabOk rfl rfl (q_nil (q_seq (q_region (ql_pure tabOk rfl rfl ?_)))); refine ql_loadABa tabOk rfl rfl rfl ?_)
  refine ql_callv (val := .int .i64 (idxP L (p, q))) tabOk rfl rfl rfl rfl (fun w hs => ?_) ?_; exact indexP_ca w lo hi v L p q (RdE.keep h hs.chg0) hlen
  have hi := idxP_iff (L := L) (p := (p, q))
  generalize idxP L (p, q) = i at hi ⊢
  by_cases h0 : 0 ≤ i
  · rw [decide_eq_true (hi.1 h0)]
    (refine ql_geqT tabOk rfl rfl rfl (by omega) (ql_pure tabOk rfl rfl (q_nil (q_ret ?_))))
    refine q_fin tabOk rfl (by repeat constructor) fun w hs => ?_
    exact ⟨rfl, hs.chg0⟩
  · rw [decide_eq_false (fun h => h0 (hi.2 h))]
    (refine ql_geqF tabOk rfl rfl rfl (by omega) (ql_pure tabOk rfl rfl (q_nil (q_ret ?_))))
    refine q_fin tabOk rfl (by repeat constructor) fun w hs => ?_
    exact ⟨rfl, hs.chg0⟩
end Go.Proofs.Ytcmpdmobmbbplaa

/- The plain law of SkiWaxed. -/
namespace Go.Proofs.Ytcmpdmobmbbplaa

/-- Tables of numbers. -/
structure LosL (W S : Nat) (l : List (List Int)) (n : Nat) : Prop where
  l1 : 1 ≤ l.length
  l2 : l.length ≤ W
  n1 : 1 ≤ n
  n2 : n ≤ S
  len : ∀ row ∈ l, row.length = n
  num : ∀ row ∈ l, ∀ x ∈ row, 0 ≤ x ∧ x ≤ 200
theorem LosL.tab {W S n : Nat} {l : List (List Int)} (h : LosL W S l n) (hW : W ≤ 12) (hS : S ≤ 20) : TabOk l n :=
  ⟨h.l1, by have := h.l2; omega, h.n1, by have := h.n2; omega, h.len, fun r hr x hx => by have := h.num r hr x hx; omega⟩
theorem TabOk.v {l : List (List Int)} {n : Nat} (h : TabOk l n) : tableV l = 0 ∧ (l.headD []).length = n := by
  have e : (l.headD []).length = n := by
    have h1 := h.l1
    match l, h1 with
    | r :: l, _ => exact h.len r List.mem_cons_self
  exact ⟨table_iff.2 (e ▸ h), e⟩
theorem TabOk.low {l : List (List Int)} {n s : Nat} (h : TabOk l n) (hs : s < n) : 0 ≤ lowV l s ∧ lowV l s ≤ 10000 := by
  obtain ⟨r, hr, e⟩ := low_mem (l := l) (by intro e; have := h.l1; rw [e] at this; simp at this) s
  rw [e]
  exact h.num r hr _ (getD_mem (by rw [h.len r hr]; exact hs))
end Go.Proofs.Ytcmpdmobmbbplaa

/- The plain law of SkiEnded. -/
namespace Go.Proofs.Ytcmpdmobmbbplaa

/-- Some order fits if no ski is faster than itself. -/
theorem max_in {o n S : Nat} (hc : NoC o n) (ho : Ord o) (hn : n ≤ 8) : ∀ k s, s < n → S.testBit s = true → dnN o s n ≤ k → ∃ t, t < n ∧ S.testBit t = true ∧ ∀ u, u < n → S.testBit u = true → fa o t u = false
  | k, s, hs, hb, hk => by
    by_cases h : ∃ u, u < n ∧ S.testBit u = true ∧ fa o s u = true
    · obtain ⟨u, hu, hbu, hf⟩ := h
      have hlt : dnN o u n < dnN o s n := by
        refine filter_lt _ _ _ (fun a ha h => ho.tr s u a (by omega) (by omega) (by have := List.mem_range.1 ha; omega) hf h) ⟨u, List.mem_range.2 hu, hf, hc u hu⟩
      match k with
      | 0 => omega
      | k + 1 => exact max_in hc ho hn k u hu hbu (by omega)
    · exact ⟨s, hs, hb, fun u hu hbu => Bool.eq_false_iff.2 fun hf => h ⟨u, hu, hbu, hf⟩⟩
theorem sumN_ge {f : Nat → Nat} {i : Nat} : ∀ n, i < n → f i ≤ sumN f n
  | n + 1, h => by
    unfold sumN
    by_cases e : i = n
    · subst e; omega
    · have := sumN_ge n (i := i) (f := f) (by omega)
      omega
theorem cnt_pos {o n : Nat} (hc : NoC o n) (ho : Ord o) (hn : n ≤ 8) : ∀ S, S < 2 ^ n → (∀ s t, s < n → t < n → S.testBit s = true → fa o t s = true → S.testBit t = true) → 1 ≤ cnt o n S := by
  intro S
  induction S using Nat.strongRecOn with
  | ind S ih =>
    intro hS hd
    by_cases h0 : S = 0
    · rw [h0, cnt_zero]; omega
    obtain ⟨s0, hs0⟩ : ∃ s, S.testBit s = true := by
      rcases Classical.em (∃ s, S.testBit s = true) with h | h
      · exact h
      · exact absurd (Nat.eq_of_testBit_eq fun i => by rw [Nat.zero_testBit]; exact Bool.eq_false_iff.2 fun hh => h ⟨i, hh⟩) h0
    have hs0n : s0 < n := by
      rcases Nat.lt_or_ge s0 n with h | h
      · exact h
      · have h1 : S < 2 ^ s0 := Nat.lt_of_lt_of_le hS (Nat.pow_le_pow_right (by omega) h)
        rw [Nat.testBit_lt_two_pow h1] at hs0
        cases hs0
    obtain ⟨t, htn, hbt, hmax⟩ := max_in (S := S) hc ho hn (dnN o s0 n) s0 hs0n hs0 (Nat.le_refl _)
    have hx := xor_lt hbt
    have h1 := ih (S ^^^ 2 ^ t) hx (by omega) (fun a b ha hb h2 h3 => by
      by_cases ea : a = t
      · subst ea; rw [bit_xor_self hbt] at h2; cases h2
      · rw [bit_xor ea] at h2
        have h4 := hd a b ha hb h2 h3
        by_cases eb : b = t
        · subst eb; rw [hmax a ha h2] at h3; cases h3
        · rw [bit_xor eb]; exact h4)
    have hf : freeO o n t (S ^^^ 2 ^ t) = true := free_iff.2 ⟨bit_xor_self hbt, fun u hu h2 => by
      have h3 := hd t u htn hu hbt h2
      by_cases eu : u = t
      · subst eu; rw [hc u hu] at h2; cases h2
      · rw [bit_xor eu]; exact h3⟩
    rw [cnt_eq h0]
    have h5 := sumN_ge (f := fun s => cond (S.testBit s && freeO o n s (S ^^^ 2 ^ s)) (cnt o n (S ^^^ 2 ^ s)) 0) n htn
    simp only [hbt, hf, Bool.and_self, cond_true] at h5
    omega
theorem full_bit {n s : Nat} (h : s < n) : (2 ^ n - 1).testBit s = true := by rw [Nat.testBit_two_pow_sub_one]; simp [h]
theorem full_pos {o n : Nat} (hc : NoC o n) (ho : Ord o) (hn : n ≤ 8) : 1 ≤ cnt o n (2 ^ n - 1) :=
  cnt_pos hc ho hn _ (by have : 0 < 2 ^ n := Nat.pow_pos (by omega); omega) (fun s t _ ht _ _ => full_bit ht)

/-- Further runs that show a ski to be faster than all that are not faster than it. -/
def earL (l : Lb) (x : Nat) : Nat → Lb
  | 0 => l
  | k + 1 => if k = x ∨ fa l.ord k x = true then earL l x k else (earL l x k).add ⟨x, k, (earL l x k).err + 1⟩
def latL (l : Lb) (x : Nat) : Nat → Lb
  | 0 => l
  | k + 1 => if k = x ∨ fa l.ord x k = true then latL l x k else (latL l x k).add ⟨k, x, (latL l x k).err + 1⟩
theorem run_more {e : Int} {a b : Nat} (he : 0 ≤ e) : runV e ⟨a, b, e + 1⟩ = some (a, b) := by
  unfold runV
  rw [if_pos (show e < e + 1 by omega), Int.toNat_natCast, Int.toNat_natCast]
structure More (l m : Lb) (k : Nat) (R : Nat × Nat → Prop) : Prop where
  sk : m.skis = l.skis
  err : m.err = l.err
  ok : m.Ok
  len : m.runs.length ≤ l.runs.length + k
  has : ∀ p, p ∈ m.pairs ↔ p ∈ l.pairs ∨ R p
theorem More.n {l m : Lb} {k : Nat} {R : Nat × Nat → Prop} (h : More l m k R) : m.n = l.n := by unfold Lb.n; rw [h.sk]
theorem More.le {l m : Lb} {k : Nat} {R : Nat × Nat → Prop} (h : More l m k R) (hl : l.Ok) : LeO l.ord m.ord := order_le hl.in8 h.ok.in8 fun p hp => (h.has p).2 (.inl hp)
theorem More.add {l m : Lb} {k a b : Nat} {R R' : Nat × Nat → Prop} (h : More l m k R) (ha : a < l.n) (hb : b < l.n) (hne : a ≠ b) (hlen : l.runs.length + k < 40) (hR : ∀ p, R' p ↔ R p ∨ p = (a, b)) : More l (m.add ⟨a, b, m.err + 1⟩) (k + 1) R' := by
  have hs0 := h.ok.s0
  have hs1 := h.ok.s1
  have he0 := h.ok.e0
  have he1 := h.ok.e1
  have hsk := h.sk
  have hl := h.len
  have ha2 : (a : Int) < m.skis := by unfold Lb.n at ha; omega
  have hb2 : (b : Int) < m.skis := by unfold Lb.n at hb; omega
  refine ⟨h.sk, h.err, h.ok.add (by omega) (run_ok (by omega) (by omega) (by omega) (by omega)), ?_, fun p => ?_⟩
  · show (m.runs ++ [_]).length ≤ _
    rw [List.length_append, List.length_singleton]
    omega
  · rw [add_pairs, run_more he0, hR, List.mem_append, h.has]
    simp only [Option.toList, List.mem_singleton]
    exact or_assoc
theorem More.up {l m : Lb} {k : Nat} {R R' : Nat × Nat → Prop} (h : More l m k R) (hR : ∀ p, R' p ↔ R p) : More l m (k + 1) R' :=
  ⟨h.sk, h.err, h.ok, by have := h.len; omega, fun p => by rw [h.has, hR]⟩
theorem More.start {l : Lb} {R : Nat × Nat → Prop} (h : l.Ok) (hR : ∀ p, ¬ R p) : More l l 0 R := ⟨rfl, rfl, h, by omega, fun p => by simp [hR p]⟩
theorem ear_more {l : Lb} {x : Nat} (hl : l.Ok) (hx : x < l.n) : ∀ k, k ≤ l.n → l.runs.length + k ≤ 40 → More l (earL l x k) k fun p => p.1 = x ∧ p.2 < k ∧ p.2 ≠ x ∧ fa l.ord p.2 x = false
  | 0, _, _ => More.start hl fun p h => by omega
  | k + 1, hk, h40 => by
    have ih := ear_more hl hx k (by omega) (by omega)
    unfold earL
    split
    · rename_i h
      refine ih.up fun p => ⟨fun ⟨h1, h2, h3, h4⟩ => ⟨h1, ?_, h3, h4⟩, fun ⟨h1, h2, h3, h4⟩ => ⟨h1, by omega, h3, h4⟩⟩
      by_cases e : p.2 = k
      · rw [e] at h3 h4
        rcases h with h | h
        · exact absurd h h3
        · rw [h] at h4; cases h4
      · omega
    · rename_i h
      refine ih.add (by omega) (by omega) (fun e => h (.inl e.symm)) (by omega) fun p => ?_
      constructor
      · rintro ⟨h1, h2, h3, h4⟩
        by_cases e : p.2 = k
        · right; exact Prod.ext h1 e
        · left; exact ⟨h1, by omega, h3, h4⟩
      · rintro (⟨h1, h2, h3, h4⟩ | rfl)
        · exact ⟨h1, by omega, h3, h4⟩
        · exact ⟨rfl, by simp only; omega, fun e => h (.inl e), Bool.eq_false_iff.2 fun e => h (.inr e)⟩
theorem lat_more {l : Lb} {x : Nat} (hl : l.Ok) (hx : x < l.n) : ∀ k, k ≤ l.n → l.runs.length + k ≤ 40 → More l (latL l x k) k fun p => p.2 = x ∧ p.1 < k ∧ p.1 ≠ x ∧ fa l.ord x p.1 = false
  | 0, _, _ => More.start hl fun p h => by omega
  | k + 1, hk, h40 => by
    have ih := lat_more hl hx k (by omega) (by omega)
    unfold latL
    split
    · rename_i h
      refine ih.up fun p => ⟨fun ⟨h1, h2, h3, h4⟩ => ⟨h1, ?_, h3, h4⟩, fun ⟨h1, h2, h3, h4⟩ => ⟨h1, by omega, h3, h4⟩⟩
      by_cases e : p.1 = k
      · rw [e] at h3 h4
        rcases h with h | h
        · exact absurd h h3
        · rw [h] at h4; cases h4
      · omega
    · rename_i h
      refine ih.add (by omega) (by omega) (fun e => h (.inl e)) (by omega) fun p => ?_
      constructor
      · rintro ⟨h1, h2, h3, h4⟩
        by_cases e : p.1 = k
        · right; exact Prod.ext e h1
        · left; exact ⟨h1, by omega, h3, h4⟩
      · rintro (⟨h1, h2, h3, h4⟩ | rfl)
        · exact ⟨h1, by omega, h3, h4⟩
        · exact ⟨rfl, by simp only; omega, fun e => h (.inl e), Bool.eq_false_iff.2 fun e => h (.inr e)⟩
theorem ear_says {l : Lb} {x : Nat} (hl : l.Ok) (hc : NoC l.ord l.n) (hx : x < l.n) (h40 : l.runs.length + l.n ≤ 40) :
    NoC (earL l x l.n).ord l.n ∧ upN (earL l x l.n).ord x l.n = upN l.ord x l.n ∧ dnN (earL l x l.n).ord x l.n + upN l.ord x l.n + 1 = l.n := by
  have h := ear_more hl hx l.n (Nat.le_refl _) h40
  have h8 := hl.n8
  have ho := hl.o
  refine early ho h.ok.o hc hl.n8 hx (h.le hl) (fun s hs hne hf => order_has h.ok.in8 (p := (x, s)) ((h.has _).2 (.inr ⟨rfl, hs, hne, hf⟩))) ?_
  refine order_sub (R := fun a b => fa l.ord a b = true ∨ ((a = x ∨ fa l.ord a x = true) ∧ b ≠ x ∧ fa l.ord b x = false)) h.ok.in8 (fun a b c ha hb hc8 h1 h2 => ?_) (fun p hp => ?_)
  · rcases h1 with h1 | ⟨h1, h3, h4⟩ <;> rcases h2 with h2 | ⟨h2, h5, h6⟩
    · exact .inl (ho.tr a b c ha hb hc8 h1 h2)
    · refine .inr ⟨.inr ?_, h5, h6⟩
      rcases h2 with rfl | h2
      · exact h1
      · exact ho.tr a b x ha hb (by omega) h1 h2
    · refine .inr ⟨h1, fun e => ?_, Bool.eq_false_iff.2 fun e => ?_⟩
      · rw [e] at h2; rw [h2] at h4; cases h4
      · rw [ho.tr b c x hb hc8 (by omega) h2 e] at h4; cases h4
    · exact .inr ⟨h1, h5, h6⟩
  · rcases (h.has p).1 hp with h1 | ⟨h1, h2, h3, h4⟩
    · exact .inl (order_has hl.in8 h1)
    · exact .inr ⟨.inl h1, h3, h4⟩
theorem lat_says {l : Lb} {x : Nat} (hl : l.Ok) (hc : NoC l.ord l.n) (hx : x < l.n) (h40 : l.runs.length + l.n ≤ 40) :
    NoC (latL l x l.n).ord l.n ∧ dnN (latL l x l.n).ord x l.n = dnN l.ord x l.n ∧ upN (latL l x l.n).ord x l.n + dnN l.ord x l.n + 1 = l.n := by
  have h := lat_more hl hx l.n (Nat.le_refl _) h40
  have h8 := hl.n8
  have ho := hl.o
  refine late ho h.ok.o hc hl.n8 hx (h.le hl) (fun s hs hne hf => order_has h.ok.in8 (p := (s, x)) ((h.has _).2 (.inr ⟨rfl, hs, hne, hf⟩))) ?_
  refine order_sub (R := fun a b => fa l.ord a b = true ∨ ((b = x ∨ fa l.ord x b = true) ∧ a ≠ x ∧ fa l.ord x a = false)) h.ok.in8 (fun a b c ha hb hc8 h1 h2 => ?_) (fun p hp => ?_)
  · rcases h1 with h1 | ⟨h1, h3, h4⟩ <;> rcases h2 with h2 | ⟨h2, h5, h6⟩
    · exact .inl (ho.tr a b c ha hb hc8 h1 h2)
    · refine .inr ⟨h2, fun e => ?_, Bool.eq_false_iff.2 fun e => ?_⟩
      · rw [e] at h1; rw [h1] at h6; cases h6
      · rw [ho.tr x a b (by omega) ha hb e h1] at h6; cases h6
    · refine .inr ⟨.inr ?_, h3, h4⟩
      rcases h1 with rfl | h1
      · exact h2
      · exact ho.tr x b c (by omega) hb hc8 h1 h2
    · exact .inr ⟨h2, h3, h4⟩
  · rcases (h.has p).1 hp with h1 | ⟨h1, h2, h3, h4⟩
    · exact .inl (order_has hl.in8 h1)
    · exact .inr ⟨.inl h1, h3, h4⟩
/-- A run more that shows a ski to be faster than another one. -/
theorem furt_ord {l : Lb} (hl : l.Ok) (x y : Nat) : (l.add ⟨x, y, l.err + 1⟩).ord = withO l.ord x y := add_some (p := (x, y)) (run_more hl.e0)
theorem furt_ok {l : Lb} (hl : l.Ok) {x y : Nat} (hx : x < l.n) (hy : y < l.n) (hne : x ≠ y) (hlen : l.runs.length < 40) : (l.add ⟨x, y, l.err + 1⟩).Ok := by
  have h1 := hl.s0
  have h2 := hl.e0
  have h3 := hl.e1
  unfold Lb.n at hx hy
  exact hl.add hlen (run_ok (by omega) (by omega) (by omega) (by omega))
theorem furt_same {l : Lb} (hl : l.Ok) (hc : NoC l.ord l.n) {x y : Nat} (hx : x < l.n) (hy : y < l.n) (hne : x ≠ y) (hlen : l.runs.length < 40) (hf : fa l.ord x y = true) : (l.add ⟨x, y, l.err + 1⟩).ord = l.ord ∧ agreedV (l.add ⟨y, x, l.err + 1⟩) = 7 := by
  have h8 := hl.n8
  refine ⟨by rw [furt_ord hl, (with_eq hl.o (by omega) (by omega)).2 hf], ?_⟩
  have hok := furt_ok hl hy hx hne.symm hlen
  unfold agreedV
  rw [if_neg (by rw [check_iff.2 hok]; simp), if_pos]
  rw [furt_ord hl]
  cases h : conflB (withO l.ord y x) (l.add ⟨y, x, l.err + 1⟩).n with
  | true => rfl
  | false => exact absurd (confl_iff.1 h) (with_back h8 hx hy hf)
theorem furt_parts {l : Lb} (hl : l.Ok) (hc : NoC l.ord l.n) {x y : Nat} (hx : x < l.n) (hy : y < l.n) (hne : x ≠ y) (h1 : fa l.ord x y = false) (h2 : fa l.ord y x = false) :
    NoC (l.add ⟨x, y, l.err + 1⟩).ord l.n ∧ NoC (l.add ⟨y, x, l.err + 1⟩).ord l.n ∧ cnt (l.add ⟨x, y, l.err + 1⟩).ord l.n (2 ^ l.n - 1) + cnt (l.add ⟨y, x, l.err + 1⟩).ord l.n (2 ^ l.n - 1) = cnt l.ord l.n (2 ^ l.n - 1) := by
  have hU : Und l.ord l.n x y := ⟨hl.o, hl.n8, hx, hy, hne, h1, h2⟩
  rw [furt_ord hl, furt_ord hl]
  exact ⟨hc.with hU, hc.with hU.swap, cnt_parts hU _ (full_bit hx) (full_bit hy)⟩
end Go.Proofs.Ytcmpdmobmbbplaa

/- Labs that grow, and what is read of them. -/
namespace Go.Proofs.Ytcmpdmobmbbplaa
open Go Go.Eng

theorem mod_natK {a : Int} {n : Nat} (ha : 0 ≤ a) (hn : 0 < n) : ∃ x : Nat, a % (n : Int) = x ∧ x < n := ⟨(a % n).toNat, by have := Int.emod_nonneg a (show (n : Int) ≠ 0 by omega); omega, by have := Int.emod_lt_of_pos a (show (0 : Int) < n by omega); have := Int.emod_nonneg a (show (n : Int) ≠ 0 by omega); omega⟩
theorem madeK {w0 w : World} {R : List Ck} {b K : Nat} {bs : Value} {most runs : Nat} (hby : DkB w0 0 w0.heap.size bs) (hs : Sat w0 M0 (dkP bs b K :: R) w) (h1 : 2 ≤ most) (h2 : most ≤ 8) (h3 : runs ≤ 20) (hK : K < 100000) :
    Ca Try.prog 11 [.pointer (some ⟨b, 0, none⟩), .int .i64 most, .int .i64 runs] w fun v w' => ∃ y : Value × Value × Lb × List Int, (v = .tuple #[.agg (lbC y.2.2.1 y.1).toArray, y.2.1] ∧ MadeL most runs y.2.2.1 y.2.2.2) ∧ Sat w (fun x => x = b) [.ow y.1 33 3 y.2.2.1.runs.length (rnC y.2.2.1.runs), .ow y.2.1 3 1 y.2.2.2.length (ints y.2.2.2), dkP bs b (K + 100)] w' :=
  made_ca most runs h1 h2 h3 K hK w b 0 w0.heap.size bs (hby.keep hs.chg0) (dk_new hs) (hs.all _ (.head _))
theorem runs_rdK {w0 w : World} {M : Nat → Prop} {H : List Ck} {v : Value} {t n : Nat} {l : List Rn} (hs : Sat w0 M H w) (hm : .ow v t 3 n (rnC l) ∈ H) (hn : n = l.length) : RdR w 0 w.heap.size v l := own_rdR (t := t) (hs.mem hm) hn
/-- The slice of a lab's runs. -/
abbrev slV (m : LbM) : Value := .slice m.2.1 m.1.runs.length m.2.2
theorem lab_in {w0 w : World} {Mp : Nat → Prop} {H : List Ck} {t : Nat} {M : List LbM} (hs : Sat w0 Mp H w) (hm : un (labOs t M) ∈ H) {m : LbM} (hi : m ∈ M) : RdR w 0 w.heap.size (slV m) m.1.runs :=
  own_rdR (t := t) ((hs.mem hm).1 (.ow (slV m) t 3 m.1.runs.length (rnC m.1.runs)) (List.mem_map.2 ⟨_, hi, rfl⟩)) rfl
theorem labOs_add {w0 w : World} {Mp : Nat → Prop} {R : List Ck} {t : Nat} {M : List LbM} {m : LbM} (h : Sat w0 Mp (.ow (slV m) t 3 m.1.runs.length (rnC m.1.runs) :: un (labOs t M) :: R) w) : Sat w0 Mp (un (labOs t (M ++ [m])) :: R) w :=
  (Sat.un_in h).un_perm (L' := labOs t (M ++ [m])) (by unfold labOs; rw [List.map_append]; exact (List.perm_append_comm (l₁ := [_])))
theorem labOs_one {w0 w : World} {Mp : Nat → Prop} {R : List Ck} {t : Nat} {m : LbM} (h : Sat w0 Mp (.ow (slV m) t 3 m.1.runs.length (rnC m.1.runs) :: R) w) : Sat w0 Mp (un (labOs t [m]) :: R) w := Sat.un_iff.2 h
theorem sp_at {w0 w : World} {Mp : Nat → Prop} {H : List Ck} {t m g c : Nat} {L : List (Int × Int)} {x1 x2 : Int} (hs : Sat w0 Mp H w) (hm : .ow (.slice (some ⟨g, 0, none⟩) m c) t 2 m (spC L) ∈ H) (hl : m = L.length) {i : Nat} (hi : i < L.length) (hx : L[i] = (x1, x2)) : ∀ q, q < 2 → w.cell? ⟨g, 0 + i * 2 + q, none⟩ = [Value.int .i64 x1, .int .i64 x2][q]? := fun q hq => by
  have := RdS.at (own_rdS (t := t) (hs.mem hm) hl) i hi q hq
  rw [hx] at this
  exact this
end Go.Proofs.Ytcmpdmobmbbplaa

/- SkiEnded. -/
namespace Go.Proofs.Ytcmpdmobmbbplaa
open Go Go.Eng

theorem cont_fa {o n a b : Nat} (ha : a < n) (hb : b < n) : (decide ((((a : Nat) : Int), ((b : Nat) : Int)) ∈ fasL o n) && true) = fa o a b := by
  cases h : fa o a b with
  | true => rw [decide_eq_true (fas_mem.2 ⟨ha, hb, h⟩)]; rfl
  | false => rw [decide_eq_false (fun h2 => by rw [(fas_mem.1 h2).2.2] at h; cases h)]; rfl
def tL3_aa33ace : OT := .alt (chainT [2, 3, 0, 4, 1, 5] (.nil)) (chainT [3, 2, 0, 4, 1, 5] (.nil))
set_option maxHeartbeats 8000000 in
set_option maxRecDepth 20000 in
theorem skiEnded_ca (w : World) (a : Option Addr) (nb cb : Nat) (a1 a2 : Int) (ha1 : 0 ≤ a1 ∧ a1 < 256) (ha2 : 0 ≤ a2 ∧ a2 < 256) (hbyb1 : DkB w 0 w.heap.size (.slice a nb cb)) :
    Ca Try.prog 5 [.slice a nb cb, .int .u8 a1, .int .u8 a2] w fun r w' => r = .bool true ∧ Chg [] w w' := by
  refine q_of (Sat.nil w M0) Try.func5 rfl (by simp [Try.ntmps5]) ?_
  (refine q_seq (q_region (ql_pure tabOk rfl rfl (q_nil (q_seq (q_region (ql_pure tabOk rfl rfl ?_)))))))
  refine ql_call (β := Nat) tabOk [] _ M0 rfl rfl rfl rfl (Sp.refl _) (fun _ h => h.elim) (fun w' hs => of_ca w' a nb cb) ?_
  rintro b1 _ rfl
  dsimp only [List.cons_append, List.nil_append]
  refine ql_call (β := Value × Value × Lb × List Int) (ψ := fun y v => v = .tuple #[.agg (lbC y.2.2.1 y.1).toArray, y.2.1] ∧ MadeL 7 14 y.2.2.1 y.2.2.2) (L' := fun y => [.ow y.1 33 3 y.2.2.1.runs.length (rnC y.2.2.1.runs), .ow y.2.1 3 1 y.2.2.2.length (ints y.2.2.2), dkP (.slice a nb cb) b1 (0 + 100)]) tabOk [dkP (.slice a nb cb) b1 0] _ (fun x => x = b1) rfl rfl rfl rfl (Sp.cons (by repeat constructor) (Sp.refl _)) (fun x hx => ⟨_, .head _, hx⟩) (fun w' hs => madeK (most := 7) (runs := 14) hbyb1 hs (by omega) (by omega) (by omega) (by omega)) ?_
  rintro ⟨v, rv, ⟨ls, err, runs⟩, real⟩ _ ⟨rfl, hm⟩
  dsimp only [List.cons_append, List.nil_append, lbC] at hm ⊢
  have hok := hm.ok
  have hs2 : 2 ≤ ls := hm.s2
  have hsm : ls ≤ 7 := hm.sm
  have he0 : 0 ≤ err := hok.e0
  have he12 : err ≤ 11 := hm.e12
  have hlen : runs.length ≤ 14 := hm.len
  obtain ⟨sk, rfl⟩ := Int.eq_ofNat_of_zero_le (show 0 ≤ ls by omega)
  have hln : (⟨(sk : Int), err, runs⟩ : Lb).n = sk := by unfold Lb.n; simp
  have hNC := true_noC hok hm.tr
  refine ql_fact (fun w hs => hs.slice2 (v := v) (by repeat constructor)) ?_
  rintro ⟨va, vc, rfl⟩
  refine ql_fact (fun w hs => hs.slice2 (v := rv) (by repeat constructor)) ?_
  rintro ⟨rg, rc, rfl⟩
  (refine ql_pure tabOk rfl rfl (ql_ext tabOk rfl rfl rfl (ql_ext tabOk rfl rfl rfl ?_)))
  refine ql_alloc zero25 rfl (fun b7 => ?_)
  have e1 : IntKind.i64.wrap a1 = a1 := w64 (by omega) (by omega)
  have e2 : IntKind.i64.wrap a2 = a2 := w64 (by omega) (by omega)
  obtain ⟨x, hx, hx2⟩ := mod_natK ha1.1 (show 0 < sk by omega)
  obtain ⟨y, hy, hy2⟩ := mod_natK ha2.1 (show 0 < sk by omega)
  generalize hL : (⟨(sk : Int), err, runs⟩ : Lb) = l at hm hok hln hNC
  have hls : l.skis = (sk : Int) := by rw [← hL]
  have hle : l.err = err := by rw [← hL]
  have hlr : l.runs = runs := by rw [← hL]
  (refine ql_setA tabOk rfl rfl rfl rfl rfl (by repeat constructor) rfl ?_; refine ql_pure tabOk rfl rfl (q_nil (q_seq ?_)))
  refine q_conv (H' := [.pt b7 (lbC l (.slice va l.runs.length vc)) 25, un (labOs 33 [(l, va, vc)])]) (fun w' hs => by
    subst hL
    exact ((labOs_one (m := ((⟨(sk : Int), err, runs⟩ : Lb), va, vc)) (R := [.pt b7 (lbC (⟨(sk : Int), err, runs⟩ : Lb) (.slice va runs.length vc)) 25]) (hs.sp (by repeat constructor))).sp (by repeat constructor))) ?_
  skip
  refine q_draw _ [] (Sp.refl _) (by kernel_rfl) (by kernel_rfl) ?_
  have q1 : 0 ≤ IntKind.i64.wrap a1 % l.skis ∧ IntKind.i64.wrap a1 % l.skis < sk := by rw [e1, hls, hx]; omega
  have q2 : 0 ≤ IntKind.i64.wrap a2 % l.skis ∧ IntKind.i64.wrap a2 % l.skis < sk := by rw [e2, hls, hy]; omega
  ((iterate 3 refine qf_pure tabOk rfl rfl rfl ?_); refine qf_loadBa tabOk rfl rfl rfl ?_; refine qf_remN rfl rfl rfl (by omega) (by omega) ?_; (iterate 3 refine qf_pure tabOk rfl rfl rfl ?_); refine qf_loadBa tabOk rfl rfl rfl ?_; refine qf_remN rfl rfl rfl (by omega) (by omega) (qf_pure tabOk rfl rfl rfl (qf_pure tabOk rfl rfl rfl (qf_nil (q_seq (q_region ?_))))); refine ql_loadABa tabOk rfl rfl rfl ?_)
  rw [e1, hls, hx, e2, hy]
  refine ql_call (β := Value) tabOk [] _ M0 rfl rfl rfl rfl (Sp.refl _) (fun _ h => h.elim) (fun w' hs => faster_ok w' 0 w'.heap.size l (.slice va l.runs.length vc) (lab_in hs (m := (l, va, vc)) (by repeat constructor) (by simp)) hok hNC) ?_
  rintro v11 _ rfl
  dsimp only [List.cons_append, List.nil_append]
  refine ql_fact (fun w hs => hs.slice2 (v := v11) (by repeat constructor)) ?_
  rintro ⟨a11, c11, rfl⟩
  (refine ql_pure tabOk rfl rfl (ql_ext tabOk rfl rfl rfl (ql_ext tabOk rfl rfl rfl (ql_pure tabOk rfl rfl (ql_pure tabOk rfl rfl (q_nil (q_seq (q_region ?_))))))); refine ql_loadABa tabOk rfl rfl rfl ?_)
  refine ql_call (β := Value) tabOk [] _ M0 rfl rfl rfl rfl (Sp.refl _) (fun _ h => h.elim) (fun w' hs => places_ok w' 0 w'.heap.size l (.slice va l.runs.length vc) (lab_in hs (m := (l, va, vc)) (by repeat constructor) (by simp)) hok hNC) ?_
  rintro v13 _ rfl
  dsimp only [List.cons_append, List.nil_append]
  rw [hln]
  refine ql_fact (fun w hs => hs.ownSome (v := v13) (by repeat constructor) (by omega)) ?_
  rintro ⟨g13, c13, rfl⟩
  have hpos := full_pos hNC hok.o hok.n8
  rw [hln] at hpos hNC
  obtain ⟨N, hN⟩ : ∃ N : Nat, N = cnt l.ord sk (2 ^ sk - 1) := ⟨_, rfl⟩
  (refine ql_pure tabOk rfl rfl (ql_ext tabOk rfl rfl rfl (ql_ext tabOk rfl rfl rfl (ql_pure tabOk rfl rfl (ql_pure tabOk rfl rfl (q_nil (q_seq (q_region ?_))))))); refine ql_loadABa tabOk rfl rfl rfl ?_)
  refine ql_callv (val := .tuple #[.int .i64 N, .int .i64 0]) tabOk rfl rfl rfl rfl (fun w hs => ?_) ?_; exact by have := orders_ok w 0 w.heap.size l _ (lab_in hs (m := (l, va, vc)) (by repeat constructor) (by simp)) hok (by rw [hln]; exact hNC); rw [hln, ← hN] at this; exact this
  rw [← hN] at hpos
  have hfl : (fasL l.ord sk).length ≤ 1000000 := by
    have h8 : sk * sk ≤ 8 * 8 := Nat.mul_le_mul (by omega) (by omega)
    have := fasI_len (o := l.ord) (n := sk) sk 0 (by omega)
    rw [fasI_all] at this
    omega
  (refine ql_pure tabOk rfl rfl (ql_ext tabOk rfl rfl rfl (ql_ext tabOk rfl rfl rfl (ql_pure tabOk rfl rfl (ql_pure tabOk rfl rfl (q_nil (q_seq (q_seq (q_region (ql_pure tabOk rfl rfl (ql_neqF tabOk rfl rfl rfl (by omega) (ql_pure tabOk rfl rfl ?_))))))))))); refine ql_gyes rfl (ql_pure tabOk rfl rfl (ql_gyes rfl (ql_neqF tabOk rfl rfl rfl (by omega) (ql_pure tabOk rfl rfl (ql_pure tabOk rfl rfl (ql_gyes rfl (ql_pure tabOk rfl rfl (ql_gyes rfl (ql_neqF tabOk rfl rfl rfl (by omega) (ql_pure tabOk rfl rfl (ql_pure tabOk rfl rfl ?_))))))))))); refine ql_gyes rfl (ql_pure tabOk rfl rfl (ql_gyes rfl (ql_pure tabOk rfl rfl (ql_gyes rfl (ql_pure tabOk rfl rfl (ql_gyes rfl ?_)))))); refine ql_loadBa tabOk rfl rfl rfl ?_; refine ql_gyes rfl (ql_neqF tabOk rfl rfl rfl (by omega) (ql_pure tabOk rfl rfl (ql_pure tabOk rfl rfl (ql_gyes rfl (ql_pure tabOk rfl rfl (ql_gyes rfl (ql_lssF tabOk rfl rfl rfl (by omega) (ql_pure tabOk rfl rfl (q_nil (q_cond_false rfl (q_skip ?_))))))))))); refine q_seq ?_)
  refine q_cut (σ := Nat × Nat) (fun z => [(7, .pointer (some ⟨b7, 0, none⟩)), (9, .int .i64 x), (10, .int .i64 y), (11, .slice a11 (fasL l.ord sk).length c11), (13, .slice (some ⟨g13, 0, none⟩) sk c13), (15, .int .i64 N), (17, .pointer (some ⟨z.1, 0, none⟩)), (18, .pointer (some ⟨z.2, 0, none⟩))]) (fun z => [.pt z.1 (lbC l (.slice va l.runs.length vc)) 25, .pt z.2 (lbC l (.slice va l.runs.length vc)) 25, un (labOs 33 [(l, va, vc)]), .ow (.slice (some ⟨g13, 0, none⟩) sk c13) 45 2 sk (spC (plC l l.ord sk)), .ow (.slice a11 (fasL l.ord sk).length c11) 63 2 (fasL l.ord sk).length (spC (fasL l.ord sk)), .pt b7 (lbC l (.slice va l.runs.length vc)) 25]) ?_ ?_
  rotate_left
  · intro K2 hK2
    refine q_drawT (tL3_aa33ace) _ [] (Sp.refl _) (by kernel_rfl) (by kernel_rfl) ?_
    refine qt_alt ?_ ?_
    · skip
      refine qt_seg (by repeat (first | exact PickL.nil | (apply PickL.cons; rfl))) fun K1 hK1 => ?_
      skip
      refine qf_alloc zero25 rfl (fun b17 => ?_)
      skip
      refine qf_alloc zero25 rfl (fun b18 => ?_)
      (refine qf_loadABa tabOk rfl rfl rfl ?_; refine qf_setA tabOk rfl rfl rfl rfl rfl (by repeat constructor) rfl ?_; refine qf_loadABa tabOk rfl rfl rfl ?_; refine qf_setA tabOk rfl rfl rfl rfl rfl (by repeat constructor) rfl ?_; refine qf_nil ?_)
      skip
      skip
      exact hK1 _ _ (qt_nil (hK2 (b17, b18) _ _ ⟨rfl, rfl, rfl, rfl, rfl, rfl, rfl, rfl, trivial⟩ (by repeat constructor)))
    · skip
      refine qt_seg (by repeat (first | exact PickL.nil | (apply PickL.cons; rfl))) fun K1 hK1 => ?_
      skip
      refine qf_alloc zero25 rfl (fun b18 => ?_)
      skip
      refine qf_alloc zero25 rfl (fun b17 => ?_)
      (refine qf_loadABa tabOk rfl rfl rfl ?_; refine qf_setA tabOk rfl rfl rfl rfl rfl (by repeat constructor) rfl ?_; refine qf_loadABa tabOk rfl rfl rfl ?_; refine qf_setA tabOk rfl rfl rfl rfl rfl (by repeat constructor) rfl ?_; refine qf_nil ?_)
      skip
      skip
      exact hK1 _ _ (qt_nil (hK2 (b17, b18) _ _ ⟨rfl, rfl, rfl, rfl, rfl, rfl, rfl, rfl, trivial⟩ (by repeat constructor)))
  rintro ⟨b17, b18⟩
  dsimp only
  (refine q_seq (q_seq (q_region (ql_pure tabOk rfl rfl ?_))); refine ql_loadBa tabOk rfl rfl rfl ?_; refine ql_pure tabOk rfl rfl (q_nil (q_block ?_)))
  rw [hls]
  refine q_loop (σ := Nat × List LbM × LbM × LbM) (fun s => s.1 ≤ sk ∧ (l, va, vc) ∈ s.2.1 ∧ (s.2.2.1 ∈ s.2.1 ∧ s.2.2.1.1 = earL l x s.1) ∧ s.2.2.2 ∈ s.2.1 ∧ s.2.2.2.1 = latL l x s.1) (fun s => sk - s.1) (fun s => [(7, .pointer (some ⟨b7, 0, none⟩)), (9, .int .i64 x), (10, .int .i64 y), (11, .slice a11 (fasL l.ord sk).length c11), (13, .slice (some ⟨g13, 0, none⟩) sk c13), (15, .int .i64 N), (17, .pointer (some ⟨b17, 0, none⟩)), (18, .pointer (some ⟨b18, 0, none⟩)), (79, .int .i64 sk), (80, .int .i64 s.1)]) (fun s => [.pt b17 (lbC s.2.2.1.1 (slV s.2.2.1)) 25, .pt b18 (lbC s.2.2.2.1 (slV s.2.2.2)) 25, un (labOs 33 s.2.1), .ow (.slice (some ⟨g13, 0, none⟩) sk c13) 45 2 sk (spC (plC l l.ord sk)), .ow (.slice a11 (fasL l.ord sk).length c11) 63 2 (fasL l.ord sk).length (spC (fasL l.ord sk)), .pt b7 (lbC l (.slice va l.runs.length vc)) 25]) (0, [(l, va, vc)], (l, va, vc), (l, va, vc)) ⟨by simp, by simp, ⟨by simp, rfl⟩, by simp, rfl⟩ ⟨rfl, rfl, rfl, rfl, rfl, rfl, rfl, rfl, rfl, rfl, trivial⟩ (by repeat constructor) ?_
  rintro ⟨k, M, m1, m2⟩ ⟨hk, hMl, ⟨hm1, he1'⟩, hm2, he2'⟩ K hK
  dsimp only at hk hMl hm1 he1' hm2 he2' ⊢
  (refine q_seq (q_region (ql_pure tabOk rfl rfl (q_nil (q_seq ?_)))))
  refine q_if rfl (fun hc => ?_) (fun hc => ?_)
  · have hk2 : k < sk := by omega
    clear hc
    have hmo1 := ear_more hok (x := x) (by omega) k (by omega) (by rw [hlr]; omega)
    have hmo2 := lat_more hok (x := x) (by omega) k (by omega) (by rw [hlr]; omega)
    rw [← he1'] at hmo1
    rw [← he2'] at hmo2
    have hl1 := hmo1.len
    have hl2 := hmo2.len
    rw [hlr] at hl1 hl2
    have hr1 := hmo1.err
    have hr2 := hmo2.err
    by_cases hkx : k = x
    · have ee : earL l x (k + 1) = earL l x k := by rw [earL, if_pos (.inl hkx)]
      have el : latL l x (k + 1) = latL l x k := by rw [latL, if_pos (.inl hkx)]
      (refine q_skip (q_seq (q_block (q_seq (q_region (ql_pure tabOk rfl rfl (ql_pure tabOk rfl rfl (q_nil (q_seq (q_seq (q_region (ql_pure tabOk rfl rfl ?_))))))))))); refine ql_pure tabOk rfl rfl (ql_eqlT tabOk rfl rfl rfl (by omega) (q_nil (q_cond_true rfl (q_exit _ rfl (q_region (ql_ar tabOk rfl rfl rfl rfl (by omega) (by omega) (ql_pure tabOk rfl rfl (q_nil ?_)))))))))
      exact hK (k + 1, M, m1, m2) _ _ ⟨by simp only; omega, hMl, ⟨hm1, by rw [ee]; exact he1'⟩, hm2, by rw [el]; exact he2'⟩ (by simp only; omega) ⟨rfl, rfl, rfl, rfl, rfl, rfl, rfl, rfl, rfl, rfl, trivial⟩ (by repeat constructor)
    · (refine q_skip (q_seq (q_block (q_seq (q_region (ql_pure tabOk rfl rfl (ql_pure tabOk rfl rfl (q_nil (q_seq (q_seq (q_region (ql_pure tabOk rfl rfl ?_))))))))))); refine ql_pure tabOk rfl rfl (ql_eqlF tabOk rfl rfl rfl (by omega) (q_nil (q_cond_false rfl (q_skip (q_seq (q_seq (q_region ?_))))))); (iterate 3 refine ql_pure tabOk rfl rfl ?_))
      refine ql_mk #[.int .i64 k, .int .i64 x] rfl (by kernel_rfl) rfl ?_
      skip
      refine ql_callv (val := .bool (fa l.ord k x)) tabOk rfl rfl rfl rfl (fun w hs => ?_) ?_; exact by have := containsP_ca w 0 w.heap.size (.slice a11 (fasL l.ord sk).length c11) (fasL l.ord sk) k x (own_rdS (t := 63) (hs.mem (c := .ow (.slice a11 (fasL l.ord sk).length c11) 63 2 (fasL l.ord sk).length (spC (fasL l.ord sk))) (by repeat constructor)) rfl) hfl; rw [cont_fa hk2 hx2] at this; exact this
      cases hf1 : fa l.ord k x with
      | true =>
        have ee : earL l x (k + 1) = earL l x k := by rw [earL, if_pos (.inr hf1)]
        have he1n : m1.1 = earL l x (k + 1) := by rw [ee]; exact he1'
        (refine ql_pure tabOk rfl rfl (q_nil (q_cond_false rfl (q_skip (q_seq (q_region ?_))))); (iterate 3 refine ql_pure tabOk rfl rfl ?_))
        refine ql_mk #[.int .i64 x, .int .i64 k] rfl (by kernel_rfl) rfl ?_
        skip
        refine ql_callv (val := .bool (fa l.ord x k)) tabOk rfl rfl rfl rfl (fun w hs => ?_) ?_; exact by have := containsP_ca w 0 w.heap.size (.slice a11 (fasL l.ord sk).length c11) (fasL l.ord sk) x k (own_rdS (t := 63) (hs.mem (c := .ow (.slice a11 (fasL l.ord sk).length c11) 63 2 (fasL l.ord sk).length (spC (fasL l.ord sk))) (by repeat constructor)) rfl) hfl; rw [cont_fa hx2 hk2] at this; exact this
        cases hf2 : fa l.ord x k with
        | true =>
          have el : latL l x (k + 1) = latL l x k := by rw [latL, if_pos (.inr hf2)]
          (refine ql_pure tabOk rfl rfl (q_nil (q_cond_false rfl (q_skip (q_blk (q_region (ql_ar tabOk rfl rfl rfl rfl (by omega) (by omega) (ql_pure tabOk rfl rfl (q_nil ?_)))))))))
          exact hK (k + 1, M, m1, m2) _ _ ⟨by simp only; omega, hMl, ⟨hm1, he1n⟩, hm2, by rw [el]; exact he2'⟩ (by simp only; omega) ⟨rfl, rfl, rfl, rfl, rfl, rfl, rfl, rfl, rfl, rfl, trivial⟩ (by repeat constructor)
        | false =>
          have el : latL l x (k + 1) = (latL l x k).add ⟨k, x, (latL l x k).err + 1⟩ := by rw [latL, if_neg (fun h => h.elim hkx (fun h => by rw [hf2] at h; cases h))]
          rw [← he2'] at el
          (refine ql_pure tabOk rfl rfl (q_nil (q_cond_true rfl (q_region ?_))); refine ql_loadABa tabOk rfl rfl rfl ?_; refine ql_pure tabOk rfl rfl (ql_pure tabOk rfl rfl ?_))
          refine ql_call (β := Value) tabOk [] _ M0 rfl rfl rfl rfl (Sp.refl _) (fun _ h => h.elim) (fun w' hs => further_ca w' 0 w'.heap.size m2.1 (slV m2) k x (lab_in hs (by repeat constructor) hm2) (by omega) (by omega)) ?_
          rintro u _ rfl
          dsimp only [List.cons_append, List.nil_append]
          refine ql_fact (fun w hs => hs.slice2 (v := u) (by repeat constructor)) ?_
          rintro ⟨pu, qu, rfl⟩
          (refine ql_setA tabOk rfl rfl rfl rfl rfl (by repeat constructor) rfl ?_; refine q_nil (q_blk (q_region (ql_ar tabOk rfl rfl rfl rfl (by omega) (by omega) (ql_pure tabOk rfl rfl (q_nil ?_))))))
          refine q_conv (H' := [.pt b17 (lbC m1.1 (slV m1)) 25, .pt b18 (lbC (m2.1.add ⟨k, x, m2.1.err + 1⟩, pu, qu).1 (slV (m2.1.add ⟨k, x, m2.1.err + 1⟩, pu, qu))) 25, un (labOs 33 (M ++ [(m2.1.add ⟨k, x, m2.1.err + 1⟩, pu, qu)])), .ow (.slice (some ⟨g13, 0, none⟩) sk c13) 45 2 sk (spC (plC l l.ord sk)), .ow (.slice a11 (fasL l.ord sk).length c11) 63 2 (fasL l.ord sk).length (spC (fasL l.ord sk)), .pt b7 (lbC l (.slice va l.runs.length vc)) 25]) (fun w' hs => (labOs_add (m := (m2.1.add ⟨k, x, m2.1.err + 1⟩, pu, qu)) (M := M) (R := [.pt b17 (lbC m1.1 (slV m1)) 25, .pt b18 (lbC (m2.1.add ⟨k, x, m2.1.err + 1⟩, pu, qu).1 (slV (m2.1.add ⟨k, x, m2.1.err + 1⟩, pu, qu))) 25, .ow (.slice (some ⟨g13, 0, none⟩) sk c13) 45 2 sk (spC (plC l l.ord sk)), .ow (.slice a11 (fasL l.ord sk).length c11) 63 2 (fasL l.ord sk).length (spC (fasL l.ord sk)), .pt b7 (lbC l (.slice va l.runs.length vc)) 25]) (hs.sp (by repeat constructor))).sp (by repeat constructor)) ?_
          exact hK (k + 1, M ++ [(m2.1.add ⟨k, x, m2.1.err + 1⟩, pu, qu)], m1, (m2.1.add ⟨k, x, m2.1.err + 1⟩, pu, qu)) _ _ ⟨by simp only; omega, List.mem_append_left _ (hMl), ⟨List.mem_append_left _ (hm1), he1n⟩, by simp, by rw [el]⟩ (by simp only; omega) ⟨rfl, rfl, rfl, rfl, rfl, rfl, rfl, rfl, rfl, rfl, trivial⟩ (by repeat constructor)
      | false =>
        have ee : earL l x (k + 1) = (earL l x k).add ⟨x, k, (earL l x k).err + 1⟩ := by rw [earL, if_neg (fun h => h.elim hkx (fun h => by rw [hf1] at h; cases h))]
        rw [← he1'] at ee
        (refine ql_pure tabOk rfl rfl (q_nil (q_cond_true rfl (q_region ?_))); refine ql_loadABa tabOk rfl rfl rfl ?_; refine ql_pure tabOk rfl rfl (ql_pure tabOk rfl rfl ?_))
        refine ql_call (β := Value) tabOk [] _ M0 rfl rfl rfl rfl (Sp.refl _) (fun _ h => h.elim) (fun w' hs => further_ca w' 0 w'.heap.size m1.1 (slV m1) x k (lab_in hs (by repeat constructor) hm1) (by omega) (by omega)) ?_
        rintro u _ rfl
        dsimp only [List.cons_append, List.nil_append]
        refine ql_fact (fun w hs => hs.slice2 (v := u) (by repeat constructor)) ?_
        rintro ⟨pa, qa, rfl⟩
        (refine ql_setA tabOk rfl rfl rfl rfl rfl (by repeat constructor) rfl ?_; refine q_nil (q_seq (q_region ?_)); (iterate 3 refine ql_pure tabOk rfl rfl ?_))
        refine ql_conv (H' := [.pt b17 (lbC (m1.1.add ⟨x, k, m1.1.err + 1⟩, pa, qa).1 (slV (m1.1.add ⟨x, k, m1.1.err + 1⟩, pa, qa))) 25, .pt b18 (lbC m2.1 (slV m2)) 25, un (labOs 33 (M ++ [(m1.1.add ⟨x, k, m1.1.err + 1⟩, pa, qa)])), .ow (.slice (some ⟨g13, 0, none⟩) sk c13) 45 2 sk (spC (plC l l.ord sk)), .ow (.slice a11 (fasL l.ord sk).length c11) 63 2 (fasL l.ord sk).length (spC (fasL l.ord sk)), .pt b7 (lbC l (.slice va l.runs.length vc)) 25]) (fun w' hs => (labOs_add (m := (m1.1.add ⟨x, k, m1.1.err + 1⟩, pa, qa)) (M := M) (R := [.pt b17 (lbC (m1.1.add ⟨x, k, m1.1.err + 1⟩, pa, qa).1 (slV (m1.1.add ⟨x, k, m1.1.err + 1⟩, pa, qa))) 25, .pt b18 (lbC m2.1 (slV m2)) 25, .ow (.slice (some ⟨g13, 0, none⟩) sk c13) 45 2 sk (spC (plC l l.ord sk)), .ow (.slice a11 (fasL l.ord sk).length c11) 63 2 (fasL l.ord sk).length (spC (fasL l.ord sk)), .pt b7 (lbC l (.slice va l.runs.length vc)) 25]) (hs.sp (by repeat constructor))).sp (by repeat constructor)) ?_
        have he1n : (m1.1.add ⟨x, k, m1.1.err + 1⟩, pa, qa).1 = earL l x (k + 1) := ee.symm
        skip
        refine ql_mk #[.int .i64 x, .int .i64 k] rfl (by kernel_rfl) rfl ?_
        skip
        refine ql_callv (val := .bool (fa l.ord x k)) tabOk rfl rfl rfl rfl (fun w hs => ?_) ?_; exact by have := containsP_ca w 0 w.heap.size (.slice a11 (fasL l.ord sk).length c11) (fasL l.ord sk) x k (own_rdS (t := 63) (hs.mem (c := .ow (.slice a11 (fasL l.ord sk).length c11) 63 2 (fasL l.ord sk).length (spC (fasL l.ord sk))) (by repeat constructor)) rfl) hfl; rw [cont_fa hx2 hk2] at this; exact this
        cases hf2 : fa l.ord x k with
        | true =>
          have el : latL l x (k + 1) = latL l x k := by rw [latL, if_pos (.inr hf2)]
          (refine ql_pure tabOk rfl rfl (q_nil (q_cond_false rfl (q_skip (q_blk (q_region (ql_ar tabOk rfl rfl rfl rfl (by omega) (by omega) (ql_pure tabOk rfl rfl (q_nil ?_)))))))))
          exact hK (k + 1, (M ++ [(m1.1.add ⟨x, k, m1.1.err + 1⟩, pa, qa)]), (m1.1.add ⟨x, k, m1.1.err + 1⟩, pa, qa), m2) _ _ ⟨by simp only; omega, List.mem_append_left _ hMl, ⟨(by simp), he1n⟩, (List.mem_append_left _ hm2), by rw [el]; exact he2'⟩ (by simp only; omega) ⟨rfl, rfl, rfl, rfl, rfl, rfl, rfl, rfl, rfl, rfl, trivial⟩ (by repeat constructor)
        | false =>
          have el : latL l x (k + 1) = (latL l x k).add ⟨k, x, (latL l x k).err + 1⟩ := by rw [latL, if_neg (fun h => h.elim hkx (fun h => by rw [hf2] at h; cases h))]
          rw [← he2'] at el
          (refine ql_pure tabOk rfl rfl (q_nil (q_cond_true rfl (q_region ?_))); refine ql_loadABa tabOk rfl rfl rfl ?_; refine ql_pure tabOk rfl rfl (ql_pure tabOk rfl rfl ?_))
          refine ql_call (β := Value) tabOk [] _ M0 rfl rfl rfl rfl (Sp.refl _) (fun _ h => h.elim) (fun w' hs => further_ca w' 0 w'.heap.size m2.1 (slV m2) k x (lab_in hs (by repeat constructor) (List.mem_append_left _ hm2)) (by omega) (by omega)) ?_
          rintro u _ rfl
          dsimp only [List.cons_append, List.nil_append]
          refine ql_fact (fun w hs => hs.slice2 (v := u) (by repeat constructor)) ?_
          rintro ⟨pu, qu, rfl⟩
          (refine ql_setA tabOk rfl rfl rfl rfl rfl (by repeat constructor) rfl ?_; refine q_nil (q_blk (q_region (ql_ar tabOk rfl rfl rfl rfl (by omega) (by omega) (ql_pure tabOk rfl rfl (q_nil ?_))))))
          refine q_conv (H' := [.pt b17 (lbC (m1.1.add ⟨x, k, m1.1.err + 1⟩, pa, qa).1 (slV (m1.1.add ⟨x, k, m1.1.err + 1⟩, pa, qa))) 25, .pt b18 (lbC (m2.1.add ⟨k, x, m2.1.err + 1⟩, pu, qu).1 (slV (m2.1.add ⟨k, x, m2.1.err + 1⟩, pu, qu))) 25, un (labOs 33 ((M ++ [(m1.1.add ⟨x, k, m1.1.err + 1⟩, pa, qa)]) ++ [(m2.1.add ⟨k, x, m2.1.err + 1⟩, pu, qu)])), .ow (.slice (some ⟨g13, 0, none⟩) sk c13) 45 2 sk (spC (plC l l.ord sk)), .ow (.slice a11 (fasL l.ord sk).length c11) 63 2 (fasL l.ord sk).length (spC (fasL l.ord sk)), .pt b7 (lbC l (.slice va l.runs.length vc)) 25]) (fun w' hs => (labOs_add (m := (m2.1.add ⟨k, x, m2.1.err + 1⟩, pu, qu)) (M := (M ++ [(m1.1.add ⟨x, k, m1.1.err + 1⟩, pa, qa)])) (R := [.pt b17 (lbC (m1.1.add ⟨x, k, m1.1.err + 1⟩, pa, qa).1 (slV (m1.1.add ⟨x, k, m1.1.err + 1⟩, pa, qa))) 25, .pt b18 (lbC (m2.1.add ⟨k, x, m2.1.err + 1⟩, pu, qu).1 (slV (m2.1.add ⟨k, x, m2.1.err + 1⟩, pu, qu))) 25, .ow (.slice (some ⟨g13, 0, none⟩) sk c13) 45 2 sk (spC (plC l l.ord sk)), .ow (.slice a11 (fasL l.ord sk).length c11) 63 2 (fasL l.ord sk).length (spC (fasL l.ord sk)), .pt b7 (lbC l (.slice va l.runs.length vc)) 25]) (hs.sp (by repeat constructor))).sp (by repeat constructor)) ?_
          exact hK (k + 1, (M ++ [(m1.1.add ⟨x, k, m1.1.err + 1⟩, pa, qa)]) ++ [(m2.1.add ⟨k, x, m2.1.err + 1⟩, pu, qu)], (m1.1.add ⟨x, k, m1.1.err + 1⟩, pa, qa), (m2.1.add ⟨k, x, m2.1.err + 1⟩, pu, qu)) _ _ ⟨by simp only; omega, List.mem_append_left _ (List.mem_append_left _ hMl), ⟨List.mem_append_left _ ((by simp)), he1n⟩, by simp, by rw [el]⟩ (by simp only; omega) ⟨rfl, rfl, rfl, rfl, rfl, rfl, rfl, rfl, rfl, rfl, trivial⟩ (by repeat constructor)
  · obtain rfl : sk = k := by omega
    clear hc hK hk
    have hxl : x < l.n := by omega
    have h40 : l.runs.length + l.n ≤ 40 := by rw [hlr]; omega
    have hE := ear_more hok (x := x) hxl sk (by omega) (by rw [hlr]; omega)
    have hF := lat_more hok (x := x) hxl sk (by omega) (by rw [hlr]; omega)
    have hEs := ear_says hok (x := x) (by rw [hln]; exact hNC) hxl h40
    have hFs := lat_says hok (x := x) (by rw [hln]; exact hNC) hxl h40
    rw [hln, ← he1'] at hEs
    rw [hln, ← he2'] at hFs
    rw [← he1'] at hE
    rw [← he2'] at hF
    obtain ⟨hE1, hE2, hE3⟩ := hEs
    obtain ⟨hF1, hF2, hF3⟩ := hFs
    have hEn : m1.1.n = sk := by rw [hE.n, hln]
    have hFn : m2.1.n = sk := by rw [hF.n, hln]
    have hEk : m1.1.skis = sk := by rw [hE.sk, hls]
    have hFk : m2.1.skis = sk := by rw [hF.sk, hls]
    have hEo := hE.ok
    have hFo := hF.ok
    clear hE hF he1' he2'
    (refine q_exit _ rfl (q_seq (q_region ?_)); refine ql_loadABa tabOk rfl rfl rfl ?_)
    refine ql_call (β := Value) tabOk [] _ M0 rfl rfl rfl rfl (Sp.refl _) (fun _ h => h.elim) (fun w' hs => places_ok w' 0 w'.heap.size m1.1 (slV m1) (lab_in hs (by repeat constructor) hm1) hEo (by rw [hEn]; exact hE1)) ?_
    rintro v20 _ rfl
    dsimp only [List.cons_append, List.nil_append]
    rw [hEn]
    refine ql_fact (fun w hs => hs.ownSome (v := v20) (by repeat constructor) (by omega)) ?_
    rintro ⟨g20, c20, rfl⟩
    (refine ql_pure tabOk rfl rfl (ql_ext tabOk rfl rfl rfl (ql_ext tabOk rfl rfl rfl (ql_pure tabOk rfl rfl (ql_pure tabOk rfl rfl (q_nil (q_seq (q_region ?_))))))); refine ql_loadABa tabOk rfl rfl rfl ?_)
    refine ql_call (β := Value) tabOk [] _ M0 rfl rfl rfl rfl (Sp.refl _) (fun _ h => h.elim) (fun w' hs => places_ok w' 0 w'.heap.size m2.1 (slV m2) (lab_in hs (by repeat constructor) hm2) hFo (by rw [hFn]; exact hF1)) ?_
    rintro v21 _ rfl
    dsimp only [List.cons_append, List.nil_append]
    rw [hFn]
    refine ql_fact (fun w hs => hs.ownSome (v := v21) (by repeat constructor) (by omega)) ?_
    rintro ⟨g21, c21, rfl⟩
    obtain ⟨z1, z2, hP0, hP1, hP2⟩ : ∃ z1 z2 : Int, (∃ h, (plC l l.ord sk)[x]'h = (z1, z2)) ∧ (∃ h, (plC m1.1 m1.1.ord sk)[x]'h = (z1, z1)) ∧ (∃ h, (plC m2.1 m2.1.ord sk)[x]'h = (z2, z2)) := by
      have g0 := plC_get l l.ord (k := sk) hx2
      have g1 := plC_get m1.1 m1.1.ord (k := sk) hx2
      have g2 := plC_get m2.1 m2.1.ord (k := sk) hx2
      rw [hln, hls] at g0
      rw [hEn, hEk, hE2] at g1
      rw [hFn, hFk, hF2] at g2
      obtain ⟨h0, g0⟩ := List.getElem?_eq_some_iff.1 g0
      obtain ⟨h1, g1⟩ := List.getElem?_eq_some_iff.1 g1
      obtain ⟨h2, g2⟩ := List.getElem?_eq_some_iff.1 g2
      refine ⟨_, _, ⟨h0, g0⟩, ⟨h1, g1.trans ?_⟩, ⟨h2, g2.trans ?_⟩⟩
      · exact Prod.ext rfl (by simp only; omega)
      · exact Prod.ext (by simp only; omega) rfl
    obtain ⟨h0, hP0⟩ := hP0
    obtain ⟨h1, hP1⟩ := hP1
    obtain ⟨h2, hP2⟩ := hP2
    have l0 : sk = (plC l l.ord sk).length := (plC_len _ _ _).symm
    have l1 : sk = (plC m1.1 m1.1.ord sk).length := (plC_len _ _ _).symm
    have l2 : sk = (plC m2.1 m2.1.ord sk).length := (plC_len _ _ _).symm
    generalize hQ0 : plC l l.ord sk = Q0 at *
    generalize hQ1 : plC m1.1 m1.1.ord sk = Q1 at *
    generalize hQ2 : plC m2.1 m2.1.ord sk = Q2 at *
    clear hQ0 hQ1 hQ2
    (refine ql_pure tabOk rfl rfl (ql_ext tabOk rfl rfl rfl (ql_ext tabOk rfl rfl rfl (ql_pure tabOk rfl rfl (ql_pure tabOk rfl rfl (q_nil (q_seq (q_seq ?_))))))))
    refine q_draw _ [] (Sp.refl _) (by kernel_rfl) (by kernel_rfl) ?_
    (refine qf_pure tabOk rfl rfl rfl (qf_neqF tabOk rfl rfl rfl (by omega) (qf_pure tabOk rfl rfl rfl (qf_gyes rfl (qf_pure tabOk rfl rfl rfl (qf_gyes rfl (qf_neqF tabOk rfl rfl rfl (by omega) (qf_pure tabOk rfl rfl rfl (qf_pure tabOk rfl rfl rfl (qf_gyes rfl (qf_pure tabOk rfl rfl rfl (qf_gyes rfl ?_))))))))))); refine qf_pure tabOk rfl rfl rfl (qf_gyes rfl (qf_pure tabOk rfl rfl rfl (qf_gyes rfl ?_))); refine qf_loadBa tabOk rfl rfl rfl ?_; refine qf_gyes rfl (qf_neqF tabOk rfl rfl rfl (by omega) (qf_pure tabOk rfl rfl rfl (qf_pure tabOk rfl rfl rfl (qf_gyes rfl (qf_pure tabOk rfl rfl rfl (qf_gyes rfl (qf_pure tabOk rfl rfl rfl (qf_gyes rfl (qf_pure tabOk rfl rfl rfl (qf_gyes rfl ?_)))))))))); refine qf_loadBa tabOk rfl rfl rfl ?_; refine qf_gyes rfl (qf_neqF tabOk rfl rfl rfl (by omega) (qf_pure tabOk rfl rfl rfl (qf_pure tabOk rfl rfl rfl (qf_gyes rfl (qf_pure tabOk rfl rfl rfl (qf_gyes rfl (qf_pure tabOk rfl rfl rfl (qf_gyes rfl ?_)))))))))
    rw [hls]
    skip
    refine qf_index tabOk rfl rfl rfl rfl rfl (by omega) (by omega) ?_
    (refine qf_gyes rfl ?_)
    refine qf_loadA (cs := [.int .i64 z1, .int .i64 z1]) tabOk rfl rfl rfl rfl (fun w hs q hq => sp_at hs (t := 45) (L := Q1) (by repeat constructor) l1 h1 hP1 q hq) ?_
    (refine qf_gyes rfl (qf_pure tabOk rfl rfl rfl (qf_gyes rfl (qf_pure tabOk rfl rfl rfl (qf_gyes rfl ?_)))))
    refine qf_index tabOk rfl rfl rfl rfl rfl (by omega) (by omega) ?_
    (refine qf_gyes rfl (qf_pure tabOk rfl rfl rfl (qf_gyes rfl ?_)))
    refine qf_load1 (v := .int .i64 z1) tabOk rfl rfl rfl (fun w hs => sp_at hs (t := 45) (L := Q0) (by repeat constructor) l0 h0 hP0 0 (by omega)) ?_
    (refine qf_gyes rfl (qf_pure tabOk rfl rfl rfl (qf_gyes rfl (qf_pure tabOk rfl rfl rfl (qf_gyes rfl ?_)))))
    refine qf_index tabOk rfl rfl rfl rfl rfl (by omega) (by omega) ?_
    (refine qf_gyes rfl (qf_pure tabOk rfl rfl rfl (qf_gyes rfl ?_)))
    refine qf_load1 (v := .int .i64 z1) tabOk rfl rfl rfl (fun w hs => sp_at hs (t := 45) (L := Q0) (by repeat constructor) l0 h0 hP0 0 (by omega)) ?_
    (refine qf_gyes rfl ?_)
    refine qf_callv (val := rtV (z1, z1)) tabOk rfl rfl rfl rfl (fun w hs => ?_) ?_; exact span_ca z1 z1 w
    (refine qf_gyes rfl ?_)
    refine qf_neF [some .i64, some .i64] spn_flat rfl rfl rfl rfl rfl ?_
    rw [eqL_refl]
    (refine qf_pure tabOk rfl rfl rfl (qf_pure tabOk rfl rfl rfl (qf_gyes rfl (qf_pure tabOk rfl rfl rfl (qf_gyes rfl (qf_pure tabOk rfl rfl rfl (qf_gyes rfl ?_)))))))
    refine qf_index tabOk rfl rfl rfl rfl rfl (by omega) (by omega) ?_
    (refine qf_gyes rfl ?_)
    refine qf_loadA (cs := [.int .i64 z2, .int .i64 z2]) tabOk rfl rfl rfl rfl (fun w hs q hq => sp_at hs (t := 45) (L := Q2) (by repeat constructor) l2 h2 hP2 q hq) ?_
    (refine qf_gyes rfl (qf_pure tabOk rfl rfl rfl (qf_gyes rfl (qf_pure tabOk rfl rfl rfl (qf_gyes rfl ?_)))))
    refine qf_index tabOk rfl rfl rfl rfl rfl (by omega) (by omega) ?_
    (refine qf_gyes rfl (qf_pure tabOk rfl rfl rfl (qf_gyes rfl ?_)))
    refine qf_load1 (v := .int .i64 z2) tabOk rfl rfl rfl (fun w hs => sp_at hs (t := 45) (L := Q0) (by repeat constructor) l0 h0 hP0 1 (by omega)) ?_
    (refine qf_gyes rfl (qf_pure tabOk rfl rfl rfl (qf_gyes rfl (qf_pure tabOk rfl rfl rfl (qf_gyes rfl ?_)))))
    refine qf_index tabOk rfl rfl rfl rfl rfl (by omega) (by omega) ?_
    (refine qf_gyes rfl (qf_pure tabOk rfl rfl rfl (qf_gyes rfl ?_)))
    refine qf_load1 (v := .int .i64 z2) tabOk rfl rfl rfl (fun w hs => sp_at hs (t := 45) (L := Q0) (by repeat constructor) l0 h0 hP0 1 (by omega)) ?_
    (refine qf_gyes rfl ?_)
    refine qf_callv (val := rtV (z2, z2)) tabOk rfl rfl rfl rfl (fun w hs => ?_) ?_; exact span_ca z2 z2 w
    (refine qf_gyes rfl ?_)
    refine qf_neF [some .i64, some .i64] spn_flat rfl rfl rfl rfl rfl ?_
    rw [eqL_refl]
    by_cases hxy : x = y
    · (refine qf_pure tabOk rfl rfl rfl (qf_nil (q_cond_false rfl (q_skip (q_seq (q_seq (q_region (ql_pure tabOk rfl rfl (ql_pure tabOk rfl rfl (ql_eqlT tabOk rfl rfl rfl (by omega) (q_nil (q_cond_true rfl ?_))))))))))); refine q_seq (q_region ?_))
      refine ql_callv (val := .bool true) tabOk rfl rfl rfl rfl (fun w hs => ?_) ?_; exact awake_ca w
      (refine ql_pure tabOk rfl rfl (q_nil (q_ret ?_)))
      refine q_fin tabOk rfl (by repeat constructor) fun w hs => ?_
      exact ⟨rfl, hs.chg0⟩
    · have hyl : y < l.n := by omega
      have hNC' : NoC l.ord l.n := by rw [hln]; exact hNC
      have okxy := furt_ok hok hxl hyl hxy (by rw [hlr]; omega)
      have okyx := furt_ok hok hyl hxl (Ne.symm hxy) (by rw [hlr]; omega)
      have nxy : (l.add ⟨x, y, l.err + 1⟩).n = sk := hln
      have nyx : (l.add ⟨y, x, l.err + 1⟩).n = sk := hln
      have lxy : (l.add ⟨x, y, l.err + 1⟩).runs.length ≤ maxLen := by have := okxy.len; have : maxLen = 9223372036854775807 := rfl; omega
      have lyx : (l.add ⟨y, x, l.err + 1⟩).runs.length ≤ maxLen := by have := okyx.len; have : maxLen = 9223372036854775807 := rfl; omega
      (refine qf_pure tabOk rfl rfl rfl (qf_nil (q_cond_false rfl (q_skip (q_seq (q_seq (q_region (ql_pure tabOk rfl rfl (ql_pure tabOk rfl rfl (ql_eqlF tabOk rfl rfl rfl (by omega) (q_nil (q_cond_false rfl ?_))))))))))); refine q_skip (q_seq (q_region ?_)); refine ql_loadABa tabOk rfl rfl rfl ?_; refine ql_pure tabOk rfl rfl (ql_pure tabOk rfl rfl ?_))
      cases fxy : fa l.ord x y with
      | true =>
        obtain ⟨hse, h7⟩ := furt_same hok hNC' hxl hyl hxy (by rw [hlr]; omega) fxy
        skip
        refine ql_call (β := Value) tabOk [] _ M0 rfl rfl rfl rfl (Sp.refl _) (fun _ h => h.elim) (fun w' hs => further_ca w' 0 w'.heap.size l (.slice va l.runs.length vc) x y (lab_in hs (m := (l, va, vc)) (by repeat constructor) hMl) (by rw [hlr]; omega) (by omega)) ?_
        rintro ux _ rfl
        dsimp only [List.cons_append, List.nil_append]
        skip
        refine ql_callv (val := .tuple #[.int .i64 N, .int .i64 0]) tabOk rfl rfl rfl rfl (fun w hs => ?_) ?_; exact by have := orders_ok w 0 w.heap.size (l.add ⟨x, y, l.err + 1⟩) _ (runs_rdK hs (v := ux) (t := 33) (l := (l.add ⟨x, y, l.err + 1⟩).runs) (by repeat constructor) rfl) okxy (by rw [nxy]; exact (by rw [hse]; exact hNC)); rw [nxy, hse, ← hN] at this; exact this
        (refine ql_pure tabOk rfl rfl (ql_ext tabOk rfl rfl rfl (ql_ext tabOk rfl rfl rfl (ql_pure tabOk rfl rfl (ql_pure tabOk rfl rfl (q_nil (q_seq (q_region ?_))))))); refine ql_loadABa tabOk rfl rfl rfl ?_; refine ql_pure tabOk rfl rfl (ql_pure tabOk rfl rfl ?_))
        refine ql_call (β := Value) tabOk [] _ M0 rfl rfl rfl rfl (Sp.refl _) (fun _ h => h.elim) (fun w' hs => further_ca w' 0 w'.heap.size l (.slice va l.runs.length vc) y x (lab_in hs (m := (l, va, vc)) (by repeat constructor) hMl) (by rw [hlr]; omega) (by omega)) ?_
        rintro uy _ rfl
        dsimp only [List.cons_append, List.nil_append]
        skip
        refine ql_callv (val := .tuple #[.int .i64 0, .int .i64 7]) tabOk rfl rfl rfl rfl (fun w hs => ?_) ?_; exact by have := orders_no w 0 w.heap.size (l.add ⟨y, x, l.err + 1⟩) _ (runs_rdK hs (v := uy) (t := 33) (l := (l.add ⟨y, x, l.err + 1⟩).runs) (by repeat constructor) rfl) lyx (by rw [h7]; decide); rw [h7] at this; exact this
        (refine ql_pure tabOk rfl rfl (ql_ext tabOk rfl rfl rfl (ql_ext tabOk rfl rfl rfl (ql_pure tabOk rfl rfl (ql_pure tabOk rfl rfl (q_nil (q_seq (q_block (q_seq (q_region ?_))))))))); (iterate 3 refine ql_pure tabOk rfl rfl ?_))
        refine ql_mk #[.int .i64 x, .int .i64 y] rfl (by kernel_rfl) rfl ?_
        skip
        refine ql_callv (val := .bool (fa l.ord x y)) tabOk rfl rfl rfl rfl (fun w hs => ?_) ?_; exact by have := containsP_ca w 0 w.heap.size (.slice a11 (fasL l.ord sk).length c11) (fasL l.ord sk) x y (own_rdS (t := 63) (hs.mem (c := .ow (.slice a11 (fasL l.ord sk).length c11) 63 2 (fasL l.ord sk).length (spC (fasL l.ord sk))) (by repeat constructor)) rfl) hfl; rw [cont_fa hx2 hy2] at this; exact this
        rw [fxy]
        (refine ql_pure tabOk rfl rfl (q_nil (q_cond_true rfl (q_seq (q_region (ql_pure tabOk rfl rfl (ql_eqlT tabOk rfl rfl rfl (by omega) (ql_pure tabOk rfl rfl (ql_gyes rfl (ql_pure tabOk rfl rfl (ql_gyes rfl (ql_pure tabOk rfl rfl ?_))))))))))); refine ql_gyes rfl (ql_eqlT tabOk rfl rfl rfl (by omega) (ql_pure tabOk rfl rfl (ql_pure tabOk rfl rfl (ql_gyes rfl (ql_pure tabOk rfl rfl (ql_gyes rfl (ql_eqlT tabOk rfl rfl rfl (by omega) (ql_pure tabOk rfl rfl (ql_pure tabOk rfl rfl (ql_gyes rfl ?_)))))))))))
        refine ql_callv (val := .bool true) tabOk rfl rfl rfl rfl (fun w hs => ?_) ?_; exact awake_ca w
        (refine ql_pure tabOk rfl rfl (ql_pure tabOk rfl rfl (q_nil (q_ret ?_))))
        refine q_fin tabOk rfl (by repeat constructor) fun w hs => ?_
        exact ⟨rfl, hs.chg0⟩
      | false =>
        cases fyx : fa l.ord y x with
        | true =>
          obtain ⟨hse, h7⟩ := furt_same hok hNC' hyl hxl (Ne.symm hxy) (by rw [hlr]; omega) fyx
          skip
          refine ql_call (β := Value) tabOk [] _ M0 rfl rfl rfl rfl (Sp.refl _) (fun _ h => h.elim) (fun w' hs => further_ca w' 0 w'.heap.size l (.slice va l.runs.length vc) x y (lab_in hs (m := (l, va, vc)) (by repeat constructor) hMl) (by rw [hlr]; omega) (by omega)) ?_
          rintro ux _ rfl
          dsimp only [List.cons_append, List.nil_append]
          skip
          refine ql_callv (val := .tuple #[.int .i64 0, .int .i64 7]) tabOk rfl rfl rfl rfl (fun w hs => ?_) ?_; exact by have := orders_no w 0 w.heap.size (l.add ⟨x, y, l.err + 1⟩) _ (runs_rdK hs (v := ux) (t := 33) (l := (l.add ⟨x, y, l.err + 1⟩).runs) (by repeat constructor) rfl) lxy (by rw [h7]; decide); rw [h7] at this; exact this
          (refine ql_pure tabOk rfl rfl (ql_ext tabOk rfl rfl rfl (ql_ext tabOk rfl rfl rfl (ql_pure tabOk rfl rfl (ql_pure tabOk rfl rfl (q_nil (q_seq (q_region ?_))))))); refine ql_loadABa tabOk rfl rfl rfl ?_; refine ql_pure tabOk rfl rfl (ql_pure tabOk rfl rfl ?_))
          refine ql_call (β := Value) tabOk [] _ M0 rfl rfl rfl rfl (Sp.refl _) (fun _ h => h.elim) (fun w' hs => further_ca w' 0 w'.heap.size l (.slice va l.runs.length vc) y x (lab_in hs (m := (l, va, vc)) (by repeat constructor) hMl) (by rw [hlr]; omega) (by omega)) ?_
          rintro uy _ rfl
          dsimp only [List.cons_append, List.nil_append]
          skip
          refine ql_callv (val := .tuple #[.int .i64 N, .int .i64 0]) tabOk rfl rfl rfl rfl (fun w hs => ?_) ?_; exact by have := orders_ok w 0 w.heap.size (l.add ⟨y, x, l.err + 1⟩) _ (runs_rdK hs (v := uy) (t := 33) (l := (l.add ⟨y, x, l.err + 1⟩).runs) (by repeat constructor) rfl) okyx (by rw [nyx]; exact (by rw [hse]; exact hNC)); rw [nyx, hse, ← hN] at this; exact this
          (refine ql_pure tabOk rfl rfl (ql_ext tabOk rfl rfl rfl (ql_ext tabOk rfl rfl rfl (ql_pure tabOk rfl rfl (ql_pure tabOk rfl rfl (q_nil (q_seq (q_block (q_seq (q_region ?_))))))))); (iterate 3 refine ql_pure tabOk rfl rfl ?_))
          refine ql_mk #[.int .i64 x, .int .i64 y] rfl (by kernel_rfl) rfl ?_
          skip
          refine ql_callv (val := .bool (fa l.ord x y)) tabOk rfl rfl rfl rfl (fun w hs => ?_) ?_; exact by have := containsP_ca w 0 w.heap.size (.slice a11 (fasL l.ord sk).length c11) (fasL l.ord sk) x y (own_rdS (t := 63) (hs.mem (c := .ow (.slice a11 (fasL l.ord sk).length c11) 63 2 (fasL l.ord sk).length (spC (fasL l.ord sk))) (by repeat constructor)) rfl) hfl; rw [cont_fa hx2 hy2] at this; exact this
          rw [fxy]
          (refine ql_pure tabOk rfl rfl (q_nil (q_cond_false rfl (q_seq (q_region ?_)))); (iterate 3 refine ql_pure tabOk rfl rfl ?_))
          refine ql_mk #[.int .i64 y, .int .i64 x] rfl (by kernel_rfl) rfl ?_
          skip
          refine ql_callv (val := .bool (fa l.ord y x)) tabOk rfl rfl rfl rfl (fun w hs => ?_) ?_; exact by have := containsP_ca w 0 w.heap.size (.slice a11 (fasL l.ord sk).length c11) (fasL l.ord sk) y x (own_rdS (t := 63) (hs.mem (c := .ow (.slice a11 (fasL l.ord sk).length c11) 63 2 (fasL l.ord sk).length (spC (fasL l.ord sk))) (by repeat constructor)) rfl) hfl; rw [cont_fa hy2 hx2] at this; exact this
          rw [fyx]
          (refine ql_pure tabOk rfl rfl (q_nil (q_cond_true rfl (q_seq (q_region (ql_pure tabOk rfl rfl (ql_eqlT tabOk rfl rfl rfl (by omega) (ql_pure tabOk rfl rfl (ql_gyes rfl (ql_pure tabOk rfl rfl (ql_gyes rfl (ql_pure tabOk rfl rfl ?_))))))))))); refine ql_gyes rfl (ql_eqlT tabOk rfl rfl rfl (by omega) (ql_pure tabOk rfl rfl (ql_pure tabOk rfl rfl (ql_gyes rfl (ql_pure tabOk rfl rfl (ql_gyes rfl (ql_eqlT tabOk rfl rfl rfl (by omega) (ql_pure tabOk rfl rfl (ql_pure tabOk rfl rfl (ql_gyes rfl ?_)))))))))))
          refine ql_callv (val := .bool true) tabOk rfl rfl rfl rfl (fun w hs => ?_) ?_; exact awake_ca w
          (refine ql_pure tabOk rfl rfl (ql_pure tabOk rfl rfl (q_nil (q_ret ?_))))
          refine q_fin tabOk rfl (by repeat constructor) fun w hs => ?_
          exact ⟨rfl, hs.chg0⟩
        | false =>
          obtain ⟨hA, hB, hAB⟩ := furt_parts hok hNC' hxl hyl hxy fxy fyx
          rw [hln] at hA hB hAB
          rw [← hN] at hAB
          obtain ⟨Nx, hNx⟩ : ∃ Nx : Nat, Nx = cnt (l.add ⟨x, y, l.err + 1⟩).ord sk (2 ^ sk - 1) := ⟨_, rfl⟩
          obtain ⟨Ny, hNy⟩ : ∃ Ny : Nat, Ny = cnt (l.add ⟨y, x, l.err + 1⟩).ord sk (2 ^ sk - 1) := ⟨_, rfl⟩
          have hNb : N ≤ 16777216 := by rw [hN]; exact cnt_bd (by omega) _
          rw [← hNx, ← hNy] at hAB
          skip
          refine ql_call (β := Value) tabOk [] _ M0 rfl rfl rfl rfl (Sp.refl _) (fun _ h => h.elim) (fun w' hs => further_ca w' 0 w'.heap.size l (.slice va l.runs.length vc) x y (lab_in hs (m := (l, va, vc)) (by repeat constructor) hMl) (by rw [hlr]; omega) (by omega)) ?_
          rintro ux _ rfl
          dsimp only [List.cons_append, List.nil_append]
          skip
          refine ql_callv (val := .tuple #[.int .i64 Nx, .int .i64 0]) tabOk rfl rfl rfl rfl (fun w hs => ?_) ?_; exact by have := orders_ok w 0 w.heap.size (l.add ⟨x, y, l.err + 1⟩) _ (runs_rdK hs (v := ux) (t := 33) (l := (l.add ⟨x, y, l.err + 1⟩).runs) (by repeat constructor) rfl) okxy (by rw [nxy]; exact hA); rw [nxy, ← hNx] at this; exact this
          (refine ql_pure tabOk rfl rfl (ql_ext tabOk rfl rfl rfl (ql_ext tabOk rfl rfl rfl (ql_pure tabOk rfl rfl (ql_pure tabOk rfl rfl (q_nil (q_seq (q_region ?_))))))); refine ql_loadABa tabOk rfl rfl rfl ?_; refine ql_pure tabOk rfl rfl (ql_pure tabOk rfl rfl ?_))
          refine ql_call (β := Value) tabOk [] _ M0 rfl rfl rfl rfl (Sp.refl _) (fun _ h => h.elim) (fun w' hs => further_ca w' 0 w'.heap.size l (.slice va l.runs.length vc) y x (lab_in hs (m := (l, va, vc)) (by repeat constructor) hMl) (by rw [hlr]; omega) (by omega)) ?_
          rintro uy _ rfl
          dsimp only [List.cons_append, List.nil_append]
          skip
          refine ql_callv (val := .tuple #[.int .i64 Ny, .int .i64 0]) tabOk rfl rfl rfl rfl (fun w hs => ?_) ?_; exact by have := orders_ok w 0 w.heap.size (l.add ⟨y, x, l.err + 1⟩) _ (runs_rdK hs (v := uy) (t := 33) (l := (l.add ⟨y, x, l.err + 1⟩).runs) (by repeat constructor) rfl) okyx (by rw [nyx]; exact hB); rw [nyx, ← hNy] at this; exact this
          (refine ql_pure tabOk rfl rfl (ql_ext tabOk rfl rfl rfl (ql_ext tabOk rfl rfl rfl (ql_pure tabOk rfl rfl (ql_pure tabOk rfl rfl (q_nil (q_seq (q_block (q_seq (q_region ?_))))))))); (iterate 3 refine ql_pure tabOk rfl rfl ?_))
          refine ql_mk #[.int .i64 x, .int .i64 y] rfl (by kernel_rfl) rfl ?_
          skip
          refine ql_callv (val := .bool (fa l.ord x y)) tabOk rfl rfl rfl rfl (fun w hs => ?_) ?_; exact by have := containsP_ca w 0 w.heap.size (.slice a11 (fasL l.ord sk).length c11) (fasL l.ord sk) x y (own_rdS (t := 63) (hs.mem (c := .ow (.slice a11 (fasL l.ord sk).length c11) 63 2 (fasL l.ord sk).length (spC (fasL l.ord sk))) (by repeat constructor)) rfl) hfl; rw [cont_fa hx2 hy2] at this; exact this
          rw [fxy]
          (refine ql_pure tabOk rfl rfl (q_nil (q_cond_false rfl (q_seq (q_region ?_)))); (iterate 3 refine ql_pure tabOk rfl rfl ?_))
          refine ql_mk #[.int .i64 y, .int .i64 x] rfl (by kernel_rfl) rfl ?_
          skip
          refine ql_callv (val := .bool (fa l.ord y x)) tabOk rfl rfl rfl rfl (fun w hs => ?_) ?_; exact by have := containsP_ca w 0 w.heap.size (.slice a11 (fasL l.ord sk).length c11) (fasL l.ord sk) y x (own_rdS (t := 63) (hs.mem (c := .ow (.slice a11 (fasL l.ord sk).length c11) 63 2 (fasL l.ord sk).length (spC (fasL l.ord sk))) (by repeat constructor)) rfl) hfl; rw [cont_fa hy2 hx2] at this; exact this
          rw [fyx]
          (refine ql_pure tabOk rfl rfl (q_nil (q_cond_false rfl (q_skip (q_blk (q_seq (q_region (ql_pure tabOk rfl rfl (ql_eqlT tabOk rfl rfl rfl (by omega) (ql_pure tabOk rfl rfl (ql_gyes rfl (ql_pure tabOk rfl rfl ?_))))))))))); refine ql_gyes rfl (ql_eqlT tabOk rfl rfl rfl (by omega) (ql_pure tabOk rfl rfl (ql_pure tabOk rfl rfl (ql_gyes rfl (ql_pure tabOk rfl rfl (ql_gyes rfl (ql_pure tabOk rfl rfl (ql_gyes rfl (ql_ar tabOk rfl rfl rfl rfl (by omega) (by omega) (ql_gyes rfl (ql_pure tabOk rfl rfl ?_))))))))))); refine ql_gyes rfl (ql_eqlT tabOk rfl rfl rfl (by omega) (ql_pure tabOk rfl rfl (ql_pure tabOk rfl rfl (ql_gyes rfl ?_)))))
          refine ql_callv (val := .bool true) tabOk rfl rfl rfl rfl (fun w hs => ?_) ?_; exact awake_ca w
          (refine ql_pure tabOk rfl rfl (ql_pure tabOk rfl rfl (q_nil (q_ret ?_))))
          refine q_fin tabOk rfl (by repeat constructor) fun w hs => ?_
          exact ⟨rfl, hs.chg0⟩
end Go.Proofs.Ytcmpdmobmbbplaa
