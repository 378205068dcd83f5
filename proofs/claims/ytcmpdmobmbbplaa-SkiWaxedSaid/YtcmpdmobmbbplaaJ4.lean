/- My texts K28, L2, joined: a claim takes at most 60 files. -/
import Derived.Test.YtcmpdmobmbbplaaJ3

/- Walks: the regrets of a table; lists of lists copied. -/
namespace Go.Proofs.Ytcmpdmobmbbplaa
open Go Go.Eng

set_option maxHeartbeats 2000000 in
theorem regrets_ca (w : World) (lo hi : Nat) (v : Value) (l : List (List Int)) (n : Nat) (h : RdII w lo hi v l) (hl : TabOk l n) : Ca Try.prog 20 [v] w fun x w' => ∃ y : Value × List (Value × List Int), (x = .tuple #[y.1, .int .i64 0] ∧ y.2.map (·.2) = regV l n) ∧ Sat w M0 [un (rowsO 3 y.2), .ow y.1 26 1 l.length (y.2.map (·.1))] w' := by
  have hl1 := hl.l1
  have hl2 := hl.l2
  refine q_of (Sat.nil w M0) Try.func20 rfl (by simp [Try.ntmps20]) ?_
  (refine q_seq (q_region (ql_pure tabOk rfl rfl (ql_pure tabOk rfl rfl (q_nil (q_seq (q_seq (q_region (ql_pure tabOk rfl rfl ?_)))))))))
  refine ql_callv (val := .int .i64 0) tabOk rfl rfl rfl rfl (fun w hs => ?_) ?_; exact by have := table_ca w lo hi _ l (RdII.keep h hs.chg0); rw [hl.v.1] at this; exact this
  (refine ql_pure tabOk rfl rfl (q_nil (q_seq (q_region (ql_pure tabOk rfl rfl (ql_neqF tabOk rfl rfl rfl (by omega) (q_nil (q_cond_false rfl (q_skip (q_seq (q_region (ql_pure tabOk rfl rfl ?_))))))))))); refine q_nil (q_seq (q_seq (q_region (ql_pure tabOk rfl rfl ?_)))))
  refine ql_call (β := Value × List (Value × List Int)) tabOk [] _ M0 rfl rfl rfl rfl (Sp.refl _) (fun _ h => h.elim) (fun w' hs => waxes_ca w' lo hi _ l n 0 (RdII.keep h hs.chg0) hl) ?_
  rintro ⟨_, xs⟩ u ⟨rfl, hxs⟩
  dsimp only [List.cons_append, List.nil_append]
  refine ql_fact (fun w hs => hs.ownSome (v := u) (by repeat constructor) (by omega)) ?_
  rintro ⟨g, cw, rfl⟩
  have hxl : xs.length = l.length := by have := congrArg List.length hxs; rw [regV_len, List.length_map] at this; exact this
  (refine ql_pure tabOk rfl rfl (ql_pure tabOk rfl rfl (q_nil (q_block ?_))))
  refine q_conv (H' := [.ow (.slice none 0 0) 26 1 0 ((xs.take 0).map (·.1)), un (rowsO 3 xs), .ow (.slice (some ⟨g, 0, none⟩) l.length cw) 157 2 l.length (wxC 0 xs)]) (fun w' hs => (Sat.ownil hs 26 1).sp (by repeat constructor)) ?_
  refine q_loop (σ := Nat × Value) (fun y => y.1 ≤ l.length) (fun y => l.length - y.1) (fun y => [(5, y.2), (14, .slice (some ⟨g, 0, none⟩) l.length cw), (15, .int .i64 l.length), (16, .int .i64 y.1)])
    (fun y => [.ow y.2 26 1 y.1 ((xs.take y.1).map (·.1)), un (rowsO 3 xs), .ow (.slice (some ⟨g, 0, none⟩) l.length cw) 157 2 l.length (wxC 0 xs)]) (0, .slice none 0 0) (by simp only; omega) ⟨rfl, rfl, rfl, rfl, trivial⟩ (by repeat constructor) ?_
  rintro ⟨k, u⟩ hk K hK
  dsimp only at hk ⊢
  (refine q_seq (q_region (ql_pure tabOk rfl rfl (q_nil (q_seq ?_)))))
  refine q_if rfl (fun hc => ?_) (fun hc => ?_)
  · have hk2 : k < l.length := by omega
    have hk3 : k < xs.length := by omega
    clear hc
    refine q_fact (fun w hs => RdI.outI (wx_row hs (by repeat constructor) k hk3).1) ?_
    rintro ⟨a1, c1, e1, _⟩
    (refine q_skip (q_seq (q_block (q_seq (q_region ?_)))))
    refine ql_index tabOk rfl rfl rfl rfl rfl (by omega) (by omega) ?_
    refine ql_loadA tabOk rfl rfl rfl rfl (fun w hs => by
      rw [Int.toNat_natCast]
      have := wx_at hs (by repeat constructor) k hk3
      rw [e1] at this
      exact this) ?_
    skip
    refine ql_alloc zero157 rfl (fun b7 => ?_)
    (refine ql_setA tabOk rfl rfl rfl rfl rfl (by repeat constructor) rfl ?_; refine q_nil (q_region (ql_pure tabOk rfl rfl (ql_pure tabOk rfl rfl ?_))); refine ql_loadBa tabOk rfl rfl rfl ?_)
    refine ql_mkS 26 [.slice a1 xs[k].2.length c1] rfl (by kernel_rfl) rfl (fun bn => ?_)
    skip
    refine ql_append (q := 1) (news := [.slice a1 xs[k].2.length c1]) slII rfl rfl rfl (fun v' => by repeat constructor) (fun w' hs => ⟨_, _, Blk.rdN (hs.blk (b := bn) (by repeat constructor)) rfl⟩) (by simp [oneV]) (by omega) (by omega) (fun u' => ?_)
    (refine ql_pure tabOk rfl rfl (q_nil (q_blk (q_region (ql_ar tabOk rfl rfl rfl rfl (by omega) (by omega) (ql_pure tabOk rfl rfl (q_nil ?_)))))))
    have e : (xs.take (k + 1)).map (·.1) = (xs.take k).map (·.1) ++ [.slice a1 xs[k].2.length c1] := by
      rw [List.take_succ_eq_append_getElem hk3, List.map_append, List.map_singleton, e1]
    exact hK (k + 1, u') _ _ (by simp only; omega) (by simp only; omega) ⟨rfl, rfl, rfl, rfl, trivial⟩ (by dsimp only; rw [e]; repeat constructor)
  · obtain rfl : k = l.length := by omega
    clear hc hK hk
    (refine q_exit _ rfl (q_seq (q_region ?_)); (iterate 3 refine ql_pure tabOk rfl rfl ?_); refine q_nil (q_ret ?_))
    refine q_fin tabOk rfl (by repeat constructor) fun w hs => ?_
    refine ⟨(u, xs), ⟨rfl, hxs⟩, ?_⟩
    have h1 := hs.sp (H' := [un (rowsO 3 xs), .ow u 26 1 l.length ((xs.take l.length).map (·.1))]) (by repeat constructor)
    rw [← hxl, List.take_length, hxl] at h1
    exact h1
theorem cloneI_ca (w : World) (lo hi : Nat) (v : Value) (l : List Int) (h : RdI w lo hi v l) (hlen : l.length ≤ 1000000) : Ca Try.prog 29 [v] w fun r w' => ∃ u : Value, r = u ∧ Sat w M0 [.ow u 3 1 l.length (ints l)] w' := by
  obtain ⟨a, ca, rfl, _⟩ := RdI.outI h
  have hrow : ∀ w', Chg [] w w' → Rd w' lo hi (.slice a l.length ca) 1 l.length (ints l) := fun w' hc => by
    have := (RdE.keep h hc).rd
    rw [cellsOf_ints] at this
    simpa using this
  refine q_of (Sat.nil w M0) Try.func29 rfl (by simp [Try.ntmps29]) ?_
  (refine q_seq (q_region (ql_pure tabOk rfl rfl (q_nil (q_seq (q_region (ql_pure tabOk rfl rfl ?_)))))))
  refine ql_conv (H' := [.ow (.slice none 0 0) 3 1 0 []]) (fun w' hs => Sat.ownil hs 3 1) ?_
  refine ql_append (q := l.length) slI rfl rfl rfl (fun v' => by repeat constructor) (fun w' hs => ⟨lo, hi, hrow w' hs.chg0⟩) (by simp [oneV]) (by omega) (by omega) (fun u => ?_)
  (refine ql_pure tabOk rfl rfl (q_nil (q_ret ?_)))
  refine q_fin tabOk rfl (by repeat constructor) fun w hs => ?_
  exact ⟨u, rfl, by simpa using hs⟩
set_option maxHeartbeats 1000000 in
theorem cloneAll_ca (w : World) (lo hi : Nat) (v : Value) (ll : List (List Int)) (h : RdII w lo hi v ll) (hlen : ll.length ≤ 1000) (hl : ∀ l ∈ ll, l.length ≤ 1000000) :
    Ca Try.prog 22 [v] w fun r w' => ∃ x : Value × List (Value × List Int), (r = x.1 ∧ x.2.map (·.2) = ll) ∧ Sat w M0 [un (rowsO 3 x.2), .ow x.1 26 1 ll.length (x.2.map (·.1))] w' := by
  obtain ⟨a, cap, rfl, hs0⟩ := h.outI
  refine q_of (Sat.nil w M0) Try.func22 rfl (by simp [Try.ntmps22]) ?_
  (refine q_seq (q_region (ql_pure tabOk rfl rfl (q_nil (q_seq (q_region (ql_pure tabOk rfl rfl (q_nil (q_seq (q_seq (q_region ?_)))))))))); (iterate 3 refine ql_pure tabOk rfl rfl ?_); refine q_nil (q_block ?_))
  refine q_conv (H' := [un (rowsO 3 []), .ow (.slice none 0 0) 26 1 0 (([] : List (Value × List Int)).map (·.1))]) (fun w' hs => Sat.un_nil (Sat.ownil hs _ _)) ?_
  refine q_loop (σ := Value × List (Value × List Int)) (fun s => s.2.length ≤ ll.length ∧ s.2.map (·.2) = ll.take s.2.length) (fun s => ll.length - s.2.length) (fun s => [(3, s.1), (6, .slice a ll.length cap), (7, .int .i64 ll.length), (8, .int .i64 s.2.length)])
    (fun s => [un (rowsO 3 s.2), .ow s.1 26 1 s.2.length (s.2.map (·.1))]) (.slice none 0 0, []) ⟨by simp, by simp⟩ ⟨rfl, rfl, rfl, rfl, trivial⟩ (Sp.refl _) ?_
  rintro ⟨va, xs⟩ ⟨hk, hxs⟩ K hK
  simp only at hk hxs
  dsimp only
  (refine q_seq (q_region (ql_pure tabOk rfl rfl (q_nil (q_seq ?_)))))
  refine q_if rfl (fun hc => ?_) (fun hc => ?_)
  · have hk2 : xs.length < ll.length := by omega
    clear hc
    obtain ⟨b, off, rfl⟩ := hs0 (by omega)
    obtain ⟨ar, cr, hr1, hr2⟩ := h.row xs.length hk2
    (refine q_skip (q_seq (q_block (q_seq (q_region ?_)))))
    refine ql_index tabOk rfl rfl rfl rfl rfl (by omega) (by omega) ?_
    refine ql_load1 tabOk rfl rfl rfl (fun w hs => hr2 w hs.chg0) ?_
    (refine ql_pure tabOk rfl rfl (q_nil (q_region (ql_pure tabOk rfl rfl (ql_pure tabOk rfl rfl ?_)))))
    refine ql_call (β := Value) (ψ := fun x v => v = x) (L' := fun x => [.ow x 3 1 ll[xs.length].length (ints ll[xs.length])]) tabOk [] _ M0 rfl rfl rfl rfl (Sp.refl _) (fun _ h => h.elim) (fun w' hs => cloneI_ca w' lo hi _ ll[xs.length] (RdE.keep hr1 hs.chg0) (hl _ (List.getElem_mem hk2))) ?_
    rintro _ y rfl
    skip
    refine ql_fact (fun w hs => hs.slice2 (v := y) (by repeat constructor)) ?_
    rintro ⟨ay, cy, rfl⟩
    refine ql_mkS 26 [.slice ay ll[xs.length].length cy] rfl (by kernel_rfl) rfl (fun bn => ?_)
    skip
    refine ql_append (q := 1) slII rfl rfl rfl (fun v' => by repeat constructor) (fun w' hs => ⟨_, _, Blk.rdN (hs.blk (b := bn) (by repeat constructor)) rfl⟩) (by simp [oneV]) (by omega) (by omega) (fun va' => ?_)
    (refine ql_pure tabOk rfl rfl (q_nil (q_blk (q_region (ql_ar tabOk rfl rfl rfl rfl (by omega) (by omega) (ql_pure tabOk rfl rfl (q_nil ?_)))))))
    refine q_conv (H' := [un (rowsO 3 (xs ++ [(Value.slice ay ll[xs.length].length cy, ll[xs.length])])), .ow va' 26 1 (xs ++ [(Value.slice ay ll[xs.length].length cy, ll[xs.length])]).length ((xs ++ [(Value.slice ay ll[xs.length].length cy, ll[xs.length])]).map (·.1))]) (fun w' hs => by
      refine rows_add ?_
      rw [List.length_append, List.map_append]
      exact hs.sp (by repeat constructor)) ?_
    have e1 : ll.take (xs.length + 1) = ll.take xs.length ++ [ll[xs.length]] := List.take_succ_eq_append_getElem hk2
    have hlen1 : (xs ++ [(Value.slice ay ll[xs.length].length cy, ll[xs.length])]).length = xs.length + 1 := by simp
    refine hK (va', xs ++ [(Value.slice ay ll[xs.length].length cy, ll[xs.length])]) _ _ ⟨by simp only [hlen1]; omega, by simp only [hlen1, e1, List.map_append, hxs]; rfl⟩ (by simp only [hlen1]; omega) ⟨rfl, rfl, rfl, lookI rfl (by simp only [hlen1]; omega), trivial⟩ (Sp.refl _)
  · have hkl : xs.length = ll.length := by omega
    (refine q_exit _ rfl (q_seq (q_region (ql_pure tabOk rfl rfl (ql_pure tabOk rfl rfl (q_nil (q_ret ?_)))))))
    refine q_fin tabOk rfl (by repeat constructor) fun w hs => ?_
    refine ⟨(va, xs), ⟨rfl, by simp only; rw [hxs, hkl, List.take_length]⟩, ?_⟩
    rw [← hkl]
    exact hs
end Go.Proofs.Ytcmpdmobmbbplaa

/- SkiWaxed. -/
namespace Go.Proofs.Ytcmpdmobmbbplaa
open Go Go.Eng

theorem losses0 {w0 w : World} {R : List Ck} {b K W S : Nat} {bs : Value} (hby : DkB w0 0 w0.heap.size bs) (hs : Sat w0 M0 (dkP bs b K :: R) w) (hW1 : 1 ≤ W) (hS1 : 1 ≤ S) (hW : W ≤ 12) (hS : S ≤ 20) (hK : K < 100000) :
    Ca Try.prog 19 [.pointer (some ⟨b, 0, none⟩), .int .i64 W, .int .i64 S] w fun v w' => ∃ y : Value × List (Value × List Int), (v = y.1 ∧ ∃ n, LosL W S (y.2.map (·.2)) n) ∧ Sat w (fun x => x = b) [un (rowsO 3 y.2), .ow y.1 26 1 y.2.length (y.2.map (·.1)), dkP bs b (K + 300)] w' :=
  losses_ca W S hW1 hS1 hW hS K hK w b 0 w0.heap.size bs (hby.keep hs.chg0) (dk_new hs) (hs.all _ (.head _))
theorem row_shape {w0 w : World} {M : Nat → Prop} {H : List Ck} {t n : Nat} {X : List (Value × List Int)} (hs : Sat w0 M H w) (hm : un (rowsO t X) ∈ H) (hn : ∀ p ∈ X, p.2.length = n) (hp : 0 < n) : ∀ i (hi : i < X.length), ∃ g c, X[i].1 = .slice (some ⟨g, 0, none⟩) n c := fun i hi => by
  have h2 : w.ownsRow 0 t 1 X[i].1 X[i].2.length (ints X[i].2) := (hs.mem hm).1 (.ow X[i].1 t 1 X[i].2.length (ints X[i].2)) (List.mem_map.2 ⟨_, List.getElem_mem hi, rfl⟩)
  have h3 := hn _ (List.getElem_mem hi)
  have h4 := own_some h2 (by omega)
  rw [h3] at h4
  exact h4
theorem row_cell {w0 w : World} {M : Nat → Prop} {H : List Ck} {t g c n m : Nat} {X : List (Value × List Int)} {u : Value} (hs : Sat w0 M H w) (hm : Ck.ow (.slice (some ⟨g, 0, none⟩) m c) t 1 m (X.map (·.1)) ∈ H) {i : Nat} (hi : i < X.length) (hu : X[i].1 = u) (hin : n = 0 + i * 1) : w.cell? ⟨g, n, none⟩ = some u := by
  subst hin
  rw [Nat.mul_one, Nat.zero_add]
  exact own_cellS (hs.mem hm) i (by rw [List.getElem?_map, List.getElem?_eq_getElem hi, Option.map_some, hu])
theorem row_at {w0 w : World} {M : Nat → Prop} {H : List Ck} {t g c n m : Nat} {X : List (Value × List Int)} {x : Int} (hs : Sat w0 M H w) (hm : un (rowsO t X) ∈ H) {i : Nat} (hi : i < X.length) (hu : X[i].1 = .slice (some ⟨g, 0, none⟩) m c) {s : Nat} (hss : s < X[i].2.length) (hx : X[i].2.getD s 0 = x) (hin : n = 0 + s * 1) : w.cell? ⟨g, n, none⟩ = some (.int .i64 x) := by
  subst hin
  have h := (wx_row hs hm i hi).1
  rw [hu] at h
  have := RdI.at h s hss
  rw [this, ← hx, getD_get hss]
theorem own_rdII {w0 w : World} {M : Nat → Prop} {H : List Ck} {t t2 n : Nat} {v : Value} {X : List (Value × List Int)} (hs : Sat w0 M H w) (h1 : un (rowsO t X) ∈ H) (h2 : Ck.ow v t2 1 n (X.map (·.1)) ∈ H) : RdII w 0 w.heap.size v (X.map (·.2)) := rowsO_rd (hs.mem h1) (hs.mem h2)
def addR (s : Nat) (d : Int) (p : Value × List Int) : Value × List Int := (p.1, p.2.set s (p.2.getD s 0 + d))
/-- The first rows are changed. -/
def addK (s : Nat) (d : Int) (X : List (Value × List Int)) (k : Nat) : List (Value × List Int) := (X.take k).map (addR s d) ++ X.drop k
theorem addK_len (s : Nat) (d : Int) (X : List (Value × List Int)) (k : Nat) : (addK s d X k).length = X.length := by
  unfold addK
  rw [List.length_append, List.length_map, ← List.length_append, List.take_append_drop]
theorem addK_fst (s : Nat) (d : Int) (X : List (Value × List Int)) (k : Nat) : (addK s d X k).map (·.1) = X.map (·.1) := by
  unfold addK
  rw [List.map_append, List.map_map, show ((fun x => x.1) ∘ addR s d) = (fun x : Value × List Int => x.1) from rfl, ← List.map_append, List.take_append_drop]
theorem addK_get (s : Nat) (d : Int) : ∀ (X : List (Value × List Int)) (k : Nat) (hk : k < X.length), (addK s d X k)[k]'(by rw [addK_len]; exact hk) = X[k]
  | x :: X, 0, _ => rfl
  | x :: X, k + 1, hk => by
    have := addK_get s d X k (by simpa using hk)
    exact this
theorem addK_step (s : Nat) (d : Int) : ∀ (X : List (Value × List Int)) (k : Nat) (hk : k < X.length), (addK s d X k).modify k (fun _ => addR s d X[k]) = addK s d X (k + 1)
  | x :: X, 0, _ => rfl
  | x :: X, k + 1, hk => by
    have hk2 : k < X.length := by simpa using hk
    have := addK_step s d X k hk2
    show addR s d x :: (addK s d X k).modify k (fun _ => addR s d X[k]) = addR s d x :: addK s d X (k + 1)
    rw [this]
theorem addK_all (s : Nat) (d : Int) (X : List (Value × List Int)) : (addK s d X X.length).map (·.2) = worseV (X.map (·.2)) s d := by
  unfold addK worseV
  rw [List.take_length, List.drop_length, List.append_nil, List.map_map, List.map_map]
  rfl
theorem mod_natW {a : Int} {n : Nat} (ha : 0 ≤ a) (hn : 0 < n) : ∃ x : Nat, a % (n : Int) = x ∧ x < n := ⟨(a % n).toNat, by have := Int.emod_nonneg a (show (n : Int) ≠ 0 by omega); omega, by have := Int.emod_lt_of_pos a (show (0 : Int) < n by omega); have := Int.emod_nonneg a (show (n : Int) ≠ 0 by omega); omega⟩
set_option maxHeartbeats 8000000 in
set_option maxRecDepth 20000 in
theorem skiWaxed_ca (w : World) (a : Option Addr) (nb cb : Nat) (a1 a2 mo : Int) (ha1 : 0 ≤ a1 ∧ a1 < 256) (ha2 : 0 ≤ a2 ∧ a2 < 256) (hmo : 0 ≤ mo ∧ mo < 256) (hbyb1 : DkB w 0 w.heap.size (.slice a nb cb)) :
    Ca Try.prog 4 [.slice a nb cb, .int .u8 a1, .int .u8 a2, .int .u8 mo] w fun r w' => r = .bool true ∧ Chg [] w w' := by
  refine q_of (Sat.nil w M0) Try.func4 rfl (by simp [Try.ntmps4]) ?_
  (refine q_seq (q_region (ql_pure tabOk rfl rfl (q_nil (q_seq (q_region (ql_pure tabOk rfl rfl ?_)))))))
  refine ql_call (β := Nat) tabOk [] _ M0 rfl rfl rfl rfl (Sp.refl _) (fun _ h => h.elim) (fun w' hs => of_ca w' a nb cb) ?_
  rintro b1 _ rfl
  dsimp only [List.cons_append, List.nil_append]
  refine ql_call (β := Value × List (Value × List Int)) (ψ := fun y v => v = y.1 ∧ ∃ n, LosL 8 12 (y.2.map (·.2)) n) (L' := fun y => [un (rowsO 3 y.2), .ow y.1 26 1 y.2.length (y.2.map (·.1)), dkP (.slice a nb cb) b1 (0 + 300)]) tabOk [dkP (.slice a nb cb) b1 0] _ (fun x => x = b1) rfl rfl rfl rfl (Sp.cons (by repeat constructor) (Sp.refl _)) (fun x hx => ⟨_, .head _, hx⟩) (fun w' hs => losses0 (W := 8) (S := 12) hbyb1 hs (by omega) (by omega) (by omega) (by omega) (by omega)) ?_
  rintro ⟨_, X⟩ v9 ⟨rfl, n, hL⟩
  dsimp only [List.cons_append, List.nil_append] at hL ⊢
  obtain ⟨l, hl⟩ : ∃ l, l = X.map (·.2) := ⟨_, rfl⟩
  rw [← hl] at hL
  have hXl : X.length = l.length := by rw [hl, List.length_map]
  rw [hXl]
  have hl1 := hL.l1
  have hl2 := hL.l2
  have hn1 := hL.n1
  have hn2 := hL.n2
  have hT := hL.tab (by omega) (by omega)
  have hXn : ∀ p ∈ X, p.2.length = n := fun p hp => hL.len _ (by rw [hl]; exact List.mem_map.2 ⟨p, hp, rfl⟩)
  refine ql_fact (fun w hs => hs.ownSome (v := v9) (by repeat constructor) (by omega)) ?_
  rintro ⟨g9, c9, rfl⟩
  refine ql_fact (fun w hs => row_shape hs (X := X) (t := 3) (by repeat constructor) hXn (by omega)) ?_
  intro hX
  obtain ⟨g0, c0, e0⟩ := hX 0 (by omega)
  (refine ql_pure tabOk rfl rfl (q_nil (q_seq (q_region (ql_pure tabOk rfl rfl ?_)))))
  refine ql_index tabOk rfl rfl rfl rfl rfl (by omega) (by omega) ?_
  refine ql_load1 (v := .slice (some ⟨g0, 0, none⟩) n c0) tabOk rfl rfl rfl (fun w hs => row_cell hs (t := 26) (X := X) (by repeat constructor) (i := 0) (by omega) e0 rfl) ?_
  (refine ql_pure tabOk rfl rfl (ql_pure tabOk rfl rfl (q_nil (q_seq (q_region ?_)))); (iterate 3 refine ql_pure tabOk rfl rfl ?_))
  have em : IntKind.i64.wrap mo = mo := w64 (by omega) (by omega)
  have e1 : IntKind.i64.wrap a1 = a1 := w64 (by omega) (by omega)
  have e2 : IntKind.i64.wrap a2 = a2 := w64 (by omega) (by omega)
  obtain ⟨x, hx, hx2⟩ := mod_natW ha1.1 (show 0 < n by omega)
  obtain ⟨z, hz, hz2⟩ := mod_natW (n := n - x) ha2.1 (by omega)
  obtain ⟨sn, hsn, hsn2⟩ := mod_natW hmo.1 (show 0 < n by omega)
  have hz' : a2 % ((n : Int) - (x : Int)) = z := by rw [show (n : Int) - (x : Int) = ((n - x : Nat) : Int) from by omega]; exact hz
  have q1 : 0 ≤ IntKind.i64.wrap a1 % (n : Int) ∧ IntKind.i64.wrap a1 % (n : Int) < n := by rw [e1, hx]; omega
  have q2 : 0 ≤ IntKind.i64.wrap a2 % ((n : Int) - (x : Int)) ∧ IntKind.i64.wrap a2 % ((n : Int) - (x : Int)) < (n : Int) - x := by rw [e2, hz']; omega
  have q3 : 0 ≤ IntKind.i64.wrap mo % (n : Int) ∧ IntKind.i64.wrap mo % (n : Int) < n := by rw [em, hsn]; omega
  (refine ql_remN rfl rfl rfl (by omega) (by omega) (ql_pure tabOk rfl rfl (q_nil (q_seq (q_region ?_)))); (iterate 5 refine ql_pure tabOk rfl rfl ?_); refine ql_ar tabOk rfl rfl rfl rfl (by omega) (by omega) (ql_remN rfl rfl rfl (by omega) (by omega) (ql_pure tabOk rfl rfl (ql_pure tabOk rfl rfl (q_nil (q_seq (q_region (ql_pure tabOk rfl rfl ?_))))))))
  rw [e1, hx]
  skip
  rw [e2, hz', show IntKind.i64.wrap ((x : Int) + (z : Int)) = ((x + z : Nat) : Int) from by rw [w64 (by omega) (by omega)]; omega]
  obtain ⟨y, hy⟩ : ∃ y, y = x + z := ⟨_, rfl⟩
  rw [← hy]
  have hxy : x ≤ y := by omega
  have hyn : y < n := by omega
  clear hz hz' hx e1 e2 q1 q2
  refine ql_call (β := Value × List (Value × List Int)) tabOk [] _ M0 rfl rfl rfl rfl (Sp.refl _) (fun _ h => h.elim) (fun w' hs => regrets_ca w' 0 w'.heap.size _ l n (by have := own_rdII hs (X := X) (t := 3) (t2 := 26) (v := .slice (some ⟨g9, 0, none⟩) l.length c9) (n := l.length) (by repeat constructor) (by repeat constructor); rw [← hl] at this; exact this) hT) ?_
  rintro ⟨v13, Y⟩ _ ⟨rfl, hY⟩
  dsimp only [List.cons_append, List.nil_append] at hY ⊢
  have hYl : Y.length = l.length := by have := congrArg List.length hY; rw [regV_len, List.length_map] at this; exact this
  refine ql_fact (fun w hs => hs.ownSome (v := v13) (by repeat constructor) (by omega)) ?_
  rintro ⟨g13, c13, rfl⟩
  have hYg : ∀ i (hi : i < Y.length), Y[i].2 = (regV l n)[i]'(by rw [regV_len]; omega) := fun i hi => by simp only [← hY, List.getElem_map]
  have hYn : ∀ p ∈ Y, p.2.length = n := fun p hp => by
    obtain ⟨i, hi, rfl⟩ := List.mem_iff_getElem.1 hp
    rw [hYg i hi]
    exact reg_row _
  refine ql_fact (fun w hs => row_shape hs (X := Y) (t := 3) (by repeat constructor) hYn (by omega)) ?_
  intro hYs
  (refine ql_pure tabOk rfl rfl (ql_ext tabOk rfl rfl rfl (ql_ext tabOk rfl rfl rfl (ql_pure tabOk rfl rfl (ql_pure tabOk rfl rfl (q_nil (q_seq (q_region ?_))))))); (iterate 3 refine ql_pure tabOk rfl rfl ?_))
  have hv := hT.v
  have hnV : nV l = n := hv.2
  obtain ⟨hw0, hw1, hw2, hw3⟩ := wax_says hT hxy hyn
  have hb1 := best_yes hv.1 (a := x) (b := y) (by rw [hnV]; simp [inB]; omega)
  have hb2 := best_yes hv.1 (a := 0) (b := (n : Int) - 1) (by rw [hnV]; simp [inB]; omega)
  rw [hnV, Int.toNat_natCast, Int.toNat_natCast] at hb1
  rw [hnV, show ((n : Int) - 1).toNat = n - 1 from by omega, show (0 : Int).toNat = 0 from rfl] at hb2
  generalize waxF (regV l n) x y l.length = p at *
  generalize waxF (regV l n) 0 (n - 1) l.length = pa at *
  obtain ⟨p1, p2⟩ := p
  obtain ⟨pa1, pa2⟩ := pa
  dsimp only at hb1 hb2 hw0 hw1 hw2 hw3
  refine ql_callv (val := .tuple #[.int .i64 p1, .int .i64 p2, .int .i64 0]) tabOk rfl rfl rfl rfl (fun w hs => ?_) ?_; exact by have := wax_ca w 0 w.heap.size _ l x y (by have := own_rdII hs (X := X) (t := 3) (t2 := 26) (v := .slice (some ⟨g9, 0, none⟩) l.length c9) (n := l.length) (by repeat constructor) (by repeat constructor); rw [← hl] at this; exact this); rw [hb1] at this; exact this
  (refine ql_pure tabOk rfl rfl ?_; (iterate 3 refine ql_ext tabOk rfl rfl rfl ?_); (iterate 3 refine ql_pure tabOk rfl rfl ?_); refine q_nil (q_seq (q_region (ql_pure tabOk rfl rfl (ql_pure tabOk rfl rfl (ql_ar tabOk rfl rfl rfl rfl (by omega) (by omega) ?_))))))
  refine ql_callv (val := .tuple #[.int .i64 pa1, .int .i64 pa2, .int .i64 0]) tabOk rfl rfl rfl rfl (fun w hs => ?_) ?_; exact by have := wax_ca w 0 w.heap.size _ l 0 ((n : Int) - 1) (by have := own_rdII hs (X := X) (t := 3) (t2 := 26) (v := .slice (some ⟨g9, 0, none⟩) l.length c9) (n := l.length) (by repeat constructor) (by repeat constructor); rw [← hl] at this; exact this); rw [hb2] at this; exact this
  (refine ql_pure tabOk rfl rfl ?_; (iterate 3 refine ql_ext tabOk rfl rfl rfl ?_); (iterate 3 refine ql_pure tabOk rfl rfl ?_); refine q_nil (q_seq (q_seq (q_region (ql_pure tabOk rfl rfl (ql_neqF tabOk rfl rfl rfl (by omega) (ql_pure tabOk rfl rfl (ql_gyes rfl (ql_pure tabOk rfl rfl (ql_gyes rfl (ql_neqF tabOk rfl rfl rfl (by omega) (ql_pure tabOk rfl rfl ?_))))))))))); refine ql_pure tabOk rfl rfl (ql_gyes rfl (ql_pure tabOk rfl rfl (ql_gyes rfl (ql_neqF tabOk rfl rfl rfl (by omega) (ql_pure tabOk rfl rfl (ql_pure tabOk rfl rfl (ql_gyes rfl (ql_pure tabOk rfl rfl (ql_gyes rfl (ql_pure tabOk rfl rfl (ql_gyes rfl ?_))))))))))); refine ql_pure tabOk rfl rfl (ql_gyes rfl (ql_pure tabOk rfl rfl (ql_gyes rfl (ql_neqF tabOk rfl rfl rfl (by omega) (ql_pure tabOk rfl rfl (ql_pure tabOk rfl rfl (ql_gyes rfl (ql_pure tabOk rfl rfl (ql_gyes rfl (ql_lssF tabOk rfl rfl rfl (by omega) (ql_pure tabOk rfl rfl ?_))))))))))); refine ql_pure tabOk rfl rfl (ql_gyes rfl (ql_pure tabOk rfl rfl (ql_gyes rfl (ql_pure tabOk rfl rfl (ql_gyes rfl (ql_pure tabOk rfl rfl (ql_gyes rfl (ql_geqF tabOk rfl rfl rfl (by omega) (ql_pure tabOk rfl rfl (ql_pure tabOk rfl rfl (ql_gyes rfl ?_))))))))))); refine ql_pure tabOk rfl rfl (ql_gyes rfl (ql_pure tabOk rfl rfl (ql_gyes rfl (ql_lssF tabOk rfl rfl rfl (by omega) (ql_pure tabOk rfl rfl (q_nil (q_cond_false rfl (q_skip (q_seq (q_region ?_)))))))))); (iterate 3 refine ql_pure tabOk rfl rfl ?_); refine ql_remN rfl rfl rfl (by omega) (by omega) (ql_pure tabOk rfl rfl (q_nil (q_seq (q_region (ql_pure tabOk rfl rfl ?_))))))
  rw [em, hsn]
  clear hb1 hb2 hv hnV hsn q3
  refine ql_call (β := Value × List (Value × List Int)) tabOk [] _ M0 rfl rfl rfl rfl (Sp.refl _) (fun _ h => h.elim) (fun w' hs => cloneAll_ca w' 0 w'.heap.size _ l (by have := own_rdII hs (X := X) (t := 3) (t2 := 26) (v := .slice (some ⟨g9, 0, none⟩) l.length c9) (n := l.length) (by repeat constructor) (by repeat constructor); rw [← hl] at this; exact this) (by omega) (fun r hr => by rw [hL.len r hr]; omega)) ?_
  rintro ⟨_, Z⟩ v22 ⟨rfl, hZ⟩
  dsimp only [List.cons_append, List.nil_append] at hZ ⊢
  have hZl : Z.length = l.length := by have := congrArg List.length hZ; rw [List.length_map] at this; exact this
  refine ql_fact (fun w hs => hs.ownSome (v := v22) (by repeat constructor) (by omega)) ?_
  rintro ⟨g22, c22, rfl⟩
  have hZg : ∀ i (hi : i < Z.length), Z[i].2 ∈ l := fun i hi => by rw [← hZ]; exact List.mem_map.2 ⟨_, List.getElem_mem hi, rfl⟩
  have hZn : ∀ p ∈ Z, p.2.length = n := fun p hp => by
    obtain ⟨i, hi, rfl⟩ := List.mem_iff_getElem.1 hp
    exact hL.len _ (hZg i hi)
  refine ql_fact (fun w hs => row_shape hs (X := Z) (t := 3) (by repeat constructor) hZn (by omega)) ?_
  intro hZs
  (refine ql_pure tabOk rfl rfl (q_nil (q_seq (q_seq (q_region ?_)))); (iterate 3 refine ql_pure tabOk rfl rfl ?_); refine q_nil (q_block ?_))
  refine q_loop (σ := Nat) (fun k => k ≤ l.length) (fun k => l.length - k) (fun k => [(3, .int .u8 mo), (9, .slice (some ⟨g9, 0, none⟩) l.length c9), (10, .int .i64 n), (11, .int .i64 x), (12, .int .i64 y), (13, .slice (some ⟨g13, 0, none⟩) l.length c13), (15, .int .i64 p1), (16, .int .i64 p2), (21, .int .i64 sn), (22, .slice (some ⟨g22, 0, none⟩) l.length c22), (111, .int .i64 l.length), (112, .int .i64 k)])
    (fun k => [un (rowsO 3 (addK sn mo Z k)), .ow (.slice (some ⟨g22, 0, none⟩) l.length c22) 26 1 l.length (Z.map (·.1)), un (rowsO 3 Y), .ow (.slice (some ⟨g13, 0, none⟩) l.length c13) 26 1 l.length (Y.map (·.1)), un (rowsO 3 X), .ow (.slice (some ⟨g9, 0, none⟩) l.length c9) 26 1 l.length (X.map (·.1))]) 0 (by omega) ⟨rfl, rfl, rfl, rfl, rfl, rfl, rfl, rfl, rfl, rfl, rfl, rfl, trivial⟩ (by repeat constructor) ?_
  rintro k hk K1 hK1
  (refine q_seq (q_region (ql_pure tabOk rfl rfl (q_nil (q_seq ?_)))))
  refine q_if rfl (fun hc => ?_) (fun hc => ?_)
  · have hk2 : k < l.length := by omega
    have hk3 : k < Z.length := by omega
    clear hc
    obtain ⟨gk, ck, ek⟩ := hZs k hk3
    have hkn := hZn _ (List.getElem_mem hk3)
    have hks : sn < Z[k].2.length := by omega
    have hkb := hL.num _ (hZg k hk3) _ (List.getElem_mem hks)
    (refine q_skip (q_seq (q_block (q_seq (q_region (ql_pure tabOk rfl rfl (ql_pure tabOk rfl rfl (q_nil (q_region (ql_pure tabOk rfl rfl (ql_pure tabOk rfl rfl ?_)))))))))))
    have ew : IntKind.i64.wrap mo = mo := em
    refine ql_conv (H' := [.ow (.slice (some ⟨gk, 0, none⟩) n ck) 3 1 n (ints Z[k].2), un (rowsO 3 ((addK sn mo Z k).eraseIdx k)), .ow (.slice (some ⟨g22, 0, none⟩) l.length c22) 26 1 l.length (Z.map (·.1)), un (rowsO 3 Y), .ow (.slice (some ⟨g13, 0, none⟩) l.length c13) 26 1 l.length (Y.map (·.1)), un (rowsO 3 X), .ow (.slice (some ⟨g9, 0, none⟩) l.length c9) 26 1 l.length (X.map (·.1))]) (fun w' hs => by
      have h1 := rows_out k (by rw [addK_len]; exact hk3) hs
      rw [addK_get sn mo Z k hk3, ek, hkn] at h1
      exact h1) ?_
    skip
    refine ql_index tabOk rfl rfl rfl rfl rfl (by omega) (by omega) ?_
    refine ql_load1 (v := .slice (some ⟨gk, 0, none⟩) n ck) tabOk rfl rfl rfl (fun w hs => row_cell hs (t := 26) (X := Z) (by repeat constructor) hk3 ek rfl) ?_
    (refine ql_pure tabOk rfl rfl ?_)
    refine ql_index tabOk rfl rfl rfl rfl rfl (by omega) (by omega) ?_
    refine ql_load1 (v := .int .i64 Z[k].2[sn]) tabOk rfl rfl rfl (fun w hs => RdI.at (hs.rdI (v := .slice (some ⟨gk, 0, none⟩) n ck) (l := Z[k].2) (t := 3) (n := n) (by repeat constructor) hkn.symm) sn hks) ?_
    (refine ql_pure tabOk rfl rfl (ql_pure tabOk rfl rfl (ql_ar tabOk rfl rfl rfl rfl (by omega) (by omega) ?_)))
    refine ql_index tabOk rfl rfl rfl rfl rfl (by omega) (by omega) ?_
    refine ql_storeW tabOk sn rfl rfl rfl rfl (by repeat constructor) (by omega) (by simp [ints]; omega) ?_
    (refine q_nil (q_blk (q_region (ql_ar tabOk rfl rfl rfl rfl (by omega) (by omega) (ql_pure tabOk rfl rfl (q_nil ?_))))))
    rw [ew]
    refine q_conv (H' := [un (rowsO 3 (addK sn mo Z (k + 1))), .ow (.slice (some ⟨g22, 0, none⟩) l.length c22) 26 1 l.length (Z.map (·.1)), un (rowsO 3 Y), .ow (.slice (some ⟨g13, 0, none⟩) l.length c13) 26 1 l.length (Y.map (·.1)), un (rowsO 3 X), .ow (.slice (some ⟨g9, 0, none⟩) l.length c9) 26 1 l.length (X.map (·.1))]) (fun w' hs => by
      have h1 := rows_put (t := 3) (Y := addK sn mo Z k) k (by rw [addK_len]; exact hk3) (.slice (some ⟨gk, 0, none⟩) n ck) (Z[k].2.set sn (Z[k].2[sn] + mo)) (R := [.ow (.slice (some ⟨g22, 0, none⟩) l.length c22) 26 1 l.length (Z.map (·.1)), un (rowsO 3 Y), .ow (.slice (some ⟨g13, 0, none⟩) l.length c13) 26 1 l.length (Y.map (·.1)), un (rowsO 3 X), .ow (.slice (some ⟨g9, 0, none⟩) l.length c9) 26 1 l.length (X.map (·.1))]) (by
        rw [List.length_set, hkn]
        have e : ints (Z[k].2.set sn (Z[k].2[sn] + mo)) = (ints Z[k].2).set sn (.int .i64 (Z[k].2[sn] + mo)) := by unfold ints; rw [List.map_set]
        rw [e]
        exact hs.sp (by repeat constructor))
      have e2 : (fun _ : Value × List Int => ((Value.slice (some ⟨gk, 0, none⟩) n ck), (Z[k].2.set sn (Z[k].2[sn] + mo)))) = fun _ => addR sn mo Z[k] := by
        funext _
        unfold addR
        rw [ek, getD_get hks]
      rw [e2, addK_step sn mo Z k hk3] at h1
      exact h1) ?_
    exact hK1 (k + 1) _ _ (by omega) (by omega) ⟨rfl, rfl, rfl, rfl, rfl, rfl, rfl, rfl, rfl, rfl, rfl, rfl, trivial⟩ (by repeat constructor)
  · obtain rfl : k = l.length := by omega
    clear hc hK1 hk
    have hWT := hL.worse (s := sn) (d := mo) (by omega) (by omega) hmo.1 (by omega)
    have hWr := worse_reg (l := l) (n := n) (s := sn) (d := mo) (by intro e; rw [e] at hl1; simp at hl1) hL.len hsn2
    have eW : (addK sn mo Z l.length).map (·.2) = worseV l sn mo := by rw [← hZl, addK_all, hZ]
    have eF : Z.map (·.1) = (addK sn mo Z l.length).map (·.1) := (addK_fst _ _ _ _).symm
    rw [eF]
    generalize addK sn mo Z l.length = Z' at *
    (refine q_exit _ rfl (q_seq (q_region (ql_pure tabOk rfl rfl ?_))))
    refine ql_call (β := Value × List (Value × List Int)) tabOk [] _ M0 rfl rfl rfl rfl (Sp.refl _) (fun _ h => h.elim) (fun w' hs => regrets_ca w' 0 w'.heap.size _ (worseV l sn mo) n (by have := own_rdII hs (X := Z') (t := 3) (t2 := 26) (v := .slice (some ⟨g22, 0, none⟩) l.length c22) (n := l.length) (by repeat constructor) (by repeat constructor); rw [eW] at this; exact this) hWT) ?_
    rintro ⟨v24, Y'⟩ _ ⟨rfl, hY'⟩
    dsimp only [List.cons_append, List.nil_append] at hY' ⊢
    rw [hWr] at hY'
    refine ql_fact (fun w hs => hs.slice2 (v := v24) (by repeat constructor)) ?_
    rintro ⟨a24, c24, rfl⟩
    rw [worseV_len]
    (refine ql_pure tabOk rfl rfl (ql_ext tabOk rfl rfl rfl (ql_ext tabOk rfl rfl rfl (ql_pure tabOk rfl rfl (ql_pure tabOk rfl rfl (q_nil (q_seq (q_seq (q_region (ql_pure tabOk rfl rfl (ql_neqF tabOk rfl rfl rfl (by omega) (ql_pure tabOk rfl rfl ?_))))))))))); refine ql_gyes rfl (ql_pure tabOk rfl rfl (ql_gyes rfl (ql_pure tabOk rfl rfl (ql_gyes rfl ?_)))))
    refine ql_callv (val := .bool true) tabOk rfl rfl rfl rfl (fun w hs => ?_) ?_; exact eqII_ca w 0 w.heap.size 0 w.heap.size _ _ (regV l n) (by have := own_rdII hs (X := Y) (t := 3) (t2 := 26) (v := .slice (some ⟨g13, 0, none⟩) l.length c13) (n := l.length) (by repeat constructor) (by repeat constructor); rw [hY] at this; exact this) (by have := own_rdII hs (X := Y') (t := 3) (t2 := 26) (v := .slice a24 l.length c24) (n := l.length) (by repeat constructor) (by repeat constructor); rw [hY'] at this; exact this) (by rw [regV_len]; omega) (fun r hr => by obtain ⟨i, hi, rfl⟩ := List.mem_iff_getElem.1 hr; rw [reg_row]; omega)
    refine ql_conv (H' := [un (rowsO 3 Y), .ow (.slice (some ⟨g13, 0, none⟩) l.length c13) 26 1 l.length (Y.map (·.1)), un (rowsO 3 X), .ow (.slice (some ⟨g9, 0, none⟩) l.length c9) 26 1 l.length (X.map (·.1))]) (fun w' hs => hs.sp (by repeat constructor)) ?_
    clear hY' eW hWT hWr hZs hZn hZg hZl hZ
    (refine ql_gyes rfl (ql_pure tabOk rfl rfl (ql_pure tabOk rfl rfl (q_nil (q_cond_false rfl (q_skip (q_seq (q_seq (q_region ?_)))))))); (iterate 3 refine ql_pure tabOk rfl rfl ?_); refine q_nil (q_block ?_))
    refine q_loop (σ := Nat) (fun k => k ≤ l.length) (fun k => l.length - k) (fun k => [(9, .slice (some ⟨g9, 0, none⟩) l.length c9), (10, .int .i64 n), (11, .int .i64 x), (12, .int .i64 y), (13, .slice (some ⟨g13, 0, none⟩) l.length c13), (15, .int .i64 p1), (16, .int .i64 p2), (140, .slice (some ⟨g13, 0, none⟩) l.length c13), (141, .int .i64 l.length), (142, .int .i64 k)])
      (fun _ => [un (rowsO 3 Y), .ow (.slice (some ⟨g13, 0, none⟩) l.length c13) 26 1 l.length (Y.map (·.1)), un (rowsO 3 X), .ow (.slice (some ⟨g9, 0, none⟩) l.length c9) 26 1 l.length (X.map (·.1))]) 0 (by omega) ⟨rfl, rfl, rfl, rfl, rfl, rfl, rfl, rfl, rfl, rfl, trivial⟩ (by repeat constructor) ?_
    rintro k hk K1 hK1
    (refine q_seq (q_region (ql_pure tabOk rfl rfl (q_nil (q_seq ?_)))))
    refine q_if rfl (fun hc => ?_) (fun hc => ?_)
    · have hk2 : k < l.length := by omega
      have hk3 : k < Y.length := by omega
      clear hc
      obtain ⟨gk, ck, ek⟩ := hYs k hk3
      have hkn := hYn _ (List.getElem_mem hk3)
      obtain ⟨f1, f2, f3⟩ := hw3 k (by rw [regV_len]; exact hk2)
      rw [← hYg k hk3] at f1 f2 f3
      (refine q_skip (q_seq (q_block (q_seq (q_region (ql_pure tabOk rfl rfl ?_))))))
      refine ql_index tabOk rfl rfl rfl rfl rfl (by omega) (by omega) ?_
      refine ql_load1 (v := .slice (some ⟨gk, 0, none⟩) n ck) tabOk rfl rfl rfl (fun w hs => row_cell hs (t := 26) (X := Y) (by repeat constructor) hk3 ek rfl) ?_
      refine ql_fact (fun w hs => (wx_row hs (t := 3) (xs := Y) (by repeat constructor) k hk3).2 _ _ _ ek) ?_
      intro hcap
      (refine ql_pure tabOk rfl rfl (ql_pure tabOk rfl rfl (q_nil (q_seq (q_seq (q_region ?_))))); (iterate 3 refine ql_pure tabOk rfl rfl ?_); refine ql_neqF tabOk rfl rfl rfl (by omega) (q_nil (q_cond_false rfl (q_skip (q_seq (q_region ?_))))); (iterate 3 refine ql_pure tabOk rfl rfl ?_); refine ql_ar tabOk rfl rfl rfl rfl (by omega) (by omega) ?_)
      obtain ⟨u, ul, hu⟩ : ∃ u ul, spanL Y[k].2 x y = u :: ul := by
        cases hx : spanL Y[k].2 x y with
        | nil =>
          exfalso
          have := congrArg List.length hx
          unfold spanL at this
          rw [List.length_take, List.length_drop] at this
          simp at this
          omega
        | cons u ul => exact ⟨u, ul, rfl⟩
      have eT : topR Y[k].2 x y = maxF u ul := by unfold topR; rw [hu]
      have hlen : ul.length + 1 = y + 1 - x := by
        have := congrArg List.length hu
        unfold spanL at this
        rw [List.length_take, List.length_drop] at this
        simp at this
        omega
      rw [eT] at f1 f2 f3
      have hsp : spanL Y[k].2 x y = (Y[k].2.drop x).take (y + 1 - x) := rfl
      refine ql_part (et := 3) (sz := 1) (by kernel_rfl) (by kernel_rfl) rfl rfl rfl rfl (by omega) (by omega) (by omega) ?_
      refine ql_callv (val := .int .i64 (maxF u ul)) tabOk rfl rfl rfl rfl (fun w hs => ?_) ?_; exact maxI_ca w 0 w.heap.size _ u ul (by have := RdI.part (c2 := ck - x) (k := x) (h := y + 1) (m := y + 1 - x) (by have := (wx_row hs (t := 3) (xs := Y) (by repeat constructor) k hk3).1; rw [ek] at this; exact this) (by omega) (by omega) rfl; rw [← hsp, hu] at this; exact this) (by omega)
      generalize maxF u ul = top at f1 f2 f3 ⊢
      clear eT hlen hsp hu hcap
      by_cases hE : top = p2
      · by_cases hkp : (k : Int) = p1
        · (refine ql_pure tabOk rfl rfl (q_nil (q_seq (q_region (ql_pure tabOk rfl rfl (ql_pure tabOk rfl rfl (ql_lssF tabOk rfl rfl rfl (by omega) (ql_pure tabOk rfl rfl (ql_gyes rfl (ql_pure tabOk rfl rfl (ql_gyes rfl (ql_pure tabOk rfl rfl ?_))))))))))); refine ql_gyes rfl (ql_eqlT tabOk rfl rfl rfl (by omega) (ql_gyes rfl (ql_pure tabOk rfl rfl (ql_gyes rfl (ql_pure tabOk rfl rfl (ql_gyes rfl (ql_pure tabOk rfl rfl (ql_gyes rfl (ql_lssF tabOk rfl rfl rfl (by omega) (ql_gyes rfl ?_)))))))))); (iterate 3 refine ql_pure tabOk rfl rfl ?_); refine ql_gyes rfl (ql_pure tabOk rfl rfl (ql_gyes rfl (ql_pure tabOk rfl rfl (ql_gyes rfl (ql_eqlT tabOk rfl rfl rfl (by omega) (ql_gyes rfl (ql_pure tabOk rfl rfl (ql_gyes rfl (ql_pure tabOk rfl rfl (ql_gyes rfl (ql_pure tabOk rfl rfl ?_))))))))))); refine ql_gyes rfl (ql_neqF tabOk rfl rfl rfl (by omega) (ql_gyes rfl (ql_pure tabOk rfl rfl (ql_pure tabOk rfl rfl (q_nil (q_cond_false rfl (q_skip (q_blk (q_region (ql_ar tabOk rfl rfl rfl rfl (by omega) (by omega) (ql_pure tabOk rfl rfl ?_))))))))))); refine q_nil ?_)
          exact hK1 (k + 1) _ _ (by omega) (by omega) ⟨rfl, rfl, rfl, rfl, rfl, rfl, rfl, rfl, rfl, rfl, trivial⟩ (by repeat constructor)
        · have : ¬ (k : Int) < p1 := fun h => by have := f2 h; omega
          (refine ql_pure tabOk rfl rfl (q_nil (q_seq (q_region (ql_pure tabOk rfl rfl (ql_pure tabOk rfl rfl (ql_lssF tabOk rfl rfl rfl (by omega) (ql_pure tabOk rfl rfl (ql_gyes rfl (ql_pure tabOk rfl rfl (ql_gyes rfl (ql_pure tabOk rfl rfl ?_))))))))))); refine ql_gyes rfl (ql_eqlT tabOk rfl rfl rfl (by omega) (ql_gyes rfl (ql_pure tabOk rfl rfl (ql_gyes rfl (ql_pure tabOk rfl rfl (ql_gyes rfl (ql_pure tabOk rfl rfl (ql_gyes rfl (ql_lssF tabOk rfl rfl rfl (by omega) (ql_gyes rfl ?_)))))))))); (iterate 3 refine ql_pure tabOk rfl rfl ?_); refine ql_gyes rfl (ql_pure tabOk rfl rfl (ql_gyes rfl (ql_pure tabOk rfl rfl (ql_gyes rfl (ql_eqlF tabOk rfl rfl rfl (by omega) (ql_gyes rfl (ql_pure tabOk rfl rfl ?_))))))); (iterate 3 refine ql_gno rfl rfl rfl ?_); refine ql_gyes rfl (ql_pure tabOk rfl rfl (ql_pure tabOk rfl rfl (q_nil (q_cond_false rfl (q_skip (q_blk (q_region (ql_ar tabOk rfl rfl rfl rfl (by omega) (by omega) (ql_pure tabOk rfl rfl (q_nil ?_)))))))))))
          exact hK1 (k + 1) _ _ (by omega) (by omega) ⟨rfl, rfl, rfl, rfl, rfl, rfl, rfl, rfl, rfl, rfl, trivial⟩ (by repeat constructor)
      · have hkp : ¬ (k : Int) = p1 := fun h => hE (f3 h)
        (refine ql_pure tabOk rfl rfl (q_nil (q_seq (q_region (ql_pure tabOk rfl rfl (ql_pure tabOk rfl rfl (ql_lssF tabOk rfl rfl rfl (by omega) (ql_pure tabOk rfl rfl (ql_gyes rfl (ql_pure tabOk rfl rfl (ql_gyes rfl (ql_pure tabOk rfl rfl ?_))))))))))); refine ql_gyes rfl (ql_eqlF tabOk rfl rfl rfl (by omega) (ql_gyes rfl (ql_pure tabOk rfl rfl ?_))); (iterate 3 refine ql_gno rfl rfl rfl ?_); refine ql_gyes rfl ?_; (iterate 3 refine ql_pure tabOk rfl rfl ?_); refine ql_gyes rfl (ql_pure tabOk rfl rfl (ql_gyes rfl (ql_pure tabOk rfl rfl (ql_gyes rfl (ql_eqlF tabOk rfl rfl rfl (by omega) (ql_gyes rfl (ql_pure tabOk rfl rfl ?_))))))); (iterate 3 refine ql_gno rfl rfl rfl ?_); refine ql_gyes rfl (ql_pure tabOk rfl rfl (ql_pure tabOk rfl rfl (q_nil (q_cond_false rfl (q_skip (q_blk (q_region (ql_ar tabOk rfl rfl rfl rfl (by omega) (by omega) (ql_pure tabOk rfl rfl (q_nil ?_)))))))))))
        exact hK1 (k + 1) _ _ (by omega) (by omega) ⟨rfl, rfl, rfl, rfl, rfl, rfl, rfl, rfl, rfl, rfl, trivial⟩ (by repeat constructor)
    · obtain rfl : k = l.length := by omega
      clear hc hK1 hk hw3
      (refine q_exit _ rfl (q_seq (q_seq (q_region (ql_pure tabOk rfl rfl (ql_pure tabOk rfl rfl (q_nil (q_block ?_))))))))
      refine q_loop (σ := Nat) (fun s => s ≤ n) (fun s => n - s) (fun s => [(9, .slice (some ⟨g9, 0, none⟩) l.length c9), (13, .slice (some ⟨g13, 0, none⟩) l.length c13), (181, .int .i64 n), (182, .int .i64 s)])
        (fun _ => [un (rowsO 3 Y), .ow (.slice (some ⟨g13, 0, none⟩) l.length c13) 26 1 l.length (Y.map (·.1)), un (rowsO 3 X), .ow (.slice (some ⟨g9, 0, none⟩) l.length c9) 26 1 l.length (X.map (·.1))]) 0 (by omega) ⟨rfl, rfl, rfl, rfl, trivial⟩ (by repeat constructor) ?_
      rintro s hs1 K1 hK1
      (refine q_seq (q_region (ql_pure tabOk rfl rfl (q_nil (q_seq ?_)))))
      refine q_if rfl (fun hc => ?_) (fun hc => ?_)
      · have hs2 : s < n := by omega
        clear hc
        obtain ⟨gy, cy, ey⟩ := hYs 0 (by omega)
        have y0n := hYn _ (List.getElem_mem (show 0 < Y.length by omega))
        have x0n := hXn _ (List.getElem_mem (show 0 < X.length by omega))
        have hgY : ∀ i (hi : i < Y.length), Y[i].2.getD s 0 = gt (regV l n) i s := fun i hi => by
          unfold gt
          rw [hYg i hi, List.getD_eq_getElem?_getD (l := regV l n), List.getElem?_eq_getElem (by rw [regV_len]; omega), Option.getD_some]
        have hgX : ∀ i (hi : i < X.length), X[i].2.getD s 0 = gt l i s := fun i hi => by
          unfold gt
          have hi2 : i < l.length := by omega
          have e : X[i].2 = l[i] := by subst hl; simp
          rw [e, List.getD_eq_getElem?_getD (l := l), List.getElem?_eq_getElem hi2, Option.getD_some]
        (refine q_skip (q_seq (q_block (q_seq (q_region (ql_pure tabOk rfl rfl (ql_pure tabOk rfl rfl (q_nil (q_seq (q_region (ql_pure tabOk rfl rfl ?_)))))))))))
        refine ql_index tabOk rfl rfl rfl rfl rfl (by omega) (by omega) ?_
        refine ql_load1 (v := .slice (some ⟨gy, 0, none⟩) n cy) tabOk rfl rfl rfl (fun w hs => row_cell hs (t := 26) (X := Y) (by repeat constructor) (i := 0) (by omega) ey rfl) ?_
        (refine ql_pure tabOk rfl rfl ?_)
        refine ql_index tabOk rfl rfl rfl rfl rfl (by omega) (by omega) ?_
        refine ql_load1 (v := .int .i64 (gt (regV l n) 0 s)) tabOk rfl rfl rfl (fun w hs => row_at hs (t := 3) (X := Y) (by repeat constructor) (i := 0) (by omega) ey (by omega) (hgY 0 (by omega)) (by omega)) ?_
        (refine ql_pure tabOk rfl rfl (q_nil (q_seq (q_seq (q_region ?_)))); (iterate 3 refine ql_pure tabOk rfl rfl ?_); refine q_nil (q_block ?_))
        refine q_loop (σ := Nat) (fun i => i ≤ l.length) (fun i => l.length - i) (fun i => [(9, .slice (some ⟨g9, 0, none⟩) l.length c9), (13, .slice (some ⟨g13, 0, none⟩) l.length c13), (28, .int .i64 s), (29, .int .i64 (minF (gt (regV l n) 0 s) (((regV l n).take i).map fun row => row.getD s 0))), (181, .int .i64 n), (182, .int .i64 s), (191, .slice (some ⟨g13, 0, none⟩) l.length c13), (192, .int .i64 l.length), (193, .int .i64 i)])
          (fun _ => [un (rowsO 3 Y), .ow (.slice (some ⟨g13, 0, none⟩) l.length c13) 26 1 l.length (Y.map (·.1)), un (rowsO 3 X), .ow (.slice (some ⟨g9, 0, none⟩) l.length c9) 26 1 l.length (X.map (·.1))]) 0 (by omega) ⟨rfl, rfl, rfl, rfl, rfl, rfl, rfl, rfl, rfl, trivial⟩ (by repeat constructor) ?_
        rintro i hi K2 hK2
        (refine q_seq (q_region (ql_pure tabOk rfl rfl (q_nil (q_seq ?_)))))
        refine q_if rfl (fun hc => ?_) (fun hc => ?_)
        · have hi2 : i < l.length := by omega
          have hi3 : i < Y.length := by omega
          have hi4 : i < X.length := by omega
          clear hc
          obtain ⟨gi, ci, ei⟩ := hYs i hi3
          obtain ⟨gx, cx, ex⟩ := hX i hi4
          have yin := hYn _ (List.getElem_mem hi3)
          have xin := hXn _ (List.getElem_mem hi4)
          have hst := low_step (regV l n) (gt (regV l n) 0 s) s i (by rw [regV_len]; exact hi2)
          have hgi : (regV l n)[i]'(by rw [regV_len]; exact hi2) = Y[i].2 := (hYg i hi3).symm
          rw [hgi, hgY i hi3] at hst
          have hd := reg_diff (l := l) (n := n) hi2 hs2
          have bR : ∀ j (hj : j < Y.length), 0 ≤ gt (regV l n) j s ∧ gt (regV l n) j s ≤ 10000 := fun j hj => by
            rw [← hgY j hj]
            have h1 := hYn _ (List.getElem_mem hj)
            exact reg_num hT _ (by rw [← hY]; exact List.mem_map.2 ⟨_, List.getElem_mem hj, rfl⟩) _ (getD_mem (by omega))
          have bL : ∀ j (hj : j < X.length), 0 ≤ gt l j s ∧ gt l j s ≤ 200 := fun j hj => by
            rw [← hgX j hj]
            have h1 := hXn _ (List.getElem_mem hj)
            exact hL.num _ (by rw [hl]; exact List.mem_map.2 ⟨_, List.getElem_mem hj, rfl⟩) _ (getD_mem (by omega))
          have b1 := bR i hi3
          have b2 := bR 0 (by omega)
          have b3 := bL i hi4
          have b4 := bL 0 (by omega)
          (refine q_skip (q_seq (q_block (q_seq (q_region (ql_pure tabOk rfl rfl ?_))))))
          refine ql_index tabOk rfl rfl rfl rfl rfl (by omega) (by omega) ?_
          refine ql_load1 (v := .slice (some ⟨gi, 0, none⟩) n ci) tabOk rfl rfl rfl (fun w hs => row_cell hs (t := 26) (X := Y) (by repeat constructor) hi3 ei rfl) ?_
          (refine ql_pure tabOk rfl rfl (ql_pure tabOk rfl rfl (q_nil (q_seq (q_region ?_)))); (iterate 3 refine ql_pure tabOk rfl rfl ?_))
          refine ql_index tabOk rfl rfl rfl rfl rfl (by omega) (by omega) ?_
          refine ql_load1 (v := .int .i64 (gt (regV l n) i s)) tabOk rfl rfl rfl (fun w hs => row_at hs (t := 3) (X := Y) (by repeat constructor) hi3 ei (by omega) (hgY i hi3) (by omega)) ?_
          (refine ql_pure tabOk rfl rfl (ql_pure tabOk rfl rfl (q_nil (q_seq ?_))))
          rw [← hst]
          refine q_draw _ [] (Sp.refl _) (by kernel_rfl) (by kernel_rfl) ?_
          (refine qf_pure tabOk rfl rfl rfl (qf_pure tabOk rfl rfl rfl ?_))
          refine qf_index tabOk rfl rfl rfl rfl rfl (by omega) (by omega) ?_
          refine qf_load1 (v := .int .i64 (gt (regV l n) i s)) tabOk rfl rfl rfl (fun w hs => row_at hs (t := 3) (X := Y) (by repeat constructor) hi3 ei (by omega) (hgY i hi3) (by omega)) ?_
          (refine qf_pure tabOk rfl rfl rfl ?_)
          refine qf_index tabOk rfl rfl rfl rfl rfl (by omega) (by omega) ?_
          refine qf_load1 (v := .slice (some ⟨gy, 0, none⟩) n cy) tabOk rfl rfl rfl (fun w hs => row_cell hs (t := 26) (X := Y) (by repeat constructor) (i := 0) (by omega) ey rfl) ?_
          (refine qf_pure tabOk rfl rfl rfl ?_)
          refine qf_index tabOk rfl rfl rfl rfl rfl (by omega) (by omega) ?_
          refine qf_load1 (v := .int .i64 (gt (regV l n) 0 s)) tabOk rfl rfl rfl (fun w hs => row_at hs (t := 3) (X := Y) (by repeat constructor) (i := 0) (by omega) ey (by omega) (hgY 0 (by omega)) (by omega)) ?_
          (refine qf_ar tabOk rfl rfl rfl rfl (by omega) (by omega) (qf_pure tabOk rfl rfl rfl (qf_pure tabOk rfl rfl rfl ?_)))
          refine qf_index tabOk rfl rfl rfl rfl rfl (by omega) (by omega) ?_
          refine qf_load1 (v := .slice (some ⟨gx, 0, none⟩) n cx) tabOk rfl rfl rfl (fun w hs => row_cell hs (t := 26) (X := X) (by repeat constructor) hi4 ex rfl) ?_
          (refine qf_pure tabOk rfl rfl rfl ?_)
          refine qf_index tabOk rfl rfl rfl rfl rfl (by omega) (by omega) ?_
          refine qf_load1 (v := .int .i64 (gt l i s)) tabOk rfl rfl rfl (fun w hs => row_at hs (t := 3) (X := X) (by repeat constructor) hi4 ex (by omega) (hgX i hi4) (by omega)) ?_
          (refine qf_pure tabOk rfl rfl rfl ?_)
          refine qf_index tabOk rfl rfl rfl rfl rfl (by omega) (by omega) ?_
          refine qf_load1 (v := .slice (some ⟨g0, 0, none⟩) n c0) tabOk rfl rfl rfl (fun w hs => row_cell hs (t := 26) (X := X) (by repeat constructor) (i := 0) (by omega) e0 rfl) ?_
          (refine qf_pure tabOk rfl rfl rfl ?_)
          refine qf_index tabOk rfl rfl rfl rfl rfl (by omega) (by omega) ?_
          refine qf_load1 (v := .int .i64 (gt l 0 s)) tabOk rfl rfl rfl (fun w hs => row_at hs (t := 3) (X := X) (by repeat constructor) (i := 0) (by omega) e0 (by omega) (hgX 0 (by omega)) (by omega)) ?_
          generalize gt (regV l n) i s = r1 at hd b1
          generalize gt l i s = r3 at hd b3
          generalize gt l 0 s = r4 at hd b4
          (refine qf_ar tabOk rfl rfl rfl rfl (by omega) (by omega) (qf_neqF tabOk rfl rfl rfl (by omega) (qf_nil (q_cond_false rfl (q_skip (q_blk (q_region (ql_ar tabOk rfl rfl rfl rfl (by omega) (by omega) (ql_pure tabOk rfl rfl (q_nil ?_))))))))))
          exact hK2 (i + 1) _ _ (by omega) (by omega) ⟨rfl, rfl, rfl, rfl, rfl, rfl, rfl, rfl, rfl, trivial⟩ (by repeat constructor)
        · obtain rfl : i = l.length := by omega
          have hz0 : minF (gt (regV l n) 0 s) (((regV l n).take l.length).map fun row => row.getD s 0) = 0 := by
            have := reg_low (l := l) (n := n) (s := s) hl1 hs2
            rw [show l.length = (regV l n).length from (regV_len l n).symm, List.take_length]
            exact this
          rw [hz0]
          (refine q_exit _ rfl (q_seq (q_region (ql_pure tabOk rfl rfl (ql_neqF tabOk rfl rfl rfl (by omega) (q_nil (q_cond_false rfl (q_skip (q_blk (q_region (ql_ar tabOk rfl rfl rfl rfl (by omega) (by omega) (ql_pure tabOk rfl rfl ?_))))))))))); refine q_nil ?_)
          exact hK1 (s + 1) _ _ (by omega) (by omega) ⟨rfl, rfl, rfl, rfl, trivial⟩ (by repeat constructor)
      · (refine q_exit _ rfl (q_seq (q_region ?_)))
        refine ql_callv (val := .bool true) tabOk rfl rfl rfl rfl (fun w hs => ?_) ?_; exact awake_ca w
        (refine ql_pure tabOk rfl rfl (q_nil (q_ret ?_)))
        refine q_fin tabOk rfl (by repeat constructor) fun w hs => ?_
        exact ⟨rfl, hs.chg0⟩
end Go.Proofs.Ytcmpdmobmbbplaa
