/- Walks: IndexFunc, ContainsFunc, klister/wind.every: alike for each element type. Written by gen_every.py. -/
import Derived.Test.YtmbifbippnncoaaTab
import Derived.Test.YtmbifbippnncoaaLib1
namespace Go.Proofs.Ytmbifbippnncoaa
open Go Go.Eng

set_option maxHeartbeats 1000000 in
theorem idxF_int (w : World) (lo hi : Nat) (v cv : Value) (es : List Value) (p : Value → Bool) (hrd : RdE w lo hi v 1 es) (hone : ∀ i (hi : i < es.length), oneV es[i] = true) (hlen : es.length < 4611686018427387904) (hp : PredAt Try.prog tab w cv es p) :
    Ca Try.prog 57 [v, cv] w fun r w' => ((∃ i : Nat, r = .int .i64 i ∧ ∃ hi : i < es.length, p es[i] = true) ∨ (r = .int .i64 (-1) ∧ ∀ x ∈ es, p x = false)) ∧ Chg [] w w' := by
  obtain ⟨a, cap, rfl, hsl⟩ := hrd.out
  obtain ⟨g, first, caps, rfl, hg, hcl⟩ := hp
  refine ca_of Try.func57 rfl (by simp [Try.ntmps57]) ?_
  (refine y_seq ?_; refine y_region ?_; refine yl_pure tabOk rfl rfl ?_; (iterate 2 refine y_seq ?_); refine y_region ?_; (iterate 3 refine yl_pure tabOk rfl rfl ?_); refine y_block ?_)
  refine y_loop (fun m l wr => ∃ k : Nat, k ≤ es.length ∧ m = es.length - k ∧ l = [(0, .slice a es.length cap), (1, .func (.func g) first caps), (7, .int .i64 es.length), (8, .int .i64 k)] ∧ (∀ i (hi : i < es.length), i < k → p es[i] = false) ∧ Chg [] w wr) (m := es.length)
    ⟨0, by omega, rfl, rfl, fun i _ hi => by omega, Chg.refl _ _⟩ ⟨rfl, rfl, rfl, rfl, trivial⟩ ?_
  rintro m l wr ⟨k, hkl, rfl, rfl, hpk, hcw⟩ K hK
  (refine y_seq ?_; refine y_region ?_; refine yl_pure tabOk rfl rfl ?_; refine y_seq ?_)
  refine y_if rfl (fun hc => ?_) (fun hc => ?_)
  · have hk : k < es.length := by omega
    obtain ⟨b, off, rfl⟩ := hsl (by omega)
    (refine y_skip ?_; refine y_seq ?_; refine y_block ?_; refine y_seq ?_; refine y_region ?_; (iterate 2 refine yl_pure tabOk rfl rfl ?_); refine y_seq ?_; refine y_region ?_; (iterate 3 refine yl_pure tabOk rfl rfl ?_))
    refine yl_index tabOk rfl rfl rfl rfl rfl (by omega) (by omega) ?_
    refine yl_load1 tabOk rfl rfl rfl (v := es[k]) (by rw [show (Int.toNat (k : Int)) = k from rfl]; exact (hrd.keep hcw).cell1 k hk (hone k hk)) ?_
    refine yl_call tabOk rfl hg rfl rfl (hcl wr hcw es[k] (List.getElem_mem hk)) ?_
    rintro _ w2 ⟨rfl, hc2⟩
    (refine yl_nil ?_)
    refine y_cond rfl (fun hc => ?_) (fun hc => ?_)
    · (refine y_seq ?_; refine y_region ?_; (iterate 2 refine yl_pure tabOk rfl rfl ?_); refine y_ret ?_)
      exact y_fin1 rfl rfl ⟨.inl ⟨k, rfl, hk, hc⟩, hcw.trans hc2⟩
    · (refine y_skip ?_; refine y_region ?_; (iterate 2 refine yl_pure tabOk rfl rfl ?_); refine yl_nil ?_)
      refine y_k (hK _ _ _ _ ⟨k + 1, by omega, rfl, rfl, fun i hi hik => ?_, hcw.trans hc2⟩ (by omega) ⟨rfl, rfl, rfl, ?_, trivial⟩)
      · by_cases h : i < k
        · exact hpk i hi h
        · obtain rfl : i = k := by omega
          exact hc
      · show some (Value.int _ (IntKind.i64.wrap (↑k + 1))) = _
        rw [w64 (by omega) (by omega)]
        rfl
  · (refine y_exit _ rfl ?_; refine y_seq ?_; refine y_region ?_; refine yl_pure tabOk rfl rfl ?_; refine y_ret ?_)
    refine y_fin1 rfl rfl ⟨.inr ⟨rfl, fun x hx => ?_⟩, hcw⟩
    obtain ⟨i, hi, rfl⟩ := List.getElem_of_mem hx
    exact hpk i hi (by omega)

theorem conF_int (w : World) (lo hi : Nat) (v cv : Value) (es : List Value) (p : Value → Bool) (hrd : RdE w lo hi v 1 es) (hone : ∀ i (hi : i < es.length), oneV es[i] = true) (hlen : es.length < 4611686018427387904) (hp : PredAt Try.prog tab w cv es p) :
    Ca Try.prog 52 [v, cv] w fun r w' => r = .bool (es.any p) ∧ Chg [] w w' := by
  refine ca_of Try.func52 rfl (by simp [Try.ntmps52]) ?_
  (refine y_seq ?_; refine y_region ?_; refine yl_pure tabOk rfl rfl ?_; refine y_seq ?_; refine y_region ?_; (iterate 2 refine yl_pure tabOk rfl rfl ?_))
  refine yl_call tabOk rfl rfl rfl rfl (idxF_int w lo hi v cv es p hrd hone hlen hp) ?_
  rintro r w2 ⟨⟨i, rfl, hi, hpi⟩ | ⟨rfl, hall⟩, hc2⟩
  · ((iterate 2 refine yl_pure tabOk rfl rfl ?_); refine y_ret ?_)
    refine y_fin1 rfl rfl ⟨?_, hc2⟩
    have h1 : es.any p = true := List.any_eq_true.2 ⟨_, List.getElem_mem hi, hpi⟩
    rw [h1]
    exact congrArg Value.bool (decide_eq_true (by omega))
  · ((iterate 2 refine yl_pure tabOk rfl rfl ?_); refine y_ret ?_)
    refine y_fin1 rfl rfl ⟨?_, hc2⟩
    have h1 : es.any p = false := List.any_eq_false.2 (fun x hx => by simp [hall x hx])
    rw [h1]
    rfl

theorem all1_int (w : World) (b t : Nat) (cv x : Value) (es : List Value) (p : Value → Bool) (_hx : oneV x = true) (hm : x ∈ es) (hb : Blk w b [cv] t) (hp : PredAt Try.prog tab w cv es p) :
    Ca Try.prog 55 [x, .pointer (some ⟨b, 0, none⟩)] w fun r w' => r = .bool (!(p x)) ∧ Chg [] w w' := by
  obtain ⟨g, first, caps, rfl, hg, hcl⟩ := hp
  refine ca_of Try.func55 rfl (by simp [Try.ntmps55]) ?_
  (refine y_seq ?_; refine y_region ?_; refine yl_pure tabOk rfl rfl ?_; refine y_seq ?_; refine y_region ?_; refine yl_loadB tabOk rfl rfl rfl (by assumption) (by rfl) ?_; refine yl_pure tabOk rfl rfl ?_)
  refine yl_call tabOk rfl hg rfl rfl (hcl w (Chg.refl _ _) _ hm) ?_
  rintro _ w2 ⟨rfl, hc2⟩
  ((iterate 2 refine yl_pure tabOk rfl rfl ?_); refine y_ret ?_)
  exact y_fin1 rfl rfl ⟨rfl, hc2⟩

theorem all_int (w : World) (lo hi : Nat) (v cv : Value) (es : List Value) (p : Value → Bool) (hrd : RdE w lo hi v 1 es) (hone : ∀ i (hi : i < es.length), oneV es[i] = true) (hlen : es.length < 4611686018427387904) (hp : PredAt Try.prog tab w cv es p) :
    Ca Try.prog 42 [v, cv] w fun r w' => r = .bool (es.all p) ∧ Chg [] w w' := by
  refine ca_of Try.func42 rfl (by simp [Try.ntmps42]) ?_
  (refine y_seq ?_; refine y_region ?_)
  refine yl_box rfl rfl (fun w1 hc1 hs1 hb1 => ?_)
  have hcv : cv.cells.toList = [cv] := by obtain ⟨g, first, caps, rfl, _, _⟩ := hp; rfl
  rw [hcv] at hb1
  have hp1 : PredAt Try.prog tab w1 (.func (.func 55) #[] #[.pointer (some ⟨w.heap.size, 0, none⟩)]) es (fun x => !(p x)) := by
    refine ⟨55, #[], #[_], rfl, rfl, fun w' hw' x hx => ?_⟩
    refine all1_int w' w.heap.size _ cv x es p ?_ hx (hb1.keep hw') (hp.keep (hc1.trans hw'))
    obtain ⟨i, hi, rfl⟩ := List.getElem_of_mem hx
    exact hone i hi
  (refine yl_pure tabOk rfl rfl ?_; refine y_seq ?_; refine y_region ?_; (iterate 2 refine yl_pure tabOk rfl rfl ?_))
  refine yl_call tabOk rfl rfl rfl rfl (conF_int w1 lo hi v _ es _ (hrd.keep hc1) hone hlen hp1) ?_
  rintro _ w2 ⟨rfl, hc2⟩
  ((iterate 2 refine yl_pure tabOk rfl rfl ?_); refine y_ret ?_)
  refine y_fin1 rfl rfl ⟨?_, hc1.trans hc2⟩
  rw [List.all_eq_not_any_not]


set_option maxHeartbeats 1000000 in
theorem idxF_ints (w : World) (lo hi : Nat) (v cv : Value) (es : List Value) (p : Value → Bool) (hrd : RdE w lo hi v 1 es) (hone : ∀ i (hi : i < es.length), oneV es[i] = true) (hlen : es.length < 4611686018427387904) (hp : PredAt Try.prog tab w cv es p) :
    Ca Try.prog 56 [v, cv] w fun r w' => ((∃ i : Nat, r = .int .i64 i ∧ ∃ hi : i < es.length, p es[i] = true) ∨ (r = .int .i64 (-1) ∧ ∀ x ∈ es, p x = false)) ∧ Chg [] w w' := by
  obtain ⟨a, cap, rfl, hsl⟩ := hrd.out
  obtain ⟨g, first, caps, rfl, hg, hcl⟩ := hp
  refine ca_of Try.func56 rfl (by simp [Try.ntmps56]) ?_
  (refine y_seq ?_; refine y_region ?_; refine yl_pure tabOk rfl rfl ?_; (iterate 2 refine y_seq ?_); refine y_region ?_; (iterate 3 refine yl_pure tabOk rfl rfl ?_); refine y_block ?_)
  refine y_loop (fun m l wr => ∃ k : Nat, k ≤ es.length ∧ m = es.length - k ∧ l = [(0, .slice a es.length cap), (1, .func (.func g) first caps), (7, .int .i64 es.length), (8, .int .i64 k)] ∧ (∀ i (hi : i < es.length), i < k → p es[i] = false) ∧ Chg [] w wr) (m := es.length)
    ⟨0, by omega, rfl, rfl, fun i _ hi => by omega, Chg.refl _ _⟩ ⟨rfl, rfl, rfl, rfl, trivial⟩ ?_
  rintro m l wr ⟨k, hkl, rfl, rfl, hpk, hcw⟩ K hK
  (refine y_seq ?_; refine y_region ?_; refine yl_pure tabOk rfl rfl ?_; refine y_seq ?_)
  refine y_if rfl (fun hc => ?_) (fun hc => ?_)
  · have hk : k < es.length := by omega
    obtain ⟨b, off, rfl⟩ := hsl (by omega)
    (refine y_skip ?_; refine y_seq ?_; refine y_block ?_; refine y_seq ?_; refine y_region ?_; (iterate 2 refine yl_pure tabOk rfl rfl ?_); refine y_seq ?_; refine y_region ?_; (iterate 3 refine yl_pure tabOk rfl rfl ?_))
    refine yl_index tabOk rfl rfl rfl rfl rfl (by omega) (by omega) ?_
    refine yl_load1 tabOk rfl rfl rfl (v := es[k]) (by rw [show (Int.toNat (k : Int)) = k from rfl]; exact (hrd.keep hcw).cell1 k hk (hone k hk)) ?_
    refine yl_call tabOk rfl hg rfl rfl (hcl wr hcw es[k] (List.getElem_mem hk)) ?_
    rintro _ w2 ⟨rfl, hc2⟩
    (refine yl_nil ?_)
    refine y_cond rfl (fun hc => ?_) (fun hc => ?_)
    · (refine y_seq ?_; refine y_region ?_; (iterate 2 refine yl_pure tabOk rfl rfl ?_); refine y_ret ?_)
      exact y_fin1 rfl rfl ⟨.inl ⟨k, rfl, hk, hc⟩, hcw.trans hc2⟩
    · (refine y_skip ?_; refine y_region ?_; (iterate 2 refine yl_pure tabOk rfl rfl ?_); refine yl_nil ?_)
      refine y_k (hK _ _ _ _ ⟨k + 1, by omega, rfl, rfl, fun i hi hik => ?_, hcw.trans hc2⟩ (by omega) ⟨rfl, rfl, rfl, ?_, trivial⟩)
      · by_cases h : i < k
        · exact hpk i hi h
        · obtain rfl : i = k := by omega
          exact hc
      · show some (Value.int _ (IntKind.i64.wrap (↑k + 1))) = _
        rw [w64 (by omega) (by omega)]
        rfl
  · (refine y_exit _ rfl ?_; refine y_seq ?_; refine y_region ?_; refine yl_pure tabOk rfl rfl ?_; refine y_ret ?_)
    refine y_fin1 rfl rfl ⟨.inr ⟨rfl, fun x hx => ?_⟩, hcw⟩
    obtain ⟨i, hi, rfl⟩ := List.getElem_of_mem hx
    exact hpk i hi (by omega)

theorem conF_ints (w : World) (lo hi : Nat) (v cv : Value) (es : List Value) (p : Value → Bool) (hrd : RdE w lo hi v 1 es) (hone : ∀ i (hi : i < es.length), oneV es[i] = true) (hlen : es.length < 4611686018427387904) (hp : PredAt Try.prog tab w cv es p) :
    Ca Try.prog 50 [v, cv] w fun r w' => r = .bool (es.any p) ∧ Chg [] w w' := by
  refine ca_of Try.func50 rfl (by simp [Try.ntmps50]) ?_
  (refine y_seq ?_; refine y_region ?_; refine yl_pure tabOk rfl rfl ?_; refine y_seq ?_; refine y_region ?_; (iterate 2 refine yl_pure tabOk rfl rfl ?_))
  refine yl_call tabOk rfl rfl rfl rfl (idxF_ints w lo hi v cv es p hrd hone hlen hp) ?_
  rintro r w2 ⟨⟨i, rfl, hi, hpi⟩ | ⟨rfl, hall⟩, hc2⟩
  · ((iterate 2 refine yl_pure tabOk rfl rfl ?_); refine y_ret ?_)
    refine y_fin1 rfl rfl ⟨?_, hc2⟩
    have h1 : es.any p = true := List.any_eq_true.2 ⟨_, List.getElem_mem hi, hpi⟩
    rw [h1]
    exact congrArg Value.bool (decide_eq_true (by omega))
  · ((iterate 2 refine yl_pure tabOk rfl rfl ?_); refine y_ret ?_)
    refine y_fin1 rfl rfl ⟨?_, hc2⟩
    have h1 : es.any p = false := List.any_eq_false.2 (fun x hx => by simp [hall x hx])
    rw [h1]
    rfl

theorem all1_ints (w : World) (b t : Nat) (cv x : Value) (es : List Value) (p : Value → Bool) (_hx : oneV x = true) (hm : x ∈ es) (hb : Blk w b [cv] t) (hp : PredAt Try.prog tab w cv es p) :
    Ca Try.prog 54 [x, .pointer (some ⟨b, 0, none⟩)] w fun r w' => r = .bool (!(p x)) ∧ Chg [] w w' := by
  obtain ⟨g, first, caps, rfl, hg, hcl⟩ := hp
  refine ca_of Try.func54 rfl (by simp [Try.ntmps54]) ?_
  (refine y_seq ?_; refine y_region ?_; refine yl_pure tabOk rfl rfl ?_; refine y_seq ?_; refine y_region ?_; refine yl_loadB tabOk rfl rfl rfl (by assumption) (by rfl) ?_; refine yl_pure tabOk rfl rfl ?_)
  refine yl_call tabOk rfl hg rfl rfl (hcl w (Chg.refl _ _) _ hm) ?_
  rintro _ w2 ⟨rfl, hc2⟩
  ((iterate 2 refine yl_pure tabOk rfl rfl ?_); refine y_ret ?_)
  exact y_fin1 rfl rfl ⟨rfl, hc2⟩

theorem all_ints (w : World) (lo hi : Nat) (v cv : Value) (es : List Value) (p : Value → Bool) (hrd : RdE w lo hi v 1 es) (hone : ∀ i (hi : i < es.length), oneV es[i] = true) (hlen : es.length < 4611686018427387904) (hp : PredAt Try.prog tab w cv es p) :
    Ca Try.prog 39 [v, cv] w fun r w' => r = .bool (es.all p) ∧ Chg [] w w' := by
  refine ca_of Try.func39 rfl (by simp [Try.ntmps39]) ?_
  (refine y_seq ?_; refine y_region ?_)
  refine yl_box rfl rfl (fun w1 hc1 hs1 hb1 => ?_)
  have hcv : cv.cells.toList = [cv] := by obtain ⟨g, first, caps, rfl, _, _⟩ := hp; rfl
  rw [hcv] at hb1
  have hp1 : PredAt Try.prog tab w1 (.func (.func 54) #[] #[.pointer (some ⟨w.heap.size, 0, none⟩)]) es (fun x => !(p x)) := by
    refine ⟨54, #[], #[_], rfl, rfl, fun w' hw' x hx => ?_⟩
    refine all1_ints w' w.heap.size _ cv x es p ?_ hx (hb1.keep hw') (hp.keep (hc1.trans hw'))
    obtain ⟨i, hi, rfl⟩ := List.getElem_of_mem hx
    exact hone i hi
  (refine yl_pure tabOk rfl rfl ?_; refine y_seq ?_; refine y_region ?_; (iterate 2 refine yl_pure tabOk rfl rfl ?_))
  refine yl_call tabOk rfl rfl rfl rfl (conF_ints w1 lo hi v _ es _ (hrd.keep hc1) hone hlen hp1) ?_
  rintro _ w2 ⟨rfl, hc2⟩
  ((iterate 2 refine yl_pure tabOk rfl rfl ?_); refine y_ret ?_)
  refine y_fin1 rfl rfl ⟨?_, hc1.trans hc2⟩
  rw [List.all_eq_not_any_not]

end Go.Proofs.Ytmbifbippnncoaa
