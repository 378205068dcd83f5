/- Walks: something holds for each row. -/
import Derived.Test.YtmbifbippnncoaaV4
import Derived.Test.YtmbifbippnncoaaEvery
namespace Go.Proofs.Ytmbifbippnncoaa
open Go Go.Eng

/-- A predicate of rows, as a function value. -/
def RowP (w : World) (lo hi : Nat) (cv : Value) (ll : List (List Int)) (p : List Int → Bool) : Prop :=
  ∃ g first caps, cv = .func (.func g) first caps ∧ has tab.fn g = true ∧
    ∀ w', Chg [] w w' → ∀ l ∈ ll, ∀ v, RdI w' lo hi v l → Ca Try.prog g (first.toList ++ [v] ++ caps.toList) w' fun v w'' => v = .bool (p l) ∧ Chg [] w' w''
theorem RowP.keep {w w1 : World} {lo hi : Nat} {cv : Value} {ll : List (List Int)} {p : List Int → Bool} (h : RowP w lo hi cv ll p) (c : Chg [] w w1) : RowP w1 lo hi cv ll p := by
  obtain ⟨g, f, cs, h1, h2, h3⟩ := h
  exact ⟨g, f, cs, h1, h2, fun w' hw => h3 w' (c.trans hw)⟩

theorem idxR (w : World) (lo hi : Nat) (v cv : Value) (ll : List (List Int)) (p : List Int → Bool) (hrd : RdII w lo hi v ll) (hlen : ll.length < 1000000) (hp : RowP w lo hi cv ll p) :
    Ca Try.prog 56 [v, cv] w fun r w' => (∃ i : Int, r = .int .i64 i ∧ decide (0 ≤ i) = ll.any p) ∧ Chg [] w w' := by
  obtain ⟨a, cap, rfl, hsl⟩ := hrd.outI
  obtain ⟨g, first, caps, rfl, hg, hcl⟩ := hp
  refine q_of (Sat.nil w M0) Try.func56 rfl (by simp [Try.ntmps56]) ?_
  (refine q_seq ?_; refine q_region ?_; refine ql_pure tabOk rfl rfl ?_; refine q_nil ?_; (iterate 2 refine q_seq ?_); refine q_region ?_; (iterate 3 refine ql_pure tabOk rfl rfl ?_); refine q_nil ?_; refine q_block ?_)
  refine q_loop (σ := Nat) (fun k => k ≤ ll.length ∧ (ll.take k).any p = false) (fun k => ll.length - k) (fun k => [(0, .slice a ll.length cap), (1, .func (.func g) first caps), (7, .int .i64 ll.length), (8, .int .i64 k)]) (fun _ => []) 0 ⟨by omega, rfl⟩ ⟨rfl, rfl, rfl, rfl, trivial⟩ .nil ?_
  rintro k ⟨hk, hpk⟩ K hK
  (refine q_seq ?_; refine q_region ?_; refine ql_pure tabOk rfl rfl ?_; refine q_nil ?_; refine q_seq ?_)
  refine q_if rfl (fun hc => ?_) (fun hc => ?_)
  · have hk : k < ll.length := by omega
    obtain ⟨b, off, rfl⟩ := hsl (by omega)
    obtain ⟨ar, cr, hrow, hcell⟩ := hrd.row k hk
    (refine q_skip ?_; refine q_seq ?_; refine q_block ?_; refine q_seq ?_; refine q_region ?_; (iterate 2 refine ql_pure tabOk rfl rfl ?_); refine q_nil ?_; refine q_seq ?_; refine q_region ?_; (iterate 3 refine ql_pure tabOk rfl rfl ?_))
    refine ql_index tabOk rfl rfl rfl rfl rfl (by omega) (by omega) ?_
    refine ql_load1 (v := .slice ar ll[k].length cr) tabOk rfl rfl rfl (fun w' hs => hcell w' hs.chg0) ?_
    refine ql_callv tabOk rfl hg rfl rfl (fun w' hs => hcl w' hs.chg0 ll[k] (List.getElem_mem hk) _ (RdE.keep hrow hs.chg0)) ?_
    (refine q_nil ?_)
    refine q_cond rfl (fun hc => ?_) (fun hc => ?_)
    · (refine q_seq ?_; refine q_region ?_; (iterate 2 refine ql_pure tabOk rfl rfl ?_); refine q_nil ?_; refine q_ret ?_)
      refine q_fin tabOk rfl (by repeat (first | exact RVs.nil | apply RVs.tmp rfl | apply RVs.cellA rfl rfl (by repeat first | exact .head _ | refine .tail _ ?_) (by rfl) | apply RVs.cell1 rfl rfl (by repeat first | exact .head _ | refine .tail _ ?_))) fun w hs => ?_
      refine ⟨⟨k, rfl, ?_⟩, hs.chg0⟩
      rw [decide_eq_true (by omega), List.any_eq_true.2 ⟨ll[k], List.getElem_mem hk, hc⟩]
    · (refine q_skip ?_; refine q_blk ?_; refine q_region ?_; refine ql_ar tabOk rfl rfl rfl rfl (by omega) (by omega) ?_; refine ql_pure tabOk rfl rfl ?_; refine q_nil ?_)
      exact hK (k + 1) _ _ ⟨by omega, by rw [List.take_succ_eq_append_getElem hk, List.any_append, hpk]; simp [hc]⟩ (by omega) ⟨rfl, rfl, rfl, rfl, trivial⟩ (by repeat (first | exact Sp.nil | exact Sp.refl _ | refine Sp.cons (by repeat constructor) ?_))
  · obtain rfl : k = ll.length := by omega
    rw [List.take_length] at hpk
    (refine q_exit _ rfl ?_; refine q_seq ?_; refine q_region ?_; refine ql_pure tabOk rfl rfl ?_; refine q_nil ?_; refine q_ret ?_)
    refine q_fin tabOk rfl (by repeat (first | exact RVs.nil | apply RVs.tmp rfl | apply RVs.cellA rfl rfl (by repeat first | exact .head _ | refine .tail _ ?_) (by rfl) | apply RVs.cell1 rfl rfl (by repeat first | exact .head _ | refine .tail _ ?_))) fun w hs => ?_
    exact ⟨⟨-1, rfl, by rw [hpk]; rfl⟩, hs.chg0⟩

theorem conR (w : World) (lo hi : Nat) (v cv : Value) (ll : List (List Int)) (p : List Int → Bool) (hrd : RdII w lo hi v ll) (hlen : ll.length < 1000000) (hp : RowP w lo hi cv ll p) :
    Ca Try.prog 50 [v, cv] w fun r w' => r = .bool (ll.any p) ∧ Chg [] w w' := by
  refine q_of (Sat.nil w M0) Try.func50 rfl (by simp [Try.ntmps50]) ?_
  (refine q_seq ?_; refine q_region ?_; refine ql_pure tabOk rfl rfl ?_; refine q_nil ?_; refine q_seq ?_; refine q_region ?_; (iterate 2 refine ql_pure tabOk rfl rfl ?_))
  refine ql_call (β := Int) (ψ := fun i v => v = .int .i64 i ∧ decide (0 ≤ i) = ll.any p) (L' := fun _ => []) tabOk [] _ M0 rfl rfl rfl rfl (Sp.refl _) (fun _ h => h.elim) (fun w' hs => (idxR w' lo hi v cv ll p (hrd.keep hs.chg0) hlen (hp.keep hs.chg0)).mono (fun r w'' ⟨⟨i, h1, h2⟩, h3⟩ => ⟨i, ⟨h1, h2⟩, (Sat.nil w' M0).keep h3⟩)) ?_
  rintro i _ ⟨rfl, hi⟩
  ((iterate 2 refine ql_pure tabOk rfl rfl ?_); refine q_nil ?_; refine q_ret ?_)
  refine q_fin tabOk rfl (by repeat (first | exact RVs.nil | apply RVs.tmp rfl | apply RVs.cellA rfl rfl (by repeat first | exact .head _ | refine .tail _ ?_) (by rfl) | apply RVs.cell1 rfl rfl (by repeat first | exact .head _ | refine .tail _ ?_))) fun w hs => ?_
  exact ⟨by rw [← hi]; rfl, hs.chg0⟩

theorem allR1 (w : World) (lo hi : Nat) (b t : Nat) (cv v : Value) (l : List Int) (ll : List (List Int)) (p : List Int → Bool) (hm : l ∈ ll) (hb : Blk w b [cv] t) (hv : RdI w lo hi v l) (hp : RowP w lo hi cv ll p) :
    Ca Try.prog 54 [v, .pointer (some ⟨b, 0, none⟩)] w fun r w' => r = .bool (!(p l)) ∧ Chg [] w w' := by
  obtain ⟨g, first, caps, rfl, hg, hcl⟩ := hp
  refine q_of (Sat.nil w M0) Try.func54 rfl (by simp [Try.ntmps54]) ?_
  (refine q_seq ?_; refine q_region ?_; refine ql_pure tabOk rfl rfl ?_; refine q_nil ?_; refine q_seq ?_; refine q_region ?_; refine ql_loadP tabOk rfl rfl rfl (by assumption) (by rfl) ?_; refine ql_pure tabOk rfl rfl ?_)
  refine ql_callv tabOk rfl hg rfl rfl (fun w' hs => hcl w' hs.chg0 l hm _ (RdE.keep hv hs.chg0)) ?_
  ((iterate 2 refine ql_pure tabOk rfl rfl ?_); refine q_nil ?_; refine q_ret ?_)
  refine q_fin tabOk rfl (by repeat (first | exact RVs.nil | apply RVs.tmp rfl | apply RVs.cellA rfl rfl (by repeat first | exact .head _ | refine .tail _ ?_) (by rfl) | apply RVs.cell1 rfl rfl (by repeat first | exact .head _ | refine .tail _ ?_))) fun w hs => ?_
  exact ⟨rfl, hs.chg0⟩

theorem allR (w : World) (lo hi : Nat) (v cv : Value) (ll : List (List Int)) (p : List Int → Bool) (hrd : RdII w lo hi v ll) (hlen : ll.length < 1000000) (hp : RowP w lo hi cv ll p) :
    Ca Try.prog 39 [v, cv] w fun r w' => r = .bool (ll.all p) ∧ Chg [] w w' := by
  have hcv : cv.cells.toList = [cv] := by obtain ⟨g, first, caps, rfl, _, _⟩ := hp; rfl
  refine q_of (Sat.nil w M0) Try.func39 rfl (by simp [Try.ntmps39]) ?_
  (refine q_seq ?_; refine q_region ?_)
  refine ql_box rfl rfl (fun b3 => ?_)
  rw [hcv]
  (refine ql_pure tabOk rfl rfl ?_; refine q_nil ?_; refine q_seq ?_; refine q_region ?_; (iterate 2 refine ql_pure tabOk rfl rfl ?_))
  refine ql_callv tabOk rfl rfl rfl rfl (fun w hs => conR w lo hi v _ ll (fun l => !(p l)) (hrd.keep hs.chg0) hlen ⟨_, #[], #[_], rfl, rfl, fun w' hw' l hl v hv => allR1 w' lo hi b3 _ cv v l ll p hl ((hs.blk (by repeat first | exact .head _ | refine .tail _ ?_)).keep hw') hv (hp.keep (hs.chg0.trans hw'))⟩) ?_
  ((iterate 2 refine ql_pure tabOk rfl rfl ?_); refine q_nil ?_; refine q_ret ?_)
  refine q_fin tabOk rfl (by repeat (first | exact RVs.nil | apply RVs.tmp rfl | apply RVs.cellA rfl rfl (by repeat first | exact .head _ | refine .tail _ ?_) (by rfl) | apply RVs.cell1 rfl rfl (by repeat first | exact .head _ | refine .tail _ ?_))) fun w hs => ?_
  exact ⟨by rw [List.all_eq_not_any_not]; rfl, hs.chg0⟩

end Go.Proofs.Ytmbifbippnncoaa
