/-
  RifleAims: which aims are right, the misses of waits, the fewest ones, the curve, how many breaths are enough, the price, and whether a price holds, or the errors, are as the reference has them; waits that are handed back have the fewest misses. No condition.
  The frame of this text was written by a program after the guide's proof-skeleton.mjs; the walk and the plain laws lie in the texts that it imports.
-/
import Derived.Test.YtopdmadgkjdgcaaGreatRows
import Derived.WalkKit
import Derived.ProofKit
import Derived.OpenShut
import Derived.ShutString
import Derived.ChangeOld
import Derived.Below
import Derived.Test.YtopdmadgkjdgcaaGreatJ5
namespace Go.Proofs.YtopdmadgkjdgcaaGreat.rifleAims
set_option maxRecDepth 4000
open Go.ChangeShapes Go.WideShapes Go.ChangeAt Go.RowKit
open Go.ChangeMaps (open_string shut_string)
set_option linter.unusedVariables false

theorem own : ownKnob Tryz.prog.godebug = none := by kernel_rfl
theorem laidOut : laidOutB Tryz.prog = true := by kernel_rfl

/-! ### THE ROW's STEP -/
set_option maxRecDepth 100000 in
theorem lifted (os : Os) (started : os.Started) (H : Type) (enc : TypeId × Value → H) :
    ReturnsInHanded {} Tryz.checked os 13 .any (Rows.rifleAimsSpec.pre6 enc Tryz.prog Tryz.f13 Rows.rifleAimsRow.domain false) (Rows.rifleAimsSpec.post enc Tryz.prog Tryz.f13 false true false false) := by
  refine returnsInHanded_of_change (C := Tryz.checked) own started (by kernel_rfl) Tryz.func13
    (ChangeSpec.witness6 (enc := enc) (C := Tryz.checked) false ⟨#[], #[.slice none 0 0, .slice none 0 0, .int .i64 0, .int .i64 0, .int .i64 0], []⟩ 8 (by kernel_rfl) (by kernel_rfl) (by kernel_rfl) (by kernel_rfl)) ?_
  intro W base args ds gs before hval0 hW hcnd _
  have hval : ∀ (j : Nat) t v, Tryz.f13.params[j]? = some t → args[j]? = some v → Value.okWide Tryz.prog W .any base t v := hval0
  have hW' := hW
  obtain ⟨p, q, hA0, hV, rfl, hfz, hnd⟩ := hW
  have hA : DataW.TrodAll enc Tryz.prog W 0 (fun _ => true) true Tryz.f13.params.toList args.toList ds p := hA0
  rw [Tryz.params13] at hA hval
  obtain ⟨w0, vs0, d0, ds0, p0, q0, hargs, rfl, rfl, k0, s0⟩ := trodAll_cons hA
  obtain ⟨w1, vs1, d1, ds1, p1, q1, rfl, rfl, rfl, k1, s1⟩ := trodAll_cons s0
  obtain ⟨w2, vs2, d2, ds2, p2, q2, rfl, rfl, rfl, k2, s2⟩ := trodAll_cons s1
  obtain ⟨w3, vs3, d3, ds3, p3, q3, rfl, rfl, rfl, k3, s3⟩ := trodAll_cons s2
  obtain ⟨w4, vs4, d4, ds4, p4, q4, rfl, rfl, rfl, k4, s4⟩ := trodAll_cons s3
  obtain ⟨rfl, rfl, rfl⟩ := trodAll_nil s4
  obtain rfl : args = #[w0, w1, w2, w3, w4] := by cases args; simp_all
  obtain ⟨rfl, rfl⟩ := trodVars_none hV
  have ok0 := hval 0 37 w0 rfl rfl
  have lt0 : ∀ x ∈ p0, x.block < W.heap.size := by obtain ⟨m, hm⟩ := k0; exact DataW.trod_lt m _ _ _ hm
  have ok1 := hval 1 29 w1 rfl rfl
  have lt1 : ∀ x ∈ p1, x.block < W.heap.size := by obtain ⟨m, hm⟩ := k1; exact DataW.trod_lt m _ _ _ hm
  have ok2 := hval 2 3 w2 rfl rfl
  have lt2 : ∀ x ∈ p2, x.block < W.heap.size := by obtain ⟨m, hm⟩ := k2; exact DataW.trod_lt m _ _ _ hm
  have ok3 := hval 3 3 w3 rfl rfl
  have lt3 : ∀ x ∈ p3, x.block < W.heap.size := by obtain ⟨m, hm⟩ := k3; exact DataW.trod_lt m _ _ _ hm
  have ok4 := hval 4 3 w4 rfl rfl
  have lt4 : ∀ x ∈ p4, x.block < W.heap.size := by obtain ⟨m, hm⟩ := k4; exact DataW.trod_lt m _ _ _ hm
  clear hA0 hval0 hval
  obtain ⟨l0, h0, g0, n0⟩ := in_m k0 ok0
  obtain ⟨l1, h1, g1, n1⟩ := in_l k1 ok1
  obtain ⟨a2, rfl, rfl, rfl, b2⟩ := open_int Tryz.underlying3 ok2 k2
  obtain ⟨a3, rfl, rfl, rfl, b3⟩ := open_int Tryz.underlying3 ok3 k3
  obtain ⟨a4, rfl, rfl, rfl, b4⟩ := open_int Tryz.underlying3 ok4 k4
  refine Calls.mono (rifleAims_ca W l0 l1 _ _ a2 a3 a4 h0 h1 n0 (fun r hr => (g0 r hr).2) n1 (by have := (wf_i64 b2).2; omega) (by have := (wf_i64 b4).2; omega)) fun e W' ⟨v, he, hv, hc⟩ => ?_
  have bel := hc.below
  subst hv
  subst he
  exact ⟨_, rfl, _, _, _, [], _, [], hW', trodAll_mk1 (shut_bool Tryz.underlying4 _), (trodAll_cons_mk (Below.trod laidOut (by kernel_rfl) (of_decide_eq_true (by kernel_rfl)) k0 bel lt0) (trodAll_cons_mk (Below.trod laidOut (by kernel_rfl) (of_decide_eq_true (by kernel_rfl)) k1 bel lt1) (trodAll_cons_mk (shut_int Tryz.underlying3 b2) (trodAll_cons_mk (shut_int Tryz.underlying3 b3) (trodAll_cons_mk (shut_int Tryz.underlying3 b4) trodAll_mk0))))), rfl, bel.frame _, fun h => by cases h⟩

set_option maxHeartbeats 0 in
theorem closed : joinedFacts Tryz.pinned.checked.prog 13 Tryz.f13 Rows.rifleAimsSpec Rows.rifleAimsRow = true := by
  unfold joinedFacts
  simp only [Bool.and_eq_true]
  repeat' apply And.intro
  all_goals as_aux_lemma => kernel_rfl
theorem over : Rows.rifleAimsRow.holds Tryz.pinned (OpenSpec.ofChange Rows.rifleAimsSpec) :=
  OpenClaim.holds_of_wide 13 Tryz.f13 rfl rfl rfl rfl rfl rfl rfl ⟨rfl, rfl, rfl, rfl, rfl⟩ rfl rfl rfl rfl rfl (by kernel_rfl) Tryz.func13 closed
    (of_decide_eq_true (by kernel_rfl)) (by unfold Func.isWrapper; first | (rw [if_pos (by decide +kernel)]; kernel_rfl) | (rw [if_neg (by decide +kernel)]; exact ⟨rfl, rfl⟩))
    (fun os started H enc _ => lifted os started H enc)

/-- The statement. -/
theorem proved : Rows.RifleAimsSaid := over
#print axioms proved
end Go.Proofs.YtopdmadgkjdgcaaGreat.rifleAims
