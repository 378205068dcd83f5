/-
  RifleGuards: which guards are right, the first gap, the fewest holds, whether holds guard a span and minutes are marks, or the errors, are as the reference has them; holds and marks that are handed back are such. No condition.
  The frame of this text was written by a program after the guide's proof-skeleton.mjs; the walk and the plain laws lie in the texts that it imports.
-/
import Derived.Test.YtopdmadgkjdgcaaGreatRows
import Derived.WalkKit
import Derived.ProofKit
import Derived.OpenShut
import Derived.ShutString
import Derived.ChangeOld
import Derived.Below
import Derived.Test.YtopdmadgkjdgcaaGreatJ5
namespace Go.Proofs.YtopdmadgkjdgcaaGreat.rifleGuards
set_option maxRecDepth 4000
open Go.ChangeShapes Go.WideShapes Go.ChangeAt Go.RowKit
open Go.ChangeMaps (open_string shut_string)
set_option linter.unusedVariables false

theorem own : ownKnob Tryz.prog.godebug = none := by kernel_rfl
theorem laidOut : laidOutB Tryz.prog = true := by kernel_rfl

/-! ### THE ROW's STEP -/
set_option maxRecDepth 100000 in
theorem lifted (os : Os) (started : os.Started) (H : Type) (enc : TypeId × Value → H) :
    ReturnsInHanded {} Tryz.checked os 12 .any (Rows.rifleGuardsSpec.pre6 enc Tryz.prog Tryz.f12 Rows.rifleGuardsRow.domain false) (Rows.rifleGuardsSpec.post enc Tryz.prog Tryz.f12 false true false false) := by
  refine returnsInHanded_of_change (C := Tryz.checked) own started (by kernel_rfl) Tryz.func12
    (ChangeSpec.witness6 (enc := enc) (C := Tryz.checked) false ⟨#[], #[.slice none 0 0, .int .i64 0, .int .i64 0, .slice none 0 0, .slice none 0 0], []⟩ 8 (by kernel_rfl) (by kernel_rfl) (by kernel_rfl) (by kernel_rfl)) ?_
  intro W base args ds gs before hval0 hW hcnd _
  have hval : ∀ (j : Nat) t v, Tryz.f12.params[j]? = some t → args[j]? = some v → Value.okWide Tryz.prog W .any base t v := hval0
  have hW' := hW
  obtain ⟨p, q, hA0, hV, rfl, hfz, hnd⟩ := hW
  have hA : DataW.TrodAll enc Tryz.prog W 0 (fun _ => true) true Tryz.f12.params.toList args.toList ds p := hA0
  rw [Tryz.params12] at hA hval
  obtain ⟨w0, vs0, d0, ds0, p0, q0, hargs, rfl, rfl, k0, s0⟩ := trodAll_cons hA
  obtain ⟨w1, vs1, d1, ds1, p1, q1, rfl, rfl, rfl, k1, s1⟩ := trodAll_cons s0
  obtain ⟨w2, vs2, d2, ds2, p2, q2, rfl, rfl, rfl, k2, s2⟩ := trodAll_cons s1
  obtain ⟨w3, vs3, d3, ds3, p3, q3, rfl, rfl, rfl, k3, s3⟩ := trodAll_cons s2
  obtain ⟨w4, vs4, d4, ds4, p4, q4, rfl, rfl, rfl, k4, s4⟩ := trodAll_cons s3
  obtain ⟨rfl, rfl, rfl⟩ := trodAll_nil s4
  obtain rfl : args = #[w0, w1, w2, w3, w4] := by cases args; simp_all
  obtain ⟨rfl, rfl⟩ := trodVars_none hV
  have ok0 := hval 0 23 w0 rfl rfl
  have lt0 : ∀ x ∈ p0, x.block < W.heap.size := by obtain ⟨m, hm⟩ := k0; exact DataW.trod_lt m _ _ _ hm
  have ok1 := hval 1 3 w1 rfl rfl
  have lt1 : ∀ x ∈ p1, x.block < W.heap.size := by obtain ⟨m, hm⟩ := k1; exact DataW.trod_lt m _ _ _ hm
  have ok2 := hval 2 3 w2 rfl rfl
  have lt2 : ∀ x ∈ p2, x.block < W.heap.size := by obtain ⟨m, hm⟩ := k2; exact DataW.trod_lt m _ _ _ hm
  have ok3 := hval 3 29 w3 rfl rfl
  have lt3 : ∀ x ∈ p3, x.block < W.heap.size := by obtain ⟨m, hm⟩ := k3; exact DataW.trod_lt m _ _ _ hm
  have ok4 := hval 4 29 w4 rfl rfl
  have lt4 : ∀ x ∈ p4, x.block < W.heap.size := by obtain ⟨m, hm⟩ := k4; exact DataW.trod_lt m _ _ _ hm
  clear hA0 hval0 hval
  obtain ⟨l0, h0, n0⟩ := in_Hd k0 ok0
  obtain ⟨a1, rfl, rfl, rfl, b1⟩ := open_int Tryz.underlying3 ok1 k1
  obtain ⟨a2, rfl, rfl, rfl, b2⟩ := open_int Tryz.underlying3 ok2 k2
  obtain ⟨l3, h3, g3, n3⟩ := in_l k3 ok3
  obtain ⟨l4, h4, g4, n4⟩ := in_l k4 ok4
  refine Calls.mono (rifleGuards_ca W l0 _ a1 a2 l3 l4 _ _ h0 h3 h4 n0 n3 n4) fun e W' ⟨v, he, hv, hc⟩ => ?_
  have bel := hc.below
  subst hv
  subst he
  exact ⟨_, rfl, _, _, _, [], _, [], hW', trodAll_mk1 (shut_bool Tryz.underlying4 _), (trodAll_cons_mk (Below.trod laidOut (by kernel_rfl) (of_decide_eq_true (by kernel_rfl)) k0 bel lt0) (trodAll_cons_mk (shut_int Tryz.underlying3 b1) (trodAll_cons_mk (shut_int Tryz.underlying3 b2) (trodAll_cons_mk (Below.trod laidOut (by kernel_rfl) (of_decide_eq_true (by kernel_rfl)) k3 bel lt3) (trodAll_cons_mk (Below.trod laidOut (by kernel_rfl) (of_decide_eq_true (by kernel_rfl)) k4 bel lt4) trodAll_mk0))))), rfl, bel.frame _, fun h => by cases h⟩

set_option maxHeartbeats 0 in
theorem closed : joinedFacts Tryz.pinned.checked.prog 12 Tryz.f12 Rows.rifleGuardsSpec Rows.rifleGuardsRow = true := by
  unfold joinedFacts
  simp only [Bool.and_eq_true]
  repeat' apply And.intro
  all_goals as_aux_lemma => kernel_rfl
theorem over : Rows.rifleGuardsRow.holds Tryz.pinned (OpenSpec.ofChange Rows.rifleGuardsSpec) :=
  OpenClaim.holds_of_wide 12 Tryz.f12 rfl rfl rfl rfl rfl rfl rfl ⟨rfl, rfl, rfl, rfl, rfl⟩ rfl rfl rfl rfl rfl (by kernel_rfl) Tryz.func12 closed
    (of_decide_eq_true (by kernel_rfl)) (by unfold Func.isWrapper; first | (rw [if_pos (by decide +kernel)]; kernel_rfl) | (rw [if_neg (by decide +kernel)]; exact ⟨rfl, rfl⟩))
    (fun os started H enc _ => lifted os started H enc)

/-- The statement. -/
theorem proved : Rows.RifleGuardsSaid := over
#print axioms proved
end Go.Proofs.YtopdmadgkjdgcaaGreat.rifleGuards
