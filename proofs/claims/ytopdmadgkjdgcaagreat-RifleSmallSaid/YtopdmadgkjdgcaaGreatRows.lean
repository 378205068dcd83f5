/-
  No cell of these rows narrows 'for every input' (looked for: loops, veiled, ifaces, maps, wideKeys, modest, calm, conditions, laid).
  DERIVED. THE GIVEN ROWS OF THIS SEAT. 16 by the template 'for every input the law returns true; each argument reads behind the call as it read before'; 0 by the template 'total and deterministic' (their statements: YtopdmadgkjdgcaaGreatTotals.lean).
  GIVEN WITH THE SEED: the statements are not yours to turn. If you find one false, say at which input.
  Laid BY PROGRAM, IN A SANDBOX (cutbox-rows.mjs): the forced cells as the released guide's own fill.sh prints them over the translation 1e8470579db8422d… (all of the seat's roots in one cut). By AI agents, Wed Nov 11 2026. No macro, syntax, notation, axiom, sorry.
-/
import Derived.Test.YtopdmadgkjdgcaaGreatChecked
import GoSem.Claim
import GoSem.ClaimJoined
import GoSem.ClaimMapViews
import Derived.JoinedTies
import Derived.KernelRfl
namespace Go.Proofs.YtopdmadgkjdgcaaGreat
/- THE CELL 'sum', in the pinned program and in every row, IS THE sha256 OF THE DUMP (.gsa) THAT YtopdmadgkjdgcaaGreatProg.lean LOADS. Nothing in Lean hashes anything: it is a label: what it is worth is what the hold of that sum in a sandbox is worth. -/
noncomputable def Tryz.pinned : Pinned := { name := "ytopdmadgkjdgcaagreat", sum := "1e8470579db8422d18c0393204ddbc2b115621a8202a26139652f8809f241b20", checked := Tryz.checked }
namespace Rows
def none {H : Type} : Left H := { results := [], args := [] }

/-- 'klisterlaw07.RifleBackwards': WHATEVER THE INPUT: true; the input reads as it did. -/
def rifleBackwardsSpec : ChangeSpec := { name := "rifleBackwards", fn := fun _ => fun
  | [d1, d2, d3, d4, d5] => { results := [.lit (.bool true)], args := [d1, d2, d3, d4, d5] }
  | _ => none }
def rifleBackwardsRow : OpenClaim := { program := "ytopdmadgkjdgcaagreat", sum := "1e8470579db8422d18c0393204ddbc2b115621a8202a26139652f8809f241b20", func := "klister/klisterlaw07.RifleBackwards", spec := "rifleBackwards", unfollowed := true, recurses := true, plainKeys := false, apart := false }
def RifleBackwardsSaid : Prop := rifleBackwardsRow.holds Tryz.pinned (OpenSpec.ofChange rifleBackwardsSpec)

/-- ITS FALSE NEIGHBOUR: 'it returns false'. Refute it at one input. -/
def rifleBackwardsWrong : ChangeSpec := { name := "rifleBackwards", fn := fun _ => fun
  | [d1, d2, d3, d4, d5] => { results := [.lit (.bool false)], args := [d1, d2, d3, d4, d5] }
  | _ => none }
def RifleBackwardsWrongFalsely : Prop := rifleBackwardsRow.holds Tryz.pinned (OpenSpec.ofChange rifleBackwardsWrong)

/-- 'klisterlaw07.RifleCurved': WHATEVER THE INPUT: true; the input reads as it did. -/
def rifleCurvedSpec : ChangeSpec := { name := "rifleCurved", fn := fun _ => fun
  | [d1, d2, d3] => { results := [.lit (.bool true)], args := [d1, d2, d3] }
  | _ => none }
def rifleCurvedRow : OpenClaim := { program := "ytopdmadgkjdgcaagreat", sum := "1e8470579db8422d18c0393204ddbc2b115621a8202a26139652f8809f241b20", func := "klister/klisterlaw07.RifleCurved", spec := "rifleCurved", unfollowed := true, recurses := true, plainKeys := false, apart := false }
def RifleCurvedSaid : Prop := rifleCurvedRow.holds Tryz.pinned (OpenSpec.ofChange rifleCurvedSpec)

/-- ITS FALSE NEIGHBOUR: 'it returns false'. Refute it at one input. -/
def rifleCurvedWrong : ChangeSpec := { name := "rifleCurved", fn := fun _ => fun
  | [d1, d2, d3] => { results := [.lit (.bool false)], args := [d1, d2, d3] }
  | _ => none }
def RifleCurvedWrongFalsely : Prop := rifleCurvedRow.holds Tryz.pinned (OpenSpec.ofChange rifleCurvedWrong)

/-- 'klisterlaw07.RifleWeights': WHATEVER THE INPUT: true; the input reads as it did. -/
def rifleWeightsSpec : ChangeSpec := { name := "rifleWeights", fn := fun _ => fun
  | [d] => { results := [.lit (.bool true)], args := [d] }
  | _ => none }
def rifleWeightsRow : OpenClaim := { program := "ytopdmadgkjdgcaagreat", sum := "1e8470579db8422d18c0393204ddbc2b115621a8202a26139652f8809f241b20", func := "klister/klisterlaw07.RifleWeights", spec := "rifleWeights", unfollowed := true, recurses := true, plainKeys := false, apart := false }
def RifleWeightsSaid : Prop := rifleWeightsRow.holds Tryz.pinned (OpenSpec.ofChange rifleWeightsSpec)

/-- ITS FALSE NEIGHBOUR: 'it returns false'. Refute it at one input. -/
def rifleWeightsWrong : ChangeSpec := { name := "rifleWeights", fn := fun _ => fun
  | [d] => { results := [.lit (.bool false)], args := [d] }
  | _ => none }
def RifleWeightsWrongFalsely : Prop := rifleWeightsRow.holds Tryz.pinned (OpenSpec.ofChange rifleWeightsWrong)

/-- 'klisterlaw07.RifleReached': WHATEVER THE INPUT: true; the input reads as it did. -/
def rifleReachedSpec : ChangeSpec := { name := "rifleReached", fn := fun _ => fun
  | [d] => { results := [.lit (.bool true)], args := [d] }
  | _ => none }
def rifleReachedRow : OpenClaim := { program := "ytopdmadgkjdgcaagreat", sum := "1e8470579db8422d18c0393204ddbc2b115621a8202a26139652f8809f241b20", func := "klister/klisterlaw07.RifleReached", spec := "rifleReached", unfollowed := true, recurses := true, plainKeys := false, apart := false }
def RifleReachedSaid : Prop := rifleReachedRow.holds Tryz.pinned (OpenSpec.ofChange rifleReachedSpec)

/-- ITS FALSE NEIGHBOUR: 'it returns false'. Refute it at one input. -/
def rifleReachedWrong : ChangeSpec := { name := "rifleReached", fn := fun _ => fun
  | [d] => { results := [.lit (.bool false)], args := [d] }
  | _ => none }
def RifleReachedWrongFalsely : Prop := rifleReachedRow.holds Tryz.pinned (OpenSpec.ofChange rifleReachedWrong)

/-- 'klisterlaw07.RifleMore': WHATEVER THE INPUT: true; the input reads as it did. -/
def rifleMoreSpec : ChangeSpec := { name := "rifleMore", fn := fun _ => fun
  | [d1, d2, d3] => { results := [.lit (.bool true)], args := [d1, d2, d3] }
  | _ => none }
def rifleMoreRow : OpenClaim := { program := "ytopdmadgkjdgcaagreat", sum := "1e8470579db8422d18c0393204ddbc2b115621a8202a26139652f8809f241b20", func := "klister/klisterlaw07.RifleMore", spec := "rifleMore", unfollowed := true, recurses := true, plainKeys := false, apart := false }
def RifleMoreSaid : Prop := rifleMoreRow.holds Tryz.pinned (OpenSpec.ofChange rifleMoreSpec)

/-- ITS FALSE NEIGHBOUR: 'it returns false'. Refute it at one input. -/
def rifleMoreWrong : ChangeSpec := { name := "rifleMore", fn := fun _ => fun
  | [d1, d2, d3] => { results := [.lit (.bool false)], args := [d1, d2, d3] }
  | _ => none }
def RifleMoreWrongFalsely : Prop := rifleMoreRow.holds Tryz.pinned (OpenSpec.ofChange rifleMoreWrong)

/-- 'klisterlaw07.RiflePlans': WHATEVER THE INPUT: true; the input reads as it did. -/
def riflePlansSpec : ChangeSpec := { name := "riflePlans", fn := fun _ => fun
  | [d1, d2] => { results := [.lit (.bool true)], args := [d1, d2] }
  | _ => none }
def riflePlansRow : OpenClaim := { program := "ytopdmadgkjdgcaagreat", sum := "1e8470579db8422d18c0393204ddbc2b115621a8202a26139652f8809f241b20", func := "klister/klisterlaw07.RiflePlans", spec := "riflePlans", unfollowed := true, recurses := true, plainKeys := false, apart := false }
def RiflePlansSaid : Prop := riflePlansRow.holds Tryz.pinned (OpenSpec.ofChange riflePlansSpec)

/-- ITS FALSE NEIGHBOUR: 'it returns false'. Refute it at one input. -/
def riflePlansWrong : ChangeSpec := { name := "riflePlans", fn := fun _ => fun
  | [d1, d2] => { results := [.lit (.bool false)], args := [d1, d2] }
  | _ => none }
def RiflePlansWrongFalsely : Prop := riflePlansRow.holds Tryz.pinned (OpenSpec.ofChange riflePlansWrong)

/-- 'klisterlaw07.RiflePlanned': WHATEVER THE INPUT: true; the input reads as it did. -/
def riflePlannedSpec : ChangeSpec := { name := "riflePlanned", fn := fun _ => fun
  | [d1, d2] => { results := [.lit (.bool true)], args := [d1, d2] }
  | _ => none }
def riflePlannedRow : OpenClaim := { program := "ytopdmadgkjdgcaagreat", sum := "1e8470579db8422d18c0393204ddbc2b115621a8202a26139652f8809f241b20", func := "klister/klisterlaw07.RiflePlanned", spec := "riflePlanned", unfollowed := true, recurses := true, plainKeys := false, apart := false }
def RiflePlannedSaid : Prop := riflePlannedRow.holds Tryz.pinned (OpenSpec.ofChange riflePlannedSpec)

/-- ITS FALSE NEIGHBOUR: 'it returns false'. Refute it at one input. -/
def riflePlannedWrong : ChangeSpec := { name := "riflePlanned", fn := fun _ => fun
  | [d1, d2] => { results := [.lit (.bool false)], args := [d1, d2] }
  | _ => none }
def RiflePlannedWrongFalsely : Prop := riflePlannedRow.holds Tryz.pinned (OpenSpec.ofChange riflePlannedWrong)

/-- 'klisterlaw07.RiflePassed': WHATEVER THE INPUT: true; the input reads as it did. -/
def riflePassedSpec : ChangeSpec := { name := "riflePassed", fn := fun _ => fun
  | [d] => { results := [.lit (.bool true)], args := [d] }
  | _ => none }
def riflePassedRow : OpenClaim := { program := "ytopdmadgkjdgcaagreat", sum := "1e8470579db8422d18c0393204ddbc2b115621a8202a26139652f8809f241b20", func := "klister/klisterlaw07.RiflePassed", spec := "riflePassed", unfollowed := true, recurses := true, plainKeys := false, apart := false }
def RiflePassedSaid : Prop := riflePassedRow.holds Tryz.pinned (OpenSpec.ofChange riflePassedSpec)

/-- ITS FALSE NEIGHBOUR: 'it returns false'. Refute it at one input. -/
def riflePassedWrong : ChangeSpec := { name := "riflePassed", fn := fun _ => fun
  | [d] => { results := [.lit (.bool false)], args := [d] }
  | _ => none }
def RiflePassedWrongFalsely : Prop := riflePassedRow.holds Tryz.pinned (OpenSpec.ofChange riflePassedWrong)

/-- 'klisterlaw07.RifleWaited': WHATEVER THE INPUT: true; the input reads as it did. -/
def rifleWaitedSpec : ChangeSpec := { name := "rifleWaited", fn := fun _ => fun
  | [d1, d2, d3] => { results := [.lit (.bool true)], args := [d1, d2, d3] }
  | _ => none }
def rifleWaitedRow : OpenClaim := { program := "ytopdmadgkjdgcaagreat", sum := "1e8470579db8422d18c0393204ddbc2b115621a8202a26139652f8809f241b20", func := "klister/klisterlaw07.RifleWaited", spec := "rifleWaited", unfollowed := true, recurses := true, plainKeys := false, apart := false }
def RifleWaitedSaid : Prop := rifleWaitedRow.holds Tryz.pinned (OpenSpec.ofChange rifleWaitedSpec)

/-- ITS FALSE NEIGHBOUR: 'it returns false'. Refute it at one input. -/
def rifleWaitedWrong : ChangeSpec := { name := "rifleWaited", fn := fun _ => fun
  | [d1, d2, d3] => { results := [.lit (.bool false)], args := [d1, d2, d3] }
  | _ => none }
def RifleWaitedWrongFalsely : Prop := rifleWaitedRow.holds Tryz.pinned (OpenSpec.ofChange rifleWaitedWrong)

/-- 'klisterlaw07.RifleGuards': WHATEVER THE INPUT: true; the input reads as it did. -/
def rifleGuardsSpec : ChangeSpec := { name := "rifleGuards", fn := fun _ => fun
  | [d1, d2, d3, d4, d5] => { results := [.lit (.bool true)], args := [d1, d2, d3, d4, d5] }
  | _ => none }
def rifleGuardsRow : OpenClaim := { program := "ytopdmadgkjdgcaagreat", sum := "1e8470579db8422d18c0393204ddbc2b115621a8202a26139652f8809f241b20", func := "klister/klisterlaw07.RifleGuards", spec := "rifleGuards", unfollowed := true, recurses := true, plainKeys := false, apart := false }
def RifleGuardsSaid : Prop := rifleGuardsRow.holds Tryz.pinned (OpenSpec.ofChange rifleGuardsSpec)

/-- ITS FALSE NEIGHBOUR: 'it returns false'. Refute it at one input. -/
def rifleGuardsWrong : ChangeSpec := { name := "rifleGuards", fn := fun _ => fun
  | [d1, d2, d3, d4, d5] => { results := [.lit (.bool false)], args := [d1, d2, d3, d4, d5] }
  | _ => none }
def RifleGuardsWrongFalsely : Prop := rifleGuardsRow.holds Tryz.pinned (OpenSpec.ofChange rifleGuardsWrong)

/-- 'klisterlaw07.RifleAims': WHATEVER THE INPUT: true; the input reads as it did. -/
def rifleAimsSpec : ChangeSpec := { name := "rifleAims", fn := fun _ => fun
  | [d1, d2, d3, d4, d5] => { results := [.lit (.bool true)], args := [d1, d2, d3, d4, d5] }
  | _ => none }
def rifleAimsRow : OpenClaim := { program := "ytopdmadgkjdgcaagreat", sum := "1e8470579db8422d18c0393204ddbc2b115621a8202a26139652f8809f241b20", func := "klister/klisterlaw07.RifleAims", spec := "rifleAims", unfollowed := true, recurses := true, plainKeys := false, apart := false }
def RifleAimsSaid : Prop := rifleAimsRow.holds Tryz.pinned (OpenSpec.ofChange rifleAimsSpec)

/-- ITS FALSE NEIGHBOUR: 'it returns false'. Refute it at one input. -/
def rifleAimsWrong : ChangeSpec := { name := "rifleAims", fn := fun _ => fun
  | [d1, d2, d3, d4, d5] => { results := [.lit (.bool false)], args := [d1, d2, d3, d4, d5] }
  | _ => none }
def RifleAimsWrongFalsely : Prop := rifleAimsRow.holds Tryz.pinned (OpenSpec.ofChange rifleAimsWrong)

/-- 'klisterlaw07.RifleGuarded': WHATEVER THE INPUT: true; the input reads as it did. -/
def rifleGuardedSpec : ChangeSpec := { name := "rifleGuarded", fn := fun _ => fun
  | [d1, d2, d3, d4] => { results := [.lit (.bool true)], args := [d1, d2, d3, d4] }
  | _ => none }
def rifleGuardedRow : OpenClaim := { program := "ytopdmadgkjdgcaagreat", sum := "1e8470579db8422d18c0393204ddbc2b115621a8202a26139652f8809f241b20", func := "klister/klisterlaw07.RifleGuarded", spec := "rifleGuarded", unfollowed := true, recurses := true, plainKeys := false, apart := false }
def RifleGuardedSaid : Prop := rifleGuardedRow.holds Tryz.pinned (OpenSpec.ofChange rifleGuardedSpec)

/-- ITS FALSE NEIGHBOUR: 'it returns false'. Refute it at one input. -/
def rifleGuardedWrong : ChangeSpec := { name := "rifleGuarded", fn := fun _ => fun
  | [d1, d2, d3, d4] => { results := [.lit (.bool false)], args := [d1, d2, d3, d4] }
  | _ => none }
def RifleGuardedWrongFalsely : Prop := rifleGuardedRow.holds Tryz.pinned (OpenSpec.ofChange rifleGuardedWrong)

/-- 'klisterlaw07.RifleStarted': WHATEVER THE INPUT: true; the input reads as it did. -/
def rifleStartedSpec : ChangeSpec := { name := "rifleStarted", fn := fun _ => fun
  | [d1, d2, d3] => { results := [.lit (.bool true)], args := [d1, d2, d3] }
  | _ => none }
def rifleStartedRow : OpenClaim := { program := "ytopdmadgkjdgcaagreat", sum := "1e8470579db8422d18c0393204ddbc2b115621a8202a26139652f8809f241b20", func := "klister/klisterlaw07.RifleStarted", spec := "rifleStarted", unfollowed := true, recurses := true, plainKeys := false, apart := false }
def RifleStartedSaid : Prop := rifleStartedRow.holds Tryz.pinned (OpenSpec.ofChange rifleStartedSpec)

/-- ITS FALSE NEIGHBOUR: 'it returns false'. Refute it at one input. -/
def rifleStartedWrong : ChangeSpec := { name := "rifleStarted", fn := fun _ => fun
  | [d1, d2, d3] => { results := [.lit (.bool false)], args := [d1, d2, d3] }
  | _ => none }
def RifleStartedWrongFalsely : Prop := rifleStartedRow.holds Tryz.pinned (OpenSpec.ofChange rifleStartedWrong)

/-- 'klisterlaw07.RifleAimed': WHATEVER THE INPUT: true; the input reads as it did. -/
def rifleAimedSpec : ChangeSpec := { name := "rifleAimed", fn := fun _ => fun
  | [d1, d2] => { results := [.lit (.bool true)], args := [d1, d2] }
  | _ => none }
def rifleAimedRow : OpenClaim := { program := "ytopdmadgkjdgcaagreat", sum := "1e8470579db8422d18c0393204ddbc2b115621a8202a26139652f8809f241b20", func := "klister/klisterlaw07.RifleAimed", spec := "rifleAimed", unfollowed := true, recurses := true, plainKeys := false, apart := false }
def RifleAimedSaid : Prop := rifleAimedRow.holds Tryz.pinned (OpenSpec.ofChange rifleAimedSpec)

/-- ITS FALSE NEIGHBOUR: 'it returns false'. Refute it at one input. -/
def rifleAimedWrong : ChangeSpec := { name := "rifleAimed", fn := fun _ => fun
  | [d1, d2] => { results := [.lit (.bool false)], args := [d1, d2] }
  | _ => none }
def RifleAimedWrongFalsely : Prop := rifleAimedRow.holds Tryz.pinned (OpenSpec.ofChange rifleAimedWrong)

/-- 'klisterlaw07.RifleHeavier': WHATEVER THE INPUT: true; the input reads as it did. -/
def rifleHeavierSpec : ChangeSpec := { name := "rifleHeavier", fn := fun _ => fun
  | [d] => { results := [.lit (.bool true)], args := [d] }
  | _ => none }
def rifleHeavierRow : OpenClaim := { program := "ytopdmadgkjdgcaagreat", sum := "1e8470579db8422d18c0393204ddbc2b115621a8202a26139652f8809f241b20", func := "klister/klisterlaw07.RifleHeavier", spec := "rifleHeavier", unfollowed := true, recurses := true, plainKeys := false, apart := false }
def RifleHeavierSaid : Prop := rifleHeavierRow.holds Tryz.pinned (OpenSpec.ofChange rifleHeavierSpec)

/-- ITS FALSE NEIGHBOUR: 'it returns false'. Refute it at one input. -/
def rifleHeavierWrong : ChangeSpec := { name := "rifleHeavier", fn := fun _ => fun
  | [d] => { results := [.lit (.bool false)], args := [d] }
  | _ => none }
def RifleHeavierWrongFalsely : Prop := rifleHeavierRow.holds Tryz.pinned (OpenSpec.ofChange rifleHeavierWrong)

/-- 'klisterlaw07.RifleSmall': WHATEVER THE INPUT: true; the input reads as it did. -/
def rifleSmallSpec : ChangeSpec := { name := "rifleSmall", fn := fun _ => fun
  | [] => { results := [.lit (.bool true)], args := [] }
  | _ => none }
def rifleSmallRow : OpenClaim := { program := "ytopdmadgkjdgcaagreat", sum := "1e8470579db8422d18c0393204ddbc2b115621a8202a26139652f8809f241b20", func := "klister/klisterlaw07.RifleSmall", spec := "rifleSmall", unfollowed := true, recurses := true, plainKeys := false, apart := false }
def RifleSmallSaid : Prop := rifleSmallRow.holds Tryz.pinned (OpenSpec.ofChange rifleSmallSpec)

/-- ITS FALSE NEIGHBOUR: 'it returns false'. Refute it at one input. -/
def rifleSmallWrong : ChangeSpec := { name := "rifleSmall", fn := fun _ => fun
  | [] => { results := [.lit (.bool false)], args := [] }
  | _ => none }
def RifleSmallWrongFalsely : Prop := rifleSmallRow.holds Tryz.pinned (OpenSpec.ofChange rifleSmallWrong)

/- THE SECOND FORM. 'bulk': how many values and letters a reading holds, each counted each time it is reached (what is shared counts as often as it is met; a slice's spare places count too). A statement '..UptoSaid' is the law's where the arguments, and the package variables that the reading takes, are together of bulk at most 1048576: NARROWER than '..Said'. Prove '..Said' where nothing that the law and all that it calls make is longer than what came in: it says more and counts as full. Else prove '..UptoSaid'. A law counts once. -/
mutual
def uptoBulk {H : Type} : DataW H → Nat
  | .lit (.string bytes) => bytes.length + 1
  | .lit _ => 1
  | .nil => 1
  | .ptr d => uptoBulk d + 1
  | .slice elems spare => uptoBulkAll elems + uptoBulkAll spare + 1
  | .agg parts => uptoBulkAll parts + 1
  | .iface _ d => uptoBulk d + 1
  | .map entries => uptoBulkEntries entries + 1
  | .held _ => 1
def uptoBulkAll {H : Type} : List (DataW H) → Nat
  | [] => 0
  | d :: r => uptoBulk d + uptoBulkAll r
def uptoBulkEntries {H : Type} : List (Lit × DataW H) → Nat
  | [] => 0
  | x :: r => uptoBulkEntry x + uptoBulkEntries r
def uptoBulkEntry {H : Type} : Lit × DataW H → Nat
  | (.string bytes, d) => bytes.length + uptoBulk d + 1
  | (_, d) => uptoBulk d + 1
 end
def uptoSmall : (H : Type) → List (DataW H) → Bool := fun _ ds => decide (uptoBulkAll ds ≤ 1048576)
def OpenSpec.upto (s : _root_.Go.ChangeSpec) : _root_.Go.OpenSpec := { _root_.Go.OpenSpec.ofChange s with cond := some uptoSmall }

/-- 'klisterlaw07.RifleBackwards', WHERE WHAT IT READS IS OF BULK AT MOST 1048576: true; the input reads as it did. -/
def rifleBackwardsUptoRow : OpenClaim := { program := "ytopdmadgkjdgcaagreat", sum := "1e8470579db8422d18c0393204ddbc2b115621a8202a26139652f8809f241b20", func := "klister/klisterlaw07.RifleBackwards", spec := "rifleBackwards", unfollowed := true, recurses := true, plainKeys := false, apart := false, narrowed := true }
def RifleBackwardsUptoSaid : Prop := rifleBackwardsUptoRow.holds Tryz.pinned (OpenSpec.upto rifleBackwardsSpec)

/-- 'klisterlaw07.RifleCurved', WHERE WHAT IT READS IS OF BULK AT MOST 1048576: true; the input reads as it did. -/
def rifleCurvedUptoRow : OpenClaim := { program := "ytopdmadgkjdgcaagreat", sum := "1e8470579db8422d18c0393204ddbc2b115621a8202a26139652f8809f241b20", func := "klister/klisterlaw07.RifleCurved", spec := "rifleCurved", unfollowed := true, recurses := true, plainKeys := false, apart := false, narrowed := true }
def RifleCurvedUptoSaid : Prop := rifleCurvedUptoRow.holds Tryz.pinned (OpenSpec.upto rifleCurvedSpec)

/-- 'klisterlaw07.RifleWeights', WHERE WHAT IT READS IS OF BULK AT MOST 1048576: true; the input reads as it did. -/
def rifleWeightsUptoRow : OpenClaim := { program := "ytopdmadgkjdgcaagreat", sum := "1e8470579db8422d18c0393204ddbc2b115621a8202a26139652f8809f241b20", func := "klister/klisterlaw07.RifleWeights", spec := "rifleWeights", unfollowed := true, recurses := true, plainKeys := false, apart := false, narrowed := true }
def RifleWeightsUptoSaid : Prop := rifleWeightsUptoRow.holds Tryz.pinned (OpenSpec.upto rifleWeightsSpec)

/-- 'klisterlaw07.RifleReached', WHERE WHAT IT READS IS OF BULK AT MOST 1048576: true; the input reads as it did. -/
def rifleReachedUptoRow : OpenClaim := { program := "ytopdmadgkjdgcaagreat", sum := "1e8470579db8422d18c0393204ddbc2b115621a8202a26139652f8809f241b20", func := "klister/klisterlaw07.RifleReached", spec := "rifleReached", unfollowed := true, recurses := true, plainKeys := false, apart := false, narrowed := true }
def RifleReachedUptoSaid : Prop := rifleReachedUptoRow.holds Tryz.pinned (OpenSpec.upto rifleReachedSpec)

/-- 'klisterlaw07.RifleMore', WHERE WHAT IT READS IS OF BULK AT MOST 1048576: true; the input reads as it did. -/
def rifleMoreUptoRow : OpenClaim := { program := "ytopdmadgkjdgcaagreat", sum := "1e8470579db8422d18c0393204ddbc2b115621a8202a26139652f8809f241b20", func := "klister/klisterlaw07.RifleMore", spec := "rifleMore", unfollowed := true, recurses := true, plainKeys := false, apart := false, narrowed := true }
def RifleMoreUptoSaid : Prop := rifleMoreUptoRow.holds Tryz.pinned (OpenSpec.upto rifleMoreSpec)

/-- 'klisterlaw07.RiflePlans', WHERE WHAT IT READS IS OF BULK AT MOST 1048576: true; the input reads as it did. -/
def riflePlansUptoRow : OpenClaim := { program := "ytopdmadgkjdgcaagreat", sum := "1e8470579db8422d18c0393204ddbc2b115621a8202a26139652f8809f241b20", func := "klister/klisterlaw07.RiflePlans", spec := "riflePlans", unfollowed := true, recurses := true, plainKeys := false, apart := false, narrowed := true }
def RiflePlansUptoSaid : Prop := riflePlansUptoRow.holds Tryz.pinned (OpenSpec.upto riflePlansSpec)

/-- 'klisterlaw07.RiflePlanned', WHERE WHAT IT READS IS OF BULK AT MOST 1048576: true; the input reads as it did. -/
def riflePlannedUptoRow : OpenClaim := { program := "ytopdmadgkjdgcaagreat", sum := "1e8470579db8422d18c0393204ddbc2b115621a8202a26139652f8809f241b20", func := "klister/klisterlaw07.RiflePlanned", spec := "riflePlanned", unfollowed := true, recurses := true, plainKeys := false, apart := false, narrowed := true }
def RiflePlannedUptoSaid : Prop := riflePlannedUptoRow.holds Tryz.pinned (OpenSpec.upto riflePlannedSpec)

/-- 'klisterlaw07.RiflePassed', WHERE WHAT IT READS IS OF BULK AT MOST 1048576: true; the input reads as it did. -/
def riflePassedUptoRow : OpenClaim := { program := "ytopdmadgkjdgcaagreat", sum := "1e8470579db8422d18c0393204ddbc2b115621a8202a26139652f8809f241b20", func := "klister/klisterlaw07.RiflePassed", spec := "riflePassed", unfollowed := true, recurses := true, plainKeys := false, apart := false, narrowed := true }
def RiflePassedUptoSaid : Prop := riflePassedUptoRow.holds Tryz.pinned (OpenSpec.upto riflePassedSpec)

/-- 'klisterlaw07.RifleWaited', WHERE WHAT IT READS IS OF BULK AT MOST 1048576: true; the input reads as it did. -/
def rifleWaitedUptoRow : OpenClaim := { program := "ytopdmadgkjdgcaagreat", sum := "1e8470579db8422d18c0393204ddbc2b115621a8202a26139652f8809f241b20", func := "klister/klisterlaw07.RifleWaited", spec := "rifleWaited", unfollowed := true, recurses := true, plainKeys := false, apart := false, narrowed := true }
def RifleWaitedUptoSaid : Prop := rifleWaitedUptoRow.holds Tryz.pinned (OpenSpec.upto rifleWaitedSpec)

/-- 'klisterlaw07.RifleGuards', WHERE WHAT IT READS IS OF BULK AT MOST 1048576: true; the input reads as it did. -/
def rifleGuardsUptoRow : OpenClaim := { program := "ytopdmadgkjdgcaagreat", sum := "1e8470579db8422d18c0393204ddbc2b115621a8202a26139652f8809f241b20", func := "klister/klisterlaw07.RifleGuards", spec := "rifleGuards", unfollowed := true, recurses := true, plainKeys := false, apart := false, narrowed := true }
def RifleGuardsUptoSaid : Prop := rifleGuardsUptoRow.holds Tryz.pinned (OpenSpec.upto rifleGuardsSpec)

/-- 'klisterlaw07.RifleAims', WHERE WHAT IT READS IS OF BULK AT MOST 1048576: true; the input reads as it did. -/
def rifleAimsUptoRow : OpenClaim := { program := "ytopdmadgkjdgcaagreat", sum := "1e8470579db8422d18c0393204ddbc2b115621a8202a26139652f8809f241b20", func := "klister/klisterlaw07.RifleAims", spec := "rifleAims", unfollowed := true, recurses := true, plainKeys := false, apart := false, narrowed := true }
def RifleAimsUptoSaid : Prop := rifleAimsUptoRow.holds Tryz.pinned (OpenSpec.upto rifleAimsSpec)

/-- 'klisterlaw07.RifleGuarded', WHERE WHAT IT READS IS OF BULK AT MOST 1048576: true; the input reads as it did. -/
def rifleGuardedUptoRow : OpenClaim := { program := "ytopdmadgkjdgcaagreat", sum := "1e8470579db8422d18c0393204ddbc2b115621a8202a26139652f8809f241b20", func := "klister/klisterlaw07.RifleGuarded", spec := "rifleGuarded", unfollowed := true, recurses := true, plainKeys := false, apart := false, narrowed := true }
def RifleGuardedUptoSaid : Prop := rifleGuardedUptoRow.holds Tryz.pinned (OpenSpec.upto rifleGuardedSpec)

/-- 'klisterlaw07.RifleStarted', WHERE WHAT IT READS IS OF BULK AT MOST 1048576: true; the input reads as it did. -/
def rifleStartedUptoRow : OpenClaim := { program := "ytopdmadgkjdgcaagreat", sum := "1e8470579db8422d18c0393204ddbc2b115621a8202a26139652f8809f241b20", func := "klister/klisterlaw07.RifleStarted", spec := "rifleStarted", unfollowed := true, recurses := true, plainKeys := false, apart := false, narrowed := true }
def RifleStartedUptoSaid : Prop := rifleStartedUptoRow.holds Tryz.pinned (OpenSpec.upto rifleStartedSpec)

/-- 'klisterlaw07.RifleAimed', WHERE WHAT IT READS IS OF BULK AT MOST 1048576: true; the input reads as it did. -/
def rifleAimedUptoRow : OpenClaim := { program := "ytopdmadgkjdgcaagreat", sum := "1e8470579db8422d18c0393204ddbc2b115621a8202a26139652f8809f241b20", func := "klister/klisterlaw07.RifleAimed", spec := "rifleAimed", unfollowed := true, recurses := true, plainKeys := false, apart := false, narrowed := true }
def RifleAimedUptoSaid : Prop := rifleAimedUptoRow.holds Tryz.pinned (OpenSpec.upto rifleAimedSpec)

/-- 'klisterlaw07.RifleHeavier', WHERE WHAT IT READS IS OF BULK AT MOST 1048576: true; the input reads as it did. -/
def rifleHeavierUptoRow : OpenClaim := { program := "ytopdmadgkjdgcaagreat", sum := "1e8470579db8422d18c0393204ddbc2b115621a8202a26139652f8809f241b20", func := "klister/klisterlaw07.RifleHeavier", spec := "rifleHeavier", unfollowed := true, recurses := true, plainKeys := false, apart := false, narrowed := true }
def RifleHeavierUptoSaid : Prop := rifleHeavierUptoRow.holds Tryz.pinned (OpenSpec.upto rifleHeavierSpec)

/-- 'klisterlaw07.RifleSmall', WHERE WHAT IT READS IS OF BULK AT MOST 1048576: true; the input reads as it did. -/
def rifleSmallUptoRow : OpenClaim := { program := "ytopdmadgkjdgcaagreat", sum := "1e8470579db8422d18c0393204ddbc2b115621a8202a26139652f8809f241b20", func := "klister/klisterlaw07.RifleSmall", spec := "rifleSmall", unfollowed := true, recurses := true, plainKeys := false, apart := false, narrowed := true }
def RifleSmallUptoSaid : Prop := rifleSmallUptoRow.holds Tryz.pinned (OpenSpec.upto rifleSmallSpec)

end Rows
end Go.Proofs.YtopdmadgkjdgcaaGreat
