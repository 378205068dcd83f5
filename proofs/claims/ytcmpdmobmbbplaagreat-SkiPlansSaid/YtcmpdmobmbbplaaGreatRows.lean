/-
  No cell of these rows narrows 'for every input' (looked for: loops, veiled, ifaces, maps, wideKeys, modest, calm, conditions, laid).
  DERIVED. THE GIVEN ROWS OF THIS SEAT. 6 by the template 'for every input the law returns true; each argument reads behind the call as it read before'; 0 by the template 'total and deterministic' (their statements: YtcmpdmobmbbplaaGreatTotals.lean).
  GIVEN WITH THE SEED: the statements are not yours to turn. If you find one false, say at which input.
  Laid BY PROGRAM, IN A SANDBOX (cutbox-rows.mjs): the forced cells as the released guide's own fill.sh prints them over the translation 20dfab8614bfb1b8… (all of the seat's roots in one cut). By AI agents, Wed Nov 11 2026. No macro, syntax, notation, axiom, sorry.
-/
import Derived.Test.YtcmpdmobmbbplaaGreatChecked
import GoSem.Claim
import GoSem.ClaimJoined
import GoSem.ClaimMapViews
import Derived.JoinedTies
import Derived.KernelRfl
namespace Go.Proofs.YtcmpdmobmbbplaaGreat
/- THE CELL 'sum', in the pinned program and in every row, IS THE sha256 OF THE DUMP (.gsa) THAT YtcmpdmobmbbplaaGreatProg.lean LOADS. Nothing in Lean hashes anything: it is a label: what it is worth is what the hold of that sum in a sandbox is worth. -/
noncomputable def Tryz.pinned : Pinned := { name := "ytcmpdmobmbbplaagreat", sum := "20dfab8614bfb1b8c1c4f6b7b5b0c4671c1fa6afe6cb4feba7ea195127a8260e", checked := Tryz.checked }
namespace Rows
def none {H : Type} : Left H := { results := [], args := [] }

/-- 'klisterlaw05.SkiPlans': WHATEVER THE INPUT: true; the input reads as it did. -/
def skiPlansSpec : ChangeSpec := { name := "skiPlans", fn := fun _ => fun
  | [d1, d2, d3, d4] => { results := [.lit (.bool true)], args := [d1, d2, d3, d4] }
  | _ => none }
def skiPlansRow : OpenClaim := { program := "ytcmpdmobmbbplaagreat", sum := "20dfab8614bfb1b8c1c4f6b7b5b0c4671c1fa6afe6cb4feba7ea195127a8260e", func := "klister/klisterlaw05.SkiPlans", spec := "skiPlans", unfollowed := true, recurses := true, plainKeys := false, apart := false }
def SkiPlansSaid : Prop := skiPlansRow.holds Tryz.pinned (OpenSpec.ofChange skiPlansSpec)

/-- ITS FALSE NEIGHBOUR: 'it returns false'. Refute it at one input. -/
def skiPlansWrong : ChangeSpec := { name := "skiPlans", fn := fun _ => fun
  | [d1, d2, d3, d4] => { results := [.lit (.bool false)], args := [d1, d2, d3, d4] }
  | _ => none }
def SkiPlansWrongFalsely : Prop := skiPlansRow.holds Tryz.pinned (OpenSpec.ofChange skiPlansWrong)

/-- 'klisterlaw05.SkiNamed': WHATEVER THE INPUT: true; the input reads as it did. -/
def skiNamedSpec : ChangeSpec := { name := "skiNamed", fn := fun _ => fun
  | [d1, d2, d3] => { results := [.lit (.bool true)], args := [d1, d2, d3] }
  | _ => none }
def skiNamedRow : OpenClaim := { program := "ytcmpdmobmbbplaagreat", sum := "20dfab8614bfb1b8c1c4f6b7b5b0c4671c1fa6afe6cb4feba7ea195127a8260e", func := "klister/klisterlaw05.SkiNamed", spec := "skiNamed", unfollowed := true, recurses := true, plainKeys := false, apart := false }
def SkiNamedSaid : Prop := skiNamedRow.holds Tryz.pinned (OpenSpec.ofChange skiNamedSpec)

/-- ITS FALSE NEIGHBOUR: 'it returns false'. Refute it at one input. -/
def skiNamedWrong : ChangeSpec := { name := "skiNamed", fn := fun _ => fun
  | [d1, d2, d3] => { results := [.lit (.bool false)], args := [d1, d2, d3] }
  | _ => none }
def SkiNamedWrongFalsely : Prop := skiNamedRow.holds Tryz.pinned (OpenSpec.ofChange skiNamedWrong)

/-- 'klisterlaw05.SkiOrders': WHATEVER THE INPUT: true; the input reads as it did. -/
def skiOrdersSpec : ChangeSpec := { name := "skiOrders", fn := fun _ => fun
  | [d] => { results := [.lit (.bool true)], args := [d] }
  | _ => none }
def skiOrdersRow : OpenClaim := { program := "ytcmpdmobmbbplaagreat", sum := "20dfab8614bfb1b8c1c4f6b7b5b0c4671c1fa6afe6cb4feba7ea195127a8260e", func := "klister/klisterlaw05.SkiOrders", spec := "skiOrders", unfollowed := true, recurses := true, plainKeys := false, apart := false }
def SkiOrdersSaid : Prop := skiOrdersRow.holds Tryz.pinned (OpenSpec.ofChange skiOrdersSpec)

/-- ITS FALSE NEIGHBOUR: 'it returns false'. Refute it at one input. -/
def skiOrdersWrong : ChangeSpec := { name := "skiOrders", fn := fun _ => fun
  | [d] => { results := [.lit (.bool false)], args := [d] }
  | _ => none }
def SkiOrdersWrongFalsely : Prop := skiOrdersRow.holds Tryz.pinned (OpenSpec.ofChange skiOrdersWrong)

/-- 'klisterlaw05.SkiContradicted': WHATEVER THE INPUT: true; the input reads as it did. -/
def skiContradictedSpec : ChangeSpec := { name := "skiContradicted", fn := fun _ => fun
  | [d1, d2] => { results := [.lit (.bool true)], args := [d1, d2] }
  | _ => none }
def skiContradictedRow : OpenClaim := { program := "ytcmpdmobmbbplaagreat", sum := "20dfab8614bfb1b8c1c4f6b7b5b0c4671c1fa6afe6cb4feba7ea195127a8260e", func := "klister/klisterlaw05.SkiContradicted", spec := "skiContradicted", unfollowed := true, recurses := true, plainKeys := false, apart := false }
def SkiContradictedSaid : Prop := skiContradictedRow.holds Tryz.pinned (OpenSpec.ofChange skiContradictedSpec)

/-- ITS FALSE NEIGHBOUR: 'it returns false'. Refute it at one input. -/
def skiContradictedWrong : ChangeSpec := { name := "skiContradicted", fn := fun _ => fun
  | [d1, d2] => { results := [.lit (.bool false)], args := [d1, d2] }
  | _ => none }
def SkiContradictedWrongFalsely : Prop := skiContradictedRow.holds Tryz.pinned (OpenSpec.ofChange skiContradictedWrong)

/-- 'klisterlaw05.SkiRanked': WHATEVER THE INPUT: true; the input reads as it did. -/
def skiRankedSpec : ChangeSpec := { name := "skiRanked", fn := fun _ => fun
  | [d] => { results := [.lit (.bool true)], args := [d] }
  | _ => none }
def skiRankedRow : OpenClaim := { program := "ytcmpdmobmbbplaagreat", sum := "20dfab8614bfb1b8c1c4f6b7b5b0c4671c1fa6afe6cb4feba7ea195127a8260e", func := "klister/klisterlaw05.SkiRanked", spec := "skiRanked", unfollowed := true, recurses := true, plainKeys := false, apart := false }
def SkiRankedSaid : Prop := skiRankedRow.holds Tryz.pinned (OpenSpec.ofChange skiRankedSpec)

/-- ITS FALSE NEIGHBOUR: 'it returns false'. Refute it at one input. -/
def skiRankedWrong : ChangeSpec := { name := "skiRanked", fn := fun _ => fun
  | [d] => { results := [.lit (.bool false)], args := [d] }
  | _ => none }
def SkiRankedWrongFalsely : Prop := skiRankedRow.holds Tryz.pinned (OpenSpec.ofChange skiRankedWrong)

/-- 'klisterlaw05.SkiSmall': WHATEVER THE INPUT: true; the input reads as it did. -/
def skiSmallSpec : ChangeSpec := { name := "skiSmall", fn := fun _ => fun
  | [] => { results := [.lit (.bool true)], args := [] }
  | _ => none }
def skiSmallRow : OpenClaim := { program := "ytcmpdmobmbbplaagreat", sum := "20dfab8614bfb1b8c1c4f6b7b5b0c4671c1fa6afe6cb4feba7ea195127a8260e", func := "klister/klisterlaw05.SkiSmall", spec := "skiSmall", unfollowed := true, recurses := true, plainKeys := false, apart := false }
def SkiSmallSaid : Prop := skiSmallRow.holds Tryz.pinned (OpenSpec.ofChange skiSmallSpec)

/-- ITS FALSE NEIGHBOUR: 'it returns false'. Refute it at one input. -/
def skiSmallWrong : ChangeSpec := { name := "skiSmall", fn := fun _ => fun
  | [] => { results := [.lit (.bool false)], args := [] }
  | _ => none }
def SkiSmallWrongFalsely : Prop := skiSmallRow.holds Tryz.pinned (OpenSpec.ofChange skiSmallWrong)

/- THE SECOND FORM. 'bulk': how many values and letters a reading holds, each counted each time it is reached (what is shared counts as often as it is met; a slice's spare places count too). A statement '..UptoSaid' is the law's where the arguments, and the package variables that the reading takes, are together of bulk at most 1048576: NARROWER than '..Said'. Prove '..Said' where nothing that the law and all that it calls make is longer than what came in: it says more and counts as full. Else prove '..UptoSaid'. A law counts once. -/
mutual
def uptoBulk {H : Type} : DataW H → Nat
  | .lit (.string bytes) => bytes.length + 1
  | .lit _ => 1
  | .nil => 1
  | .ptr d => uptoBulk d + 1
  | .slice elems spare => uptoBulkAll elems + uptoBulkAll spare + 1
  | .agg parts => uptoBulkAll parts + 1
  | .iface _ d => uptoBulk d + 1
  | .map entries => uptoBulkEntries entries + 1
  | .held _ => 1
def uptoBulkAll {H : Type} : List (DataW H) → Nat
  | [] => 0
  | d :: r => uptoBulk d + uptoBulkAll r
def uptoBulkEntries {H : Type} : List (Lit × DataW H) → Nat
  | [] => 0
  | x :: r => uptoBulkEntry x + uptoBulkEntries r
def uptoBulkEntry {H : Type} : Lit × DataW H → Nat
  | (.string bytes, d) => bytes.length + uptoBulk d + 1
  | (_, d) => uptoBulk d + 1
 end
def uptoSmall : (H : Type) → List (DataW H) → Bool := fun _ ds => decide (uptoBulkAll ds ≤ 1048576)
def OpenSpec.upto (s : _root_.Go.ChangeSpec) : _root_.Go.OpenSpec := { _root_.Go.OpenSpec.ofChange s with cond := some uptoSmall }

/-- 'klisterlaw05.SkiPlans', WHERE WHAT IT READS IS OF BULK AT MOST 1048576: true; the input reads as it did. -/
def skiPlansUptoRow : OpenClaim := { program := "ytcmpdmobmbbplaagreat", sum := "20dfab8614bfb1b8c1c4f6b7b5b0c4671c1fa6afe6cb4feba7ea195127a8260e", func := "klister/klisterlaw05.SkiPlans", spec := "skiPlans", unfollowed := true, recurses := true, plainKeys := false, apart := false, narrowed := true }
def SkiPlansUptoSaid : Prop := skiPlansUptoRow.holds Tryz.pinned (OpenSpec.upto skiPlansSpec)

/-- 'klisterlaw05.SkiNamed', WHERE WHAT IT READS IS OF BULK AT MOST 1048576: true; the input reads as it did. -/
def skiNamedUptoRow : OpenClaim := { program := "ytcmpdmobmbbplaagreat", sum := "20dfab8614bfb1b8c1c4f6b7b5b0c4671c1fa6afe6cb4feba7ea195127a8260e", func := "klister/klisterlaw05.SkiNamed", spec := "skiNamed", unfollowed := true, recurses := true, plainKeys := false, apart := false, narrowed := true }
def SkiNamedUptoSaid : Prop := skiNamedUptoRow.holds Tryz.pinned (OpenSpec.upto skiNamedSpec)

/-- 'klisterlaw05.SkiOrders', WHERE WHAT IT READS IS OF BULK AT MOST 1048576: true; the input reads as it did. -/
def skiOrdersUptoRow : OpenClaim := { program := "ytcmpdmobmbbplaagreat", sum := "20dfab8614bfb1b8c1c4f6b7b5b0c4671c1fa6afe6cb4feba7ea195127a8260e", func := "klister/klisterlaw05.SkiOrders", spec := "skiOrders", unfollowed := true, recurses := true, plainKeys := false, apart := false, narrowed := true }
def SkiOrdersUptoSaid : Prop := skiOrdersUptoRow.holds Tryz.pinned (OpenSpec.upto skiOrdersSpec)

/-- 'klisterlaw05.SkiContradicted', WHERE WHAT IT READS IS OF BULK AT MOST 1048576: true; the input reads as it did. -/
def skiContradictedUptoRow : OpenClaim := { program := "ytcmpdmobmbbplaagreat", sum := "20dfab8614bfb1b8c1c4f6b7b5b0c4671c1fa6afe6cb4feba7ea195127a8260e", func := "klister/klisterlaw05.SkiContradicted", spec := "skiContradicted", unfollowed := true, recurses := true, plainKeys := false, apart := false, narrowed := true }
def SkiContradictedUptoSaid : Prop := skiContradictedUptoRow.holds Tryz.pinned (OpenSpec.upto skiContradictedSpec)

/-- 'klisterlaw05.SkiRanked', WHERE WHAT IT READS IS OF BULK AT MOST 1048576: true; the input reads as it did. -/
def skiRankedUptoRow : OpenClaim := { program := "ytcmpdmobmbbplaagreat", sum := "20dfab8614bfb1b8c1c4f6b7b5b0c4671c1fa6afe6cb4feba7ea195127a8260e", func := "klister/klisterlaw05.SkiRanked", spec := "skiRanked", unfollowed := true, recurses := true, plainKeys := false, apart := false, narrowed := true }
def SkiRankedUptoSaid : Prop := skiRankedUptoRow.holds Tryz.pinned (OpenSpec.upto skiRankedSpec)

/-- 'klisterlaw05.SkiSmall', WHERE WHAT IT READS IS OF BULK AT MOST 1048576: true; the input reads as it did. -/
def skiSmallUptoRow : OpenClaim := { program := "ytcmpdmobmbbplaagreat", sum := "20dfab8614bfb1b8c1c4f6b7b5b0c4671c1fa6afe6cb4feba7ea195127a8260e", func := "klister/klisterlaw05.SkiSmall", spec := "skiSmall", unfollowed := true, recurses := true, plainKeys := false, apart := false, narrowed := true }
def SkiSmallUptoSaid : Prop := skiSmallUptoRow.holds Tryz.pinned (OpenSpec.upto skiSmallSpec)

end Rows
end Go.Proofs.YtcmpdmobmbbplaaGreat
