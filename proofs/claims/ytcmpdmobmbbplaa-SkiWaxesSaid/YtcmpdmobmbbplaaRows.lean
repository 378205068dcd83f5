/-
  No cell of these rows narrows 'for every input' (looked for: loops, veiled, ifaces, maps, wideKeys, modest, calm, conditions, laid).
  DERIVED. THE GIVEN ROWS OF THIS SEAT. 8 by the template 'for every input the law returns true; each argument reads behind the call as it read before'; 0 by the template 'total and deterministic' (their statements: YtcmpdmobmbbplaaTotals.lean).
  GIVEN WITH THE SEED: the statements are not yours to turn. If you find one false, say at which input.
  Laid BY PROGRAM, IN A SANDBOX (cutbox-rows.mjs): the forced cells as the released guide's own fill.sh prints them over the translation 0d403fd2df2f96c0… (all of the seat's roots in one cut). By AI agents, Wed Nov 11 2026. No macro, syntax, notation, axiom, sorry.
-/
import Derived.Test.YtcmpdmobmbbplaaChecked
import GoSem.Claim
import GoSem.ClaimJoined
import GoSem.ClaimMapViews
import Derived.JoinedTies
import Derived.KernelRfl
namespace Go.Proofs.Ytcmpdmobmbbplaa
/- THE CELL 'sum', in the pinned program and in every row, IS THE sha256 OF THE DUMP (.gsa) THAT YtcmpdmobmbbplaaProg.lean LOADS. Nothing in Lean hashes anything: it is a label: what it is worth is what the hold of that sum in a sandbox is worth. -/
noncomputable def Try.pinned : Pinned := { name := "ytcmpdmobmbbplaa", sum := "0d403fd2df2f96c0246b0bca7d676b361d4b3ac3c3b1d2a0414bdf0629f312ba", checked := Try.checked }
namespace Rows
def none {H : Type} : Left H := { results := [], args := [] }

/-- 'klisterlaw05.SkiMore': WHATEVER THE INPUT: true; the input reads as it did. -/
def skiMoreSpec : ChangeSpec := { name := "skiMore", fn := fun _ => fun
  | [d1, d2, d3, d4] => { results := [.lit (.bool true)], args := [d1, d2, d3, d4] }
  | _ => none }
def skiMoreRow : OpenClaim := { program := "ytcmpdmobmbbplaa", sum := "0d403fd2df2f96c0246b0bca7d676b361d4b3ac3c3b1d2a0414bdf0629f312ba", func := "klister/klisterlaw05.SkiMore", spec := "skiMore", unfollowed := true, recurses := true, plainKeys := false, apart := false }
def SkiMoreSaid : Prop := skiMoreRow.holds Try.pinned (OpenSpec.ofChange skiMoreSpec)

/-- ITS FALSE NEIGHBOUR: 'it returns false'. Refute it at one input. -/
def skiMoreWrong : ChangeSpec := { name := "skiMore", fn := fun _ => fun
  | [d1, d2, d3, d4] => { results := [.lit (.bool false)], args := [d1, d2, d3, d4] }
  | _ => none }
def SkiMoreWrongFalsely : Prop := skiMoreRow.holds Try.pinned (OpenSpec.ofChange skiMoreWrong)

/-- 'klisterlaw05.SkiWaxed': WHATEVER THE INPUT: true; the input reads as it did. -/
def skiWaxedSpec : ChangeSpec := { name := "skiWaxed", fn := fun _ => fun
  | [d1, d2, d3, d4] => { results := [.lit (.bool true)], args := [d1, d2, d3, d4] }
  | _ => none }
def skiWaxedRow : OpenClaim := { program := "ytcmpdmobmbbplaa", sum := "0d403fd2df2f96c0246b0bca7d676b361d4b3ac3c3b1d2a0414bdf0629f312ba", func := "klister/klisterlaw05.SkiWaxed", spec := "skiWaxed", unfollowed := true, recurses := true, plainKeys := false, apart := false }
def SkiWaxedSaid : Prop := skiWaxedRow.holds Try.pinned (OpenSpec.ofChange skiWaxedSpec)

/-- ITS FALSE NEIGHBOUR: 'it returns false'. Refute it at one input. -/
def skiWaxedWrong : ChangeSpec := { name := "skiWaxed", fn := fun _ => fun
  | [d1, d2, d3, d4] => { results := [.lit (.bool false)], args := [d1, d2, d3, d4] }
  | _ => none }
def SkiWaxedWrongFalsely : Prop := skiWaxedRow.holds Try.pinned (OpenSpec.ofChange skiWaxedWrong)

/-- 'klisterlaw05.SkiEnded': WHATEVER THE INPUT: true; the input reads as it did. -/
def skiEndedSpec : ChangeSpec := { name := "skiEnded", fn := fun _ => fun
  | [d1, d2, d3] => { results := [.lit (.bool true)], args := [d1, d2, d3] }
  | _ => none }
def skiEndedRow : OpenClaim := { program := "ytcmpdmobmbbplaa", sum := "0d403fd2df2f96c0246b0bca7d676b361d4b3ac3c3b1d2a0414bdf0629f312ba", func := "klister/klisterlaw05.SkiEnded", spec := "skiEnded", unfollowed := true, recurses := true, plainKeys := false, apart := false }
def SkiEndedSaid : Prop := skiEndedRow.holds Try.pinned (OpenSpec.ofChange skiEndedSpec)

/-- ITS FALSE NEIGHBOUR: 'it returns false'. Refute it at one input. -/
def skiEndedWrong : ChangeSpec := { name := "skiEnded", fn := fun _ => fun
  | [d1, d2, d3] => { results := [.lit (.bool false)], args := [d1, d2, d3] }
  | _ => none }
def SkiEndedWrongFalsely : Prop := skiEndedRow.holds Try.pinned (OpenSpec.ofChange skiEndedWrong)

/-- 'klisterlaw05.SkiChains': WHATEVER THE INPUT: true; the input reads as it did. -/
def skiChainsSpec : ChangeSpec := { name := "skiChains", fn := fun _ => fun
  | [d1, d2, d3, d4] => { results := [.lit (.bool true)], args := [d1, d2, d3, d4] }
  | _ => none }
def skiChainsRow : OpenClaim := { program := "ytcmpdmobmbbplaa", sum := "0d403fd2df2f96c0246b0bca7d676b361d4b3ac3c3b1d2a0414bdf0629f312ba", func := "klister/klisterlaw05.SkiChains", spec := "skiChains", unfollowed := true, recurses := true, plainKeys := false, apart := false }
def SkiChainsSaid : Prop := skiChainsRow.holds Try.pinned (OpenSpec.ofChange skiChainsSpec)

/-- ITS FALSE NEIGHBOUR: 'it returns false'. Refute it at one input. -/
def skiChainsWrong : ChangeSpec := { name := "skiChains", fn := fun _ => fun
  | [d1, d2, d3, d4] => { results := [.lit (.bool false)], args := [d1, d2, d3, d4] }
  | _ => none }
def SkiChainsWrongFalsely : Prop := skiChainsRow.holds Try.pinned (OpenSpec.ofChange skiChainsWrong)

/-- 'klisterlaw05.SkiWaxes': WHATEVER THE INPUT: true; the input reads as it did. -/
def skiWaxesSpec : ChangeSpec := { name := "skiWaxes", fn := fun _ => fun
  | [d1, d2, d3, d4, d5] => { results := [.lit (.bool true)], args := [d1, d2, d3, d4, d5] }
  | _ => none }
def skiWaxesRow : OpenClaim := { program := "ytcmpdmobmbbplaa", sum := "0d403fd2df2f96c0246b0bca7d676b361d4b3ac3c3b1d2a0414bdf0629f312ba", func := "klister/klisterlaw05.SkiWaxes", spec := "skiWaxes", unfollowed := true, recurses := true, plainKeys := false, apart := false }
def SkiWaxesSaid : Prop := skiWaxesRow.holds Try.pinned (OpenSpec.ofChange skiWaxesSpec)

/-- ITS FALSE NEIGHBOUR: 'it returns false'. Refute it at one input. -/
def skiWaxesWrong : ChangeSpec := { name := "skiWaxes", fn := fun _ => fun
  | [d1, d2, d3, d4, d5] => { results := [.lit (.bool false)], args := [d1, d2, d3, d4, d5] }
  | _ => none }
def SkiWaxesWrongFalsely : Prop := skiWaxesRow.holds Try.pinned (OpenSpec.ofChange skiWaxesWrong)

/-- 'klisterlaw05.SkiBagged': WHATEVER THE INPUT: true; the input reads as it did. -/
def skiBaggedSpec : ChangeSpec := { name := "skiBagged", fn := fun _ => fun
  | [d1, d2, d3, d4] => { results := [.lit (.bool true)], args := [d1, d2, d3, d4] }
  | _ => none }
def skiBaggedRow : OpenClaim := { program := "ytcmpdmobmbbplaa", sum := "0d403fd2df2f96c0246b0bca7d676b361d4b3ac3c3b1d2a0414bdf0629f312ba", func := "klister/klisterlaw05.SkiBagged", spec := "skiBagged", unfollowed := true, recurses := true, plainKeys := false, apart := false }
def SkiBaggedSaid : Prop := skiBaggedRow.holds Try.pinned (OpenSpec.ofChange skiBaggedSpec)

/-- ITS FALSE NEIGHBOUR: 'it returns false'. Refute it at one input. -/
def skiBaggedWrong : ChangeSpec := { name := "skiBagged", fn := fun _ => fun
  | [d1, d2, d3, d4] => { results := [.lit (.bool false)], args := [d1, d2, d3, d4] }
  | _ => none }
def SkiBaggedWrongFalsely : Prop := skiBaggedRow.holds Try.pinned (OpenSpec.ofChange skiBaggedWrong)

/-- 'klisterlaw05.SkiPlanned': WHATEVER THE INPUT: true; the input reads as it did. -/
def skiPlannedSpec : ChangeSpec := { name := "skiPlanned", fn := fun _ => fun
  | [d1, d2, d3, d4] => { results := [.lit (.bool true)], args := [d1, d2, d3, d4] }
  | _ => none }
def skiPlannedRow : OpenClaim := { program := "ytcmpdmobmbbplaa", sum := "0d403fd2df2f96c0246b0bca7d676b361d4b3ac3c3b1d2a0414bdf0629f312ba", func := "klister/klisterlaw05.SkiPlanned", spec := "skiPlanned", unfollowed := true, recurses := true, plainKeys := false, apart := false }
def SkiPlannedSaid : Prop := skiPlannedRow.holds Try.pinned (OpenSpec.ofChange skiPlannedSpec)

/-- ITS FALSE NEIGHBOUR: 'it returns false'. Refute it at one input. -/
def skiPlannedWrong : ChangeSpec := { name := "skiPlanned", fn := fun _ => fun
  | [d1, d2, d3, d4] => { results := [.lit (.bool false)], args := [d1, d2, d3, d4] }
  | _ => none }
def SkiPlannedWrongFalsely : Prop := skiPlannedRow.holds Try.pinned (OpenSpec.ofChange skiPlannedWrong)

/-- 'klisterlaw05.SkiPursued': WHATEVER THE INPUT: true; the input reads as it did. -/
def skiPursuedSpec : ChangeSpec := { name := "skiPursued", fn := fun _ => fun
  | [d1, d2] => { results := [.lit (.bool true)], args := [d1, d2] }
  | _ => none }
def skiPursuedRow : OpenClaim := { program := "ytcmpdmobmbbplaa", sum := "0d403fd2df2f96c0246b0bca7d676b361d4b3ac3c3b1d2a0414bdf0629f312ba", func := "klister/klisterlaw05.SkiPursued", spec := "skiPursued", unfollowed := true, recurses := true, plainKeys := false, apart := false }
def SkiPursuedSaid : Prop := skiPursuedRow.holds Try.pinned (OpenSpec.ofChange skiPursuedSpec)

/-- ITS FALSE NEIGHBOUR: 'it returns false'. Refute it at one input. -/
def skiPursuedWrong : ChangeSpec := { name := "skiPursued", fn := fun _ => fun
  | [d1, d2] => { results := [.lit (.bool false)], args := [d1, d2] }
  | _ => none }
def SkiPursuedWrongFalsely : Prop := skiPursuedRow.holds Try.pinned (OpenSpec.ofChange skiPursuedWrong)

/- THE SECOND FORM. 'bulk': how many values and letters a reading holds, each counted each time it is reached (what is shared counts as often as it is met; a slice's spare places count too). A statement '..UptoSaid' is the law's where the arguments, and the package variables that the reading takes, are together of bulk at most 1048576: NARROWER than '..Said'. Prove '..Said' where nothing that the law and all that it calls make is longer than what came in: it says more and counts as full. Else prove '..UptoSaid'. A law counts once. -/
mutual
def uptoBulk {H : Type} : DataW H → Nat
  | .lit (.string bytes) => bytes.length + 1
  | .lit _ => 1
  | .nil => 1
  | .ptr d => uptoBulk d + 1
  | .slice elems spare => uptoBulkAll elems + uptoBulkAll spare + 1
  | .agg parts => uptoBulkAll parts + 1
  | .iface _ d => uptoBulk d + 1
  | .map entries => uptoBulkEntries entries + 1
  | .held _ => 1
def uptoBulkAll {H : Type} : List (DataW H) → Nat
  | [] => 0
  | d :: r => uptoBulk d + uptoBulkAll r
def uptoBulkEntries {H : Type} : List (Lit × DataW H) → Nat
  | [] => 0
  | x :: r => uptoBulkEntry x + uptoBulkEntries r
def uptoBulkEntry {H : Type} : Lit × DataW H → Nat
  | (.string bytes, d) => bytes.length + uptoBulk d + 1
  | (_, d) => uptoBulk d + 1
 end
def uptoSmall : (H : Type) → List (DataW H) → Bool := fun _ ds => decide (uptoBulkAll ds ≤ 1048576)
def OpenSpec.upto (s : _root_.Go.ChangeSpec) : _root_.Go.OpenSpec := { _root_.Go.OpenSpec.ofChange s with cond := some uptoSmall }

/-- 'klisterlaw05.SkiMore', WHERE WHAT IT READS IS OF BULK AT MOST 1048576: true; the input reads as it did. -/
def skiMoreUptoRow : OpenClaim := { program := "ytcmpdmobmbbplaa", sum := "0d403fd2df2f96c0246b0bca7d676b361d4b3ac3c3b1d2a0414bdf0629f312ba", func := "klister/klisterlaw05.SkiMore", spec := "skiMore", unfollowed := true, recurses := true, plainKeys := false, apart := false, narrowed := true }
def SkiMoreUptoSaid : Prop := skiMoreUptoRow.holds Try.pinned (OpenSpec.upto skiMoreSpec)

/-- 'klisterlaw05.SkiWaxed', WHERE WHAT IT READS IS OF BULK AT MOST 1048576: true; the input reads as it did. -/
def skiWaxedUptoRow : OpenClaim := { program := "ytcmpdmobmbbplaa", sum := "0d403fd2df2f96c0246b0bca7d676b361d4b3ac3c3b1d2a0414bdf0629f312ba", func := "klister/klisterlaw05.SkiWaxed", spec := "skiWaxed", unfollowed := true, recurses := true, plainKeys := false, apart := false, narrowed := true }
def SkiWaxedUptoSaid : Prop := skiWaxedUptoRow.holds Try.pinned (OpenSpec.upto skiWaxedSpec)

/-- 'klisterlaw05.SkiEnded', WHERE WHAT IT READS IS OF BULK AT MOST 1048576: true; the input reads as it did. -/
def skiEndedUptoRow : OpenClaim := { program := "ytcmpdmobmbbplaa", sum := "0d403fd2df2f96c0246b0bca7d676b361d4b3ac3c3b1d2a0414bdf0629f312ba", func := "klister/klisterlaw05.SkiEnded", spec := "skiEnded", unfollowed := true, recurses := true, plainKeys := false, apart := false, narrowed := true }
def SkiEndedUptoSaid : Prop := skiEndedUptoRow.holds Try.pinned (OpenSpec.upto skiEndedSpec)

/-- 'klisterlaw05.SkiChains', WHERE WHAT IT READS IS OF BULK AT MOST 1048576: true; the input reads as it did. -/
def skiChainsUptoRow : OpenClaim := { program := "ytcmpdmobmbbplaa", sum := "0d403fd2df2f96c0246b0bca7d676b361d4b3ac3c3b1d2a0414bdf0629f312ba", func := "klister/klisterlaw05.SkiChains", spec := "skiChains", unfollowed := true, recurses := true, plainKeys := false, apart := false, narrowed := true }
def SkiChainsUptoSaid : Prop := skiChainsUptoRow.holds Try.pinned (OpenSpec.upto skiChainsSpec)

/-- 'klisterlaw05.SkiWaxes', WHERE WHAT IT READS IS OF BULK AT MOST 1048576: true; the input reads as it did. -/
def skiWaxesUptoRow : OpenClaim := { program := "ytcmpdmobmbbplaa", sum := "0d403fd2df2f96c0246b0bca7d676b361d4b3ac3c3b1d2a0414bdf0629f312ba", func := "klister/klisterlaw05.SkiWaxes", spec := "skiWaxes", unfollowed := true, recurses := true, plainKeys := false, apart := false, narrowed := true }
def SkiWaxesUptoSaid : Prop := skiWaxesUptoRow.holds Try.pinned (OpenSpec.upto skiWaxesSpec)

/-- 'klisterlaw05.SkiBagged', WHERE WHAT IT READS IS OF BULK AT MOST 1048576: true; the input reads as it did. -/
def skiBaggedUptoRow : OpenClaim := { program := "ytcmpdmobmbbplaa", sum := "0d403fd2df2f96c0246b0bca7d676b361d4b3ac3c3b1d2a0414bdf0629f312ba", func := "klister/klisterlaw05.SkiBagged", spec := "skiBagged", unfollowed := true, recurses := true, plainKeys := false, apart := false, narrowed := true }
def SkiBaggedUptoSaid : Prop := skiBaggedUptoRow.holds Try.pinned (OpenSpec.upto skiBaggedSpec)

/-- 'klisterlaw05.SkiPlanned', WHERE WHAT IT READS IS OF BULK AT MOST 1048576: true; the input reads as it did. -/
def skiPlannedUptoRow : OpenClaim := { program := "ytcmpdmobmbbplaa", sum := "0d403fd2df2f96c0246b0bca7d676b361d4b3ac3c3b1d2a0414bdf0629f312ba", func := "klister/klisterlaw05.SkiPlanned", spec := "skiPlanned", unfollowed := true, recurses := true, plainKeys := false, apart := false, narrowed := true }
def SkiPlannedUptoSaid : Prop := skiPlannedUptoRow.holds Try.pinned (OpenSpec.upto skiPlannedSpec)

/-- 'klisterlaw05.SkiPursued', WHERE WHAT IT READS IS OF BULK AT MOST 1048576: true; the input reads as it did. -/
def skiPursuedUptoRow : OpenClaim := { program := "ytcmpdmobmbbplaa", sum := "0d403fd2df2f96c0246b0bca7d676b361d4b3ac3c3b1d2a0414bdf0629f312ba", func := "klister/klisterlaw05.SkiPursued", spec := "skiPursued", unfollowed := true, recurses := true, plainKeys := false, apart := false, narrowed := true }
def SkiPursuedUptoSaid : Prop := skiPursuedUptoRow.holds Try.pinned (OpenSpec.upto skiPursuedSpec)

end Rows
end Go.Proofs.Ytcmpdmobmbbplaa
