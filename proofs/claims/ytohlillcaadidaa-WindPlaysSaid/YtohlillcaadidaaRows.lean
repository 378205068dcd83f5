/-
  No cell of these rows narrows 'for every input' (looked for: loops, veiled, ifaces, maps, wideKeys, modest, calm, conditions, laid).
  DERIVED. THE GIVEN ROWS OF THIS SEAT. 12 by the template 'for every input the law returns true; each argument reads behind the call as it read before'; 0 by the template 'total and deterministic' (their statements: YtohlillcaadidaaTotals.lean).
  GIVEN WITH THE SEED: the statements are not yours to turn. If you find one false, say at which input.
  Laid BY PROGRAM, IN A SANDBOX (cutbox-rows.mjs): the forced cells as the released guide's own fill.sh prints them over the translation 7a09f2f9f25be084… (all of the seat's roots in one cut). By AI agents, Wed Nov 11 2026. No macro, syntax, notation, axiom, sorry.
-/
import Derived.Test.YtohlillcaadidaaChecked
import GoSem.Claim
import GoSem.ClaimJoined
import GoSem.ClaimMapViews
import Derived.JoinedTies
import Derived.KernelRfl
namespace Go.Proofs.Ytohlillcaadidaa
/- THE CELL 'sum', in the pinned program and in every row, IS THE sha256 OF THE DUMP (.gsa) THAT YtohlillcaadidaaProg.lean LOADS. Nothing in Lean hashes anything: it is a label: what it is worth is what the hold of that sum in a sandbox is worth. -/
noncomputable def Try.pinned : Pinned := { name := "ytohlillcaadidaa", sum := "7a09f2f9f25be08417b39da0dc985951428b4d4b321e024f4b0baec383f4fb0a", checked := Try.checked }
namespace Rows
def none {H : Type} : Left H := { results := [], args := [] }

/-- 'klisterlaw04.WindPlans': WHATEVER THE INPUT: true; the input reads as it did. -/
def windPlansSpec : ChangeSpec := { name := "windPlans", fn := fun _ => fun
  | [d1, d2, d3, d4, d5, d6, d7] => { results := [.lit (.bool true)], args := [d1, d2, d3, d4, d5, d6, d7] }
  | _ => none }
def windPlansRow : OpenClaim := { program := "ytohlillcaadidaa", sum := "7a09f2f9f25be08417b39da0dc985951428b4d4b321e024f4b0baec383f4fb0a", func := "klister/klisterlaw04.WindPlans", spec := "windPlans", unfollowed := true, recurses := true, plainKeys := false, apart := false }
def WindPlansSaid : Prop := windPlansRow.holds Try.pinned (OpenSpec.ofChange windPlansSpec)

/-- ITS FALSE NEIGHBOUR: 'it returns false'. Refute it at one input. -/
def windPlansWrong : ChangeSpec := { name := "windPlans", fn := fun _ => fun
  | [d1, d2, d3, d4, d5, d6, d7] => { results := [.lit (.bool false)], args := [d1, d2, d3, d4, d5, d6, d7] }
  | _ => none }
def WindPlansWrongFalsely : Prop := windPlansRow.holds Try.pinned (OpenSpec.ofChange windPlansWrong)

/-- 'klisterlaw04.WindPlays': WHATEVER THE INPUT: true; the input reads as it did. -/
def windPlaysSpec : ChangeSpec := { name := "windPlays", fn := fun _ => fun
  | [d1, d2, d3, d4] => { results := [.lit (.bool true)], args := [d1, d2, d3, d4] }
  | _ => none }
def windPlaysRow : OpenClaim := { program := "ytohlillcaadidaa", sum := "7a09f2f9f25be08417b39da0dc985951428b4d4b321e024f4b0baec383f4fb0a", func := "klister/klisterlaw04.WindPlays", spec := "windPlays", unfollowed := true, recurses := true, plainKeys := false, apart := false }
def WindPlaysSaid : Prop := windPlaysRow.holds Try.pinned (OpenSpec.ofChange windPlaysSpec)

/-- ITS FALSE NEIGHBOUR: 'it returns false'. Refute it at one input. -/
def windPlaysWrong : ChangeSpec := { name := "windPlays", fn := fun _ => fun
  | [d1, d2, d3, d4] => { results := [.lit (.bool false)], args := [d1, d2, d3, d4] }
  | _ => none }
def WindPlaysWrongFalsely : Prop := windPlaysRow.holds Try.pinned (OpenSpec.ofChange windPlaysWrong)

/-- 'klisterlaw04.WindReads': WHATEVER THE INPUT: true; the input reads as it did. -/
def windReadsSpec : ChangeSpec := { name := "windReads", fn := fun _ => fun
  | [d1, d2, d3, d4] => { results := [.lit (.bool true)], args := [d1, d2, d3, d4] }
  | _ => none }
def windReadsRow : OpenClaim := { program := "ytohlillcaadidaa", sum := "7a09f2f9f25be08417b39da0dc985951428b4d4b321e024f4b0baec383f4fb0a", func := "klister/klisterlaw04.WindReads", spec := "windReads", unfollowed := true, recurses := true, plainKeys := false, apart := false }
def WindReadsSaid : Prop := windReadsRow.holds Try.pinned (OpenSpec.ofChange windReadsSpec)

/-- ITS FALSE NEIGHBOUR: 'it returns false'. Refute it at one input. -/
def windReadsWrong : ChangeSpec := { name := "windReads", fn := fun _ => fun
  | [d1, d2, d3, d4] => { results := [.lit (.bool false)], args := [d1, d2, d3, d4] }
  | _ => none }
def WindReadsWrongFalsely : Prop := windReadsRow.holds Try.pinned (OpenSpec.ofChange windReadsWrong)

/-- 'klisterlaw04.WindPlanned': WHATEVER THE INPUT: true; the input reads as it did. -/
def windPlannedSpec : ChangeSpec := { name := "windPlanned", fn := fun _ => fun
  | [d1, d2] => { results := [.lit (.bool true)], args := [d1, d2] }
  | _ => none }
def windPlannedRow : OpenClaim := { program := "ytohlillcaadidaa", sum := "7a09f2f9f25be08417b39da0dc985951428b4d4b321e024f4b0baec383f4fb0a", func := "klister/klisterlaw04.WindPlanned", spec := "windPlanned", unfollowed := true, recurses := true, plainKeys := false, apart := false }
def WindPlannedSaid : Prop := windPlannedRow.holds Try.pinned (OpenSpec.ofChange windPlannedSpec)

/-- ITS FALSE NEIGHBOUR: 'it returns false'. Refute it at one input. -/
def windPlannedWrong : ChangeSpec := { name := "windPlanned", fn := fun _ => fun
  | [d1, d2] => { results := [.lit (.bool false)], args := [d1, d2] }
  | _ => none }
def WindPlannedWrongFalsely : Prop := windPlannedRow.holds Try.pinned (OpenSpec.ofChange windPlannedWrong)

/-- 'klisterlaw04.WindPlayed': WHATEVER THE INPUT: true; the input reads as it did. -/
def windPlayedSpec : ChangeSpec := { name := "windPlayed", fn := fun _ => fun
  | [d] => { results := [.lit (.bool true)], args := [d] }
  | _ => none }
def windPlayedRow : OpenClaim := { program := "ytohlillcaadidaa", sum := "7a09f2f9f25be08417b39da0dc985951428b4d4b321e024f4b0baec383f4fb0a", func := "klister/klisterlaw04.WindPlayed", spec := "windPlayed", unfollowed := true, recurses := true, plainKeys := false, apart := false }
def WindPlayedSaid : Prop := windPlayedRow.holds Try.pinned (OpenSpec.ofChange windPlayedSpec)

/-- ITS FALSE NEIGHBOUR: 'it returns false'. Refute it at one input. -/
def windPlayedWrong : ChangeSpec := { name := "windPlayed", fn := fun _ => fun
  | [d] => { results := [.lit (.bool false)], args := [d] }
  | _ => none }
def WindPlayedWrongFalsely : Prop := windPlayedRow.holds Try.pinned (OpenSpec.ofChange windPlayedWrong)

/-- 'klisterlaw04.WindRead': WHATEVER THE INPUT: true; the input reads as it did. -/
def windReadSpec : ChangeSpec := { name := "windRead", fn := fun _ => fun
  | [d1, d2] => { results := [.lit (.bool true)], args := [d1, d2] }
  | _ => none }
def windReadRow : OpenClaim := { program := "ytohlillcaadidaa", sum := "7a09f2f9f25be08417b39da0dc985951428b4d4b321e024f4b0baec383f4fb0a", func := "klister/klisterlaw04.WindRead", spec := "windRead", unfollowed := true, recurses := true, plainKeys := false, apart := false }
def WindReadSaid : Prop := windReadRow.holds Try.pinned (OpenSpec.ofChange windReadSpec)

/-- ITS FALSE NEIGHBOUR: 'it returns false'. Refute it at one input. -/
def windReadWrong : ChangeSpec := { name := "windRead", fn := fun _ => fun
  | [d1, d2] => { results := [.lit (.bool false)], args := [d1, d2] }
  | _ => none }
def WindReadWrongFalsely : Prop := windReadRow.holds Try.pinned (OpenSpec.ofChange windReadWrong)

/-- 'klisterlaw04.WindTurned': WHATEVER THE INPUT: true; the input reads as it did. -/
def windTurnedSpec : ChangeSpec := { name := "windTurned", fn := fun _ => fun
  | [d1, d2, d3] => { results := [.lit (.bool true)], args := [d1, d2, d3] }
  | _ => none }
def windTurnedRow : OpenClaim := { program := "ytohlillcaadidaa", sum := "7a09f2f9f25be08417b39da0dc985951428b4d4b321e024f4b0baec383f4fb0a", func := "klister/klisterlaw04.WindTurned", spec := "windTurned", unfollowed := true, recurses := true, plainKeys := false, apart := false }
def WindTurnedSaid : Prop := windTurnedRow.holds Try.pinned (OpenSpec.ofChange windTurnedSpec)

/-- ITS FALSE NEIGHBOUR: 'it returns false'. Refute it at one input. -/
def windTurnedWrong : ChangeSpec := { name := "windTurned", fn := fun _ => fun
  | [d1, d2, d3] => { results := [.lit (.bool false)], args := [d1, d2, d3] }
  | _ => none }
def WindTurnedWrongFalsely : Prop := windTurnedRow.holds Try.pinned (OpenSpec.ofChange windTurnedWrong)

/-- 'klisterlaw04.WindChances': WHATEVER THE INPUT: true; the input reads as it did. -/
def windChancesSpec : ChangeSpec := { name := "windChances", fn := fun _ => fun
  | [d1, d2, d3] => { results := [.lit (.bool true)], args := [d1, d2, d3] }
  | _ => none }
def windChancesRow : OpenClaim := { program := "ytohlillcaadidaa", sum := "7a09f2f9f25be08417b39da0dc985951428b4d4b321e024f4b0baec383f4fb0a", func := "klister/klisterlaw04.WindChances", spec := "windChances", unfollowed := true, recurses := true, plainKeys := false, apart := false }
def WindChancesSaid : Prop := windChancesRow.holds Try.pinned (OpenSpec.ofChange windChancesSpec)

/-- ITS FALSE NEIGHBOUR: 'it returns false'. Refute it at one input. -/
def windChancesWrong : ChangeSpec := { name := "windChances", fn := fun _ => fun
  | [d1, d2, d3] => { results := [.lit (.bool false)], args := [d1, d2, d3] }
  | _ => none }
def WindChancesWrongFalsely : Prop := windChancesRow.holds Try.pinned (OpenSpec.ofChange windChancesWrong)

/-- 'klisterlaw04.WindBest': WHATEVER THE INPUT: true; the input reads as it did. -/
def windBestSpec : ChangeSpec := { name := "windBest", fn := fun _ => fun
  | [d] => { results := [.lit (.bool true)], args := [d] }
  | _ => none }
def windBestRow : OpenClaim := { program := "ytohlillcaadidaa", sum := "7a09f2f9f25be08417b39da0dc985951428b4d4b321e024f4b0baec383f4fb0a", func := "klister/klisterlaw04.WindBest", spec := "windBest", unfollowed := true, recurses := true, plainKeys := false, apart := false }
def WindBestSaid : Prop := windBestRow.holds Try.pinned (OpenSpec.ofChange windBestSpec)

/-- ITS FALSE NEIGHBOUR: 'it returns false'. Refute it at one input. -/
def windBestWrong : ChangeSpec := { name := "windBest", fn := fun _ => fun
  | [d] => { results := [.lit (.bool false)], args := [d] }
  | _ => none }
def WindBestWrongFalsely : Prop := windBestRow.holds Try.pinned (OpenSpec.ofChange windBestWrong)

/-- 'klisterlaw04.WindMore': WHATEVER THE INPUT: true; the input reads as it did. -/
def windMoreSpec : ChangeSpec := { name := "windMore", fn := fun _ => fun
  | [d1, d2, d3] => { results := [.lit (.bool true)], args := [d1, d2, d3] }
  | _ => none }
def windMoreRow : OpenClaim := { program := "ytohlillcaadidaa", sum := "7a09f2f9f25be08417b39da0dc985951428b4d4b321e024f4b0baec383f4fb0a", func := "klister/klisterlaw04.WindMore", spec := "windMore", unfollowed := true, recurses := true, plainKeys := false, apart := false }
def WindMoreSaid : Prop := windMoreRow.holds Try.pinned (OpenSpec.ofChange windMoreSpec)

/-- ITS FALSE NEIGHBOUR: 'it returns false'. Refute it at one input. -/
def windMoreWrong : ChangeSpec := { name := "windMore", fn := fun _ => fun
  | [d1, d2, d3] => { results := [.lit (.bool false)], args := [d1, d2, d3] }
  | _ => none }
def WindMoreWrongFalsely : Prop := windMoreRow.holds Try.pinned (OpenSpec.ofChange windMoreWrong)

/-- 'klisterlaw04.WindCalm': WHATEVER THE INPUT: true; the input reads as it did. -/
def windCalmSpec : ChangeSpec := { name := "windCalm", fn := fun _ => fun
  | [d1, d2, d3] => { results := [.lit (.bool true)], args := [d1, d2, d3] }
  | _ => none }
def windCalmRow : OpenClaim := { program := "ytohlillcaadidaa", sum := "7a09f2f9f25be08417b39da0dc985951428b4d4b321e024f4b0baec383f4fb0a", func := "klister/klisterlaw04.WindCalm", spec := "windCalm", unfollowed := true, recurses := true, plainKeys := false, apart := false }
def WindCalmSaid : Prop := windCalmRow.holds Try.pinned (OpenSpec.ofChange windCalmSpec)

/-- ITS FALSE NEIGHBOUR: 'it returns false'. Refute it at one input. -/
def windCalmWrong : ChangeSpec := { name := "windCalm", fn := fun _ => fun
  | [d1, d2, d3] => { results := [.lit (.bool false)], args := [d1, d2, d3] }
  | _ => none }
def WindCalmWrongFalsely : Prop := windCalmRow.holds Try.pinned (OpenSpec.ofChange windCalmWrong)

/-- 'klisterlaw04.WindRobust': WHATEVER THE INPUT: true; the input reads as it did. -/
def windRobustSpec : ChangeSpec := { name := "windRobust", fn := fun _ => fun
  | [d1, d2] => { results := [.lit (.bool true)], args := [d1, d2] }
  | _ => none }
def windRobustRow : OpenClaim := { program := "ytohlillcaadidaa", sum := "7a09f2f9f25be08417b39da0dc985951428b4d4b321e024f4b0baec383f4fb0a", func := "klister/klisterlaw04.WindRobust", spec := "windRobust", unfollowed := true, recurses := true, plainKeys := false, apart := false }
def WindRobustSaid : Prop := windRobustRow.holds Try.pinned (OpenSpec.ofChange windRobustSpec)

/-- ITS FALSE NEIGHBOUR: 'it returns false'. Refute it at one input. -/
def windRobustWrong : ChangeSpec := { name := "windRobust", fn := fun _ => fun
  | [d1, d2] => { results := [.lit (.bool false)], args := [d1, d2] }
  | _ => none }
def WindRobustWrongFalsely : Prop := windRobustRow.holds Try.pinned (OpenSpec.ofChange windRobustWrong)

/- THE SECOND FORM. 'bulk': how many values and letters a reading holds, each counted each time it is reached (what is shared counts as often as it is met; a slice's spare places count too). A statement '..UptoSaid' is the law's where the arguments, and the package variables that the reading takes, are together of bulk at most 1048576: NARROWER than '..Said'. Prove '..Said' where nothing that the law and all that it calls make is longer than what came in: it says more and counts as full. Else prove '..UptoSaid'. A law counts once. -/
mutual
def uptoBulk {H : Type} : DataW H → Nat
  | .lit (.string bytes) => bytes.length + 1
  | .lit _ => 1
  | .nil => 1
  | .ptr d => uptoBulk d + 1
  | .slice elems spare => uptoBulkAll elems + uptoBulkAll spare + 1
  | .agg parts => uptoBulkAll parts + 1
  | .iface _ d => uptoBulk d + 1
  | .map entries => uptoBulkEntries entries + 1
  | .held _ => 1
def uptoBulkAll {H : Type} : List (DataW H) → Nat
  | [] => 0
  | d :: r => uptoBulk d + uptoBulkAll r
def uptoBulkEntries {H : Type} : List (Lit × DataW H) → Nat
  | [] => 0
  | x :: r => uptoBulkEntry x + uptoBulkEntries r
def uptoBulkEntry {H : Type} : Lit × DataW H → Nat
  | (.string bytes, d) => bytes.length + uptoBulk d + 1
  | (_, d) => uptoBulk d + 1
 end
def uptoSmall : (H : Type) → List (DataW H) → Bool := fun _ ds => decide (uptoBulkAll ds ≤ 1048576)
def OpenSpec.upto (s : _root_.Go.ChangeSpec) : _root_.Go.OpenSpec := { _root_.Go.OpenSpec.ofChange s with cond := some uptoSmall }

/-- 'klisterlaw04.WindPlans', WHERE WHAT IT READS IS OF BULK AT MOST 1048576: true; the input reads as it did. -/
def windPlansUptoRow : OpenClaim := { program := "ytohlillcaadidaa", sum := "7a09f2f9f25be08417b39da0dc985951428b4d4b321e024f4b0baec383f4fb0a", func := "klister/klisterlaw04.WindPlans", spec := "windPlans", unfollowed := true, recurses := true, plainKeys := false, apart := false, narrowed := true }
def WindPlansUptoSaid : Prop := windPlansUptoRow.holds Try.pinned (OpenSpec.upto windPlansSpec)

/-- 'klisterlaw04.WindPlays', WHERE WHAT IT READS IS OF BULK AT MOST 1048576: true; the input reads as it did. -/
def windPlaysUptoRow : OpenClaim := { program := "ytohlillcaadidaa", sum := "7a09f2f9f25be08417b39da0dc985951428b4d4b321e024f4b0baec383f4fb0a", func := "klister/klisterlaw04.WindPlays", spec := "windPlays", unfollowed := true, recurses := true, plainKeys := false, apart := false, narrowed := true }
def WindPlaysUptoSaid : Prop := windPlaysUptoRow.holds Try.pinned (OpenSpec.upto windPlaysSpec)

/-- 'klisterlaw04.WindReads', WHERE WHAT IT READS IS OF BULK AT MOST 1048576: true; the input reads as it did. -/
def windReadsUptoRow : OpenClaim := { program := "ytohlillcaadidaa", sum := "7a09f2f9f25be08417b39da0dc985951428b4d4b321e024f4b0baec383f4fb0a", func := "klister/klisterlaw04.WindReads", spec := "windReads", unfollowed := true, recurses := true, plainKeys := false, apart := false, narrowed := true }
def WindReadsUptoSaid : Prop := windReadsUptoRow.holds Try.pinned (OpenSpec.upto windReadsSpec)

/-- 'klisterlaw04.WindPlanned', WHERE WHAT IT READS IS OF BULK AT MOST 1048576: true; the input reads as it did. -/
def windPlannedUptoRow : OpenClaim := { program := "ytohlillcaadidaa", sum := "7a09f2f9f25be08417b39da0dc985951428b4d4b321e024f4b0baec383f4fb0a", func := "klister/klisterlaw04.WindPlanned", spec := "windPlanned", unfollowed := true, recurses := true, plainKeys := false, apart := false, narrowed := true }
def WindPlannedUptoSaid : Prop := windPlannedUptoRow.holds Try.pinned (OpenSpec.upto windPlannedSpec)

/-- 'klisterlaw04.WindPlayed', WHERE WHAT IT READS IS OF BULK AT MOST 1048576: true; the input reads as it did. -/
def windPlayedUptoRow : OpenClaim := { program := "ytohlillcaadidaa", sum := "7a09f2f9f25be08417b39da0dc985951428b4d4b321e024f4b0baec383f4fb0a", func := "klister/klisterlaw04.WindPlayed", spec := "windPlayed", unfollowed := true, recurses := true, plainKeys := false, apart := false, narrowed := true }
def WindPlayedUptoSaid : Prop := windPlayedUptoRow.holds Try.pinned (OpenSpec.upto windPlayedSpec)

/-- 'klisterlaw04.WindRead', WHERE WHAT IT READS IS OF BULK AT MOST 1048576: true; the input reads as it did. -/
def windReadUptoRow : OpenClaim := { program := "ytohlillcaadidaa", sum := "7a09f2f9f25be08417b39da0dc985951428b4d4b321e024f4b0baec383f4fb0a", func := "klister/klisterlaw04.WindRead", spec := "windRead", unfollowed := true, recurses := true, plainKeys := false, apart := false, narrowed := true }
def WindReadUptoSaid : Prop := windReadUptoRow.holds Try.pinned (OpenSpec.upto windReadSpec)

/-- 'klisterlaw04.WindTurned', WHERE WHAT IT READS IS OF BULK AT MOST 1048576: true; the input reads as it did. -/
def windTurnedUptoRow : OpenClaim := { program := "ytohlillcaadidaa", sum := "7a09f2f9f25be08417b39da0dc985951428b4d4b321e024f4b0baec383f4fb0a", func := "klister/klisterlaw04.WindTurned", spec := "windTurned", unfollowed := true, recurses := true, plainKeys := false, apart := false, narrowed := true }
def WindTurnedUptoSaid : Prop := windTurnedUptoRow.holds Try.pinned (OpenSpec.upto windTurnedSpec)

/-- 'klisterlaw04.WindChances', WHERE WHAT IT READS IS OF BULK AT MOST 1048576: true; the input reads as it did. -/
def windChancesUptoRow : OpenClaim := { program := "ytohlillcaadidaa", sum := "7a09f2f9f25be08417b39da0dc985951428b4d4b321e024f4b0baec383f4fb0a", func := "klister/klisterlaw04.WindChances", spec := "windChances", unfollowed := true, recurses := true, plainKeys := false, apart := false, narrowed := true }
def WindChancesUptoSaid : Prop := windChancesUptoRow.holds Try.pinned (OpenSpec.upto windChancesSpec)

/-- 'klisterlaw04.WindBest', WHERE WHAT IT READS IS OF BULK AT MOST 1048576: true; the input reads as it did. -/
def windBestUptoRow : OpenClaim := { program := "ytohlillcaadidaa", sum := "7a09f2f9f25be08417b39da0dc985951428b4d4b321e024f4b0baec383f4fb0a", func := "klister/klisterlaw04.WindBest", spec := "windBest", unfollowed := true, recurses := true, plainKeys := false, apart := false, narrowed := true }
def WindBestUptoSaid : Prop := windBestUptoRow.holds Try.pinned (OpenSpec.upto windBestSpec)

/-- 'klisterlaw04.WindMore', WHERE WHAT IT READS IS OF BULK AT MOST 1048576: true; the input reads as it did. -/
def windMoreUptoRow : OpenClaim := { program := "ytohlillcaadidaa", sum := "7a09f2f9f25be08417b39da0dc985951428b4d4b321e024f4b0baec383f4fb0a", func := "klister/klisterlaw04.WindMore", spec := "windMore", unfollowed := true, recurses := true, plainKeys := false, apart := false, narrowed := true }
def WindMoreUptoSaid : Prop := windMoreUptoRow.holds Try.pinned (OpenSpec.upto windMoreSpec)

/-- 'klisterlaw04.WindCalm', WHERE WHAT IT READS IS OF BULK AT MOST 1048576: true; the input reads as it did. -/
def windCalmUptoRow : OpenClaim := { program := "ytohlillcaadidaa", sum := "7a09f2f9f25be08417b39da0dc985951428b4d4b321e024f4b0baec383f4fb0a", func := "klister/klisterlaw04.WindCalm", spec := "windCalm", unfollowed := true, recurses := true, plainKeys := false, apart := false, narrowed := true }
def WindCalmUptoSaid : Prop := windCalmUptoRow.holds Try.pinned (OpenSpec.upto windCalmSpec)

/-- 'klisterlaw04.WindRobust', WHERE WHAT IT READS IS OF BULK AT MOST 1048576: true; the input reads as it did. -/
def windRobustUptoRow : OpenClaim := { program := "ytohlillcaadidaa", sum := "7a09f2f9f25be08417b39da0dc985951428b4d4b321e024f4b0baec383f4fb0a", func := "klister/klisterlaw04.WindRobust", spec := "windRobust", unfollowed := true, recurses := true, plainKeys := false, apart := false, narrowed := true }
def WindRobustUptoSaid : Prop := windRobustUptoRow.holds Try.pinned (OpenSpec.upto windRobustSpec)

end Rows
end Go.Proofs.Ytohlillcaadidaa
