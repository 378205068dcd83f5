/-
  No cell of these rows narrows 'for every input' (looked for: loops, veiled, ifaces, maps, wideKeys, modest, calm, conditions, laid).
  DERIVED. THE GIVEN ROWS OF THIS SEAT. 15 by the template 'for every input the law returns true; each argument reads behind the call as it read before'; 0 by the template 'total and deterministic' (their statements: YtgeajgmefokifaaTotals.lean).
  GIVEN WITH THE SEED: the statements are not yours to turn. If you find one false, say at which input.
  Laid BY PROGRAM, IN A SANDBOX (cutbox-rows.mjs): the forced cells as the released guide's own fill.sh prints them over the translation 328d21e309d0f091… (all of the seat's roots in one cut). By AI agents, Wed Nov 11 2026. No macro, syntax, notation, axiom, sorry.
-/
import Derived.Test.YtgeajgmefokifaaChecked
import GoSem.Claim
import GoSem.ClaimJoined
import GoSem.ClaimMapViews
import Derived.JoinedTies
import Derived.KernelRfl
namespace Go.Proofs.Ytgeajgmefokifaa
/- THE CELL 'sum', in the pinned program and in every row, IS THE sha256 OF THE DUMP (.gsa) THAT YtgeajgmefokifaaProg.lean LOADS. Nothing in Lean hashes anything: it is a label: what it is worth is what the hold of that sum in a sandbox is worth. -/
noncomputable def Try.pinned : Pinned := { name := "ytgeajgmefokifaa", sum := "328d21e309d0f091ad3ba53d78ea6a445f759cf13f9cd2b0a4752e794ded323a", checked := Try.checked }
namespace Rows
def none {H : Type} : Left H := { results := [], args := [] }

/-- 'klisterlaw01.CourseRules': WHATEVER THE INPUT: true; the input reads as it did. -/
def courseRulesSpec : ChangeSpec := { name := "courseRules", fn := fun _ => fun
  | [d1, d2, d3] => { results := [.lit (.bool true)], args := [d1, d2, d3] }
  | _ => none }
def courseRulesRow : OpenClaim := { program := "ytgeajgmefokifaa", sum := "328d21e309d0f091ad3ba53d78ea6a445f759cf13f9cd2b0a4752e794ded323a", func := "klister/klisterlaw01.CourseRules", spec := "courseRules", unfollowed := true, recurses := true, apart := false }
def CourseRulesSaid : Prop := courseRulesRow.holds Try.pinned (OpenSpec.ofChange courseRulesSpec)

/-- ITS FALSE NEIGHBOUR: 'it returns false'. Refute it at one input. -/
def courseRulesWrong : ChangeSpec := { name := "courseRules", fn := fun _ => fun
  | [d1, d2, d3] => { results := [.lit (.bool false)], args := [d1, d2, d3] }
  | _ => none }
def CourseRulesWrongFalsely : Prop := courseRulesRow.holds Try.pinned (OpenSpec.ofChange courseRulesWrong)

/-- 'klisterlaw01.CourseLists': WHATEVER THE INPUT: true; the input reads as it did. -/
def courseListsSpec : ChangeSpec := { name := "courseLists", fn := fun _ => fun
  | [d1, d2] => { results := [.lit (.bool true)], args := [d1, d2] }
  | _ => none }
def courseListsRow : OpenClaim := { program := "ytgeajgmefokifaa", sum := "328d21e309d0f091ad3ba53d78ea6a445f759cf13f9cd2b0a4752e794ded323a", func := "klister/klisterlaw01.CourseLists", spec := "courseLists", unfollowed := true, recurses := true, apart := false }
def CourseListsSaid : Prop := courseListsRow.holds Try.pinned (OpenSpec.ofChange courseListsSpec)

/-- ITS FALSE NEIGHBOUR: 'it returns false'. Refute it at one input. -/
def courseListsWrong : ChangeSpec := { name := "courseLists", fn := fun _ => fun
  | [d1, d2] => { results := [.lit (.bool false)], args := [d1, d2] }
  | _ => none }
def CourseListsWrongFalsely : Prop := courseListsRow.holds Try.pinned (OpenSpec.ofChange courseListsWrong)

/-- 'klisterlaw01.CourseProved': WHATEVER THE INPUT: true; the input reads as it did. -/
def courseProvedSpec : ChangeSpec := { name := "courseProved", fn := fun _ => fun
  | [d1, d2] => { results := [.lit (.bool true)], args := [d1, d2] }
  | _ => none }
def courseProvedRow : OpenClaim := { program := "ytgeajgmefokifaa", sum := "328d21e309d0f091ad3ba53d78ea6a445f759cf13f9cd2b0a4752e794ded323a", func := "klister/klisterlaw01.CourseProved", spec := "courseProved", unfollowed := true, recurses := true, apart := false }
def CourseProvedSaid : Prop := courseProvedRow.holds Try.pinned (OpenSpec.ofChange courseProvedSpec)

/-- ITS FALSE NEIGHBOUR: 'it returns false'. Refute it at one input. -/
def courseProvedWrong : ChangeSpec := { name := "courseProved", fn := fun _ => fun
  | [d1, d2] => { results := [.lit (.bool false)], args := [d1, d2] }
  | _ => none }
def CourseProvedWrongFalsely : Prop := courseProvedRow.holds Try.pinned (OpenSpec.ofChange courseProvedWrong)

/-- 'klisterlaw01.CourseEnough': WHATEVER THE INPUT: true; the input reads as it did. -/
def courseEnoughSpec : ChangeSpec := { name := "courseEnough", fn := fun _ => fun
  | [d] => { results := [.lit (.bool true)], args := [d] }
  | _ => none }
def courseEnoughRow : OpenClaim := { program := "ytgeajgmefokifaa", sum := "328d21e309d0f091ad3ba53d78ea6a445f759cf13f9cd2b0a4752e794ded323a", func := "klister/klisterlaw01.CourseEnough", spec := "courseEnough", unfollowed := true, recurses := true, apart := false }
def CourseEnoughSaid : Prop := courseEnoughRow.holds Try.pinned (OpenSpec.ofChange courseEnoughSpec)

/-- ITS FALSE NEIGHBOUR: 'it returns false'. Refute it at one input. -/
def courseEnoughWrong : ChangeSpec := { name := "courseEnough", fn := fun _ => fun
  | [d] => { results := [.lit (.bool false)], args := [d] }
  | _ => none }
def CourseEnoughWrongFalsely : Prop := courseEnoughRow.holds Try.pinned (OpenSpec.ofChange courseEnoughWrong)

/-- 'klisterlaw01.CourseMore': WHATEVER THE INPUT: true; the input reads as it did. -/
def courseMoreSpec : ChangeSpec := { name := "courseMore", fn := fun _ => fun
  | [d1, d2] => { results := [.lit (.bool true)], args := [d1, d2] }
  | _ => none }
def courseMoreRow : OpenClaim := { program := "ytgeajgmefokifaa", sum := "328d21e309d0f091ad3ba53d78ea6a445f759cf13f9cd2b0a4752e794ded323a", func := "klister/klisterlaw01.CourseMore", spec := "courseMore", unfollowed := true, recurses := true, apart := false }
def CourseMoreSaid : Prop := courseMoreRow.holds Try.pinned (OpenSpec.ofChange courseMoreSpec)

/-- ITS FALSE NEIGHBOUR: 'it returns false'. Refute it at one input. -/
def courseMoreWrong : ChangeSpec := { name := "courseMore", fn := fun _ => fun
  | [d1, d2] => { results := [.lit (.bool false)], args := [d1, d2] }
  | _ => none }
def CourseMoreWrongFalsely : Prop := courseMoreRow.holds Try.pinned (OpenSpec.ofChange courseMoreWrong)

/-- 'klisterlaw01.CourseNamed': WHATEVER THE INPUT: true; the input reads as it did. -/
def courseNamedSpec : ChangeSpec := { name := "courseNamed", fn := fun _ => fun
  | [d1, d2, d3] => { results := [.lit (.bool true)], args := [d1, d2, d3] }
  | _ => none }
def courseNamedRow : OpenClaim := { program := "ytgeajgmefokifaa", sum := "328d21e309d0f091ad3ba53d78ea6a445f759cf13f9cd2b0a4752e794ded323a", func := "klister/klisterlaw01.CourseNamed", spec := "courseNamed", unfollowed := true, recurses := true, apart := false }
def CourseNamedSaid : Prop := courseNamedRow.holds Try.pinned (OpenSpec.ofChange courseNamedSpec)

/-- ITS FALSE NEIGHBOUR: 'it returns false'. Refute it at one input. -/
def courseNamedWrong : ChangeSpec := { name := "courseNamed", fn := fun _ => fun
  | [d1, d2, d3] => { results := [.lit (.bool false)], args := [d1, d2, d3] }
  | _ => none }
def CourseNamedWrongFalsely : Prop := courseNamedRow.holds Try.pinned (OpenSpec.ofChange courseNamedWrong)

/-- 'klisterlaw01.CourseOpens': WHATEVER THE INPUT: true; the input reads as it did. -/
def courseOpensSpec : ChangeSpec := { name := "courseOpens", fn := fun _ => fun
  | [d1, d2] => { results := [.lit (.bool true)], args := [d1, d2] }
  | _ => none }
def courseOpensRow : OpenClaim := { program := "ytgeajgmefokifaa", sum := "328d21e309d0f091ad3ba53d78ea6a445f759cf13f9cd2b0a4752e794ded323a", func := "klister/klisterlaw01.CourseOpens", spec := "courseOpens", unfollowed := true, recurses := true, apart := false }
def CourseOpensSaid : Prop := courseOpensRow.holds Try.pinned (OpenSpec.ofChange courseOpensSpec)

/-- ITS FALSE NEIGHBOUR: 'it returns false'. Refute it at one input. -/
def courseOpensWrong : ChangeSpec := { name := "courseOpens", fn := fun _ => fun
  | [d1, d2] => { results := [.lit (.bool false)], args := [d1, d2] }
  | _ => none }
def CourseOpensWrongFalsely : Prop := courseOpensRow.holds Try.pinned (OpenSpec.ofChange courseOpensWrong)

/-- 'klisterlaw01.CourseParted': WHATEVER THE INPUT: true; the input reads as it did. -/
def coursePartedSpec : ChangeSpec := { name := "courseParted", fn := fun _ => fun
  | [d1, d2, d3] => { results := [.lit (.bool true)], args := [d1, d2, d3] }
  | _ => none }
def coursePartedRow : OpenClaim := { program := "ytgeajgmefokifaa", sum := "328d21e309d0f091ad3ba53d78ea6a445f759cf13f9cd2b0a4752e794ded323a", func := "klister/klisterlaw01.CourseParted", spec := "courseParted", unfollowed := true, recurses := true, apart := false }
def CoursePartedSaid : Prop := coursePartedRow.holds Try.pinned (OpenSpec.ofChange coursePartedSpec)

/-- ITS FALSE NEIGHBOUR: 'it returns false'. Refute it at one input. -/
def coursePartedWrong : ChangeSpec := { name := "courseParted", fn := fun _ => fun
  | [d1, d2, d3] => { results := [.lit (.bool false)], args := [d1, d2, d3] }
  | _ => none }
def CoursePartedWrongFalsely : Prop := coursePartedRow.holds Try.pinned (OpenSpec.ofChange coursePartedWrong)

/-- 'klisterlaw01.CourseRanged': WHATEVER THE INPUT: true; the input reads as it did. -/
def courseRangedSpec : ChangeSpec := { name := "courseRanged", fn := fun _ => fun
  | [d1, d2] => { results := [.lit (.bool true)], args := [d1, d2] }
  | _ => none }
def courseRangedRow : OpenClaim := { program := "ytgeajgmefokifaa", sum := "328d21e309d0f091ad3ba53d78ea6a445f759cf13f9cd2b0a4752e794ded323a", func := "klister/klisterlaw01.CourseRanged", spec := "courseRanged", unfollowed := true, recurses := true, apart := false }
def CourseRangedSaid : Prop := courseRangedRow.holds Try.pinned (OpenSpec.ofChange courseRangedSpec)

/-- ITS FALSE NEIGHBOUR: 'it returns false'. Refute it at one input. -/
def courseRangedWrong : ChangeSpec := { name := "courseRanged", fn := fun _ => fun
  | [d1, d2] => { results := [.lit (.bool false)], args := [d1, d2] }
  | _ => none }
def CourseRangedWrongFalsely : Prop := courseRangedRow.holds Try.pinned (OpenSpec.ofChange courseRangedWrong)

/-- 'klisterlaw01.CourseLazy': WHATEVER THE INPUT: true; the input reads as it did. -/
def courseLazySpec : ChangeSpec := { name := "courseLazy", fn := fun _ => fun
  | [d1, d2] => { results := [.lit (.bool true)], args := [d1, d2] }
  | _ => none }
def courseLazyRow : OpenClaim := { program := "ytgeajgmefokifaa", sum := "328d21e309d0f091ad3ba53d78ea6a445f759cf13f9cd2b0a4752e794ded323a", func := "klister/klisterlaw01.CourseLazy", spec := "courseLazy", unfollowed := true, recurses := true, apart := false }
def CourseLazySaid : Prop := courseLazyRow.holds Try.pinned (OpenSpec.ofChange courseLazySpec)

/-- ITS FALSE NEIGHBOUR: 'it returns false'. Refute it at one input. -/
def courseLazyWrong : ChangeSpec := { name := "courseLazy", fn := fun _ => fun
  | [d1, d2] => { results := [.lit (.bool false)], args := [d1, d2] }
  | _ => none }
def CourseLazyWrongFalsely : Prop := courseLazyRow.holds Try.pinned (OpenSpec.ofChange courseLazyWrong)

/-- 'klisterlaw01.CourseHeld': WHATEVER THE INPUT: true; the input reads as it did. -/
def courseHeldSpec : ChangeSpec := { name := "courseHeld", fn := fun _ => fun
  | [d1, d2] => { results := [.lit (.bool true)], args := [d1, d2] }
  | _ => none }
def courseHeldRow : OpenClaim := { program := "ytgeajgmefokifaa", sum := "328d21e309d0f091ad3ba53d78ea6a445f759cf13f9cd2b0a4752e794ded323a", func := "klister/klisterlaw01.CourseHeld", spec := "courseHeld", unfollowed := true, recurses := true, apart := false }
def CourseHeldSaid : Prop := courseHeldRow.holds Try.pinned (OpenSpec.ofChange courseHeldSpec)

/-- ITS FALSE NEIGHBOUR: 'it returns false'. Refute it at one input. -/
def courseHeldWrong : ChangeSpec := { name := "courseHeld", fn := fun _ => fun
  | [d1, d2] => { results := [.lit (.bool false)], args := [d1, d2] }
  | _ => none }
def CourseHeldWrongFalsely : Prop := courseHeldRow.holds Try.pinned (OpenSpec.ofChange courseHeldWrong)

/-- 'klisterlaw01.CoursePiled': WHATEVER THE INPUT: true; the input reads as it did. -/
def coursePiledSpec : ChangeSpec := { name := "coursePiled", fn := fun _ => fun
  | [d1, d2] => { results := [.lit (.bool true)], args := [d1, d2] }
  | _ => none }
def coursePiledRow : OpenClaim := { program := "ytgeajgmefokifaa", sum := "328d21e309d0f091ad3ba53d78ea6a445f759cf13f9cd2b0a4752e794ded323a", func := "klister/klisterlaw01.CoursePiled", spec := "coursePiled", unfollowed := true, recurses := true, apart := false }
def CoursePiledSaid : Prop := coursePiledRow.holds Try.pinned (OpenSpec.ofChange coursePiledSpec)

/-- ITS FALSE NEIGHBOUR: 'it returns false'. Refute it at one input. -/
def coursePiledWrong : ChangeSpec := { name := "coursePiled", fn := fun _ => fun
  | [d1, d2] => { results := [.lit (.bool false)], args := [d1, d2] }
  | _ => none }
def CoursePiledWrongFalsely : Prop := coursePiledRow.holds Try.pinned (OpenSpec.ofChange coursePiledWrong)

/-- 'klisterlaw01.CourseSnow': WHATEVER THE INPUT: true; the input reads as it did. -/
def courseSnowSpec : ChangeSpec := { name := "courseSnow", fn := fun _ => fun
  | [d1, d2, d3, d4, d5] => { results := [.lit (.bool true)], args := [d1, d2, d3, d4, d5] }
  | _ => none }
def courseSnowRow : OpenClaim := { program := "ytgeajgmefokifaa", sum := "328d21e309d0f091ad3ba53d78ea6a445f759cf13f9cd2b0a4752e794ded323a", func := "klister/klisterlaw01.CourseSnow", spec := "courseSnow", unfollowed := true, recurses := true, apart := false }
def CourseSnowSaid : Prop := courseSnowRow.holds Try.pinned (OpenSpec.ofChange courseSnowSpec)

/-- ITS FALSE NEIGHBOUR: 'it returns false'. Refute it at one input. -/
def courseSnowWrong : ChangeSpec := { name := "courseSnow", fn := fun _ => fun
  | [d1, d2, d3, d4, d5] => { results := [.lit (.bool false)], args := [d1, d2, d3, d4, d5] }
  | _ => none }
def CourseSnowWrongFalsely : Prop := courseSnowRow.holds Try.pinned (OpenSpec.ofChange courseSnowWrong)

/-- 'klisterlaw01.CourseWinters': WHATEVER THE INPUT: true; the input reads as it did. -/
def courseWintersSpec : ChangeSpec := { name := "courseWinters", fn := fun _ => fun
  | [d1, d2] => { results := [.lit (.bool true)], args := [d1, d2] }
  | _ => none }
def courseWintersRow : OpenClaim := { program := "ytgeajgmefokifaa", sum := "328d21e309d0f091ad3ba53d78ea6a445f759cf13f9cd2b0a4752e794ded323a", func := "klister/klisterlaw01.CourseWinters", spec := "courseWinters", unfollowed := true, recurses := true, apart := false }
def CourseWintersSaid : Prop := courseWintersRow.holds Try.pinned (OpenSpec.ofChange courseWintersSpec)

/-- ITS FALSE NEIGHBOUR: 'it returns false'. Refute it at one input. -/
def courseWintersWrong : ChangeSpec := { name := "courseWinters", fn := fun _ => fun
  | [d1, d2] => { results := [.lit (.bool false)], args := [d1, d2] }
  | _ => none }
def CourseWintersWrongFalsely : Prop := courseWintersRow.holds Try.pinned (OpenSpec.ofChange courseWintersWrong)

/-- 'klisterlaw01.CourseYielded': WHATEVER THE INPUT: true; the input reads as it did. -/
def courseYieldedSpec : ChangeSpec := { name := "courseYielded", fn := fun _ => fun
  | [d1, d2] => { results := [.lit (.bool true)], args := [d1, d2] }
  | _ => none }
def courseYieldedRow : OpenClaim := { program := "ytgeajgmefokifaa", sum := "328d21e309d0f091ad3ba53d78ea6a445f759cf13f9cd2b0a4752e794ded323a", func := "klister/klisterlaw01.CourseYielded", spec := "courseYielded", unfollowed := true, recurses := true, apart := false }
def CourseYieldedSaid : Prop := courseYieldedRow.holds Try.pinned (OpenSpec.ofChange courseYieldedSpec)

/-- ITS FALSE NEIGHBOUR: 'it returns false'. Refute it at one input. -/
def courseYieldedWrong : ChangeSpec := { name := "courseYielded", fn := fun _ => fun
  | [d1, d2] => { results := [.lit (.bool false)], args := [d1, d2] }
  | _ => none }
def CourseYieldedWrongFalsely : Prop := courseYieldedRow.holds Try.pinned (OpenSpec.ofChange courseYieldedWrong)

/- THE SECOND FORM. 'bulk': how many values and letters a reading holds, each counted each time it is reached (what is shared counts as often as it is met; a slice's spare places count too). A statement '..UptoSaid' is the law's where the arguments, and the package variables that the reading takes, are together of bulk at most 1048576: NARROWER than '..Said'. Prove '..Said' where nothing that the law and all that it calls make is longer than what came in: it says more and counts as full. Else prove '..UptoSaid'. A law counts once. -/
mutual
def uptoBulk {H : Type} : DataW H → Nat
  | .lit (.string bytes) => bytes.length + 1
  | .lit _ => 1
  | .nil => 1
  | .ptr d => uptoBulk d + 1
  | .slice elems spare => uptoBulkAll elems + uptoBulkAll spare + 1
  | .agg parts => uptoBulkAll parts + 1
  | .iface _ d => uptoBulk d + 1
  | .map entries => uptoBulkEntries entries + 1
  | .held _ => 1
def uptoBulkAll {H : Type} : List (DataW H) → Nat
  | [] => 0
  | d :: r => uptoBulk d + uptoBulkAll r
def uptoBulkEntries {H : Type} : List (Lit × DataW H) → Nat
  | [] => 0
  | x :: r => uptoBulkEntry x + uptoBulkEntries r
def uptoBulkEntry {H : Type} : Lit × DataW H → Nat
  | (.string bytes, d) => bytes.length + uptoBulk d + 1
  | (_, d) => uptoBulk d + 1
 end
def uptoSmall : (H : Type) → List (DataW H) → Bool := fun _ ds => decide (uptoBulkAll ds ≤ 1048576)
def OpenSpec.upto (s : _root_.Go.ChangeSpec) : _root_.Go.OpenSpec := { _root_.Go.OpenSpec.ofChange s with cond := some uptoSmall }

/-- 'klisterlaw01.CourseRules', WHERE WHAT IT READS IS OF BULK AT MOST 1048576: true; the input reads as it did. -/
def courseRulesUptoRow : OpenClaim := { program := "ytgeajgmefokifaa", sum := "328d21e309d0f091ad3ba53d78ea6a445f759cf13f9cd2b0a4752e794ded323a", func := "klister/klisterlaw01.CourseRules", spec := "courseRules", unfollowed := true, recurses := true, apart := false, narrowed := true }
def CourseRulesUptoSaid : Prop := courseRulesUptoRow.holds Try.pinned (OpenSpec.upto courseRulesSpec)

/-- 'klisterlaw01.CourseLists', WHERE WHAT IT READS IS OF BULK AT MOST 1048576: true; the input reads as it did. -/
def courseListsUptoRow : OpenClaim := { program := "ytgeajgmefokifaa", sum := "328d21e309d0f091ad3ba53d78ea6a445f759cf13f9cd2b0a4752e794ded323a", func := "klister/klisterlaw01.CourseLists", spec := "courseLists", unfollowed := true, recurses := true, apart := false, narrowed := true }
def CourseListsUptoSaid : Prop := courseListsUptoRow.holds Try.pinned (OpenSpec.upto courseListsSpec)

/-- 'klisterlaw01.CourseProved', WHERE WHAT IT READS IS OF BULK AT MOST 1048576: true; the input reads as it did. -/
def courseProvedUptoRow : OpenClaim := { program := "ytgeajgmefokifaa", sum := "328d21e309d0f091ad3ba53d78ea6a445f759cf13f9cd2b0a4752e794ded323a", func := "klister/klisterlaw01.CourseProved", spec := "courseProved", unfollowed := true, recurses := true, apart := false, narrowed := true }
def CourseProvedUptoSaid : Prop := courseProvedUptoRow.holds Try.pinned (OpenSpec.upto courseProvedSpec)

/-- 'klisterlaw01.CourseEnough', WHERE WHAT IT READS IS OF BULK AT MOST 1048576: true; the input reads as it did. -/
def courseEnoughUptoRow : OpenClaim := { program := "ytgeajgmefokifaa", sum := "328d21e309d0f091ad3ba53d78ea6a445f759cf13f9cd2b0a4752e794ded323a", func := "klister/klisterlaw01.CourseEnough", spec := "courseEnough", unfollowed := true, recurses := true, apart := false, narrowed := true }
def CourseEnoughUptoSaid : Prop := courseEnoughUptoRow.holds Try.pinned (OpenSpec.upto courseEnoughSpec)

/-- 'klisterlaw01.CourseMore', WHERE WHAT IT READS IS OF BULK AT MOST 1048576: true; the input reads as it did. -/
def courseMoreUptoRow : OpenClaim := { program := "ytgeajgmefokifaa", sum := "328d21e309d0f091ad3ba53d78ea6a445f759cf13f9cd2b0a4752e794ded323a", func := "klister/klisterlaw01.CourseMore", spec := "courseMore", unfollowed := true, recurses := true, apart := false, narrowed := true }
def CourseMoreUptoSaid : Prop := courseMoreUptoRow.holds Try.pinned (OpenSpec.upto courseMoreSpec)

/-- 'klisterlaw01.CourseNamed', WHERE WHAT IT READS IS OF BULK AT MOST 1048576: true; the input reads as it did. -/
def courseNamedUptoRow : OpenClaim := { program := "ytgeajgmefokifaa", sum := "328d21e309d0f091ad3ba53d78ea6a445f759cf13f9cd2b0a4752e794ded323a", func := "klister/klisterlaw01.CourseNamed", spec := "courseNamed", unfollowed := true, recurses := true, apart := false, narrowed := true }
def CourseNamedUptoSaid : Prop := courseNamedUptoRow.holds Try.pinned (OpenSpec.upto courseNamedSpec)

/-- 'klisterlaw01.CourseOpens', WHERE WHAT IT READS IS OF BULK AT MOST 1048576: true; the input reads as it did. -/
def courseOpensUptoRow : OpenClaim := { program := "ytgeajgmefokifaa", sum := "328d21e309d0f091ad3ba53d78ea6a445f759cf13f9cd2b0a4752e794ded323a", func := "klister/klisterlaw01.CourseOpens", spec := "courseOpens", unfollowed := true, recurses := true, apart := false, narrowed := true }
def CourseOpensUptoSaid : Prop := courseOpensUptoRow.holds Try.pinned (OpenSpec.upto courseOpensSpec)

/-- 'klisterlaw01.CourseParted', WHERE WHAT IT READS IS OF BULK AT MOST 1048576: true; the input reads as it did. -/
def coursePartedUptoRow : OpenClaim := { program := "ytgeajgmefokifaa", sum := "328d21e309d0f091ad3ba53d78ea6a445f759cf13f9cd2b0a4752e794ded323a", func := "klister/klisterlaw01.CourseParted", spec := "courseParted", unfollowed := true, recurses := true, apart := false, narrowed := true }
def CoursePartedUptoSaid : Prop := coursePartedUptoRow.holds Try.pinned (OpenSpec.upto coursePartedSpec)

/-- 'klisterlaw01.CourseRanged', WHERE WHAT IT READS IS OF BULK AT MOST 1048576: true; the input reads as it did. -/
def courseRangedUptoRow : OpenClaim := { program := "ytgeajgmefokifaa", sum := "328d21e309d0f091ad3ba53d78ea6a445f759cf13f9cd2b0a4752e794ded323a", func := "klister/klisterlaw01.CourseRanged", spec := "courseRanged", unfollowed := true, recurses := true, apart := false, narrowed := true }
def CourseRangedUptoSaid : Prop := courseRangedUptoRow.holds Try.pinned (OpenSpec.upto courseRangedSpec)

/-- 'klisterlaw01.CourseLazy', WHERE WHAT IT READS IS OF BULK AT MOST 1048576: true; the input reads as it did. -/
def courseLazyUptoRow : OpenClaim := { program := "ytgeajgmefokifaa", sum := "328d21e309d0f091ad3ba53d78ea6a445f759cf13f9cd2b0a4752e794ded323a", func := "klister/klisterlaw01.CourseLazy", spec := "courseLazy", unfollowed := true, recurses := true, apart := false, narrowed := true }
def CourseLazyUptoSaid : Prop := courseLazyUptoRow.holds Try.pinned (OpenSpec.upto courseLazySpec)

/-- 'klisterlaw01.CourseHeld', WHERE WHAT IT READS IS OF BULK AT MOST 1048576: true; the input reads as it did. -/
def courseHeldUptoRow : OpenClaim := { program := "ytgeajgmefokifaa", sum := "328d21e309d0f091ad3ba53d78ea6a445f759cf13f9cd2b0a4752e794ded323a", func := "klister/klisterlaw01.CourseHeld", spec := "courseHeld", unfollowed := true, recurses := true, apart := false, narrowed := true }
def CourseHeldUptoSaid : Prop := courseHeldUptoRow.holds Try.pinned (OpenSpec.upto courseHeldSpec)

/-- 'klisterlaw01.CoursePiled', WHERE WHAT IT READS IS OF BULK AT MOST 1048576: true; the input reads as it did. -/
def coursePiledUptoRow : OpenClaim := { program := "ytgeajgmefokifaa", sum := "328d21e309d0f091ad3ba53d78ea6a445f759cf13f9cd2b0a4752e794ded323a", func := "klister/klisterlaw01.CoursePiled", spec := "coursePiled", unfollowed := true, recurses := true, apart := false, narrowed := true }
def CoursePiledUptoSaid : Prop := coursePiledUptoRow.holds Try.pinned (OpenSpec.upto coursePiledSpec)

/-- 'klisterlaw01.CourseSnow', WHERE WHAT IT READS IS OF BULK AT MOST 1048576: true; the input reads as it did. -/
def courseSnowUptoRow : OpenClaim := { program := "ytgeajgmefokifaa", sum := "328d21e309d0f091ad3ba53d78ea6a445f759cf13f9cd2b0a4752e794ded323a", func := "klister/klisterlaw01.CourseSnow", spec := "courseSnow", unfollowed := true, recurses := true, apart := false, narrowed := true }
def CourseSnowUptoSaid : Prop := courseSnowUptoRow.holds Try.pinned (OpenSpec.upto courseSnowSpec)

/-- 'klisterlaw01.CourseWinters', WHERE WHAT IT READS IS OF BULK AT MOST 1048576: true; the input reads as it did. -/
def courseWintersUptoRow : OpenClaim := { program := "ytgeajgmefokifaa", sum := "328d21e309d0f091ad3ba53d78ea6a445f759cf13f9cd2b0a4752e794ded323a", func := "klister/klisterlaw01.CourseWinters", spec := "courseWinters", unfollowed := true, recurses := true, apart := false, narrowed := true }
def CourseWintersUptoSaid : Prop := courseWintersUptoRow.holds Try.pinned (OpenSpec.upto courseWintersSpec)

/-- 'klisterlaw01.CourseYielded', WHERE WHAT IT READS IS OF BULK AT MOST 1048576: true; the input reads as it did. -/
def courseYieldedUptoRow : OpenClaim := { program := "ytgeajgmefokifaa", sum := "328d21e309d0f091ad3ba53d78ea6a445f759cf13f9cd2b0a4752e794ded323a", func := "klister/klisterlaw01.CourseYielded", spec := "courseYielded", unfollowed := true, recurses := true, apart := false, narrowed := true }
def CourseYieldedUptoSaid : Prop := courseYieldedUptoRow.holds Try.pinned (OpenSpec.upto courseYieldedSpec)

end Rows
end Go.Proofs.Ytgeajgmefokifaa
