/-
  No cell of these rows narrows 'for every input' (looked for: loops, veiled, ifaces, maps, wideKeys, modest, calm, conditions, laid).
  DERIVED. THE GIVEN ROWS OF THIS SEAT. 3 by the template 'for every input the law returns true; each argument reads behind the call as it read before'; 0 by the template 'total and deterministic' (their statements: YtgeajgmefokifaaGreatTotals.lean).
  GIVEN WITH THE SEED: the statements are not yours to turn. If you find one false, say at which input.
  Laid BY PROGRAM, IN A SANDBOX (cutbox-rows.mjs): the forced cells as the released guide's own fill.sh prints them over the translation 8fd316f359cd9b15… (all of the seat's roots in one cut). By AI agents, Wed Nov 11 2026. No macro, syntax, notation, axiom, sorry.
-/
import Derived.Test.YtgeajgmefokifaaGreatChecked
import GoSem.Claim
import GoSem.ClaimJoined
import GoSem.ClaimMapViews
import Derived.JoinedTies
import Derived.KernelRfl
namespace Go.Proofs.YtgeajgmefokifaaGreat
/- THE CELL 'sum', in the pinned program and in every row, IS THE sha256 OF THE DUMP (.gsa) THAT YtgeajgmefokifaaGreatProg.lean LOADS. Nothing in Lean hashes anything: it is a label: what it is worth is what the hold of that sum in a sandbox is worth. -/
noncomputable def Tryz.pinned : Pinned := { name := "ytgeajgmefokifaagreat", sum := "8fd316f359cd9b157c70e645560d9821361068b07c30530d4ed91f13534e784d", checked := Tryz.checked }
namespace Rows
def none {H : Type} : Left H := { results := [], args := [] }

/-- 'klisterlaw01.CourseSmall': WHATEVER THE INPUT: true; the input reads as it did. -/
def courseSmallSpec : ChangeSpec := { name := "courseSmall", fn := fun _ => fun
  | [] => { results := [.lit (.bool true)], args := [] }
  | _ => none }
def courseSmallRow : OpenClaim := { program := "ytgeajgmefokifaagreat", sum := "8fd316f359cd9b157c70e645560d9821361068b07c30530d4ed91f13534e784d", func := "klister/klisterlaw01.CourseSmall", spec := "courseSmall", unfollowed := true, recurses := true, apart := false }
def CourseSmallSaid : Prop := courseSmallRow.holds Tryz.pinned (OpenSpec.ofChange courseSmallSpec)

/-- ITS FALSE NEIGHBOUR: 'it returns false'. Refute it at one input. -/
def courseSmallWrong : ChangeSpec := { name := "courseSmall", fn := fun _ => fun
  | [] => { results := [.lit (.bool false)], args := [] }
  | _ => none }
def CourseSmallWrongFalsely : Prop := courseSmallRow.holds Tryz.pinned (OpenSpec.ofChange courseSmallWrong)

/-- 'klisterlaw01.CourseListed': WHATEVER THE INPUT: true; the input reads as it did. -/
def courseListedSpec : ChangeSpec := { name := "courseListed", fn := fun _ => fun
  | [d1, d2] => { results := [.lit (.bool true)], args := [d1, d2] }
  | _ => none }
def courseListedRow : OpenClaim := { program := "ytgeajgmefokifaagreat", sum := "8fd316f359cd9b157c70e645560d9821361068b07c30530d4ed91f13534e784d", func := "klister/klisterlaw01.CourseListed", spec := "courseListed", unfollowed := true, recurses := true, apart := false }
def CourseListedSaid : Prop := courseListedRow.holds Tryz.pinned (OpenSpec.ofChange courseListedSpec)

/-- ITS FALSE NEIGHBOUR: 'it returns false'. Refute it at one input. -/
def courseListedWrong : ChangeSpec := { name := "courseListed", fn := fun _ => fun
  | [d1, d2] => { results := [.lit (.bool false)], args := [d1, d2] }
  | _ => none }
def CourseListedWrongFalsely : Prop := courseListedRow.holds Tryz.pinned (OpenSpec.ofChange courseListedWrong)

/-- 'klisterlaw01.CourseSpread': WHATEVER THE INPUT: true; the input reads as it did. -/
def courseSpreadSpec : ChangeSpec := { name := "courseSpread", fn := fun _ => fun
  | [d1, d2, d3] => { results := [.lit (.bool true)], args := [d1, d2, d3] }
  | _ => none }
def courseSpreadRow : OpenClaim := { program := "ytgeajgmefokifaagreat", sum := "8fd316f359cd9b157c70e645560d9821361068b07c30530d4ed91f13534e784d", func := "klister/klisterlaw01.CourseSpread", spec := "courseSpread", unfollowed := true, recurses := true, apart := false }
def CourseSpreadSaid : Prop := courseSpreadRow.holds Tryz.pinned (OpenSpec.ofChange courseSpreadSpec)

/-- ITS FALSE NEIGHBOUR: 'it returns false'. Refute it at one input. -/
def courseSpreadWrong : ChangeSpec := { name := "courseSpread", fn := fun _ => fun
  | [d1, d2, d3] => { results := [.lit (.bool false)], args := [d1, d2, d3] }
  | _ => none }
def CourseSpreadWrongFalsely : Prop := courseSpreadRow.holds Tryz.pinned (OpenSpec.ofChange courseSpreadWrong)

/- THE SECOND FORM. 'bulk': how many values and letters a reading holds, each counted each time it is reached (what is shared counts as often as it is met; a slice's spare places count too). A statement '..UptoSaid' is the law's where the arguments, and the package variables that the reading takes, are together of bulk at most 1048576: NARROWER than '..Said'. Prove '..Said' where nothing that the law and all that it calls make is longer than what came in: it says more and counts as full. Else prove '..UptoSaid'. A law counts once. -/
mutual
def uptoBulk {H : Type} : DataW H → Nat
  | .lit (.string bytes) => bytes.length + 1
  | .lit _ => 1
  | .nil => 1
  | .ptr d => uptoBulk d + 1
  | .slice elems spare => uptoBulkAll elems + uptoBulkAll spare + 1
  | .agg parts => uptoBulkAll parts + 1
  | .iface _ d => uptoBulk d + 1
  | .map entries => uptoBulkEntries entries + 1
  | .held _ => 1
def uptoBulkAll {H : Type} : List (DataW H) → Nat
  | [] => 0
  | d :: r => uptoBulk d + uptoBulkAll r
def uptoBulkEntries {H : Type} : List (Lit × DataW H) → Nat
  | [] => 0
  | x :: r => uptoBulkEntry x + uptoBulkEntries r
def uptoBulkEntry {H : Type} : Lit × DataW H → Nat
  | (.string bytes, d) => bytes.length + uptoBulk d + 1
  | (_, d) => uptoBulk d + 1
 end
def uptoSmall : (H : Type) → List (DataW H) → Bool := fun _ ds => decide (uptoBulkAll ds ≤ 1048576)
def OpenSpec.upto (s : _root_.Go.ChangeSpec) : _root_.Go.OpenSpec := { _root_.Go.OpenSpec.ofChange s with cond := some uptoSmall }

/-- 'klisterlaw01.CourseSmall', WHERE WHAT IT READS IS OF BULK AT MOST 1048576: true; the input reads as it did. -/
def courseSmallUptoRow : OpenClaim := { program := "ytgeajgmefokifaagreat", sum := "8fd316f359cd9b157c70e645560d9821361068b07c30530d4ed91f13534e784d", func := "klister/klisterlaw01.CourseSmall", spec := "courseSmall", unfollowed := true, recurses := true, apart := false, narrowed := true }
def CourseSmallUptoSaid : Prop := courseSmallUptoRow.holds Tryz.pinned (OpenSpec.upto courseSmallSpec)

/-- 'klisterlaw01.CourseListed', WHERE WHAT IT READS IS OF BULK AT MOST 1048576: true; the input reads as it did. -/
def courseListedUptoRow : OpenClaim := { program := "ytgeajgmefokifaagreat", sum := "8fd316f359cd9b157c70e645560d9821361068b07c30530d4ed91f13534e784d", func := "klister/klisterlaw01.CourseListed", spec := "courseListed", unfollowed := true, recurses := true, apart := false, narrowed := true }
def CourseListedUptoSaid : Prop := courseListedUptoRow.holds Tryz.pinned (OpenSpec.upto courseListedSpec)

/-- 'klisterlaw01.CourseSpread', WHERE WHAT IT READS IS OF BULK AT MOST 1048576: true; the input reads as it did. -/
def courseSpreadUptoRow : OpenClaim := { program := "ytgeajgmefokifaagreat", sum := "8fd316f359cd9b157c70e645560d9821361068b07c30530d4ed91f13534e784d", func := "klister/klisterlaw01.CourseSpread", spec := "courseSpread", unfollowed := true, recurses := true, apart := false, narrowed := true }
def CourseSpreadUptoSaid : Prop := courseSpreadUptoRow.holds Tryz.pinned (OpenSpec.upto courseSpreadSpec)

end Rows
end Go.Proofs.YtgeajgmefokifaaGreat
