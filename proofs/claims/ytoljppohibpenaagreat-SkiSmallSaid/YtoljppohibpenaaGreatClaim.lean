/-
  SkiSmall is proved, with no condition: the examples with each number at its limits and one beyond, labs of up to four skis, small tables and few single skis, and as many skis, runs, waxes, snows, singles and gaps as there may be, and one more, are all answered as specified.
  The frame of this text was written by a program after the guide's proof-skeleton.mjs; the walk and the plain laws lie in the texts that it imports.
-/
import Derived.Test.YtoljppohibpenaaGreatRows
import Derived.WalkKit
import Derived.ProofKit
import Derived.OpenShut
import Derived.ShutString
import Derived.ChangeOld
import Derived.Below
import Derived.Test.YtoljppohibpenaaGreatJ8
namespace Go.Proofs.YtoljppohibpenaaGreat.skiSmall
set_option maxRecDepth 4000
open Go.ChangeShapes Go.WideShapes Go.ChangeAt Go.RowKit
open Go.ChangeMaps (open_string shut_string)
set_option linter.unusedVariables false

theorem own : ownKnob Tryz.prog.godebug = none := by kernel_rfl
theorem laidOut : laidOutB Tryz.prog = true := by kernel_rfl

/-- WHAT THE WALK IS TOLD OF A SLICE OF INTEGERS THAT CAME IN: it is nil; or it leads to a row of 'cap' cells, the numbers 'zs' (the first 'len' are its elements, the rest its spare room), each fitting its kind. -/
def IsRow (k : IntKind) (w : World) (a : Option Addr) (len cap : Nat) (zs : List Int) : Prop :=
  (a = none ∧ len = 0 ∧ cap = 0 ∧ zs = []) ∨
  ∃ x, a = some x ∧ len ≤ cap ∧ cap ≤ maxLen ∧ zs.length = cap ∧ (∀ i, i < zs.length → w.cell? (x.add i) = some (.int k (zs.getD i 0))) ∧ ∀ n ∈ zs, (Lit.int k n).wf = true

theorem lt_of_cell {w : World} {a : Addr} {v : Value} (h : w.cell? a = some v) : a.block < w.heap.size := by
  unfold World.cell? at h
  split at h
  · rename_i hh
    exact (Array.getElem?_eq_some_iff.1 hh).1
  · cases h

theorem spot_none {P : Program} {w : World} {r : Reach} {base : Nat} {t e : TypeId} (ht : P.underlying t = some (.slice e)) {x : Addr} {len cap : Nat} (h : Value.okWide P w r base t (.slice (some x) len cap)) : x.spot = none := by
  simp only [Value.okWide, ht, Cell.okWide, Cell.ok, World.has] at h
  exact h.2.2.2.1

/-- The bytes that came in can be read. -/
theorem rd_of {a : Option Addr} {len cap : Nat} {z : List Int} {w : World} (h : IsRow .u8 w a len cap z) (hs : ∀ x, a = some x → x.spot = none) (hlt : ∀ x, a = some x → 0 < len → x.block < w.heap.size) :
    DkB w 0 w.heap.size (.slice a len cap) := by
  refine ⟨len, ?_⟩
  rcases h with ⟨rfl, rfl, rfl, rfl⟩ | ⟨x, rfl, hl, hm, hz, hcell, hwf⟩
  · exact ⟨[], ⟨rfl, .inl ⟨.inl rfl, rfl⟩⟩, by simp⟩
  · have hsp := hs x rfl
    obtain ⟨b, off, sp⟩ := x
    subst hsp
    have hlen : ((z.take len).map (Value.int .u8)).length = len := by simp; omega
    refine ⟨(z.take len).map (Value.int .u8), ⟨by omega, .inr ⟨b, off, cap, rfl, fun hp => ⟨Nat.zero_le _, hlt _ rfl (by omega), hlt _ rfl (by omega)⟩, fun j hj => ?_⟩⟩, ?_⟩
    · have hj' : j < z.length := by omega
      have h1 := hcell j hj'
      rw [Addr.add_lit] at h1
      rw [h1, List.getElem?_map, List.getElem?_take, if_pos (by omega), List.getElem?_eq_getElem hj']
      simp [List.getD_eq_getElem?_getD, List.getElem?_eq_getElem hj']
    · intro c hc
      obtain ⟨y, hy, rfl⟩ := List.mem_map.1 hc
      have h2 := hwf y (List.mem_of_mem_take hy)
      refine ⟨y, rfl, ?_⟩
      simp [Lit.wf, IntKind.min, IntKind.max, IntKind.signed, IntKind.bits] at h2
      omega

theorem u8_wf {n : Int} (h : (Lit.int .u8 n).wf = true) : 0 ≤ n ∧ n < 256 := by
  simp [Lit.wf, IntKind.min, IntKind.max, IntKind.signed, IntKind.bits] at h
  omega
/-- The Go text returns true, and writes nothing that was there. -/
theorem walk  (w : World)  :
    Calls Tryz.prog 3 #[] w fun e w' => e = .returned (.bool true) ∧ Below w.heap.size w w' := by
  exact Calls.mono (skiSmall_ca w) fun e w' ⟨v, he, hv, hc⟩ => ⟨by rw [he, hv], hc.below⟩

/-! ### THE ROW's STEP -/
set_option maxRecDepth 100000 in
theorem lifted (os : Os) (started : os.Started) (H : Type) (enc : TypeId × Value → H) :
    ReturnsInHanded {} Tryz.checked os 3 .any (Rows.skiSmallSpec.pre6 enc Tryz.prog Tryz.f3 Rows.skiSmallRow.domain false) (Rows.skiSmallSpec.post enc Tryz.prog Tryz.f3 false true false false) := by
  refine returnsInHanded_of_change (C := Tryz.checked) own started (by kernel_rfl) Tryz.func3
    (ChangeSpec.witness6 (enc := enc) (C := Tryz.checked) false ⟨#[], #[], []⟩ 8 (by kernel_rfl) (by kernel_rfl) (by kernel_rfl) (by kernel_rfl)) ?_
  intro W base args ds gs before hval0 hW hcnd _
  have hval : ∀ (j : Nat) t v, Tryz.f3.params[j]? = some t → args[j]? = some v → Value.okWide Tryz.prog W .any base t v := hval0
  have hW' := hW
  obtain ⟨p, q, hA0, hV, rfl, hfz, hnd⟩ := hW
  have hA : DataW.TrodAll enc Tryz.prog W 0 (fun _ => true) true Tryz.f3.params.toList args.toList ds p := hA0
  rw [Tryz.params3] at hA hval
  obtain ⟨hargs, rfl, rfl⟩ := trodAll_nil hA
  obtain rfl : args = #[] := by cases args; simp_all
  obtain ⟨rfl, rfl⟩ := trodVars_none hV
  clear hA0 hval0
  refine (walk  W ).mono fun e W' ⟨he, bel⟩ => ?_
  subst he
  exact ⟨_, rfl, _, _, _, [], _, [], hW', trodAll_mk1 (shut_bool Tryz.underlying4 _), trodAll_mk0, rfl, bel.frame _, fun h => by cases h⟩

theorem over : Rows.skiSmallRow.holds Tryz.pinned (OpenSpec.ofChange Rows.skiSmallSpec) :=
  OpenClaim.holds_of_wide 3 Tryz.f3 rfl rfl rfl rfl rfl rfl rfl ⟨rfl, rfl, rfl, rfl, rfl⟩ rfl rfl rfl rfl rfl (by kernel_rfl) Tryz.func3 (by kernel_rfl)
    (of_decide_eq_true (by kernel_rfl)) (by unfold Func.isWrapper; first | (rw [if_pos (by decide +kernel)]; kernel_rfl) | (rw [if_neg (by decide +kernel)]; exact ⟨rfl, rfl⟩))
    (fun os started H enc _ => lifted os started H enc)

/-- The statement. -/
theorem proved : Rows.SkiSmallSaid := over
#print axioms proved
end Go.Proofs.YtoljppohibpenaaGreat.skiSmall
