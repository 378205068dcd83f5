/- A range, as data. -/
import Derived.Test.YtmbifbippnncoaaTab
namespace Go.Proofs.Ytmbifbippnncoaa
open Go Go.Eng

/-- A range. -/
structure Rg where
  radius : Int
  unit : Int
  clicks : Int
  total : Int
  group : List Int
  drifts : List Int
  first : List Int
  next : List (List Int)

/-- Lists of lists that can be read. -/
def RdII (w : World) (lo hi : Nat) (v : Value) (ll : List (List Int)) : Prop :=
  ∃ vs, RdE w lo hi v 1 vs ∧ vs.length = ll.length ∧ ∀ i (h : i < vs.length) (h' : i < ll.length), RdI w lo hi vs[i] ll[i]

theorem RdII.keep {w w' : World} {lo hi : Nat} {v : Value} {ll : List (List Int)} (h : RdII w lo hi v ll) (c : Chg [] w w') : RdII w' lo hi v ll := by
  obtain ⟨vs, h1, h2, h3⟩ := h
  exact ⟨vs, h1.keep c, h2, fun i hi hi' => (h3 i hi hi').keep c⟩
theorem RdII.outI {w : World} {lo hi : Nat} {v : Value} {ll : List (List Int)} (h : RdII w lo hi v ll) : ∃ a cap, v = .slice a ll.length cap ∧ (0 < ll.length → ∃ b off, a = some ⟨b, off, none⟩) := by
  obtain ⟨vs, h1, h2, h3⟩ := h
  have := RdE.out h1
  rwa [h2] at this
/-- One row. -/
theorem RdII.row {w : World} {lo hi : Nat} {b off len cap : Nat} {ll : List (List Int)} (h : RdII w lo hi (.slice (some ⟨b, off, none⟩) len cap) ll) (i : Nat) (hi' : i < ll.length) :
    ∃ a c, RdI w lo hi (.slice a ll[i].length c) ll[i] ∧ ∀ w', Chg [] w w' → w'.cell? ⟨b, off + i * 1, none⟩ = some (.slice a ll[i].length c) := by
  obtain ⟨vs, h1, h2, h3⟩ := h
  have h4 := h3 i (by omega) hi'
  obtain ⟨a, c, hv, _⟩ := RdI.outI h4
  refine ⟨a, c, hv ▸ h4, fun w' hw' => ?_⟩
  rw [RdE.cell1 (h1.keep hw') i (by omega) (by rw [hv]; rfl), hv]

/-- The cells of a range, and what its lists hold. -/
def RgC (w : World) (cs : List Value) (r : Rg) : Prop :=
  ∃ lo hi ag cg ad cd af cf an cn, cs = [.int .i64 r.radius, .int .i64 r.unit, .int .i64 r.clicks, .int .i64 r.total, .slice ag r.group.length cg, .slice ad r.drifts.length cd, .slice af r.first.length cf, .slice an r.next.length cn] ∧
    RdI w lo hi (.slice ag r.group.length cg) r.group ∧ RdI w lo hi (.slice ad r.drifts.length cd) r.drifts ∧ RdI w lo hi (.slice af r.first.length cf) r.first ∧ RdII w lo hi (.slice an r.next.length cn) r.next

theorem RgC.keep {w w' : World} {cs : List Value} {r : Rg} (h : RgC w cs r) (c : Chg [] w w') : RgC w' cs r := by
  obtain ⟨lo, hi, ag, cg, ad, cd, af, cf, an, cn, h1, h2, h3, h4, h5⟩ := h
  exact ⟨lo, hi, ag, cg, ad, cd, af, cf, an, cn, h1, RdE.keep h2 c, RdE.keep h3 c, RdE.keep h4 c, h5.keep c⟩

/-- A desk, in block b. -/
def DkAt (w : World) (b : Nat) (r : Rg) : Prop := ∃ cs t, Blk w b cs t ∧ RgC w cs r
theorem DkAt.keep {w w' : World} {b : Nat} {r : Rg} (h : DkAt w b r) (c : Chg [] w w') : DkAt w' b r := by
  obtain ⟨cs, t, h1, h2⟩ := h
  exact ⟨cs, t, h1.keep c, h2.keep c⟩

/-- From lo to hi. -/
def inB (n lo hi : Int) : Bool := decide (lo ≤ n) && decide (n ≤ hi)
theorem inB_iff {n lo hi : Int} : inB n lo hi = true ↔ lo ≤ n ∧ n ≤ hi := by simp [inB]

/-- The sizes that a range can have. -/
structure Rg.Small (r : Rg) : Prop where
  group : r.group.length ≤ 24
  drifts : r.drifts.length ≤ 7
  first : r.first.length ≤ 7
  next : r.next.length ≤ 7
  rows : ∀ l ∈ r.next, l.length ≤ 7

/-- A right range. -/
structure Rg.Right (r : Rg) : Prop where
  g1 : 1 ≤ r.group.length
  g2 : r.group.length ≤ 21
  odd : r.group.length % 2 = 1
  d1 : 1 ≤ r.drifts.length
  d2 : r.drifts.length ≤ 5
  first : r.first.length = r.drifts.length
  next : r.next.length = r.drifts.length
  rows : ∀ l ∈ r.next, l.length = r.drifts.length
  radius : 0 ≤ r.radius ∧ r.radius ≤ 200
  unit : 1 ≤ r.unit ∧ r.unit ≤ 20
  clicks : 0 ≤ r.clicks ∧ r.clicks ≤ 6
  total : 1 ≤ r.total ∧ r.total ≤ 12
  drift : ∀ x ∈ r.drifts, -300 ≤ x ∧ x ≤ 300
  weight : ∀ x ∈ r.group, 0 ≤ x ∧ x ≤ 100
  chance : ∀ x ∈ r.first, 0 ≤ x ∧ x ≤ r.total
  chances : ∀ l ∈ r.next, ∀ x ∈ l, 0 ≤ x ∧ x ≤ r.total
  gsum : 1 ≤ r.group.sum ∧ r.group.sum ≤ 100
  fsum : r.first.sum = r.total
  nsum : ∀ l ∈ r.next, l.sum = r.total

end Go.Proofs.Ytmbifbippnncoaa
