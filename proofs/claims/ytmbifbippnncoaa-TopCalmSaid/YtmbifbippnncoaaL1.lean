/- The range of TopCalm. -/
import Derived.Test.YtmbifbippnncoaaL0
namespace Go.Proofs.Ytmbifbippnncoaa
open Go Go.Eng

def calmR (radius unit clicks drift : Int) (g : List Int) : Rg := { radius := radius, unit := unit, clicks := clicks, total := 1, group := g, drifts := [drift], first := [1], next := [[1]] }
def calmC (radius unit clicks : Int) (b1 b2 b4 b5 : Nat) : List Value :=
  [.int .i64 radius, .int .i64 unit, .int .i64 clicks, .int .i64 1, .slice (some ⟨b5, 0, none⟩) 5 5, .slice (some ⟨b1, 0, none⟩) 1 1, .slice (some ⟨b2, 0, none⟩) 1 1, .slice (some ⟨b4, 0, none⟩) 1 1]
theorem calm_rgc {w : World} {radius unit clicks drift : Int} {g : List Int} {b1 b2 b3 b4 b5 : Nat} (hg : g.length = 5) (h1 : Blk w b1 [.int .i64 drift] 3) (h2 : Blk w b2 [.int .i64 1] 3) (h3 : Blk w b3 [.int .i64 1] 3) (h4 : Blk w b4 [.slice (some ⟨b3, 0, none⟩) 1 1] 27) (h5 : Blk w b5 (ints g) 3) :
    RgC w (calmC radius unit clicks b1 b2 b4 b5) (calmR radius unit clicks drift g) := by
  have wd : ∀ {b c : Nat} {l : List Int}, Blk w b (ints l) 3 → RdI w 0 w.heap.size (.slice (some ⟨b, 0, none⟩) l.length c) l := fun h => RdE.wide (RdI.blk h _) (Nat.zero_le _) h.lt
  refine ⟨0, w.heap.size, some ⟨b5, 0, none⟩, 5, some ⟨b1, 0, none⟩, 1, some ⟨b2, 0, none⟩, 1, some ⟨b4, 0, none⟩, 1, by simp [calmC, calmR, hg], wd h5, wd (l := [drift]) h1, wd (l := [1]) h2, [.slice (some ⟨b3, 0, none⟩) 1 1], ⟨?_, ?_⟩, rfl, ?_⟩
  · exact ⟨rfl, .inr ⟨b4, 0, 1, rfl, fun _ => ⟨Nat.zero_le _, h4.lt, h4.lt⟩, fun j hj => by rw [Blk.cell h4, Nat.zero_add]; rfl⟩⟩
  · intro e he
    obtain rfl : e = .slice (some ⟨b3, 0, none⟩) 1 1 := by simpa using he
    rfl
  · intro i hi hi'
    obtain rfl : i = 0 := by simpa using hi
    exact wd (l := [1]) h3

theorem calm_right {radius unit clicks drift : Int} {g : List Int} (h1 : 1 ≤ radius ∧ radius ≤ 9) (h2 : 1 ≤ unit ∧ unit ≤ 5) (h3 : 0 ≤ clicks ∧ clicks ≤ 3) (h4 : -9 ≤ drift ∧ drift ≤ 9) (hg1 : g.length = 5) (hg2 : ∀ y ∈ g, 0 ≤ y) (hg3 : g.sum = 10) : (calmR radius unit clicks drift g).Right := by
  constructor <;> simp only [calmR, hg1, hg3, List.length_cons, List.length_nil]
  case weight => exact fun x hx => ⟨hg2 x hx, by have := le_sum g hg2 x hx; omega⟩
  case drift => intro x hx; simp at hx; omega
  case rows => intro l hl; simp at hl; subst hl; rfl
  case chance => intro x hx; simp at hx; omega
  case chances => intro l hl x hx; simp at hl; subst hl; simp at hx; omega
  case nsum => intro l hl; simp at hl; subst hl; rfl
  case fsum => rfl
  all_goals omega
theorem calm_small {radius unit clicks drift : Int} {g : List Int} (hg1 : g.length = 5) (hg2 : ∀ y ∈ g, 0 ≤ y) (hg3 : g.sum = 10) : (calmR radius unit clicks drift g).Small := by
  constructor <;> simp [calmR, hg1]


theorem calm_miss {radius unit clicks drift : Int} {g : List Int} (hR : (calmR radius unit clicks drift g).Right) (hg3 : g.sum = 10) (c : Int) : 0 ≤ missS (calmR radius unit clicks drift g) drift c ∧ missS (calmR radius unit clicks drift g) drift c ≤ 10 := by
  have := missS_bd _ hR drift c
  simp only [calmR, hg3] at this ⊢
  exact this
theorem calm_expV {radius unit clicks drift : Int} {g : List Int} (hg3 : g.sum = 10) (c : Int) : expV (calmR radius unit clicks drift g) c = ratioV (5 * missS (calmR radius unit clicks drift g) drift c) 10 := by
  rw [lone_expV ⟨rfl, rfl, rfl, rfl⟩]
  simp only [calmR, hg3]
  rfl
theorem calm_expd {radius unit clicks drift : Int} {g : List Int} (hR : (calmR radius unit clicks drift g).Right) (hg3 : g.sum = 10) {c : Int} (hc : -clicks ≤ c ∧ c ≤ clicks) : expdV (calmR radius unit clicks drift g) c = (ratioV (5 * missS (calmR radius unit clicks drift g) drift c) 10, 0) := by
  have h1 := (right_check _).2 hR
  unfold expdV
  rw [h1, calm_expV hg3, show inB c (-(calmR radius unit clicks drift g).clicks) (calmR radius unit clicks drift g).clicks = true from inB_iff.2 hc]
  rfl
theorem calm_hit {radius unit clicks drift : Int} {g : List Int} (hR : (calmR radius unit clicks drift g).Right) (hg3 : g.sum = 10) {c : Int} (hc : -clicks ≤ c ∧ c ≤ clicks) : hitV (calmR radius unit clicks drift g) 0 c = (ratioV (10 - missS (calmR radius unit clicks drift g) drift c) 10, 0) := by
  have h1 := (right_check _).2 hR
  unfold hitV
  rw [h1, show inB c (-(calmR radius unit clicks drift g).clicks) (calmR radius unit clicks drift g).clicks = true from inB_iff.2 hc]
  rw [show (calmR radius unit clicks drift g).group.sum = 10 from hg3]
  rfl
theorem calm_best {radius unit clicks drift : Int} {g : List Int} (hR : (calmR radius unit clicks drift g).Right) (hg3 : g.sum = 10) : ∃ bc : Int, bestV (calmR radius unit clicks drift g) = (bc, ratioV (5 * missS (calmR radius unit clicks drift g) drift bc) 10, 0) ∧ (-clicks ≤ bc ∧ bc ≤ clicks) ∧
    ∀ c, -clicks ≤ c ∧ c ≤ clicks → missS (calmR radius unit clicks drift g) drift bc ≤ missS (calmR radius unit clicks drift g) drift c := by
  have h1 := (right_check _).2 hR
  have hcl : 0 ≤ clicks := hR.clicks.1
  obtain ⟨e1, e2, e3, e4⟩ := best_nums (expV (calmR radius unit clicks drift g)) (missS (calmR radius unit clicks drift g) drift) (fun a b => by
    rw [calm_expV hg3, calm_expV hg3]
    exact less_nums _ _ (calm_miss hR hg3 a) (calm_miss hR hg3 b)) (clickL clicks 0) (0, expV (calmR radius unit clicks drift g) 0) rfl
  refine ⟨(bestOf (expV (calmR radius unit clicks drift g)) (clickL clicks 0)).1, ?_, ?_, fun c hc => e3 c (clickL_all clicks c hcl (inB_iff.2 hc))⟩
  · rw [← calm_expV hg3]
    unfold bestV
    rw [h1]
    simp only [ne_eq, not_true_eq_false, if_false]
    exact congrArg (fun x => ((bestOf (expV (calmR radius unit clicks drift g)) (clickL clicks 0)).1, x, (0 : Int))) e1
  · rcases e4 with h | h
    · show -clicks ≤ (bestOf _ _).1 ∧ (bestOf _ _).1 ≤ clicks
      unfold bestOf
      rw [h]
      simp only
      omega
    · exact inB_iff.1 (clickL_in clicks 0 (inB_iff.2 (by omega)) _ h)

end Go.Proofs.Ytmbifbippnncoaa
