/- Walks: Fold. -/
import Derived.Test.YtmbifbippnncoaaD5
namespace Go.Proofs.Ytmbifbippnncoaa
open Go Go.Eng

theorem tmod_lt {a b : Int} (hb : 0 < b) : -b < a.tmod b ∧ a.tmod b < b := by
  refine ⟨?_, Int.tmod_lt_of_pos a hb⟩
  have h1 := Int.tmod_lt_of_pos (-a) hb
  rw [Int.neg_tmod] at h1
  omega

theorem fold_ca (v n : Int) (hn0 : 0 < n) (hn1 : n < 1000000) (w : World) : Ca Try.prog 14 [.int .i64 v, .int .i64 n] w fun r w' => (∃ x, r = .int .i64 x ∧ 0 ≤ x ∧ x < n) ∧ w' = w := by
  refine ca_of Try.func14 rfl (by simp [Try.ntmps14]) ?_
  (refine y_seq ?_; refine y_region ?_; refine yl_pure tabOk rfl rfl ?_; (iterate 2 refine y_seq ?_); refine y_region ?_; (iterate 2 refine yl_pure tabOk rfl rfl ?_); refine yl_nil ?_)
  refine y_if rfl (fun hc => ?_) (fun hc => ?_)
  · omega
  (refine y_skip ?_; refine y_seq ?_; refine y_region ?_; (iterate 2 refine yl_pure tabOk rfl rfl ?_))
  refine yl_rem rfl rfl (by omega) rfl ?_
  ((iterate 3 refine yl_pure tabOk rfl rfl ?_))
  refine yl_rem rfl rfl (by omega) rfl ?_
  have h1 := tmod_lt (a := v) hn0
  rw [w64 (x := v.tmod n + n) (by omega) (by omega)]
  have h2 := tmod_pos (a := v.tmod n + n) (by omega) hn0
  (refine yl_pure tabOk rfl rfl ?_; refine y_ret ?_)
  exact y_fin1 rfl rfl ⟨⟨_, rfl, h2.1, h2.2⟩, rfl⟩

theorem tfold_ca (v n : Int) (hn0 : 0 < n) (hn1 : n < 1000000) (w : World) : Ca Try.prog 8 [.int .i64 v, .int .i64 n] w fun r w' => (∃ x, r = .int .i64 x ∧ 0 ≤ x ∧ x < n) ∧ w' = w := by
  refine ca_of Try.func8 rfl (by simp [Try.ntmps8]) ?_
  (refine y_seq ?_; refine y_region ?_; refine yl_pure tabOk rfl rfl ?_; refine y_seq ?_; refine y_region ?_; (iterate 2 refine yl_pure tabOk rfl rfl ?_))
  refine yl_call tabOk rfl rfl rfl rfl (fold_ca v n hn0 hn1 w) ?_
  rintro _ w2 ⟨⟨x, rfl, hx0, hx1⟩, rfl⟩
  (refine yl_pure tabOk rfl rfl ?_; refine y_ret ?_)
  exact y_fin1 rfl rfl ⟨⟨_, rfl, hx0, hx1⟩, rfl⟩

theorem foldP_ca (v n : Int) (hn0 : 0 < n) (hn1 : n < 1000000) (w : World) : Ca Try.prog 8 [.int .i64 v, .int .i64 n] w fun r w' => ∃ x : Int, (r = .int .i64 x ∧ 0 ≤ x ∧ x < n) ∧ Sat w M0 [] w' :=
  (tfold_ca v n hn0 hn1 w).mono fun r w' ⟨⟨x, h1, h2, h3⟩, h4⟩ => ⟨x, ⟨h1, h2, h3⟩, by rw [h4]; exact Sat.nil w M0⟩

end Go.Proofs.Ytmbifbippnncoaa
