/- Walks: wind's small functions. -/
import Derived.Test.YtmbifbippnncoaaV0
namespace Go.Proofs.Ytmbifbippnncoaa
open Go Go.Eng

theorem in_ca (n lo hi : Int) (w : World) : Ca Try.prog 16 [.int .i64 n, .int .i64 lo, .int .i64 hi] w fun v w' => v = .bool (inB n lo hi) ∧ Chg [] w w' := by
  refine q_of (Sat.nil w M0) Try.func16 rfl (by simp [Try.ntmps16]) ?_
  (refine q_seq ?_; refine q_region ?_; refine ql_pure tabOk rfl rfl ?_; refine q_nil ?_; refine q_seq ?_; refine q_region ?_; (iterate 4 refine ql_pure tabOk rfl rfl ?_))
  refine ql_split rfl rfl (fun hc => ?_) (fun hc => ?_)
  · (refine ql_gyes rfl ?_; refine ql_pure tabOk rfl rfl ?_; refine ql_gyes rfl ?_; refine ql_pure tabOk rfl rfl ?_; refine ql_gyes rfl ?_; (iterate 3 refine ql_pure tabOk rfl rfl ?_); refine q_nil ?_; refine q_ret ?_)
    exact q_fin1 rfl rfl fun w' hs => ⟨by simp at hc; simp [inB, hc], hs.chg0⟩
  · ((iterate 3 refine ql_gno rfl rfl rfl ?_); (iterate 2 refine ql_pure tabOk rfl rfl ?_); refine q_nil ?_; refine q_ret ?_)
    exact q_fin1 rfl rfl fun w' hs => ⟨by simp at hc; simp [inB]; omega, hs.chg0⟩

theorem sum_bd {c : Int} : ∀ (l : List Int), (∀ x ∈ l, -c ≤ x ∧ x ≤ c) → -(c * l.length) ≤ l.sum ∧ l.sum ≤ c * l.length
  | [], _ => by simp
  | x :: l, h => by
    have h1 := sum_bd l (fun y hy => h y (List.mem_cons_of_mem _ hy))
    have h2 := h x List.mem_cons_self
    have e : c * ((x :: l).length : Int) = c * l.length + c := by simp [Int.mul_add]
    rw [e, List.sum_cons]
    omega
theorem sum_take_bd {c : Int} {m : Nat} (l : List Int) (k : Nat) (h : ∀ x ∈ l, -c ≤ x ∧ x ≤ c) (hl : l.length ≤ m) (hc : 0 ≤ c) : -(c * m) ≤ (l.take k).sum ∧ (l.take k).sum ≤ c * m := by
  have h1 := sum_bd (l.take k) (fun x hx => h x (List.mem_of_mem_take hx))
  have h2 : c * (l.take k).length ≤ c * m := Int.mul_le_mul_of_nonneg_left (by rw [List.length_take]; omega) hc
  omega
theorem sum_take_succ (l : List Int) (k : Nat) (hk : k < l.length) : (l.take (k + 1)).sum = (l.take k).sum + l[k] := by
  rw [List.take_succ_eq_append_getElem hk, List.sum_append]
  simp

theorem sum_ca (w : World) (lo hi : Nat) (v : Value) (l : List Int) (h : RdI w lo hi v l) (hlen : l.length < 1000000) (hb : ∀ x ∈ l, -1000000 ≤ x ∧ x ≤ 1000000) :
    Ca Try.prog 28 [v] w fun r w' => r = .int .i64 l.sum ∧ Chg [] w w' := by
  obtain ⟨a, cap, rfl, hs⟩ := h.outI
  refine q_of (Sat.nil w M0) Try.func28 rfl (by simp [Try.ntmps28]) ?_
  (refine q_seq ?_; refine q_region ?_; refine ql_pure tabOk rfl rfl ?_; refine q_nil ?_; refine q_seq ?_; refine q_region ?_; refine ql_pure tabOk rfl rfl ?_; refine q_nil ?_; (iterate 2 refine q_seq ?_); refine q_region ?_; (iterate 3 refine ql_pure tabOk rfl rfl ?_); refine q_nil ?_; refine q_block ?_)
  refine q_loop (σ := Nat) (fun k => k ≤ l.length) (fun k => l.length - k) (fun k => [(3, .int .i64 (l.take k).sum), (6, .slice a l.length cap), (7, .int .i64 l.length), (8, .int .i64 k)]) (fun _ => []) 0 (by omega) ⟨rfl, rfl, rfl, rfl, trivial⟩ .nil ?_
  intro k hk K hK
  (refine q_seq ?_; refine q_region ?_; refine ql_pure tabOk rfl rfl ?_; refine q_nil ?_; refine q_seq ?_)
  refine q_if rfl (fun hc => ?_) (fun hc => ?_)
  · have hk : k < l.length := by omega
    obtain ⟨b, off, rfl⟩ := hs (by omega)
    (refine q_skip ?_; refine q_seq ?_; refine q_block ?_; refine q_seq ?_; refine q_region ?_)
    have h1 := sum_take_bd l k hb (show l.length ≤ 1000000 by omega) (by omega)
    have h2 := hb l[k] (List.getElem_mem hk)
    (refine ql_index tabOk rfl rfl rfl rfl rfl (by omega) (by omega) ?_; refine ql_load1 tabOk rfl rfl rfl (fun w hs => RdI.at (h.keep hs.chg0) k hk) ?_)
    (refine ql_pure tabOk rfl rfl ?_; refine q_nil ?_; refine q_region ?_; (iterate 2 refine ql_pure tabOk rfl rfl ?_); refine ql_ar tabOk rfl rfl rfl rfl (by omega) (by omega) ?_; refine ql_pure tabOk rfl rfl ?_; refine q_nil ?_; refine q_blk ?_; refine q_region ?_; refine ql_ar tabOk rfl rfl rfl rfl (by omega) (by omega) ?_; refine ql_pure tabOk rfl rfl ?_; refine q_nil ?_)
    exact hK (k + 1) _ _ (by omega) (by omega) ⟨by rw [sum_take_succ l k hk]; rfl, rfl, rfl, rfl, trivial⟩ (by repeat (first | exact Sp.nil | exact Sp.refl _ | refine Sp.cons (by repeat constructor) ?_))
  · obtain rfl : k = l.length := by omega
    (refine q_exit _ rfl ?_; refine q_seq ?_; refine q_region ?_; (iterate 2 refine ql_pure tabOk rfl rfl ?_); refine q_nil ?_; refine q_ret ?_)
    exact q_fin1 rfl rfl fun w' hs => ⟨by rw [List.take_length], hs.chg0⟩

theorem group_ca (w : World) (b : Nat) (r : Rg) (hd : DkAt w b r) (hr : r.Right) : Ca Try.prog 19 [.pointer (some ⟨b, 0, none⟩)] w fun v w' => v = .int .i64 r.group.sum ∧ Chg [] w w' := by
  obtain ⟨cs, bt, hblk, lo, hi, ag, cg, ad, cd, af, cf, an, cn, rfl, hg, hdr, hf, hn⟩ := hd
  refine q_of (Sat.nil w M0) Try.func19 rfl (by simp [Try.ntmps19]) ?_
  (refine q_seq ?_; refine q_region ?_; refine ql_pure tabOk rfl rfl ?_; refine q_nil ?_; refine q_seq ?_; refine q_region ?_; (iterate 4 refine ql_pure tabOk rfl rfl ?_); refine ql_loadP tabOk rfl rfl rfl (by assumption) (by rfl) ?_)
  (refine ql_callv tabOk rfl rfl rfl rfl (fun w hs => sum_ca w lo hi _ r.group (hg.keep hs.chg0) (by have := hr.g2; omega) (fun x hx => by have := hr.weight x hx; omega)) ?_)
  (refine ql_pure tabOk rfl rfl ?_; refine q_nil ?_; refine q_ret ?_)
  exact q_fin1 rfl rfl fun w' hs => ⟨rfl, hs.chg0⟩

/-- An impact hits. -/
def hitB (r : Rg) (n : Int) : Bool := inB n (-r.radius) r.radius

theorem hits_ca (w : World) (b : Nat) (r : Rg) (n : Int) (hd : DkAt w b r) (hr : 0 ≤ r.radius ∧ r.radius ≤ 200) : Ca Try.prog 29 [.pointer (some ⟨b, 0, none⟩), .int .i64 n] w fun v w' => v = .bool (hitB r n) ∧ Chg [] w w' := by
  obtain ⟨cs, bt, hblk, lo, hi, ag, cg, ad, cd, af, cf, an, cn, rfl, hg, hdr, hf, hn⟩ := hd
  refine q_of (Sat.nil w M0) Try.func29 rfl (by simp [Try.ntmps29]) ?_
  (refine q_seq ?_; refine q_region ?_; refine ql_pure tabOk rfl rfl ?_; refine q_nil ?_; refine q_seq ?_)
  refine q_draw _ [] (Sp.refl _) (by kernel_rfl) (by kernel_rfl) ?_
  ((iterate 5 refine qf_pure tabOk rfl rfl rfl ?_); refine qf_loadP tabOk rfl rfl rfl (by assumption) (by rfl) ?_; refine qf_neg tabOk rfl rfl (by omega) (by omega) ?_; (iterate 4 refine qf_pure tabOk rfl rfl rfl ?_); refine qf_loadP tabOk rfl rfl rfl (by assumption) (by rfl) ?_)
  refine qf_callv tabOk rfl rfl rfl rfl (fun w hs => in_ca n (-r.radius) r.radius w) ?_
  (refine qf_pure tabOk rfl rfl rfl ?_; refine qf_nil ?_; refine q_ret ?_)
  exact q_fin1 rfl rfl fun w' hs => ⟨rfl, hs.chg0⟩

end Go.Proofs.Ytmbifbippnncoaa
