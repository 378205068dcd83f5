/- My texts L16, joined: a claim takes at most 60 files. -/
import Derived.Test.YtgeajgmefokifaaGreatJ6

/- The walk of CourseSmall (seat Great): a closed statement. Printed by gen_L16.py. -/
namespace Go.Proofs.YtgeajgmefokifaaGreat
open Go Go.Eng

def smallV : List Int := [-2, -1, 0, 1, 2, 3, 4, 5, 6, 7, 20, 21, 39, 40, 100, 159, 160, 200, 201, 280, 499, 500, 501, 800, 1999, 2000, 2001, 2500, 3000, 7000, 7001, 7500, 10799, 10800, 12000, 20000, 20001, 100000, 100001, 200000, 200001, 1000000, 1000001, 10000000, 10000001, 9223372036854775807, -9223372036854775808]
theorem jN {w : World} {b : Nat} {l : List Int} {t : TypeId} {c n : Nat} (h : Blk w b (aP l) t) (hn : n = l.length) : RdI w 0 w.heap.size (.slice (some ⟨b, 0, none⟩) n c) l := by
 subst hn
 exact Blk.rdI h
theorem ints_rd2 {w : World} {b : Nat} {x y z : Int} {t : TypeId} {c : Nat} (h : Blk w b (aP [x, y, z]) t) : RdI w 0 w.heap.size (.slice (some ⟨b, 0, none⟩) 2 c) [x, y] :=
 RdI.of ⟨rfl, .inr ⟨b, 0, c, rfl, fun _ => ⟨Nat.zero_le _, h.lt, h.lt⟩, fun j hj => by
  rw [Blk.cell h]
  have hj' : j < 2 := hj
  have : j = 0 ∨ j = 1 := by omega
  rcases this with rfl | rfl <;> rfl⟩⟩
theorem ints_rdT {w : World} {b m c : Nat} {l : List Int} {t : TypeId} (h : Blk w b (aP l) t) (hm : m ≤ l.length) : RdI w 0 w.heap.size (.slice (some ⟨b, 0, none⟩) m c) (l.take m) := by
 have e : (l.take m).length = m := by simp; omega
 refine RdI.of ⟨by simp [aP], .inr ⟨b, 0, c, by rw [e], fun _ => ⟨Nat.zero_le _, h.lt, h.lt⟩, fun j hj => ?_⟩⟩
 rw [Blk.cell h]
 simp only [aP, List.length_map, e] at hj
 simp only [aP, List.map_take, Nat.zero_add]
 rw [List.getElem?_take]
 simp; omega
theorem gS {w0 w : World} {M : Nat → Prop} {H : List Ck} {t n : Nat} {v : Value} {l : List Lp} (h : Sat w0 M H w) (hc : Ck.ow v t 3 n (lpC l) ∈ H) (hn : n = l.length) : RdL w 0 w.heap.size v l := own_rdL (h.mem hc) hn
theorem gB {w0 w : World} {M : Nat → Prop} {H : List Ck} {t n : Nat} {v : Value} {l : List Dy} (h : Sat w0 M H w) (hc : Ck.ow v t 6 n (dyC l) ∈ H) (hn : n = l.length) : RdD w 0 w.heap.size v l := own_rdD (h.mem hc) hn
theorem ints_snoc (l : List Int) (x : Int) : aP (l ++ [x]) = aP l ++ [.int .i64 x] := by simp [aP]
theorem rd_nil (w : World) (sz : Nat) : Rd w 0 0 (.slice none 0 0) sz 0 [] := ⟨by simp, .inl ⟨.inl rfl, rfl⟩⟩
def dE : Lp := ⟨20000, 2000, 20⟩
def dF : Dy := ⟨0, 100000, 0, 100000, 0, 100000⟩
def bigR : Rl := ⟨2, 0, 200000, 0, 200000, 0, 200000, 20, 6⟩
theorem bigR_right : bigR.Right := ⟨by decide, by decide, by decide, by decide, by decide, by decide⟩
theorem big_s0 (n : Nat) (h : 1 ≤ n ∧ n ≤ 12) : checkS (List.replicate n dE) bigR = 0 := cA.2 ⟨⟨by simp; omega, by simp; omega, fun l hl => by obtain rfl := List.eq_of_mem_replicate hl; exact ⟨by decide, by decide, by decide⟩⟩, bigR_right⟩
theorem big_s1 (n : Nat) (h : ¬ (1 ≤ n ∧ n ≤ 12)) : checkS (List.replicate n dE) bigR ≠ 0 := fun h2 => by
 have h3 := (cA.1 h2).s.n1
 have h4 := (cA.1 h2).s.n2
 simp at h3 h4
 omega
theorem big_w0 (n : Nat) (h : 1 ≤ n ∧ n ≤ 60) : checkW ⟨1000000, 1000000, List.replicate n dF⟩ = 0 := bU.2 ⟨by simp only; omega, by simp only; omega, by simp; omega, by simp; omega, fun l hl => by obtain rfl := List.eq_of_mem_replicate hl; exact ⟨by decide, by decide, by decide⟩⟩
theorem big_w1 (n : Nat) (h : ¬ (1 ≤ n ∧ n ≤ 60)) : checkW ⟨1000000, 1000000, List.replicate n dF⟩ ≠ 0 := fun h2 => by
 have h3 := (bU.1 h2).d1
 have h4 := (bU.1 h2).d2
 simp at h3 h4
 omega
theorem rep_lp (i : Nat) : lpC (List.replicate (i + 1) dE) = lpC (List.replicate i dE) ++ lpC [dE] := by rw [List.replicate_succ', lpC_snoc]
theorem rep_dy (i : Nat) : dyC (List.replicate (i + 1) dF) = dyC (List.replicate i dF) ++ dyC [dF] := by rw [List.replicate_succ', dyC_snoc]
theorem rep_int (i : Nat) (x : Int) : aP (List.replicate (i + 1) x) = aP (List.replicate i x) ++ [.int .i64 x] := by rw [List.replicate_succ']; simp [aP]
def sevLp : Lp := ⟨1000, 0, 1⟩
def sevR (u : Int) : Rl := ⟨6, 0, 200000, 0, 200000, 0, 200000, 1, u⟩
set_option maxRecDepth 100000 in
theorem sev6 : (allV (List.replicate 7 sevLp) (sevR 6)).2 = 10 := by decide +kernel
set_option maxRecDepth 100000 in
theorem sev2 : (allV (List.replicate 7 sevLp) (sevR 2)).2 = 10 := by decide +kernel
set_option maxRecDepth 100000 in
theorem sev1 : (allV (List.replicate 7 sevLp) (sevR 1)).2 = 0 ∧ (allV (List.replicate 7 sevLp) (sevR 1)).1.length = 7 := by decide +kernel
theorem sev_all (w : World) (lo hi : Nat) (a : Option Addr) (cp : Nat) (u : Int) (h : RdL w lo hi (.slice a 7 cp) (List.replicate 7 sevLp)) :
  Ca Tryz.prog 16 [.slice a 7 cp, .agg (rlC (sevR u)).toArray] w fun x w' => ∃ y : Value × List (Value × List Int), (x = .tuple #[y.1, .int .i64 (allV (List.replicate 7 sevLp) (sevR u)).2] ∧ y.2.map (·.2) = (allV (List.replicate 7 sevLp) (sevR u)).1) ∧ Sat w M0 (lsK y.1 y.2) w' :=
 all_u w lo hi a cp (List.replicate 7 sevLp) (sevR u) h (by decide)
theorem win_i (w : World) (lo hi i : Nat) (a : Option Addr) (c : Nat) (t : Wt) (v1 v2 v3 : Value) (hn2 : i < 64) (h : RdD w lo hi (.slice a i c) (List.replicate i dF)) (hw : WtR w t v1 v2 v3) (n1 : t.need.length ≤ maxLen) (n2 : t.make.length ≤ maxLen) (n3 : t.loss.length ≤ maxLen) :
  Ca Tryz.prog 11 [.agg #[.int .i64 1000000, .int .i64 1000000, .slice a i c], .agg #[v1, v2, v3]] w fun r w' => r = .bool true ∧ Chg [] w w' := by
 have := fJ w lo hi ⟨1000000, 1000000, List.replicate i dF⟩ a c t v1 v2 v3 (by simp only [List.length_replicate]; exact h) (by simp only [maxLen, List.length_replicate, List.length_take, List.length_cons, List.length_nil]; omega) hw n1 n2 n3
 simp only [wnC, List.length_replicate] at this
 exact this
theorem opn_i (w : World) (lo hi i : Nat) (a : Option Addr) (c : Nat) (frm day : Int) (hn2 : i < 64) (h : RdD w lo hi (.slice a i c) (List.replicate i dF)) :
  Ca Tryz.prog 12 [.agg #[.int .i64 1000000, .int .i64 1000000, .slice a i c], .agg #[.int .i64 frm, .int .i64 day]] w fun r w' => r = .bool true ∧ Chg [] w w' := by
 have := iA w lo hi ⟨1000000, 1000000, List.replicate i dF⟩ a c frm day (by simp only [List.length_replicate]; exact h) (by simp only [maxLen, List.length_replicate, List.length_take, List.length_cons, List.length_nil]; omega)
 simp only [wnC, rtV, List.length_replicate] at this
 exact this
theorem chk_i (w : World) (lo hi i : Nat) (a : Option Addr) (c : Nat) (hn2 : i < 64) (h : RdD w lo hi (.slice a i c) (List.replicate i dF)) :
  Ca Tryz.prog 15 [.agg #[.int .i64 1000000, .int .i64 1000000, .slice a i c]] w fun r w' => r = .int .i64 (checkW ⟨1000000, 1000000, List.replicate i dF⟩) ∧ Chg [] w w' := by
 have := eK w lo hi ⟨1000000, 1000000, List.replicate i dF⟩ a c (by simp only [List.length_replicate]; exact h) (by simp; omega)
 simp only [wnC, List.length_replicate] at this
 exact this
def DB (d : Dy) : Prop := 0 ≤ d.l0 ∧ d.l0 ≤ 1 ∧ d.l0 ≤ d.l1 ∧ d.l1 ≤ d.l0 + 1
theorem quo_bd (n i : Nat) (c : Int) (h : 0 < c) : 0 ≤ (n : Int) / ((i : Int) + c) ∧ (n : Int) / ((i : Int) + c) ≤ n := ⟨Int.ediv_nonneg (by omega) (by omega), Int.ediv_le_self _ (by omega)⟩
section
variable {P : Program} {w0 : World} {M : Nat → Prop} {n : Nat} {F : Act → World → Prop} {e : Env} {H Hq : List Ck}
theorem ad_to (b c : Nat) : (if c = 0 then some (⟨b, 0, none⟩ : Addr) else (some (⟨b, 0, none⟩ : Addr)).map (·.add 0)) = some ⟨b, 0, none⟩ := by split <;> rfl
end
set_option maxRecDepth 20000 in
set_option maxHeartbeats 16000000 in
theorem courseSmall_ca (w : World) : Ca Tryz.prog 3 [] w fun r w' => r = .bool true ∧ Chg [] w w' := by
 refine cS (Sat.nil w M0) Tryz.func3 rfl (by simp [Tryz.ntmps3]) ?_
 (refine aD (aB (aA V Z Z (aF (aD (aD (aB ?_)))))))
 refine cJ 3 (aP smallV) rfl (by kernel_rfl) rfl (fun b37 => ?_)
 (refine aA V Z Z (aA V Z Z (aF (aQ ?_))))
 refine cB (σ := Nat) (fun i => i ≤ 47) (fun i => 47 - i) (fun i => [(37, .slice (some ⟨b37, 0, none⟩) 47 47), (38, .int .i64 47), (39, .int .i64 i)]) (fun _ => [.pt b37 (aP smallV) 3]) 0 (by omega) ⟨rfl, rfl, rfl, trivial⟩ (by repeat constructor) ?_
 rintro i hi K hK
 (refine aD (aB (aA V Z Z (aF (aD ?_)))))
 refine dL Z (fun hc => ?_) (fun hc => ?_)
 ·have hi3 : i < 47 := by first | omega | (simp at hc; omega)
  have hi2 : i < smallV.length := hi3
  clear hc
  (refine aM (aD (aQ (aD (aB ?_)))))
  refine aV V Z Z Z Z Z (by omega) (by omega) ?_
  refine ql_loadI V (i) rfl rfl rfl (by repeat constructor) (by first | rfl | omega | simp) hi2 ?_
  generalize smallV[i] = x at *
  (refine aA V Z Z (aF (aD (aD (aB (aA V Z Z (aF (aQ ?_))))))))
  refine cB (σ := Nat) (fun k => k ≤ 18) (fun k => 18 - k) (fun k => [(37, .slice (some ⟨b37, 0, none⟩) 47 47), (38, .int .i64 47), (39, .int .i64 i), (2, .int .i64 x), (43, .int .i64 k)]) (fun _ => [.pt b37 (aP smallV) 3]) 0 (by omega) ⟨rfl, rfl, rfl, rfl, rfl, trivial⟩ (by repeat constructor) ?_
  ·rintro k hk K2 hK2
   (refine aD (aB (aA V Z Z (aF (aD ?_)))))
   refine dL Z (fun hc => ?_) (fun hc => ?_)
   ·have hk2 : k < 18 := by first | omega | (simp at hc; omega)
    clear hc
    (refine aM (aD (aQ (aD (aB (aA V Z Z (aA V Z Z (aF (aD (aB ?_))))))))))
    refine bG (β := Nat) V [] _ M0 rfl rfl rfl rfl (Sp.refl _) (fun _ h => h.elim) (fun w' hs => three_ca w') ?_
    rintro bs _ rfl
    dsimp only [List.cons_append, List.nil_append]
    rw [show lpC fB = [.int .i64 2000, .int .i64 60, .int .i64 6, .int .i64 2500, .int .i64 90, .int .i64 6, .int .i64 3000, .int .i64 100, .int .i64 6] from rfl]
    rw [show rlC iU = [.int .i64 3, .int .i64 7000, .int .i64 7500, .int .i64 200, .int .i64 270, .int .i64 2000, .int .i64 3000, .int .i64 6, .int .i64 2] from rfl]
    (refine aA V Z Z (aT V Z Z Z (aT V Z Z Z ?_)))
    refine bI zero27 rfl (fun b5 => ?_)
    (refine aA V Z Z ?_; refine bS V Z Z Z Z Z (by repeat constructor) rfl ?_; refine aF (aD (aB ?_)))
    refine cJ 3 [.int .i64 0, .int .i64 1, .int .i64 1] rfl (by kernel_rfl) rfl (fun b6 => ?_)
    skip
    refine bI zero3 rfl (fun b7 => ?_)
    skip
    refine bI zero3 rfl (fun b8 => ?_)
    (refine aA V Z Z ?_; (iterate 2 refine iV V Z Z Z Z (by repeat constructor) ?_); refine aF (aD ?_))
    refine cQ _ [] (Sp.refl _) (by kernel_rfl) (by kernel_rfl) ?_
    (refine aG V Z Z Z ?_)
    repeat (refine bR V Z Z Z Z Z (by decide) (by decide) ?_; (first | ((iterate 17 refine aG V Z Z Z ?_)) | (refine aG V Z Z Z (aG V Z Z Z ?_)) | (refine aG V Z Z Z ?_)))
    refine bK 30 [.pointer (some ⟨bs, 0, none⟩), .pointer (some ⟨bs, 4, none⟩), .pointer (some ⟨bs, 8, none⟩), .pointer (some ⟨b5, 0, none⟩), .pointer (some ⟨b5, 1, none⟩), .pointer (some ⟨b5, 2, none⟩), .pointer (some ⟨b5, 3, none⟩), .pointer (some ⟨b5, 4, none⟩), .pointer (some ⟨b5, 5, none⟩), .pointer (some ⟨b5, 6, none⟩), .pointer (some ⟨b5, 7, none⟩), .pointer (some ⟨b5, 8, none⟩), .pointer (some ⟨b6, 0, none⟩), .pointer (some ⟨b6, 1, none⟩), .pointer (some ⟨b6, 2, none⟩), .pointer (some ⟨b7, 0, none⟩), .pointer (some ⟨b8, 0, none⟩), .pointer (some ⟨bs, 3, none⟩)] rfl (by kernel_rfl) rfl (fun b9 => ?_)
    (refine aG V Z Z Z (aO (aD ?_)))
    refine jP (σ := (Lp × Lp × Lp) × Rl × (Int × Int × Int) × Int × Int) (fun _ => [(37, .slice (some ⟨b37, 0, none⟩) 47 47), (38, .int .i64 47), (39, .int .i64 i), (2, .int .i64 x), (43, .int .i64 k), (4, .slice (some ⟨bs, 0, none⟩) 3 3), (5, .pointer (some ⟨b5, 0, none⟩)), (6, .slice (some ⟨b6, 0, none⟩) 3 3), (7, .pointer (some ⟨b7, 0, none⟩)), (8, .pointer (some ⟨b8, 0, none⟩))])
     (fun q => [.pt bs (lpC [q.1.1, q.1.2.1, q.1.2.2]) 32, .pt b5 (rlC q.2.1) 27, .pt b6 (aP [q.2.2.1.1, q.2.2.1.2.1, q.2.2.1.2.2]) 3, .pt b7 [.int .i64 q.2.2.2.1] 3, .pt b8 [.int .i64 q.2.2.2.2] 3, .pt b37 (aP smallV) 3]) ?_ ?_
    rotate_left
    ·intro K3 hK3
     obtain rfl | rfl | rfl | rfl | rfl | rfl | rfl | rfl | rfl | rfl | rfl | rfl | rfl | rfl | rfl | rfl | rfl | rfl : k = 0 ∨ k = 1 ∨ k = 2 ∨ k = 3 ∨ k = 4 ∨ k = 5 ∨ k = 6 ∨ k = 7 ∨ k = 8 ∨ k = 9 ∨ k = 10 ∨ k = 11 ∨ k = 12 ∨ k = 13 ∨ k = 14 ∨ k = 15 ∨ k = 16 ∨ k = 17 := by omega
     all_goals ((refine aB (aA V Z Z (aA V Z Z ?_))))
     all_goals (refine aV V Z Z Z Z Z (by decide) (by decide) ?_)
     all_goals ((first | (refine aI V Z Z Z (aA V Z Z (aA V Z Z ?_)); refine ql_st0 V Z Z Z Z (by repeat constructor) ?_; refine aF ?_) | (refine aI V Z Z Z (aA V Z Z (aA V Z Z ?_)); refine ql_st4 V Z Z Z Z (by repeat constructor) ?_; refine aF ?_) | (refine aI V Z Z Z (aA V Z Z (aA V Z Z ?_)); refine ql_st8 V Z Z Z Z (by repeat constructor) ?_; refine aF ?_) | (refine aI V Z Z Z (aA V Z Z (aA V Z Z ?_)); refine ql_st1 V Z Z Z Z (by repeat constructor) ?_; refine aF ?_) | (refine aI V Z Z Z (aA V Z Z (aA V Z Z ?_)); refine ql_st2 V Z Z Z Z (by repeat constructor) ?_; refine aF ?_) | (refine aI V Z Z Z (aA V Z Z (aA V Z Z ?_)); refine ql_st3 V Z Z Z Z (by repeat constructor) ?_; refine aF ?_) | (refine aI V Z Z Z (aA V Z Z (aA V Z Z ?_)); refine ql_st5 V Z Z Z Z (by repeat constructor) ?_; refine aF ?_) | (refine aI V Z Z Z (aA V Z Z (aA V Z Z ?_)); refine ql_st6 V Z Z Z Z (by repeat constructor) ?_; refine aF ?_) | (refine aI V Z Z Z (aA V Z Z (aA V Z Z ?_)); refine ql_st7 V Z Z Z Z (by repeat constructor) ?_; refine aF ?_) | (refine aI V Z Z Z (aA V Z Z (aA V Z Z ?_)); refine iV V Z Z Z Z (by repeat constructor) ?_; refine aF ?_)))
     ·exact hK3 (((⟨x, 60, 6⟩ : Lp), ⟨2500, 90, 6⟩, ⟨3000, 100, 6⟩), (⟨3, 7000, 7500, 200, 270, 2000, 3000, 6, 2⟩ : Rl), (0, 1, 1), 40, 12000) _ _ ⟨rfl, rfl, rfl, rfl, rfl, rfl, rfl, rfl, rfl, rfl, trivial⟩ (by repeat constructor)
     ·exact hK3 (((⟨2000, 60, 6⟩ : Lp), ⟨2500, x, 6⟩, ⟨3000, 100, 6⟩), (⟨3, 7000, 7500, 200, 270, 2000, 3000, 6, 2⟩ : Rl), (0, 1, 1), 40, 12000) _ _ ⟨rfl, rfl, rfl, rfl, rfl, rfl, rfl, rfl, rfl, rfl, trivial⟩ (by repeat constructor)
     ·exact hK3 (((⟨2000, 60, 6⟩ : Lp), ⟨2500, 90, 6⟩, ⟨3000, 100, x⟩), (⟨3, 7000, 7500, 200, 270, 2000, 3000, 6, 2⟩ : Rl), (0, 1, 1), 40, 12000) _ _ ⟨rfl, rfl, rfl, rfl, rfl, rfl, rfl, rfl, rfl, rfl, trivial⟩ (by repeat constructor)
     ·exact hK3 (((⟨2000, 60, 6⟩ : Lp), ⟨2500, 90, 6⟩, ⟨3000, 100, 6⟩), (⟨x, 7000, 7500, 200, 270, 2000, 3000, 6, 2⟩ : Rl), (0, 1, 1), 40, 12000) _ _ ⟨rfl, rfl, rfl, rfl, rfl, rfl, rfl, rfl, rfl, rfl, trivial⟩ (by repeat constructor)
     ·exact hK3 (((⟨2000, 60, 6⟩ : Lp), ⟨2500, 90, 6⟩, ⟨3000, 100, 6⟩), (⟨3, x, 7500, 200, 270, 2000, 3000, 6, 2⟩ : Rl), (0, 1, 1), 40, 12000) _ _ ⟨rfl, rfl, rfl, rfl, rfl, rfl, rfl, rfl, rfl, rfl, trivial⟩ (by repeat constructor)
     ·exact hK3 (((⟨2000, 60, 6⟩ : Lp), ⟨2500, 90, 6⟩, ⟨3000, 100, 6⟩), (⟨3, 7000, x, 200, 270, 2000, 3000, 6, 2⟩ : Rl), (0, 1, 1), 40, 12000) _ _ ⟨rfl, rfl, rfl, rfl, rfl, rfl, rfl, rfl, rfl, rfl, trivial⟩ (by repeat constructor)
     ·exact hK3 (((⟨2000, 60, 6⟩ : Lp), ⟨2500, 90, 6⟩, ⟨3000, 100, 6⟩), (⟨3, 7000, 7500, x, 270, 2000, 3000, 6, 2⟩ : Rl), (0, 1, 1), 40, 12000) _ _ ⟨rfl, rfl, rfl, rfl, rfl, rfl, rfl, rfl, rfl, rfl, trivial⟩ (by repeat constructor)
     ·exact hK3 (((⟨2000, 60, 6⟩ : Lp), ⟨2500, 90, 6⟩, ⟨3000, 100, 6⟩), (⟨3, 7000, 7500, 200, x, 2000, 3000, 6, 2⟩ : Rl), (0, 1, 1), 40, 12000) _ _ ⟨rfl, rfl, rfl, rfl, rfl, rfl, rfl, rfl, rfl, rfl, trivial⟩ (by repeat constructor)
     ·exact hK3 (((⟨2000, 60, 6⟩ : Lp), ⟨2500, 90, 6⟩, ⟨3000, 100, 6⟩), (⟨3, 7000, 7500, 200, 270, x, 3000, 6, 2⟩ : Rl), (0, 1, 1), 40, 12000) _ _ ⟨rfl, rfl, rfl, rfl, rfl, rfl, rfl, rfl, rfl, rfl, trivial⟩ (by repeat constructor)
     ·exact hK3 (((⟨2000, 60, 6⟩ : Lp), ⟨2500, 90, 6⟩, ⟨3000, 100, 6⟩), (⟨3, 7000, 7500, 200, 270, 2000, x, 6, 2⟩ : Rl), (0, 1, 1), 40, 12000) _ _ ⟨rfl, rfl, rfl, rfl, rfl, rfl, rfl, rfl, rfl, rfl, trivial⟩ (by repeat constructor)
     ·exact hK3 (((⟨2000, 60, 6⟩ : Lp), ⟨2500, 90, 6⟩, ⟨3000, 100, 6⟩), (⟨3, 7000, 7500, 200, 270, 2000, 3000, x, 2⟩ : Rl), (0, 1, 1), 40, 12000) _ _ ⟨rfl, rfl, rfl, rfl, rfl, rfl, rfl, rfl, rfl, rfl, trivial⟩ (by repeat constructor)
     ·exact hK3 (((⟨2000, 60, 6⟩ : Lp), ⟨2500, 90, 6⟩, ⟨3000, 100, 6⟩), (⟨3, 7000, 7500, 200, 270, 2000, 3000, 6, x⟩ : Rl), (0, 1, 1), 40, 12000) _ _ ⟨rfl, rfl, rfl, rfl, rfl, rfl, rfl, rfl, rfl, rfl, trivial⟩ (by repeat constructor)
     ·exact hK3 (((⟨2000, 60, 6⟩ : Lp), ⟨2500, 90, 6⟩, ⟨3000, 100, 6⟩), (⟨3, 7000, 7500, 200, 270, 2000, 3000, 6, 2⟩ : Rl), (x, 1, 1), 40, 12000) _ _ ⟨rfl, rfl, rfl, rfl, rfl, rfl, rfl, rfl, rfl, rfl, trivial⟩ (by repeat constructor)
     ·exact hK3 (((⟨2000, 60, 6⟩ : Lp), ⟨2500, 90, 6⟩, ⟨3000, 100, 6⟩), (⟨3, 7000, 7500, 200, 270, 2000, 3000, 6, 2⟩ : Rl), (0, x, 1), 40, 12000) _ _ ⟨rfl, rfl, rfl, rfl, rfl, rfl, rfl, rfl, rfl, rfl, trivial⟩ (by repeat constructor)
     ·exact hK3 (((⟨2000, 60, 6⟩ : Lp), ⟨2500, 90, 6⟩, ⟨3000, 100, 6⟩), (⟨3, 7000, 7500, 200, 270, 2000, 3000, 6, 2⟩ : Rl), (0, 1, x), 40, 12000) _ _ ⟨rfl, rfl, rfl, rfl, rfl, rfl, rfl, rfl, rfl, rfl, trivial⟩ (by repeat constructor)
     ·exact hK3 (((⟨2000, 60, 6⟩ : Lp), ⟨2500, 90, 6⟩, ⟨3000, 100, 6⟩), (⟨3, 7000, 7500, 200, 270, 2000, 3000, 6, 2⟩ : Rl), (0, 1, 1), x, 12000) _ _ ⟨rfl, rfl, rfl, rfl, rfl, rfl, rfl, rfl, rfl, rfl, trivial⟩ (by repeat constructor)
     ·exact hK3 (((⟨2000, 60, 6⟩ : Lp), ⟨2500, 90, 6⟩, ⟨3000, 100, 6⟩), (⟨3, 7000, 7500, 200, 270, 2000, 3000, 6, 2⟩ : Rl), (0, 1, 1), 40, x) _ _ ⟨rfl, rfl, rfl, rfl, rfl, rfl, rfl, rfl, rfl, rfl, trivial⟩ (by repeat constructor)
     ·exact hK3 (((⟨2000, 60, 6⟩ : Lp), ⟨x, 90, 6⟩, ⟨3000, 100, 6⟩), (⟨3, 7000, 7500, 200, 270, 2000, 3000, 6, 2⟩ : Rl), (0, 1, 1), 40, 12000) _ _ ⟨rfl, rfl, rfl, rfl, rfl, rfl, rfl, rfl, rfl, rfl, trivial⟩ (by repeat constructor)
    ·rintro ⟨⟨s1, s2, s3⟩, r, ⟨c1, c2, c3⟩, d, vol⟩
     dsimp only
     (refine aD ?_)
     refine cQ _ [] (Sp.refl _) (by kernel_rfl) (by kernel_rfl) ?_
     (refine aG V Z Z Z (aZ V Z Z Z (aG V Z Z Z ?_)))
     refine bT (val := .bool true) V rfl rfl rfl rfl (fun w hs => ?_) ?_; exact iB w 0 w.heap.size 0 w.heap.size (.slice (some ⟨bs, 0, none⟩) 3 3) (.slice (some ⟨b6, 0, none⟩) 3 3) [s1, s2, s3] r [c1, c2, c3] (Blk.rdL (l := [s1, s2, s3]) (hs.blk (b := bs) (by repeat constructor)) rfl) (show 3 ≤ maxLen by decide) (jN (l := [c1, c2, c3]) (hs.blk (b := b6) (by repeat constructor)) rfl) (show 3 ≤ maxLen by decide)
     (refine aG V Z Z Z (aG V Z Z Z (aX Z (aG V Z Z Z (aX Z (aZ V Z Z Z (aX Z ?_)))))))
     refine bT (val := .bool true) V rfl rfl rfl rfl (fun w hs => ?_) ?_; exact fF w 0 w.heap.size (.slice (some ⟨bs, 0, none⟩) 3 3) [s1, s2, s3] r (Blk.rdL (l := [s1, s2, s3]) (hs.blk (b := bs) (by repeat constructor)) rfl) (show 3 ≤ maxLen by decide)
     (refine aX Z ?_; (iterate 3 refine aG V Z Z Z ?_); refine aX Z (aG V Z Z Z (aX Z (aZ V Z Z Z (aX Z (aG V Z Z Z (aX Z (aN V Z Z Z (aX Z (aN V Z Z Z (aX Z ?_)))))))))))
     refine bT (val := .bool true) V rfl rfl rfl rfl (fun w hs => ?_) ?_; exact eW w 0 w.heap.size 0 w.heap.size (.slice (some ⟨bs, 0, none⟩) 3 3) (.slice (some ⟨b6, 0, none⟩) 3 3) [s1, s2, s3] r [c1, c2, c3] d vol (Blk.rdL (l := [s1, s2, s3]) (hs.blk (b := bs) (by repeat constructor)) rfl) (show 3 ≤ maxLen by decide) (jN (l := [c1, c2, c3]) (hs.blk (b := b6) (by repeat constructor)) rfl) (show 3 ≤ maxLen by decide)
     (refine aX Z ?_; (iterate 3 refine aG V Z Z Z ?_); refine aX Z (aG V Z Z Z (aX Z (aZ V Z Z Z (aX Z (aG V Z Z Z (aX Z ?_)))))))
     refine qf_sliceTo (l := 2) (et := 3) (sz := 1) (by kernel_rfl) (by kernel_rfl) rfl rfl rfl (by decide) (by decide) ?_
     rw [ad_to]
     (refine aX Z (aN V Z Z Z (aX Z (aN V Z Z Z (aX Z ?_)))))
     refine bT (val := .bool true) V rfl rfl rfl rfl (fun w hs => ?_) ?_; exact eW w 0 w.heap.size 0 w.heap.size (.slice (some ⟨bs, 0, none⟩) 3 3) (.slice (some ⟨b6, 0, none⟩) 2 3) [s1, s2, s3] r [c1, c2] d vol (Blk.rdL (l := [s1, s2, s3]) (hs.blk (b := bs) (by repeat constructor)) rfl) (show 3 ≤ maxLen by decide) (ints_rd2 (z := c3) (hs.blk (b := b6) (by repeat constructor))) (show 2 ≤ maxLen by decide)
     (refine aX Z (aG V Z Z Z (aG V Z Z Z (aO (aH Z (aM (bJ (aB (bA V Z Z Z Z (by omega) (by omega) (aA V Z Z (aF ?_)))))))))))
     exact hK2 (k + 1) _ _ (by omega) (by omega) ⟨rfl, rfl, rfl, rfl, rfl, trivial⟩ (by repeat constructor)
   ·clear hc hK2 hk
    (refine bO _ rfl (aD (aB (aA V Z Z (aF (aQ ?_))))))
    refine cB (σ := Nat) (fun k => k ≤ 16) (fun k => 16 - k) (fun k => [(37, .slice (some ⟨b37, 0, none⟩) 47 47), (38, .int .i64 47), (39, .int .i64 i), (2, .int .i64 x), (122, .int .i64 k)]) (fun _ => [.pt b37 (aP smallV) 3]) 0 (by omega) ⟨rfl, rfl, rfl, rfl, rfl, trivial⟩ (by repeat constructor) ?_
    rintro k hk K2 hK2
    (refine aD (aB (aA V Z Z (aF (aD ?_)))))
    refine dL Z (fun hc => ?_) (fun hc => ?_)
    ·have hk2 : k < 16 := by first | omega | (simp at hc; omega)
     clear hc
     (refine aM (aD (aQ (aD (aB (aA V Z Z (aA V Z Z (aF (aD (aB ?_))))))))))
     refine bG (β := Nat) V [] _ M0 rfl rfl rfl rfl (Sp.refl _) (fun _ h => h.elim) (fun w' hs => kA w' 500) ?_
     rintro bd _ rfl
     dsimp only [List.cons_append, List.nil_append]
     rw [show dyC (fY 500).days = [.int .i64 300, .int .i64 300, .int .i64 100, .int .i64 200, .int .i64 10, .int .i64 20, .int .i64 200, .int .i64 400, .int .i64 300, .int .i64 600, .int .i64 10, .int .i64 20, .int .i64 500, .int .i64 500, .int .i64 0, .int .i64 100, .int .i64 10, .int .i64 20] from rfl]
     (refine aA V Z Z (dD Z Z Z (by omega) (by omega) (bA V Z Z Z Z (by omega) (by omega) ?_)))
     refine dJ #[.int .i64 ((k : Int) % 4 - 1), .int .i64 2] rfl (by kernel_rfl) rfl ?_
     skip
     refine bI dQ rfl (fun b11 => ?_)
     skip
     refine bI zero42 rfl (fun b12 => ?_)
     obtain ⟨fr, hfr⟩ : ∃ y : Int, y = (k : Int) % 4 - 1 := ⟨_, rfl⟩
     rw [← hfr]
     clear hfr
     ((iterate 2 refine bS V Z Z Z Z Z (by repeat constructor) rfl ?_); refine aF (aD (aB ?_)))
     refine cJ 3 [.int .i64 300, .int .i64 300, .int .i64 500] rfl (by kernel_rfl) rfl (fun bn => ?_)
     skip
     refine cJ 3 [.int .i64 150, .int .i64 400, .int .i64 50] rfl (by kernel_rfl) rfl (fun bm => ?_)
     skip
     refine cJ 3 [.int .i64 15, .int .i64 20, .int .i64 10] rfl (by kernel_rfl) rfl (fun bl => ?_)
     skip
     refine dJ #[.slice (some ⟨bn, 0, none⟩) 3 3, .slice (some ⟨bm, 0, none⟩) 3 3, .slice (some ⟨bl, 0, none⟩) 3 3] rfl (by kernel_rfl) rfl ?_
     skip
     refine bI dR rfl (fun b13 => ?_)
     (refine bS V Z Z Z Z Z (by repeat constructor) rfl ?_; refine aF (aD ?_))
     refine cQ _ [] (Sp.refl _) (by kernel_rfl) (by kernel_rfl) ?_
     ((iterate 3 refine aG V Z Z Z ?_); refine aN V Z Z Z ?_)
     repeat (refine bR V Z Z Z Z Z (by decide) (by decide) ?_; (first | ((iterate 5 refine aG V Z Z Z ?_); refine aN V Z Z Z ?_) | ((iterate 3 refine aG V Z Z Z ?_); refine aN V Z Z Z ?_) | (refine aG V Z Z Z (aG V Z Z Z (aN V Z Z Z ?_))) | (refine aG V Z Z Z (aN V Z Z Z ?_)) | (refine aG V Z Z Z (aG V Z Z Z ?_))))
     refine bK 30 [.pointer (some ⟨b11, 0, none⟩), .pointer (some ⟨b11, 1, none⟩), .pointer (some ⟨bd, 1, none⟩), .pointer (some ⟨bd, 6, none⟩), .pointer (some ⟨bd, 13, none⟩), .pointer (some ⟨bd, 2, none⟩), .pointer (some ⟨bd, 15, none⟩), .pointer (some ⟨bd, 11, none⟩), .pointer (some ⟨bd, 10, none⟩), .pointer (some ⟨b12, 0, none⟩), .pointer (some ⟨b12, 1, none⟩), .pointer (some ⟨bn, 1, none⟩), .pointer (some ⟨bm, 0, none⟩), .pointer (some ⟨bl, 1, none⟩), .pointer (some ⟨b11, 0, none⟩), .pointer (some ⟨bd, 8, none⟩)] rfl (by kernel_rfl) rfl (fun b14 => ?_)
     (refine aG V Z Z Z (aO (aD ?_)))
     refine jP (σ := (Int × Int) × (Dy × Dy × Dy) × (Int × Int) × (Int × Int × Int) × (Int × Int × Int) × Int × Int × Int) (fun _ => [(37, .slice (some ⟨b37, 0, none⟩) 47 47), (38, .int .i64 47), (39, .int .i64 i), (2, .int .i64 x), (122, .int .i64 k), (11, .pointer (some ⟨b11, 0, none⟩)), (12, .pointer (some ⟨b12, 0, none⟩)), (13, .pointer (some ⟨b13, 0, none⟩))])
      (fun q => [.pt bd (dyC [q.2.1.1, q.2.1.2.1, q.2.1.2.2]) 46, .pt b11 [.int .i64 q.1.1, .int .i64 q.1.2, .slice (some ⟨bd, 0, none⟩) 3 3] 39, .pt b12 [.int .i64 q.2.2.1.1, .int .i64 q.2.2.1.2] 42, .pt b13 [.slice (some ⟨bn, 0, none⟩) 3 3, .slice (some ⟨bm, 0, none⟩) 3 3, .slice (some ⟨bl, 0, none⟩) 3 3] 44, .pt bn (aP [q.2.2.2.1.1, q.2.2.2.1.2.1, q.2.2.2.1.2.2]) 3, .pt bm (aP [q.2.2.2.2.1.1, q.2.2.2.2.1.2.1, q.2.2.2.2.1.2.2]) 3, .pt bl (aP [q.2.2.2.2.2.1, q.2.2.2.2.2.2.1, q.2.2.2.2.2.2.2]) 3, .pt b37 (aP smallV) 3]) ?_ ?_
     rotate_left
     ·intro K3 hK3
      obtain rfl | rfl | rfl | rfl | rfl | rfl | rfl | rfl | rfl | rfl | rfl | rfl | rfl | rfl | rfl | rfl : k = 0 ∨ k = 1 ∨ k = 2 ∨ k = 3 ∨ k = 4 ∨ k = 5 ∨ k = 6 ∨ k = 7 ∨ k = 8 ∨ k = 9 ∨ k = 10 ∨ k = 11 ∨ k = 12 ∨ k = 13 ∨ k = 14 ∨ k = 15 := by omega
      all_goals ((refine aB (aA V Z Z (aA V Z Z ?_))))
      all_goals (refine aV V Z Z Z Z Z (by decide) (by decide) ?_)
      all_goals ((first | (refine aI V Z Z Z (aA V Z Z (aA V Z Z ?_)); refine ql_st0 V Z Z Z Z (by repeat constructor) ?_; refine aF ?_) | (refine aI V Z Z Z (aA V Z Z (aA V Z Z ?_)); refine ql_st1 V Z Z Z Z (by repeat constructor) ?_; refine aF ?_) | (refine aI V Z Z Z (aA V Z Z (aA V Z Z ?_)); refine ql_st6 V Z Z Z Z (by repeat constructor) ?_; refine aF ?_) | (refine aI V Z Z Z (aA V Z Z (aA V Z Z ?_)); refine ql_st2 V Z Z Z Z (by repeat constructor) ?_; refine aF ?_) | (refine aI V Z Z Z (aA V Z Z (aA V Z Z ?_)); refine ql_st8 V Z Z Z Z (by repeat constructor) ?_; refine aF ?_) | (refine aI V Z Z Z (aA V Z Z (aA V Z Z ?_)))))
      ·exact hK3 ((x, 800), ((⟨300, 300, 100, 200, 10, 20⟩ : Dy), (⟨200, 400, 300, 600, 10, 20⟩ : Dy), (⟨500, 500, 0, 100, 10, 20⟩ : Dy)), (fr, 2), (300, 300, 500), (150, 400, 50), 15, 20, 10) _ _ ⟨rfl, rfl, rfl, rfl, rfl, rfl, rfl, rfl, trivial⟩ (by repeat constructor)
      ·exact hK3 ((500, x), ((⟨300, 300, 100, 200, 10, 20⟩ : Dy), (⟨200, 400, 300, 600, 10, 20⟩ : Dy), (⟨500, 500, 0, 100, 10, 20⟩ : Dy)), (fr, 2), (300, 300, 500), (150, 400, 50), 15, 20, 10) _ _ ⟨rfl, rfl, rfl, rfl, rfl, rfl, rfl, rfl, trivial⟩ (by repeat constructor)
      ·exact hK3 ((500, 800), ((⟨300, x, 100, 200, 10, 20⟩ : Dy), (⟨200, 400, 300, 600, 10, 20⟩ : Dy), (⟨500, 500, 0, 100, 10, 20⟩ : Dy)), (fr, 2), (300, 300, 500), (150, 400, 50), 15, 20, 10) _ _ ⟨rfl, rfl, rfl, rfl, rfl, rfl, rfl, rfl, trivial⟩ (by repeat constructor)
      ·exact hK3 ((500, 800), ((⟨300, 300, 100, 200, 10, 20⟩ : Dy), (⟨x, 400, 300, 600, 10, 20⟩ : Dy), (⟨500, 500, 0, 100, 10, 20⟩ : Dy)), (fr, 2), (300, 300, 500), (150, 400, 50), 15, 20, 10) _ _ ⟨rfl, rfl, rfl, rfl, rfl, rfl, rfl, rfl, trivial⟩ (by repeat constructor)
      ·refine dN V Z Z Z Z (by repeat constructor) (by decide) ?_
       (refine aF ?_)
       exact hK3 ((500, 800), ((⟨300, 300, 100, 200, 10, 20⟩ : Dy), (⟨200, 400, 300, 600, 10, 20⟩ : Dy), (⟨500, x, 0, 100, 10, 20⟩ : Dy)), (fr, 2), (300, 300, 500), (150, 400, 50), 15, 20, 10) _ _ ⟨rfl, rfl, rfl, rfl, rfl, rfl, rfl, rfl, trivial⟩ (by repeat constructor)
      ·exact hK3 ((500, 800), ((⟨300, 300, x, 200, 10, 20⟩ : Dy), (⟨200, 400, 300, 600, 10, 20⟩ : Dy), (⟨500, 500, 0, 100, 10, 20⟩ : Dy)), (fr, 2), (300, 300, 500), (150, 400, 50), 15, 20, 10) _ _ ⟨rfl, rfl, rfl, rfl, rfl, rfl, rfl, rfl, trivial⟩ (by repeat constructor)
      ·refine dN V Z Z Z Z (by repeat constructor) (by decide) ?_
       (refine aF ?_)
       exact hK3 ((500, 800), ((⟨300, 300, 100, 200, 10, 20⟩ : Dy), (⟨200, 400, 300, 600, 10, 20⟩ : Dy), (⟨500, 500, 0, x, 10, 20⟩ : Dy)), (fr, 2), (300, 300, 500), (150, 400, 50), 15, 20, 10) _ _ ⟨rfl, rfl, rfl, rfl, rfl, rfl, rfl, rfl, trivial⟩ (by repeat constructor)
      ·refine dN V Z Z Z Z (by repeat constructor) (by decide) ?_
       (refine aF ?_)
       exact hK3 ((500, 800), ((⟨300, 300, 100, 200, 10, 20⟩ : Dy), (⟨200, 400, 300, 600, 10, x⟩ : Dy), (⟨500, 500, 0, 100, 10, 20⟩ : Dy)), (fr, 2), (300, 300, 500), (150, 400, 50), 15, 20, 10) _ _ ⟨rfl, rfl, rfl, rfl, rfl, rfl, rfl, rfl, trivial⟩ (by repeat constructor)
      ·refine dN V Z Z Z Z (by repeat constructor) (by decide) ?_
       (refine aF ?_)
       exact hK3 ((500, 800), ((⟨300, 300, 100, 200, 10, 20⟩ : Dy), (⟨200, 400, 300, 600, x, 20⟩ : Dy), (⟨500, 500, 0, 100, 10, 20⟩ : Dy)), (fr, 2), (300, 300, 500), (150, 400, 50), 15, 20, 10) _ _ ⟨rfl, rfl, rfl, rfl, rfl, rfl, rfl, rfl, trivial⟩ (by repeat constructor)
      ·exact hK3 ((500, 800), ((⟨300, 300, 100, 200, 10, 20⟩ : Dy), (⟨200, 400, 300, 600, 10, 20⟩ : Dy), (⟨500, 500, 0, 100, 10, 20⟩ : Dy)), (x, 2), (300, 300, 500), (150, 400, 50), 15, 20, 10) _ _ ⟨rfl, rfl, rfl, rfl, rfl, rfl, rfl, rfl, trivial⟩ (by repeat constructor)
      ·exact hK3 ((500, 800), ((⟨300, 300, 100, 200, 10, 20⟩ : Dy), (⟨200, 400, 300, 600, 10, 20⟩ : Dy), (⟨500, 500, 0, 100, 10, 20⟩ : Dy)), (fr, x), (300, 300, 500), (150, 400, 50), 15, 20, 10) _ _ ⟨rfl, rfl, rfl, rfl, rfl, rfl, rfl, rfl, trivial⟩ (by repeat constructor)
      ·exact hK3 ((500, 800), ((⟨300, 300, 100, 200, 10, 20⟩ : Dy), (⟨200, 400, 300, 600, 10, 20⟩ : Dy), (⟨500, 500, 0, 100, 10, 20⟩ : Dy)), (fr, 2), (300, x, 500), (150, 400, 50), 15, 20, 10) _ _ ⟨rfl, rfl, rfl, rfl, rfl, rfl, rfl, rfl, trivial⟩ (by repeat constructor)
      ·exact hK3 ((500, 800), ((⟨300, 300, 100, 200, 10, 20⟩ : Dy), (⟨200, 400, 300, 600, 10, 20⟩ : Dy), (⟨500, 500, 0, 100, 10, 20⟩ : Dy)), (fr, 2), (300, 300, 500), (x, 400, 50), 15, 20, 10) _ _ ⟨rfl, rfl, rfl, rfl, rfl, rfl, rfl, rfl, trivial⟩ (by repeat constructor)
      ·exact hK3 ((500, 800), ((⟨300, 300, 100, 200, 10, 20⟩ : Dy), (⟨200, 400, 300, 600, 10, 20⟩ : Dy), (⟨500, 500, 0, 100, 10, 20⟩ : Dy)), (fr, 2), (300, 300, 500), (150, 400, 50), 15, x, 10) _ _ ⟨rfl, rfl, rfl, rfl, rfl, rfl, rfl, rfl, trivial⟩ (by repeat constructor)
      ·exact hK3 ((x, 800), ((⟨300, 300, 100, 200, 10, 20⟩ : Dy), (⟨200, 400, 300, 600, 10, 20⟩ : Dy), (⟨500, 500, 0, 100, 10, 20⟩ : Dy)), (fr, 2), (300, 300, 500), (150, 400, 50), 15, 20, 10) _ _ ⟨rfl, rfl, rfl, rfl, rfl, rfl, rfl, rfl, trivial⟩ (by repeat constructor)
      ·exact hK3 ((500, 800), ((⟨300, 300, 100, 200, 10, 20⟩ : Dy), (⟨200, 400, x, 600, 10, 20⟩ : Dy), (⟨500, 500, 0, 100, 10, 20⟩ : Dy)), (fr, 2), (300, 300, 500), (150, 400, 50), 15, 20, 10) _ _ ⟨rfl, rfl, rfl, rfl, rfl, rfl, rfl, rfl, trivial⟩ (by repeat constructor)
     ·rintro ⟨⟨sk, so⟩, ⟨d1, d2, d3⟩, ⟨f, dy⟩, ⟨n1, n2, n3⟩, ⟨m1, m2, m3⟩, l1, l2, l3⟩
      dsimp only
      (refine aD (aB (aJ V Z Z Z (aJ V Z Z Z ?_))))
      refine aK (val := .bool true) V rfl rfl rfl rfl (fun w hs => ?_) ?_; exact fJ w 0 w.heap.size ⟨sk, so, [d1, d2, d3]⟩ (some ⟨bd, 0, none⟩) 3 ⟨[n1, n2, n3], [m1, m2, m3], [l1, l2, l3]⟩ (.slice (some ⟨bn, 0, none⟩) 3 3) (.slice (some ⟨bm, 0, none⟩) 3 3) (.slice (some ⟨bl, 0, none⟩) 3 3) (Blk.rdD (l := [d1, d2, d3]) (hs.blk (b := bd) (by repeat constructor)) rfl) (show 3 ≤ maxLen by decide) ⟨⟨_, _, jN (l := [n1, n2, n3]) (hs.blk (b := bn) (by repeat constructor)) rfl⟩, ⟨_, _, jN (l := [m1, m2, m3]) (hs.blk (b := bm) (by repeat constructor)) rfl⟩, ⟨_, _, jN (l := [l1, l2, l3]) (hs.blk (b := bl) (by repeat constructor)) rfl⟩⟩ (show 3 ≤ maxLen by decide) (show 3 ≤ maxLen by decide) (show 3 ≤ maxLen by decide)
      (refine aA V Z Z (aA V Z Z (aE Z (aJ V Z Z Z (aE Z (aJ V Z Z Z (aE Z ?_)))))))
      refine aK (val := .bool true) V rfl rfl rfl rfl (fun w hs => ?_) ?_; exact iA w 0 w.heap.size ⟨sk, so, [d1, d2, d3]⟩ (some ⟨bd, 0, none⟩) 3 f dy (Blk.rdD (l := [d1, d2, d3]) (hs.blk (b := bd) (by repeat constructor)) rfl) (show 3 ≤ maxLen by decide)
      (refine aE Z (aA V Z Z (aA V Z Z (aF (aH Z (aM (bJ (aB (bA V Z Z Z Z (by omega) (by omega) (aA V Z Z (aF ?_)))))))))))
      exact hK2 (k + 1) _ _ (by omega) (by omega) ⟨rfl, rfl, rfl, rfl, rfl, trivial⟩ (by repeat constructor)
    ·clear hc hK2 hk
     (refine bO _ rfl (bJ (aB (bA V Z Z Z Z (by omega) (by omega) (aA V Z Z (aF ?_))))))
     exact hK (i + 1) _ _ (by omega) (by omega) ⟨rfl, rfl, rfl, trivial⟩ (by repeat constructor)
 ·clear hc hK hi
  (refine bO _ rfl (aD (aD (aB (aA V Z Z (aF (aQ ?_)))))))
  refine cB (σ := Nat) (fun n => n ≤ 1500) (fun n => 1500 - n) (fun n => [(207, .int .i64 n)]) (fun _ => []) 0 (by omega) ⟨rfl, trivial⟩ (by repeat constructor) ?_
  rintro n hn K hK
  (refine aD (aB (aA V Z Z (aF (aD ?_)))))
  refine dL Z (fun hc => ?_) (fun hc => ?_)
  ·have hn2 : n < 1500 := by first | omega | (simp at hc; omega)
   clear hc
   (refine aM (aD (aQ (aD (aB (aA V Z Z (aA V Z Z (aF (aD (aB (aA V Z Z (aF ?_))))))))))); refine aD (aD (aB (aA V Z Z (dD Z Z Z (by omega) (by omega) (bA V Z Z Z Z (by omega) (by omega) (aA V Z Z (aF (aQ ?_)))))))))
   refine eD (H' := [.ow (.slice none 0 0) 32 3 0 (lpC [])]) (fun w' hs => (Sat.ownil hs 32 3).sp (by repeat constructor)) ?_
   refine cB (σ := Nat × Value × List Lp) (fun q => q.1 ≤ 4 ∧ q.1 = q.2.2.length) (fun q => 4 - q.1) (fun q => [(207, .int .i64 n), (15, .int .i64 n), (16, q.2.1), (212, .int .i64 (1 + (n : Int) % 4)), (213, .int .i64 q.1)]) (fun q => [.ow q.2.1 32 3 q.1 (lpC q.2.2)]) (0, .slice none 0 0, []) ⟨by decide, rfl⟩ ⟨rfl, rfl, rfl, rfl, rfl, trivial⟩ (by repeat constructor) ?_
   rintro ⟨i, v, l⟩ ⟨hi, hl⟩ K2 hK2
   dsimp only at hi hl ⊢
   (refine aD (aB (aA V Z Z (aF (aD ?_)))))
   refine dL Z (fun hc => ?_) (fun hc => ?_)
   ·have hi2 : i < 4 := by omega
    clear hc
    (refine aM (aD (aQ (aD (aB (aA V Z Z (aA V Z Z (aF ?_))))))))
    have d2 := quo_bd n i 2 (by decide)
    have d3 := quo_bd n i 3 (by decide)
    have d5 := quo_bd n i 5 (by decide)
    refine cQ [] [.ow v 32 3 i (lpC l)] (by repeat constructor) (by kernel_rfl) (by kernel_rfl) ?_
    ((iterate 3 refine aG V Z Z Z ?_); refine dA V Z Z Z Z (by omega) (by omega) (dC Z Z Z (by omega) (by omega) (by omega) (cN Z Z Z (by omega) (by omega) (dA V Z Z Z Z (by omega) (by omega) (aG V Z Z Z (aG V Z Z Z (dA V Z Z Z Z (by omega) (by omega) (dC Z Z Z (by omega) (by omega) (by omega) (cN Z Z Z (by omega) (by omega) (aG V Z Z Z (aG V Z Z Z (dA V Z Z Z Z (by omega) (by omega) ?_))))))))))); refine dC Z Z Z (by omega) (by omega) (by omega) (cN Z Z Z (by omega) (by omega) (dA V Z Z Z Z (by omega) (by omega) ?_)))
    obtain ⟨x1, e1⟩ : ∃ y : Int, y = 1 + (n : Int) / ((i : Int) + 2) % 4 := ⟨_, rfl⟩
    obtain ⟨x2, e2⟩ : ∃ y : Int, y = (n : Int) / ((i : Int) + 3) % 3 := ⟨_, rfl⟩
    obtain ⟨x3, e3⟩ : ∃ y : Int, y = 1 + (n : Int) / ((i : Int) + 5) % 2 := ⟨_, rfl⟩
    rw [← e1, ← e2, ← e3]
    clear e1 e2 e3
    refine qf_mk #[.int .i64 x1, .int .i64 x2, .int .i64 x3] rfl (by kernel_rfl) rfl ?_
    refine bK 32 (lpC [⟨x1, x2, x3⟩]) rfl (by kernel_rfl) rfl (fun bn => ?_)
    refine bQ (q := 1) slLp rfl rfl rfl (fun v' => by repeat constructor) (fun w' hs => ⟨_, _, Blk.rdLp (hs.blk (b := bn) (by repeat constructor))⟩) (lpC_one _) (by omega) (by omega) (fun u => ?_)
    (refine aG V Z Z Z (aO (bJ (aB (bA V Z Z Z Z (by omega) (by omega) (aA V Z Z (aF ?_)))))))
    exact hK2 (i + 1, u, l ++ [⟨x1, x2, x3⟩]) _ _ ⟨by simp only; omega, by simp [← hl]⟩ (by simp only; omega) ⟨rfl, rfl, rfl, rfl, rfl, trivial⟩ (by dsimp only; rw [lpC_snoc]; repeat constructor)
   ·have hi4 : 1 ≤ i ∧ i ≤ 4 := by omega
    clear hc hK2 hi
    refine cX (fun w hs => hs.slice2 (v := v) (by repeat constructor)) ?_
    rintro ⟨sa, sc, rfl⟩
    subst hl
    (refine bO _ rfl (aD (aB (aA V Z Z (dD Z Z Z (by omega) (by omega) (bA V Z Z Z Z (by omega) (by omega) (aA V Z Z (dD Z Z Z (by omega) (by omega) (aA V Z Z (dD Z Z Z (by omega) (by omega) (aA V Z Z (fS Z Z Z (by omega) (by omega) (by omega) ?_))))))))))); refine dD Z Z Z (by omega) (by omega) (bA V Z Z Z Z (by omega) (by omega) ?_))
    refine aK V Z Z Z Z (fun w hs => cG _ _ w) ?_
    (refine aA V Z Z (dD Z Z Z (by omega) (by omega) (aA V Z Z (dD Z Z Z (by omega) (by omega) (aA V Z Z (fS Z Z Z (by omega) (by omega) (by omega) (dD Z Z Z (by omega) (by omega) (bA V Z Z Z Z (by omega) (by omega) ?_))))))))
    refine aK V Z Z Z Z (fun w hs => cG _ _ w) ?_
    (refine aA V Z Z (dD Z Z Z (by omega) (by omega) (aA V Z Z (dD Z Z Z (by omega) (by omega) (aA V Z Z (fS Z Z Z (by omega) (by omega) (by omega) (dD Z Z Z (by omega) (by omega) (bA V Z Z Z Z (by omega) (by omega) ?_))))))))
    refine aK V Z Z Z Z (fun w hs => cG _ _ w) ?_
    (refine aA V Z Z (dD Z Z Z (by omega) (by omega) (bA V Z Z Z Z (by omega) (by omega) (aA V Z Z (fS Z Z Z (by omega) (by omega) (by omega) (dD Z Z Z (by omega) (by omega) (bA V Z Z Z Z (by omega) (by omega) ?_)))))))
    obtain ⟨r, hr⟩ : ∃ r : Rl, r = ⟨1 + (n : Int) % 3, (n : Int) % 5, (n : Int) % 5 + (n : Int) / 3 % 6, (n : Int) % 2, (n : Int) % 2 + (n : Int) / 5 % 4, (n : Int) % 3, (n : Int) % 3 + (n : Int) / 7 % 4, 1 + (n : Int) % 2, 1 + (n : Int) / 2 % 2⟩ := ⟨_, rfl⟩
    refine dJ #[.int .i64 (1 + (n : Int) % 3), .int .i64 ((n : Int) % 5), .int .i64 ((n : Int) % 5 + (n : Int) / 3 % 6), .int .i64 ((n : Int) % 2), .int .i64 ((n : Int) % 2 + (n : Int) / 5 % 4), .int .i64 ((n : Int) % 3), .int .i64 ((n : Int) % 3 + (n : Int) / 7 % 4), .int .i64 (1 + (n : Int) % 2), .int .i64 (1 + (n : Int) / 2 % 2)] rfl (by kernel_rfl) rfl ?_
    skip
    refine bI zero27 rfl (fun b18 => ?_)
    (refine bS V Z Z Z Z Z (by repeat constructor) rfl ?_; refine aF (aD (aB (aA V Z Z (dD Z Z Z (by omega) (by omega) (aA V Z Z (dD Z Z Z (by omega) (by omega) (bA V Z Z Z Z (by omega) (by omega) ?_))))))))
    refine cJ 3 (aP [0, (n : Int) % 3, 2 * ((n : Int) % 2)]) rfl (by kernel_rfl) rfl (fun b19 => ?_)
    (refine aA V Z Z (dD Z Z Z (by omega) (by omega) ?_))
    refine ql_sliceTo (l := (n : Int) % 4) (et := 3) (sz := 1) (by kernel_rfl) (by kernel_rfl) rfl rfl rfl (by omega) (by omega) ?_
    obtain ⟨m, hm⟩ := Int.eq_ofNat_of_zero_le (show 0 ≤ (n : Int) % 4 by omega)
    rw [ad_to, show ((n : Int) % 4).toNat = m from by omega]
    have hm3 : m ≤ 3 := by omega
    (refine aA V Z Z (aF (aD (aD (aB (aA V Z Z (aJ V Z Z Z (aA V Z Z ?_))))))))
    refine aK (val := .bool true) V rfl rfl rfl rfl (fun w hs => ?_) ?_; exact iB w 0 w.heap.size 0 w.heap.size (.slice sa l.length sc) (.slice (some ⟨b19, 0, none⟩) m 3) l ⟨1 + (n : Int) % 3, (n : Int) % 5, (n : Int) % 5 + (n : Int) / 3 % 6, (n : Int) % 2, (n : Int) % 2 + (n : Int) / 5 % 4, (n : Int) % 3, (n : Int) % 3 + (n : Int) / 7 % 4, 1 + (n : Int) % 2, 1 + (n : Int) / 2 % 2⟩ ([0, (n : Int) % 3, 2 * ((n : Int) % 2)].take m) (gS (t := 32) hs (by repeat constructor) rfl) (by simp only [maxLen]; omega) (ints_rdT (l := [0, (n : Int) % 3, 2 * ((n : Int) % 2)]) (hs.blk (b := b19) (by repeat constructor)) hm3) (by simp only [maxLen, List.length_replicate, List.length_take, List.length_cons, List.length_nil]; omega)
    (refine aA V Z Z (aA V Z Z (aE Z (aA V Z Z (aE Z (aJ V Z Z Z (aE Z ?_)))))))
    refine aK (val := .bool true) V rfl rfl rfl rfl (fun w hs => ?_) ?_; exact fF w 0 w.heap.size (.slice sa l.length sc) l ⟨1 + (n : Int) % 3, (n : Int) % 5, (n : Int) % 5 + (n : Int) / 3 % 6, (n : Int) % 2, (n : Int) % 2 + (n : Int) / 5 % 4, (n : Int) % 3, (n : Int) % 3 + (n : Int) / 7 % 4, 1 + (n : Int) % 2, 1 + (n : Int) / 2 % 2⟩ (gS (t := 32) hs (by repeat constructor) rfl) (by simp only [maxLen]; omega)
    (refine aE Z ?_; (iterate 3 refine aA V Z Z ?_); refine aE Z (aA V Z Z (aE Z (aJ V Z Z Z (aE Z (aA V Z Z (aE Z (aA V Z Z (aE Z (dD Z Z Z (by omega) (by omega) (aE Z (bA V Z Z Z Z (by omega) (by omega) ?_))))))))))); refine aE Z (aA V Z Z (aE Z (dD Z Z Z (by omega) (by omega) (aE Z ?_)))))
    refine aK (val := .bool true) V rfl rfl rfl rfl (fun w hs => ?_) ?_; exact eW w 0 w.heap.size 0 w.heap.size (.slice sa l.length sc) (.slice (some ⟨b19, 0, none⟩) m 3) l ⟨1 + (n : Int) % 3, (n : Int) % 5, (n : Int) % 5 + (n : Int) / 3 % 6, (n : Int) % 2, (n : Int) % 2 + (n : Int) / 5 % 4, (n : Int) % 3, (n : Int) % 3 + (n : Int) / 7 % 4, 1 + (n : Int) % 2, 1 + (n : Int) / 2 % 2⟩ ([0, (n : Int) % 3, 2 * ((n : Int) % 2)].take m) (1 + (n : Int) % 200) ((n : Int) % 20) (gS (t := 32) hs (by repeat constructor) rfl) (by simp only [maxLen]; omega) (ints_rdT (l := [0, (n : Int) % 3, 2 * ((n : Int) % 2)]) (hs.blk (b := b19) (by repeat constructor)) hm3) (by simp only [maxLen, List.length_replicate, List.length_take, List.length_cons, List.length_nil]; omega)
    (refine aE Z (aA V Z Z (aA V Z Z (aF (aH Z (aM (aD (aB (aA V Z Z (dD Z Z Z (by omega) (by omega) (aA V Z Z (fS Z Z Z (by omega) (by omega) (by omega) ?_))))))))))); refine dD Z Z Z (by omega) (by omega) (bA V Z Z Z Z (by omega) (by omega) ?_))
    refine dJ #[.int .i64 ((n : Int) % 4), .int .i64 (4 + (n : Int) / 4 % 3), .slice none 0 0] rfl (by kernel_rfl) rfl ?_
    skip
    refine bI dQ rfl (fun b20 => ?_)
    (refine bS V Z Z Z Z Z (by repeat constructor) rfl ?_; refine aF (aD (aB ?_)))
    refine bI dR rfl (fun b21 => ?_)
    (refine aF (aD (aD (aB (aA V Z Z (fS Z Z Z (by omega) (by omega) (by omega) (dD Z Z Z (by omega) (by omega) (bA V Z Z Z Z (by omega) (by omega) (aA V Z Z (aF (aQ ?_)))))))))))
    refine eD (H' := [.pt b20 [.int .i64 ((n : Int) % 4), .int .i64 (4 + (n : Int) / 4 % 3), .slice none 0 0] 39, .ow (.slice none 0 0) 46 6 0 (dyC []), .pt b21 [.slice none 0 0, .slice none 0 0, .slice none 0 0] 44, .ow (.slice none 0 0) 3 1 0 (aP []), .ow (.slice none 0 0) 3 1 0 (aP []), .ow (.slice none 0 0) 3 1 0 (aP [])])
     (fun w' hs => (Sat.ownil (Sat.ownil (Sat.ownil (Sat.ownil hs 3 1) 3 1) 3 1) 46 6).sp (by repeat constructor)) ?_
    refine cB (σ := Nat × (Value × Value × Value × Value) × List Dy × List Int × List Int × List Int) (fun q => q.1 ≤ 4 ∧ q.1 = q.2.2.1.length ∧ q.1 = q.2.2.2.1.length ∧ q.1 = q.2.2.2.2.1.length ∧ q.1 = q.2.2.2.2.2.length) (fun q => 4 - q.1)
     (fun q => [(207, .int .i64 n), (15, .int .i64 n), (20, .pointer (some ⟨b20, 0, none⟩)), (21, .pointer (some ⟨b21, 0, none⟩)), (318, .int .i64 (1 + (n : Int) / 5 % 4)), (319, .int .i64 q.1)])
     (fun q => [.pt b20 [.int .i64 ((n : Int) % 4), .int .i64 (4 + (n : Int) / 4 % 3), q.2.1.1] 39, .ow q.2.1.1 46 6 q.1 (dyC q.2.2.1), .pt b21 [q.2.1.2.1, q.2.1.2.2.1, q.2.1.2.2.2] 44, .ow q.2.1.2.1 3 1 q.1 (aP q.2.2.2.1), .ow q.2.1.2.2.1 3 1 q.1 (aP q.2.2.2.2.1), .ow q.2.1.2.2.2 3 1 q.1 (aP q.2.2.2.2.2)])
     (0, (.slice none 0 0, .slice none 0 0, .slice none 0 0, .slice none 0 0), [], [], [], []) ⟨by decide, rfl, rfl, rfl, rfl⟩ ⟨rfl, rfl, rfl, rfl, rfl, rfl, trivial⟩ (by repeat constructor) ?_
    rintro ⟨i, ⟨v, v1, v2, v3⟩, D, A, B, C⟩ ⟨hi, hD, hA, hB, hC⟩ K3 hK3
    dsimp only at hi hD hA hB hC ⊢
    (refine aD (aB (aA V Z Z (aF (aD ?_)))))
    refine dL Z (fun hc => ?_) (fun hc => ?_)
    ·have hi2 : i < 4 := by omega
     clear hc
     have d2 := quo_bd n i 2 (by decide)
     have d3 := quo_bd n i 3 (by decide)
     have d4 := quo_bd n i 4 (by decide)
     have d6 := quo_bd n i 6 (by decide)
     have d7 := quo_bd n i 7 (by decide)
     (refine aM (aD (aQ (aD (aB (aA V Z Z (aA V Z Z (aF (aD ?_)))))))))
     have hDB : DB ⟨(n : Int) / ((i : Int) + 2) % 4, (n : Int) / ((i : Int) + 2) % 4 + (n : Int) / ((i : Int) + 7) % 3, (n : Int) / ((i : Int) + 3) % 4, (n : Int) / ((i : Int) + 3) % 4 + (n : Int) % 2, (n : Int) / ((i : Int) + 4) % 2, (n : Int) / ((i : Int) + 4) % 2 + (n : Int) / ((i : Int) + 6) % 2⟩ := by simp only [DB]; omega
     refine jP (σ := Nat × {d : Dy // DB d}) (fun y => [(207, .int .i64 n), (15, .int .i64 n), (20, .pointer (some ⟨b20, 0, none⟩)), (21, .pointer (some ⟨b21, 0, none⟩)), (318, .int .i64 (1 + (n : Int) / 5 % 4)), (319, .int .i64 i), (23, .pointer (some ⟨y.1, 0, none⟩))])
      (fun y => [.pt y.1 (dyC [y.2.1]) 46, .pt b20 [.int .i64 ((n : Int) % 4), .int .i64 (4 + (n : Int) / 4 % 3), v] 39, .ow v 46 6 i (dyC D), .pt b21 [v1, v2, v3] 44, .ow v1 3 1 i (aP A), .ow v2 3 1 i (aP B), .ow v3 3 1 i (aP C)]) ?_ (fun K4 hK4 => ?_)
     rotate_left
     ·skip
      refine iN (.alt (aC [0, 1, 2, 3, 4, 5, 6, 7, 8, 9, 10, 11, 12, 13, 14, 15, 16] (.alt (aC [17, 18, 19, 20, 21, 22, 23, 24, 25, 26, 27, 28, 29, 30] (.alt (aC [31, 32, 33, 34, 35, 36, 37, 38, 39, 40, 41, 42, 43, 44, 45, 46, 47, 49, 48, 50] (.nil)) (aC [49, 31, 32, 33, 34, 35, 36, 37, 38, 39, 40, 41, 42, 43, 44, 45, 46, 47, 48, 50] (.nil)))) (aC [49, 17, 18, 19, 20, 21, 22, 23, 24, 25, 26, 27, 28, 29, 30, 31, 32, 33, 34, 35, 36, 37, 38, 39, 40, 41, 42, 43, 44, 45, 46, 47, 48, 50] (.nil)))) (aC [49, 0, 1, 2, 3, 4, 5, 6, 7, 8, 9, 10, 11, 12, 13, 14, 15, 16, 17, 18, 19, 20, 21, 22, 23, 24, 25, 26, 27, 28, 29, 30, 31, 32, 33, 34, 35, 36, 37, 38, 39, 40, 41, 42, 43, 44, 45, 46, 47, 48, 50] (.nil))) _ [] (Sp.refl _) (by kernel_rfl) (by kernel_rfl) ?_
      refine bM ?_ ?_
      ·skip
       refine aY (by repeat (first | exact PickL.nil | (apply PickL.cons; rfl))) fun K1 hK1 => ?_
       (refine aG V Z Z Z (aG V Z Z Z (dA V Z Z Z Z (by omega) (by omega) (dC Z Z Z (by omega) (by omega) (by omega) (cN Z Z Z (by omega) (by omega) (aG V Z Z Z (aG V Z Z Z (dA V Z Z Z Z (by omega) (by omega) (dC Z Z Z (by omega) (by omega) (by omega) (cN Z Z Z (by omega) (by omega) (aG V Z Z Z (aG V Z Z Z ?_))))))))))); refine dA V Z Z Z Z (by omega) (by omega) (dC Z Z Z (by omega) (by omega) (by omega) (cN Z Z Z (by omega) (by omega) (dA V Z Z Z Z (by omega) (by omega) ?_))))
       refine bT V Z Z Z Z (fun w hs => cG _ _ w) ?_
       (refine aO ?_)
       refine hK1 _ _ ?_
       refine bM ?_ ?_
       ·skip
        refine aY (by repeat (first | exact PickL.nil | (apply PickL.cons; rfl))) fun K1 hK1 => ?_
        (refine aG V Z Z Z (aG V Z Z Z (dA V Z Z Z Z (by omega) (by omega) (dC Z Z Z (by omega) (by omega) (by omega) (cN Z Z Z (by omega) (by omega) (aG V Z Z Z (aG V Z Z Z (dA V Z Z Z Z (by omega) (by omega) (dC Z Z Z (by omega) (by omega) (by omega) (cN Z Z Z (by omega) (by omega) (aG V Z Z Z (cN Z Z Z (by omega) (by omega) ?_))))))))))); refine dA V Z Z Z Z (by omega) (by omega) ?_)
        refine bT V Z Z Z Z (fun w hs => cG _ _ w) ?_
        (refine aO ?_)
        refine hK1 _ _ ?_
        refine bM ?_ ?_
        ·skip
         refine aY (by repeat (first | exact PickL.nil | (apply PickL.cons; rfl))) fun K1 hK1 => ?_
         (refine aG V Z Z Z (aG V Z Z Z (dA V Z Z Z Z (by omega) (by omega) (dC Z Z Z (by omega) (by omega) (by omega) (cN Z Z Z (by omega) (by omega) (aG V Z Z Z (aG V Z Z Z (dA V Z Z Z Z (by omega) (by omega) (dC Z Z Z (by omega) (by omega) (by omega) (cN Z Z Z (by omega) (by omega) (aG V Z Z Z (aG V Z Z Z ?_))))))))))); refine dA V Z Z Z Z (by omega) (by omega) (dC Z Z Z (by omega) (by omega) (by omega) (cN Z Z Z (by omega) (by omega) (dA V Z Z Z Z (by omega) (by omega) ?_))))
         refine bT V Z Z Z Z (fun w hs => cG _ _ w) ?_
         skip
         refine bC zero46 rfl (fun b23 => ?_)
         skip
         refine qf_mk #[.int .i64 ((n : Int) / ((i : Int) + 2) % 4), .int .i64 ((n : Int) / ((i : Int) + 2) % 4 + (n : Int) / ((i : Int) + 7) % 3), .int .i64 ((n : Int) / ((i : Int) + 3) % 4), .int .i64 ((n : Int) / ((i : Int) + 3) % 4 + (n : Int) % 2), .int .i64 ((n : Int) / ((i : Int) + 4) % 2), .int .i64 ((n : Int) / ((i : Int) + 4) % 2 + (n : Int) / ((i : Int) + 6) % 2)] rfl (by kernel_rfl) rfl ?_
         (refine cZ V Z Z Z Z Z (by repeat constructor) rfl ?_; refine aO ?_)
         exact hK1 _ _ (dO (hK4 ⟨b23, ⟨(n : Int) / ((i : Int) + 2) % 4, (n : Int) / ((i : Int) + 2) % 4 + (n : Int) / ((i : Int) + 7) % 3, (n : Int) / ((i : Int) + 3) % 4, (n : Int) / ((i : Int) + 3) % 4 + (n : Int) % 2, (n : Int) / ((i : Int) + 4) % 2, (n : Int) / ((i : Int) + 4) % 2 + (n : Int) / ((i : Int) + 6) % 2⟩, hDB⟩ _ _ ⟨rfl, rfl, rfl, rfl, rfl, rfl, rfl, trivial⟩ (by repeat constructor)))
        ·skip
         refine aY (by repeat (first | exact PickL.nil | (apply PickL.cons; rfl))) fun K1 hK1 => ?_
         skip
         refine bC zero46 rfl (fun b23 => ?_)
         (refine aG V Z Z Z (aG V Z Z Z (dA V Z Z Z Z (by omega) (by omega) (dC Z Z Z (by omega) (by omega) (by omega) (cN Z Z Z (by omega) (by omega) (aG V Z Z Z (aG V Z Z Z (dA V Z Z Z Z (by omega) (by omega) (dC Z Z Z (by omega) (by omega) (by omega) (cN Z Z Z (by omega) (by omega) (aG V Z Z Z (aG V Z Z Z ?_))))))))))); refine dA V Z Z Z Z (by omega) (by omega) (dC Z Z Z (by omega) (by omega) (by omega) (cN Z Z Z (by omega) (by omega) (dA V Z Z Z Z (by omega) (by omega) ?_))))
         refine bT V Z Z Z Z (fun w hs => cG _ _ w) ?_
         skip
         refine qf_mk #[.int .i64 ((n : Int) / ((i : Int) + 2) % 4), .int .i64 ((n : Int) / ((i : Int) + 2) % 4 + (n : Int) / ((i : Int) + 7) % 3), .int .i64 ((n : Int) / ((i : Int) + 3) % 4), .int .i64 ((n : Int) / ((i : Int) + 3) % 4 + (n : Int) % 2), .int .i64 ((n : Int) / ((i : Int) + 4) % 2), .int .i64 ((n : Int) / ((i : Int) + 4) % 2 + (n : Int) / ((i : Int) + 6) % 2)] rfl (by kernel_rfl) rfl ?_
         (refine cZ V Z Z Z Z Z (by repeat constructor) rfl ?_; refine aO ?_)
         exact hK1 _ _ (dO (hK4 ⟨b23, ⟨(n : Int) / ((i : Int) + 2) % 4, (n : Int) / ((i : Int) + 2) % 4 + (n : Int) / ((i : Int) + 7) % 3, (n : Int) / ((i : Int) + 3) % 4, (n : Int) / ((i : Int) + 3) % 4 + (n : Int) % 2, (n : Int) / ((i : Int) + 4) % 2, (n : Int) / ((i : Int) + 4) % 2 + (n : Int) / ((i : Int) + 6) % 2⟩, hDB⟩ _ _ ⟨rfl, rfl, rfl, rfl, rfl, rfl, rfl, trivial⟩ (by repeat constructor)))
       ·skip
        refine aY (by repeat (first | exact PickL.nil | (apply PickL.cons; rfl))) fun K1 hK1 => ?_
        skip
        refine bC zero46 rfl (fun b23 => ?_)
        (refine aG V Z Z Z (aG V Z Z Z (dA V Z Z Z Z (by omega) (by omega) (dC Z Z Z (by omega) (by omega) (by omega) (cN Z Z Z (by omega) (by omega) (aG V Z Z Z (aG V Z Z Z (dA V Z Z Z Z (by omega) (by omega) (dC Z Z Z (by omega) (by omega) (by omega) (cN Z Z Z (by omega) (by omega) (aG V Z Z Z (cN Z Z Z (by omega) (by omega) ?_))))))))))); refine dA V Z Z Z Z (by omega) (by omega) ?_)
        refine bT V Z Z Z Z (fun w hs => cG _ _ w) ?_
        (refine aG V Z Z Z (aG V Z Z Z (dA V Z Z Z Z (by omega) (by omega) (dC Z Z Z (by omega) (by omega) (by omega) (cN Z Z Z (by omega) (by omega) (aG V Z Z Z (aG V Z Z Z (dA V Z Z Z Z (by omega) (by omega) (dC Z Z Z (by omega) (by omega) (by omega) (cN Z Z Z (by omega) (by omega) (aG V Z Z Z (aG V Z Z Z ?_))))))))))); refine dA V Z Z Z Z (by omega) (by omega) (dC Z Z Z (by omega) (by omega) (by omega) (cN Z Z Z (by omega) (by omega) (dA V Z Z Z Z (by omega) (by omega) ?_))))
        refine bT V Z Z Z Z (fun w hs => cG _ _ w) ?_
        skip
        refine qf_mk #[.int .i64 ((n : Int) / ((i : Int) + 2) % 4), .int .i64 ((n : Int) / ((i : Int) + 2) % 4 + (n : Int) / ((i : Int) + 7) % 3), .int .i64 ((n : Int) / ((i : Int) + 3) % 4), .int .i64 ((n : Int) / ((i : Int) + 3) % 4 + (n : Int) % 2), .int .i64 ((n : Int) / ((i : Int) + 4) % 2), .int .i64 ((n : Int) / ((i : Int) + 4) % 2 + (n : Int) / ((i : Int) + 6) % 2)] rfl (by kernel_rfl) rfl ?_
        (refine cZ V Z Z Z Z Z (by repeat constructor) rfl ?_; refine aO ?_)
        exact hK1 _ _ (dO (hK4 ⟨b23, ⟨(n : Int) / ((i : Int) + 2) % 4, (n : Int) / ((i : Int) + 2) % 4 + (n : Int) / ((i : Int) + 7) % 3, (n : Int) / ((i : Int) + 3) % 4, (n : Int) / ((i : Int) + 3) % 4 + (n : Int) % 2, (n : Int) / ((i : Int) + 4) % 2, (n : Int) / ((i : Int) + 4) % 2 + (n : Int) / ((i : Int) + 6) % 2⟩, hDB⟩ _ _ ⟨rfl, rfl, rfl, rfl, rfl, rfl, rfl, trivial⟩ (by repeat constructor)))
      ·skip
       refine aY (by repeat (first | exact PickL.nil | (apply PickL.cons; rfl))) fun K1 hK1 => ?_
       skip
       refine bC zero46 rfl (fun b23 => ?_)
       (refine aG V Z Z Z (aG V Z Z Z (dA V Z Z Z Z (by omega) (by omega) (dC Z Z Z (by omega) (by omega) (by omega) (cN Z Z Z (by omega) (by omega) (aG V Z Z Z (aG V Z Z Z (dA V Z Z Z Z (by omega) (by omega) (dC Z Z Z (by omega) (by omega) (by omega) (cN Z Z Z (by omega) (by omega) (aG V Z Z Z (aG V Z Z Z ?_))))))))))); refine dA V Z Z Z Z (by omega) (by omega) (dC Z Z Z (by omega) (by omega) (by omega) (cN Z Z Z (by omega) (by omega) (dA V Z Z Z Z (by omega) (by omega) ?_))))
       refine bT V Z Z Z Z (fun w hs => cG _ _ w) ?_
       (refine aG V Z Z Z (aG V Z Z Z (dA V Z Z Z Z (by omega) (by omega) (dC Z Z Z (by omega) (by omega) (by omega) (cN Z Z Z (by omega) (by omega) (aG V Z Z Z (aG V Z Z Z (dA V Z Z Z Z (by omega) (by omega) (dC Z Z Z (by omega) (by omega) (by omega) (cN Z Z Z (by omega) (by omega) (aG V Z Z Z (cN Z Z Z (by omega) (by omega) ?_))))))))))); refine dA V Z Z Z Z (by omega) (by omega) ?_)
       refine bT V Z Z Z Z (fun w hs => cG _ _ w) ?_
       (refine aG V Z Z Z (aG V Z Z Z (dA V Z Z Z Z (by omega) (by omega) (dC Z Z Z (by omega) (by omega) (by omega) (cN Z Z Z (by omega) (by omega) (aG V Z Z Z (aG V Z Z Z (dA V Z Z Z Z (by omega) (by omega) (dC Z Z Z (by omega) (by omega) (by omega) (cN Z Z Z (by omega) (by omega) (aG V Z Z Z (aG V Z Z Z ?_))))))))))); refine dA V Z Z Z Z (by omega) (by omega) (dC Z Z Z (by omega) (by omega) (by omega) (cN Z Z Z (by omega) (by omega) (dA V Z Z Z Z (by omega) (by omega) ?_))))
       refine bT V Z Z Z Z (fun w hs => cG _ _ w) ?_
       skip
       refine qf_mk #[.int .i64 ((n : Int) / ((i : Int) + 2) % 4), .int .i64 ((n : Int) / ((i : Int) + 2) % 4 + (n : Int) / ((i : Int) + 7) % 3), .int .i64 ((n : Int) / ((i : Int) + 3) % 4), .int .i64 ((n : Int) / ((i : Int) + 3) % 4 + (n : Int) % 2), .int .i64 ((n : Int) / ((i : Int) + 4) % 2), .int .i64 ((n : Int) / ((i : Int) + 4) % 2 + (n : Int) / ((i : Int) + 6) % 2)] rfl (by kernel_rfl) rfl ?_
       (refine cZ V Z Z Z Z Z (by repeat constructor) rfl ?_; refine aO ?_)
       exact hK1 _ _ (dO (hK4 ⟨b23, ⟨(n : Int) / ((i : Int) + 2) % 4, (n : Int) / ((i : Int) + 2) % 4 + (n : Int) / ((i : Int) + 7) % 3, (n : Int) / ((i : Int) + 3) % 4, (n : Int) / ((i : Int) + 3) % 4 + (n : Int) % 2, (n : Int) / ((i : Int) + 4) % 2, (n : Int) / ((i : Int) + 4) % 2 + (n : Int) / ((i : Int) + 6) % 2⟩, hDB⟩ _ _ ⟨rfl, rfl, rfl, rfl, rfl, rfl, rfl, trivial⟩ (by repeat constructor)))
     rintro ⟨b23, ⟨⟨n0, n1, m0, m1, l0, l1⟩, hB2⟩⟩
     dsimp only
     simp only [DB] at hB2
     have hmul : 0 ≤ (n : Int) % 2 * (l1 - l0) ∧ (n : Int) % 2 * (l1 - l0) ≤ 1 := ⟨Int.mul_nonneg (by omega) (by omega), by have := Int.mul_le_mul (a := (n : Int) % 2) (b := l1 - l0) (c := 1) (d := 1) (by omega) (by omega) (by omega) (by omega); omega⟩
     rw [show dyC [(⟨n0, n1, m0, m1, l0, l1⟩ : Dy)] = [.int .i64 n0, .int .i64 n1, .int .i64 m0, .int .i64 m1, .int .i64 l0, .int .i64 l1] from rfl]
     (refine aD (aB (aA V Z Z (aI V Z Z Z (aJ V Z Z Z ?_)))))
     refine cJ 46 (dyC [⟨n0, n1, m0, m1, l0, l1⟩]) rfl (by kernel_rfl) rfl (fun bn => ?_)
     refine bZ (q := 1) slD rfl rfl rfl (fun v' => by repeat constructor) (fun w' hs => ⟨_, _, Blk.rdDy (hs.blk (b := bn) (by repeat constructor))⟩) (dyC_one _) (by omega) (by omega) (fun u => ?_)
     refine bL (fun w hs => hs.slice (v := u) (by repeat constructor)) ?_
     rintro ⟨a1, g1, c1, rfl⟩
     (refine aA V Z Z ?_; refine ql_st2 V Z Z Z Z (by repeat constructor) ?_; refine aF ?_)
     refine q_drawX (.alt (aC [2, 3, 4, 5] (.alt (aC [0, 1, 6] (.alt (aC [9, 10, 11, 12] (.alt (aC [7, 8, 13] (aC [16, 17, 18, 19, 20, 21, 22, 23, 24, 25, 26, 27, 28, 29, 30] (aC [14, 15, 31] (aC [32, 33, 34, 35, 36, 37] .nil)))) (aC [16, 17, 18, 19, 20, 21, 22, 23, 24, 25, 26, 27, 28, 29, 30] (aC [7, 8, 13] (aC [14, 15, 31] (aC [32, 33, 34, 35, 36, 37] .nil)))))) (aC [16, 17, 18, 19, 20, 21, 22, 23, 24, 25, 26, 27, 28, 29, 30] (aC [9, 10, 11, 12] (aC [7, 8, 13] (aC [14, 15, 31] (aC [32, 33, 34, 35, 36, 37] .nil))))))) (.alt (aC [9, 10, 11, 12] (.alt (aC [0, 1, 6] (.alt (aC [7, 8, 13] (aC [16, 17, 18, 19, 20, 21, 22, 23, 24, 25, 26, 27, 28, 29, 30] (aC [14, 15, 31] (aC [32, 33, 34, 35, 36, 37] .nil)))) (aC [16, 17, 18, 19, 20, 21, 22, 23, 24, 25, 26, 27, 28, 29, 30] (aC [7, 8, 13] (aC [14, 15, 31] (aC [32, 33, 34, 35, 36, 37] .nil)))))) (aC [16, 17, 18, 19, 20, 21, 22, 23, 24, 25, 26, 27, 28, 29, 30] (aC [0, 1, 6] (aC [7, 8, 13] (aC [14, 15, 31] (aC [32, 33, 34, 35, 36, 37] .nil))))))) (aC [16, 17, 18, 19, 20, 21, 22, 23, 24, 25, 26, 27, 28, 29, 30] (.alt (aC [0, 1, 6] (aC [9, 10, 11, 12] (aC [7, 8, 13] (aC [14, 15, 31] (aC [32, 33, 34, 35, 36, 37] .nil))))) (aC [9, 10, 11, 12] (aC [0, 1, 6] (aC [7, 8, 13] (aC [14, 15, 31] (aC [32, 33, 34, 35, 36, 37] .nil)))))))))) (.alt (aC [9, 10, 11, 12] (.alt (aC [2, 3, 4, 5] (.alt (aC [0, 1, 6] (.alt (aC [7, 8, 13] (aC [16, 17, 18, 19, 20, 21, 22, 23, 24, 25, 26, 27, 28, 29, 30] (aC [14, 15, 31] (aC [32, 33, 34, 35, 36, 37] .nil)))) (aC [16, 17, 18, 19, 20, 21, 22, 23, 24, 25, 26, 27, 28, 29, 30] (aC [7, 8, 13] (aC [14, 15, 31] (aC [32, 33, 34, 35, 36, 37] .nil)))))) (aC [16, 17, 18, 19, 20, 21, 22, 23, 24, 25, 26, 27, 28, 29, 30] (aC [0, 1, 6] (aC [7, 8, 13] (aC [14, 15, 31] (aC [32, 33, 34, 35, 36, 37] .nil))))))) (aC [16, 17, 18, 19, 20, 21, 22, 23, 24, 25, 26, 27, 28, 29, 30] (aC [2, 3, 4, 5] (aC [0, 1, 6] (aC [7, 8, 13] (aC [14, 15, 31] (aC [32, 33, 34, 35, 36, 37] .nil)))))))) (aC [16, 17, 18, 19, 20, 21, 22, 23, 24, 25, 26, 27, 28, 29, 30] (.alt (aC [2, 3, 4, 5] (.alt (aC [0, 1, 6] (aC [9, 10, 11, 12] (aC [7, 8, 13] (aC [14, 15, 31] (aC [32, 33, 34, 35, 36, 37] .nil))))) (aC [9, 10, 11, 12] (aC [0, 1, 6] (aC [7, 8, 13] (aC [14, 15, 31] (aC [32, 33, 34, 35, 36, 37] .nil))))))) (aC [9, 10, 11, 12] (aC [2, 3, 4, 5] (aC [0, 1, 6] (aC [7, 8, 13] (aC [14, 15, 31] (aC [32, 33, 34, 35, 36, 37] .nil)))))))))) [true, true, true, true, true, true, true, true, true, true, true, true, true, true, true, true, true, true, true, true, true, true, true, true, true, true, true, true, true, true, true, true, false, false, false, false, false, false] [.pt b21 [v1, v2, v3] 44, .pt b23 [.int .i64 n0, .int .i64 n1, .int .i64 m0, .int .i64 m1, .int .i64 l0, .int .i64 l1] 46, .pt b20 [.int .i64 ((n : Int) % 4), .int .i64 (4 + (n : Int) / 4 % 3), .slice a1 g1 c1] 39, .ow (.slice a1 g1 c1) 46 6 (i + 1) (dyC D ++ dyC [⟨n0, n1, m0, m1, l0, l1⟩])] [.ow v1 3 1 i (aP A), .ow v2 3 1 i (aP B), .ow v3 3 1 i (aP C)] [.pt b23 [.int .i64 n0, .int .i64 n1, .int .i64 m0, .int .i64 m1, .int .i64 l0, .int .i64 l1] 46, .pt b20 [.int .i64 ((n : Int) % 4), .int .i64 (4 + (n : Int) / 4 % 3), .slice a1 g1 c1] 39, .ow (.slice a1 g1 c1) 46 6 (i + 1) (dyC D ++ dyC [⟨n0, n1, m0, m1, l0, l1⟩])] [.pt b21 [v1, v2, v3] 44] (by repeat constructor) (by repeat constructor) (by kernel_rfl) (by kernel_rfl) (by kernel_rfl) ?_
     refine dV (σ := Nat × Value × Nat × Value × Nat × Value × Unit) (aC [32, 33, 34, 35, 36, 37] .nil) (fun ⟨lt0, ap0, lt1, ap1, lt2, ap2, ()⟩ => [(207, .int .i64 n), (15, .int .i64 n), (20, .pointer (some ⟨b20, 0, none⟩)), (21, .pointer (some ⟨b21, 0, none⟩)), (318, .int .i64 (1 + (n : Int) / 5 % 4)), (319, .int .i64 i), (23, .pointer (some ⟨b23, 0, none⟩)), (383, ap0), (390, ap1), (408, ap2)]) (fun ⟨lt0, ap0, lt1, ap1, lt2, ap2, ()⟩ => [.ow ap0 3 1 (i + 1) (aP A ++ [.int .i64 n0]), .ow ap1 3 1 (i + 1) (aP B ++ [.int .i64 m1]), .ow ap2 3 1 (i + 1) (aP C ++ [.int .i64 (l0 + (n : Int) % 2 * (l1 - l0))]), .pt b21 [v1, v2, v3] 44, .pt b23 [.int .i64 n0, .int .i64 n1, .int .i64 m0, .int .i64 m1, .int .i64 l0, .int .i64 l1] 46, .pt b20 [.int .i64 ((n : Int) % 4), .int .i64 (4 + (n : Int) / 4 % 3), .slice a1 g1 c1] 39, .ow (.slice a1 g1 c1) 46 6 (i + 1) (dyC D ++ dyC [⟨n0, n1, m0, m1, l0, l1⟩])]) ?_ (fun hS5_6_12_13_30_31 => ?_)
     ·rintro ⟨lt0, ap0, lt1, ap1, lt2, ap2, _⟩
      refine qx_F [.ow ap0 3 1 (i + 1) (aP A ++ [.int .i64 n0]), .ow ap1 3 1 (i + 1) (aP B ++ [.int .i64 m1]), .ow ap2 3 1 (i + 1) (aP C ++ [.int .i64 (l0 + (n : Int) % 2 * (l1 - l0))]), .pt b21 [v1, v2, v3] 44] (by repeat (first | exact PickL.nil | (apply PickL.cons; rfl))) rfl (by repeat constructor) fun K1 hK1 => ?_
      refine bX (fun w hs => hs.slice (v := ap0) (by repeat constructor)) ?_
      rintro ⟨w0, g5, d0, rfl⟩
      refine bX (fun w hs => hs.slice (v := ap1) (by repeat constructor)) ?_
      rintro ⟨w1, g6, d1, rfl⟩
      refine bX (fun w hs => hs.slice (v := ap2) (by repeat constructor)) ?_
      rintro ⟨w2, g7, d2, rfl⟩
      (refine aG V Z Z Z ?_; refine qf_st0 V Z Z Z Z (by repeat constructor) ?_; refine aG V Z Z Z ?_; refine qf_st1 V Z Z Z Z (by repeat constructor) ?_; refine aG V Z Z Z ?_; refine qf_st2 V Z Z Z Z (by repeat constructor) ?_; refine aO ?_)
      refine hK1 _ _ (qx_nil ?_)
      (refine bJ (aB (bA V Z Z Z Z (by omega) (by omega) (aA V Z Z (aF ?_)))))
      exact hK3 (i + 1, (.slice a1 g1 c1, .slice w0 g5 d0, .slice w1 g6 d1, .slice w2 g7 d2), D ++ [⟨n0, n1, m0, m1, l0, l1⟩], A ++ [n0], B ++ [m1], C ++ [l0 + (n : Int) % 2 * (l1 - l0)]) _ _ ⟨by simp only; omega, by simp [← hD], by simp [← hA], by simp [← hB], by simp [← hC]⟩ (by simp only; omega) ⟨rfl, rfl, rfl, rfl, rfl, rfl, trivial⟩ (by dsimp only; rw [dyC_snoc, ints_snoc, ints_snoc, ints_snoc]; repeat constructor)
     refine dV (σ := Nat × Value × Nat × Value × Nat × Unit) (aC [14, 15, 31] (aC [32, 33, 34, 35, 36, 37] .nil)) (fun ⟨lt0, ap0, lt1, ap1, lt2, ()⟩ => [(207, .int .i64 n), (15, .int .i64 n), (20, .pointer (some ⟨b20, 0, none⟩)), (21, .pointer (some ⟨b21, 0, none⟩)), (318, .int .i64 (1 + (n : Int) / 5 % 4)), (319, .int .i64 i), (23, .pointer (some ⟨b23, 0, none⟩)), (383, ap0), (390, ap1), (407, .slice (some ⟨lt2, 0, none⟩) 1 1)]) (fun ⟨lt0, ap0, lt1, ap1, lt2, ()⟩ => [.ow ap0 3 1 (i + 1) (aP A ++ [.int .i64 n0]), .ow ap1 3 1 (i + 1) (aP B ++ [.int .i64 m1]), .ow v3 3 1 i (aP C), .pt lt2 [.int .i64 (l0 + (n : Int) % 2 * (l1 - l0))] 3, .pt b21 [v1, v2, v3] 44, .pt b23 [.int .i64 n0, .int .i64 n1, .int .i64 m0, .int .i64 m1, .int .i64 l0, .int .i64 l1] 46, .pt b20 [.int .i64 ((n : Int) % 4), .int .i64 (4 + (n : Int) / 4 % 3), .slice a1 g1 c1] 39, .ow (.slice a1 g1 c1) 46 6 (i + 1) (dyC D ++ dyC [⟨n0, n1, m0, m1, l0, l1⟩])]) ?_ (fun hS5_6_12_13_30 => ?_)
     ·rintro ⟨lt0, ap0, lt1, ap1, lt2, _⟩
      refine fU [.ow ap0 3 1 (i + 1) (aP A ++ [.int .i64 n0]), .ow ap1 3 1 (i + 1) (aP B ++ [.int .i64 m1]), .ow v3 3 1 i (aP C), .pt lt2 [.int .i64 (l0 + (n : Int) % 2 * (l1 - l0))] 3] (by repeat (first | exact PickL.nil | (apply PickL.cons; rfl))) rfl (by repeat constructor) fun K1 hK1 => ?_
      (refine aG V Z Z Z (aN V Z Z Z ?_))
      refine bQ (q := 1) slI rfl rfl rfl (fun v' => by repeat constructor) (fun w' hs => ⟨_, _, Blk.rd (hs.blk (b := lt2) (by repeat constructor)) rfl 1⟩) (by simp [cU]) (by omega) (by omega) (fun ap2 => ?_)
      (refine aO ?_)
      exact hK1 _ _ (hS5_6_12_13_30_31 ⟨lt0, ap0, lt1, ap1, lt2, ap2, ()⟩ _ _ ⟨rfl, rfl, rfl, rfl, rfl, rfl, rfl, rfl, rfl, rfl, trivial⟩ (by repeat constructor))
     refine dV (σ := Nat × Value × Nat × Value × Unit) (aC [16, 17, 18, 19, 20, 21, 22, 23, 24, 25, 26, 27, 28, 29, 30] (aC [14, 15, 31] (aC [32, 33, 34, 35, 36, 37] .nil))) (fun ⟨lt0, ap0, lt1, ap1, ()⟩ => [(207, .int .i64 n), (15, .int .i64 n), (20, .pointer (some ⟨b20, 0, none⟩)), (21, .pointer (some ⟨b21, 0, none⟩)), (318, .int .i64 (1 + (n : Int) / 5 % 4)), (319, .int .i64 i), (23, .pointer (some ⟨b23, 0, none⟩)), (383, ap0), (390, ap1)]) (fun ⟨lt0, ap0, lt1, ap1, ()⟩ => [.ow ap0 3 1 (i + 1) (aP A ++ [.int .i64 n0]), .ow ap1 3 1 (i + 1) (aP B ++ [.int .i64 m1]), .ow v3 3 1 i (aP C), .pt b21 [v1, v2, v3] 44, .pt b23 [.int .i64 n0, .int .i64 n1, .int .i64 m0, .int .i64 m1, .int .i64 l0, .int .i64 l1] 46, .pt b20 [.int .i64 ((n : Int) % 4), .int .i64 (4 + (n : Int) / 4 % 3), .slice a1 g1 c1] 39, .ow (.slice a1 g1 c1) 46 6 (i + 1) (dyC D ++ dyC [⟨n0, n1, m0, m1, l0, l1⟩])]) ?_ (fun hS5_6_12_13 => ?_)
     ·rintro ⟨lt0, ap0, lt1, ap1, _⟩
      refine fU [.ow ap0 3 1 (i + 1) (aP A ++ [.int .i64 n0]), .ow ap1 3 1 (i + 1) (aP B ++ [.int .i64 m1]), .ow v3 3 1 i (aP C)] (by repeat (first | exact PickL.nil | (apply PickL.cons; rfl))) rfl (by repeat constructor) fun K1 hK1 => ?_
      (refine aG V Z Z Z (aG V Z Z Z (aN V Z Z Z (aG V Z Z Z (cN Z Z Z (by omega) (by omega) (aG V Z Z Z (aG V Z Z Z (aN V Z Z Z (aG V Z Z Z (aG V Z Z Z (aN V Z Z Z ?_)))))))))); (iterate 3 refine dA V Z Z Z Z (by omega) (by omega) ?_))
      refine bK 3 [.int .i64 (l0 + (n : Int) % 2 * (l1 - l0))] rfl (by kernel_rfl) rfl (fun lt2 => ?_)
      (refine aO ?_)
      exact hK1 _ _ (hS5_6_12_13_30 ⟨lt0, ap0, lt1, ap1, lt2, ()⟩ _ _ ⟨rfl, rfl, rfl, rfl, rfl, rfl, rfl, rfl, rfl, rfl, trivial⟩ (by repeat constructor))
     refine dV (σ := Nat × Value × Nat × Nat × Unit) (aC [7, 8, 13] (aC [14, 15, 31] (aC [32, 33, 34, 35, 36, 37] .nil))) (fun ⟨lt0, ap0, lt1, lt2, ()⟩ => [(207, .int .i64 n), (15, .int .i64 n), (20, .pointer (some ⟨b20, 0, none⟩)), (21, .pointer (some ⟨b21, 0, none⟩)), (318, .int .i64 (1 + (n : Int) / 5 % 4)), (319, .int .i64 i), (23, .pointer (some ⟨b23, 0, none⟩)), (383, ap0), (389, .slice (some ⟨lt1, 0, none⟩) 1 1), (407, .slice (some ⟨lt2, 0, none⟩) 1 1)]) (fun ⟨lt0, ap0, lt1, lt2, ()⟩ => [.ow ap0 3 1 (i + 1) (aP A ++ [.int .i64 n0]), .ow v2 3 1 i (aP B), .pt lt1 [.int .i64 m1] 3, .ow v3 3 1 i (aP C), .pt lt2 [.int .i64 (l0 + (n : Int) % 2 * (l1 - l0))] 3, .pt b21 [v1, v2, v3] 44, .pt b23 [.int .i64 n0, .int .i64 n1, .int .i64 m0, .int .i64 m1, .int .i64 l0, .int .i64 l1] 46, .pt b20 [.int .i64 ((n : Int) % 4), .int .i64 (4 + (n : Int) / 4 % 3), .slice a1 g1 c1] 39, .ow (.slice a1 g1 c1) 46 6 (i + 1) (dyC D ++ dyC [⟨n0, n1, m0, m1, l0, l1⟩])]) ?_ (fun hS5_6_12_30 => ?_)
     ·rintro ⟨lt0, ap0, lt1, lt2, _⟩
      refine fU [.ow ap0 3 1 (i + 1) (aP A ++ [.int .i64 n0]), .ow v2 3 1 i (aP B), .pt lt1 [.int .i64 m1] 3, .ow v3 3 1 i (aP C), .pt lt2 [.int .i64 (l0 + (n : Int) % 2 * (l1 - l0))] 3] (by repeat (first | exact PickL.nil | (apply PickL.cons; rfl))) rfl (by repeat constructor) fun K1 hK1 => ?_
      (refine aG V Z Z Z (aN V Z Z Z ?_))
      refine bQ (q := 1) slI rfl rfl rfl (fun v' => by repeat constructor) (fun w' hs => ⟨_, _, Blk.rd (hs.blk (b := lt1) (by repeat constructor)) rfl 1⟩) (by simp [cU]) (by omega) (by omega) (fun ap1 => ?_)
      (refine aO ?_)
      exact hK1 _ _ (hS5_6_12_13_30 ⟨lt0, ap0, lt1, ap1, lt2, ()⟩ _ _ ⟨rfl, rfl, rfl, rfl, rfl, rfl, rfl, rfl, rfl, rfl, trivial⟩ (by repeat constructor))
     refine dV (σ := Nat × Value × Nat × Unit) (.alt (aC [7, 8, 13] (aC [16, 17, 18, 19, 20, 21, 22, 23, 24, 25, 26, 27, 28, 29, 30] (aC [14, 15, 31] (aC [32, 33, 34, 35, 36, 37] .nil)))) (aC [16, 17, 18, 19, 20, 21, 22, 23, 24, 25, 26, 27, 28, 29, 30] (aC [7, 8, 13] (aC [14, 15, 31] (aC [32, 33, 34, 35, 36, 37] .nil))))) (fun ⟨lt0, ap0, lt1, ()⟩ => [(207, .int .i64 n), (15, .int .i64 n), (20, .pointer (some ⟨b20, 0, none⟩)), (21, .pointer (some ⟨b21, 0, none⟩)), (318, .int .i64 (1 + (n : Int) / 5 % 4)), (319, .int .i64 i), (23, .pointer (some ⟨b23, 0, none⟩)), (383, ap0), (389, .slice (some ⟨lt1, 0, none⟩) 1 1)]) (fun ⟨lt0, ap0, lt1, ()⟩ => [.ow ap0 3 1 (i + 1) (aP A ++ [.int .i64 n0]), .ow v2 3 1 i (aP B), .pt lt1 [.int .i64 m1] 3, .ow v3 3 1 i (aP C), .pt b21 [v1, v2, v3] 44, .pt b23 [.int .i64 n0, .int .i64 n1, .int .i64 m0, .int .i64 m1, .int .i64 l0, .int .i64 l1] 46, .pt b20 [.int .i64 ((n : Int) % 4), .int .i64 (4 + (n : Int) / 4 % 3), .slice a1 g1 c1] 39, .ow (.slice a1 g1 c1) 46 6 (i + 1) (dyC D ++ dyC [⟨n0, n1, m0, m1, l0, l1⟩])]) ?_ (fun hS5_6_12 => ?_)
     ·rintro ⟨lt0, ap0, lt1, _⟩
      refine fA ?_ ?_
      ·skip
       refine fU [.ow ap0 3 1 (i + 1) (aP A ++ [.int .i64 n0]), .ow v2 3 1 i (aP B), .pt lt1 [.int .i64 m1] 3, .ow v3 3 1 i (aP C)] (by repeat (first | exact PickL.nil | (apply PickL.cons; rfl))) rfl (by repeat constructor) fun K1 hK1 => ?_
       (refine aG V Z Z Z (aN V Z Z Z ?_))
       refine bQ (q := 1) slI rfl rfl rfl (fun v' => by repeat constructor) (fun w' hs => ⟨_, _, Blk.rd (hs.blk (b := lt1) (by repeat constructor)) rfl 1⟩) (by simp [cU]) (by omega) (by omega) (fun ap1 => ?_)
       (refine aO ?_)
       exact hK1 _ _ (hS5_6_12_13 ⟨lt0, ap0, lt1, ap1, ()⟩ _ _ ⟨rfl, rfl, rfl, rfl, rfl, rfl, rfl, rfl, rfl, trivial⟩ (by repeat constructor))
      ·skip
       refine fU [.ow ap0 3 1 (i + 1) (aP A ++ [.int .i64 n0]), .ow v2 3 1 i (aP B), .pt lt1 [.int .i64 m1] 3, .ow v3 3 1 i (aP C)] (by repeat (first | exact PickL.nil | (apply PickL.cons; rfl))) rfl (by repeat constructor) fun K1 hK1 => ?_
       (refine aG V Z Z Z (aG V Z Z Z (aN V Z Z Z (aG V Z Z Z (cN Z Z Z (by omega) (by omega) (aG V Z Z Z (aG V Z Z Z (aN V Z Z Z (aG V Z Z Z (aG V Z Z Z (aN V Z Z Z ?_)))))))))); (iterate 3 refine dA V Z Z Z Z (by omega) (by omega) ?_))
       refine bK 3 [.int .i64 (l0 + (n : Int) % 2 * (l1 - l0))] rfl (by kernel_rfl) rfl (fun lt2 => ?_)
       (refine aO ?_)
       exact hK1 _ _ (hS5_6_12_30 ⟨lt0, ap0, lt1, lt2, ()⟩ _ _ ⟨rfl, rfl, rfl, rfl, rfl, rfl, rfl, rfl, rfl, rfl, trivial⟩ (by repeat constructor))
     refine dV (σ := Nat × Value × Nat × Unit) (aC [9, 10, 11, 12] (aC [7, 8, 13] (aC [14, 15, 31] (aC [32, 33, 34, 35, 36, 37] .nil)))) (fun ⟨lt0, ap0, lt2, ()⟩ => [(207, .int .i64 n), (15, .int .i64 n), (20, .pointer (some ⟨b20, 0, none⟩)), (21, .pointer (some ⟨b21, 0, none⟩)), (318, .int .i64 (1 + (n : Int) / 5 % 4)), (319, .int .i64 i), (23, .pointer (some ⟨b23, 0, none⟩)), (383, ap0), (407, .slice (some ⟨lt2, 0, none⟩) 1 1)]) (fun ⟨lt0, ap0, lt2, ()⟩ => [.ow ap0 3 1 (i + 1) (aP A ++ [.int .i64 n0]), .ow v2 3 1 i (aP B), .ow v3 3 1 i (aP C), .pt lt2 [.int .i64 (l0 + (n : Int) % 2 * (l1 - l0))] 3, .pt b21 [v1, v2, v3] 44, .pt b23 [.int .i64 n0, .int .i64 n1, .int .i64 m0, .int .i64 m1, .int .i64 l0, .int .i64 l1] 46, .pt b20 [.int .i64 ((n : Int) % 4), .int .i64 (4 + (n : Int) / 4 % 3), .slice a1 g1 c1] 39, .ow (.slice a1 g1 c1) 46 6 (i + 1) (dyC D ++ dyC [⟨n0, n1, m0, m1, l0, l1⟩])]) ?_ (fun hS5_6_30 => ?_)
     ·rintro ⟨lt0, ap0, lt2, _⟩
      refine fU [.ow ap0 3 1 (i + 1) (aP A ++ [.int .i64 n0]), .ow v2 3 1 i (aP B), .ow v3 3 1 i (aP C), .pt lt2 [.int .i64 (l0 + (n : Int) % 2 * (l1 - l0))] 3] (by repeat (first | exact PickL.nil | (apply PickL.cons; rfl))) rfl (by repeat constructor) fun K1 hK1 => ?_
      (refine aG V Z Z Z (aG V Z Z Z (aN V Z Z Z ?_)))
      refine bK 3 [.int .i64 m1] rfl (by kernel_rfl) rfl (fun lt1 => ?_)
      (refine aO ?_)
      exact hK1 _ _ (hS5_6_12_30 ⟨lt0, ap0, lt1, lt2, ()⟩ _ _ ⟨rfl, rfl, rfl, rfl, rfl, rfl, rfl, rfl, rfl, rfl, trivial⟩ (by repeat constructor))
     refine dV (σ := Nat × Nat × Nat × Unit) (aC [0, 1, 6] (aC [7, 8, 13] (aC [14, 15, 31] (aC [32, 33, 34, 35, 36, 37] .nil)))) (fun ⟨lt0, lt1, lt2, ()⟩ => [(207, .int .i64 n), (15, .int .i64 n), (20, .pointer (some ⟨b20, 0, none⟩)), (21, .pointer (some ⟨b21, 0, none⟩)), (318, .int .i64 (1 + (n : Int) / 5 % 4)), (319, .int .i64 i), (23, .pointer (some ⟨b23, 0, none⟩)), (382, .slice (some ⟨lt0, 0, none⟩) 1 1), (389, .slice (some ⟨lt1, 0, none⟩) 1 1), (407, .slice (some ⟨lt2, 0, none⟩) 1 1)]) (fun ⟨lt0, lt1, lt2, ()⟩ => [.ow v1 3 1 i (aP A), .pt lt0 [.int .i64 n0] 3, .ow v2 3 1 i (aP B), .pt lt1 [.int .i64 m1] 3, .ow v3 3 1 i (aP C), .pt lt2 [.int .i64 (l0 + (n : Int) % 2 * (l1 - l0))] 3, .pt b21 [v1, v2, v3] 44, .pt b23 [.int .i64 n0, .int .i64 n1, .int .i64 m0, .int .i64 m1, .int .i64 l0, .int .i64 l1] 46, .pt b20 [.int .i64 ((n : Int) % 4), .int .i64 (4 + (n : Int) / 4 % 3), .slice a1 g1 c1] 39, .ow (.slice a1 g1 c1) 46 6 (i + 1) (dyC D ++ dyC [⟨n0, n1, m0, m1, l0, l1⟩])]) ?_ (fun hS5_12_30 => ?_)
     ·rintro ⟨lt0, lt1, lt2, _⟩
      refine fU [.ow v1 3 1 i (aP A), .pt lt0 [.int .i64 n0] 3, .ow v2 3 1 i (aP B), .pt lt1 [.int .i64 m1] 3, .ow v3 3 1 i (aP C), .pt lt2 [.int .i64 (l0 + (n : Int) % 2 * (l1 - l0))] 3] (by repeat (first | exact PickL.nil | (apply PickL.cons; rfl))) rfl (by repeat constructor) fun K1 hK1 => ?_
      (refine aG V Z Z Z (aN V Z Z Z ?_))
      refine bQ (q := 1) slI rfl rfl rfl (fun v' => by repeat constructor) (fun w' hs => ⟨_, _, Blk.rd (hs.blk (b := lt0) (by repeat constructor)) rfl 1⟩) (by simp [cU]) (by omega) (by omega) (fun ap0 => ?_)
      (refine aO ?_)
      exact hK1 _ _ (hS5_6_12_30 ⟨lt0, ap0, lt1, lt2, ()⟩ _ _ ⟨rfl, rfl, rfl, rfl, rfl, rfl, rfl, rfl, rfl, rfl, trivial⟩ (by repeat constructor))
     refine dV (σ := Nat × Value × Unit) (.alt (aC [9, 10, 11, 12] (.alt (aC [7, 8, 13] (aC [16, 17, 18, 19, 20, 21, 22, 23, 24, 25, 26, 27, 28, 29, 30] (aC [14, 15, 31] (aC [32, 33, 34, 35, 36, 37] .nil)))) (aC [16, 17, 18, 19, 20, 21, 22, 23, 24, 25, 26, 27, 28, 29, 30] (aC [7, 8, 13] (aC [14, 15, 31] (aC [32, 33, 34, 35, 36, 37] .nil)))))) (aC [16, 17, 18, 19, 20, 21, 22, 23, 24, 25, 26, 27, 28, 29, 30] (aC [9, 10, 11, 12] (aC [7, 8, 13] (aC [14, 15, 31] (aC [32, 33, 34, 35, 36, 37] .nil)))))) (fun ⟨lt0, ap0, ()⟩ => [(207, .int .i64 n), (15, .int .i64 n), (20, .pointer (some ⟨b20, 0, none⟩)), (21, .pointer (some ⟨b21, 0, none⟩)), (318, .int .i64 (1 + (n : Int) / 5 % 4)), (319, .int .i64 i), (23, .pointer (some ⟨b23, 0, none⟩)), (383, ap0)]) (fun ⟨lt0, ap0, ()⟩ => [.ow ap0 3 1 (i + 1) (aP A ++ [.int .i64 n0]), .ow v2 3 1 i (aP B), .ow v3 3 1 i (aP C), .pt b21 [v1, v2, v3] 44, .pt b23 [.int .i64 n0, .int .i64 n1, .int .i64 m0, .int .i64 m1, .int .i64 l0, .int .i64 l1] 46, .pt b20 [.int .i64 ((n : Int) % 4), .int .i64 (4 + (n : Int) / 4 % 3), .slice a1 g1 c1] 39, .ow (.slice a1 g1 c1) 46 6 (i + 1) (dyC D ++ dyC [⟨n0, n1, m0, m1, l0, l1⟩])]) ?_ (fun hS5_6 => ?_)
     ·rintro ⟨lt0, ap0, _⟩
      refine fA ?_ ?_
      ·skip
       refine fU [.ow ap0 3 1 (i + 1) (aP A ++ [.int .i64 n0]), .ow v2 3 1 i (aP B), .ow v3 3 1 i (aP C)] (by repeat (first | exact PickL.nil | (apply PickL.cons; rfl))) rfl (by repeat constructor) fun K1 hK1 => ?_
       (refine aG V Z Z Z (aG V Z Z Z (aN V Z Z Z ?_)))
       refine bK 3 [.int .i64 m1] rfl (by kernel_rfl) rfl (fun lt1 => ?_)
       (refine aO ?_)
       exact hK1 _ _ (hS5_6_12 ⟨lt0, ap0, lt1, ()⟩ _ _ ⟨rfl, rfl, rfl, rfl, rfl, rfl, rfl, rfl, rfl, trivial⟩ (by repeat constructor))
      ·skip
       refine fU [.ow ap0 3 1 (i + 1) (aP A ++ [.int .i64 n0]), .ow v2 3 1 i (aP B), .ow v3 3 1 i (aP C)] (by repeat (first | exact PickL.nil | (apply PickL.cons; rfl))) rfl (by repeat constructor) fun K1 hK1 => ?_
       (refine aG V Z Z Z (aG V Z Z Z (aN V Z Z Z (aG V Z Z Z (cN Z Z Z (by omega) (by omega) (aG V Z Z Z (aG V Z Z Z (aN V Z Z Z (aG V Z Z Z (aG V Z Z Z (aN V Z Z Z ?_)))))))))); (iterate 3 refine dA V Z Z Z Z (by omega) (by omega) ?_))
       refine bK 3 [.int .i64 (l0 + (n : Int) % 2 * (l1 - l0))] rfl (by kernel_rfl) rfl (fun lt2 => ?_)
       (refine aO ?_)
       exact hK1 _ _ (hS5_6_30 ⟨lt0, ap0, lt2, ()⟩ _ _ ⟨rfl, rfl, rfl, rfl, rfl, rfl, rfl, rfl, rfl, trivial⟩ (by repeat constructor))
     refine dV (σ := Nat × Nat × Unit) (.alt (aC [0, 1, 6] (.alt (aC [7, 8, 13] (aC [16, 17, 18, 19, 20, 21, 22, 23, 24, 25, 26, 27, 28, 29, 30] (aC [14, 15, 31] (aC [32, 33, 34, 35, 36, 37] .nil)))) (aC [16, 17, 18, 19, 20, 21, 22, 23, 24, 25, 26, 27, 28, 29, 30] (aC [7, 8, 13] (aC [14, 15, 31] (aC [32, 33, 34, 35, 36, 37] .nil)))))) (aC [16, 17, 18, 19, 20, 21, 22, 23, 24, 25, 26, 27, 28, 29, 30] (aC [0, 1, 6] (aC [7, 8, 13] (aC [14, 15, 31] (aC [32, 33, 34, 35, 36, 37] .nil)))))) (fun ⟨lt0, lt1, ()⟩ => [(207, .int .i64 n), (15, .int .i64 n), (20, .pointer (some ⟨b20, 0, none⟩)), (21, .pointer (some ⟨b21, 0, none⟩)), (318, .int .i64 (1 + (n : Int) / 5 % 4)), (319, .int .i64 i), (23, .pointer (some ⟨b23, 0, none⟩)), (382, .slice (some ⟨lt0, 0, none⟩) 1 1), (389, .slice (some ⟨lt1, 0, none⟩) 1 1)]) (fun ⟨lt0, lt1, ()⟩ => [.ow v1 3 1 i (aP A), .pt lt0 [.int .i64 n0] 3, .ow v2 3 1 i (aP B), .pt lt1 [.int .i64 m1] 3, .ow v3 3 1 i (aP C), .pt b21 [v1, v2, v3] 44, .pt b23 [.int .i64 n0, .int .i64 n1, .int .i64 m0, .int .i64 m1, .int .i64 l0, .int .i64 l1] 46, .pt b20 [.int .i64 ((n : Int) % 4), .int .i64 (4 + (n : Int) / 4 % 3), .slice a1 g1 c1] 39, .ow (.slice a1 g1 c1) 46 6 (i + 1) (dyC D ++ dyC [⟨n0, n1, m0, m1, l0, l1⟩])]) ?_ (fun hS5_12 => ?_)
     ·rintro ⟨lt0, lt1, _⟩
      refine fA ?_ ?_
      ·skip
       refine fU [.ow v1 3 1 i (aP A), .pt lt0 [.int .i64 n0] 3, .ow v2 3 1 i (aP B), .pt lt1 [.int .i64 m1] 3, .ow v3 3 1 i (aP C)] (by repeat (first | exact PickL.nil | (apply PickL.cons; rfl))) rfl (by repeat constructor) fun K1 hK1 => ?_
       (refine aG V Z Z Z (aN V Z Z Z ?_))
       refine bQ (q := 1) slI rfl rfl rfl (fun v' => by repeat constructor) (fun w' hs => ⟨_, _, Blk.rd (hs.blk (b := lt0) (by repeat constructor)) rfl 1⟩) (by simp [cU]) (by omega) (by omega) (fun ap0 => ?_)
       (refine aO ?_)
       exact hK1 _ _ (hS5_6_12 ⟨lt0, ap0, lt1, ()⟩ _ _ ⟨rfl, rfl, rfl, rfl, rfl, rfl, rfl, rfl, rfl, trivial⟩ (by repeat constructor))
      ·skip
       refine fU [.ow v1 3 1 i (aP A), .pt lt0 [.int .i64 n0] 3, .ow v2 3 1 i (aP B), .pt lt1 [.int .i64 m1] 3, .ow v3 3 1 i (aP C)] (by repeat (first | exact PickL.nil | (apply PickL.cons; rfl))) rfl (by repeat constructor) fun K1 hK1 => ?_
       (refine aG V Z Z Z (aG V Z Z Z (aN V Z Z Z (aG V Z Z Z (cN Z Z Z (by omega) (by omega) (aG V Z Z Z (aG V Z Z Z (aN V Z Z Z (aG V Z Z Z (aG V Z Z Z (aN V Z Z Z ?_)))))))))); (iterate 3 refine dA V Z Z Z Z (by omega) (by omega) ?_))
       refine bK 3 [.int .i64 (l0 + (n : Int) % 2 * (l1 - l0))] rfl (by kernel_rfl) rfl (fun lt2 => ?_)
       (refine aO ?_)
       exact hK1 _ _ (hS5_12_30 ⟨lt0, lt1, lt2, ()⟩ _ _ ⟨rfl, rfl, rfl, rfl, rfl, rfl, rfl, rfl, rfl, rfl, trivial⟩ (by repeat constructor))
     refine dV (σ := Nat × Nat × Unit) (.alt (aC [0, 1, 6] (aC [9, 10, 11, 12] (aC [7, 8, 13] (aC [14, 15, 31] (aC [32, 33, 34, 35, 36, 37] .nil))))) (aC [9, 10, 11, 12] (aC [0, 1, 6] (aC [7, 8, 13] (aC [14, 15, 31] (aC [32, 33, 34, 35, 36, 37] .nil)))))) (fun ⟨lt0, lt2, ()⟩ => [(207, .int .i64 n), (15, .int .i64 n), (20, .pointer (some ⟨b20, 0, none⟩)), (21, .pointer (some ⟨b21, 0, none⟩)), (318, .int .i64 (1 + (n : Int) / 5 % 4)), (319, .int .i64 i), (23, .pointer (some ⟨b23, 0, none⟩)), (382, .slice (some ⟨lt0, 0, none⟩) 1 1), (407, .slice (some ⟨lt2, 0, none⟩) 1 1)]) (fun ⟨lt0, lt2, ()⟩ => [.ow v1 3 1 i (aP A), .pt lt0 [.int .i64 n0] 3, .ow v2 3 1 i (aP B), .ow v3 3 1 i (aP C), .pt lt2 [.int .i64 (l0 + (n : Int) % 2 * (l1 - l0))] 3, .pt b21 [v1, v2, v3] 44, .pt b23 [.int .i64 n0, .int .i64 n1, .int .i64 m0, .int .i64 m1, .int .i64 l0, .int .i64 l1] 46, .pt b20 [.int .i64 ((n : Int) % 4), .int .i64 (4 + (n : Int) / 4 % 3), .slice a1 g1 c1] 39, .ow (.slice a1 g1 c1) 46 6 (i + 1) (dyC D ++ dyC [⟨n0, n1, m0, m1, l0, l1⟩])]) ?_ (fun hS5_30 => ?_)
     ·rintro ⟨lt0, lt2, _⟩
      refine fA ?_ ?_
      ·skip
       refine fU [.ow v1 3 1 i (aP A), .pt lt0 [.int .i64 n0] 3, .ow v2 3 1 i (aP B), .ow v3 3 1 i (aP C), .pt lt2 [.int .i64 (l0 + (n : Int) % 2 * (l1 - l0))] 3] (by repeat (first | exact PickL.nil | (apply PickL.cons; rfl))) rfl (by repeat constructor) fun K1 hK1 => ?_
       (refine aG V Z Z Z (aN V Z Z Z ?_))
       refine bQ (q := 1) slI rfl rfl rfl (fun v' => by repeat constructor) (fun w' hs => ⟨_, _, Blk.rd (hs.blk (b := lt0) (by repeat constructor)) rfl 1⟩) (by simp [cU]) (by omega) (by omega) (fun ap0 => ?_)
       (refine aO ?_)
       exact hK1 _ _ (hS5_6_30 ⟨lt0, ap0, lt2, ()⟩ _ _ ⟨rfl, rfl, rfl, rfl, rfl, rfl, rfl, rfl, rfl, trivial⟩ (by repeat constructor))
      ·skip
       refine fU [.ow v1 3 1 i (aP A), .pt lt0 [.int .i64 n0] 3, .ow v2 3 1 i (aP B), .ow v3 3 1 i (aP C), .pt lt2 [.int .i64 (l0 + (n : Int) % 2 * (l1 - l0))] 3] (by repeat (first | exact PickL.nil | (apply PickL.cons; rfl))) rfl (by repeat constructor) fun K1 hK1 => ?_
       (refine aG V Z Z Z (aG V Z Z Z (aN V Z Z Z ?_)))
       refine bK 3 [.int .i64 m1] rfl (by kernel_rfl) rfl (fun lt1 => ?_)
       (refine aO ?_)
       exact hK1 _ _ (hS5_12_30 ⟨lt0, lt1, lt2, ()⟩ _ _ ⟨rfl, rfl, rfl, rfl, rfl, rfl, rfl, rfl, rfl, rfl, trivial⟩ (by repeat constructor))
     refine dV (σ := Nat × Nat × Unit) (aC [2, 3, 4, 5] (aC [0, 1, 6] (aC [7, 8, 13] (aC [14, 15, 31] (aC [32, 33, 34, 35, 36, 37] .nil))))) (fun ⟨lt1, lt2, ()⟩ => [(207, .int .i64 n), (15, .int .i64 n), (20, .pointer (some ⟨b20, 0, none⟩)), (21, .pointer (some ⟨b21, 0, none⟩)), (318, .int .i64 (1 + (n : Int) / 5 % 4)), (319, .int .i64 i), (23, .pointer (some ⟨b23, 0, none⟩)), (389, .slice (some ⟨lt1, 0, none⟩) 1 1), (407, .slice (some ⟨lt2, 0, none⟩) 1 1)]) (fun ⟨lt1, lt2, ()⟩ => [.ow v1 3 1 i (aP A), .ow v2 3 1 i (aP B), .pt lt1 [.int .i64 m1] 3, .ow v3 3 1 i (aP C), .pt lt2 [.int .i64 (l0 + (n : Int) % 2 * (l1 - l0))] 3, .pt b21 [v1, v2, v3] 44, .pt b23 [.int .i64 n0, .int .i64 n1, .int .i64 m0, .int .i64 m1, .int .i64 l0, .int .i64 l1] 46, .pt b20 [.int .i64 ((n : Int) % 4), .int .i64 (4 + (n : Int) / 4 % 3), .slice a1 g1 c1] 39, .ow (.slice a1 g1 c1) 46 6 (i + 1) (dyC D ++ dyC [⟨n0, n1, m0, m1, l0, l1⟩])]) ?_ (fun hS12_30 => ?_)
     ·rintro ⟨lt1, lt2, _⟩
      refine fU [.ow v1 3 1 i (aP A), .ow v2 3 1 i (aP B), .pt lt1 [.int .i64 m1] 3, .ow v3 3 1 i (aP C), .pt lt2 [.int .i64 (l0 + (n : Int) % 2 * (l1 - l0))] 3] (by repeat (first | exact PickL.nil | (apply PickL.cons; rfl))) rfl (by repeat constructor) fun K1 hK1 => ?_
      (refine aG V Z Z Z (aG V Z Z Z (aN V Z Z Z ?_)))
      refine bK 3 [.int .i64 n0] rfl (by kernel_rfl) rfl (fun lt0 => ?_)
      (refine aO ?_)
      exact hK1 _ _ (hS5_12_30 ⟨lt0, lt1, lt2, ()⟩ _ _ ⟨rfl, rfl, rfl, rfl, rfl, rfl, rfl, rfl, rfl, rfl, trivial⟩ (by repeat constructor))
     refine dV (σ := Nat × Unit) (.alt (aC [0, 1, 6] (.alt (aC [9, 10, 11, 12] (.alt (aC [7, 8, 13] (aC [16, 17, 18, 19, 20, 21, 22, 23, 24, 25, 26, 27, 28, 29, 30] (aC [14, 15, 31] (aC [32, 33, 34, 35, 36, 37] .nil)))) (aC [16, 17, 18, 19, 20, 21, 22, 23, 24, 25, 26, 27, 28, 29, 30] (aC [7, 8, 13] (aC [14, 15, 31] (aC [32, 33, 34, 35, 36, 37] .nil)))))) (aC [16, 17, 18, 19, 20, 21, 22, 23, 24, 25, 26, 27, 28, 29, 30] (aC [9, 10, 11, 12] (aC [7, 8, 13] (aC [14, 15, 31] (aC [32, 33, 34, 35, 36, 37] .nil))))))) (.alt (aC [9, 10, 11, 12] (.alt (aC [0, 1, 6] (.alt (aC [7, 8, 13] (aC [16, 17, 18, 19, 20, 21, 22, 23, 24, 25, 26, 27, 28, 29, 30] (aC [14, 15, 31] (aC [32, 33, 34, 35, 36, 37] .nil)))) (aC [16, 17, 18, 19, 20, 21, 22, 23, 24, 25, 26, 27, 28, 29, 30] (aC [7, 8, 13] (aC [14, 15, 31] (aC [32, 33, 34, 35, 36, 37] .nil)))))) (aC [16, 17, 18, 19, 20, 21, 22, 23, 24, 25, 26, 27, 28, 29, 30] (aC [0, 1, 6] (aC [7, 8, 13] (aC [14, 15, 31] (aC [32, 33, 34, 35, 36, 37] .nil))))))) (aC [16, 17, 18, 19, 20, 21, 22, 23, 24, 25, 26, 27, 28, 29, 30] (.alt (aC [0, 1, 6] (aC [9, 10, 11, 12] (aC [7, 8, 13] (aC [14, 15, 31] (aC [32, 33, 34, 35, 36, 37] .nil))))) (aC [9, 10, 11, 12] (aC [0, 1, 6] (aC [7, 8, 13] (aC [14, 15, 31] (aC [32, 33, 34, 35, 36, 37] .nil))))))))) (fun ⟨lt0, ()⟩ => [(207, .int .i64 n), (15, .int .i64 n), (20, .pointer (some ⟨b20, 0, none⟩)), (21, .pointer (some ⟨b21, 0, none⟩)), (318, .int .i64 (1 + (n : Int) / 5 % 4)), (319, .int .i64 i), (23, .pointer (some ⟨b23, 0, none⟩)), (382, .slice (some ⟨lt0, 0, none⟩) 1 1)]) (fun ⟨lt0, ()⟩ => [.ow v1 3 1 i (aP A), .pt lt0 [.int .i64 n0] 3, .ow v2 3 1 i (aP B), .ow v3 3 1 i (aP C), .pt b21 [v1, v2, v3] 44, .pt b23 [.int .i64 n0, .int .i64 n1, .int .i64 m0, .int .i64 m1, .int .i64 l0, .int .i64 l1] 46, .pt b20 [.int .i64 ((n : Int) % 4), .int .i64 (4 + (n : Int) / 4 % 3), .slice a1 g1 c1] 39, .ow (.slice a1 g1 c1) 46 6 (i + 1) (dyC D ++ dyC [⟨n0, n1, m0, m1, l0, l1⟩])]) ?_ (fun hS5 => ?_)
     ·rintro ⟨lt0, _⟩
      refine fA ?_ (fA ?_ ?_)
      ·skip
       refine fU [.ow v1 3 1 i (aP A), .pt lt0 [.int .i64 n0] 3, .ow v2 3 1 i (aP B), .ow v3 3 1 i (aP C)] (by repeat (first | exact PickL.nil | (apply PickL.cons; rfl))) rfl (by repeat constructor) fun K1 hK1 => ?_
       (refine aG V Z Z Z (aN V Z Z Z ?_))
       refine bQ (q := 1) slI rfl rfl rfl (fun v' => by repeat constructor) (fun w' hs => ⟨_, _, Blk.rd (hs.blk (b := lt0) (by repeat constructor)) rfl 1⟩) (by simp [cU]) (by omega) (by omega) (fun ap0 => ?_)
       (refine aO ?_)
       exact hK1 _ _ (hS5_6 ⟨lt0, ap0, ()⟩ _ _ ⟨rfl, rfl, rfl, rfl, rfl, rfl, rfl, rfl, trivial⟩ (by repeat constructor))
      ·skip
       refine fU [.ow v1 3 1 i (aP A), .pt lt0 [.int .i64 n0] 3, .ow v2 3 1 i (aP B), .ow v3 3 1 i (aP C)] (by repeat (first | exact PickL.nil | (apply PickL.cons; rfl))) rfl (by repeat constructor) fun K1 hK1 => ?_
       (refine aG V Z Z Z (aG V Z Z Z (aN V Z Z Z ?_)))
       refine bK 3 [.int .i64 m1] rfl (by kernel_rfl) rfl (fun lt1 => ?_)
       (refine aO ?_)
       exact hK1 _ _ (hS5_12 ⟨lt0, lt1, ()⟩ _ _ ⟨rfl, rfl, rfl, rfl, rfl, rfl, rfl, rfl, rfl, trivial⟩ (by repeat constructor))
      ·skip
       refine fU [.ow v1 3 1 i (aP A), .pt lt0 [.int .i64 n0] 3, .ow v2 3 1 i (aP B), .ow v3 3 1 i (aP C)] (by repeat (first | exact PickL.nil | (apply PickL.cons; rfl))) rfl (by repeat constructor) fun K1 hK1 => ?_
       (refine aG V Z Z Z (aG V Z Z Z (aN V Z Z Z (aG V Z Z Z (cN Z Z Z (by omega) (by omega) (aG V Z Z Z (aG V Z Z Z (aN V Z Z Z (aG V Z Z Z (aG V Z Z Z (aN V Z Z Z ?_)))))))))); (iterate 3 refine dA V Z Z Z Z (by omega) (by omega) ?_))
       refine bK 3 [.int .i64 (l0 + (n : Int) % 2 * (l1 - l0))] rfl (by kernel_rfl) rfl (fun lt2 => ?_)
       (refine aO ?_)
       exact hK1 _ _ (hS5_30 ⟨lt0, lt2, ()⟩ _ _ ⟨rfl, rfl, rfl, rfl, rfl, rfl, rfl, rfl, rfl, trivial⟩ (by repeat constructor))
     refine dV (σ := Nat × Unit) (.alt (aC [2, 3, 4, 5] (.alt (aC [0, 1, 6] (.alt (aC [7, 8, 13] (aC [16, 17, 18, 19, 20, 21, 22, 23, 24, 25, 26, 27, 28, 29, 30] (aC [14, 15, 31] (aC [32, 33, 34, 35, 36, 37] .nil)))) (aC [16, 17, 18, 19, 20, 21, 22, 23, 24, 25, 26, 27, 28, 29, 30] (aC [7, 8, 13] (aC [14, 15, 31] (aC [32, 33, 34, 35, 36, 37] .nil)))))) (aC [16, 17, 18, 19, 20, 21, 22, 23, 24, 25, 26, 27, 28, 29, 30] (aC [0, 1, 6] (aC [7, 8, 13] (aC [14, 15, 31] (aC [32, 33, 34, 35, 36, 37] .nil))))))) (aC [16, 17, 18, 19, 20, 21, 22, 23, 24, 25, 26, 27, 28, 29, 30] (aC [2, 3, 4, 5] (aC [0, 1, 6] (aC [7, 8, 13] (aC [14, 15, 31] (aC [32, 33, 34, 35, 36, 37] .nil))))))) (fun ⟨lt1, ()⟩ => [(207, .int .i64 n), (15, .int .i64 n), (20, .pointer (some ⟨b20, 0, none⟩)), (21, .pointer (some ⟨b21, 0, none⟩)), (318, .int .i64 (1 + (n : Int) / 5 % 4)), (319, .int .i64 i), (23, .pointer (some ⟨b23, 0, none⟩)), (389, .slice (some ⟨lt1, 0, none⟩) 1 1)]) (fun ⟨lt1, ()⟩ => [.ow v1 3 1 i (aP A), .ow v2 3 1 i (aP B), .pt lt1 [.int .i64 m1] 3, .ow v3 3 1 i (aP C), .pt b21 [v1, v2, v3] 44, .pt b23 [.int .i64 n0, .int .i64 n1, .int .i64 m0, .int .i64 m1, .int .i64 l0, .int .i64 l1] 46, .pt b20 [.int .i64 ((n : Int) % 4), .int .i64 (4 + (n : Int) / 4 % 3), .slice a1 g1 c1] 39, .ow (.slice a1 g1 c1) 46 6 (i + 1) (dyC D ++ dyC [⟨n0, n1, m0, m1, l0, l1⟩])]) ?_ (fun hS12 => ?_)
     ·rintro ⟨lt1, _⟩
      refine fA ?_ ?_
      ·skip
       refine fU [.ow v1 3 1 i (aP A), .ow v2 3 1 i (aP B), .pt lt1 [.int .i64 m1] 3, .ow v3 3 1 i (aP C)] (by repeat (first | exact PickL.nil | (apply PickL.cons; rfl))) rfl (by repeat constructor) fun K1 hK1 => ?_
       (refine aG V Z Z Z (aG V Z Z Z (aN V Z Z Z ?_)))
       refine bK 3 [.int .i64 n0] rfl (by kernel_rfl) rfl (fun lt0 => ?_)
       (refine aO ?_)
       exact hK1 _ _ (hS5_12 ⟨lt0, lt1, ()⟩ _ _ ⟨rfl, rfl, rfl, rfl, rfl, rfl, rfl, rfl, rfl, trivial⟩ (by repeat constructor))
      ·skip
       refine fU [.ow v1 3 1 i (aP A), .ow v2 3 1 i (aP B), .pt lt1 [.int .i64 m1] 3, .ow v3 3 1 i (aP C)] (by repeat (first | exact PickL.nil | (apply PickL.cons; rfl))) rfl (by repeat constructor) fun K1 hK1 => ?_
       (refine aG V Z Z Z (aG V Z Z Z (aN V Z Z Z (aG V Z Z Z (cN Z Z Z (by omega) (by omega) (aG V Z Z Z (aG V Z Z Z (aN V Z Z Z (aG V Z Z Z (aG V Z Z Z (aN V Z Z Z ?_)))))))))); (iterate 3 refine dA V Z Z Z Z (by omega) (by omega) ?_))
       refine bK 3 [.int .i64 (l0 + (n : Int) % 2 * (l1 - l0))] rfl (by kernel_rfl) rfl (fun lt2 => ?_)
       (refine aO ?_)
       exact hK1 _ _ (hS12_30 ⟨lt1, lt2, ()⟩ _ _ ⟨rfl, rfl, rfl, rfl, rfl, rfl, rfl, rfl, rfl, trivial⟩ (by repeat constructor))
     refine dV (σ := Nat × Unit) (.alt (aC [2, 3, 4, 5] (.alt (aC [0, 1, 6] (aC [9, 10, 11, 12] (aC [7, 8, 13] (aC [14, 15, 31] (aC [32, 33, 34, 35, 36, 37] .nil))))) (aC [9, 10, 11, 12] (aC [0, 1, 6] (aC [7, 8, 13] (aC [14, 15, 31] (aC [32, 33, 34, 35, 36, 37] .nil))))))) (aC [9, 10, 11, 12] (aC [2, 3, 4, 5] (aC [0, 1, 6] (aC [7, 8, 13] (aC [14, 15, 31] (aC [32, 33, 34, 35, 36, 37] .nil))))))) (fun ⟨lt2, ()⟩ => [(207, .int .i64 n), (15, .int .i64 n), (20, .pointer (some ⟨b20, 0, none⟩)), (21, .pointer (some ⟨b21, 0, none⟩)), (318, .int .i64 (1 + (n : Int) / 5 % 4)), (319, .int .i64 i), (23, .pointer (some ⟨b23, 0, none⟩)), (407, .slice (some ⟨lt2, 0, none⟩) 1 1)]) (fun ⟨lt2, ()⟩ => [.ow v1 3 1 i (aP A), .ow v2 3 1 i (aP B), .ow v3 3 1 i (aP C), .pt lt2 [.int .i64 (l0 + (n : Int) % 2 * (l1 - l0))] 3, .pt b21 [v1, v2, v3] 44, .pt b23 [.int .i64 n0, .int .i64 n1, .int .i64 m0, .int .i64 m1, .int .i64 l0, .int .i64 l1] 46, .pt b20 [.int .i64 ((n : Int) % 4), .int .i64 (4 + (n : Int) / 4 % 3), .slice a1 g1 c1] 39, .ow (.slice a1 g1 c1) 46 6 (i + 1) (dyC D ++ dyC [⟨n0, n1, m0, m1, l0, l1⟩])]) ?_ (fun hS30 => ?_)
     ·rintro ⟨lt2, _⟩
      refine fA ?_ ?_
      ·skip
       refine fU [.ow v1 3 1 i (aP A), .ow v2 3 1 i (aP B), .ow v3 3 1 i (aP C), .pt lt2 [.int .i64 (l0 + (n : Int) % 2 * (l1 - l0))] 3] (by repeat (first | exact PickL.nil | (apply PickL.cons; rfl))) rfl (by repeat constructor) fun K1 hK1 => ?_
       (refine aG V Z Z Z (aG V Z Z Z (aN V Z Z Z ?_)))
       refine bK 3 [.int .i64 n0] rfl (by kernel_rfl) rfl (fun lt0 => ?_)
       (refine aO ?_)
       exact hK1 _ _ (hS5_30 ⟨lt0, lt2, ()⟩ _ _ ⟨rfl, rfl, rfl, rfl, rfl, rfl, rfl, rfl, rfl, trivial⟩ (by repeat constructor))
      ·skip
       refine fU [.ow v1 3 1 i (aP A), .ow v2 3 1 i (aP B), .ow v3 3 1 i (aP C), .pt lt2 [.int .i64 (l0 + (n : Int) % 2 * (l1 - l0))] 3] (by repeat (first | exact PickL.nil | (apply PickL.cons; rfl))) rfl (by repeat constructor) fun K1 hK1 => ?_
       (refine aG V Z Z Z (aG V Z Z Z (aN V Z Z Z ?_)))
       refine bK 3 [.int .i64 m1] rfl (by kernel_rfl) rfl (fun lt1 => ?_)
       (refine aO ?_)
       exact hK1 _ _ (hS12_30 ⟨lt1, lt2, ()⟩ _ _ ⟨rfl, rfl, rfl, rfl, rfl, rfl, rfl, rfl, rfl, trivial⟩ (by repeat constructor))
     refine fA ?_ (fA ?_ ?_)
     ·skip
      refine fU [.ow v1 3 1 i (aP A), .ow v2 3 1 i (aP B), .ow v3 3 1 i (aP C)] (by repeat (first | exact PickL.nil | (apply PickL.cons; rfl))) rfl (by repeat constructor) fun K1 hK1 => ?_
      (refine aG V Z Z Z (aG V Z Z Z (aN V Z Z Z ?_)))
      refine bK 3 [.int .i64 n0] rfl (by kernel_rfl) rfl (fun lt0 => ?_)
      (refine aO ?_)
      exact hK1 _ _ (hS5 ⟨lt0, ()⟩ _ _ ⟨rfl, rfl, rfl, rfl, rfl, rfl, rfl, rfl, trivial⟩ (by repeat constructor))
     ·skip
      refine fU [.ow v1 3 1 i (aP A), .ow v2 3 1 i (aP B), .ow v3 3 1 i (aP C)] (by repeat (first | exact PickL.nil | (apply PickL.cons; rfl))) rfl (by repeat constructor) fun K1 hK1 => ?_
      (refine aG V Z Z Z (aG V Z Z Z (aN V Z Z Z ?_)))
      refine bK 3 [.int .i64 m1] rfl (by kernel_rfl) rfl (fun lt1 => ?_)
      (refine aO ?_)
      exact hK1 _ _ (hS12 ⟨lt1, ()⟩ _ _ ⟨rfl, rfl, rfl, rfl, rfl, rfl, rfl, rfl, trivial⟩ (by repeat constructor))
     ·skip
      refine fU [.ow v1 3 1 i (aP A), .ow v2 3 1 i (aP B), .ow v3 3 1 i (aP C)] (by repeat (first | exact PickL.nil | (apply PickL.cons; rfl))) rfl (by repeat constructor) fun K1 hK1 => ?_
      (refine aG V Z Z Z (aG V Z Z Z (aN V Z Z Z (aG V Z Z Z (cN Z Z Z (by omega) (by omega) (aG V Z Z Z (aG V Z Z Z (aN V Z Z Z (aG V Z Z Z (aG V Z Z Z (aN V Z Z Z ?_)))))))))); (iterate 3 refine dA V Z Z Z Z (by omega) (by omega) ?_))
      refine bK 3 [.int .i64 (l0 + (n : Int) % 2 * (l1 - l0))] rfl (by kernel_rfl) rfl (fun lt2 => ?_)
      (refine aO ?_)
      exact hK1 _ _ (hS30 ⟨lt2, ()⟩ _ _ ⟨rfl, rfl, rfl, rfl, rfl, rfl, rfl, rfl, trivial⟩ (by repeat constructor))
    ·have hi4 : 1 ≤ i ∧ i ≤ 4 := by omega
     clear hc hK3 hi
     subst hD
     refine cX (fun w hs => hs.slice2 (v := v) (by repeat constructor)) ?_
     rintro ⟨va, vc, rfl⟩
     refine cX (fun w hs => hs.slice2 (v := v1) (by repeat constructor)) ?_
     rintro ⟨a1, c1, rfl⟩
     refine cX (fun w hs => hs.slice2 (v := v2) (by repeat constructor)) ?_
     rintro ⟨a2, c2, rfl⟩
     refine cX (fun w hs => hs.slice2 (v := v3) (by repeat constructor)) ?_
     rintro ⟨a3, c3, rfl⟩
     (refine bO _ rfl (aD (aB (aJ V Z Z Z (aJ V Z Z Z ?_)))))
     refine aK (val := .bool true) V rfl rfl rfl rfl (fun w hs => ?_) ?_; exact fJ w 0 w.heap.size ⟨(n : Int) % 4, 4 + (n : Int) / 4 % 3, D⟩ va vc ⟨A, B, C⟩ (.slice a1 D.length c1) (.slice a2 D.length c2) (.slice a3 D.length c3) (gB (t := 46) hs (by repeat constructor) rfl) (by simp only [maxLen]; omega) ⟨⟨_, _, hs.rdI (by repeat constructor) hA⟩, ⟨_, _, hs.rdI (by repeat constructor) hB⟩, ⟨_, _, hs.rdI (by repeat constructor) hC⟩⟩ (by simp only [maxLen]; omega) (by simp only [maxLen]; omega) (by simp only [maxLen]; omega)
     (refine aA V Z Z (aA V Z Z (aE Z (aJ V Z Z Z (aE Z (aA V Z Z (aE Z (dD Z Z Z (by omega) (by omega) (aE Z (bA V Z Z Z Z (by omega) (by omega) (aE Z (aA V Z Z ?_))))))))))); refine aE Z (fS Z Z Z (by omega) (by omega) (by omega) (aE Z (dD Z Z Z (by omega) (by omega) (aE Z ?_)))))
     refine dJ #[.int .i64 ((n : Int) % 5 - 1), .int .i64 ((n : Int) / 5 % 4)] rfl (by kernel_rfl) rfl ?_
     (refine aE Z ?_)
     refine aK (val := .bool true) V rfl rfl rfl rfl (fun w hs => ?_) ?_; exact iA w 0 w.heap.size ⟨(n : Int) % 4, 4 + (n : Int) / 4 % 3, D⟩ va vc ((n : Int) % 5 - 1) ((n : Int) / 5 % 4) (gB (t := 46) hs (by repeat constructor) rfl) (by simp only [maxLen]; omega)
     (refine aE Z (aA V Z Z (aA V Z Z (aF (aH Z (aM (bJ (aB (bA V Z Z Z Z (by omega) (by omega) (aA V Z Z (aF ?_)))))))))))
     exact hK (n + 1) _ _ (by omega) (by omega) ⟨rfl, trivial⟩ (by repeat constructor)
  ·clear hc hK hn
   (refine bO _ rfl (aD (aD (aB (aA V Z Z (aF (aQ ?_)))))))
   refine cB (σ := Nat) (fun n => n ≤ 64) (fun n => 64 - n) (fun n => [(430, .int .i64 n)]) (fun _ => []) 0 (by omega) ⟨rfl, trivial⟩ (by repeat constructor) ?_
   rintro n hn K hK
   (refine aD (aB (aA V Z Z (aF (aD ?_)))))
   refine dL Z (fun hc => ?_) (fun hc => ?_)
   ·have hn2 : n < 64 := by first | omega | (simp at hc; omega)
    clear hc
    (refine aM (aD (aQ (aD (aB (aA V Z Z (aA V Z Z (aF (aD (aB (aA V Z Z (aF ?_))))))))))); refine aD (aB ?_))
    refine dJ #[.int .i64 1000000, .int .i64 1000000, .slice none 0 0] rfl (by kernel_rfl) rfl ?_
    skip
    refine bI dQ rfl (fun b26 => ?_)
    (refine bS V Z Z Z Z Z (by repeat constructor) rfl ?_; refine aF (aD (aB ?_)))
    refine bI dR rfl (fun b27 => ?_)
    (refine aF (aD (aD (aB (aA V Z Z (aA V Z Z (aF (aQ ?_))))))))
    refine eD (H' := [.ow (.slice none 0 0) 32 3 0 (lpC []), .pt b26 [.int .i64 1000000, .int .i64 1000000, .slice none 0 0] 39, .ow (.slice none 0 0) 46 6 0 (dyC []), .pt b27 [.slice none 0 0, .slice none 0 0, .slice none 0 0] 44, .ow (.slice none 0 0) 3 1 0 (aP []), .ow (.slice none 0 0) 3 1 0 (aP []), .ow (.slice none 0 0) 3 1 0 (aP [])])
     (fun w' hs => (Sat.ownil (Sat.ownil (Sat.ownil (Sat.ownil (Sat.ownil hs 3 1) 3 1) 3 1) 46 6) 32 3).sp (by repeat constructor)) ?_
    refine cB (σ := Nat × Value × Value × Value × Value × Value) (fun q => q.1 ≤ n) (fun q => n - q.1)
     (fun q => [(430, .int .i64 n), (24, .int .i64 n), (25, q.2.1), (26, .pointer (some ⟨b26, 0, none⟩)), (27, .pointer (some ⟨b27, 0, none⟩)), (434, .int .i64 n), (435, .int .i64 q.1)])
     (fun q => [.ow q.2.1 32 3 q.1 (lpC (List.replicate q.1 dE)), .pt b26 [.int .i64 1000000, .int .i64 1000000, q.2.2.1] 39, .ow q.2.2.1 46 6 q.1 (dyC (List.replicate q.1 dF)), .pt b27 [q.2.2.2.1, q.2.2.2.2.1, q.2.2.2.2.2] 44, .ow q.2.2.2.1 3 1 q.1 (aP (List.replicate q.1 100000)), .ow q.2.2.2.2.1 3 1 q.1 (aP (List.replicate q.1 100000)), .ow q.2.2.2.2.2 3 1 q.1 (aP (List.replicate q.1 0))])
     (0, .slice none 0 0, .slice none 0 0, .slice none 0 0, .slice none 0 0, .slice none 0 0) (by simp only; omega) ⟨rfl, rfl, rfl, rfl, rfl, rfl, rfl, trivial⟩ (by repeat constructor) ?_
    rintro ⟨i, sv, v, v1, v2, v3⟩ hi K3 hK3
    dsimp only at hi ⊢
    (refine aD (aB (aA V Z Z (aF (aD ?_)))))
    refine dL Z (fun hc => ?_) (fun hc => ?_)
    ·have hi2 : i < n := by first | omega | (simp at hc; omega)
     clear hc
     (refine aM (aD (aQ (aD (aB (aA V Z Z ?_))))))
     refine dJ #[.int .i64 20000, .int .i64 2000, .int .i64 20] rfl (by kernel_rfl) rfl ?_
     refine cJ 32 (lpC [dE]) rfl (by kernel_rfl) rfl (fun bn => ?_)
     refine bZ (q := 1) slLp rfl rfl rfl (fun v' => by repeat constructor) (fun w' hs => ⟨_, _, Blk.rdLp (hs.blk (b := bn) (by repeat constructor))⟩) (lpC_one _) (by omega) (by omega) (fun u => ?_)
     (refine aA V Z Z (aF (aD ?_)))
     refine q_drawS2 8 [.pt b26 [.int .i64 1000000, .int .i64 1000000, v] 39, .pt b27 [v1, v2, v3] 44, .ow u 32 3 (i + 1) (lpC (List.replicate i dE) ++ lpC [dE]), .ow v1 3 1 i (aP (List.replicate i 100000)), .ow v2 3 1 i (aP (List.replicate i 100000)), .ow v3 3 1 i (aP (List.replicate i 0))] [.ow v 46 6 i (dyC (List.replicate i dF))] [.pt b27 [v1, v2, v3] 44, .ow u 32 3 (i + 1) (lpC (List.replicate i dE) ++ lpC [dE]), .ow v1 3 1 i (aP (List.replicate i 100000)), .ow v2 3 1 i (aP (List.replicate i 100000)), .ow v3 3 1 i (aP (List.replicate i 0))] [.pt b26 [.int .i64 1000000, .int .i64 1000000, v] 39]
      (by repeat constructor) (by repeat constructor) (by kernel_rfl) (by kernel_rfl) (by kernel_rfl) fun K1 hK1 => ?_
     (refine aG V Z Z Z (aN V Z Z Z ?_))
     refine bT V Z Z Z Z (fun w hs => cG _ _ w) ?_
     skip
     refine bT V Z Z Z Z (fun w hs => cG _ _ w) ?_
     skip
     refine bT V Z Z Z Z (fun w hs => cG _ _ w) ?_
     skip
     refine qf_mk #[.int .i64 0, .int .i64 100000, .int .i64 0, .int .i64 100000, .int .i64 0, .int .i64 100000] rfl (by kernel_rfl) rfl ?_
     refine bK 46 (dyC [dF]) rfl (by kernel_rfl) rfl (fun bm => ?_)
     refine bQ (q := 1) slD rfl rfl rfl (fun v' => by repeat constructor) (fun w' hs => ⟨_, _, Blk.rdDy (hs.blk (b := bm) (by repeat constructor))⟩) (dyC_one _) (by omega) (by omega) (fun u2 => ?_)
     refine bX (fun w hs => hs.slice (v := u2) (by repeat constructor)) ?_
     rintro ⟨a1, g1, c1, rfl⟩
     (refine aO ?_)
     refine hK1 _ _ [.pt b26 [.int .i64 1000000, .int .i64 1000000, v] 39, .ow (.slice a1 g1 c1) 46 6 (i + 1) (dyC (List.replicate i dF) ++ dyC [dF])] (by repeat constructor) ?_
     (refine aG V Z Z Z ?_; refine qf_st2 V Z Z Z Z (by repeat constructor) ?_; refine aO ?_)
     refine q_drawX (.alt (aC [2] (.alt (aC [0, 1, 3] (.alt (aC [6] (.alt (aC [4, 5, 7] (aC [10] (aC [8, 9, 11] (aC [12, 13, 14, 15, 16, 17] .nil)))) (aC [10] (aC [4, 5, 7] (aC [8, 9, 11] (aC [12, 13, 14, 15, 16, 17] .nil)))))) (aC [10] (aC [6] (aC [4, 5, 7] (aC [8, 9, 11] (aC [12, 13, 14, 15, 16, 17] .nil))))))) (.alt (aC [6] (.alt (aC [0, 1, 3] (.alt (aC [4, 5, 7] (aC [10] (aC [8, 9, 11] (aC [12, 13, 14, 15, 16, 17] .nil)))) (aC [10] (aC [4, 5, 7] (aC [8, 9, 11] (aC [12, 13, 14, 15, 16, 17] .nil)))))) (aC [10] (aC [0, 1, 3] (aC [4, 5, 7] (aC [8, 9, 11] (aC [12, 13, 14, 15, 16, 17] .nil))))))) (aC [10] (.alt (aC [0, 1, 3] (aC [6] (aC [4, 5, 7] (aC [8, 9, 11] (aC [12, 13, 14, 15, 16, 17] .nil))))) (aC [6] (aC [0, 1, 3] (aC [4, 5, 7] (aC [8, 9, 11] (aC [12, 13, 14, 15, 16, 17] .nil)))))))))) (.alt (aC [6] (.alt (aC [2] (.alt (aC [0, 1, 3] (.alt (aC [4, 5, 7] (aC [10] (aC [8, 9, 11] (aC [12, 13, 14, 15, 16, 17] .nil)))) (aC [10] (aC [4, 5, 7] (aC [8, 9, 11] (aC [12, 13, 14, 15, 16, 17] .nil)))))) (aC [10] (aC [0, 1, 3] (aC [4, 5, 7] (aC [8, 9, 11] (aC [12, 13, 14, 15, 16, 17] .nil))))))) (aC [10] (aC [2] (aC [0, 1, 3] (aC [4, 5, 7] (aC [8, 9, 11] (aC [12, 13, 14, 15, 16, 17] .nil)))))))) (aC [10] (.alt (aC [2] (.alt (aC [0, 1, 3] (aC [6] (aC [4, 5, 7] (aC [8, 9, 11] (aC [12, 13, 14, 15, 16, 17] .nil))))) (aC [6] (aC [0, 1, 3] (aC [4, 5, 7] (aC [8, 9, 11] (aC [12, 13, 14, 15, 16, 17] .nil))))))) (aC [6] (aC [2] (aC [0, 1, 3] (aC [4, 5, 7] (aC [8, 9, 11] (aC [12, 13, 14, 15, 16, 17] .nil)))))))))) [true, true, true, true, true, true, true, true, true, true, true, true, false, false, false, false, false, false] [.pt b27 [v1, v2, v3] 44, .ow u 32 3 (i + 1) (lpC (List.replicate i dE) ++ lpC [dE]), .pt b26 [.int .i64 1000000, .int .i64 1000000, .slice a1 g1 c1] 39, .ow (.slice a1 g1 c1) 46 6 (i + 1) (dyC (List.replicate i dF) ++ dyC [dF])] [.ow v1 3 1 i (aP (List.replicate i 100000)), .ow v2 3 1 i (aP (List.replicate i 100000)), .ow v3 3 1 i (aP (List.replicate i 0))] [.ow u 32 3 (i + 1) (lpC (List.replicate i dE) ++ lpC [dE]), .pt b26 [.int .i64 1000000, .int .i64 1000000, .slice a1 g1 c1] 39, .ow (.slice a1 g1 c1) 46 6 (i + 1) (dyC (List.replicate i dF) ++ dyC [dF])] [.pt b27 [v1, v2, v3] 44] (by repeat constructor) (by repeat constructor) (by kernel_rfl) (by kernel_rfl) (by kernel_rfl) ?_
     refine dV (σ := Nat × Value × Nat × Value × Nat × Value × Unit) (aC [12, 13, 14, 15, 16, 17] .nil) (fun ⟨lt0, ap0, lt1, ap1, lt2, ap2, ()⟩ => [(430, .int .i64 n), (24, .int .i64 n), (25, u), (26, .pointer (some ⟨b26, 0, none⟩)), (27, .pointer (some ⟨b27, 0, none⟩)), (434, .int .i64 n), (435, .int .i64 i), (453, ap0), (457, ap1), (461, ap2)]) (fun ⟨lt0, ap0, lt1, ap1, lt2, ap2, ()⟩ => [.ow ap0 3 1 (i + 1) (aP (List.replicate i 100000) ++ [.int .i64 100000]), .ow ap1 3 1 (i + 1) (aP (List.replicate i 100000) ++ [.int .i64 100000]), .ow ap2 3 1 (i + 1) (aP (List.replicate i 0) ++ [.int .i64 0]), .pt b27 [v1, v2, v3] 44, .ow u 32 3 (i + 1) (lpC (List.replicate i dE) ++ lpC [dE]), .pt b26 [.int .i64 1000000, .int .i64 1000000, .slice a1 g1 c1] 39, .ow (.slice a1 g1 c1) 46 6 (i + 1) (dyC (List.replicate i dF) ++ dyC [dF])]) ?_ (fun hS2_3_6_7_10_11 => ?_)
     ·rintro ⟨lt0, ap0, lt1, ap1, lt2, ap2, _⟩
      refine qx_F [.ow ap0 3 1 (i + 1) (aP (List.replicate i 100000) ++ [.int .i64 100000]), .ow ap1 3 1 (i + 1) (aP (List.replicate i 100000) ++ [.int .i64 100000]), .ow ap2 3 1 (i + 1) (aP (List.replicate i 0) ++ [.int .i64 0]), .pt b27 [v1, v2, v3] 44] (by repeat (first | exact PickL.nil | (apply PickL.cons; rfl))) rfl (by repeat constructor) fun K1 hK1 => ?_
      refine bX (fun w hs => hs.slice (v := ap0) (by repeat constructor)) ?_
      rintro ⟨w0, g5, d0, rfl⟩
      refine bX (fun w hs => hs.slice (v := ap1) (by repeat constructor)) ?_
      rintro ⟨w1, g6, d1, rfl⟩
      refine bX (fun w hs => hs.slice (v := ap2) (by repeat constructor)) ?_
      rintro ⟨w2, g7, d2, rfl⟩
      (refine aG V Z Z Z ?_; refine qf_st0 V Z Z Z Z (by repeat constructor) ?_; refine aG V Z Z Z ?_; refine qf_st1 V Z Z Z Z (by repeat constructor) ?_; refine aG V Z Z Z ?_; refine qf_st2 V Z Z Z Z (by repeat constructor) ?_; refine aO ?_)
      refine hK1 _ _ (qx_nil ?_)
      (refine bJ (aB (bA V Z Z Z Z (by omega) (by omega) (aA V Z Z (aF ?_)))))
      exact hK3 (i + 1, u, .slice a1 g1 c1, .slice w0 g5 d0, .slice w1 g6 d1, .slice w2 g7 d2) _ _ (by simp only; omega) (by simp only; omega) ⟨rfl, rfl, rfl, rfl, rfl, rfl, rfl, trivial⟩ (by dsimp only; rw [rep_lp, rep_dy, rep_int, rep_int]; repeat constructor)
     refine dV (σ := Nat × Value × Nat × Value × Nat × Unit) (aC [8, 9, 11] (aC [12, 13, 14, 15, 16, 17] .nil)) (fun ⟨lt0, ap0, lt1, ap1, lt2, ()⟩ => [(430, .int .i64 n), (24, .int .i64 n), (25, u), (26, .pointer (some ⟨b26, 0, none⟩)), (27, .pointer (some ⟨b27, 0, none⟩)), (434, .int .i64 n), (435, .int .i64 i), (453, ap0), (457, ap1), (460, .slice (some ⟨lt2, 0, none⟩) 1 1)]) (fun ⟨lt0, ap0, lt1, ap1, lt2, ()⟩ => [.ow ap0 3 1 (i + 1) (aP (List.replicate i 100000) ++ [.int .i64 100000]), .ow ap1 3 1 (i + 1) (aP (List.replicate i 100000) ++ [.int .i64 100000]), .ow v3 3 1 i (aP (List.replicate i 0)), .pt lt2 [.int .i64 0] 3, .pt b27 [v1, v2, v3] 44, .ow u 32 3 (i + 1) (lpC (List.replicate i dE) ++ lpC [dE]), .pt b26 [.int .i64 1000000, .int .i64 1000000, .slice a1 g1 c1] 39, .ow (.slice a1 g1 c1) 46 6 (i + 1) (dyC (List.replicate i dF) ++ dyC [dF])]) ?_ (fun hS2_3_6_7_10 => ?_)
     ·rintro ⟨lt0, ap0, lt1, ap1, lt2, _⟩
      refine fU [.ow ap0 3 1 (i + 1) (aP (List.replicate i 100000) ++ [.int .i64 100000]), .ow ap1 3 1 (i + 1) (aP (List.replicate i 100000) ++ [.int .i64 100000]), .ow v3 3 1 i (aP (List.replicate i 0)), .pt lt2 [.int .i64 0] 3] (by repeat (first | exact PickL.nil | (apply PickL.cons; rfl))) rfl (by repeat constructor) fun K1 hK1 => ?_
      (refine aG V Z Z Z (aN V Z Z Z ?_))
      refine bQ (q := 1) slI rfl rfl rfl (fun v' => by repeat constructor) (fun w' hs => ⟨_, _, Blk.rd (hs.blk (b := lt2) (by repeat constructor)) rfl 1⟩) (by simp [cU]) (by omega) (by omega) (fun ap2 => ?_)
      (refine aO ?_)
      exact hK1 _ _ (hS2_3_6_7_10_11 ⟨lt0, ap0, lt1, ap1, lt2, ap2, ()⟩ _ _ ⟨rfl, rfl, rfl, rfl, rfl, rfl, rfl, rfl, rfl, rfl, trivial⟩ (by repeat constructor))
     refine dV (σ := Nat × Value × Nat × Value × Unit) (aC [10] (aC [8, 9, 11] (aC [12, 13, 14, 15, 16, 17] .nil))) (fun ⟨lt0, ap0, lt1, ap1, ()⟩ => [(430, .int .i64 n), (24, .int .i64 n), (25, u), (26, .pointer (some ⟨b26, 0, none⟩)), (27, .pointer (some ⟨b27, 0, none⟩)), (434, .int .i64 n), (435, .int .i64 i), (453, ap0), (457, ap1)]) (fun ⟨lt0, ap0, lt1, ap1, ()⟩ => [.ow ap0 3 1 (i + 1) (aP (List.replicate i 100000) ++ [.int .i64 100000]), .ow ap1 3 1 (i + 1) (aP (List.replicate i 100000) ++ [.int .i64 100000]), .ow v3 3 1 i (aP (List.replicate i 0)), .pt b27 [v1, v2, v3] 44, .ow u 32 3 (i + 1) (lpC (List.replicate i dE) ++ lpC [dE]), .pt b26 [.int .i64 1000000, .int .i64 1000000, .slice a1 g1 c1] 39, .ow (.slice a1 g1 c1) 46 6 (i + 1) (dyC (List.replicate i dF) ++ dyC [dF])]) ?_ (fun hS2_3_6_7 => ?_)
     ·rintro ⟨lt0, ap0, lt1, ap1, _⟩
      refine fU [.ow ap0 3 1 (i + 1) (aP (List.replicate i 100000) ++ [.int .i64 100000]), .ow ap1 3 1 (i + 1) (aP (List.replicate i 100000) ++ [.int .i64 100000]), .ow v3 3 1 i (aP (List.replicate i 0))] (by repeat (first | exact PickL.nil | (apply PickL.cons; rfl))) rfl (by repeat constructor) fun K1 hK1 => ?_
      skip
      refine bK 3 [.int .i64 0] rfl (by kernel_rfl) rfl (fun lt2 => ?_)
      (refine aO ?_)
      exact hK1 _ _ (hS2_3_6_7_10 ⟨lt0, ap0, lt1, ap1, lt2, ()⟩ _ _ ⟨rfl, rfl, rfl, rfl, rfl, rfl, rfl, rfl, rfl, rfl, trivial⟩ (by repeat constructor))
     refine dV (σ := Nat × Value × Nat × Nat × Unit) (aC [4, 5, 7] (aC [8, 9, 11] (aC [12, 13, 14, 15, 16, 17] .nil))) (fun ⟨lt0, ap0, lt1, lt2, ()⟩ => [(430, .int .i64 n), (24, .int .i64 n), (25, u), (26, .pointer (some ⟨b26, 0, none⟩)), (27, .pointer (some ⟨b27, 0, none⟩)), (434, .int .i64 n), (435, .int .i64 i), (453, ap0), (456, .slice (some ⟨lt1, 0, none⟩) 1 1), (460, .slice (some ⟨lt2, 0, none⟩) 1 1)]) (fun ⟨lt0, ap0, lt1, lt2, ()⟩ => [.ow ap0 3 1 (i + 1) (aP (List.replicate i 100000) ++ [.int .i64 100000]), .ow v2 3 1 i (aP (List.replicate i 100000)), .pt lt1 [.int .i64 100000] 3, .ow v3 3 1 i (aP (List.replicate i 0)), .pt lt2 [.int .i64 0] 3, .pt b27 [v1, v2, v3] 44, .ow u 32 3 (i + 1) (lpC (List.replicate i dE) ++ lpC [dE]), .pt b26 [.int .i64 1000000, .int .i64 1000000, .slice a1 g1 c1] 39, .ow (.slice a1 g1 c1) 46 6 (i + 1) (dyC (List.replicate i dF) ++ dyC [dF])]) ?_ (fun hS2_3_6_10 => ?_)
     ·rintro ⟨lt0, ap0, lt1, lt2, _⟩
      refine fU [.ow ap0 3 1 (i + 1) (aP (List.replicate i 100000) ++ [.int .i64 100000]), .ow v2 3 1 i (aP (List.replicate i 100000)), .pt lt1 [.int .i64 100000] 3, .ow v3 3 1 i (aP (List.replicate i 0)), .pt lt2 [.int .i64 0] 3] (by repeat (first | exact PickL.nil | (apply PickL.cons; rfl))) rfl (by repeat constructor) fun K1 hK1 => ?_
      (refine aG V Z Z Z (aN V Z Z Z ?_))
      refine bQ (q := 1) slI rfl rfl rfl (fun v' => by repeat constructor) (fun w' hs => ⟨_, _, Blk.rd (hs.blk (b := lt1) (by repeat constructor)) rfl 1⟩) (by simp [cU]) (by omega) (by omega) (fun ap1 => ?_)
      (refine aO ?_)
      exact hK1 _ _ (hS2_3_6_7_10 ⟨lt0, ap0, lt1, ap1, lt2, ()⟩ _ _ ⟨rfl, rfl, rfl, rfl, rfl, rfl, rfl, rfl, rfl, rfl, trivial⟩ (by repeat constructor))
     refine dV (σ := Nat × Value × Nat × Unit) (.alt (aC [4, 5, 7] (aC [10] (aC [8, 9, 11] (aC [12, 13, 14, 15, 16, 17] .nil)))) (aC [10] (aC [4, 5, 7] (aC [8, 9, 11] (aC [12, 13, 14, 15, 16, 17] .nil))))) (fun ⟨lt0, ap0, lt1, ()⟩ => [(430, .int .i64 n), (24, .int .i64 n), (25, u), (26, .pointer (some ⟨b26, 0, none⟩)), (27, .pointer (some ⟨b27, 0, none⟩)), (434, .int .i64 n), (435, .int .i64 i), (453, ap0), (456, .slice (some ⟨lt1, 0, none⟩) 1 1)]) (fun ⟨lt0, ap0, lt1, ()⟩ => [.ow ap0 3 1 (i + 1) (aP (List.replicate i 100000) ++ [.int .i64 100000]), .ow v2 3 1 i (aP (List.replicate i 100000)), .pt lt1 [.int .i64 100000] 3, .ow v3 3 1 i (aP (List.replicate i 0)), .pt b27 [v1, v2, v3] 44, .ow u 32 3 (i + 1) (lpC (List.replicate i dE) ++ lpC [dE]), .pt b26 [.int .i64 1000000, .int .i64 1000000, .slice a1 g1 c1] 39, .ow (.slice a1 g1 c1) 46 6 (i + 1) (dyC (List.replicate i dF) ++ dyC [dF])]) ?_ (fun hS2_3_6 => ?_)
     ·rintro ⟨lt0, ap0, lt1, _⟩
      refine fA ?_ ?_
      ·skip
       refine fU [.ow ap0 3 1 (i + 1) (aP (List.replicate i 100000) ++ [.int .i64 100000]), .ow v2 3 1 i (aP (List.replicate i 100000)), .pt lt1 [.int .i64 100000] 3, .ow v3 3 1 i (aP (List.replicate i 0))] (by repeat (first | exact PickL.nil | (apply PickL.cons; rfl))) rfl (by repeat constructor) fun K1 hK1 => ?_
       (refine aG V Z Z Z (aN V Z Z Z ?_))
       refine bQ (q := 1) slI rfl rfl rfl (fun v' => by repeat constructor) (fun w' hs => ⟨_, _, Blk.rd (hs.blk (b := lt1) (by repeat constructor)) rfl 1⟩) (by simp [cU]) (by omega) (by omega) (fun ap1 => ?_)
       (refine aO ?_)
       exact hK1 _ _ (hS2_3_6_7 ⟨lt0, ap0, lt1, ap1, ()⟩ _ _ ⟨rfl, rfl, rfl, rfl, rfl, rfl, rfl, rfl, rfl, trivial⟩ (by repeat constructor))
      ·skip
       refine fU [.ow ap0 3 1 (i + 1) (aP (List.replicate i 100000) ++ [.int .i64 100000]), .ow v2 3 1 i (aP (List.replicate i 100000)), .pt lt1 [.int .i64 100000] 3, .ow v3 3 1 i (aP (List.replicate i 0))] (by repeat (first | exact PickL.nil | (apply PickL.cons; rfl))) rfl (by repeat constructor) fun K1 hK1 => ?_
       skip
       refine bK 3 [.int .i64 0] rfl (by kernel_rfl) rfl (fun lt2 => ?_)
       (refine aO ?_)
       exact hK1 _ _ (hS2_3_6_10 ⟨lt0, ap0, lt1, lt2, ()⟩ _ _ ⟨rfl, rfl, rfl, rfl, rfl, rfl, rfl, rfl, rfl, rfl, trivial⟩ (by repeat constructor))
     refine dV (σ := Nat × Value × Nat × Unit) (aC [6] (aC [4, 5, 7] (aC [8, 9, 11] (aC [12, 13, 14, 15, 16, 17] .nil)))) (fun ⟨lt0, ap0, lt2, ()⟩ => [(430, .int .i64 n), (24, .int .i64 n), (25, u), (26, .pointer (some ⟨b26, 0, none⟩)), (27, .pointer (some ⟨b27, 0, none⟩)), (434, .int .i64 n), (435, .int .i64 i), (453, ap0), (460, .slice (some ⟨lt2, 0, none⟩) 1 1)]) (fun ⟨lt0, ap0, lt2, ()⟩ => [.ow ap0 3 1 (i + 1) (aP (List.replicate i 100000) ++ [.int .i64 100000]), .ow v2 3 1 i (aP (List.replicate i 100000)), .ow v3 3 1 i (aP (List.replicate i 0)), .pt lt2 [.int .i64 0] 3, .pt b27 [v1, v2, v3] 44, .ow u 32 3 (i + 1) (lpC (List.replicate i dE) ++ lpC [dE]), .pt b26 [.int .i64 1000000, .int .i64 1000000, .slice a1 g1 c1] 39, .ow (.slice a1 g1 c1) 46 6 (i + 1) (dyC (List.replicate i dF) ++ dyC [dF])]) ?_ (fun hS2_3_10 => ?_)
     ·rintro ⟨lt0, ap0, lt2, _⟩
      refine fU [.ow ap0 3 1 (i + 1) (aP (List.replicate i 100000) ++ [.int .i64 100000]), .ow v2 3 1 i (aP (List.replicate i 100000)), .ow v3 3 1 i (aP (List.replicate i 0)), .pt lt2 [.int .i64 0] 3] (by repeat (first | exact PickL.nil | (apply PickL.cons; rfl))) rfl (by repeat constructor) fun K1 hK1 => ?_
      skip
      refine bK 3 [.int .i64 100000] rfl (by kernel_rfl) rfl (fun lt1 => ?_)
      (refine aO ?_)
      exact hK1 _ _ (hS2_3_6_10 ⟨lt0, ap0, lt1, lt2, ()⟩ _ _ ⟨rfl, rfl, rfl, rfl, rfl, rfl, rfl, rfl, rfl, rfl, trivial⟩ (by repeat constructor))
     refine dV (σ := Nat × Nat × Nat × Unit) (aC [0, 1, 3] (aC [4, 5, 7] (aC [8, 9, 11] (aC [12, 13, 14, 15, 16, 17] .nil)))) (fun ⟨lt0, lt1, lt2, ()⟩ => [(430, .int .i64 n), (24, .int .i64 n), (25, u), (26, .pointer (some ⟨b26, 0, none⟩)), (27, .pointer (some ⟨b27, 0, none⟩)), (434, .int .i64 n), (435, .int .i64 i), (452, .slice (some ⟨lt0, 0, none⟩) 1 1), (456, .slice (some ⟨lt1, 0, none⟩) 1 1), (460, .slice (some ⟨lt2, 0, none⟩) 1 1)]) (fun ⟨lt0, lt1, lt2, ()⟩ => [.ow v1 3 1 i (aP (List.replicate i 100000)), .pt lt0 [.int .i64 100000] 3, .ow v2 3 1 i (aP (List.replicate i 100000)), .pt lt1 [.int .i64 100000] 3, .ow v3 3 1 i (aP (List.replicate i 0)), .pt lt2 [.int .i64 0] 3, .pt b27 [v1, v2, v3] 44, .ow u 32 3 (i + 1) (lpC (List.replicate i dE) ++ lpC [dE]), .pt b26 [.int .i64 1000000, .int .i64 1000000, .slice a1 g1 c1] 39, .ow (.slice a1 g1 c1) 46 6 (i + 1) (dyC (List.replicate i dF) ++ dyC [dF])]) ?_ (fun hS2_6_10 => ?_)
     ·rintro ⟨lt0, lt1, lt2, _⟩
      refine fU [.ow v1 3 1 i (aP (List.replicate i 100000)), .pt lt0 [.int .i64 100000] 3, .ow v2 3 1 i (aP (List.replicate i 100000)), .pt lt1 [.int .i64 100000] 3, .ow v3 3 1 i (aP (List.replicate i 0)), .pt lt2 [.int .i64 0] 3] (by repeat (first | exact PickL.nil | (apply PickL.cons; rfl))) rfl (by repeat constructor) fun K1 hK1 => ?_
      (refine aG V Z Z Z (aN V Z Z Z ?_))
      refine bQ (q := 1) slI rfl rfl rfl (fun v' => by repeat constructor) (fun w' hs => ⟨_, _, Blk.rd (hs.blk (b := lt0) (by repeat constructor)) rfl 1⟩) (by simp [cU]) (by omega) (by omega) (fun ap0 => ?_)
      (refine aO ?_)
      exact hK1 _ _ (hS2_3_6_10 ⟨lt0, ap0, lt1, lt2, ()⟩ _ _ ⟨rfl, rfl, rfl, rfl, rfl, rfl, rfl, rfl, rfl, rfl, trivial⟩ (by repeat constructor))
     refine dV (σ := Nat × Value × Unit) (.alt (aC [6] (.alt (aC [4, 5, 7] (aC [10] (aC [8, 9, 11] (aC [12, 13, 14, 15, 16, 17] .nil)))) (aC [10] (aC [4, 5, 7] (aC [8, 9, 11] (aC [12, 13, 14, 15, 16, 17] .nil)))))) (aC [10] (aC [6] (aC [4, 5, 7] (aC [8, 9, 11] (aC [12, 13, 14, 15, 16, 17] .nil)))))) (fun ⟨lt0, ap0, ()⟩ => [(430, .int .i64 n), (24, .int .i64 n), (25, u), (26, .pointer (some ⟨b26, 0, none⟩)), (27, .pointer (some ⟨b27, 0, none⟩)), (434, .int .i64 n), (435, .int .i64 i), (453, ap0)]) (fun ⟨lt0, ap0, ()⟩ => [.ow ap0 3 1 (i + 1) (aP (List.replicate i 100000) ++ [.int .i64 100000]), .ow v2 3 1 i (aP (List.replicate i 100000)), .ow v3 3 1 i (aP (List.replicate i 0)), .pt b27 [v1, v2, v3] 44, .ow u 32 3 (i + 1) (lpC (List.replicate i dE) ++ lpC [dE]), .pt b26 [.int .i64 1000000, .int .i64 1000000, .slice a1 g1 c1] 39, .ow (.slice a1 g1 c1) 46 6 (i + 1) (dyC (List.replicate i dF) ++ dyC [dF])]) ?_ (fun hS2_3 => ?_)
     ·rintro ⟨lt0, ap0, _⟩
      refine fA ?_ ?_
      ·skip
       refine fU [.ow ap0 3 1 (i + 1) (aP (List.replicate i 100000) ++ [.int .i64 100000]), .ow v2 3 1 i (aP (List.replicate i 100000)), .ow v3 3 1 i (aP (List.replicate i 0))] (by repeat (first | exact PickL.nil | (apply PickL.cons; rfl))) rfl (by repeat constructor) fun K1 hK1 => ?_
       skip
       refine bK 3 [.int .i64 100000] rfl (by kernel_rfl) rfl (fun lt1 => ?_)
       (refine aO ?_)
       exact hK1 _ _ (hS2_3_6 ⟨lt0, ap0, lt1, ()⟩ _ _ ⟨rfl, rfl, rfl, rfl, rfl, rfl, rfl, rfl, rfl, trivial⟩ (by repeat constructor))
      ·skip
       refine fU [.ow ap0 3 1 (i + 1) (aP (List.replicate i 100000) ++ [.int .i64 100000]), .ow v2 3 1 i (aP (List.replicate i 100000)), .ow v3 3 1 i (aP (List.replicate i 0))] (by repeat (first | exact PickL.nil | (apply PickL.cons; rfl))) rfl (by repeat constructor) fun K1 hK1 => ?_
       skip
       refine bK 3 [.int .i64 0] rfl (by kernel_rfl) rfl (fun lt2 => ?_)
       (refine aO ?_)
       exact hK1 _ _ (hS2_3_10 ⟨lt0, ap0, lt2, ()⟩ _ _ ⟨rfl, rfl, rfl, rfl, rfl, rfl, rfl, rfl, rfl, trivial⟩ (by repeat constructor))
     refine dV (σ := Nat × Nat × Unit) (.alt (aC [0, 1, 3] (.alt (aC [4, 5, 7] (aC [10] (aC [8, 9, 11] (aC [12, 13, 14, 15, 16, 17] .nil)))) (aC [10] (aC [4, 5, 7] (aC [8, 9, 11] (aC [12, 13, 14, 15, 16, 17] .nil)))))) (aC [10] (aC [0, 1, 3] (aC [4, 5, 7] (aC [8, 9, 11] (aC [12, 13, 14, 15, 16, 17] .nil)))))) (fun ⟨lt0, lt1, ()⟩ => [(430, .int .i64 n), (24, .int .i64 n), (25, u), (26, .pointer (some ⟨b26, 0, none⟩)), (27, .pointer (some ⟨b27, 0, none⟩)), (434, .int .i64 n), (435, .int .i64 i), (452, .slice (some ⟨lt0, 0, none⟩) 1 1), (456, .slice (some ⟨lt1, 0, none⟩) 1 1)]) (fun ⟨lt0, lt1, ()⟩ => [.ow v1 3 1 i (aP (List.replicate i 100000)), .pt lt0 [.int .i64 100000] 3, .ow v2 3 1 i (aP (List.replicate i 100000)), .pt lt1 [.int .i64 100000] 3, .ow v3 3 1 i (aP (List.replicate i 0)), .pt b27 [v1, v2, v3] 44, .ow u 32 3 (i + 1) (lpC (List.replicate i dE) ++ lpC [dE]), .pt b26 [.int .i64 1000000, .int .i64 1000000, .slice a1 g1 c1] 39, .ow (.slice a1 g1 c1) 46 6 (i + 1) (dyC (List.replicate i dF) ++ dyC [dF])]) ?_ (fun hS2_6 => ?_)
     ·rintro ⟨lt0, lt1, _⟩
      refine fA ?_ ?_
      ·skip
       refine fU [.ow v1 3 1 i (aP (List.replicate i 100000)), .pt lt0 [.int .i64 100000] 3, .ow v2 3 1 i (aP (List.replicate i 100000)), .pt lt1 [.int .i64 100000] 3, .ow v3 3 1 i (aP (List.replicate i 0))] (by repeat (first | exact PickL.nil | (apply PickL.cons; rfl))) rfl (by repeat constructor) fun K1 hK1 => ?_
       (refine aG V Z Z Z (aN V Z Z Z ?_))
       refine bQ (q := 1) slI rfl rfl rfl (fun v' => by repeat constructor) (fun w' hs => ⟨_, _, Blk.rd (hs.blk (b := lt0) (by repeat constructor)) rfl 1⟩) (by simp [cU]) (by omega) (by omega) (fun ap0 => ?_)
       (refine aO ?_)
       exact hK1 _ _ (hS2_3_6 ⟨lt0, ap0, lt1, ()⟩ _ _ ⟨rfl, rfl, rfl, rfl, rfl, rfl, rfl, rfl, rfl, trivial⟩ (by repeat constructor))
      ·skip
       refine fU [.ow v1 3 1 i (aP (List.replicate i 100000)), .pt lt0 [.int .i64 100000] 3, .ow v2 3 1 i (aP (List.replicate i 100000)), .pt lt1 [.int .i64 100000] 3, .ow v3 3 1 i (aP (List.replicate i 0))] (by repeat (first | exact PickL.nil | (apply PickL.cons; rfl))) rfl (by repeat constructor) fun K1 hK1 => ?_
       skip
       refine bK 3 [.int .i64 0] rfl (by kernel_rfl) rfl (fun lt2 => ?_)
       (refine aO ?_)
       exact hK1 _ _ (hS2_6_10 ⟨lt0, lt1, lt2, ()⟩ _ _ ⟨rfl, rfl, rfl, rfl, rfl, rfl, rfl, rfl, rfl, rfl, trivial⟩ (by repeat constructor))
     refine dV (σ := Nat × Nat × Unit) (.alt (aC [0, 1, 3] (aC [6] (aC [4, 5, 7] (aC [8, 9, 11] (aC [12, 13, 14, 15, 16, 17] .nil))))) (aC [6] (aC [0, 1, 3] (aC [4, 5, 7] (aC [8, 9, 11] (aC [12, 13, 14, 15, 16, 17] .nil)))))) (fun ⟨lt0, lt2, ()⟩ => [(430, .int .i64 n), (24, .int .i64 n), (25, u), (26, .pointer (some ⟨b26, 0, none⟩)), (27, .pointer (some ⟨b27, 0, none⟩)), (434, .int .i64 n), (435, .int .i64 i), (452, .slice (some ⟨lt0, 0, none⟩) 1 1), (460, .slice (some ⟨lt2, 0, none⟩) 1 1)]) (fun ⟨lt0, lt2, ()⟩ => [.ow v1 3 1 i (aP (List.replicate i 100000)), .pt lt0 [.int .i64 100000] 3, .ow v2 3 1 i (aP (List.replicate i 100000)), .ow v3 3 1 i (aP (List.replicate i 0)), .pt lt2 [.int .i64 0] 3, .pt b27 [v1, v2, v3] 44, .ow u 32 3 (i + 1) (lpC (List.replicate i dE) ++ lpC [dE]), .pt b26 [.int .i64 1000000, .int .i64 1000000, .slice a1 g1 c1] 39, .ow (.slice a1 g1 c1) 46 6 (i + 1) (dyC (List.replicate i dF) ++ dyC [dF])]) ?_ (fun hS2_10 => ?_)
     ·rintro ⟨lt0, lt2, _⟩
      refine fA ?_ ?_
      ·skip
       refine fU [.ow v1 3 1 i (aP (List.replicate i 100000)), .pt lt0 [.int .i64 100000] 3, .ow v2 3 1 i (aP (List.replicate i 100000)), .ow v3 3 1 i (aP (List.replicate i 0)), .pt lt2 [.int .i64 0] 3] (by repeat (first | exact PickL.nil | (apply PickL.cons; rfl))) rfl (by repeat constructor) fun K1 hK1 => ?_
       (refine aG V Z Z Z (aN V Z Z Z ?_))
       refine bQ (q := 1) slI rfl rfl rfl (fun v' => by repeat constructor) (fun w' hs => ⟨_, _, Blk.rd (hs.blk (b := lt0) (by repeat constructor)) rfl 1⟩) (by simp [cU]) (by omega) (by omega) (fun ap0 => ?_)
       (refine aO ?_)
       exact hK1 _ _ (hS2_3_10 ⟨lt0, ap0, lt2, ()⟩ _ _ ⟨rfl, rfl, rfl, rfl, rfl, rfl, rfl, rfl, rfl, trivial⟩ (by repeat constructor))
      ·skip
       refine fU [.ow v1 3 1 i (aP (List.replicate i 100000)), .pt lt0 [.int .i64 100000] 3, .ow v2 3 1 i (aP (List.replicate i 100000)), .ow v3 3 1 i (aP (List.replicate i 0)), .pt lt2 [.int .i64 0] 3] (by repeat (first | exact PickL.nil | (apply PickL.cons; rfl))) rfl (by repeat constructor) fun K1 hK1 => ?_
       skip
       refine bK 3 [.int .i64 100000] rfl (by kernel_rfl) rfl (fun lt1 => ?_)
       (refine aO ?_)
       exact hK1 _ _ (hS2_6_10 ⟨lt0, lt1, lt2, ()⟩ _ _ ⟨rfl, rfl, rfl, rfl, rfl, rfl, rfl, rfl, rfl, rfl, trivial⟩ (by repeat constructor))
     refine dV (σ := Nat × Nat × Unit) (aC [2] (aC [0, 1, 3] (aC [4, 5, 7] (aC [8, 9, 11] (aC [12, 13, 14, 15, 16, 17] .nil))))) (fun ⟨lt1, lt2, ()⟩ => [(430, .int .i64 n), (24, .int .i64 n), (25, u), (26, .pointer (some ⟨b26, 0, none⟩)), (27, .pointer (some ⟨b27, 0, none⟩)), (434, .int .i64 n), (435, .int .i64 i), (456, .slice (some ⟨lt1, 0, none⟩) 1 1), (460, .slice (some ⟨lt2, 0, none⟩) 1 1)]) (fun ⟨lt1, lt2, ()⟩ => [.ow v1 3 1 i (aP (List.replicate i 100000)), .ow v2 3 1 i (aP (List.replicate i 100000)), .pt lt1 [.int .i64 100000] 3, .ow v3 3 1 i (aP (List.replicate i 0)), .pt lt2 [.int .i64 0] 3, .pt b27 [v1, v2, v3] 44, .ow u 32 3 (i + 1) (lpC (List.replicate i dE) ++ lpC [dE]), .pt b26 [.int .i64 1000000, .int .i64 1000000, .slice a1 g1 c1] 39, .ow (.slice a1 g1 c1) 46 6 (i + 1) (dyC (List.replicate i dF) ++ dyC [dF])]) ?_ (fun hS6_10 => ?_)
     ·rintro ⟨lt1, lt2, _⟩
      refine fU [.ow v1 3 1 i (aP (List.replicate i 100000)), .ow v2 3 1 i (aP (List.replicate i 100000)), .pt lt1 [.int .i64 100000] 3, .ow v3 3 1 i (aP (List.replicate i 0)), .pt lt2 [.int .i64 0] 3] (by repeat (first | exact PickL.nil | (apply PickL.cons; rfl))) rfl (by repeat constructor) fun K1 hK1 => ?_
      skip
      refine bK 3 [.int .i64 100000] rfl (by kernel_rfl) rfl (fun lt0 => ?_)
      (refine aO ?_)
      exact hK1 _ _ (hS2_6_10 ⟨lt0, lt1, lt2, ()⟩ _ _ ⟨rfl, rfl, rfl, rfl, rfl, rfl, rfl, rfl, rfl, rfl, trivial⟩ (by repeat constructor))
     refine dV (σ := Nat × Unit) (.alt (aC [0, 1, 3] (.alt (aC [6] (.alt (aC [4, 5, 7] (aC [10] (aC [8, 9, 11] (aC [12, 13, 14, 15, 16, 17] .nil)))) (aC [10] (aC [4, 5, 7] (aC [8, 9, 11] (aC [12, 13, 14, 15, 16, 17] .nil)))))) (aC [10] (aC [6] (aC [4, 5, 7] (aC [8, 9, 11] (aC [12, 13, 14, 15, 16, 17] .nil))))))) (.alt (aC [6] (.alt (aC [0, 1, 3] (.alt (aC [4, 5, 7] (aC [10] (aC [8, 9, 11] (aC [12, 13, 14, 15, 16, 17] .nil)))) (aC [10] (aC [4, 5, 7] (aC [8, 9, 11] (aC [12, 13, 14, 15, 16, 17] .nil)))))) (aC [10] (aC [0, 1, 3] (aC [4, 5, 7] (aC [8, 9, 11] (aC [12, 13, 14, 15, 16, 17] .nil))))))) (aC [10] (.alt (aC [0, 1, 3] (aC [6] (aC [4, 5, 7] (aC [8, 9, 11] (aC [12, 13, 14, 15, 16, 17] .nil))))) (aC [6] (aC [0, 1, 3] (aC [4, 5, 7] (aC [8, 9, 11] (aC [12, 13, 14, 15, 16, 17] .nil))))))))) (fun ⟨lt0, ()⟩ => [(430, .int .i64 n), (24, .int .i64 n), (25, u), (26, .pointer (some ⟨b26, 0, none⟩)), (27, .pointer (some ⟨b27, 0, none⟩)), (434, .int .i64 n), (435, .int .i64 i), (452, .slice (some ⟨lt0, 0, none⟩) 1 1)]) (fun ⟨lt0, ()⟩ => [.ow v1 3 1 i (aP (List.replicate i 100000)), .pt lt0 [.int .i64 100000] 3, .ow v2 3 1 i (aP (List.replicate i 100000)), .ow v3 3 1 i (aP (List.replicate i 0)), .pt b27 [v1, v2, v3] 44, .ow u 32 3 (i + 1) (lpC (List.replicate i dE) ++ lpC [dE]), .pt b26 [.int .i64 1000000, .int .i64 1000000, .slice a1 g1 c1] 39, .ow (.slice a1 g1 c1) 46 6 (i + 1) (dyC (List.replicate i dF) ++ dyC [dF])]) ?_ (fun hS2 => ?_)
     ·rintro ⟨lt0, _⟩
      refine fA ?_ (fA ?_ ?_)
      ·skip
       refine fU [.ow v1 3 1 i (aP (List.replicate i 100000)), .pt lt0 [.int .i64 100000] 3, .ow v2 3 1 i (aP (List.replicate i 100000)), .ow v3 3 1 i (aP (List.replicate i 0))] (by repeat (first | exact PickL.nil | (apply PickL.cons; rfl))) rfl (by repeat constructor) fun K1 hK1 => ?_
       (refine aG V Z Z Z (aN V Z Z Z ?_))
       refine bQ (q := 1) slI rfl rfl rfl (fun v' => by repeat constructor) (fun w' hs => ⟨_, _, Blk.rd (hs.blk (b := lt0) (by repeat constructor)) rfl 1⟩) (by simp [cU]) (by omega) (by omega) (fun ap0 => ?_)
       (refine aO ?_)
       exact hK1 _ _ (hS2_3 ⟨lt0, ap0, ()⟩ _ _ ⟨rfl, rfl, rfl, rfl, rfl, rfl, rfl, rfl, trivial⟩ (by repeat constructor))
      ·skip
       refine fU [.ow v1 3 1 i (aP (List.replicate i 100000)), .pt lt0 [.int .i64 100000] 3, .ow v2 3 1 i (aP (List.replicate i 100000)), .ow v3 3 1 i (aP (List.replicate i 0))] (by repeat (first | exact PickL.nil | (apply PickL.cons; rfl))) rfl (by repeat constructor) fun K1 hK1 => ?_
       skip
       refine bK 3 [.int .i64 100000] rfl (by kernel_rfl) rfl (fun lt1 => ?_)
       (refine aO ?_)
       exact hK1 _ _ (hS2_6 ⟨lt0, lt1, ()⟩ _ _ ⟨rfl, rfl, rfl, rfl, rfl, rfl, rfl, rfl, rfl, trivial⟩ (by repeat constructor))
      ·skip
       refine fU [.ow v1 3 1 i (aP (List.replicate i 100000)), .pt lt0 [.int .i64 100000] 3, .ow v2 3 1 i (aP (List.replicate i 100000)), .ow v3 3 1 i (aP (List.replicate i 0))] (by repeat (first | exact PickL.nil | (apply PickL.cons; rfl))) rfl (by repeat constructor) fun K1 hK1 => ?_
       skip
       refine bK 3 [.int .i64 0] rfl (by kernel_rfl) rfl (fun lt2 => ?_)
       (refine aO ?_)
       exact hK1 _ _ (hS2_10 ⟨lt0, lt2, ()⟩ _ _ ⟨rfl, rfl, rfl, rfl, rfl, rfl, rfl, rfl, rfl, trivial⟩ (by repeat constructor))
     refine dV (σ := Nat × Unit) (.alt (aC [2] (.alt (aC [0, 1, 3] (.alt (aC [4, 5, 7] (aC [10] (aC [8, 9, 11] (aC [12, 13, 14, 15, 16, 17] .nil)))) (aC [10] (aC [4, 5, 7] (aC [8, 9, 11] (aC [12, 13, 14, 15, 16, 17] .nil)))))) (aC [10] (aC [0, 1, 3] (aC [4, 5, 7] (aC [8, 9, 11] (aC [12, 13, 14, 15, 16, 17] .nil))))))) (aC [10] (aC [2] (aC [0, 1, 3] (aC [4, 5, 7] (aC [8, 9, 11] (aC [12, 13, 14, 15, 16, 17] .nil))))))) (fun ⟨lt1, ()⟩ => [(430, .int .i64 n), (24, .int .i64 n), (25, u), (26, .pointer (some ⟨b26, 0, none⟩)), (27, .pointer (some ⟨b27, 0, none⟩)), (434, .int .i64 n), (435, .int .i64 i), (456, .slice (some ⟨lt1, 0, none⟩) 1 1)]) (fun ⟨lt1, ()⟩ => [.ow v1 3 1 i (aP (List.replicate i 100000)), .ow v2 3 1 i (aP (List.replicate i 100000)), .pt lt1 [.int .i64 100000] 3, .ow v3 3 1 i (aP (List.replicate i 0)), .pt b27 [v1, v2, v3] 44, .ow u 32 3 (i + 1) (lpC (List.replicate i dE) ++ lpC [dE]), .pt b26 [.int .i64 1000000, .int .i64 1000000, .slice a1 g1 c1] 39, .ow (.slice a1 g1 c1) 46 6 (i + 1) (dyC (List.replicate i dF) ++ dyC [dF])]) ?_ (fun hS6 => ?_)
     ·rintro ⟨lt1, _⟩
      refine fA ?_ ?_
      ·skip
       refine fU [.ow v1 3 1 i (aP (List.replicate i 100000)), .ow v2 3 1 i (aP (List.replicate i 100000)), .pt lt1 [.int .i64 100000] 3, .ow v3 3 1 i (aP (List.replicate i 0))] (by repeat (first | exact PickL.nil | (apply PickL.cons; rfl))) rfl (by repeat constructor) fun K1 hK1 => ?_
       skip
       refine bK 3 [.int .i64 100000] rfl (by kernel_rfl) rfl (fun lt0 => ?_)
       (refine aO ?_)
       exact hK1 _ _ (hS2_6 ⟨lt0, lt1, ()⟩ _ _ ⟨rfl, rfl, rfl, rfl, rfl, rfl, rfl, rfl, rfl, trivial⟩ (by repeat constructor))
      ·skip
       refine fU [.ow v1 3 1 i (aP (List.replicate i 100000)), .ow v2 3 1 i (aP (List.replicate i 100000)), .pt lt1 [.int .i64 100000] 3, .ow v3 3 1 i (aP (List.replicate i 0))] (by repeat (first | exact PickL.nil | (apply PickL.cons; rfl))) rfl (by repeat constructor) fun K1 hK1 => ?_
       skip
       refine bK 3 [.int .i64 0] rfl (by kernel_rfl) rfl (fun lt2 => ?_)
       (refine aO ?_)
       exact hK1 _ _ (hS6_10 ⟨lt1, lt2, ()⟩ _ _ ⟨rfl, rfl, rfl, rfl, rfl, rfl, rfl, rfl, rfl, trivial⟩ (by repeat constructor))
     refine dV (σ := Nat × Unit) (.alt (aC [2] (.alt (aC [0, 1, 3] (aC [6] (aC [4, 5, 7] (aC [8, 9, 11] (aC [12, 13, 14, 15, 16, 17] .nil))))) (aC [6] (aC [0, 1, 3] (aC [4, 5, 7] (aC [8, 9, 11] (aC [12, 13, 14, 15, 16, 17] .nil))))))) (aC [6] (aC [2] (aC [0, 1, 3] (aC [4, 5, 7] (aC [8, 9, 11] (aC [12, 13, 14, 15, 16, 17] .nil))))))) (fun ⟨lt2, ()⟩ => [(430, .int .i64 n), (24, .int .i64 n), (25, u), (26, .pointer (some ⟨b26, 0, none⟩)), (27, .pointer (some ⟨b27, 0, none⟩)), (434, .int .i64 n), (435, .int .i64 i), (460, .slice (some ⟨lt2, 0, none⟩) 1 1)]) (fun ⟨lt2, ()⟩ => [.ow v1 3 1 i (aP (List.replicate i 100000)), .ow v2 3 1 i (aP (List.replicate i 100000)), .ow v3 3 1 i (aP (List.replicate i 0)), .pt lt2 [.int .i64 0] 3, .pt b27 [v1, v2, v3] 44, .ow u 32 3 (i + 1) (lpC (List.replicate i dE) ++ lpC [dE]), .pt b26 [.int .i64 1000000, .int .i64 1000000, .slice a1 g1 c1] 39, .ow (.slice a1 g1 c1) 46 6 (i + 1) (dyC (List.replicate i dF) ++ dyC [dF])]) ?_ (fun hS10 => ?_)
     ·rintro ⟨lt2, _⟩
      refine fA ?_ ?_
      ·skip
       refine fU [.ow v1 3 1 i (aP (List.replicate i 100000)), .ow v2 3 1 i (aP (List.replicate i 100000)), .ow v3 3 1 i (aP (List.replicate i 0)), .pt lt2 [.int .i64 0] 3] (by repeat (first | exact PickL.nil | (apply PickL.cons; rfl))) rfl (by repeat constructor) fun K1 hK1 => ?_
       skip
       refine bK 3 [.int .i64 100000] rfl (by kernel_rfl) rfl (fun lt0 => ?_)
       (refine aO ?_)
       exact hK1 _ _ (hS2_10 ⟨lt0, lt2, ()⟩ _ _ ⟨rfl, rfl, rfl, rfl, rfl, rfl, rfl, rfl, rfl, trivial⟩ (by repeat constructor))
      ·skip
       refine fU [.ow v1 3 1 i (aP (List.replicate i 100000)), .ow v2 3 1 i (aP (List.replicate i 100000)), .ow v3 3 1 i (aP (List.replicate i 0)), .pt lt2 [.int .i64 0] 3] (by repeat (first | exact PickL.nil | (apply PickL.cons; rfl))) rfl (by repeat constructor) fun K1 hK1 => ?_
       skip
       refine bK 3 [.int .i64 100000] rfl (by kernel_rfl) rfl (fun lt1 => ?_)
       (refine aO ?_)
       exact hK1 _ _ (hS6_10 ⟨lt1, lt2, ()⟩ _ _ ⟨rfl, rfl, rfl, rfl, rfl, rfl, rfl, rfl, rfl, trivial⟩ (by repeat constructor))
     refine fA ?_ (fA ?_ ?_)
     ·skip
      refine fU [.ow v1 3 1 i (aP (List.replicate i 100000)), .ow v2 3 1 i (aP (List.replicate i 100000)), .ow v3 3 1 i (aP (List.replicate i 0))] (by repeat (first | exact PickL.nil | (apply PickL.cons; rfl))) rfl (by repeat constructor) fun K1 hK1 => ?_
      skip
      refine bK 3 [.int .i64 100000] rfl (by kernel_rfl) rfl (fun lt0 => ?_)
      (refine aO ?_)
      exact hK1 _ _ (hS2 ⟨lt0, ()⟩ _ _ ⟨rfl, rfl, rfl, rfl, rfl, rfl, rfl, rfl, trivial⟩ (by repeat constructor))
     ·skip
      refine fU [.ow v1 3 1 i (aP (List.replicate i 100000)), .ow v2 3 1 i (aP (List.replicate i 100000)), .ow v3 3 1 i (aP (List.replicate i 0))] (by repeat (first | exact PickL.nil | (apply PickL.cons; rfl))) rfl (by repeat constructor) fun K1 hK1 => ?_
      skip
      refine bK 3 [.int .i64 100000] rfl (by kernel_rfl) rfl (fun lt1 => ?_)
      (refine aO ?_)
      exact hK1 _ _ (hS6 ⟨lt1, ()⟩ _ _ ⟨rfl, rfl, rfl, rfl, rfl, rfl, rfl, rfl, trivial⟩ (by repeat constructor))
     ·skip
      refine fU [.ow v1 3 1 i (aP (List.replicate i 100000)), .ow v2 3 1 i (aP (List.replicate i 100000)), .ow v3 3 1 i (aP (List.replicate i 0))] (by repeat (first | exact PickL.nil | (apply PickL.cons; rfl))) rfl (by repeat constructor) fun K1 hK1 => ?_
      skip
      refine bK 3 [.int .i64 0] rfl (by kernel_rfl) rfl (fun lt2 => ?_)
      (refine aO ?_)
      exact hK1 _ _ (hS10 ⟨lt2, ()⟩ _ _ ⟨rfl, rfl, rfl, rfl, rfl, rfl, rfl, rfl, trivial⟩ (by repeat constructor))
    ·have hin : i = n := by first | omega | (simp at hc; omega)
     subst hin
     clear hc hK3 hi
     refine cX (fun w hs => hs.slice2 (v := sv) (by repeat constructor)) ?_
     rintro ⟨sa, sc, rfl⟩
     refine cX (fun w hs => hs.slice2 (v := v) (by repeat constructor)) ?_
     rintro ⟨va, vc, rfl⟩
     refine cX (fun w hs => hs.slice2 (v := v1) (by repeat constructor)) ?_
     rintro ⟨a1, c1, rfl⟩
     refine cX (fun w hs => hs.slice2 (v := v2) (by repeat constructor)) ?_
     rintro ⟨a2, c2, rfl⟩
     refine cX (fun w hs => hs.slice2 (v := v3) (by repeat constructor)) ?_
     rintro ⟨a3, c3, rfl⟩
     (refine bO _ rfl (aD (aB ?_)))
     refine aK V Z Z Z Z (fun w hs => cG _ _ w) ?_
     skip
     refine aK V Z Z Z Z (fun w hs => cG _ _ w) ?_
     skip
     refine aK V Z Z Z Z (fun w hs => cG _ _ w) ?_
     skip
     refine dJ #[.int .i64 2, .int .i64 0, .int .i64 200000, .int .i64 0, .int .i64 200000, .int .i64 0, .int .i64 200000, .int .i64 20, .int .i64 6] rfl (by kernel_rfl) rfl ?_
     skip
     refine bI zero27 rfl (fun b28 => ?_)
     rcases (show (i = 0 ∨ (13 ≤ i ∧ i < 15)) ∨ (1 ≤ i ∧ i ≤ 12) ∨ (15 ≤ i ∧ i ≤ 60) ∨ 61 ≤ i by omega) with hq | hq | hq | hq
     ·have hs1 := big_s1 i (by omega)
      rcases hq with hq | hq
      ·subst hq
       have hw1 := big_w1 0 (by omega)
       (refine bS V Z Z Z Z Z (by repeat constructor) rfl ?_; refine aF (aD (aB (aA V Z Z (cL V Z Z Z (by omega) (aA V Z Z (aE Z (aA V Z Z (aE Z (aJ V Z Z Z (aE Z ?_)))))))))))
       refine aK (val := .bool true) V rfl rfl rfl rfl (fun w hs => ?_) ?_; exact fF w 0 w.heap.size (.slice sa 0 sc) (List.replicate 0 dE) bigR (gS (t := 32) hs (by repeat constructor) (by rw [List.length_replicate])) (by simp only [maxLen, List.length_replicate, List.length_take, List.length_cons, List.length_nil]; omega)
       (refine aE Z (aA V Z Z (aE Z (aA V Z Z (aE Z (aA V Z Z (aE Z (aJ V Z Z Z (aE Z ?_)))))))))
       refine cJ 3 (aP [0, 0, 0, 0, 0, 0]) rfl (by kernel_rfl) rfl (fun b6 => ?_)
       (refine aE Z ?_)
       refine aK (val := .bool true) V rfl rfl rfl rfl (fun w hs => ?_) ?_; exact eW w 0 w.heap.size 0 w.heap.size (.slice sa 0 sc) (.slice (some ⟨b6, 0, none⟩) 6 6) (List.replicate 0 dE) bigR [0, 0, 0, 0, 0, 0] 200 10000000 (gS (t := 32) hs (by repeat constructor) (by rw [List.length_replicate])) (by simp only [maxLen, List.length_replicate, List.length_take, List.length_cons, List.length_nil]; omega) (jN (l := [0, 0, 0, 0, 0, 0]) (hs.blk (b := b6) (by repeat constructor)) rfl) (show 6 ≤ maxLen by decide)
       (refine aE Z (aA V Z Z (aE Z (aA V Z Z (aE Z (aA V Z Z (aE Z (aA V Z Z (aE Z (aJ V Z Z Z (aE Z ?_)))))))))))
       refine aK (val := .int .i64 (checkS (List.replicate 0 dE) bigR)) V rfl rfl rfl rfl (fun w hs => ?_) ?_; exact dH w 0 w.heap.size (.slice sa 0 sc) (List.replicate 0 dE) bigR (gS (t := 32) hs (by repeat constructor) (by rw [List.length_replicate])) (by rw [List.length_replicate]; omega)
       (refine aE Z (fP V Z Z Z (by omega) (aE Z (aA V Z Z (aE Z (cT V Z Z Z (by omega) (aE Z (aA V Z Z (bE Z Z Z (bE Z Z Z (aE Z (aA V Z Z ?_))))))))))); refine aE Z ?_)
       refine ql_neb bool_b rfl rfl rfl ?_
       (refine aE Z ?_; (iterate 3 refine aA V Z Z ?_); refine aE Z (aJ V Z Z Z (aE Z (aJ V Z Z Z (aE Z ?_)))))
       refine aK (val := .bool true) V rfl rfl rfl rfl (fun w hs => ?_) ?_; exact win_i w 0 w.heap.size 0 va vc ⟨(List.replicate 0 100000), (List.replicate 0 100000), (List.replicate 0 0)⟩ (.slice a1 0 c1) (.slice a2 0 c2) (.slice a3 0 c3) hn2 (gB (t := 46) hs (by repeat constructor) (by rw [List.length_replicate])) ⟨⟨_, _, hs.rdI (l := (List.replicate 0 100000)) (by repeat constructor) (by rw [List.length_replicate])⟩, ⟨_, _, hs.rdI (l := (List.replicate 0 100000)) (by repeat constructor) (by rw [List.length_replicate])⟩, ⟨_, _, hs.rdI (l := (List.replicate 0 0)) (by repeat constructor) (by rw [List.length_replicate])⟩⟩ (by simp only [maxLen, List.length_replicate, List.length_take, List.length_cons, List.length_nil]; omega) (by simp only [maxLen, List.length_replicate, List.length_take, List.length_cons, List.length_nil]; omega) (by simp only [maxLen, List.length_replicate, List.length_take, List.length_cons, List.length_nil]; omega)
       (refine aE Z ?_; (iterate 3 refine aA V Z Z ?_); refine aE Z (aJ V Z Z Z (aE Z (aA V Z Z (aE Z (bA V Z Z Z Z (by omega) (by omega) (aE Z ?_)))))))
       refine dJ #[.int .i64 (-1), .int .i64 (((0 : Nat) : Int) - 1)] rfl (by kernel_rfl) rfl ?_
       (refine aE Z ?_)
       refine aK (val := .bool true) V rfl rfl rfl rfl (fun w hs => ?_) ?_; exact opn_i w 0 w.heap.size 0 va vc (-1) (((0 : Nat) : Int) - 1) hn2 (gB (t := 46) hs (by repeat constructor) (by rw [List.length_replicate]))
       (refine aE Z ?_; (iterate 3 refine aA V Z Z ?_); refine aE Z (aJ V Z Z Z (aE Z ?_)))
       refine aK (val := .int .i64 (checkW ⟨1000000, 1000000, (List.replicate 0 dF)⟩)) V rfl rfl rfl rfl (fun w hs => ?_) ?_; exact chk_i w 0 w.heap.size 0 va vc hn2 (gB (t := 46) hs (by repeat constructor) (by rw [List.length_replicate]))
       (refine aE Z (fP V Z Z Z (by omega) (aE Z (aA V Z Z (aE Z (cT V Z Z Z (by omega) (aE Z (aA V Z Z (bE Z Z Z (bE Z Z Z (aE Z (aA V Z Z ?_))))))))))); refine aE Z ?_)
       refine ql_neb bool_b rfl rfl rfl ?_
       (refine aA V Z Z (aF (aH Z (aM (bJ (aB (bA V Z Z Z Z (by omega) (by omega) (aA V Z Z (aF ?_)))))))))
       exact hK (0 + 1) _ _ (by omega) (by omega) ⟨rfl, trivial⟩ (by repeat constructor)
      ·have hw0 := big_w0 i (by omega)
       (refine bS V Z Z Z Z Z (by repeat constructor) rfl ?_; refine aF (aD (aB (aA V Z Z (cL V Z Z Z (by omega) (aA V Z Z (aE Z (aA V Z Z (aE Z (aJ V Z Z Z (aE Z ?_)))))))))))
       refine aK (val := .bool true) V rfl rfl rfl rfl (fun w hs => ?_) ?_; exact fF w 0 w.heap.size (.slice sa i sc) (List.replicate i dE) bigR (gS (t := 32) hs (by repeat constructor) (by rw [List.length_replicate])) (by simp only [maxLen, List.length_replicate, List.length_take, List.length_cons, List.length_nil]; omega)
       (refine aE Z (aA V Z Z (aE Z (aA V Z Z (aE Z (aA V Z Z (aE Z (aJ V Z Z Z (aE Z ?_)))))))))
       refine cJ 3 (aP [0, 0, 0, 0, 0, 0]) rfl (by kernel_rfl) rfl (fun b6 => ?_)
       (refine aE Z ?_)
       refine aK (val := .bool true) V rfl rfl rfl rfl (fun w hs => ?_) ?_; exact eW w 0 w.heap.size 0 w.heap.size (.slice sa i sc) (.slice (some ⟨b6, 0, none⟩) 6 6) (List.replicate i dE) bigR [0, 0, 0, 0, 0, 0] 200 10000000 (gS (t := 32) hs (by repeat constructor) (by rw [List.length_replicate])) (by simp only [maxLen, List.length_replicate, List.length_take, List.length_cons, List.length_nil]; omega) (jN (l := [0, 0, 0, 0, 0, 0]) (hs.blk (b := b6) (by repeat constructor)) rfl) (show 6 ≤ maxLen by decide)
       (refine aE Z (aA V Z Z (aE Z (aA V Z Z (aE Z (aA V Z Z (aE Z (aA V Z Z (aE Z (aJ V Z Z Z (aE Z ?_)))))))))))
       refine aK (val := .int .i64 (checkS (List.replicate i dE) bigR)) V rfl rfl rfl rfl (fun w hs => ?_) ?_; exact dH w 0 w.heap.size (.slice sa i sc) (List.replicate i dE) bigR (gS (t := 32) hs (by repeat constructor) (by rw [List.length_replicate])) (by rw [List.length_replicate]; omega)
       (refine aE Z (fP V Z Z Z (by omega) (aE Z (aA V Z Z (aE Z (cP V Z Z Z (by omega) (aE Z (aA V Z Z (aE Z (aA V Z Z (aE Z (cI V Z Z Z (by omega) ?_))))))))))); refine aE Z (aA V Z Z (aE Z ?_)))
       refine ql_neb bool_b rfl rfl rfl ?_
       (refine aE Z ?_; (iterate 3 refine aA V Z Z ?_); refine aE Z (aJ V Z Z Z (aE Z (aJ V Z Z Z (aE Z ?_)))))
       refine aK (val := .bool true) V rfl rfl rfl rfl (fun w hs => ?_) ?_; exact win_i w 0 w.heap.size i va vc ⟨(List.replicate i 100000), (List.replicate i 100000), (List.replicate i 0)⟩ (.slice a1 i c1) (.slice a2 i c2) (.slice a3 i c3) hn2 (gB (t := 46) hs (by repeat constructor) (by rw [List.length_replicate])) ⟨⟨_, _, hs.rdI (l := (List.replicate i 100000)) (by repeat constructor) (by rw [List.length_replicate])⟩, ⟨_, _, hs.rdI (l := (List.replicate i 100000)) (by repeat constructor) (by rw [List.length_replicate])⟩, ⟨_, _, hs.rdI (l := (List.replicate i 0)) (by repeat constructor) (by rw [List.length_replicate])⟩⟩ (by simp only [maxLen, List.length_replicate, List.length_take, List.length_cons, List.length_nil]; omega) (by simp only [maxLen, List.length_replicate, List.length_take, List.length_cons, List.length_nil]; omega) (by simp only [maxLen, List.length_replicate, List.length_take, List.length_cons, List.length_nil]; omega)
       (refine aE Z ?_; (iterate 3 refine aA V Z Z ?_); refine aE Z (aJ V Z Z Z (aE Z (aA V Z Z (aE Z (bA V Z Z Z Z (by omega) (by omega) (aE Z ?_)))))))
       refine dJ #[.int .i64 (-1), .int .i64 ((i : Int) - 1)] rfl (by kernel_rfl) rfl ?_
       (refine aE Z ?_)
       refine aK (val := .bool true) V rfl rfl rfl rfl (fun w hs => ?_) ?_; exact opn_i w 0 w.heap.size i va vc (-1) ((i : Int) - 1) hn2 (gB (t := 46) hs (by repeat constructor) (by rw [List.length_replicate]))
       (refine aE Z ?_; (iterate 3 refine aA V Z Z ?_); refine aE Z (aJ V Z Z Z (aE Z ?_)))
       refine aK (val := .int .i64 (checkW ⟨1000000, 1000000, (List.replicate i dF)⟩)) V rfl rfl rfl rfl (fun w hs => ?_) ?_; exact chk_i w 0 w.heap.size i va vc hn2 (gB (t := 46) hs (by repeat constructor) (by rw [List.length_replicate]))
       (refine aE Z (cO V Z Z Z (by omega) (aE Z (aA V Z Z (aE Z (cP V Z Z Z (by omega) (aE Z (aA V Z Z (aE Z (aA V Z Z (aE Z (cL V Z Z Z (by omega) ?_))))))))))); refine aE Z (aA V Z Z (aE Z ?_)))
       refine ql_neb bool_b rfl rfl rfl ?_
       (refine aA V Z Z (aF (aH Z (aM (bJ (aB (bA V Z Z Z Z (by omega) (by omega) (aA V Z Z (aF ?_)))))))))
       exact hK (i + 1) _ _ (by omega) (by omega) ⟨rfl, trivial⟩ (by repeat constructor)
     ·have hs0 := big_s0 i hq
      have hw0 := big_w0 i (by omega)
      (refine bS V Z Z Z Z Z (by repeat constructor) rfl ?_; refine aF (aD (aB (aA V Z Z (cL V Z Z Z (by omega) (aA V Z Z (aE Z (aA V Z Z (aE Z (aJ V Z Z Z (aE Z ?_)))))))))))
      refine aK (val := .bool true) V rfl rfl rfl rfl (fun w hs => ?_) ?_; exact fF w 0 w.heap.size (.slice sa i sc) (List.replicate i dE) bigR (gS (t := 32) hs (by repeat constructor) (by rw [List.length_replicate])) (by simp only [maxLen, List.length_replicate, List.length_take, List.length_cons, List.length_nil]; omega)
      (refine aE Z (aA V Z Z (aE Z (aA V Z Z (aE Z (aA V Z Z (aE Z (aJ V Z Z Z (aE Z ?_)))))))))
      refine cJ 3 (aP [0, 0, 0, 0, 0, 0]) rfl (by kernel_rfl) rfl (fun b6 => ?_)
      (refine aE Z ?_)
      refine aK (val := .bool true) V rfl rfl rfl rfl (fun w hs => ?_) ?_; exact eW w 0 w.heap.size 0 w.heap.size (.slice sa i sc) (.slice (some ⟨b6, 0, none⟩) 6 6) (List.replicate i dE) bigR [0, 0, 0, 0, 0, 0] 200 10000000 (gS (t := 32) hs (by repeat constructor) (by rw [List.length_replicate])) (by simp only [maxLen, List.length_replicate, List.length_take, List.length_cons, List.length_nil]; omega) (jN (l := [0, 0, 0, 0, 0, 0]) (hs.blk (b := b6) (by repeat constructor)) rfl) (show 6 ≤ maxLen by decide)
      (refine aE Z (aA V Z Z (aE Z (aA V Z Z (aE Z (aA V Z Z (aE Z (aA V Z Z (aE Z (aJ V Z Z Z (aE Z ?_)))))))))))
      refine aK (val := .int .i64 (checkS (List.replicate i dE) bigR)) V rfl rfl rfl rfl (fun w hs => ?_) ?_; exact dH w 0 w.heap.size (.slice sa i sc) (List.replicate i dE) bigR (gS (t := 32) hs (by repeat constructor) (by rw [List.length_replicate])) (by rw [List.length_replicate]; omega)
      (refine aE Z (cO V Z Z Z (by omega) (aE Z (aA V Z Z (aE Z (cP V Z Z Z (by omega) (aE Z (aA V Z Z (aE Z (aA V Z Z (aE Z (cL V Z Z Z (by omega) ?_))))))))))); refine aE Z (aA V Z Z (aE Z ?_)))
      refine ql_neb bool_b rfl rfl rfl ?_
      (refine aE Z ?_; (iterate 3 refine aA V Z Z ?_); refine aE Z (aJ V Z Z Z (aE Z (aJ V Z Z Z (aE Z ?_)))))
      refine aK (val := .bool true) V rfl rfl rfl rfl (fun w hs => ?_) ?_; exact win_i w 0 w.heap.size i va vc ⟨(List.replicate i 100000), (List.replicate i 100000), (List.replicate i 0)⟩ (.slice a1 i c1) (.slice a2 i c2) (.slice a3 i c3) hn2 (gB (t := 46) hs (by repeat constructor) (by rw [List.length_replicate])) ⟨⟨_, _, hs.rdI (l := (List.replicate i 100000)) (by repeat constructor) (by rw [List.length_replicate])⟩, ⟨_, _, hs.rdI (l := (List.replicate i 100000)) (by repeat constructor) (by rw [List.length_replicate])⟩, ⟨_, _, hs.rdI (l := (List.replicate i 0)) (by repeat constructor) (by rw [List.length_replicate])⟩⟩ (by simp only [maxLen, List.length_replicate, List.length_take, List.length_cons, List.length_nil]; omega) (by simp only [maxLen, List.length_replicate, List.length_take, List.length_cons, List.length_nil]; omega) (by simp only [maxLen, List.length_replicate, List.length_take, List.length_cons, List.length_nil]; omega)
      (refine aE Z ?_; (iterate 3 refine aA V Z Z ?_); refine aE Z (aJ V Z Z Z (aE Z (aA V Z Z (aE Z (bA V Z Z Z Z (by omega) (by omega) (aE Z ?_)))))))
      refine dJ #[.int .i64 (-1), .int .i64 ((i : Int) - 1)] rfl (by kernel_rfl) rfl ?_
      (refine aE Z ?_)
      refine aK (val := .bool true) V rfl rfl rfl rfl (fun w hs => ?_) ?_; exact opn_i w 0 w.heap.size i va vc (-1) ((i : Int) - 1) hn2 (gB (t := 46) hs (by repeat constructor) (by rw [List.length_replicate]))
      (refine aE Z ?_; (iterate 3 refine aA V Z Z ?_); refine aE Z (aJ V Z Z Z (aE Z ?_)))
      refine aK (val := .int .i64 (checkW ⟨1000000, 1000000, (List.replicate i dF)⟩)) V rfl rfl rfl rfl (fun w hs => ?_) ?_; exact chk_i w 0 w.heap.size i va vc hn2 (gB (t := 46) hs (by repeat constructor) (by rw [List.length_replicate]))
      (refine aE Z (cO V Z Z Z (by omega) (aE Z (aA V Z Z (aE Z (cP V Z Z Z (by omega) (aE Z (aA V Z Z (aE Z (aA V Z Z (aE Z (cL V Z Z Z (by omega) ?_))))))))))); refine aE Z (aA V Z Z (aE Z ?_)))
      refine ql_neb bool_b rfl rfl rfl ?_
      (refine aA V Z Z (aF (aH Z (aM (bJ (aB (bA V Z Z Z Z (by omega) (by omega) (aA V Z Z (aF ?_)))))))))
      exact hK (i + 1) _ _ (by omega) (by omega) ⟨rfl, trivial⟩ (by repeat constructor)
     ·have hw0 := big_w0 i (by omega)
      (refine bS V Z Z Z Z Z (by repeat constructor) rfl ?_; refine aF (aD (aB (aA V Z Z (cI V Z Z Z (by omega) (aA V Z Z ?_))))); (iterate 5 refine bE Z Z Z ?_); (iterate 5 refine kD Z Z ?_); refine bE Z Z Z (bE Z Z Z ?_); (iterate 11 refine kD Z Z ?_); refine bE Z Z Z (aA V Z Z (aA V Z Z (aE Z (aJ V Z Z Z (aE Z (aJ V Z Z Z (aE Z ?_))))))))
      refine aK (val := .bool true) V rfl rfl rfl rfl (fun w hs => ?_) ?_; exact win_i w 0 w.heap.size i va vc ⟨(List.replicate i 100000), (List.replicate i 100000), (List.replicate i 0)⟩ (.slice a1 i c1) (.slice a2 i c2) (.slice a3 i c3) hn2 (gB (t := 46) hs (by repeat constructor) (by rw [List.length_replicate])) ⟨⟨_, _, hs.rdI (l := (List.replicate i 100000)) (by repeat constructor) (by rw [List.length_replicate])⟩, ⟨_, _, hs.rdI (l := (List.replicate i 100000)) (by repeat constructor) (by rw [List.length_replicate])⟩, ⟨_, _, hs.rdI (l := (List.replicate i 0)) (by repeat constructor) (by rw [List.length_replicate])⟩⟩ (by simp only [maxLen, List.length_replicate, List.length_take, List.length_cons, List.length_nil]; omega) (by simp only [maxLen, List.length_replicate, List.length_take, List.length_cons, List.length_nil]; omega) (by simp only [maxLen, List.length_replicate, List.length_take, List.length_cons, List.length_nil]; omega)
      (refine aE Z ?_; (iterate 3 refine aA V Z Z ?_); refine aE Z (aJ V Z Z Z (aE Z (aA V Z Z (aE Z (bA V Z Z Z Z (by omega) (by omega) (aE Z ?_)))))))
      refine dJ #[.int .i64 (-1), .int .i64 ((i : Int) - 1)] rfl (by kernel_rfl) rfl ?_
      (refine aE Z ?_)
      refine aK (val := .bool true) V rfl rfl rfl rfl (fun w hs => ?_) ?_; exact opn_i w 0 w.heap.size i va vc (-1) ((i : Int) - 1) hn2 (gB (t := 46) hs (by repeat constructor) (by rw [List.length_replicate]))
      (refine aE Z ?_; (iterate 3 refine aA V Z Z ?_); refine aE Z (aJ V Z Z Z (aE Z ?_)))
      refine aK (val := .int .i64 (checkW ⟨1000000, 1000000, (List.replicate i dF)⟩)) V rfl rfl rfl rfl (fun w hs => ?_) ?_; exact chk_i w 0 w.heap.size i va vc hn2 (gB (t := 46) hs (by repeat constructor) (by rw [List.length_replicate]))
      (refine aE Z (cO V Z Z Z (by omega) (aE Z (aA V Z Z (aE Z (cP V Z Z Z (by omega) (aE Z (aA V Z Z (aE Z (aA V Z Z (aE Z (cL V Z Z Z (by omega) ?_))))))))))); refine aE Z (aA V Z Z (aE Z ?_)))
      refine ql_neb bool_b rfl rfl rfl ?_
      (refine aA V Z Z (aF (aH Z (aM (bJ (aB (bA V Z Z Z Z (by omega) (by omega) (aA V Z Z (aF ?_)))))))))
      exact hK (i + 1) _ _ (by omega) (by omega) ⟨rfl, trivial⟩ (by repeat constructor)
     ·have hw1 := big_w1 i (by omega)
      (refine bS V Z Z Z Z Z (by repeat constructor) rfl ?_; refine aF (aD (aB (aA V Z Z (cI V Z Z Z (by omega) (aA V Z Z ?_))))); (iterate 5 refine bE Z Z Z ?_); (iterate 5 refine kD Z Z ?_); refine bE Z Z Z (bE Z Z Z ?_); (iterate 11 refine kD Z Z ?_); refine bE Z Z Z (aA V Z Z (aA V Z Z (aE Z (aJ V Z Z Z (aE Z (aJ V Z Z Z (aE Z ?_))))))))
      refine aK (val := .bool true) V rfl rfl rfl rfl (fun w hs => ?_) ?_; exact win_i w 0 w.heap.size i va vc ⟨(List.replicate i 100000), (List.replicate i 100000), (List.replicate i 0)⟩ (.slice a1 i c1) (.slice a2 i c2) (.slice a3 i c3) hn2 (gB (t := 46) hs (by repeat constructor) (by rw [List.length_replicate])) ⟨⟨_, _, hs.rdI (l := (List.replicate i 100000)) (by repeat constructor) (by rw [List.length_replicate])⟩, ⟨_, _, hs.rdI (l := (List.replicate i 100000)) (by repeat constructor) (by rw [List.length_replicate])⟩, ⟨_, _, hs.rdI (l := (List.replicate i 0)) (by repeat constructor) (by rw [List.length_replicate])⟩⟩ (by simp only [maxLen, List.length_replicate, List.length_take, List.length_cons, List.length_nil]; omega) (by simp only [maxLen, List.length_replicate, List.length_take, List.length_cons, List.length_nil]; omega) (by simp only [maxLen, List.length_replicate, List.length_take, List.length_cons, List.length_nil]; omega)
      (refine aE Z ?_; (iterate 3 refine aA V Z Z ?_); refine aE Z (aJ V Z Z Z (aE Z (aA V Z Z (aE Z (bA V Z Z Z Z (by omega) (by omega) (aE Z ?_)))))))
      refine dJ #[.int .i64 (-1), .int .i64 ((i : Int) - 1)] rfl (by kernel_rfl) rfl ?_
      (refine aE Z ?_)
      refine aK (val := .bool true) V rfl rfl rfl rfl (fun w hs => ?_) ?_; exact opn_i w 0 w.heap.size i va vc (-1) ((i : Int) - 1) hn2 (gB (t := 46) hs (by repeat constructor) (by rw [List.length_replicate]))
      (refine aE Z ?_; (iterate 3 refine aA V Z Z ?_); refine aE Z (aJ V Z Z Z (aE Z ?_)))
      refine aK (val := .int .i64 (checkW ⟨1000000, 1000000, (List.replicate i dF)⟩)) V rfl rfl rfl rfl (fun w hs => ?_) ?_; exact chk_i w 0 w.heap.size i va vc hn2 (gB (t := 46) hs (by repeat constructor) (by rw [List.length_replicate]))
      (refine aE Z (fP V Z Z Z (by omega) (aE Z (aA V Z Z (aE Z (cP V Z Z Z (by omega) (aE Z (aA V Z Z (aE Z (aA V Z Z (aE Z (cI V Z Z Z (by omega) ?_))))))))))); refine aE Z (aA V Z Z (aE Z ?_)))
      refine ql_neb bool_b rfl rfl rfl ?_
      (refine aA V Z Z (aF (aH Z (aM (bJ (aB (bA V Z Z Z Z (by omega) (by omega) (aA V Z Z (aF ?_)))))))))
      exact hK (i + 1) _ _ (by omega) (by omega) ⟨rfl, trivial⟩ (by repeat constructor)
   ·clear hc hK hn
    (refine bO _ rfl (aD (aB (aA V Z Z (aF (aD (aD (aB (aA V Z Z (aF (aQ ?_)))))))))))
    refine eD (H' := [.ow (.slice none 0 0) 32 3 0 (lpC [])]) (fun w' hs => (Sat.ownil hs 32 3).sp (by repeat constructor)) ?_
    refine cB (σ := Nat × Value) (fun q => q.1 ≤ 7) (fun q => 7 - q.1) (fun q => [(525, .int .i64 q.1), (29, q.2)]) (fun q => [.ow q.2 32 3 q.1 (lpC (List.replicate q.1 sevLp))]) (0, .slice none 0 0) (by simp only; omega) ⟨rfl, rfl, trivial⟩ (by repeat constructor) ?_
    rintro ⟨i, v⟩ hi K3 hK3
    dsimp only at hi ⊢
    (refine aD (aB (aA V Z Z (aF (aD ?_)))))
    refine dL Z (fun hc => ?_) (fun hc => ?_)
    ·have hi2 : i < 7 := by first | omega | (simp at hc; omega)
     clear hc
     (refine aM (aD (aQ (aB (aA V Z Z ?_)))))
     refine dJ #[.int .i64 1000, .int .i64 0, .int .i64 1] rfl (by kernel_rfl) rfl ?_
     refine cJ 32 (lpC [sevLp]) rfl (by kernel_rfl) rfl (fun bn => ?_)
     refine bZ (q := 1) slLp rfl rfl rfl (fun v' => by repeat constructor) (fun w' hs => ⟨_, _, Blk.rdLp (hs.blk (b := bn) (by repeat constructor))⟩) (lpC_one _) (by omega) (by omega) (fun u => ?_)
     (refine aA V Z Z (aF (bJ (aB (bA V Z Z Z Z (by omega) (by omega) (aA V Z Z (aF ?_)))))))
     exact hK3 (i + 1, u) _ _ (by simp only; omega) (by simp only; omega) ⟨rfl, rfl, trivial⟩ (by dsimp only; rw [List.replicate_succ', lpC_snoc]; repeat constructor)
    ·have hi7 : i = 7 := by first | omega | (simp at hc; omega)
     subst hi7
     clear hc hK3 hi
     refine cX (fun w hs => hs.slice2 (v := v) (by repeat constructor)) ?_
     rintro ⟨sa, sc, rfl⟩
     (refine bO _ rfl (aD (aB ?_)))
     refine aK V Z Z Z Z (fun w hs => cG _ _ w) ?_
     skip
     refine aK V Z Z Z Z (fun w hs => cG _ _ w) ?_
     skip
     refine aK V Z Z Z Z (fun w hs => cG _ _ w) ?_
     skip
     refine dJ #[.int .i64 6, .int .i64 0, .int .i64 200000, .int .i64 0, .int .i64 200000, .int .i64 0, .int .i64 200000, .int .i64 1, .int .i64 6] rfl (by kernel_rfl) rfl ?_
     skip
     refine bI zero27 rfl (fun b30 => ?_)
     (refine bS V Z Z Z Z Z (by repeat constructor) rfl ?_; refine aF (aD (aB (aA V Z Z (aJ V Z Z Z ?_)))))
     refine bG (β := Value × List (Value × List Int)) V [] _ M0 rfl rfl rfl rfl (Sp.refl _) (fun _ h => h.elim) (fun w' hs => (sev_all w' 0 w'.heap.size sa sc 6 (gS (t := 32) hs (by repeat constructor) rfl))) ?_
     rintro ⟨y1, z1⟩ _ ⟨rfl, hz1⟩
     dsimp only
     rw [sev6]
     (refine aA V Z Z (aT V Z Z Z (aT V Z Z Z (aA V Z Z (aA V Z Z (aF (aD (aB (aA V Z Z ?_)))))))); refine ql_st8 V Z Z Z Z (by repeat constructor) ?_; refine aF (aD (aB (aA V Z Z (aJ V Z Z Z ?_)))))
     refine bG (β := Value × List (Value × List Int)) V [] _ M0 rfl rfl rfl rfl (Sp.refl _) (fun _ h => h.elim) (fun w' hs => (sev_all w' 0 w'.heap.size sa sc 2 (gS (t := 32) hs (by repeat constructor) rfl))) ?_
     rintro ⟨y2, z2⟩ _ ⟨rfl, hz2⟩
     dsimp only
     rw [sev2]
     (refine aA V Z Z (aT V Z Z Z (aT V Z Z Z (aA V Z Z (aA V Z Z (aF (aD (aB (aA V Z Z ?_)))))))); refine ql_st8 V Z Z Z Z (by repeat constructor) ?_; refine aF (aD (aB (aA V Z Z (aJ V Z Z Z ?_)))))
     refine bG (β := Value × List (Value × List Int)) V [] _ M0 rfl rfl rfl rfl (Sp.refl _) (fun _ h => h.elim) (fun w' hs => (sev_all w' 0 w'.heap.size sa sc 1 (gS (t := 32) hs (by repeat constructor) rfl))) ?_
     rintro ⟨y3, z3⟩ _ ⟨rfl, hz3⟩
     dsimp only
     rw [sev1.1]
     have hlen : z3.length = 7 := by rw [← List.length_map (f := (·.2)), hz3]; exact sev1.2
     dsimp only [lsK, List.cons_append, List.nil_append]
     refine bL (fun w hs => hs.slice2 (v := y3) (by repeat constructor)) ?_
     rintro ⟨ya, yc, rfl⟩
     rw [hlen]
     (refine aA V Z Z (aT V Z Z Z (aT V Z Z Z (aA V Z Z (aA V Z Z (aF (aD (aB (aA V Z Z (cO V Z Z Z (by omega) (aA V Z Z (aE Z ?_))))))))))); refine aA V Z Z (aE Z (cO V Z Z Z (by omega) (aA V Z Z (aA V Z Z (aE Z (aA V Z Z (aE Z (cO V Z Z Z (by omega) (aA V Z Z (aA V Z Z (aE Z ?_))))))))))); refine aA V Z Z (aE Z (aA V Z Z (aE Z (cO V Z Z Z (by omega) (aA V Z Z (aA V Z Z (aE Z ?_))))))))
     refine dJ #[.int .i64 0, .int .i64 0, .int .i64 0, .int .i64 0, .int .i64 0, .int .i64 0, .int .i64 0, .int .i64 0, .int .i64 0] rfl (by kernel_rfl) rfl ?_
     (refine aE Z ?_)
     refine aK (val := .bool true) V rfl rfl rfl rfl (fun w hs => ?_) ?_; exact iB w 0 0 0 0 (.slice none 0 0) (.slice none 0 0) [] ⟨0, 0, 0, 0, 0, 0, 0, 0, 0⟩ [] (RdL.of (rd_nil w 3)) (by decide) (RdI.of (rd_nil w 1)) (by decide)
     (refine aA V Z Z (aA V Z Z (aE Z ?_)))
     refine dJ #[.int .i64 0, .int .i64 1, .slice none 0 0] rfl (by kernel_rfl) rfl ?_
     (refine aE Z ?_)
     refine dJ #[.slice none 0 0, .slice none 0 0, .slice none 0 0] rfl (by kernel_rfl) rfl ?_
     (refine aE Z ?_)
     refine aK (val := .bool true) V rfl rfl rfl rfl (fun w hs => ?_) ?_; exact fJ w 0 0 ⟨0, 1, []⟩ none 0 ⟨[], [], []⟩ (.slice none 0 0) (.slice none 0 0) (.slice none 0 0) (RdD.of (rd_nil w 6)) (by decide) ⟨⟨_, _, RdI.of (rd_nil w 1)⟩, ⟨_, _, RdI.of (rd_nil w 1)⟩, ⟨_, _, RdI.of (rd_nil w 1)⟩⟩ (by decide) (by decide) (by decide)
     (refine aA V Z Z (aA V Z Z (aE Z ?_)))
     refine aK (val := .bool true) V rfl rfl rfl rfl (fun w hs => ?_) ?_; exact dS w
     (refine aA V Z Z (aA V Z Z (aF (aS ?_))))
     refine aU V Z (by repeat constructor) fun w hs => ?_
     exact ⟨rfl, hs.chg0⟩
end Go.Proofs.YtgeajgmefokifaaGreat
