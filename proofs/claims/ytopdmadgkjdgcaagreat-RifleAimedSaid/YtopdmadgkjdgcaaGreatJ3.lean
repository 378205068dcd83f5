/- My texts F1, Sort, SortI, R9, R10, B38, B39, B40, B41, B42, B43, B44, B45, B46, B47, F44, F45, F46, F2, F3, F4, F5, F6, F7, F8, F9, joined: a claim takes at most 60 files. -/
import Derived.Test.YtopdmadgkjdgcaaGreatJ2
import Derived.Shelf.Sort.Plain
import Derived.Shelf.Slices.In.SortNone

/- Walks of rifle: small functions; which guards are right; whether a hold covers a minute. -/
namespace Go.Proofs.YtopdmadgkjdgcaaGreat
set_option maxRecDepth 4000
open Go Go.Eng
theorem rfin_ca (n lo hi : Int) (w : World) : Ca Tryz.prog 109 [.int .i64 n, .int .i64 lo, .int .i64 hi] w fun v w' => v = .bool (inB n lo hi) ∧ Chg [] w w' := by
  refine q_of (Sat.nil w M0) Tryz.func109 rfl (by simp [Tryz.ntmps109]) ?_
  (refine q_seq (q_region (ql_pure tabOk rfl rfl (q_nil (q_seq (q_region ?_))))); (iterate 4 refine ql_pure tabOk rfl rfl ?_))
  refine ql_split rfl rfl (fun hc => ?_) (fun hc => ?_)
  · (refine ql_gyes rfl (ql_pure tabOk rfl rfl (ql_gyes rfl (ql_pure tabOk rfl rfl (ql_gyes rfl ?_)))); (iterate 3 refine ql_pure tabOk rfl rfl ?_); refine q_nil (q_ret ?_))
    refine q_fin tabOk rfl (by repeat constructor) fun w hs => ?_
    exact ⟨by simp at hc; simp [inB, hc, retV], hs.chg0⟩
  · ((iterate 3 refine ql_gno rfl rfl rfl ?_); refine ql_pure tabOk rfl rfl (ql_pure tabOk rfl rfl (q_nil (q_ret ?_))))
    refine q_fin tabOk rfl (by repeat constructor) fun w hs => ?_
    exact ⟨by simp at hc; simp [inB, retV]; omega, hs.chg0⟩
def hdB (h : Hd) : Bool := (inB h.who 0 99 && inB h.f 0 h.t) && decide (h.t ≤ 10000)
theorem hdB_iff {h : Hd} : hdB h = true ↔ (0 ≤ h.who ∧ h.who ≤ 99) ∧ (0 ≤ h.f ∧ h.f ≤ h.t) ∧ h.t ≤ 10000 := by
  unfold hdB
  rw [Bool.and_eq_true, Bool.and_eq_true, inB_iff, inB_iff, decide_eq_true_iff, and_assoc]
def pHd : Value → Bool
  | .agg cs => match cs.toList with
    | [.int _ a, .int _ b, .int _ c] => hdB ⟨a, b, c⟩
    | _ => false
  | _ => false
theorem pHd_all (l : List Hd) : (l.map hdV).all pHd = l.all hdB := by
  rw [List.all_map]
  rfl
/-- The error of a guard. -/
def chkG (L : List Hd) : Int := if L.length < 1 ∨ 30 < L.length then 2 else if L.all hdB = true then 0 else 3
structure GOk (L : List Hd) : Prop where
  n1 : 1 ≤ L.length
  n30 : L.length ≤ 30
  all : ∀ h ∈ L, (0 ≤ h.who ∧ h.who ≤ 99) ∧ (0 ≤ h.f ∧ h.f ≤ h.t) ∧ h.t ≤ 10000
theorem chkG_zero {L : List Hd} : chkG L = 0 ↔ GOk L := by
  unfold chkG
  constructor
  · intro h
    split at h
    · omega
    split at h
    · rename_i h1 h2
      exact ⟨by omega, by omega, fun x hx => hdB_iff.1 (List.all_eq_true.1 h2 x hx)⟩
    · omega
  · intro h
    have h1 := h.n1
    have h2 := h.n30
    rw [if_neg (by omega), if_pos (List.all_eq_true.2 fun x hx => hdB_iff.2 (h.all x hx))]
theorem checkG1_p (w : World) (l : List Hd) : PredAt Tryz.prog tab w (.func (.func 138) #[] #[]) (l.map hdV) pHd := by
  refine ⟨_, _, _, rfl, rfl, fun w' hw' x hx => ?_⟩
  obtain ⟨⟨x, y, z⟩, hy, rfl⟩ := List.mem_map.1 hx
  refine q_of (Sat.nil w' M0) Tryz.func138 rfl (by simp [Tryz.ntmps138]) ?_
  (refine q_seq (q_region ?_))
  refine ql_box rfl rfl (fun b1 => ?_)
  (refine ql_pure tabOk rfl rfl (q_nil (q_seq (q_region (ql_pure tabOk rfl rfl ?_)))); refine ql_loadBa tabOk rfl rfl rfl ?_)
  refine ql_callv (val := .bool (inB x 0 99)) tabOk rfl rfl rfl rfl (fun w hs => ?_) ?_; exact rfin_ca x 0 99 w
  (refine ql_pure tabOk rfl rfl ?_)
  refine ql_split rfl rfl (fun hc => ?_) (fun hc => ?_)
  · (refine ql_gyes rfl (ql_pure tabOk rfl rfl (ql_gyes rfl ?_)); refine ql_loadBa tabOk rfl rfl rfl ?_; refine ql_gyes rfl (ql_pure tabOk rfl rfl (ql_gyes rfl ?_)); refine ql_loadBa tabOk rfl rfl rfl ?_; refine ql_gyes rfl ?_)
    refine ql_callv (val := .bool (inB y 0 z)) tabOk rfl rfl rfl rfl (fun w hs => ?_) ?_; exact rfin_ca y 0 z w
    (refine ql_pure tabOk rfl rfl (ql_pure tabOk rfl rfl ?_))
    refine ql_split rfl rfl (fun hc => ?_) (fun hc => ?_)
    · (refine ql_gyes rfl (ql_pure tabOk rfl rfl (ql_gyes rfl ?_)); refine ql_loadBa tabOk rfl rfl rfl ?_; refine ql_gyes rfl ?_; (iterate 3 refine ql_pure tabOk rfl rfl ?_); refine q_nil (q_ret ?_))
      refine q_fin tabOk rfl (by repeat constructor) fun w hs => ?_
      exact ⟨by simp [retV, pHd, hdB, *], hs.chg0⟩
    · ((iterate 3 refine ql_gno rfl rfl rfl ?_); refine ql_pure tabOk rfl rfl (ql_pure tabOk rfl rfl (q_nil (q_ret ?_))))
      refine q_fin tabOk rfl (by repeat constructor) fun w hs => ?_
      exact ⟨by simp [retV, pHd, hdB, *], hs.chg0⟩
  · ((iterate 5 refine ql_gno rfl rfl rfl ?_); refine ql_pure tabOk rfl rfl (ql_pure tabOk rfl rfl ?_); (iterate 3 refine ql_gno rfl rfl rfl ?_); refine ql_pure tabOk rfl rfl (ql_pure tabOk rfl rfl (q_nil (q_ret ?_))))
    refine q_fin tabOk rfl (by repeat constructor) fun w hs => ?_
    exact ⟨by simp [retV, pHd, hdB, *], hs.chg0⟩
theorem checkG_ca (w : World) (lo hi : Nat) (L : List Hd) (v : Value) (h : RdH w lo hi v L) (hlen : L.length ≤ maxLen) : Ca Tryz.prog 70 [v] w fun x w' => x = .int .i64 (chkG L) ∧ Chg [] w w' := by
  obtain ⟨a, ca, rfl, hsa⟩ := RdH.outI h
  simp only [maxLen] at hlen
  refine q_of (Sat.nil w M0) Tryz.func70 rfl (by simp [Tryz.ntmps70]) ?_
  (refine q_seq (q_region (ql_pure tabOk rfl rfl (q_nil (q_seq (q_block (q_seq (q_region (ql_pure tabOk rfl rfl (ql_pure tabOk rfl rfl ?_))))))))))
  refine ql_callv (val := .bool (inB L.length 1 30)) tabOk rfl rfl rfl rfl (fun w hs => ?_) ?_; exact rfin_ca L.length 1 30 w
  (refine ql_pure tabOk rfl rfl (ql_pure tabOk rfl rfl (q_nil ?_)))
  refine q_cond rfl (fun hc => ?_) (fun hc => ?_)
  · have hn : ¬ ((1 : Int) ≤ L.length ∧ (L.length : Int) ≤ 30) := by rw [← inB_iff]; simpa using hc
    (refine q_seq (q_region (ql_pure tabOk rfl rfl (q_nil (q_ret ?_)))))
    refine q_fin tabOk rfl (by repeat constructor) fun w hs => ?_
    exact ⟨by simp only [retV, chkG]; rw [if_pos (by omega)], hs.chg0⟩
  · have hn := inB_iff.1 (show inB (L.length : Int) 1 30 = true by simpa using hc)
    (refine q_seq (q_region (ql_pure tabOk rfl rfl ?_)))
    refine ql_callv (val := .bool (L.all hdB)) tabOk rfl rfl rfl rfl (fun w hs => ?_) ?_; exact by have := all_hold w lo hi _ _ (L.map hdV) pHd (RdE.keep h hs.chg0) (hdV_agg L) (by rw [List.length_map]; omega) (checkG1_p w L); rw [pHd_all] at this; exact this
    (refine ql_pure tabOk rfl rfl (ql_pure tabOk rfl rfl (q_nil ?_)))
    refine q_cond rfl (fun hc => ?_) (fun hc => ?_)
    · (refine q_seq (q_region (ql_pure tabOk rfl rfl (q_nil (q_ret ?_)))))
      refine q_fin tabOk rfl (by repeat constructor) fun w hs => ?_
      exact ⟨by simp only [retV, chkG]; rw [if_neg (by omega), if_neg (by simpa using hc)], hs.chg0⟩
    · (refine q_skip (q_blk (q_seq (q_region (ql_pure tabOk rfl rfl (q_nil (q_ret ?_)))))))
      refine q_fin tabOk rfl (by repeat constructor) fun w hs => ?_
      exact ⟨by simp only [retV, chkG]; rw [if_neg (by omega), if_pos (by simpa using hc)], hs.chg0⟩
theorem covers_ca (h : Hd) (m : Int) (w : World) : Ca Tryz.prog 145 [hdV h, .int .i64 m] w fun x w' => x = .bool (h.cov m) ∧ Chg [] w w' := by
  refine q_of (Sat.nil w M0) Tryz.func145 rfl (by simp [Tryz.ntmps145]) ?_
  (refine q_seq (q_region ?_))
  refine ql_box rfl rfl (fun b2 => ?_)
  (refine ql_pure tabOk rfl rfl (q_nil (q_seq (q_region (ql_pure tabOk rfl rfl ?_)))); refine ql_loadBa tabOk rfl rfl rfl ?_; (iterate 3 refine ql_pure tabOk rfl rfl ?_))
  refine ql_split rfl rfl (fun hc => ?_) (fun hc => ?_)
  · have h1 : h.f ≤ m := by simpa using hc
    (refine ql_gyes rfl (ql_pure tabOk rfl rfl (ql_gyes rfl ?_)); refine ql_loadBa tabOk rfl rfl rfl ?_; refine ql_gyes rfl (ql_pure tabOk rfl rfl (ql_gyes rfl ?_)); (iterate 3 refine ql_pure tabOk rfl rfl ?_); refine q_nil (q_ret ?_))
    refine q_fin tabOk rfl (by repeat constructor) fun w hs => ?_
    exact ⟨by simp [retV, Hd.cov, h1, gt_iff_lt], hs.chg0⟩
  · have h1 : ¬ h.f ≤ m := by simpa using hc
    ((iterate 4 refine ql_gno rfl rfl rfl ?_); refine ql_pure tabOk rfl rfl (ql_pure tabOk rfl rfl (q_nil (q_ret ?_))))
    refine q_fin tabOk rfl (by repeat constructor) fun w hs => ?_
    exact ⟨by simp [retV, Hd.cov]; omega, hs.chg0⟩
/-- Two holds are compared by their ends. -/
def endK (L : List Hd) (i : Int) : Int := (hdL L i.toNat).t
theorem links1_ca (w : World) (lo hi b n c : Nat) (a : Option Addr) (L : List Hd) (h : RdH w lo hi (.slice a n c) L) (hb : Blk w b [.slice a n c] 23) (hL : ∀ h ∈ L, 0 ≤ h.t ∧ h.t ≤ 10000) (i j : Nat) (hi' : i < L.length) (hj : j < L.length) : Ca Tryz.prog 174 [.int .i64 i, .int .i64 j, .pointer (some ⟨b, 0, none⟩)] w fun x w' => x = .int .i64 (endK L j - endK L i) ∧ Chg [] w w' := by
  obtain ⟨a', c', e0, hsa⟩ := RdH.outI h
  cases e0
  obtain ⟨ab, ao, rfl⟩ := hsa (by omega)
  have e1 : endK L i = L[i].t := by
    unfold endK hdL
    rw [Int.toNat_natCast, List.getD_eq_getElem?_getD, List.getElem?_eq_getElem hi', Option.getD_some]
  have e2 : endK L j = L[j].t := by
    unfold endK hdL
    rw [Int.toNat_natCast, List.getD_eq_getElem?_getD, List.getElem?_eq_getElem hj, Option.getD_some]
  have b1 := hL _ (List.getElem_mem hi')
  have b2 := hL _ (List.getElem_mem hj)
  rw [e1, e2]
  refine q_of (Sat.nil w M0) Tryz.func174 rfl (by simp [Tryz.ntmps174]) ?_
  (refine q_seq (q_region (ql_pure tabOk rfl rfl (q_nil (q_seq ?_)))))
  refine q_draw _ [] (Sp.refl _) (by kernel_rfl) (by kernel_rfl) ?_
  (refine qf_loadP tabOk rfl rfl rfl (by assumption) (by rfl) ?_; refine qf_pure tabOk rfl rfl rfl ?_)
  refine qf_index tabOk rfl rfl rfl rfl rfl (by omega) (by omega) ?_
  (refine qf_pure tabOk rfl rfl rfl ?_)
  refine qf_load1 (v := .int .i64 L[j].t) tabOk rfl rfl rfl (fun w hs => RdH.at2 (RdE.keep h hs.chg0) j hj) ?_
  (refine qf_loadP tabOk rfl rfl rfl (by assumption) (by rfl) ?_; refine qf_pure tabOk rfl rfl rfl ?_)
  refine qf_index tabOk rfl rfl rfl rfl rfl (by omega) (by omega) ?_
  (refine qf_pure tabOk rfl rfl rfl ?_)
  refine qf_load1 (v := .int .i64 L[i].t) tabOk rfl rfl rfl (fun w hs => RdH.at2 (RdE.keep h hs.chg0) i hi') ?_
  (refine qf_ar tabOk rfl rfl rfl rfl (by omega) (by omega) (qf_pure tabOk rfl rfl rfl (qf_nil (q_ret ?_))))
  refine q_fin tabOk rfl (by repeat constructor) fun w hs => ?_
  exact ⟨rfl, hs.chg0⟩
end Go.Proofs.YtopdmadgkjdgcaaGreat

/- The laying of slices.Sort at this seat's program, as the kit's lay-plain.mjs writes it. -/
namespace Go.Proofs.YtopdmadgkjdgcaaGreat
set_option maxRecDepth 4000
open Go Go.Shelf
def lays189_ren : Go.Shelf.Ren := ⟨fun | 189 => 102 | 125 => 160 | 257 => 159 | 128 => 195 | 129 => 196 | 294 => 186 | 295 => 187 | 296 => 188 | 297 => 189 | 298 => 190 | 299 => 191 | 216 => 192 | 300 => 193 | 301 => 194 | 328 => 215 | 329 => 216 | 330 => 217 | 331 => 218 | 332 => 219 | 215 => 220 | 343 => 234 | n => n, fun | 28 => 29 | 3 => 3 | 46 => 241 | 0 => 0 | 51 => 161 | 53 => 265 | 4 => 4 | 183 => 256 | 182 => 255 | 131 => 261 | 5 => 5 | 9 => 9 | 218 => 281 | 222 => 157 | 228 => 293 | 229 => 168 | n => n, fun | n => n⟩
theorem lays189 : Go.Proofs.Lays.n189 Tryz.prog lays189_ren := {
  mixed := by kernel_rfl
  f125 := Tryz.func160.trans (congrArg some (by kernel_rfl))
  f128 := Tryz.func195.trans (congrArg some (by kernel_rfl))
  f129 := Tryz.func196.trans (congrArg some (by kernel_rfl))
  f189 := Tryz.func102.trans (congrArg some (by kernel_rfl))
  f215 := Tryz.func220.trans (congrArg some (by kernel_rfl))
  f216 := Tryz.func192.trans (congrArg some (by kernel_rfl))
  f257 := Tryz.func159.trans (congrArg some (by kernel_rfl))
  f294 := Tryz.func186.trans (congrArg some (by kernel_rfl))
  f295 := Tryz.func187.trans (congrArg some (by kernel_rfl))
  f296 := Tryz.func188.trans (congrArg some (by kernel_rfl))
  f297 := Tryz.func189.trans (congrArg some (by kernel_rfl))
  f298 := Tryz.func190.trans (congrArg some (by kernel_rfl))
  f299 := Tryz.func191.trans (congrArg some (by kernel_rfl))
  f300 := Tryz.func193.trans (congrArg some (by kernel_rfl))
  f301 := Tryz.func194.trans (congrArg some (by kernel_rfl))
  f328 := Tryz.func215.trans (congrArg some (by kernel_rfl))
  f329 := Tryz.func216.trans (congrArg some (by kernel_rfl))
  f330 := Tryz.func217.trans (congrArg some (by kernel_rfl))
  f331 := Tryz.func218.trans (congrArg some (by kernel_rfl))
  f332 := Tryz.func219.trans (congrArg some (by kernel_rfl))
  f343 := Tryz.func234.trans (congrArg some (by kernel_rfl))
  t0 := Tryz.underlying0
  a0 := Tryz.isAgg0
  z0 := Tryz.sizeOf0
  v0 := Tryz.zeroValue0
  t3 := Tryz.underlying3
  a3 := Tryz.isAgg3
  z3 := Tryz.sizeOf3
  v3 := Tryz.zeroValue3
  t4 := Tryz.underlying4
  a4 := Tryz.isAgg4
  z4 := Tryz.sizeOf4
  v4 := Tryz.zeroValue4
  t5 := Tryz.underlying5
  a5 := Tryz.isAgg5
  z5 := Tryz.sizeOf5
  v5 := Tryz.zeroValue5
  t9 := Tryz.underlying9
  a9 := Tryz.isAgg9
  z9 := Tryz.sizeOf9
  v9 := Tryz.zeroValue9
  t28 := Tryz.underlying29
  a28 := Tryz.isAgg29
  z28 := Tryz.sizeOf29
  v28 := Tryz.zeroValue29
  t46 := Tryz.underlying241
  a46 := Tryz.isAgg241
  z46 := Tryz.sizeOf241
  v46 := Tryz.zeroValue241
  t51 := Tryz.underlying161
  a51 := Tryz.isAgg161
  z51 := Tryz.sizeOf161
  v51 := Tryz.zeroValue161
  t53 := Tryz.underlying265
  a53 := Tryz.isAgg265
  z53 := Tryz.sizeOf265
  v53 := Tryz.zeroValue265
  t131 := Tryz.underlying261
  a131 := Tryz.isAgg261
  z131 := Tryz.sizeOf261
  v131 := Tryz.zeroValue261
  t182 := Tryz.underlying255
  a182 := Tryz.isAgg255
  z182 := Tryz.sizeOf255
  v182 := Tryz.zeroValue255
  t183 := Tryz.underlying256
  a183 := Tryz.isAgg256
  z183 := Tryz.sizeOf256
  v183 := Tryz.zeroValue256
  t218 := Tryz.underlying281
  a218 := Tryz.isAgg281
  z218 := Tryz.sizeOf281
  v218 := Tryz.zeroValue281
  t222 := Tryz.underlying157
  a222 := Tryz.isAgg157
  z222 := Tryz.sizeOf157
  v222 := Tryz.zeroValue157
  t228 := Tryz.underlying293
  a228 := Tryz.isAgg293
  z228 := Tryz.sizeOf293
  v228 := Tryz.zeroValue293
  t229 := Tryz.underlying168
  a229 := Tryz.isAgg168
  z229 := Tryz.sizeOf168
  v229 := Tryz.zeroValue168 }
end Go.Proofs.YtopdmadgkjdgcaaGreat

/- slices.Sort of numbers, of any length, by the kit's contract. -/
namespace Go.Proofs.YtopdmadgkjdgcaaGreat
set_option maxRecDepth 4000
open Go Go.Eng
theorem sort_ca (w : World) (g c : Nat) (l : List Int) (hl : l.length ≤ 1000000) (hb : w.ownsRow 0 3 1 (.slice (some ⟨g, 0, none⟩) l.length c) l.length (ints l)) :
    Ca Tryz.prog 102 [.slice (some ⟨g, 0, none⟩) l.length c] w fun v w' => ∃ L : List Int, (v = .tuple #[] ∧ L.Perm l ∧ L.Pairwise (· ≤ ·)) ∧ Sat w (fun x => x = g) [.ow (.slice (some ⟨g, 0, none⟩) l.length c) 3 1 l.length (ints L)] w' := by
  have hs0 := Sat.own0 hb
  obtain ⟨hlen, h2⟩ := hb
  rcases h2 with ⟨h3, _⟩ | ⟨g', cap, cur, h3, h4, h5, h6, h7, h8, h9⟩
  · injection h3 with h3 _ _
    cases h3
  · injection h3 with e1 _ e3
    injection e1 with e1
    injection e1 with e1 _ _
    subst e1 e3
    have hg : g < w.heap.size := (Array.getElem?_eq_some_iff.1 h5).1
    have hcell : ∀ j (hj : j < l.length), cur[j]? = some (.int .i64 l[j]) := fun j hj => by
      have h10 : (cur.toList.take (l.length * 1))[j]? = (ints l)[j]? := by rw [h9]
      rw [List.getElem?_take_of_lt (by omega)] at h10
      rw [← Array.getElem?_toList, h10]
      simp [ints, hj]
    have hH : Go.Sort.Holds (Value.int .i64) w g 0 l.toArray := fun j hj => by
      have hj2 : j < l.length := by simpa using hj
      refine ⟨?_, ?_⟩
      · have h11 : l.toArray[j]! = l[j] := by
          rw [getElem!_pos l.toArray j hj]
          simp
        rw [h11]
        have h12 := hcell j hj2
        simp only [World.cell?, h5, Nat.zero_add]
        simpa using h12
      · simp [World.frozen?, h5]
    have hc := Any.slices_Sort_int lays189 g 0 c l w hH hg (by omega)
    refine Calls.mono (show Calls Tryz.prog 102 _ w _ from hc) ?_
    rintro e w' ⟨rfl, n, os, rfl⟩
    refine ⟨_, rfl, l.mergeSort (fun x y => decide (x ≤ y)), ⟨rfl, List.mergeSort_perm _ _, ?_⟩, ?_⟩
    · have := List.pairwise_mergeSort (le := fun x y : Int => decide (x ≤ y)) (by intro a b c h1 h2; simp at *; omega) (by intro a b; simp; omega) l
      exact this.imp (by intro a b h; simpa using h)
    · have hL : (l.mergeSort (fun x y => decide (x ≤ y))).length = l.length := List.length_mergeSort _
      generalize l.mergeSort (fun x y => decide (x ≤ y)) = L at hL
      have hhp : ∀ k, k < w.heap.size → (Go.Sort.grow (Go.Sort.putRow (Value.int .i64) (Go.Sort.ahead w n) g 0 L.toArray) os).heap[k]? = (w.heap.modify g (Go.Sort.onCells (Go.Sort.putCells (Value.int .i64) 0 L.toArray)))[k]? := fun k hk => by
        show ((w.heap.modify g (Go.Sort.onCells (Go.Sort.putCells (Value.int .i64) 0 L.toArray))) ++ os)[k]? = _
        rw [Array.getElem?_append_left (by simpa using hk)]
      have hgc : (Go.Sort.grow (Go.Sort.putRow (Value.int .i64) (Go.Sort.ahead w n) g 0 L.toArray) os).heap[g]? = some (.cells (Go.Sort.putCells (Value.int .i64) 0 L.toArray cur) 3 (0, 0)) := by
        rw [hhp g hg, Array.getElem?_modify, if_pos rfl, h5]
        rfl
      refine hs0.app (v := .slice (some ⟨g, 0, none⟩) l.length c) (v' := .slice (some ⟨g, 0, none⟩) l.length c) (et := 3) (sz := 1) (m := l.length) (q := l.length) (xs := ints l) (ys := ints L) (by repeat constructor) ⟨rfl, rfl, rfl, ?_, fun k hk hn => ?_⟩ ⟨by simp [ints, hL], .inr ⟨g, c, _, rfl, h4, hgc, h6, h7, ?_, ?_⟩⟩ (fun x hx => .inl hx)
      · show w.heap.size ≤ ((w.heap.modify g _) ++ os).size
        simp
      · rw [hhp k hk, Array.getElem?_modify, if_neg (fun e => hn (by simp [Value.ownBlock, e]))]
      · rw [← h8]
        simp [Go.Sort.putCells]
      · refine List.ext_getElem? fun j => ?_
        by_cases hj : j < l.length
        · have hjL : j < L.length := by omega
          have hjc : j < cur.size := by omega
          rw [List.getElem?_take_of_lt (by omega), Array.getElem?_toList]
          simp [Go.Sort.putCells, ints, hjL, hjc]
        · rw [List.getElem?_eq_none (by rw [List.length_take]; omega), List.getElem?_eq_none (by simp [ints]; omega)]
/-- No number: nothing is done. -/
theorem sort0_ca (w : World) (a : Option Addr) (c : Nat) : Ca Tryz.prog 102 [.slice a 0 c] w fun v w' => v = .tuple #[] ∧ Chg [] w w' :=
  Calls.mono (show Calls Tryz.prog 102 _ w _ from Any.slices_Sort_int_none lays189 a c w) fun e w' ⟨h1, h2⟩ => ⟨_, h1, rfl, by rw [h2]; exact Chg.refl _ _⟩
end Go.Proofs.YtopdmadgkjdgcaaGreat

/- The plain law of RiflePlanned: without an error as many checks are needed as the number of kinds of open rifles has bits. -/
namespace Go.Proofs.YtopdmadgkjdgcaaGreat
set_option maxRecDepth 4000
/-- A number more, if it is new. -/
def addK (l : List Int) (x : Int) : List Int := if x ∈ l then l else l ++ [x]
def kdL (l : List Int) : List Int := l.foldl addK []
/-- The kinds of rifles that are open: what the scale read for them. -/
def kdK (s : Sc) (k : Kn) : List Int := kdL ((openL s k).map s.rif)
end Go.Proofs.YtopdmadgkjdgcaaGreat

/- The plain law of a stable sort by merging in place: parts of a list that are exchanged, turned round, merged. -/
namespace Go.Proofs.YtopdmadgkjdgcaaGreat
set_option maxRecDepth 4000
theorem gD_set {l : List Int} {i k : Nat} {x : Int} (hi : i < l.length) : (l.set i x).getD k 0 = if i = k then x else l.getD k 0 := by
  rw [List.getD_eq_getElem?_getD, List.getElem?_set, List.getD_eq_getElem?_getD]
  by_cases e : i = k
  · subst e
    simp [hi]
  · simp [e]
def swL (l : List Int) (i j : Nat) : List Int := (l.set i (l.getD j 0)).set j (l.getD i 0)
theorem swL_at {l : List Int} {i j : Nat} (hi : i < l.length) (hj : j < l.length) (k : Nat) : (swL l i j).getD k 0 = if j = k then l.getD i 0 else if i = k then l.getD j 0 else l.getD k 0 := by
  unfold swL
  rw [gD_set (by simpa using hj), gD_set hi]
theorem swL_perm {l : List Int} {i j : Nat} (hi : i < l.length) (hj : j < l.length) : (swL l i j).Perm l := by
  unfold swL
  have e1 : l.getD j 0 = l[j] := by rw [List.getD_eq_getElem?_getD, List.getElem?_eq_getElem hj]; rfl
  have e2 : l.getD i 0 = l[i] := by rw [List.getD_eq_getElem?_getD, List.getElem?_eq_getElem hi]; rfl
  rw [e1, e2]
  exact List.set_set_perm hi hj
/-- A list changed within a part of it. -/
structure Seg (l L : List Int) (a b : Nat) : Prop where
  perm : L.Perm l
  out : ∀ k, k < a ∨ b ≤ k → L.getD k 0 = l.getD k 0
  mem : ∀ k, a ≤ k → k < b → ∃ j, (a ≤ j ∧ j < b) ∧ L.getD k 0 = l.getD j 0
theorem Seg.refl (l : List Int) (a b : Nat) : Seg l l a b := ⟨.refl _, fun _ _ => rfl, fun k h1 h2 => ⟨k, ⟨h1, h2⟩, rfl⟩⟩
theorem Seg.trans {l L M : List Int} {a b : Nat} (h : Seg l L a b) (g : Seg L M a b) : Seg l M a b :=
  ⟨g.perm.trans h.perm, fun k hk => (g.out k hk).trans (h.out k hk), fun k h1 h2 => by
    obtain ⟨j, ⟨h3, h4⟩, e⟩ := g.mem k h1 h2
    obtain ⟨i, h5, e2⟩ := h.mem j h3 h4
    exact ⟨i, h5, e.trans e2⟩⟩
theorem Seg.wide {l L : List Int} {a b a' b' : Nat} (h : Seg l L a b) (ha : a' ≤ a) (hb : b ≤ b') : Seg l L a' b' :=
  ⟨h.perm, fun k hk => h.out k (by omega), fun k h1 h2 => by
    by_cases c : a ≤ k ∧ k < b
    · obtain ⟨j, h3, e⟩ := h.mem k c.1 c.2
      exact ⟨j, by omega, e⟩
    · exact ⟨k, ⟨h1, h2⟩, h.out k (by omega)⟩⟩
theorem Seg.len {l L : List Int} {a b : Nat} (h : Seg l L a b) : L.length = l.length := h.perm.length_eq
theorem Seg.sw {l : List Int} {a b i j : Nat} (hi : a ≤ i ∧ i < b) (hj : a ≤ j ∧ j < b) (hb : b ≤ l.length) : Seg l (swL l i j) a b :=
  ⟨swL_perm (by omega) (by omega), fun k hk => by rw [swL_at (by omega) (by omega), if_neg (by omega), if_neg (by omega)], fun k h1 h2 => by
    rw [swL_at (by omega) (by omega)]
    by_cases c1 : j = k
    · rw [if_pos c1]; exact ⟨i, hi, rfl⟩
    · rw [if_neg c1]
      by_cases c2 : i = k
      · rw [if_pos c2]; exact ⟨j, hj, rfl⟩
      · rw [if_neg c2]; exact ⟨k, ⟨h1, h2⟩, rfl⟩⟩
/-- Where an element comes from when two parts are exchanged. -/
def swP (a b n k : Nat) : Nat := if a ≤ k ∧ k < a + n then k + (b - a) else if b ≤ k ∧ k < b + n then k - (b - a) else k
theorem swP_zero (a b k : Nat) : swP a b 0 k = k := by
  unfold swP
  rw [if_neg (by omega), if_neg (by omega)]
theorem swP_next {l L : List Int} {a b n : Nat} (hab : a + (n + 1) ≤ b) (hb : b + n < L.length) (h : ∀ k, L.getD k 0 = l.getD (swP a b n k) 0) (k : Nat) : (swL L (a + n) (b + n)).getD k 0 = l.getD (swP a b (n + 1) k) 0 := by
  rw [swL_at (by omega) (by omega), h, h, h]
  by_cases c1 : b + n = k
  · rw [if_pos c1]
    congr 1
    unfold swP
    rw [if_neg (by omega), if_neg (by omega), if_neg (by omega), if_pos (by omega)]
    omega
  · rw [if_neg c1]
    by_cases c2 : a + n = k
    · rw [if_pos c2]
      congr 1
      unfold swP
      rw [if_neg (by omega), if_neg (by omega), if_pos (by omega)]
      omega
    · rw [if_neg c2]
      congr 1
      unfold swP
      by_cases c3 : a ≤ k ∧ k < a + n
      · rw [if_pos c3, if_pos (by omega)]
      · rw [if_neg c3, if_neg (show ¬ (a ≤ k ∧ k < a + (n + 1)) by omega)]
        by_cases c4 : b ≤ k ∧ k < b + n
        · rw [if_pos c4, if_pos (by omega)]
        · rw [if_neg c4, if_neg (by omega)]
/-- Where an element comes from when a part is turned round a place. -/
def roP (a m b k : Nat) : Nat := if a ≤ k ∧ k < a + (b - m) then k + (m - a) else if a + (b - m) ≤ k ∧ k < b then k - (b - m) else k
theorem ro_gt {m i j : Nat} (hi : i ≤ m) (hj : 0 < j) (h : j < i) (k : Nat) : swP (m - i) m j (roP (m - (i - j)) m (m + j) k) = roP (m - i) m (m + j) k := by
  unfold roP
  by_cases c1 : m - i ≤ k ∧ k < m - i + (m + j - m)
  · rw [if_pos c1, if_neg (by omega), if_neg (by omega)]
    unfold swP
    rw [if_pos (by omega)]
  · rw [if_neg c1]
    by_cases c2 : m - i + (m + j - m) ≤ k ∧ k < m + j
    · rw [if_pos c2]
      by_cases c3 : m - (i - j) ≤ k ∧ k < m - (i - j) + (m + j - m)
      · rw [if_pos c3]
        unfold swP
        rw [if_neg (by omega), if_pos (by omega)]
        omega
      · rw [if_neg c3, if_pos (by omega)]
        unfold swP
        rw [if_neg (by omega), if_neg (by omega)]
    · rw [if_neg c2, if_neg (by omega), if_neg (by omega)]
      unfold swP
      rw [if_neg (by omega), if_neg (by omega)]
theorem ro_lt {m i j : Nat} (hi : i ≤ m) (h0 : 0 < i) (h : i < j) (k : Nat) : swP (m - i) (m + j - i) i (roP (m - i) m (m + (j - i)) k) = roP (m - i) m (m + j) k := by
  unfold roP
  by_cases c1 : m - i ≤ k ∧ k < m - i + (m + j - m)
  · rw [if_pos c1]
    by_cases c3 : m - i ≤ k ∧ k < m - i + (m + (j - i) - m)
    · rw [if_pos c3]
      unfold swP
      rw [if_neg (by omega), if_neg (by omega)]
    · rw [if_neg c3, if_pos (by omega)]
      unfold swP
      rw [if_pos (by omega)]
      omega
  · rw [if_neg c1]
    by_cases c2 : m - i + (m + j - m) ≤ k ∧ k < m + j
    · rw [if_pos c2, if_neg (by omega), if_neg (by omega)]
      unfold swP
      rw [if_neg (by omega), if_pos (by omega)]
      omega
    · rw [if_neg c2, if_neg (by omega), if_neg (by omega)]
      unfold swP
      rw [if_neg (by omega), if_neg (by omega)]
theorem ro_eq {m i : Nat} (hi : i ≤ m) (k : Nat) : swP (m - i) m i k = roP (m - i) m (m + i) k := by
  unfold swP
  by_cases c1 : m - i ≤ k ∧ k < m - i + i
  · rw [if_pos c1]
    unfold roP
    rw [if_pos (by omega)]
  · rw [if_neg c1]
    by_cases c2 : m ≤ k ∧ k < m + i
    · rw [if_pos c2]
      unfold roP
      rw [if_neg (by omega), if_pos (by omega)]
      omega
    · rw [if_neg c2]
      unfold roP
      rw [if_neg (by omega), if_neg (by omega)]
theorem ro_id {s m e k : Nat} (h : s ≤ m ∧ m ≤ e) (h2 : s = m ∨ m = e) : roP s m e k = k := by
  unfold roP
  by_cases c1 : s ≤ k ∧ k < s + (e - m)
  · rw [if_pos c1]; omega
  · rw [if_neg c1]
    by_cases c2 : s + (e - m) ≤ k ∧ k < e
    · rw [if_pos c2]; omega
    · rw [if_neg c2]
/-- Sorted, within a part. -/
def SrW (key : Int → Int) (L : List Int) (a b : Nat) : Prop := ∀ p q, a ≤ p → p ≤ q → q < b → key (L.getD p 0) ≤ key (L.getD q 0)
section
variable {key : Int → Int} {l L : List Int} {a s m e b : Nat}
theorem SrW.sub (h : SrW key L a b) {a' b' : Nat} (ha : a ≤ a') (hb : b' ≤ b) : SrW key L a' b' := fun p q h1 h2 h3 => h p q (by omega) h2 (by omega)
theorem SrW.out (h : SrW key l a b) {x y : Nat} (hs : Seg l L x y) (hxy : b ≤ x ∨ y ≤ a) : SrW key L a b := fun p q h1 h2 h3 => by
  rw [hs.out p (by omega), hs.out q (by omega)]
  exact h p q h1 h2 h3
theorem SrW.one (h : b ≤ a + 1) : SrW key L a b := fun p q h1 h2 h3 => by
  obtain rfl : p = q := by omega
  exact Int.le_refl _
/-- A part that was turned round: its four runs. -/
structure Rot (l L : List Int) (a s m e b : Nat) : Prop where
  le1 : a ≤ s
  le2 : s ≤ m
  le3 : m ≤ e
  le4 : e ≤ b
  at_ : ∀ k, L.getD k 0 = l.getD (roP s m e k) 0
theorem Rot.r1 (h : Rot l L a s m e b) {k : Nat} (hk : k < s) : L.getD k 0 = l.getD k 0 := by
  rw [h.at_]; unfold roP; rw [if_neg (by omega), if_neg (by omega)]
theorem Rot.r2 (h : Rot l L a s m e b) {k : Nat} (h1 : s ≤ k) (h2 : k < s + (e - m)) : L.getD k 0 = l.getD (k + (m - s)) 0 := by
  rw [h.at_]; unfold roP; rw [if_pos ⟨h1, h2⟩]
theorem Rot.r3 (h : Rot l L a s m e b) {k : Nat} (h1 : s + (e - m) ≤ k) (h2 : k < e) : L.getD k 0 = l.getD (k - (e - m)) 0 := by
  rw [h.at_]; unfold roP; rw [if_neg (by omega), if_pos ⟨h1, h2⟩]
theorem Rot.r4 (h : Rot l L a s m e b) {k : Nat} (h1 : e ≤ k) : L.getD k 0 = l.getD k 0 := by
  have := h.le2
  have := h.le3
  rw [h.at_]; unfold roP; rw [if_neg (by omega), if_neg (by omega)]
theorem Rot.s1 (h : Rot l L a s m e b) (h1 : SrW key l a m) : SrW key L a s := fun p q g1 g2 g3 => by
  have := h.le2
  rw [h.r1 (by omega), h.r1 g3]
  exact h1 p q g1 g2 (by omega)
theorem Rot.s2 (h : Rot l L a s m e b) (h2 : SrW key l m b) : SrW key L s (s + (e - m)) := fun p q g1 g2 g3 => by
  have := h.le1
  have := h.le2
  have := h.le3
  have := h.le4
  rw [h.r2 g1 (by omega), h.r2 (by omega) g3]
  exact h2 _ _ (by omega) (by omega) (by omega)
theorem Rot.s3 (h : Rot l L a s m e b) (h1 : SrW key l a m) : SrW key L (s + (e - m)) e := fun p q g1 g2 g3 => by
  have := h.le1
  have := h.le2
  have := h.le3
  rw [h.r3 g1 (by omega), h.r3 (by omega) g3]
  exact h1 _ _ (by omega) (by omega) (by omega)
theorem Rot.s4 (h : Rot l L a s m e b) (h2 : SrW key l m b) : SrW key L e b := fun p q g1 g2 g3 => by
  have := h.le3
  rw [h.r4 g1, h.r4 (by omega)]
  exact h2 _ _ (by omega) (by omega) (by omega)
/-- What lies left of the middle is not greater than what lies right of it. -/
theorem Rot.cross (h : Rot l L a s m e b) (h1 : SrW key l a m) (h2 : SrW key l m b) (c1 : s = a ∨ e = b ∨ key (l.getD (s - 1) 0) ≤ key (l.getD e 0)) (c2 : s = m ∨ e = m ∨ key (l.getD (e - 1) 0) < key (l.getD s 0)) {p q : Nat} (hp : a ≤ p ∧ p < s + (e - m)) (hq : s + (e - m) ≤ q ∧ q < b) : key (L.getD p 0) ≤ key (L.getD q 0) := by
  have g1 := h.le1
  have g2 := h.le2
  have g3 := h.le3
  have g4 := h.le4
  by_cases cp : p < s
  · rw [h.r1 cp]
    by_cases cq : q < e
    · rw [h.r3 hq.1 cq]
      exact h1 _ _ hp.1 (by omega) (by omega)
    · rw [h.r4 (by omega)]
      have d : key (l.getD (s - 1) 0) ≤ key (l.getD e 0) := by
        rcases c1 with c | c | c
        · omega
        · omega
        · exact c
      have d1 := h1 p (s - 1) hp.1 (by omega) (by omega)
      have d2 := h2 e q (by omega) (by omega) hq.2
      omega
  · rw [h.r2 (by omega) hp.2]
    by_cases cq : q < e
    · rw [h.r3 hq.1 cq]
      have d : key (l.getD (e - 1) 0) < key (l.getD s 0) := by
        rcases c2 with c | c | c
        · omega
        · omega
        · exact c
      have d1 := h2 (p + (m - s)) (e - 1) (by omega) (by omega) (by omega)
      have d2 := h1 s (q - (e - m)) (by omega) (by omega) (by omega)
      omega
    · rw [h.r4 (by omega)]
      exact h2 _ _ (by omega) (by omega) hq.2
theorem srt_join {mid : Nat} (hl : SrW key L a mid) (hr : SrW key L mid b) (hx : ∀ p q, a ≤ p → p < mid → mid ≤ q → q < b → key (L.getD p 0) ≤ key (L.getD q 0)) : SrW key L a b := fun p q h1 h2 h3 => by
  by_cases c1 : q < mid
  · exact hl p q h1 h2 c1
  · by_cases c2 : p < mid
    · exact hx p q h1 c2 (by omega) h3
    · exact hr p q (by omega) h2 h3
/-- Both halves sorted by themselves. -/
theorem seg_join {M N : List Int} {mid : Nat} (hx : ∀ p q, a ≤ p → p < mid → mid ≤ q → q < b → key (L.getD p 0) ≤ key (L.getD q 0)) (h1 : Seg L M a mid) (h2 : Seg M N mid b) (s1 : SrW key M a mid) (s2 : SrW key N mid b) : SrW key N a b :=
  srt_join (s1.out h2 (.inl (Nat.le_refl _))) s2 fun p q g1 g2 g3 g4 => by
    rw [h2.out p (.inl g2)]
    obtain ⟨p', hp', e1⟩ := h1.mem p g1 g2
    obtain ⟨q', hq', e2⟩ := h2.mem q g3 g4
    rw [e1, e2, h1.out q' (.inr hq'.1)]
    exact hx p' q' hp'.1 hp'.2 hq'.1 hq'.2
/-- The first element alone is put into its place. -/
theorem Rot.first {i : Nat} (h : Rot l L a a (a + 1) i b) (h2 : SrW key l (a + 1) b) (c1 : i = a + 1 ∨ key (l.getD (i - 1) 0) < key (l.getD a 0)) (c2 : i = b ∨ key (l.getD a 0) ≤ key (l.getD i 0)) : SrW key L a b := by
  have g3 := h.le3
  have g4 := h.le4
  have h1 : SrW key l a (a + 1) := .one (Nat.le_refl _)
  refine srt_join (mid := i) (srt_join (mid := a + (i - (a + 1))) (h.s2 h2) (h.s3 h1) fun p q x1 x2 x3 x4 => ?_) (h.s4 h2) fun p q x1 x2 x3 x4 => ?_
  · rw [h.r2 x1 x2, h.r3 x3 x4]
    have d1 := h2 (p + (a + 1 - a)) (i - 1) (by omega) (by omega) (by omega)
    have e : q - (i - (a + 1)) = a := by omega
    rw [e]
    rcases c1 with c | c
    · omega
    · omega
  · rw [h.r4 x3]
    have hi : ¬ i = b := by omega
    have d2 := h2 i q g3 x3 x4
    have c2 := c2.resolve_left hi
    by_cases c : p < a + (i - (a + 1))
    · rw [h.r2 x1 c]
      exact h2 _ _ (by omega) (by omega) x4
    · rw [h.r3 (by omega) x2]
      have e : p - (i - (a + 1)) = a := by omega
      rw [e]
      omega
/-- The last element alone is put into its place. -/
theorem Rot.last {i : Nat} (h : Rot l L a i m (m + 1) (m + 1)) (h1 : SrW key l a m) (c1 : i = a ∨ key (l.getD (i - 1) 0) ≤ key (l.getD m 0)) (c2 : i = m ∨ key (l.getD m 0) < key (l.getD i 0)) : SrW key L a (m + 1) := by
  have g1 := h.le1
  have g2 := h.le2
  have h2 : SrW key l m (m + 1) := .one (Nat.le_refl _)
  refine srt_join (mid := i) (h.s1 h1) (srt_join (mid := i + (m + 1 - m)) (h.s2 h2) (h.s3 h1) fun p q x1 x2 x3 x4 => ?_) fun p q x1 x2 x3 x4 => ?_
  · rw [h.r2 x1 x2, h.r3 x3 x4]
    have e : p + (m - i) = m := by omega
    rw [e]
    have d := h1 i (q - (m + 1 - m)) (by omega) (by omega) (by omega)
    rcases c2 with c | c
    · omega
    · omega
  · rw [h.r1 x2]
    have hi : ¬ i = a := by omega
    have c1 := c1.resolve_left hi
    have d := h1 p (i - 1) x1 (by omega) (by omega)
    by_cases c : q < i + (m + 1 - m)
    · rw [h.r2 x3 c]
      have e : q + (m - i) = m := by omega
      rw [e]
      omega
    · rw [h.r3 (by omega) x4]
      exact h1 _ _ x1 (by omega) (by omega)
end
/-- The first element moved on by one. -/
theorem mv_first {l L : List Int} {a k : Nat} (ha : a ≤ k) (hk : k + 1 < L.length) (h : ∀ x, L.getD x 0 = l.getD (roP a (a + 1) (k + 1) x) 0) (x : Nat) : (swL L k (k + 1)).getD x 0 = l.getD (roP a (a + 1) (k + 1 + 1) x) 0 := by
  rw [swL_at (by omega) (by omega), h, h, h]
  unfold roP
  by_cases c1 : k + 1 = x
  · rw [if_pos c1, if_neg (by omega), if_pos (by omega), if_neg (by omega), if_pos (by omega)]
    congr 1; omega
  · rw [if_neg c1]
    by_cases c2 : k = x
    · rw [if_pos c2, if_neg (by omega), if_neg (by omega), if_pos (by omega)]
      congr 1; omega
    · rw [if_neg c2]
      by_cases c3 : a ≤ x ∧ x < a + (k + 1 - (a + 1))
      · rw [if_pos c3, if_pos (by omega)]
      · rw [if_neg c3, if_neg (by omega), if_neg (by omega), if_neg (by omega)]
/-- The last element moved back by one. -/
theorem mv_last {l L : List Int} {m k : Nat} (hk : k + 1 ≤ m) (hm : m < L.length) (h : ∀ x, L.getD x 0 = l.getD (roP (k + 1) m (m + 1) x) 0) (x : Nat) : (swL L (k + 1) k).getD x 0 = l.getD (roP k m (m + 1) x) 0 := by
  rw [swL_at (by omega) (by omega), h, h, h]
  unfold roP
  by_cases c1 : k = x
  · rw [if_pos c1, if_pos (by omega), if_pos (by omega)]
    congr 1; omega
  · rw [if_neg c1]
    by_cases c2 : k + 1 = x
    · rw [if_pos c2, if_neg (by omega), if_neg (by omega), if_neg (by omega), if_pos (by omega)]
      congr 1; omega
    · rw [if_neg c2]
      by_cases c3 : k + 1 ≤ x ∧ x < k + 1 + (m + 1 - m)
      · omega
      · rw [if_neg c3, if_neg (show ¬ (k ≤ x ∧ x < k + (m + 1 - m)) by omega)]
        by_cases c4 : k + 1 + (m + 1 - m) ≤ x ∧ x < m + 1
        · rw [if_pos c4, if_pos (by omega)]
        · rw [if_neg c4, if_neg (by omega)]
/-- All is sorted up to a place but for one element, which is smaller than all behind it. -/
structure InsJ (key : Int → Int) (C : List Int) (a i j : Nat) : Prop where
  ji : a ≤ j ∧ j ≤ i
  srt : ∀ p q, a ≤ p → p ≤ q → q ≤ i → p ≠ j → q ≠ j → key (C.getD p 0) ≤ key (C.getD q 0)
  low : ∀ q, j < q → q ≤ i → key (C.getD j 0) ≤ key (C.getD q 0)
theorem InsJ.start {key : Int → Int} {C : List Int} {a i : Nat} (h : SrW key C a i) (ha : a ≤ i) : InsJ key C a i i :=
  ⟨⟨ha, Nat.le_refl _⟩, fun p q h1 h2 h3 h4 h5 => h p q h1 h2 (by omega), fun q h1 h2 => by omega⟩
theorem InsJ.close {key : Int → Int} {C : List Int} {a i j : Nat} (h : InsJ key C a i j) (hj : j = a ∨ key (C.getD (j - 1) 0) ≤ key (C.getD j 0)) : SrW key C a (i + 1) := fun p q h1 h2 h3 => by
  have hji := h.ji
  by_cases c1 : q = j
  · by_cases c2 : p = q
    · rw [c2]; exact Int.le_refl _
    · have hj := hj.resolve_left (by omega)
      by_cases c3 : p = j - 1
      · rw [c3, c1]; exact hj
      · have := h.srt p (j - 1) h1 (by omega) (by omega) (by omega) (by omega)
        rw [c1]; omega
  · by_cases c2 : p = j
    · rw [c2]; exact h.low q (by omega) (by omega)
    · exact h.srt p q h1 h2 (by omega) c2 c1
theorem InsJ.swap {key : Int → Int} {C : List Int} {a i j : Nat} (h : InsJ key C a i (j + 1)) (ha : a ≤ j) (hi : i < C.length) (hlt : key (C.getD (j + 1) 0) < key (C.getD j 0)) : InsJ key (swL C (j + 1) j) a i j := by
  have hji := h.ji
  have at_ := fun k => swL_at (l := C) (i := j + 1) (j := j) (by omega) (by omega) k
  refine ⟨by omega, fun p q h1 h2 h3 h4 h5 => ?_, fun q h1 h2 => ?_⟩
  · rw [at_, at_, if_neg (Ne.symm h4), if_neg (Ne.symm h5)]
    by_cases c1 : j + 1 = p
    · rw [if_pos c1]
      by_cases c2 : j + 1 = q
      · rw [if_pos c2]; exact Int.le_refl _
      · rw [if_neg c2]; exact h.srt j q ha (by omega) h3 (by omega) (by omega)
    · rw [if_neg c1]
      by_cases c2 : j + 1 = q
      · rw [if_pos c2]; exact h.srt p j h1 (by omega) (by omega) (by omega) (by omega)
      · rw [if_neg c2]; exact h.srt p q h1 h2 h3 (by omega) (by omega)
  · rw [at_, at_, if_pos rfl, if_neg (by omega)]
    by_cases c2 : j + 1 = q
    · rw [if_pos c2]; omega
    · rw [if_neg c2]; exact h.low q (by omega) h2
end Go.Proofs.YtopdmadgkjdgcaaGreat

/- The engine, part B38: structs of flat structs and arrays of Bools, as keys of maps. -/
namespace Go.Eng
set_option maxRecDepth 4000
open Go Go.RowKit

section
variable {P : Program}
/-- A part of a key: a flat struct, or an array of Bools. -/
inductive PK where
  | fl : List (Option IntKind) → PK
  | ar : Nat → Nat → PK
def PK.ks : PK → List (Option IntKind)
  | .fl ks => ks
  | .ar n _ => List.replicate n none
def PK.b (P : Program) (t : Nat) : PK → Bool
  | .fl ks => flatB P t ks && Nat.beq (P.cellsOf t) ks.length && (P.info? t).isSome
  | .ar n e => arrQB P t n e && Nat.beq (P.cellsOf t) n && (P.info? t).isSome
theorem PK.part {t : Nat} {p : PK} (h : p.b P t = true) (xs : List Value) (o : Nat) (w : World) : (part t xs.toArray o).run P w = .ok (.agg ((xs.drop o).take p.ks.length).toArray) w := by
  cases p with
  | fl ks =>
    simp only [PK.b, Bool.and_eq_true] at h
    obtain ⟨⟨h1, h2⟩, h3⟩ := h
    exact run_partA h1 (Nat.eq_of_beq_eq_true h2) h3 xs o w
  | ar n e =>
    simp only [PK.b, Bool.and_eq_true] at h
    obtain ⟨⟨h1, h2⟩, h3⟩ := h
    simp only [arrQB, Bool.and_eq_true, Bool.not_eq_true'] at h1
    obtain ⟨⟨_, h5⟩, _⟩ := h1
    split at h5
    · rename_i n' e' hu
      have := run_partArr (P := P) hu (Nat.eq_of_beq_eq_true h2) h3 xs o w
      rw [this]
      simp [PK.ks]
    · cases h5
theorem PK.eq {t : Nat} {p : PK} (h : p.b P t = true) {xs ys : List Value} (hx : fitV p.ks xs = true) (hy : fitV p.ks ys = true) (d : Nat) (w : World) : (Go.Op.equalIn (d + 2) t (.agg xs.toArray) (.agg ys.toArray)).run P w = .ok (eqL xs ys) w := by
  cases p with
  | fl ks =>
    simp only [PK.b, Bool.and_eq_true] at h
    exact run_eqFlat h.1.1 hx hy d w
  | ar n e =>
    simp only [PK.b, Bool.and_eq_true] at h
    obtain ⟨l, rfl, hl⟩ := fit_bools _ _ hx
    obtain ⟨m, rfl, hm⟩ := fit_bools _ _ hy
    rw [eqL_bools]
    exact run_eqArr h.1.1 hl hm d w
theorem PK.chk {t : Nat} {p : PK} (h : p.b P t = true) {xs : List Value} (hx : fitV p.ks xs = true) (empty : Bool) (d : Nat) (w : World) : (Instr.checkKey empty (d + 2) t (.agg xs.toArray)).run P w = .ok () w := by
  cases p with
  | fl ks =>
    simp only [PK.b, Bool.and_eq_true] at h
    exact chk_agg h.1.1 hx empty d w
  | ar n e =>
    simp only [PK.b, Bool.and_eq_true] at h
    obtain ⟨l, rfl, hl⟩ := fit_bools _ _ hx
    exact chk_row h.1.1 empty d w l hl
def mixF (P : Program) : Nat → List Field → List PK → Bool
  | _, [], [] => true
  | o, f :: fs, p :: ps => !(f.name == "_") && Nat.beq f.offset o && p.b P f.type && mixF P (o + p.ks.length) fs ps
  | _, _, _ => false
def mixB (P : Program) (t : Nat) (ps : List PK) : Bool :=
  !(P.stoodInHeld t) && !(P.eqGuardType P.depth t) && (match P.underlying t with | some (.struct fs) => mixF P 0 fs.toList ps | _ => false)
def mixK (ps : List PK) : List (Option IntKind) := ps.flatMap PK.ks
theorem mix_under {t : Nat} {ps : List PK} (h : mixB P t ps = true) : P.stoodInHeld t = false ∧ P.eqGuardType P.depth t = false ∧ P.underlying t = some (.struct (P.fieldsOf t)) ∧ mixF P 0 (P.fieldsOf t).toList ps = true := by
  simp only [mixB, Bool.and_eq_true, Bool.not_eq_true'] at h
  obtain ⟨⟨h1, h2⟩, h3⟩ := h
  split at h3
  · rename_i fs hu
    refine ⟨h1, h2, ?_, ?_⟩
    · simp [Program.fieldsOf, hu]
    · simpa [Program.fieldsOf, hu] using h3
  · cases h3
theorem eqFields_mix (d : Nat) (w : World) : ∀ (fs : List Field) (ps : List PK) (o : Nat) (xs ys : List Value) (l m : List Value), mixF P o fs ps = true → fitV (mixK ps) l = true → fitV (mixK ps) m = true → xs.drop o = l → ys.drop o = m →
    (Go.Op.eqFields (d + 2) xs.toArray ys.toArray fs).run P w = .ok (eqL l m) w
  | [], [], o, xs, ys, l, m, _, hl, hm, _, _ => by
    cases l <;> simp [mixK, fitV] at hl
    cases m <;> simp [mixK, fitV] at hm
    rfl
  | [], _ :: _, _, _, _, _, _, h, _, _, _, _ => by simp [mixF] at h
  | _ :: _, [], _, _, _, _, _, h, _, _, _, _ => by simp [mixF] at h
  | f :: fs, p :: ps, o, xs, ys, l, m, h, hl, hm, ex, ey => by
    simp only [mixF, Bool.and_eq_true] at h
    obtain ⟨⟨⟨hn, ho⟩, hf⟩, hr⟩ := h
    have ho := Nat.eq_of_beq_eq_true ho
    have hn : f.name ≠ "_" := by simpa using hn
    rw [mixK, List.flatMap_cons] at hl hm
    obtain ⟨l1, l2, rfl, f1, f2⟩ := fitV_app _ _ _ hl
    obtain ⟨m1, m2, rfl, g1, g2⟩ := fitV_app _ _ _ hm
    have n1 := fitV_len _ _ f1
    have n2 := fitV_len _ _ g1
    have dx : xs.drop (o + p.ks.length) = l2 := by rw [← List.drop_drop, ex, ← n1]; simp
    have dy : ys.drop (o + p.ks.length) = m2 := by rw [← List.drop_drop, ey, ← n2]; simp
    have ih := eqFields_mix d w fs ps (o + p.ks.length) xs ys l2 m2 hr f2 g2 dx dy
    have px := PK.part (P := P) hf xs f.offset w
    have py := PK.part (P := P) hf ys f.offset w
    rw [ho, ex, List.take_append_of_le_length (by omega), List.take_of_length_le (by omega)] at px
    rw [ho, ey, List.take_append_of_le_length (by omega), List.take_of_length_le (by omega)] at py
    have he := PK.eq hf f1 g1 d w
    rw [← ho] at px py
    simp only [Go.Op.eqFields, if_pos hn, Sem.run_bind, px, py, Result.andThen_ok, he]
    rw [eqL_app p.ks l1 m1 l2 m2 f1 g1]
    cases eqL l1 m1
    · simp
    · simpa using ih
theorem run_eqMix {t : Nat} {ps : List PK} (h : mixB P t ps = true) {xs ys : List Value} (hx : fitV (mixK ps) xs = true) (hy : fitV (mixK ps) ys = true) (d : Nat) (w : World) : (Go.Op.equalIn (d + 3) t (.agg xs.toArray) (.agg ys.toArray)).run P w = .ok (eqL xs ys) w := by
  obtain ⟨h1, h2, h3, h4⟩ := mix_under h
  rw [run_equalIn_agg w (d + 2) t _ _ h3 h1]
  exact eqFields_mix d w _ ps 0 xs ys xs ys h4 hx hy rfl rfl
theorem chk_mixF (empty : Bool) (d : Nat) (w : World) : ∀ (fs : List Field) (ps : List PK) (o : Nat) (xs : List Value) (l : List Value), mixF P o fs ps = true → fitV (mixK ps) l = true → xs.drop o = l →
    (forIn (m := Sem) fs PUnit.unit fun f _ => if f.name ≠ "_" then (do
        let v ← part f.type xs.toArray f.offset
        Instr.checkKey empty (d + 2) f.type v
        pure (ForInStep.yield PUnit.unit)) else pure (ForInStep.yield PUnit.unit)).run P w = .ok PUnit.unit w
  | [], [], o, xs, l, _, _, _ => by simp
  | [], _ :: _, _, _, _, h, _, _ => by simp [mixF] at h
  | _ :: _, [], _, _, _, h, _, _ => by simp [mixF] at h
  | f :: fs, p :: ps, o, xs, l, h, hl, ex => by
    simp only [mixF, Bool.and_eq_true] at h
    obtain ⟨⟨⟨hn, ho⟩, hf⟩, hr⟩ := h
    have ho := Nat.eq_of_beq_eq_true ho
    have hn : f.name ≠ "_" := by simpa using hn
    rw [mixK, List.flatMap_cons] at hl
    obtain ⟨l1, l2, rfl, f1, f2⟩ := fitV_app _ _ _ hl
    have n1 := fitV_len _ _ f1
    have dx : xs.drop (o + p.ks.length) = l2 := by rw [← List.drop_drop, ex, ← n1]; simp
    have ih := chk_mixF empty d w fs ps (o + p.ks.length) xs l2 hr f2 dx
    have px := PK.part (P := P) hf xs f.offset w
    rw [ho, ex, List.take_append_of_le_length (by omega), List.take_of_length_le (by omega)] at px
    rw [← ho] at px
    have hc := PK.chk hf f1 empty d w
    simp only [List.forIn_cons, Sem.run_bind, if_pos hn, px, Result.andThen_ok, hc, Sem.run_pure]
    exact ih
theorem chk_mix {kt : TypeId} {ps : List PK} (hF : mixB P kt ps = true) {xs : List Value} (h : fitV (mixK ps) xs = true) (empty : Bool) (d : Nat) (w : World) : (Instr.checkKey empty (d + 3) kt (.agg xs.toArray)).run P w = .ok () w := by
  obtain ⟨h1, h2, h3, h4⟩ := mix_under hF
  rw [Instr.checkKey]
  simp only [Sem.run_bind, run_underlying h3, Result.andThen_ok]
  rw [← Array.forIn_toList]
  rw [chk_mixF empty d w _ ps 0 xs xs h4 h rfl]
  rfl
theorem keyT_mix {kt : TypeId} {ps : List PK} (hF : mixB P kt ps = true) : KeyT P kt (keyF (mixK ps)) eqV where
  chk empty k w := by
    rintro ⟨xs, rfl, h⟩
    exact chk_mix hF h empty 9997 w
  find k es w hk hes := by
    have he : ∀ a b, keyF (mixK ps) a → keyF (mixK ps) b → (Op.equal kt a b).run P w = .ok (eqV a b) w := by
      rintro _ _ ⟨xs, rfl, hx⟩ ⟨ys, rfl, hy⟩
      exact run_eqMix hF hx hy 9997 w
    obtain ⟨h1, h2, h3, h4⟩ := mix_under hF
    have h5 := ask_find w he hk es 0 hes
    simp only [Instr.findKey, Sem.run_bind, run_underlying h3, Result.andThen_ok]
    cases es with
    | nil => simp [Instr.findNow]
    | cons x es =>
      simp only [Instr.findNow, Instr.sameNow]
      exact h5
  eq := by
    rintro _ _ ⟨xs, rfl, hx⟩ ⟨ys, rfl, hy⟩ h
    rw [eqL_eq _ xs ys hx hy h]
  refl := by
    rintro _ ⟨xs, rfl, _⟩
    exact eqL_refl xs
  bits := by
    rintro _ ⟨xs, rfl, h⟩
    exact (bits_agg 9999 xs.toArray xs.toArray).trans (by simpa using bits_flat 9999 _ xs h)
end
end Go.Eng

/- The engine, part B39: Bools compared, in regions that draw. -/
namespace Go.Eng
set_option maxRecDepth 4000
open Go Go.RowKit
section
variable {P : Program}
variable {ro : Cx} {n : Nat} {F : Fin} {k : List It} {ops : Array Oper} {rest : List Oper} {e : Env} {w0 : World} {M : Nat → Prop} {H Hq : List Ck}
theorem qf_eqb {d t t' : Nat} {x y : Operand} {p q : Bool} {ty : TypeId} {pos : String} {af : Array Edge} (hB : boolB P t = true) (hx : opv e x = some (.bool p)) (hy : opv e y = some (.bool q)) (hd : Nat.blt d n = true)
    (h : QF P ro n F w0 M k ops Hq rest ((d, .bool (p == q)) :: e) H) : QF P ro n F w0 M k ops Hq (⟨some d, .binOp .eql t x y t', ty, pos, af, none⟩ :: rest) e H := .mk fun w hw =>
  yf_quiet rfl hd (fun _ hf w' _ => (exec_eqb hf hx hy hB w').1) (h.h w hw)
/-- One cell of a block is set. -/
theorem ql_stN {T : Tab} (cs' : List Value) (hT : T.Ok P) {t : Nat} {x y : Operand} {b i : Nat} {cs : List Value} {bt : TypeId} {v : Value} {H' : List Ck} {ty : TypeId} {pos : String} {af : Array Edge}
    (hx : opv e x = some (.pointer (some ⟨b, i, none⟩))) (hy : opv e y = some v) (h1 : has T.one t = true) (hv : oneV v = true) (hr : Rp H (.pt b cs bt) (.pt b cs' bt) H') (he : cs.set i v = cs') (hi : Nat.blt i cs.length = true)
    (h : QL P ro n F w0 M k ops rest e H') : QL P ro n F w0 M k ops (⟨none, .store t x y, ty, pos, af, none⟩ :: rest) e H := by
  subst he
  exact ql_store1 hT hx hy h1 hv hr (Nat.le_of_ble_eq_true hi) h
end
end Go.Eng

/- The engine, part B40: a field, of one cell, of a struct that is a value. -/
namespace Go.Eng
set_option maxRecDepth 4000
open Go Go.RowKit

def fldB (P : Program) (t i off ft : Nat) : Bool :=
  match P.underlying t with
  | some (.struct fs) => (match fs[i]? with | some f => Nat.beq f.offset off && Nat.beq f.type ft | none => false)
  | _ => false
section
variable {P : Program} {T : Tab} {ro : Cx} {n : Nat} {F : Fin} {w0 : World} {M : Nat → Prop} {k : List It} {ops : Array Oper} {rest : List Oper} {e : Env} {H Hq : List Ck}
theorem run_fld (hT : T.Ok P) {t i off ft : Nat} {cs : Array Value} {v : Value} (hA : fldB P t i off ft = true) (h1 : has T.one ft = true) (hv : cs.toList[off]? = some v) (w : World) :
    (Instr.field t (.agg cs) i).run P w = .ok v w := by
  obtain ⟨r1, r2⟩ := one_run hT h1 w
  have hv' : cs[off]? = some v := by rw [← hv]; simp
  unfold fldB at hA
  split at hA
  · rename_i fs hu
    split at hA
    · rename_i f hf
      simp only [Bool.and_eq_true] at hA
      have e1 := Nat.eq_of_beq_eq_true hA.1
      have e2 := Nat.eq_of_beq_eq_true hA.2
      subst e1; subst e2
      simp [Instr.field, asAgg, run_underlying hu, hf, part, r1, hv']
    · cases hA
  · cases hA
theorem qf_fld (hT : T.Ok P) {d t i : Nat} (off ft : Nat) {x : Operand} {cs : Array Value} {v : Value} {ty : TypeId} {pos : String} {af : Array Edge} (hA : fldB P t i off ft = true) (h1 : has T.one ft = true)
    (hx : opv e x = some (.agg cs)) (hd : Nat.blt d n = true) (hv : cs.toList[off]? = some v)
    (h : QF P ro n F w0 M k ops Hq rest ((d, v) :: e) H) : QF P ro n F w0 M k ops Hq (⟨some d, .field t x i, ty, pos, af, none⟩ :: rest) e H := .mk fun w hw =>
  yf_quiet rfl hd (fun a hf w' _ => by
    simp only [execOp, hf.op hx]
    simp [run_fld hT hA h1 hv w']) (h.h w hw)
end
end Go.Eng

/- The engine, part B41: an empty list that is no nil, of structs. -/
namespace Go.Eng
set_option maxRecDepth 4000
open Go Go.RowKit
section
variable {P : Program} {T : Tab} {ro : Cx} {n : Nat} {F : Fin} {w0 : World} {M : Nat → Prop} {k : List It} {ops : Array Oper} {rest : List Oper} {e : Env} {H Hq : List Ck}
end
end Go.Eng

/- The engine, part B42: Bools compared, unequal, in regions that draw. -/
namespace Go.Eng
set_option maxRecDepth 4000
open Go Go.RowKit
section
variable {P : Program} {ro : Cx} {n : Nat} {F : Fin} {w0 : World} {M : Nat → Prop} {k : List It} {ops : Array Oper} {rest : List Oper} {e : Env} {H Hq : List Ck}
end
end Go.Eng

/- The engine, part B43: a struct is stored into an own row. -/
namespace Go.Eng
set_option maxRecDepth 4000
open Go Go.RowKit
section
variable {P : Program} {T : Tab} {ro : Cx} {n : Nat} {F : Fin} {w0 : World} {M : Nat → Prop} {k : List It} {ops : Array Oper} {rest : List Oper} {e : Env} {H Hq : List Ck}
end
end Go.Eng

/- The engine, part B44: pieces told otherwise in a region that draws; the least of three numbers. -/
namespace Go.Eng
set_option maxRecDepth 4000
open Go Go.RowKit
section
variable {P : Program} {T : Tab} {ro : Cx} {n : Nat} {F : Fin} {w0 : World} {M : Nat → Prop} {k : List It} {ops : Array Oper} {rest : List Oper} {e : Env} {H H' Hq : List Ck}
end
end Go.Eng

/- The engine, part B45: an empty list that is no nil, in a region that draws. -/
namespace Go.Eng
set_option maxRecDepth 4000
open Go Go.RowKit
section
variable {P : Program} {T : Tab} {ro : Cx} {n : Nat} {F : Fin} {w0 : World} {M : Nat → Prop} {k : List It} {ops : Array Oper} {rest : List Oper} {e : Env} {H H' Hq : List Ck}
end
end Go.Eng

/- The engine, part B46: a map of which the keys (numbers) are known, in their order; how many it has. -/
namespace Go.Eng
set_option maxRecDepth 4000
open Go Go.RowKit
section
variable {P : Program} {T : Tab} {ro : Cx} {n : Nat} {F : Fin} {w0 : World} {M : Nat → Prop} {k : List It} {ops : Array Oper} {rest : List Oper} {e : Env} {H H' Hq : List Ck}
def KeysAt (w : World) (b : Nat) (l : List Int) : Prop := ∃ es clock, w.heap[b]? = some (.map es clock) ∧ es.toList.map (·.key) = ints l
def ksP (b : Nat) (l : List Int) : Ck := .gn (· = b) (fun w => KeysAt w b l)
  (fun _ _ _ ⟨es, clock, h1, h2⟩ hc hn => ⟨es, clock, (hc.block b (Array.getElem?_eq_some_iff.1 h1).1 (hn b rfl)).trans h1, h2⟩)
def insK (l : List Int) (x : Int) : List Int := if x ∈ l then l else l ++ [x]
end
end Go.Eng

/- The engine, part B47: halves of numbers without a sign. -/
namespace Go.Eng
set_option maxRecDepth 4000
open Go Go.RowKit
section
variable {P : Program} {ro : Cx} {n : Nat} {F : Fin} {w0 : World} {M : Nat → Prop} {k : List It} {ops : Array Oper} {rest : List Oper} {e : Env} {H Hq : List Ck}
theorem wu64 {a : Int} (h0 : 0 ≤ a) (h1 : a < 18446744073709551616) : IntKind.u64.wrap a = a := by
  show a % 18446744073709551616 = a
  omega
theorem run_shrU {a : Int} (w : World) : (Op.shift .shr .u64 a .u64 1).run P w = .ok (.int .u64 (a / 2)) w := by
  have e : Int.fdiv a (2 ^ 1) = a / 2 := by rw [Int.fdiv_eq_ediv_of_nonneg _ (by decide)]; rfl
  show (pure (Value.int IntKind.u64 (Int.fdiv a (2 ^ 1))) : Sem Value).run P w = _
  rw [e]
  rfl
theorem ql_shrU {d t t' : Nat} {x : Operand} {a : Int} {ty : TypeId} {pos : String} {af : Array Edge} (hx : opv e x = some (.int .u64 a)) (hd : Nat.blt d n = true)
    (h : QL P ro n F w0 M k ops rest ((d, .int .u64 (a / 2)) :: e) H) : QL P ro n F w0 M k ops (⟨some d, .binOp .shr t x (.const (.int .u64 1)) t', ty, pos, af, none⟩ :: rest) e H := .mk fun w hw =>
  yl_val (by simp) hd (fun a' hf => by
    have e1 := hf.op hx
    have e2 : a'.eval (.const (.int .u64 1)) = .int .u64 1 := rfl
    simp only [execOp, e1, e2]
    have := run_shrU (P := P) (a := a) w
    simp [eqGuard, binOp, this]) (h.h w hw)
end
end Go.Eng

/- Walks: two parts of a list exchanged, a part turned round (slices.swapRangeCmpFunc, rotateCmpFunc). -/
namespace Go.Proofs.YtopdmadgkjdgcaaGreat
set_option maxRecDepth 4000
open Go Go.Eng
set_option maxHeartbeats 4000000 in
theorem swr_ca (w : World) (g c : Nat) (l : List Int) (a b n lo hi : Nat) (cmp : Value) (h1 : lo ≤ a) (h2 : a + n ≤ b) (h3 : b + n ≤ hi) (h4 : hi ≤ l.length) (hl : l.length ≤ 1000) (hb : w.ownsRow 0 3 1 (.slice (some ⟨g, 0, none⟩) l.length c) l.length (ints l)) :
    Ca Tryz.prog 238 [.slice (some ⟨g, 0, none⟩) l.length c, .int .i64 a, .int .i64 b, .int .i64 n, cmp] w fun v w' => ∃ L : List Int, (v = .tuple #[] ∧ Seg l L lo hi ∧ ∀ k, L.getD k 0 = l.getD (swP a b n k) 0) ∧ Sat w (fun x => x = g) [.ow (.slice (some ⟨g, 0, none⟩) l.length c) 3 1 l.length (ints L)] w' := by
  refine q_of (Sat.own0 hb) Tryz.func238 rfl (by simp [Tryz.ntmps238]) ?_
  (refine q_seq (q_region (ql_pure tabOk rfl rfl (q_nil (q_block ?_)))))
  refine q_loop (σ := Nat × List Int) (fun s => s.1 ≤ n ∧ Seg l s.2 lo hi ∧ ∀ k, s.2.getD k 0 = l.getD (swP a b s.1 k) 0) (fun s => n - s.1) (fun s => [(0, .slice (some ⟨g, 0, none⟩) l.length c), (1, .int .i64 a), (2, .int .i64 b), (3, .int .i64 n), (10, .int .i64 s.1)])
    (fun s => [.ow (.slice (some ⟨g, 0, none⟩) l.length c) 3 1 l.length (ints s.2)]) (0, l) ⟨by simp, .refl _ _ _, fun k => by rw [swP_zero]⟩ ⟨rfl, rfl, rfl, rfl, rfl, trivial⟩ (by repeat constructor) ?_
  rintro ⟨i, L⟩ ⟨hi1, hS, hA⟩ K hK
  simp only at hi1 hS hA
  dsimp only
  have hlen : L.length = l.length := hS.len
  (refine q_seq (q_seq (q_region ?_)); (iterate 3 refine ql_pure tabOk rfl rfl ?_); refine q_nil ?_)
  refine q_if rfl (fun hc => ?_) (fun hc => ?_)
  · have hi2 : i < n := by omega
    clear hc
    have y1 : a + i < L.length := by omega
    have y2 : b + i < L.length := by omega
    (refine q_skip (q_seq (q_block ?_)))
    refine q_drawB [true, true, true, true, false, false, false, false, true, true, true, true, true, true, true, true, true, true, true, true, false, false, false, false] [] [.ow (.slice (some ⟨g, 0, none⟩) l.length c) 3 1 l.length (ints L)] (by repeat constructor) (by kernel_rfl) (by kernel_rfl) (by kernel_rfl) ?_
    refine qb_T 4 rfl rfl (Sp.refl _) fun K1 hK1 => ?_
    ((iterate 3 refine qf_pure tabOk rfl rfl rfl ?_); refine qf_ar tabOk rfl rfl rfl rfl (by omega) (by omega) (qf_nil ?_))
    refine hK1 _ _ (qb_F 4 [.ow (.slice (some ⟨g, 0, none⟩) l.length c) 3 1 l.length (ints L)] rfl rfl (by repeat constructor) fun K1 hK1 => ?_)
    ((iterate 3 refine qf_pure tabOk rfl rfl rfl ?_); refine qf_ar tabOk rfl rfl rfl rfl (by omega) (by omega) (qf_nil ?_))
    refine hK1 _ _ (qb_T 12 rfl rfl (by repeat constructor) fun K1 hK1 => ?_)
    ((iterate 3 refine qf_pure tabOk rfl rfl rfl ?_); refine qf_ar tabOk rfl rfl rfl rfl (by omega) (by omega) ?_)
    rw [show (b : Int) + i = (b + i : Nat) from by omega]
    (refine qf_index tabOk rfl rfl rfl rfl rfl (by omega) (by omega) ?_; refine qf_load1 tabOk rfl rfl rfl (fun w hs => RdI.at (hs.rdI (l := L) (t := 3) (n := l.length) (by repeat constructor) hlen.symm) (b + i) y2) ?_)
    ((iterate 3 refine qf_pure tabOk rfl rfl rfl ?_); refine qf_ar tabOk rfl rfl rfl rfl (by omega) (by omega) ?_)
    rw [show (a : Int) + i = (a + i : Nat) from by omega]
    (refine qf_index tabOk rfl rfl rfl rfl rfl (by omega) (by omega) ?_; refine qf_load1 tabOk rfl rfl rfl (fun w hs => RdI.at (hs.rdI (l := L) (t := 3) (n := l.length) (by repeat constructor) hlen.symm) (a + i) y1) ?_)
    (refine qf_nil ?_)
    refine hK1 _ _ (qb_F 4 [.ow (.slice (some ⟨g, 0, none⟩) l.length c) 3 1 l.length (ints L)] rfl rfl (by repeat constructor) fun K1 hK1 => ?_)
    skip
    refine qf_index tabOk rfl rfl rfl rfl rfl (by omega) (by omega) ?_
    refine qf_storeW tabOk (a + i) rfl rfl rfl rfl (by repeat constructor) (by omega) (by simpa using y1) ?_
    skip
    refine qf_index tabOk rfl rfl rfl rfl rfl (by omega) (by omega) ?_
    refine qf_storeW tabOk (b + i) rfl rfl rfl rfl (by repeat constructor) (by omega) (by simpa using y2) ?_
    rw [set_ints, set_ints]
    (refine qf_nil ?_)
    refine hK1 _ _ (qb_nil ?_)
    have e : (L.set (a + i) L[b + i]).set (b + i) L[a + i] = swL L (a + i) (b + i) := by
      unfold swL
      rw [getD_get y1, getD_get y2]
    rw [e]
    (refine q_blk (q_region (ql_pure tabOk rfl rfl (ql_ar tabOk rfl rfl rfl rfl (by omega) (by omega) (ql_pure tabOk rfl rfl (q_nil ?_))))))
    exact hK (i + 1, _) _ _ ⟨by simp only; omega, hS.trans (.sw (by omega) (by omega) (by omega)), swP_next (by omega) y2 hA⟩ (by simp only; omega) ⟨rfl, rfl, rfl, rfl, rfl, trivial⟩ (by repeat constructor)
  · obtain rfl : i = n := by omega
    (refine q_exit _ rfl ?_)
    refine q_end tabOk rfl (by repeat constructor) fun w hs => ?_
    exact ⟨L, ⟨rfl, hS, hA⟩, hs⟩
set_option maxHeartbeats 4000000 in
theorem rot_ca (w : World) (g c : Nat) (l : List Int) (a m b lo hi : Nat) (cmp : Value) (h0 : lo ≤ a) (h1 : a < m) (h2 : m < b) (h3 : b ≤ hi) (h4 : hi ≤ l.length) (hl : l.length ≤ 1000) (hb : w.ownsRow 0 3 1 (.slice (some ⟨g, 0, none⟩) l.length c) l.length (ints l)) :
    Ca Tryz.prog 235 [.slice (some ⟨g, 0, none⟩) l.length c, .int .i64 a, .int .i64 m, .int .i64 b, cmp] w fun v w' => ∃ L : List Int, (v = .tuple #[] ∧ Seg l L lo hi ∧ ∀ k, L.getD k 0 = l.getD (roP a m b k) 0) ∧ Sat w (fun x => x = g) [.ow (.slice (some ⟨g, 0, none⟩) l.length c) 3 1 l.length (ints L)] w' := by
  refine q_of (Sat.own0 hb) Tryz.func235 rfl (by simp [Tryz.ntmps235]) ?_
  (refine q_seq (q_region (ql_pure tabOk rfl rfl (ql_pure tabOk rfl rfl (ql_ar tabOk rfl rfl rfl rfl (by omega) (by omega) (ql_pure tabOk rfl rfl (q_nil (q_seq (q_region (ql_pure tabOk rfl rfl (ql_pure tabOk rfl rfl (ql_ar tabOk rfl rfl rfl rfl (by omega) (by omega) ?_))))))))))); refine ql_pure tabOk rfl rfl (q_nil (q_seq (q_block ?_))))
  refine q_loop (σ := Nat × Nat × List Int) (fun ⟨i, j, C⟩ => (0 < i ∧ 0 < j ∧ a + i ≤ m ∧ m + j ≤ b) ∧ Seg l C lo hi ∧ ∀ k, C.getD (roP (m - i) m (m + j) k) 0 = l.getD (roP a m b k) 0) (fun ⟨i, j, _⟩ => i + j) (fun ⟨i, j, C⟩ => [(0, .slice (some ⟨g, 0, none⟩) l.length c), (2, .int .i64 m), (4, cmp), (10, .int .i64 i), (11, .int .i64 j)])
    (fun ⟨i, j, C⟩ => [.ow (.slice (some ⟨g, 0, none⟩) l.length c) 3 1 l.length (ints C)]) (m - a, b - m, l) ⟨by omega, .refl _ _ _, fun k => by rw [show m - (m - a) = a from by omega, show m + (b - m) = b from by omega]⟩ ⟨rfl, rfl, rfl, lookI rfl (by omega), lookI rfl (by omega), trivial⟩ (by repeat constructor) ?_
  rintro ⟨i, j, C⟩ ⟨⟨p1, p2, p3, p4⟩, hS, hA⟩ K hK
  dsimp only at p1 p2 p3 p4 hS hA hK ⊢
  have hlen : C.length = l.length := hS.len
  have hmi : (m : Int) - i = (m - i : Nat) := by omega
  by_cases cij : i = j
  · subst cij
    (refine q_seq (q_seq (q_region (ql_pure tabOk rfl rfl (ql_pure tabOk rfl rfl (ql_neqF tabOk rfl rfl rfl (by omega) (q_nil (q_cond_false rfl (q_exit _ rfl (q_region ?_))))))))); (iterate 3 refine ql_pure tabOk rfl rfl ?_); refine ql_ar tabOk rfl rfl rfl rfl (by omega) (by omega) ?_; (iterate 3 refine ql_pure tabOk rfl rfl ?_))
    rw [hmi]
    refine ql_call (β := List Int) (ψ := fun D v => v = .tuple #[] ∧ Seg C D lo hi ∧ ∀ k, D.getD k 0 = C.getD (swP (m - i) (m) (i) k) 0) (L' := fun D => [.ow (.slice (some ⟨g, 0, none⟩) l.length c) 3 1 l.length (ints D)]) tabOk [.ow (.slice (some ⟨g, 0, none⟩) l.length c) 3 1 l.length (ints C)] _ (fun x => x = g) rfl rfl rfl rfl (Sp.cons (by repeat constructor) (Sp.refl _)) (fun x hx => ⟨_, .head _, by subst hx; rfl⟩) (fun w' hs => by have := swr_ca w' g c C (m - i) (m) (i) lo hi cmp (by omega) (by omega) (by omega) (by omega) (by omega) (by rw [hlen]; exact hs.all _ (.head _)); rw [hlen] at this; exact this) ?_
    rintro D _ ⟨rfl, hD, hDA⟩
    dsimp only [List.cons_append, List.nil_append]
    (refine q_nil ?_)
    refine q_end tabOk rfl (by repeat constructor) fun w hs => ?_
    exact ⟨D, ⟨rfl, hS.trans hD, fun k => by rw [hDA, ro_eq (by omega), hA]⟩, hs⟩
  · by_cases cg : j < i
    · (refine q_seq (q_seq (q_region (ql_pure tabOk rfl rfl (ql_pure tabOk rfl rfl (ql_neqT tabOk rfl rfl rfl (by omega) (q_nil (q_cond_true rfl (q_skip (q_block (q_seq (q_region ?_))))))))))); refine ql_pure tabOk rfl rfl (ql_pure tabOk rfl rfl (ql_gtrT tabOk rfl rfl rfl (by omega) (q_nil (q_cond_true rfl (q_seq (q_region ?_)))))); (iterate 3 refine ql_pure tabOk rfl rfl ?_); refine ql_ar tabOk rfl rfl rfl rfl (by omega) (by omega) ?_; (iterate 3 refine ql_pure tabOk rfl rfl ?_))
      rw [hmi]
      refine ql_call (β := List Int) (ψ := fun D v => v = .tuple #[] ∧ Seg C D lo hi ∧ ∀ k, D.getD k 0 = C.getD (swP (m - i) (m) (j) k) 0) (L' := fun D => [.ow (.slice (some ⟨g, 0, none⟩) l.length c) 3 1 l.length (ints D)]) tabOk [.ow (.slice (some ⟨g, 0, none⟩) l.length c) 3 1 l.length (ints C)] _ (fun x => x = g) rfl rfl rfl rfl (Sp.cons (by repeat constructor) (Sp.refl _)) (fun x hx => ⟨_, .head _, by subst hx; rfl⟩) (fun w' hs => by have := swr_ca w' g c C (m - i) (m) (j) lo hi cmp (by omega) (by omega) (by omega) (by omega) (by omega) (by rw [hlen]; exact hs.all _ (.head _)); rw [hlen] at this; exact this) ?_
      rintro D _ ⟨rfl, hD, hDA⟩
      dsimp only [List.cons_append, List.nil_append]
      (refine q_nil (q_region (ql_pure tabOk rfl rfl (ql_pure tabOk rfl rfl (ql_ar tabOk rfl rfl rfl rfl (by omega) (by omega) (ql_pure tabOk rfl rfl (q_nil (q_blk ?_))))))))
      exact hK (i - j, j, D) _ _ ⟨by dsimp only; omega, hS.trans hD, fun k => by rw [hDA, ro_gt (by omega) p2 cg, hA]⟩ (by dsimp only; omega) ⟨rfl, rfl, rfl, lookI rfl (by dsimp only; omega), rfl, trivial⟩ (by repeat constructor)
    · have hmj : (m : Int) + j - i = (m + j - i : Nat) := by omega
      (refine q_seq (q_seq (q_region (ql_pure tabOk rfl rfl (ql_pure tabOk rfl rfl (ql_neqT tabOk rfl rfl rfl (by omega) (q_nil (q_cond_true rfl (q_skip (q_block (q_seq (q_region ?_))))))))))); refine ql_pure tabOk rfl rfl (ql_pure tabOk rfl rfl (ql_gtrF tabOk rfl rfl rfl (by omega) (q_nil (q_cond_false rfl (q_seq (q_region ?_)))))); (iterate 3 refine ql_pure tabOk rfl rfl ?_); refine ql_ar tabOk rfl rfl rfl rfl (by omega) (by omega) (ql_pure tabOk rfl rfl (ql_pure tabOk rfl rfl (ql_ar tabOk rfl rfl rfl rfl (by omega) (by omega) (ql_pure tabOk rfl rfl (ql_ar tabOk rfl rfl rfl rfl (by omega) (by omega) (ql_pure tabOk rfl rfl (ql_pure tabOk rfl rfl ?_))))))))
      rw [hmi, hmj]
      refine ql_call (β := List Int) (ψ := fun D v => v = .tuple #[] ∧ Seg C D lo hi ∧ ∀ k, D.getD k 0 = C.getD (swP (m - i) (m + j - i) (i) k) 0) (L' := fun D => [.ow (.slice (some ⟨g, 0, none⟩) l.length c) 3 1 l.length (ints D)]) tabOk [.ow (.slice (some ⟨g, 0, none⟩) l.length c) 3 1 l.length (ints C)] _ (fun x => x = g) rfl rfl rfl rfl (Sp.cons (by repeat constructor) (Sp.refl _)) (fun x hx => ⟨_, .head _, by subst hx; rfl⟩) (fun w' hs => by have := swr_ca w' g c C (m - i) (m + j - i) (i) lo hi cmp (by omega) (by omega) (by omega) (by omega) (by omega) (by rw [hlen]; exact hs.all _ (.head _)); rw [hlen] at this; exact this) ?_
      rintro D _ ⟨rfl, hD, hDA⟩
      dsimp only [List.cons_append, List.nil_append]
      (refine q_nil (q_region (ql_pure tabOk rfl rfl (ql_pure tabOk rfl rfl (ql_ar tabOk rfl rfl rfl rfl (by omega) (by omega) (ql_pure tabOk rfl rfl (q_nil (q_blk ?_))))))))
      exact hK (i, j - i, D) _ _ ⟨by dsimp only; omega, hS.trans hD, fun k => by rw [hDA, ro_lt (by omega) p1 (by omega), hA]⟩ (by dsimp only; omega) ⟨rfl, rfl, rfl, rfl, lookI rfl (by dsimp only; omega), trivial⟩ (by repeat constructor)
end Go.Proofs.YtopdmadgkjdgcaaGreat

/- Walk: two sorted parts of a list merged in place (slices.symMergeCmpFunc). Written by gen_F45.py. -/
namespace Go.Proofs.YtopdmadgkjdgcaaGreat
set_option maxRecDepth 4000
open Go Go.Eng
set_option maxHeartbeats 8000000 in
theorem symM_ca (g c0 N : Nat) (B : List Int) (key : Int → Int) (cmp : Value) (cf : Int → Int → Int) (hcf : ∀ x ∈ B, ∀ y ∈ B, (cf x y < 0 ↔ key x < key y)) (hN : N ≤ 1000) :
    ∀ (d : Nat) (w : World) (l : List Int) (a m b : Nat), b - a ≤ d → a < m → m < b → b ≤ N → l.length = N → (∀ x ∈ l, x ∈ B) → CmpS w g cmp cf B → SrW key l a m → SrW key l m b → w.ownsRow 0 3 1 (.slice (some ⟨g, 0, none⟩) N c0) N (ints l) →
    Ca Tryz.prog 222 [(.slice (some ⟨g, 0, none⟩) N c0), .int .i64 a, .int .i64 m, .int .i64 b, cmp] w fun v w' => ∃ L : List Int, (v = .tuple #[] ∧ Seg l L a b ∧ SrW key L a b) ∧ Sat w (fun x => x = g) [.ow (.slice (some ⟨g, 0, none⟩) N c0) 3 1 N (ints L)] w' := by
  intro d
  induction d with
  | zero => intro w l a m b h1 h2 h3; omega
  | succ d ih =>
    intro w l a m b hd ham hmb hbN hln hB hcmp hs1 hs2 hb
    refine q_of (Sat.own0 hb) Tryz.func222 rfl (by simp [Tryz.ntmps222]) ?_
    by_cases hm1 : m = a + 1
    · subst hm1
      (refine q_seq (q_seq (q_region (ql_pure tabOk rfl rfl (ql_pure tabOk rfl rfl (ql_ar tabOk rfl rfl rfl rfl (by omega) (by omega) (ql_eqlT tabOk rfl rfl rfl (by omega) (q_nil (q_cond_true rfl (q_seq (q_region (ql_pure tabOk rfl rfl ?_))))))))))); refine ql_pure tabOk rfl rfl (q_nil (q_seq (q_region (ql_pure tabOk rfl rfl (ql_pure tabOk rfl rfl (q_nil (q_seq (q_block ?_)))))))))
      refine q_loop (σ := Nat × Nat) (fun ⟨i, j⟩ => (a + 1 ≤ i ∧ i ≤ j ∧ j ≤ b) ∧ (i = a + 1 ∨ key (l.getD (i - 1) 0) < key (l.getD a 0)) ∧ (j = b ∨ key (l.getD a 0) ≤ key (l.getD j 0))) (fun ⟨i, j⟩ => j - i) (fun ⟨i, j⟩ => [(0, (.slice (some ⟨g, 0, none⟩) N c0)), (1, .int .i64 a), (4, cmp), (10, .int .i64 i), (11, .int .i64 j)]) (fun _ => [.ow (.slice (some ⟨g, 0, none⟩) N c0) 3 1 N (ints l)]) (a + 1, b) ⟨by omega, .inl rfl, .inl rfl⟩ ⟨rfl, rfl, rfl, lookI rfl (by omega), rfl, trivial⟩ (by repeat constructor) ?_
      rintro ⟨i, j⟩ ⟨⟨p1, p2, p3⟩, c1, c2⟩ K hK
      dsimp only at p1 p2 p3 c1 c2 hK ⊢
      (refine q_seq (q_seq (q_region ?_)); (iterate 3 refine ql_pure tabOk rfl rfl ?_); refine q_nil ?_)
      refine q_if rfl (fun hc => ?_) (fun hc => ?_)
      · have hij : i < j := by omega
        clear hc
        obtain ⟨h, hh⟩ : ∃ h : Nat, (h : Int) = ((i : Int) + j) / 2 := ⟨(i + j) / 2, by omega⟩
        (refine q_skip (q_block (q_seq (q_region (ql_pure tabOk rfl rfl (ql_pure tabOk rfl rfl (ql_ar tabOk rfl rfl rfl rfl (by omega) (by omega) (ql_pure tabOk rfl rfl ?_))))))))
        rw [wu64 (by omega) (by omega)]
        refine ql_shrU rfl rfl ?_
        rw [← hh]
        (refine ql_pure tabOk rfl rfl (ql_pure tabOk rfl rfl (q_nil (q_seq ?_))))
        rw [w64 (by omega) (by omega)]
        have y1 : h < l.length := by omega
        have y2 : a < l.length := by omega
        skip
        refine q_draw _ [] (Sp.refl _) (by kernel_rfl) (by kernel_rfl) ?_
        ((iterate 3 refine qf_pure tabOk rfl rfl rfl ?_))
        refine qf_index tabOk rfl rfl rfl rfl rfl (by omega) (by omega) ?_
        skip
        refine qf_load1 (v := .int .i64 l[h]) tabOk rfl rfl rfl (fun w hs => RdI.at (hs.rdI (v := (.slice (some ⟨g, 0, none⟩) N c0)) (l := l) (t := 3) (n := N) (by repeat constructor) hln.symm) (h) y1) ?_
        (refine qf_pure tabOk rfl rfl rfl (qf_pure tabOk rfl rfl rfl ?_))
        refine qf_index tabOk rfl rfl rfl rfl rfl (by omega) (by omega) ?_
        skip
        refine qf_load1 (v := .int .i64 l[a]) tabOk rfl rfl rfl (fun w hs => RdI.at (hs.rdI (v := (.slice (some ⟨g, 0, none⟩) N c0)) (l := l) (t := 3) (n := N) (by repeat constructor) hln.symm) (a) y2) ?_
        skip
        refine qf_callFv rfl rfl rfl (fun w' hs => hcmp w' hs.chg _ (hB _ (List.getElem_mem y1)) _ (hB _ (List.getElem_mem y2))) ?_
        have hcj : cf l[h] l[a] < 0 ↔ key (l.getD (h) 0) < key (l.getD (a) 0) := by
          rw [getD_get y1, getD_get y2]
          exact hcf _ (hB _ (List.getElem_mem y1)) _ (hB _ (List.getElem_mem y2))
        by_cases hlt : cf l[h] l[a] < 0
        · (refine qf_lssT tabOk rfl rfl rfl (by omega) (qf_nil (q_cond_true rfl (q_region (ql_pure tabOk rfl rfl (ql_ar tabOk rfl rfl rfl rfl (by omega) (by omega) (ql_pure tabOk rfl rfl (q_nil (q_blk ?_)))))))))
          exact hK (h + 1, j) _ _ ⟨by dsimp only; omega, .inr (hcj.1 hlt), c2⟩ (by dsimp only; omega) ⟨rfl, rfl, rfl, lookI rfl (by dsimp only; omega), rfl, trivial⟩ (by repeat constructor)
        · (refine qf_lssF tabOk rfl rfl rfl (by omega) (qf_nil (q_cond_false rfl (q_region (ql_pure tabOk rfl rfl (ql_pure tabOk rfl rfl (q_nil (q_blk ?_))))))))
          exact hK (i, h) _ _ ⟨by dsimp only; omega, c1, .inr (Int.not_lt.1 fun e => hlt (hcj.2 e))⟩ (by dsimp only; omega) ⟨rfl, rfl, rfl, rfl, rfl, trivial⟩ (by repeat constructor)
      · obtain rfl : i = j := by omega
        clear hc hK
        (refine q_exit _ rfl (q_seq (q_seq (q_region (ql_pure tabOk rfl rfl (ql_pure tabOk rfl rfl (q_nil (q_block ?_))))))))
        refine q_loop (σ := Nat × List Int) (fun ⟨k, C⟩ => (a ≤ k ∧ k + 1 ≤ i) ∧ Seg l C a b ∧ ∀ x, C.getD x 0 = l.getD (roP a (a + 1) (k + 1) x) 0) (fun ⟨k, _⟩ => i - k) (fun ⟨k, C⟩ => [(0, (.slice (some ⟨g, 0, none⟩) N c0)), (10, .int .i64 i), (13, .int .i64 k)]) (fun ⟨k, C⟩ => [.ow (.slice (some ⟨g, 0, none⟩) N c0) 3 1 N (ints C)]) (a, l) ⟨by omega, .refl _ _ _, fun x => by rw [ro_id ⟨by omega, Nat.le_refl _⟩ (.inr rfl)]⟩ ⟨rfl, rfl, rfl, trivial⟩ (by repeat constructor) ?_
        rintro ⟨k, C⟩ ⟨⟨q1, q2⟩, hS, hA⟩ K hK
        dsimp only at q1 q2 hS hA hK ⊢
        have hlen : C.length = N := by rw [hS.len, hln]
        (refine q_seq (q_seq (q_region (ql_pure tabOk rfl rfl (ql_pure tabOk rfl rfl (ql_ar tabOk rfl rfl rfl rfl (by omega) (by omega) (ql_pure tabOk rfl rfl (q_nil ?_))))))))
        refine q_if rfl (fun hc => ?_) (fun hc => ?_)
        · have hki : k + 1 < i := by omega
          clear hc
          have y1 : k < C.length := by omega
          have y2 : k + 1 < C.length := by omega
          have hk1 : (k : Int) + 1 = (k + 1 : Nat) := by omega
          (refine q_skip (q_seq (q_block ?_)))
          refine q_drawB [true, true, false, false, false, true, true, true, true, true, true, true, true, true, false, false, false, false] [] [.ow (.slice (some ⟨g, 0, none⟩) N c0) 3 1 N (ints C)] (by repeat constructor) (by kernel_rfl) (by kernel_rfl) (by kernel_rfl) ?_
          refine qb_T 2 rfl rfl (Sp.refl _) fun K1 hK1 => ?_
          (refine qf_pure tabOk rfl rfl rfl (qf_pure tabOk rfl rfl rfl (qf_nil ?_)))
          refine hK1 _ _ (qb_F 3 [.ow (.slice (some ⟨g, 0, none⟩) N c0) 3 1 N (ints C)] rfl rfl (by repeat constructor) fun K1 hK1 => ?_)
          (refine qf_pure tabOk rfl rfl rfl (qf_pure tabOk rfl rfl rfl (qf_ar tabOk rfl rfl rfl rfl (by omega) (by omega) (qf_nil ?_))))
          refine hK1 _ _ (qb_T 9 rfl rfl (by repeat constructor) fun K1 hK1 => ?_)
          (refine qf_pure tabOk rfl rfl rfl (qf_pure tabOk rfl rfl rfl (qf_ar tabOk rfl rfl rfl rfl (by omega) (by omega) ?_)))
          rw [hk1]
          (refine qf_index tabOk rfl rfl rfl rfl rfl (by omega) (by omega) ?_; refine qf_load1 tabOk rfl rfl rfl (fun w hs => RdI.at (hs.rdI (l := C) (t := 3) (n := N) (by repeat constructor) hlen.symm) (k + 1) y2) ?_)
          (refine qf_pure tabOk rfl rfl rfl (qf_pure tabOk rfl rfl rfl ?_))
          (refine qf_index tabOk rfl rfl rfl rfl rfl (by omega) (by omega) ?_; refine qf_load1 tabOk rfl rfl rfl (fun w hs => RdI.at (hs.rdI (l := C) (t := 3) (n := N) (by repeat constructor) hlen.symm) (k) y1) ?_)
          (refine qf_nil ?_)
          refine hK1 _ _ (qb_F 4 [.ow (.slice (some ⟨g, 0, none⟩) N c0) 3 1 N (ints C)] rfl rfl (by repeat constructor) fun K1 hK1 => ?_)
          skip
          refine qf_index tabOk rfl rfl rfl rfl rfl (by omega) (by omega) ?_
          refine qf_storeW tabOk (k) rfl rfl rfl rfl (by repeat constructor) (by omega) (by simpa using y1) ?_
          skip
          refine qf_index tabOk rfl rfl rfl rfl rfl (by omega) (by omega) ?_
          refine qf_storeW tabOk (k + 1) rfl rfl rfl rfl (by repeat constructor) (by omega) (by simpa using y2) ?_
          rw [set_ints, set_ints]
          (refine qf_nil ?_)
          refine hK1 _ _ (qb_nil ?_)
          have e : (C.set (k) C[k + 1]).set (k + 1) C[k] = swL C (k) (k + 1) := by
            unfold swL
            rw [getD_get y1, getD_get y2]
          rw [e]
          (refine q_blk (q_region (ql_pure tabOk rfl rfl (ql_ar tabOk rfl rfl rfl rfl (by omega) (by omega) (ql_pure tabOk rfl rfl (q_nil ?_))))))
          exact hK (k + 1, _) _ _ ⟨by dsimp only; omega, hS.trans (.sw (by omega) (by omega) (by omega)), mv_first q1 y2 hA⟩ (by dsimp only; omega) ⟨rfl, rfl, rfl, trivial⟩ (by repeat constructor)
        · have hki : k + 1 = i := by omega
          clear hc hK
          (refine q_exit _ rfl (q_ret ?_))
          refine q_fin tabOk rfl (by repeat constructor) fun w hs => ?_
          have hR : Rot l C a a (a + 1) i b := ⟨Nat.le_refl _, by omega, p1, p3, fun x => by rw [hA, hki]⟩
          exact ⟨C, ⟨rfl, hS, hR.first hs2 c1 c2⟩, hs⟩
    by_cases hb1 : b = m + 1
    · subst hb1
      (refine q_seq (q_seq (q_region (ql_pure tabOk rfl rfl (ql_pure tabOk rfl rfl (ql_ar tabOk rfl rfl rfl rfl (by omega) (by omega) (ql_eqlF tabOk rfl rfl rfl (by omega) (q_nil (q_cond_false rfl (q_skip (q_seq (q_seq ?_))))))))))); refine q_region (ql_pure tabOk rfl rfl (ql_pure tabOk rfl rfl (ql_ar tabOk rfl rfl rfl rfl (by omega) (by omega) (ql_eqlT tabOk rfl rfl rfl (by omega) (q_nil (q_cond_true rfl (q_seq (q_region (ql_pure tabOk rfl rfl (ql_pure tabOk rfl rfl (q_nil ?_))))))))))); refine q_seq (q_region (ql_pure tabOk rfl rfl (ql_pure tabOk rfl rfl (q_nil (q_seq (q_block ?_)))))))
      refine q_loop (σ := Nat × Nat) (fun ⟨i, j⟩ => (a ≤ i ∧ i ≤ j ∧ j ≤ m) ∧ (i = a ∨ key (l.getD (i - 1) 0) ≤ key (l.getD m 0)) ∧ (j = m ∨ key (l.getD m 0) < key (l.getD j 0))) (fun ⟨i, j⟩ => j - i) (fun ⟨i, j⟩ => [(0, (.slice (some ⟨g, 0, none⟩) N c0)), (2, .int .i64 m), (4, cmp), (14, .int .i64 i), (15, .int .i64 j)]) (fun _ => [.ow (.slice (some ⟨g, 0, none⟩) N c0) 3 1 N (ints l)]) (a, m) ⟨by omega, .inl rfl, .inl rfl⟩ ⟨rfl, rfl, rfl, rfl, rfl, trivial⟩ (by repeat constructor) ?_
      rintro ⟨i, j⟩ ⟨⟨p1, p2, p3⟩, c1, c2⟩ K hK
      dsimp only at p1 p2 p3 c1 c2 hK ⊢
      (refine q_seq (q_seq (q_region ?_)); (iterate 3 refine ql_pure tabOk rfl rfl ?_); refine q_nil ?_)
      refine q_if rfl (fun hc => ?_) (fun hc => ?_)
      · have hij : i < j := by omega
        clear hc
        obtain ⟨h, hh⟩ : ∃ h : Nat, (h : Int) = ((i : Int) + j) / 2 := ⟨(i + j) / 2, by omega⟩
        (refine q_skip (q_block (q_seq (q_region (ql_pure tabOk rfl rfl (ql_pure tabOk rfl rfl (ql_ar tabOk rfl rfl rfl rfl (by omega) (by omega) (ql_pure tabOk rfl rfl ?_))))))))
        rw [wu64 (by omega) (by omega)]
        refine ql_shrU rfl rfl ?_
        rw [← hh]
        (refine ql_pure tabOk rfl rfl (ql_pure tabOk rfl rfl (q_nil (q_seq ?_))))
        rw [w64 (by omega) (by omega)]
        have y1 : m < l.length := by omega
        have y2 : h < l.length := by omega
        skip
        refine q_draw _ [] (Sp.refl _) (by kernel_rfl) (by kernel_rfl) ?_
        ((iterate 3 refine qf_pure tabOk rfl rfl rfl ?_))
        refine qf_index tabOk rfl rfl rfl rfl rfl (by omega) (by omega) ?_
        skip
        refine qf_load1 (v := .int .i64 l[m]) tabOk rfl rfl rfl (fun w hs => RdI.at (hs.rdI (v := (.slice (some ⟨g, 0, none⟩) N c0)) (l := l) (t := 3) (n := N) (by repeat constructor) hln.symm) (m) y1) ?_
        (refine qf_pure tabOk rfl rfl rfl (qf_pure tabOk rfl rfl rfl ?_))
        refine qf_index tabOk rfl rfl rfl rfl rfl (by omega) (by omega) ?_
        skip
        refine qf_load1 (v := .int .i64 l[h]) tabOk rfl rfl rfl (fun w hs => RdI.at (hs.rdI (v := (.slice (some ⟨g, 0, none⟩) N c0)) (l := l) (t := 3) (n := N) (by repeat constructor) hln.symm) (h) y2) ?_
        skip
        refine qf_callFv rfl rfl rfl (fun w' hs => hcmp w' hs.chg _ (hB _ (List.getElem_mem y1)) _ (hB _ (List.getElem_mem y2))) ?_
        have hcj : cf l[m] l[h] < 0 ↔ key (l.getD (m) 0) < key (l.getD (h) 0) := by
          rw [getD_get y1, getD_get y2]
          exact hcf _ (hB _ (List.getElem_mem y1)) _ (hB _ (List.getElem_mem y2))
        by_cases hlt : cf l[m] l[h] < 0
        · (refine qf_lssT tabOk rfl rfl rfl (by omega) (qf_pure tabOk rfl rfl rfl (qf_nil (q_cond_false rfl (q_region (ql_pure tabOk rfl rfl (ql_pure tabOk rfl rfl (q_nil (q_blk ?_)))))))))
          exact hK (i, h) _ _ ⟨by dsimp only; omega, c1, .inr (hcj.1 hlt)⟩ (by dsimp only; omega) ⟨rfl, rfl, rfl, rfl, rfl, trivial⟩ (by repeat constructor)
        · (refine qf_lssF tabOk rfl rfl rfl (by omega) (qf_pure tabOk rfl rfl rfl (qf_nil (q_cond_true rfl (q_region (ql_pure tabOk rfl rfl (ql_ar tabOk rfl rfl rfl rfl (by omega) (by omega) (ql_pure tabOk rfl rfl (q_nil (q_blk ?_))))))))))
          exact hK (h + 1, j) _ _ ⟨by dsimp only; omega, .inr (Int.not_lt.1 fun e => hlt (hcj.2 e)), c2⟩ (by dsimp only; omega) ⟨rfl, rfl, rfl, lookI rfl (by dsimp only; omega), rfl, trivial⟩ (by repeat constructor)
      · obtain rfl : i = j := by omega
        clear hc hK
        (refine q_exit _ rfl (q_seq (q_seq (q_region (ql_pure tabOk rfl rfl (ql_pure tabOk rfl rfl (q_nil (q_block ?_))))))))
        refine q_loop (σ := Nat × List Int) (fun ⟨k, C⟩ => (i ≤ k ∧ k ≤ m) ∧ Seg l C a (m + 1) ∧ ∀ x, C.getD x 0 = l.getD (roP k m (m + 1) x) 0) (fun ⟨k, _⟩ => k - i) (fun ⟨k, C⟩ => [(0, (.slice (some ⟨g, 0, none⟩) N c0)), (14, .int .i64 i), (17, .int .i64 k)]) (fun ⟨k, C⟩ => [.ow (.slice (some ⟨g, 0, none⟩) N c0) 3 1 N (ints C)]) (m, l) ⟨by omega, .refl _ _ _, fun x => by rw [ro_id ⟨Nat.le_refl _, by omega⟩ (.inl rfl)]⟩ ⟨rfl, rfl, rfl, trivial⟩ (by repeat constructor) ?_
        rintro ⟨k, C⟩ ⟨⟨q1, q2⟩, hS, hA⟩ K hK
        dsimp only at q1 q2 hS hA hK ⊢
        have hlen : C.length = N := by rw [hS.len, hln]
        (refine q_seq (q_seq (q_region ?_)); (iterate 3 refine ql_pure tabOk rfl rfl ?_); refine q_nil ?_)
        refine q_if rfl (fun hc => ?_) (fun hc => ?_)
        · have hki : i < k := by omega
          clear hc
          obtain ⟨r, rfl⟩ : ∃ r, k = r + 1 := ⟨k - 1, by omega⟩
          have y1 : r + 1 < C.length := by omega
          have y2 : r < C.length := by omega
          have hk1 : ((r + 1 : Nat) : Int) - 1 = r := by omega
          (refine q_skip (q_seq (q_block ?_)))
          refine q_drawB [true, true, false, false, false, true, true, true, true, true, true, true, true, true, false, false, false, false] [] [.ow (.slice (some ⟨g, 0, none⟩) N c0) 3 1 N (ints C)] (by repeat constructor) (by kernel_rfl) (by kernel_rfl) (by kernel_rfl) ?_
          refine qb_T 2 rfl rfl (Sp.refl _) fun K1 hK1 => ?_
          (refine qf_pure tabOk rfl rfl rfl (qf_pure tabOk rfl rfl rfl (qf_nil ?_)))
          refine hK1 _ _ (qb_F 3 [.ow (.slice (some ⟨g, 0, none⟩) N c0) 3 1 N (ints C)] rfl rfl (by repeat constructor) fun K1 hK1 => ?_)
          (refine qf_pure tabOk rfl rfl rfl (qf_pure tabOk rfl rfl rfl (qf_ar tabOk rfl rfl rfl rfl (by omega) (by omega) (qf_nil ?_))))
          refine hK1 _ _ (qb_T 9 rfl rfl (by repeat constructor) fun K1 hK1 => ?_)
          (refine qf_pure tabOk rfl rfl rfl (qf_pure tabOk rfl rfl rfl (qf_ar tabOk rfl rfl rfl rfl (by omega) (by omega) ?_)))
          rw [hk1]
          (refine qf_index tabOk rfl rfl rfl rfl rfl (by omega) (by omega) ?_; refine qf_load1 tabOk rfl rfl rfl (fun w hs => RdI.at (hs.rdI (l := C) (t := 3) (n := N) (by repeat constructor) hlen.symm) (r) y2) ?_)
          (refine qf_pure tabOk rfl rfl rfl (qf_pure tabOk rfl rfl rfl ?_))
          (refine qf_index tabOk rfl rfl rfl rfl rfl (by omega) (by omega) ?_; refine qf_load1 tabOk rfl rfl rfl (fun w hs => RdI.at (hs.rdI (l := C) (t := 3) (n := N) (by repeat constructor) hlen.symm) (r + 1) y1) ?_)
          (refine qf_nil ?_)
          refine hK1 _ _ (qb_F 4 [.ow (.slice (some ⟨g, 0, none⟩) N c0) 3 1 N (ints C)] rfl rfl (by repeat constructor) fun K1 hK1 => ?_)
          skip
          refine qf_index tabOk rfl rfl rfl rfl rfl (by omega) (by omega) ?_
          refine qf_storeW tabOk (r + 1) rfl rfl rfl rfl (by repeat constructor) (by omega) (by simpa using y1) ?_
          skip
          refine qf_index tabOk rfl rfl rfl rfl rfl (by omega) (by omega) ?_
          refine qf_storeW tabOk (r) rfl rfl rfl rfl (by repeat constructor) (by omega) (by simpa using y2) ?_
          rw [set_ints, set_ints]
          (refine qf_nil ?_)
          refine hK1 _ _ (qb_nil ?_)
          have e : (C.set (r + 1) C[r]).set (r) C[r + 1] = swL C (r + 1) (r) := by
            unfold swL
            rw [getD_get y1, getD_get y2]
          rw [e]
          (refine q_blk (q_region (ql_pure tabOk rfl rfl (ql_ar tabOk rfl rfl rfl rfl (by omega) (by omega) (ql_pure tabOk rfl rfl (q_nil ?_))))))
          exact hK (r, _) _ _ ⟨by dsimp only; omega, hS.trans (.sw (by omega) (by omega) (by omega)), mv_last q2 (by omega) hA⟩ (by dsimp only; omega) ⟨rfl, rfl, lookI rfl (by dsimp only; omega), trivial⟩ (by repeat constructor)
        · obtain rfl : k = i := by omega
          clear hc hK
          (refine q_exit _ rfl (q_ret ?_))
          refine q_fin tabOk rfl (by repeat constructor) fun w hs => ?_
          have hR : Rot l C a k m (m + 1) (m + 1) := ⟨p1, by omega, by omega, Nat.le_refl _, hA⟩
          exact ⟨C, ⟨rfl, hS, hR.last hs1 c1 c2⟩, hs⟩
    have hma : a + 2 ≤ m := by omega
    have hbm : m + 2 ≤ b := by omega
    obtain ⟨mid, hmid⟩ : ∃ mid : Nat, (mid : Int) = ((a : Int) + b) / 2 := ⟨(a + b) / 2, by omega⟩
    (refine q_seq (q_seq (q_region (ql_pure tabOk rfl rfl (ql_pure tabOk rfl rfl (ql_ar tabOk rfl rfl rfl rfl (by omega) (by omega) (ql_eqlF tabOk rfl rfl rfl (by omega) (q_nil (q_cond_false rfl (q_skip (q_seq (q_seq ?_))))))))))); refine q_region (ql_pure tabOk rfl rfl (ql_pure tabOk rfl rfl (ql_ar tabOk rfl rfl rfl rfl (by omega) (by omega) (ql_eqlF tabOk rfl rfl rfl (by omega) (q_nil (q_cond_false rfl (q_skip (q_seq (q_region (ql_pure tabOk rfl rfl (ql_pure tabOk rfl rfl ?_))))))))))); refine ql_ar tabOk rfl rfl rfl rfl (by omega) (by omega) (ql_pure tabOk rfl rfl ?_))
    rw [wu64 (by omega) (by omega)]
    refine ql_shrU rfl rfl ?_
    rw [← hmid]
    (refine ql_pure tabOk rfl rfl (ql_pure tabOk rfl rfl (q_nil ?_)))
    rw [w64 (by omega) (by omega)]
    (refine q_seq (q_region (ql_pure tabOk rfl rfl (ql_pure tabOk rfl rfl (ql_ar tabOk rfl rfl rfl rfl (by omega) (by omega) (ql_pure tabOk rfl rfl (q_nil (q_seq (q_region (ql_pure tabOk rfl rfl (ql_pure tabOk rfl rfl (q_nil ?_))))))))))); refine q_seq (q_seq (q_region ?_)); (iterate 3 refine ql_pure tabOk rfl rfl ?_); refine q_nil ?_)
    refine q_cut (σ := {z : Nat × Nat // (z.1 = a ∧ z.2 = m ∧ m ≤ mid) ∨ (z.1 + b = mid + m ∧ z.2 = mid ∧ mid < m)}) (fun z => [(0, (.slice (some ⟨g, 0, none⟩) N c0)), (1, .int .i64 a), (3, .int .i64 b), (4, cmp), (18, .int .i64 mid), (2, .int .i64 m), (19, .int .i64 ((mid : Int) + m)), (20, .int .i64 z.1.1), (21, .int .i64 z.1.2)]) (fun _ => [.ow (.slice (some ⟨g, 0, none⟩) N c0) 3 1 N (ints l)]) ?_ ?_
    rotate_left
    · intro K2 hK2
      refine q_if rfl (fun hc => ?_) (fun hc => ?_)
      · have hmm : mid < m := by omega
        clear hc
        (refine q_seq (q_region (ql_pure tabOk rfl rfl (ql_pure tabOk rfl rfl (ql_ar tabOk rfl rfl rfl rfl (by omega) (by omega) (ql_pure tabOk rfl rfl (q_nil (q_region (ql_pure tabOk rfl rfl (ql_pure tabOk rfl rfl (q_nil ?_)))))))))))
        exact hK2 ⟨(mid + m - b, mid), .inr ⟨by dsimp only; omega, rfl, hmm⟩⟩ _ _ ⟨rfl, rfl, rfl, rfl, rfl, rfl, rfl, lookI rfl (by dsimp only; omega), rfl, trivial⟩ (by repeat constructor)
      · have hmm : ¬ mid < m := by omega
        clear hc
        (refine q_seq (q_region (ql_pure tabOk rfl rfl (ql_pure tabOk rfl rfl (q_nil (q_region (ql_pure tabOk rfl rfl (ql_pure tabOk rfl rfl (q_nil ?_)))))))))
        exact hK2 ⟨(a, m), .inl ⟨rfl, rfl, by omega⟩⟩ _ _ ⟨rfl, rfl, rfl, rfl, rfl, rfl, rfl, rfl, rfl, trivial⟩ (by repeat constructor)
    rintro ⟨⟨s0, r0⟩, hz⟩
    dsimp only at hz ⊢
    (refine q_seq (q_region (ql_pure tabOk rfl rfl (ql_ar tabOk rfl rfl rfl rfl (by omega) (by omega) (ql_pure tabOk rfl rfl (q_nil (q_seq (q_block ?_))))))))
    refine q_loop (σ := Nat × Nat) (fun ⟨i, j⟩ => (s0 ≤ i ∧ i ≤ j ∧ j ≤ r0) ∧ (i = s0 ∨ key (l.getD (i - 1) 0) ≤ key (l.getD (mid + m - i) 0)) ∧ (j = r0 ∨ key (l.getD (mid + m - 1 - j) 0) < key (l.getD j 0))) (fun ⟨i, j⟩ => j - i) (fun ⟨i, j⟩ => [(0, (.slice (some ⟨g, 0, none⟩) N c0)), (1, .int .i64 a), (3, .int .i64 b), (4, cmp), (18, .int .i64 mid), (2, .int .i64 m), (19, .int .i64 ((mid : Int) + m)), (20, .int .i64 i), (21, .int .i64 j), (22, .int .i64 ((mid : Int) + m - 1))]) (fun _ => [.ow (.slice (some ⟨g, 0, none⟩) N c0) 3 1 N (ints l)]) (s0, r0) ⟨by omega, .inl rfl, .inl rfl⟩ ⟨rfl, rfl, rfl, rfl, rfl, rfl, rfl, rfl, rfl, rfl, trivial⟩ (by repeat constructor) ?_
    rintro ⟨i, j⟩ ⟨⟨p1, p2, p3⟩, c1, c2⟩ K hK
    dsimp only at p1 p2 p3 c1 c2 hK ⊢
    (refine q_seq (q_seq (q_region ?_)); (iterate 3 refine ql_pure tabOk rfl rfl ?_); refine q_nil ?_)
    refine q_if rfl (fun hc => ?_) (fun hc => ?_)
    · have hij : i < j := by omega
      clear hc
      obtain ⟨h, hh⟩ : ∃ h : Nat, (h : Int) = ((i : Int) + j) / 2 := ⟨(i + j) / 2, by omega⟩
      (refine q_skip (q_block (q_seq (q_region (ql_pure tabOk rfl rfl (ql_pure tabOk rfl rfl (ql_ar tabOk rfl rfl rfl rfl (by omega) (by omega) (ql_pure tabOk rfl rfl ?_))))))))
      rw [wu64 (by omega) (by omega)]
      refine ql_shrU rfl rfl ?_
      rw [← hh]
      (refine ql_pure tabOk rfl rfl (ql_pure tabOk rfl rfl (q_nil (q_seq ?_))))
      rw [w64 (by omega) (by omega)]
      have y1 : mid + m - 1 - h < l.length := by omega
      have y2 : h < l.length := by omega
      have hpc : (mid : Int) + m - 1 - h = (mid + m - 1 - h : Nat) := by omega
      skip
      refine q_draw _ [] (Sp.refl _) (by kernel_rfl) (by kernel_rfl) ?_
      ((iterate 4 refine qf_pure tabOk rfl rfl rfl ?_); refine qf_ar tabOk rfl rfl rfl rfl (by omega) (by omega) ?_)
      rw [hpc]
      refine qf_index tabOk rfl rfl rfl rfl rfl (by omega) (by omega) ?_
      skip
      refine qf_load1 (v := .int .i64 l[mid + m - 1 - h]) tabOk rfl rfl rfl (fun w hs => RdI.at (hs.rdI (v := (.slice (some ⟨g, 0, none⟩) N c0)) (l := l) (t := 3) (n := N) (by repeat constructor) hln.symm) (mid + m - 1 - h) y1) ?_
      (refine qf_pure tabOk rfl rfl rfl (qf_pure tabOk rfl rfl rfl ?_))
      refine qf_index tabOk rfl rfl rfl rfl rfl (by omega) (by omega) ?_
      skip
      refine qf_load1 (v := .int .i64 l[h]) tabOk rfl rfl rfl (fun w hs => RdI.at (hs.rdI (v := (.slice (some ⟨g, 0, none⟩) N c0)) (l := l) (t := 3) (n := N) (by repeat constructor) hln.symm) (h) y2) ?_
      skip
      refine qf_callFv rfl rfl rfl (fun w' hs => hcmp w' hs.chg _ (hB _ (List.getElem_mem y1)) _ (hB _ (List.getElem_mem y2))) ?_
      have hcj : cf l[mid + m - 1 - h] l[h] < 0 ↔ key (l.getD (mid + m - 1 - h) 0) < key (l.getD (h) 0) := by
        rw [getD_get y1, getD_get y2]
        exact hcf _ (hB _ (List.getElem_mem y1)) _ (hB _ (List.getElem_mem y2))
      by_cases hlt : cf l[mid + m - 1 - h] l[h] < 0
      · (refine qf_lssT tabOk rfl rfl rfl (by omega) (qf_pure tabOk rfl rfl rfl (qf_nil (q_cond_false rfl (q_region (ql_pure tabOk rfl rfl (ql_pure tabOk rfl rfl (q_nil (q_blk ?_)))))))))
        exact hK (i, h) _ _ ⟨by dsimp only; omega, c1, .inr (hcj.1 hlt)⟩ (by dsimp only; omega) ⟨rfl, rfl, rfl, rfl, rfl, rfl, rfl, rfl, rfl, rfl, trivial⟩ (by repeat constructor)
      · (refine qf_lssF tabOk rfl rfl rfl (by omega) (qf_pure tabOk rfl rfl rfl (qf_nil (q_cond_true rfl (q_region (ql_pure tabOk rfl rfl (ql_ar tabOk rfl rfl rfl rfl (by omega) (by omega) (ql_pure tabOk rfl rfl (q_nil (q_blk ?_))))))))))
        exact hK (h + 1, j) _ _ ⟨by dsimp only; omega, .inr (by rw [show mid + m - (h + 1) = mid + m - 1 - h from by omega]; exact Int.not_lt.1 fun e => hlt (hcj.2 e)), c2⟩ (by dsimp only; omega) ⟨rfl, rfl, rfl, rfl, rfl, rfl, rfl, lookI rfl (by dsimp only; omega), rfl, rfl, trivial⟩ (by repeat constructor)
    · obtain rfl : i = j := by omega
      clear hc hK
      obtain ⟨e, he⟩ : ∃ e : Nat, (e : Int) = (mid : Int) + m - i := ⟨mid + m - i, by omega⟩
      have hie : i + (e - m) = mid := by omega
      have hno : Rot l l a i m e b ∨ (i < m ∧ m < e) := by
        by_cases c : i < m ∧ m < e
        · exact .inr c
        · exact .inl ⟨by omega, by omega, by omega, by omega, fun k => by rw [ro_id ⟨by omega, by omega⟩ (by omega)]⟩
      have d1 : i = a ∨ e = b ∨ key (l.getD (i - 1) 0) ≤ key (l.getD e 0) := by
        rcases c1 with c | c
        · omega
        · rw [show mid + m - i = e from by omega] at c
          exact .inr (.inr c)
      have d2 : i = m ∨ e = m ∨ key (l.getD (e - 1) 0) < key (l.getD i 0) := by
        rcases c2 with c | c
        · omega
        · rw [show mid + m - 1 - i = e - 1 from by omega] at c
          exact .inr (.inr c)
      have hb1 : a ≤ i ∧ i ≤ m ∧ m ≤ e ∧ e ≤ b ∧ i ≤ mid ∧ mid ≤ e := by omega
      clear c1 c2 p1 p3 hz
      (refine q_exit _ rfl (q_seq ?_))
      refine q_region ?_
      (refine ql_pure tabOk rfl rfl (ql_pure tabOk rfl rfl (ql_ar tabOk rfl rfl rfl rfl (by omega) (by omega) (ql_pure tabOk rfl rfl (q_nil ?_)))))
      rw [← he]
      refine q_seq ?_
      refine q_cut (σ := {L : List Int // Seg l L a b ∧ Rot l L a i m e b}) (fun _ => [(0, (.slice (some ⟨g, 0, none⟩) N c0)), (1, .int .i64 a), (3, .int .i64 b), (4, cmp), (18, .int .i64 mid), (20, .int .i64 i), (24, .int .i64 e)]) (fun L => [.ow (.slice (some ⟨g, 0, none⟩) N c0) 3 1 N (ints L.1)]) ?_ ?_
      rotate_left
      · intro K2 hK2
        by_cases c : i < m ∧ m < e
        · (refine q_seq (q_region (ql_pure tabOk rfl rfl (ql_pure tabOk rfl rfl (ql_lssT tabOk rfl rfl rfl (by omega) (ql_pure tabOk rfl rfl (ql_gyes rfl (ql_pure tabOk rfl rfl (ql_gyes rfl (ql_pure tabOk rfl rfl (ql_gyes rfl (ql_lssT tabOk rfl rfl rfl (by omega) ?_))))))))))); refine ql_pure tabOk rfl rfl (q_nil (q_cond_true rfl (q_region ?_))); (iterate 5 refine ql_pure tabOk rfl rfl ?_))
          refine ql_call (β := List Int) (ψ := fun D v => v = .tuple #[] ∧ Seg l D a b ∧ ∀ k, D.getD k 0 = l.getD (roP i m e k) 0) (L' := fun D => [.ow (.slice (some ⟨g, 0, none⟩) N c0) 3 1 N (ints D)]) tabOk [.ow (.slice (some ⟨g, 0, none⟩) N c0) 3 1 N (ints l)] _ (fun x => x = g) rfl rfl rfl rfl (Sp.cons (by repeat constructor) (Sp.refl _)) (fun x hx => ⟨_, .head _, by subst hx; rfl⟩) (fun w' hs => by have := rot_ca w' g c0 l i m e a b cmp (by omega) (by omega) (by omega) (by omega) (by omega) (by omega) (by rw [hln]; exact hs.all _ (.head _)); rw [hln] at this; exact this) ?_
          rintro D _ ⟨rfl, hD, hDA⟩
          dsimp only [List.cons_append, List.nil_append]
          (refine q_nil ?_)
          exact hK2 ⟨D, hD, ⟨by omega, by omega, by omega, by omega, hDA⟩⟩ _ _ ⟨rfl, rfl, rfl, rfl, rfl, rfl, rfl, trivial⟩ (by repeat constructor)
        · have hno := hno.resolve_right c
          by_cases c3 : i < m
          · have c4 : ¬ m < e := fun h => c ⟨c3, h⟩
            (refine q_seq (q_region (ql_pure tabOk rfl rfl (ql_pure tabOk rfl rfl (ql_lssT tabOk rfl rfl rfl (by omega) (ql_pure tabOk rfl rfl (ql_gyes rfl (ql_pure tabOk rfl rfl (ql_gyes rfl (ql_pure tabOk rfl rfl (ql_gyes rfl (ql_lssF tabOk rfl rfl rfl (by omega) ?_))))))))))); refine ql_pure tabOk rfl rfl (q_nil (q_cond_false rfl (q_skip ?_))))
            exact hK2 ⟨l, .refl _ _ _, hno⟩ _ _ ⟨rfl, rfl, rfl, rfl, rfl, rfl, rfl, trivial⟩ (by repeat constructor)
          · (refine q_seq (q_region (ql_pure tabOk rfl rfl (ql_pure tabOk rfl rfl (ql_lssF tabOk rfl rfl rfl (by omega) (ql_pure tabOk rfl rfl ?_))))); (iterate 3 refine ql_gno rfl rfl rfl ?_); refine ql_pure tabOk rfl rfl (q_nil (q_cond_false rfl (q_skip ?_))))
            exact hK2 ⟨l, .refl _ _ _, hno⟩ _ _ ⟨rfl, rfl, rfl, rfl, rfl, rfl, rfl, trivial⟩ (by repeat constructor)
      rintro ⟨L, hL, hR⟩
      dsimp only
      have hx : ∀ p q, a ≤ p → p < mid → mid ≤ q → q < b → key (L.getD p 0) ≤ key (L.getD q 0) := fun p q x1 x2 x3 x4 => hR.cross hs1 hs2 d1 d2 ⟨x1, by omega⟩ ⟨by omega, x4⟩
      have hLn : L.length = N := by rw [hL.len, hln]
      have hLB : ∀ x ∈ L, x ∈ B := fun x hx => hB x (hL.perm.subset hx)
      have t1 := hR.s1 hs1
      have t2 := hR.s2 hs2
      have t3 := hR.s3 hs1
      have t4 := hR.s4 hs2
      rw [hie] at t2 t3
      clear d1 d2 hno hR
      refine q_seq ?_
      refine q_cut (σ := {M : List Int // Seg L M a mid ∧ SrW key M a mid}) (fun _ => [(0, (.slice (some ⟨g, 0, none⟩) N c0)), (1, .int .i64 a), (3, .int .i64 b), (4, cmp), (18, .int .i64 mid), (24, .int .i64 e)]) (fun M => [.ow (.slice (some ⟨g, 0, none⟩) N c0) 3 1 N (ints M.1)]) ?_ ?_
      rotate_left
      · intro K2 hK2
        by_cases c1 : a < i
        · by_cases c2 : i < mid
          · (refine q_seq (q_region (ql_pure tabOk rfl rfl (ql_pure tabOk rfl rfl (ql_lssT tabOk rfl rfl rfl (by omega) (ql_pure tabOk rfl rfl (ql_gyes rfl (ql_pure tabOk rfl rfl (ql_gyes rfl (ql_pure tabOk rfl rfl (ql_gyes rfl (ql_lssT tabOk rfl rfl rfl (by omega) ?_))))))))))); refine ql_pure tabOk rfl rfl (q_nil (q_cond_true rfl (q_region ?_))); (iterate 5 refine ql_pure tabOk rfl rfl ?_))
            refine ql_call (β := List Int) (ψ := fun D v => v = .tuple #[] ∧ Seg L D a mid ∧ SrW key D a mid) (L' := fun D => [.ow (.slice (some ⟨g, 0, none⟩) N c0) 3 1 N (ints D)]) tabOk [.ow (.slice (some ⟨g, 0, none⟩) N c0) 3 1 N (ints L)] _ (fun x => x = g) rfl rfl rfl rfl (Sp.cons (by repeat constructor) (Sp.refl _)) (fun x hx => ⟨_, .head _, by subst hx; rfl⟩) (fun w' hs => ih w' L a i mid (by omega) (by omega) (by omega) (by omega) hLn hLB (hcmp.sub hs.chg) t1 t2 (hs.all _ (.head _))) ?_
            rintro D _ ⟨rfl, hD, sD⟩
            dsimp only [List.cons_append, List.nil_append]
            (refine q_nil ?_)
            exact hK2 ⟨D, hD, sD⟩ _ _ ⟨rfl, rfl, rfl, rfl, rfl, rfl, trivial⟩ (by repeat constructor)
          · obtain rfl : i = mid := by omega
            (refine q_seq (q_region (ql_pure tabOk rfl rfl (ql_pure tabOk rfl rfl (ql_lssT tabOk rfl rfl rfl (by omega) (ql_pure tabOk rfl rfl (ql_gyes rfl (ql_pure tabOk rfl rfl (ql_gyes rfl (ql_pure tabOk rfl rfl (ql_gyes rfl (ql_lssF tabOk rfl rfl rfl (by omega) ?_))))))))))); refine ql_pure tabOk rfl rfl (q_nil (q_cond_false rfl (q_skip ?_))))
            exact hK2 ⟨L, .refl _ _ _, t1⟩ _ _ ⟨rfl, rfl, rfl, rfl, rfl, rfl, trivial⟩ (by repeat constructor)
        · obtain rfl : i = a := by omega
          (refine q_seq (q_region (ql_pure tabOk rfl rfl (ql_pure tabOk rfl rfl (ql_lssF tabOk rfl rfl rfl (by omega) (ql_pure tabOk rfl rfl ?_))))); (iterate 3 refine ql_gno rfl rfl rfl ?_); refine ql_pure tabOk rfl rfl (q_nil (q_cond_false rfl (q_skip ?_))))
          exact hK2 ⟨L, .refl _ _ _, t2⟩ _ _ ⟨rfl, rfl, rfl, rfl, rfl, rfl, trivial⟩ (by repeat constructor)
      rintro ⟨M, hM, hMs⟩
      dsimp only
      have hMn : M.length = N := by rw [hM.len, hLn]
      have hMB : ∀ x ∈ M, x ∈ B := fun x hx => hLB x (hM.perm.subset hx)
      have t3' := t3.out hM (.inr (Nat.le_refl _))
      have t4' := t4.out hM (.inr (by omega))
      by_cases c1 : mid < e
      · by_cases c2 : e < b
        · (refine q_seq (q_region (ql_pure tabOk rfl rfl (ql_pure tabOk rfl rfl (ql_lssT tabOk rfl rfl rfl (by omega) (ql_pure tabOk rfl rfl (ql_gyes rfl (ql_pure tabOk rfl rfl (ql_gyes rfl (ql_pure tabOk rfl rfl (ql_gyes rfl (ql_lssT tabOk rfl rfl rfl (by omega) ?_))))))))))); refine ql_pure tabOk rfl rfl (q_nil (q_cond_true rfl (q_region ?_))); (iterate 5 refine ql_pure tabOk rfl rfl ?_))
          refine ql_call (β := List Int) (ψ := fun D v => v = .tuple #[] ∧ Seg M D mid b ∧ SrW key D mid b) (L' := fun D => [.ow (.slice (some ⟨g, 0, none⟩) N c0) 3 1 N (ints D)]) tabOk [.ow (.slice (some ⟨g, 0, none⟩) N c0) 3 1 N (ints M)] _ (fun x => x = g) rfl rfl rfl rfl (Sp.cons (by repeat constructor) (Sp.refl _)) (fun x hx => ⟨_, .head _, by subst hx; rfl⟩) (fun w' hs => ih w' M mid e b (by omega) (by omega) (by omega) (by omega) hMn hMB (hcmp.sub hs.chg) t3' t4' (hs.all _ (.head _))) ?_
          rintro D _ ⟨rfl, hD, sD⟩
          dsimp only [List.cons_append, List.nil_append]
          (refine q_nil ?_)
          refine q_end tabOk rfl (by repeat constructor) fun w hs => ?_
          exact ⟨D, ⟨rfl, (hL.trans (hM.wide (Nat.le_refl _) (by omega))).trans (hD.wide (by omega) (Nat.le_refl _)), seg_join hx hM hD hMs sD⟩, hs⟩
        · obtain rfl : e = b := by omega
          (refine q_seq (q_region (ql_pure tabOk rfl rfl (ql_pure tabOk rfl rfl (ql_lssT tabOk rfl rfl rfl (by omega) (ql_pure tabOk rfl rfl (ql_gyes rfl (ql_pure tabOk rfl rfl (ql_gyes rfl (ql_pure tabOk rfl rfl (ql_gyes rfl (ql_lssF tabOk rfl rfl rfl (by omega) ?_))))))))))); refine ql_pure tabOk rfl rfl (q_nil (q_cond_false rfl (q_skip ?_))))
          refine q_end tabOk rfl (by repeat constructor) fun w hs => ?_
          exact ⟨M, ⟨rfl, hL.trans (hM.wide (Nat.le_refl _) (by omega)), seg_join hx hM (.refl _ _ _) hMs t3'⟩, hs⟩
      · obtain rfl : e = mid := by omega
        (refine q_seq (q_region (ql_pure tabOk rfl rfl (ql_pure tabOk rfl rfl (ql_lssF tabOk rfl rfl rfl (by omega) (ql_pure tabOk rfl rfl ?_))))); (iterate 3 refine ql_gno rfl rfl rfl ?_); refine ql_pure tabOk rfl rfl (q_nil (q_cond_false rfl (q_skip ?_))))
        refine q_end tabOk rfl (by repeat constructor) fun w hs => ?_
        exact ⟨M, ⟨rfl, hL.trans (hM.wide (Nat.le_refl _) (by omega)), seg_join hx hM (.refl _ _ _) hMs t4'⟩, hs⟩
end Go.Proofs.YtopdmadgkjdgcaaGreat

/- Walks: a part sorted by insertion; a stable sort up to 39 elements. Written by gen_F46.py. -/
namespace Go.Proofs.YtopdmadgkjdgcaaGreat
set_option maxRecDepth 4000
open Go Go.Eng
set_option maxHeartbeats 4000000 in
theorem insR_ca (g c0 N : Nat) (B : List Int) (key : Int → Int) (cmp : Value) (cf : Int → Int → Int) (hcf : ∀ x ∈ B, ∀ y ∈ B, (cf x y < 0 ↔ key x < key y)) (hN : N ≤ 1000) (w : World) (l : List Int) (a b : Nat) (hab : a ≤ b) (hbN : b ≤ N) (hln : l.length = N) (hB : ∀ x ∈ l, x ∈ B) (hcmp : CmpS w g cmp cf B) (hb : w.ownsRow 0 3 1 (.slice (some ⟨g, 0, none⟩) N c0) N (ints l)) :
    Ca Tryz.prog 221 [(.slice (some ⟨g, 0, none⟩) N c0), .int .i64 a, .int .i64 b, cmp] w fun v w' => ∃ L : List Int, (v = .tuple #[] ∧ Seg l L a b ∧ SrW key L a b) ∧ Sat w (fun x => x = g) [.ow (.slice (some ⟨g, 0, none⟩) N c0) 3 1 N (ints L)] w' := by
  refine q_of (Sat.own0 hb) Tryz.func221 rfl (by simp [Tryz.ntmps221]) ?_
  (refine q_seq (q_region (ql_pure tabOk rfl rfl (ql_ar tabOk rfl rfl rfl rfl (by omega) (by omega) (ql_pure tabOk rfl rfl (q_nil (q_block ?_)))))))
  refine q_loop (σ := Nat × List Int) (fun ⟨i, C⟩ => (a + 1 ≤ i ∧ (i ≤ b ∨ i = a + 1)) ∧ Seg l C a b ∧ SrW key C a i) (fun ⟨i, _⟩ => b - i) (fun ⟨i, _⟩ => [(0, (.slice (some ⟨g, 0, none⟩) N c0)), (1, .int .i64 a), (2, .int .i64 b), (3, cmp), (8, .int .i64 i)]) (fun ⟨_, C⟩ => [.ow (.slice (some ⟨g, 0, none⟩) N c0) 3 1 N (ints C)]) (a + 1, l) ⟨by omega, .refl _ _ _, .one (Nat.le_refl _)⟩ ⟨rfl, rfl, rfl, rfl, lookI rfl (by omega), trivial⟩ (by repeat constructor) ?_
  rintro ⟨i, C⟩ ⟨⟨p1, p2⟩, hS, hR⟩ K hK
  dsimp only at p1 p2 hS hR hK ⊢
  (refine q_seq (q_seq (q_region ?_)); (iterate 3 refine ql_pure tabOk rfl rfl ?_); refine q_nil ?_)
  refine q_if rfl (fun hc => ?_) (fun hc => ?_)
  · have hib : i < b := by omega
    clear hc
    (refine q_skip (q_seq (q_block (q_seq (q_region (ql_pure tabOk rfl rfl (ql_pure tabOk rfl rfl (q_nil (q_block ?_)))))))))
    refine q_loop (σ := Nat × List Int) (fun ⟨j, C⟩ => Seg l C a b ∧ InsJ key C a i j) (fun ⟨j, _⟩ => j) (fun ⟨j, _⟩ => [(0, (.slice (some ⟨g, 0, none⟩) N c0)), (1, .int .i64 a), (2, .int .i64 b), (3, cmp), (8, .int .i64 i), (9, .int .i64 j)]) (fun ⟨_, C⟩ => [.ow (.slice (some ⟨g, 0, none⟩) N c0) 3 1 N (ints C)]) (i, C) ⟨hS, .start hR (by omega)⟩ ⟨rfl, rfl, rfl, rfl, rfl, rfl, trivial⟩ (by repeat constructor) ?_
    clear hS hR
    rintro ⟨j, C⟩ ⟨hS, hJ⟩ K2 hK2
    dsimp only at hS hJ hK2 ⊢
    have hji := hJ.ji
    have hlen : C.length = N := by rw [hS.len, hln]
    have hB : ∀ x ∈ C, x ∈ B := fun x hx => hB x (hS.perm.subset hx)
    by_cases hja : j = a
    · subst hja
      (refine q_seq (q_seq ?_))
      refine q_draw _ [] (Sp.refl _) (by kernel_rfl) (by kernel_rfl) ?_
      (refine qf_pure tabOk rfl rfl rfl (qf_pure tabOk rfl rfl rfl (qf_gtrF tabOk rfl rfl rfl (by omega) (qf_pure tabOk rfl rfl rfl ?_))); (iterate 12 refine qf_gno rfl rfl rfl ?_); refine qf_pure tabOk rfl rfl rfl (qf_nil (q_cond_false rfl (q_exit _ rfl (q_blk (q_region (ql_pure tabOk rfl rfl (ql_ar tabOk rfl rfl rfl rfl (by omega) (by omega) (ql_pure tabOk rfl rfl (q_nil ?_))))))))))
      exact hK (i + 1, C) _ _ ⟨by dsimp only; omega, hS, hJ.close (.inl rfl)⟩ (by dsimp only; omega) ⟨rfl, rfl, rfl, rfl, rfl, trivial⟩ (by repeat constructor)
    · obtain ⟨j, rfl⟩ : ∃ r, j = r + 1 := ⟨j - 1, by omega⟩
      have y1 : j + 1 < C.length := by omega
      have y2 : j < C.length := by omega
      have hj1 : ((j + 1 : Nat) : Int) - 1 = j := by omega
      (refine q_seq (q_seq ?_))
      refine q_draw _ [] (Sp.refl _) (by kernel_rfl) (by kernel_rfl) ?_
      (refine qf_pure tabOk rfl rfl rfl (qf_pure tabOk rfl rfl rfl (qf_gtrT tabOk rfl rfl rfl (by omega) (qf_pure tabOk rfl rfl rfl (qf_gyes rfl (qf_pure tabOk rfl rfl rfl (qf_gyes rfl (qf_pure tabOk rfl rfl rfl (qf_gyes rfl (qf_pure tabOk rfl rfl rfl (qf_gyes rfl ?_)))))))))))
      refine qf_index tabOk rfl rfl rfl rfl rfl (by omega) (by omega) ?_
      (refine qf_gyes rfl ?_)
      refine qf_load1 (v := .int .i64 C[j + 1]) tabOk rfl rfl rfl (fun w hs => RdI.at (hs.rdI (v := (.slice (some ⟨g, 0, none⟩) N c0)) (l := C) (t := 3) (n := N) (by repeat constructor) hlen.symm) (j + 1) y1) ?_
      (refine qf_gyes rfl (qf_pure tabOk rfl rfl rfl (qf_gyes rfl (qf_pure tabOk rfl rfl rfl (qf_gyes rfl (qf_ar tabOk rfl rfl rfl rfl (by omega) (by omega) (qf_gyes rfl ?_)))))))
      rw [hj1]
      refine qf_index tabOk rfl rfl rfl rfl rfl (by omega) (by omega) ?_
      (refine qf_gyes rfl ?_)
      refine qf_load1 (v := .int .i64 C[j]) tabOk rfl rfl rfl (fun w hs => RdI.at (hs.rdI (v := (.slice (some ⟨g, 0, none⟩) N c0)) (l := C) (t := 3) (n := N) (by repeat constructor) hlen.symm) (j) y2) ?_
      (refine qf_gyes rfl ?_)
      refine qf_callFv rfl rfl rfl (fun w' hs => hcmp w' hs.chg _ (hB _ (List.getElem_mem y1)) _ (hB _ (List.getElem_mem y2))) ?_
      have hcj : cf C[j + 1] C[j] < 0 ↔ key (C.getD (j + 1) 0) < key (C.getD (j) 0) := by
        rw [getD_get y1, getD_get y2]
        exact hcf _ (hB _ (List.getElem_mem y1)) _ (hB _ (List.getElem_mem y2))
      by_cases hlt : cf C[j + 1] C[j] < 0
      · (refine qf_gyes rfl (qf_lssT tabOk rfl rfl rfl (by omega) (qf_pure tabOk rfl rfl rfl (qf_nil (q_cond_true rfl (q_skip (q_seq (q_block ?_))))))))
        skip
        refine q_drawB [true, true, false, false, false, true, true, true, true, true, true, true, true, true, false, false, false, false] [] [.ow (.slice (some ⟨g, 0, none⟩) N c0) 3 1 N (ints C)] (by repeat constructor) (by kernel_rfl) (by kernel_rfl) (by kernel_rfl) ?_
        refine qb_T 2 rfl rfl (Sp.refl _) fun K1 hK1 => ?_
        (refine qf_pure tabOk rfl rfl rfl (qf_pure tabOk rfl rfl rfl (qf_nil ?_)))
        refine hK1 _ _ (qb_F 3 [.ow (.slice (some ⟨g, 0, none⟩) N c0) 3 1 N (ints C)] rfl rfl (by repeat constructor) fun K1 hK1 => ?_)
        (refine qf_pure tabOk rfl rfl rfl (qf_pure tabOk rfl rfl rfl (qf_ar tabOk rfl rfl rfl rfl (by omega) (by omega) (qf_nil ?_))))
        refine hK1 _ _ (qb_T 9 rfl rfl (by repeat constructor) fun K1 hK1 => ?_)
        (refine qf_pure tabOk rfl rfl rfl (qf_pure tabOk rfl rfl rfl (qf_ar tabOk rfl rfl rfl rfl (by omega) (by omega) ?_)))
        rw [hj1]
        (refine qf_index tabOk rfl rfl rfl rfl rfl (by omega) (by omega) ?_; refine qf_load1 tabOk rfl rfl rfl (fun w hs => RdI.at (hs.rdI (l := C) (t := 3) (n := N) (by repeat constructor) hlen.symm) (j) y2) ?_)
        (refine qf_pure tabOk rfl rfl rfl (qf_pure tabOk rfl rfl rfl ?_))
        (refine qf_index tabOk rfl rfl rfl rfl rfl (by omega) (by omega) ?_; refine qf_load1 tabOk rfl rfl rfl (fun w hs => RdI.at (hs.rdI (l := C) (t := 3) (n := N) (by repeat constructor) hlen.symm) (j + 1) y1) ?_)
        (refine qf_nil ?_)
        refine hK1 _ _ (qb_F 4 [.ow (.slice (some ⟨g, 0, none⟩) N c0) 3 1 N (ints C)] rfl rfl (by repeat constructor) fun K1 hK1 => ?_)
        skip
        refine qf_index tabOk rfl rfl rfl rfl rfl (by omega) (by omega) ?_
        refine qf_storeW tabOk (j + 1) rfl rfl rfl rfl (by repeat constructor) (by omega) (by simpa using y1) ?_
        skip
        refine qf_index tabOk rfl rfl rfl rfl rfl (by omega) (by omega) ?_
        refine qf_storeW tabOk (j) rfl rfl rfl rfl (by repeat constructor) (by omega) (by simpa using y2) ?_
        rw [set_ints, set_ints]
        (refine qf_nil ?_)
        refine hK1 _ _ (qb_nil ?_)
        have e : (C.set (j + 1) C[j]).set (j) C[j + 1] = swL C (j + 1) (j) := by
          unfold swL
          rw [getD_get y1, getD_get y2]
        rw [e]
        (refine q_blk (q_region (ql_pure tabOk rfl rfl (ql_ar tabOk rfl rfl rfl rfl (by omega) (by omega) (ql_pure tabOk rfl rfl (q_nil ?_))))))
        exact hK2 (j, _) _ _ ⟨hS.trans (.sw (by omega) (by omega) (by omega)), hJ.swap (by omega) (by omega) (hcj.1 hlt)⟩ (by dsimp only; omega) ⟨rfl, rfl, rfl, rfl, rfl, lookI rfl (by dsimp only; omega), trivial⟩ (by repeat constructor)
      · (refine qf_gyes rfl (qf_lssF tabOk rfl rfl rfl (by omega) (qf_pure tabOk rfl rfl rfl (qf_nil (q_cond_false rfl (q_exit _ rfl (q_blk (q_region (ql_pure tabOk rfl rfl (ql_ar tabOk rfl rfl rfl rfl (by omega) (by omega) (ql_pure tabOk rfl rfl (q_nil ?_))))))))))))
        exact hK (i + 1, C) _ _ ⟨by dsimp only; omega, hS, hJ.close (.inr (Int.not_lt.1 fun e => hlt (hcj.2 e)))⟩ (by dsimp only; omega) ⟨rfl, rfl, rfl, rfl, rfl, trivial⟩ (by repeat constructor)
  · clear hK
    have hbi : b ≤ i := by omega
    (refine q_exit _ rfl ?_)
    refine q_end tabOk rfl (by repeat constructor) fun w hs => ?_
    exact ⟨C, ⟨rfl, hS, hR.sub (Nat.le_refl _) hbi⟩, hs⟩
set_option maxHeartbeats 4000000 in
theorem stabW_ca (g c0 N : Nat) (B : List Int) (key : Int → Int) (cmp : Value) (cf : Int → Int → Int) (hcf : ∀ x ∈ B, ∀ y ∈ B, (cf x y < 0 ↔ key x < key y)) (hN : N ≤ 39) (w : World) (l : List Int) (hln : l.length = N) (hB : ∀ x ∈ l, x ∈ B) (hcmp : CmpS w g cmp cf B) (hb : w.ownsRow 0 3 1 (.slice (some ⟨g, 0, none⟩) N c0) N (ints l)) :
    Ca Tryz.prog 199 [(.slice (some ⟨g, 0, none⟩) N c0), .int .i64 N, cmp] w fun v w' => ∃ L : List Int, (v = .tuple #[] ∧ L.Perm l ∧ SrW key L 0 N) ∧ Sat w (fun x => x = g) [.ow (.slice (some ⟨g, 0, none⟩) N c0) 3 1 N (ints L)] w' := by
  refine q_of (Sat.own0 hb) Tryz.func199 rfl (by simp [Tryz.ntmps199]) ?_
  (refine q_seq (q_region (ql_pure tabOk rfl rfl (q_nil (q_seq (q_region ?_))))); (iterate 3 refine ql_pure tabOk rfl rfl ?_); refine q_nil (q_seq (q_block ?_)))
  refine q_loop (σ := Nat × List Int) (fun ⟨t, C⟩ => (t = 0 ∧ C = l) ∨ (t = 1 ∧ 20 ≤ N ∧ C.Perm l ∧ SrW key C 0 20)) (fun ⟨t, _⟩ => 1 - t) (fun ⟨t, _⟩ => [(0, (.slice (some ⟨g, 0, none⟩) N c0)), (1, .int .i64 N), (2, cmp), (6, .int .i64 20), (7, .int .i64 (20 * t : Nat)), (8, .int .i64 (20 * t + 20 : Nat))]) (fun ⟨_, C⟩ => [.ow (.slice (some ⟨g, 0, none⟩) N c0) 3 1 N (ints C)]) (0, l) (.inl ⟨rfl, rfl⟩) ⟨rfl, rfl, rfl, rfl, rfl, rfl, trivial⟩ (by repeat constructor) ?_
  rintro ⟨t, C⟩ hI K hK
  dsimp only at hI hK ⊢
  (refine q_seq (q_seq (q_region ?_)); (iterate 3 refine ql_pure tabOk rfl rfl ?_); refine q_nil ?_)
  refine q_if rfl (fun hc => ?_) (fun hc => ?_)
  · have ht : t = 0 ∧ C = l ∧ 20 ≤ N := by
      rcases hI with ⟨rfl, rfl⟩ | ⟨rfl, _⟩
      · exact ⟨rfl, rfl, by omega⟩
      · omega
    obtain ⟨rfl, rfl, hn⟩ := ht
    clear hc hI
    (refine q_skip (q_block (q_seq (q_region ?_))); (iterate 4 refine ql_pure tabOk rfl rfl ?_))
    refine ql_call (β := List Int) (ψ := fun D v => v = .tuple #[] ∧ Seg C D (20 * 0) (20 * 0 + 20) ∧ SrW key D (20 * 0) (20 * 0 + 20)) (L' := fun D => [.ow (.slice (some ⟨g, 0, none⟩) N c0) 3 1 N (ints D)]) tabOk [.ow (.slice (some ⟨g, 0, none⟩) N c0) 3 1 N (ints C)] _ (fun x => x = g) rfl rfl rfl rfl (Sp.cons (by repeat constructor) (Sp.refl _)) (fun x hx => ⟨_, .head _, by subst hx; rfl⟩) (fun w' hs => insR_ca g c0 N B key cmp cf hcf (by omega) w' C (20 * 0) (20 * 0 + 20) (by omega) (by omega) hln hB (hcmp.sub hs.chg) (hs.all _ (.head _))) ?_
    rintro D _ ⟨rfl, hD, sD⟩
    dsimp only [List.cons_append, List.nil_append]
    (refine q_nil (q_seq (q_region (ql_pure tabOk rfl rfl (ql_pure tabOk rfl rfl (q_nil (q_region (ql_pure tabOk rfl rfl (ql_pure tabOk rfl rfl (ql_ar tabOk rfl rfl rfl rfl (by omega) (by omega) (ql_pure tabOk rfl rfl (q_nil ?_))))))))))); refine q_blk ?_)
    exact hK (1, D) _ _ (.inr ⟨rfl, hn, hD.perm, sD⟩) (by dsimp only; omega) ⟨rfl, rfl, rfl, rfl, rfl, lookI rfl (by dsimp only; omega), trivial⟩ (by repeat constructor)
  · clear hK
    have hC : C.Perm l ∧ SrW key C 0 (20 * t) ∧ 20 * t ≤ N ∧ N < 20 * t + 20 ∧ t ≤ 1 := by
      rcases hI with ⟨rfl, rfl⟩ | ⟨rfl, h1, h2, h3⟩
      · exact ⟨.refl _, .one (by omega), by omega, by omega, by omega⟩
      · exact ⟨h2, h3, by omega, by omega, by omega⟩
    clear hc hI
    obtain ⟨hP, hSr, hq1, hq2, hq3⟩ := hC
    have hlC : C.length = N := by rw [hP.length_eq, hln]
    have hBC : ∀ x ∈ C, x ∈ B := fun x hx => hB x (hP.subset hx)
    (refine q_exit _ rfl (q_seq (q_region ?_)); (iterate 4 refine ql_pure tabOk rfl rfl ?_))
    refine ql_call (β := List Int) (ψ := fun D v => v = .tuple #[] ∧ Seg C D (20 * t) N ∧ SrW key D (20 * t) N) (L' := fun D => [.ow (.slice (some ⟨g, 0, none⟩) N c0) 3 1 N (ints D)]) tabOk [.ow (.slice (some ⟨g, 0, none⟩) N c0) 3 1 N (ints C)] _ (fun x => x = g) rfl rfl rfl rfl (Sp.cons (by repeat constructor) (Sp.refl _)) (fun x hx => ⟨_, .head _, by subst hx; rfl⟩) (fun w' hs => insR_ca g c0 N B key cmp cf hcf (by omega) w' C (20 * t) N (by omega) (by omega) hlC hBC (hcmp.sub hs.chg) (hs.all _ (.head _))) ?_
    rintro D _ ⟨rfl, hD, sD⟩
    dsimp only [List.cons_append, List.nil_append]
    have hP2 : D.Perm l := hD.perm.trans hP
    have hlD : D.length = N := by rw [hP2.length_eq, hln]
    have hBD : ∀ x ∈ D, x ∈ B := fun x hx => hB x (hP2.subset hx)
    have hS1 := hSr.out hD (.inl (Nat.le_refl _))
    clear hSr hP hlC hBC hD
    (refine q_nil (q_block ?_))
    refine q_loop (σ := Nat × List Int) (fun ⟨z, M⟩ => (z = 20 ∧ M = D) ∨ (z = 40 ∧ M.Perm l ∧ SrW key M 0 N)) (fun ⟨z, _⟩ => 40 - z) (fun ⟨z, _⟩ => [(0, (.slice (some ⟨g, 0, none⟩) N c0)), (1, .int .i64 N), (2, cmp), (6, .int .i64 z)]) (fun ⟨_, M⟩ => [.ow (.slice (some ⟨g, 0, none⟩) N c0) 3 1 N (ints M)]) (20, D) (.inl ⟨rfl, rfl⟩) ⟨rfl, rfl, rfl, rfl, trivial⟩ (by repeat constructor) ?_
    rintro ⟨z, M⟩ hI K hK
    dsimp only at hI hK ⊢
    (refine q_seq (q_seq (q_region ?_)); (iterate 3 refine ql_pure tabOk rfl rfl ?_); refine q_nil ?_)
    refine q_if rfl (fun hc => ?_) (fun hc => ?_)
    · have ht : z = 20 ∧ M = D ∧ 20 < N := by
        rcases hI with ⟨rfl, rfl⟩ | ⟨rfl, _⟩
        · exact ⟨rfl, rfl, by omega⟩
        · omega
      obtain ⟨rfl, rfl, hn⟩ := ht
      obtain rfl : t = 1 := by omega
      clear hc hI
      (refine q_skip (q_block (q_seq (q_region (ql_pure tabOk rfl rfl (ql_ar tabOk rfl rfl rfl rfl (by omega) (by omega) (ql_pure tabOk rfl rfl (ql_pure tabOk rfl rfl (q_nil (q_seq (q_block ?_)))))))))))
      refine q_loop (σ := Unit) (fun _ => True) (fun _ => 0) (fun _ => [(0, (.slice (some ⟨g, 0, none⟩) N c0)), (1, .int .i64 N), (2, cmp), (6, .int .i64 20), (7, .int .i64 0), (8, .int .i64 40)]) (fun _ => [.ow (.slice (some ⟨g, 0, none⟩) N c0) 3 1 N (ints M)]) () trivial ⟨rfl, rfl, rfl, rfl, rfl, rfl, trivial⟩ (by repeat constructor) ?_
      rintro _ _ K2 hK2
      clear hK2
      (refine q_seq (q_seq (q_region (ql_pure tabOk rfl rfl (ql_pure tabOk rfl rfl (ql_leqF tabOk rfl rfl rfl (by omega) (q_nil (q_cond_false rfl (q_exit _ rfl (q_seq (q_seq (q_region ?_))))))))))); refine ql_pure tabOk rfl rfl (ql_pure tabOk rfl rfl (ql_ar tabOk rfl rfl rfl rfl (by omega) (by omega) (ql_pure tabOk rfl rfl (q_nil (q_seq (q_region (ql_pure tabOk rfl rfl (ql_pure tabOk rfl rfl (ql_lssT tabOk rfl rfl rfl (by omega) (q_nil (q_cond_true rfl ?_))))))))))); refine q_region ?_; (iterate 5 refine ql_pure tabOk rfl rfl ?_))
      refine ql_call (β := List Int) (ψ := fun D v => v = .tuple #[] ∧ Seg M D 0 N ∧ SrW key D 0 N) (L' := fun D => [.ow (.slice (some ⟨g, 0, none⟩) N c0) 3 1 N (ints D)]) tabOk [.ow (.slice (some ⟨g, 0, none⟩) N c0) 3 1 N (ints M)] _ (fun x => x = g) rfl rfl rfl rfl (Sp.cons (by repeat constructor) (Sp.refl _)) (fun x hx => ⟨_, .head _, by subst hx; rfl⟩) (fun w' hs => symM_ca g c0 N B key cmp cf hcf (by omega) N w' M 0 20 N (by omega) (by omega) (by omega) (by omega) hlD hBD (hcmp.sub hs.chg) hS1 sD (hs.all _ (.head _))) ?_
      rintro E _ ⟨rfl, hE, sE⟩
      dsimp only [List.cons_append, List.nil_append]
      (refine q_nil (q_region (ql_pure tabOk rfl rfl (ql_ar tabOk rfl rfl rfl rfl (by omega) (by omega) (ql_pure tabOk rfl rfl (q_nil (q_blk ?_)))))))
      exact hK (40, E) _ _ (.inr ⟨rfl, hE.perm.trans hP2, sE⟩) (by dsimp only; omega) ⟨rfl, rfl, rfl, rfl, trivial⟩ (by repeat constructor)
    · clear hK
      have hM : M.Perm l ∧ SrW key M 0 N := by
        rcases hI with ⟨rfl, rfl⟩ | ⟨rfl, h1, h2⟩
        · refine ⟨hP2, ?_⟩
          by_cases c : t = 0
          · rw [c] at sD; exact sD
          · have e : 20 * t = N := by omega
            rw [e] at hS1
            exact hS1
        · exact ⟨h1, h2⟩
      (refine q_exit _ rfl ?_)
      refine q_end tabOk rfl (by repeat constructor) fun w hs => ?_
      exact ⟨M, ⟨rfl, hM.1, hM.2⟩, hs⟩
/-- Sorted by a key, up to 39 elements. -/
theorem sortW_ca (g c0 N : Nat) (B : List Int) (key : Int → Int) (cmp : Value) (cf : Int → Int → Int) (hcf : ∀ x ∈ B, ∀ y ∈ B, (cf x y < 0 ↔ key x < key y)) (hN : N ≤ 39) (w : World) (l : List Int) (hln : l.length = N) (hB : ∀ x ∈ l, x ∈ B) (hcmp : CmpS w g cmp cf B) (hb : w.ownsRow 0 3 1 (.slice (some ⟨g, 0, none⟩) N c0) N (ints l)) :
    Ca Tryz.prog 173 [(.slice (some ⟨g, 0, none⟩) N c0), cmp] w fun v w' => ∃ L : List Int, (v = .tuple #[] ∧ L.Perm l ∧ SrW key L 0 N) ∧ Sat w (fun x => x = g) [.ow (.slice (some ⟨g, 0, none⟩) N c0) 3 1 N (ints L)] w' := by
  refine q_of (Sat.own0 hb) Tryz.func173 rfl (by simp [Tryz.ntmps173]) ?_
  (refine q_region ?_; (iterate 4 refine ql_pure tabOk rfl rfl ?_))
  refine ql_call (β := List Int) (ψ := fun D v => v = .tuple #[] ∧ D.Perm l ∧ SrW key D 0 N) (L' := fun D => [.ow (.slice (some ⟨g, 0, none⟩) N c0) 3 1 N (ints D)]) tabOk [.ow (.slice (some ⟨g, 0, none⟩) N c0) 3 1 N (ints l)] _ (fun x => x = g) rfl rfl rfl rfl (Sp.cons (by repeat constructor) (Sp.refl _)) (fun x hx => ⟨_, .head _, by subst hx; rfl⟩) (fun w' hs => stabW_ca g c0 N B key cmp cf hcf hN w' l hln hB (hcmp.sub hs.chg) (hs.all _ (.head _))) ?_
  rintro D _ ⟨rfl, hD, sD⟩
  dsimp only [List.cons_append, List.nil_append]
  (refine q_nil ?_)
  refine q_end tabOk rfl (by repeat constructor) fun w hs => ?_
  exact ⟨D, ⟨rfl, hD, sD⟩, hs⟩
end Go.Proofs.YtopdmadgkjdgcaaGreat

/- Walks of rifle: hold after hold, the one that reaches farthest. -/
namespace Go.Proofs.YtopdmadgkjdgcaaGreat
set_option maxRecDepth 4000
open Go Go.Eng
/-- Sorted, also if there is nothing to be sorted. -/
theorem sortT_ca (w : World) (g c n : Nat) (key : Int → Int) (cmp : Value) (cf : Int → Int → Int) (hcf : ∀ a ∈ iotaL n, ∀ b ∈ iotaL n, (cf a b < 0 ↔ key a < key b)) (hl : n ≤ 39) (hcmp : CmpS w g cmp cf (iotaL n)) (hb : w.ownsRow 0 3 1 (.slice (some ⟨g, 0, none⟩) n c) n (ints (iotaL n))) :
    Ca Tryz.prog 173 [.slice (some ⟨g, 0, none⟩) n c, cmp] w fun v w' => ∃ L : List Int, (v = .tuple #[] ∧ L.Perm (iotaL n) ∧ SrW key L 0 n) ∧ Sat w (fun x => x = g) [.ow (.slice (some ⟨g, 0, none⟩) n c) 3 1 n (ints L)] w' :=
  sortW_ca g c n (iotaL n) key cmp cf hcf hl w (iotaL n) (iota_len n) (fun _ h => h) hcmp hb
/-- The order of the holds, those that reach farthest first. -/
structure LateO (L : List Hd) (Q : List Int) : Prop where
  len : Q.length = L.length
  bd : ∀ k, k < L.length → 0 ≤ Q.getD k 0 ∧ Q.getD k 0 < L.length
  all : ∀ j, j < L.length → ∃ k, k < L.length ∧ Q.getD k 0 = (j : Int)
  srt : ∀ p q, p < q → q < L.length → (hdL L (Q.getD q 0).toNat).t ≤ (hdL L (Q.getD p 0).toNat).t
theorem late_of {L : List Hd} {Q : List Int} (hp : Q.Perm (iotaL L.length)) (hs : SrW (fun i => -endK L i) Q 0 L.length) : LateO L Q := by
  have hl : Q.length = L.length := by rw [hp.length_eq, iota_len]
  refine ⟨hl, fun k hk => ?_, fun j hj => ?_, fun p q h1 h2 => ?_⟩
  · have hm : Q.getD k 0 ∈ Q := by
      rw [List.getD_eq_getElem?_getD, List.getElem?_eq_getElem (by omega), Option.getD_some]
      exact List.getElem_mem _
    exact iota_mem.1 (hp.subset hm)
  · have hm : (j : Int) ∈ Q := hp.symm.subset (iota_mem.2 ⟨by omega, by omega⟩)
    obtain ⟨k, hk, he⟩ := List.mem_iff_getElem.1 hm
    exact ⟨k, by omega, by rw [List.getD_eq_getElem?_getD, List.getElem?_eq_getElem hk, Option.getD_some, he]⟩
  · have h3 := hs p q (by omega) (by omega) h2
    unfold endK at h3
    dsimp only at h3
    omega
/-- The hold that reaches farthest of those that cover a minute. -/
theorem late_best {L : List Hd} {Q : List Int} (h : LateO L Q) {k : Nat} (hk : k < L.length) {m : Int} (hno : ∀ j, j < k → (hdL L (Q.getD j 0).toNat).cov m = false) : ∀ x ∈ L, x.cov m = true → x.t ≤ (hdL L (Q.getD k 0).toNat).t := by
  intro x hx hc
  obtain ⟨i, hi, rfl⟩ := hdL_of_mem hx
  obtain ⟨p, hp, he⟩ := h.all i hi
  rcases Nat.lt_trichotomy p k with h1 | h1 | h1
  · have := hno p h1
    rw [he, Int.toNat_natCast, hc] at this
    cases this
  · subst h1
    rw [he, Int.toNat_natCast]
    exact Int.le_refl _
  · have := h.srt k p h1 hp
    rw [he, Int.toNat_natCast] at this
    exact this
theorem late_none {L : List Hd} {Q : List Int} (h : LateO L Q) {m : Int} (hno : ∀ j, j < L.length → (hdL L (Q.getD j 0).toNat).cov m = false) : ∀ x ∈ L, x.cov m = false := by
  intro x hx
  obtain ⟨i, hi, rfl⟩ := hdL_of_mem hx
  obtain ⟨p, hp, he⟩ := h.all i hi
  have := hno p hp
  rwa [he, Int.toNat_natCast] at this
def nI (l : List Nat) : List Int := l.map fun (i : Nat) => (i : Int)
theorem nI_len (l : List Nat) : (nI l).length = l.length := by simp [nI]
theorem nI_snoc (l : List Nat) (x : Nat) : ints (nI (l ++ [x])) = ints (nI l) ++ [.int .i64 x] := by simp [nI, ints]
def fillI (n k : Nat) : List Int := (List.range n).map fun (i : Nat) => if i < k then (i : Int) else 0
theorem fillI_zero (n : Nat) : List.replicate n (0 : Int) = fillI n 0 := List.ext_getElem (by simp [fillI]) fun i h1 h2 => by simp [fillI]
theorem fillI_full (n : Nat) : fillI n n = iotaL n := List.ext_getElem (by simp [fillI, iotaL]) fun i h1 h2 => by
  have : i < n := by simpa [fillI] using h1
  simp [fillI, iotaL, this]
theorem fillI_len (n k : Nat) : (fillI n k).length = n := by simp [fillI]
theorem fillI_set (n k : Nat) : (fillI n k).set k (k : Int) = fillI n (k + 1) := List.ext_getElem (by simp [fillI]) fun i h1 h2 => by
  rw [List.getElem_set]
  simp only [fillI, List.getElem_map, List.getElem_range]
  by_cases e : k = i
  · subst e
    rw [if_pos rfl, if_pos (by omega)]
  · rw [if_neg e]
    by_cases e2 : i < k
    · rw [if_pos e2, if_pos (by omega)]
    · rw [if_neg e2, if_neg (by omega)]
set_option maxHeartbeats 4000000 in
theorem links_ca (w : World) (lo hi : Nat) (v : Value) (L : List Hd) (h : RdH w lo hi v L) (hL : ∀ h ∈ L, 0 ≤ h.t ∧ h.t ≤ 10000) (hn : L.length ≤ 39) (a b : Int) (ha : 0 ≤ a ∧ a ≤ 10000) (hb : 0 ≤ b ∧ b ≤ 10000) :
    Ca Tryz.prog 140 [v, .int .i64 a, .int .i64 b] w fun x w' => ∃ y : (Value × List Nat) × (Value × List Int) × Int, (x = .tuple #[y.1.1, y.2.1.1, .int .i64 y.2.2] ∧ Lk L b a y.1.2 y.2.1.2 y.2.2) ∧ Sat w M0 [.ow y.1.1 3 1 y.1.2.length (ints (nI y.1.2)), .ow y.2.1.1 3 1 y.2.1.2.length (ints y.2.1.2)] w' := by
  obtain ⟨va, vc, rfl, hsa⟩ := RdH.outI h
  refine q_of (Sat.nil w M0) Tryz.func140 rfl (by simp [Tryz.ntmps140]) ?_
  (refine q_seq (q_region ?_))
  refine ql_box rfl rfl (fun b3 => ?_)
  ((iterate 3 refine ql_pure tabOk rfl rfl ?_); refine q_nil (q_seq (q_region ?_)); refine ql_loadBa tabOk rfl rfl rfl ?_; refine ql_pure tabOk rfl rfl ?_)
  refine ql_makeI slI rfl rfl rfl (by omega) (fun b9 => ?_)
  rw [fillI_zero]
  (refine ql_pure tabOk rfl rfl (q_nil (q_seq (q_seq (q_region ?_)))); refine ql_loadBa tabOk rfl rfl rfl ?_; refine ql_pure tabOk rfl rfl (ql_pure tabOk rfl rfl (q_nil (q_block ?_))))
  refine q_loop (σ := Nat) (fun k => k ≤ L.length) (fun k => L.length - k) (fun k => [(1, .int .i64 a), (2, .int .i64 b), (3, .pointer (some ⟨b3, 0, none⟩)), (6, .slice none 0 0), (7, .slice none 0 0), (9, .slice (some ⟨b9, 0, none⟩) L.length L.length), (20, .int .i64 L.length), (21, .int .i64 k)]) (fun k => [.pt b9 (ints (fillI L.length k)) 3, .pt b3 [.slice va L.length vc] 23]) 0 (by omega) ⟨rfl, rfl, rfl, rfl, rfl, rfl, rfl, rfl, trivial⟩ (by repeat constructor) ?_
  rintro k hk K hK
  (refine q_seq (q_region (ql_pure tabOk rfl rfl (q_nil (q_seq ?_)))))
  refine q_if rfl (fun hc => ?_) (fun hc => ?_)
  · have hk2 : k < L.length := by omega
    clear hc
    have hkf : k < (fillI L.length k).length := by rw [fillI_len]; exact hk2
    (refine q_skip (q_seq (q_block (q_seq (q_region (ql_pure tabOk rfl rfl (ql_pure tabOk rfl rfl (q_nil (q_region ?_)))))))); (iterate 3 refine ql_pure tabOk rfl rfl ?_))
    refine ql_index tabOk rfl rfl rfl rfl rfl (by omega) (by omega) ?_
    refine ql_storeI tabOk (k) rfl rfl rfl (by repeat constructor) (by first | rfl | omega | simp) hkf ?_
    rw [fillI_set]
    (refine q_nil (q_blk (q_region (ql_ar tabOk rfl rfl rfl rfl (by omega) (by omega) (ql_pure tabOk rfl rfl (q_nil ?_))))))
    exact hK (k + 1) _ _ (by omega) (by omega) ⟨rfl, rfl, rfl, rfl, rfl, rfl, rfl, rfl, trivial⟩ (by repeat constructor)
  · obtain rfl : k = L.length := by omega
    clear hc hK hk
    rw [fillI_full]
    (refine q_exit _ rfl (q_seq (q_region ?_)); refine ql_loadBa tabOk rfl rfl rfl ?_; refine ql_pure tabOk rfl rfl ?_)
    refine ql_makeI slI rfl rfl rfl (by omega) (fun b5 => ?_)
    (refine ql_pure tabOk rfl rfl (q_nil (q_seq (q_region (ql_pure tabOk rfl rfl (ql_pure tabOk rfl rfl ?_))))))
    refine ql_copyR (et := 3) (news := ints (iotaL L.length)) (sz := 1) (o := 0) (by kernel_rfl) (by kernel_rfl) rfl rfl rfl (by repeat constructor) (by simp [ints, iota_len]) (by simp [ints, oneV]) (fun w hs => ⟨_, _, by have := Blk.rdN (c := L.length) (sz := 1) (q := L.length) (hs.blk (b := b9) (by repeat constructor)) (by simp [ints, iota_len]); exact this⟩) ?_
    have ec : List.take 0 (ints (List.replicate L.length 0)) ++ ints (iotaL L.length) ++ List.drop (0 + (ints (iotaL L.length)).length) (ints (List.replicate L.length 0)) = ints (iotaL L.length) := by
      rw [List.take_zero, List.nil_append, List.drop_of_length_le (by simp [ints, iota_len]), List.append_nil]
    rw [ec]
    refine ql_conv (H' := [.ow (.slice (some ⟨b5, 0, none⟩) L.length L.length) 3 1 L.length (ints (iotaL L.length)), .pt b9 (ints (iotaL L.length)) 3, .pt b3 [.slice va L.length vc] 23]) (fun w' hs => Sat.pt_ow (m := L.length) (by simp [ints, iota_len]) (by omega) hs) ?_
    (refine q_nil (q_seq (q_region (ql_pure tabOk rfl rfl (ql_pure tabOk rfl rfl ?_)))))
    refine ql_call (β := List Int) (ψ := fun Q v => v = .tuple #[] ∧ Q.Perm (iotaL L.length) ∧ SrW (fun i => -endK L i) Q 0 L.length) (L' := fun Q => [.ow (.slice (some ⟨b5, 0, none⟩) L.length L.length) 3 1 L.length (ints Q)]) tabOk [.ow (.slice (some ⟨b5, 0, none⟩) L.length L.length) 3 1 L.length (ints (iotaL L.length))] _ (fun x => x = b5) rfl rfl rfl rfl (Sp.cons (by repeat constructor) (Sp.refl _)) (fun x hx => ⟨_, .head _, by subst hx; rfl⟩) (fun w' hs => by
      have hcmp : CmpS w' b5 (.func (.func 174) #[] #[.pointer (some ⟨b3, 0, none⟩)]) (fun i j => endK L j - endK L i) (iotaL L.length) := fun w2 hc2 x hx y hy => by
        have hx2 := iota_mem.1 hx
        have hy2 := iota_mem.1 hy
        have hc3 : ChgP (DL [Ck.ow (.slice (some ⟨b5, 0, none⟩) L.length L.length) 3 1 L.length (ints (iotaL L.length))]) w' w2 := (ChgP.refl _ w').upP hc2 fun k hk => .inl ⟨_, .head _, by subst hk; rfl⟩
        have hb1 : Blk w2 b3 [.slice va L.length vc] 23 := hs.aside hc3 (x := .pt b3 [.slice va L.length vc] 23) (by repeat constructor)
        have hc4 := hs.asideOld hc3
        obtain ⟨i, rfl⟩ := Int.eq_ofNat_of_zero_le hx2.1
        obtain ⟨j, rfl⟩ := Int.eq_ofNat_of_zero_le hy2.1
        exact CaF.of tabOk rfl (links1_ca w2 lo hi b3 _ _ _ L (RdE.keep h hc4) hb1 hL i j (by omega) (by omega))
      exact sortT_ca w' b5 L.length L.length (fun i => -endK L i) _ _ (fun x hx y hy => by omega) hn hcmp (hs.all _ (.head _))) ?_
    rintro Q _ ⟨rfl, hp, hso⟩
    have hQ := late_of hp hso
    clear hp hso
    have hQl := hQ.len
    dsimp only [List.cons_append, List.nil_append]
    refine ql_conv (H' := [.ow (.slice none 0 0) 3 1 0 [], .ow (.slice none 0 0) 3 1 0 [], .ow (.slice (some ⟨b5, 0, none⟩) L.length L.length) 3 1 L.length (ints Q), .pt b3 [.slice va L.length vc] 23]) (fun w' hs => (Sat.ownil (Sat.ownil (hs.sp (H' := [.ow (.slice (some ⟨b5, 0, none⟩) L.length L.length) 3 1 L.length (ints Q), .pt b3 [.slice va L.length vc] 23]) (by repeat constructor)) 3 1) 3 1)) ?_
    (refine q_nil (q_seq (q_block ?_)))
    refine q_loop (σ := (Int × Value × Value) × List Nat × List Int) (fun z => (0 ≤ z.1.1 ∧ z.1.1 ≤ 10000 ∧ a ≤ z.1.1) ∧ z.2.1.length = z.2.2.length ∧ (z.2.1.length : Int) ≤ z.1.1 - a ∧ ∀ hs' ms' e, Lk L b z.1.1 hs' ms' e → Lk L b a (z.2.1 ++ hs') (z.2.2 ++ ms') e) (fun z => (b - z.1.1).toNat) (fun z => [(1, .int .i64 z.1.1), (2, .int .i64 b), (3, .pointer (some ⟨b3, 0, none⟩)), (6, z.1.2.1), (7, z.1.2.2), (11, .slice (some ⟨b5, 0, none⟩) L.length L.length)]) (fun z => [.ow z.1.2.1 3 1 z.2.1.length (ints (nI z.2.1)), .ow z.1.2.2 3 1 z.2.2.length (ints z.2.2), .ow (.slice (some ⟨b5, 0, none⟩) L.length L.length) 3 1 L.length (ints Q), .pt b3 [.slice va L.length vc] 23]) ((a, .slice none 0 0, .slice none 0 0), [], []) ⟨⟨ha.1, ha.2, Int.le_refl _⟩, rfl, by simp, fun _ _ _ h => h⟩ ⟨rfl, rfl, rfl, rfl, rfl, rfl, trivial⟩ (by repeat constructor) ?_
    rintro ⟨⟨cur, u6, u7⟩, hsl, ms⟩ ⟨⟨hc0, hc1, hc2⟩, hlen, hle, hcont⟩ K hK
    dsimp only at hc0 hc1 hc2 hlen hle hcont hK ⊢
    (refine q_seq (q_seq (q_region ?_)); (iterate 3 refine ql_pure tabOk rfl rfl ?_); refine q_nil ?_)
    refine q_if rfl (fun hc => ?_) (fun hc => ?_)
    · have hcb : cur < b := by simpa using hc
      clear hc
      (refine q_skip (q_block ?_))
      refine q_scope (fun _ _ _ h => h) ?_
      (refine q_seq (q_region (ql_pure tabOk rfl rfl (q_nil (q_seq (q_label (q_seq (q_seq (q_region ?_)))))))); (iterate 3 refine ql_pure tabOk rfl rfl ?_); refine q_nil (q_block ?_))
      refine q_loop (σ := Nat) (fun k => k ≤ L.length ∧ ∀ j, j < k → (hdL L (Q.getD j 0).toNat).cov cur = false) (fun k => L.length - k) (fun k => [(1, .int .i64 cur), (2, .int .i64 b), (3, .pointer (some ⟨b3, 0, none⟩)), (6, u6), (7, u7), (11, .slice (some ⟨b5, 0, none⟩) L.length L.length), (12, .int .i64 (-1)), (41, .slice (some ⟨b5, 0, none⟩) L.length L.length), (42, .int .i64 L.length), (43, .int .i64 k)]) (fun _ => [.ow u6 3 1 hsl.length (ints (nI hsl)), .ow u7 3 1 ms.length (ints ms), .ow (.slice (some ⟨b5, 0, none⟩) L.length L.length) 3 1 L.length (ints Q), .pt b3 [.slice va L.length vc] 23]) 0 ⟨by omega, fun j hj => absurd hj (by omega)⟩ ⟨rfl, rfl, rfl, rfl, rfl, rfl, rfl, rfl, rfl, rfl, trivial⟩ (by repeat constructor) ?_
      rintro k ⟨hk, hno⟩ K2 hK2
      (refine q_seq (q_region (ql_pure tabOk rfl rfl (q_nil (q_seq ?_)))))
      refine q_if rfl (fun hc => ?_) (fun hc => ?_)
      · have hk2 : k < L.length := by omega
        clear hc
        obtain ⟨q0, q1⟩ := hQ.bd k hk2
        obtain ⟨i, hi⟩ := Int.eq_ofNat_of_zero_le q0
        have hkQ : k < Q.length := by omega
        have hQk : Q[k] = (i : Int) := by
          rw [List.getD_eq_getElem?_getD, List.getElem?_eq_getElem hkQ, Option.getD_some] at hi
          exact hi
        have hil : i < L.length := by rw [hi] at q1; omega
        have hLi : hdL L i = L[i] := by
          unfold hdL
          rw [List.getD_eq_getElem?_getD, List.getElem?_eq_getElem hil, Option.getD_some]
        have hti := hL _ (List.getElem_mem hil)
        obtain ⟨ab, ao, rfl⟩ := hsa (by omega)
        (refine q_skip (q_seq (q_block (q_seq (q_region ?_)))))
        refine ql_index tabOk rfl rfl rfl rfl rfl (by omega) (by omega) ?_
        refine ql_load1 (v := .int .i64 i) tabOk rfl rfl rfl (fun w hs => by
          have := RdI.at (hs.rdI (v := .slice (some ⟨b5, 0, none⟩) L.length L.length) (l := Q) (t := 3) (n := L.length) (by repeat constructor) hQl.symm) k hkQ
          rw [hQk] at this
          exact this) ?_
        (refine ql_pure tabOk rfl rfl (q_nil (q_seq (q_region ?_))); refine ql_loadBa tabOk rfl rfl rfl ?_; refine ql_pure tabOk rfl rfl ?_)
        refine ql_index tabOk rfl rfl rfl rfl rfl (by omega) (by omega) ?_
        refine ql_loadA (cs := [.int .i64 L[i].who, .int .i64 L[i].f, .int .i64 L[i].t]) tabOk rfl rfl rfl rfl (fun w hs q hq => RdH.at (RdE.keep h hs.chg0) i hil q hq) ?_
        (refine ql_pure tabOk rfl rfl (ql_pure tabOk rfl rfl (q_nil (q_seq (q_region (ql_pure tabOk rfl rfl (ql_pure tabOk rfl rfl ?_)))))))
        refine ql_callv (val := .bool ((L[i]).cov cur)) tabOk rfl rfl rfl rfl (fun w hs => ?_) ?_; exact covers_ca L[i] cur w
        cases hcv : (L[i]).cov cur with
        | false =>
          (refine q_nil (q_cond_false rfl (q_skip (q_blk (q_region (ql_ar tabOk rfl rfl rfl rfl (by omega) (by omega) (ql_pure tabOk rfl rfl (q_nil ?_))))))))
          exact hK2 (k + 1) _ _ ⟨by omega, fun j hj => by
            by_cases e : j = k
            · subst e
              rw [hi]
              show (hdL L i).cov cur = false
              rw [hLi]
              exact hcv
            · exact hno j (by omega)⟩ (by omega) ⟨rfl, rfl, rfl, rfl, rfl, rfl, rfl, rfl, rfl, rfl, trivial⟩ (by repeat constructor)
        | true =>
          have hcv2 := Hd.cov_iff.1 hcv
          have hbest : ∀ h ∈ L, h.cov cur = true → h.t ≤ (hdL L i).t := by
            have := late_best hQ hk2 hno
            rw [hi] at this
            exact this
          have hml : ms.length ≤ 10000 := by omega
          (refine q_nil (q_cond_true rfl (q_seq (q_region (ql_pure tabOk rfl rfl (ql_pure tabOk rfl rfl (q_nil (q_exit _ rfl (q_seq (q_seq (q_region (ql_pure tabOk rfl rfl ?_))))))))))); refine ql_eqlF tabOk rfl rfl rfl (by omega) (q_nil (q_cond_false rfl (q_skip (q_seq (q_region (ql_pure tabOk rfl rfl (ql_pure tabOk rfl rfl ?_))))))))
          refine ql_mkS 3 [.int .i64 i] rfl (by kernel_rfl) rfl (fun bn => ?_)
          skip
          refine ql_append (q := 1) (news := [.int .i64 i]) slI rfl rfl rfl (fun v' => by repeat constructor) (fun w' hs => ⟨_, _, Blk.rdN (hs.blk (b := bn) (by repeat constructor)) rfl⟩) (by simp [oneV]) (by omega) (by omega) (fun u6' => ?_)
          (refine ql_pure tabOk rfl rfl (ql_pure tabOk rfl rfl ?_))
          refine ql_mkS 3 [.int .i64 cur] rfl (by kernel_rfl) rfl (fun bn2 => ?_)
          skip
          refine ql_append (q := 1) (news := [.int .i64 cur]) slI rfl rfl rfl (fun v' => by repeat constructor) (fun w' hs => ⟨_, _, Blk.rdN (hs.blk (b := bn2) (by repeat constructor)) rfl⟩) (by simp [oneV]) (by omega) (by omega) (fun u7' => ?_)
          (refine ql_pure tabOk rfl rfl (ql_pure tabOk rfl rfl (q_nil (q_region ?_))); refine ql_loadBa tabOk rfl rfl rfl ?_; refine ql_pure tabOk rfl rfl ?_)
          refine ql_index tabOk rfl rfl rfl rfl rfl (by omega) (by omega) ?_
          (refine ql_pure tabOk rfl rfl ?_)
          refine ql_load1 (v := .int .i64 L[i].t) tabOk rfl rfl rfl (fun w hs => RdH.at2 (RdE.keep h hs.chg0) i hil) ?_
          (refine ql_pure tabOk rfl rfl (q_nil (q_blk ?_)))
          exact hK ((L[i].t, u6', u7'), hsl ++ [i], ms ++ [cur]) _ _ ⟨⟨by simp only; omega, by simp only; omega, by simp only; omega⟩, by simp [hlen], by simp only [List.length_append, List.length_singleton]; omega, fun hs' ms' e hh => by
            have h1 := hcont (i :: hs') (cur :: ms') e (.step hcb hil (by rw [hLi]; exact hcv) hbest (by rw [hLi]; exact hh))
            rw [List.append_assoc, List.append_assoc]
            exact h1⟩ (by simp only; omega) ⟨rfl, rfl, rfl, rfl, rfl, rfl, trivial⟩ (by dsimp only; rw [nI_snoc, show ints (ms ++ [cur]) = ints ms ++ [.int .i64 cur] from by simp [ints], List.length_append, List.length_append, List.length_singleton, List.length_singleton]; repeat constructor)
      · obtain rfl : k = L.length := by omega
        clear hc hK2 hk
        (refine q_exit _ rfl (q_seq (q_seq (q_region (ql_pure tabOk rfl rfl (ql_eqlT tabOk rfl rfl rfl (by omega) (q_nil (q_cond_true rfl (q_seq (q_region ?_))))))))); (iterate 6 refine ql_pure tabOk rfl rfl ?_); refine q_nil (q_ret ?_))
        refine q_fin tabOk rfl (by repeat constructor) fun w hs => ?_
        exact ⟨((u6, hsl), (u7, ms), cur), ⟨rfl, by have := hcont [] [] cur (.gap hcb (late_none hQ hno)); rwa [List.append_nil, List.append_nil] at this⟩, hs.sp (by repeat constructor)⟩
    · have hcb : b ≤ cur := by simpa using hc
      (refine q_exit _ rfl (q_seq (q_region ?_)); (iterate 6 refine ql_pure tabOk rfl rfl ?_); refine q_nil (q_ret ?_))
      refine q_fin tabOk rfl (by repeat constructor) fun w hs => ?_
      exact ⟨((u6, hsl), (u7, ms), b), ⟨rfl, by have := hcont [] [] b (.done hcb); rwa [List.append_nil, List.append_nil] at this⟩, hs.sp (by repeat constructor)⟩
end Go.Proofs.YtopdmadgkjdgcaaGreat

/- Walks of rifle: spans, chains, whether minutes are marks. -/
namespace Go.Proofs.YtopdmadgkjdgcaaGreat
set_option maxRecDepth 4000
open Go Go.Eng
/-- The error of a guard and a span. -/
def chkSp (L : List Hd) (a b : Int) : Int := if chkG L ≠ 0 then chkG L else if (0 ≤ a ∧ a ≤ 10000) ∧ a < b ∧ b ≤ 10000 then 0 else 3
structure SpOk (L : List Hd) (a b : Int) : Prop where
  g : GOk L
  ra : 0 ≤ a ∧ a ≤ 10000
  rb : a < b ∧ b ≤ 10000
theorem chkSp_zero {L : List Hd} {a b : Int} : chkSp L a b = 0 ↔ SpOk L a b := by
  unfold chkSp
  constructor
  · intro h
    split at h
    · omega
    split at h
    · rename_i h1 h2
      exact ⟨chkG_zero.1 (by simpa using h1), h2.1, h2.2⟩
    · omega
  · intro h
    rw [if_neg (by rw [chkG_zero.2 h.g]; simp), if_pos ⟨h.ra, h.rb⟩]
theorem spanned_ca (w : World) (lo hi : Nat) (L : List Hd) (v : Value) (a b : Int) (h : RdH w lo hi v L) (hlen : L.length ≤ maxLen) : Ca Tryz.prog 139 [v, .int .i64 a, .int .i64 b] w fun x w' => x = .int .i64 (chkSp L a b) ∧ Chg [] w w' := by
  refine q_of (Sat.nil w M0) Tryz.func139 rfl (by simp [Tryz.ntmps139]) ?_
  (refine q_seq (q_region (ql_pure tabOk rfl rfl (q_nil (q_seq (q_seq (q_region (ql_pure tabOk rfl rfl ?_))))))))
  refine ql_callv (val := .int .i64 (chkG L)) tabOk rfl rfl rfl rfl (fun w hs => ?_) ?_; exact checkG_ca w lo hi L v (RdE.keep h hs.chg0) hlen
  by_cases h0 : chkG L = 0
  · have e0 : chkSp L a b = if (0 ≤ a ∧ a ≤ 10000) ∧ a < b ∧ b ≤ 10000 then 0 else 3 := by
      unfold chkSp
      rw [if_neg (by simpa using h0)]
    rw [e0]
    (refine ql_pure tabOk rfl rfl (q_nil (q_seq (q_region (ql_pure tabOk rfl rfl (ql_neqF tabOk rfl rfl rfl (by omega) (q_nil (q_cond_false rfl (q_skip (q_seq (q_seq (q_region ?_))))))))))); refine ql_pure tabOk rfl rfl ?_)
    refine ql_callv (val := .bool (inB a 0 10000)) tabOk rfl rfl rfl rfl (fun w hs => ?_) ?_; exact rfin_ca a 0 10000 w
    by_cases h1 : 0 ≤ a ∧ a ≤ 10000
    · rw [inB_iff.2 h1]
      by_cases h2 : a < b
      · by_cases h3 : b ≤ 10000
        · (refine ql_pure tabOk rfl rfl (ql_pure tabOk rfl rfl (ql_gyes rfl (ql_pure tabOk rfl rfl (ql_gyes rfl (ql_pure tabOk rfl rfl (ql_gyes rfl (ql_leqF tabOk rfl rfl rfl (by omega) (ql_pure tabOk rfl rfl (ql_pure tabOk rfl rfl (ql_gyes rfl (ql_pure tabOk rfl rfl ?_))))))))))); refine ql_gyes rfl (ql_gtrF tabOk rfl rfl rfl (by omega) (ql_pure tabOk rfl rfl (q_nil (q_cond_false rfl (q_skip (q_seq (q_region (ql_pure tabOk rfl rfl (q_nil (q_ret ?_)))))))))))
          refine q_fin tabOk rfl (by repeat constructor) fun w hs => ?_
          exact ⟨by rw [if_pos ⟨h1, h2, h3⟩]; rfl, hs.chg0⟩
        · (refine ql_pure tabOk rfl rfl (ql_pure tabOk rfl rfl (ql_gyes rfl (ql_pure tabOk rfl rfl (ql_gyes rfl (ql_pure tabOk rfl rfl (ql_gyes rfl (ql_leqF tabOk rfl rfl rfl (by omega) (ql_pure tabOk rfl rfl (ql_pure tabOk rfl rfl (ql_gyes rfl (ql_pure tabOk rfl rfl ?_))))))))))); refine ql_gyes rfl (ql_gtrT tabOk rfl rfl rfl (by omega) (ql_pure tabOk rfl rfl (q_nil (q_cond_true rfl (q_seq (q_region (ql_pure tabOk rfl rfl (q_nil (q_ret ?_))))))))))
          refine q_fin tabOk rfl (by repeat constructor) fun w hs => ?_
          exact ⟨by rw [if_neg (fun e => h3 e.2.2)]; rfl, hs.chg0⟩
      · (refine ql_pure tabOk rfl rfl (ql_pure tabOk rfl rfl (ql_gyes rfl (ql_pure tabOk rfl rfl (ql_gyes rfl (ql_pure tabOk rfl rfl (ql_gyes rfl (ql_leqT tabOk rfl rfl rfl (by omega) (ql_pure tabOk rfl rfl (ql_pure tabOk rfl rfl (ql_gno rfl rfl rfl (ql_gno rfl rfl rfl ?_))))))))))); refine ql_pure tabOk rfl rfl (q_nil (q_cond_true rfl (q_seq (q_region (ql_pure tabOk rfl rfl (q_nil (q_ret ?_))))))))
        refine q_fin tabOk rfl (by repeat constructor) fun w hs => ?_
        exact ⟨by rw [if_neg (fun e => h2 e.2.1)]; rfl, hs.chg0⟩
    · rw [show inB a 0 10000 = false from by rw [← Bool.not_eq_true, inB_iff]; exact h1]
      (refine ql_pure tabOk rfl rfl (ql_pure tabOk rfl rfl ?_); (iterate 3 refine ql_gno rfl rfl rfl ?_); refine ql_pure tabOk rfl rfl (ql_pure tabOk rfl rfl (ql_gno rfl rfl rfl (ql_gno rfl rfl rfl (ql_pure tabOk rfl rfl (q_nil (q_cond_true rfl (q_seq (q_region (ql_pure tabOk rfl rfl (q_nil (q_ret ?_))))))))))))
      refine q_fin tabOk rfl (by repeat constructor) fun w hs => ?_
      exact ⟨by rw [if_neg (fun e => h1 e.1)]; rfl, hs.chg0⟩
  · have e0 : chkSp L a b = chkG L := by
      unfold chkSp
      rw [if_pos h0]
    rw [e0]
    (refine ql_pure tabOk rfl rfl (q_nil (q_seq (q_region (ql_pure tabOk rfl rfl (ql_neqT tabOk rfl rfl rfl (by omega) (q_nil (q_cond_true rfl (q_seq (q_region (ql_pure tabOk rfl rfl (ql_pure tabOk rfl rfl ?_))))))))))); refine q_nil (q_ret ?_))
    refine q_fin tabOk rfl (by repeat constructor) fun w hs => ?_
    exact ⟨rfl, hs.chg0⟩
/-- What a guarded span, or one that is not, leads to. -/
def GrdR (L : List Hd) (a b : Int) (hs : List Nat) (ms : List Int) (e : Int) : Prop := (e = 0 ∧ Lk L b a hs ms b) ∨ (e = 6 ∧ hs = [] ∧ ms = [] ∧ ¬ Gd L a b)
theorem guarded_ok (w : World) (lo hi : Nat) (L : List Hd) (v : Value) (a b : Int) (h : RdH w lo hi v L) (hn : L.length ≤ 39) (h0 : SpOk L a b) : Ca Tryz.prog 101 [v, .int .i64 a, .int .i64 b] w fun x w' => ∃ y : (Value × List Nat) × (Value × List Int) × Int, (x = .tuple #[y.1.1, y.2.1.1, .int .i64 y.2.2] ∧ GrdR L a b y.1.2 y.2.1.2 y.2.2) ∧ Sat w M0 [.ow y.1.1 3 1 y.1.2.length (ints (nI y.1.2)), .ow y.2.1.1 3 1 y.2.1.2.length (ints y.2.1.2)] w' := by
  have ha := h0.ra
  have hb := h0.rb
  refine q_of (Sat.nil w M0) Tryz.func101 rfl (by simp [Tryz.ntmps101]) ?_
  (refine q_seq (q_region ?_); (iterate 3 refine ql_pure tabOk rfl rfl ?_); refine q_nil (q_seq (q_seq (q_region ?_))); (iterate 3 refine ql_pure tabOk rfl rfl ?_))
  refine ql_callv (val := .int .i64 0) tabOk rfl rfl rfl rfl (fun w hs => ?_) ?_; exact by have := spanned_ca w lo hi L v a b (RdE.keep h hs.chg0) (by simp only [maxLen]; omega); rw [chkSp_zero.2 h0] at this; exact this
  (refine ql_pure tabOk rfl rfl (q_nil (q_seq (q_region (ql_pure tabOk rfl rfl (ql_neqF tabOk rfl rfl rfl (by omega) (q_nil (q_cond_false rfl (q_skip (q_seq (q_region ?_)))))))))); (iterate 3 refine ql_pure tabOk rfl rfl ?_))
  refine ql_call (β := (Value × List Nat) × (Value × List Int) × Int) tabOk [] _ M0 rfl rfl rfl rfl (Sp.refl _) (fun _ h => h.elim) (fun w' hs => links_ca w' lo hi v L (RdE.keep h hs.chg0) (fun x hx => by have := h0.g.all x hx; omega) hn a b ha (by omega)) ?_
  rintro ⟨⟨u, hl⟩, ⟨u2, ms⟩, e⟩ _ ⟨rfl, hlk⟩
  dsimp only [List.cons_append, List.nil_append] at hlk ⊢
  have hle := hlk.le
  by_cases he : e < b
  · (refine ql_pure tabOk rfl rfl ?_; (iterate 3 refine ql_ext tabOk rfl rfl rfl ?_); (iterate 3 refine ql_pure tabOk rfl rfl ?_); refine q_nil (q_seq (q_seq (q_region (ql_pure tabOk rfl rfl (ql_pure tabOk rfl rfl (ql_lssT tabOk rfl rfl rfl (by omega) (q_nil (q_cond_true rfl (q_seq (q_region ?_)))))))))); (iterate 3 refine ql_pure tabOk rfl rfl ?_); refine q_nil (q_ret ?_))
    refine q_fin tabOk rfl (by repeat constructor) fun w hs => ?_
    exact ⟨((.slice none 0 0, []), (.slice none 0 0, []), 6), ⟨rfl, .inr ⟨rfl, rfl, rfl, fun hg => by have := (hlk.full (by omega)).2 hg; omega⟩⟩, Sat.ownil (Sat.ownil (hs.sp (H' := []) (by repeat constructor)) 3 1) 3 1⟩
  · obtain rfl : e = b := by omega
    (refine ql_pure tabOk rfl rfl ?_; (iterate 3 refine ql_ext tabOk rfl rfl rfl ?_); (iterate 3 refine ql_pure tabOk rfl rfl ?_); refine q_nil (q_seq (q_seq (q_region (ql_pure tabOk rfl rfl (ql_pure tabOk rfl rfl (ql_lssF tabOk rfl rfl rfl (by omega) (q_nil (q_cond_false rfl (q_skip (q_seq (q_region ?_))))))))))); (iterate 5 refine ql_pure tabOk rfl rfl ?_); refine q_nil (q_ret ?_))
    refine q_fin tabOk rfl (by repeat constructor) fun w hs => ?_
    exact ⟨((u, hl), (u2, ms), 0), ⟨rfl, .inl ⟨rfl, hlk⟩⟩, hs.sp (by repeat constructor)⟩
end Go.Proofs.YtopdmadgkjdgcaaGreat

/- Walks of rifle: Chain, Marks, Gap, MarksShow. -/
namespace Go.Proofs.YtopdmadgkjdgcaaGreat
set_option maxRecDepth 4000
open Go Go.Eng
/-- What Chain answers. -/
def ChnR (L : List Hd) (a b : Int) (C : List Int) (e : Int) : Prop := (e = 0 ∧ ∃ hs ms, Lk L b a hs ms b ∧ C.Perm (nI hs) ∧ C.Pairwise (· ≤ ·)) ∨ (e = 6 ∧ C = [] ∧ ¬ Gd L a b)
theorem chn_ok (w : World) (lo hi : Nat) (L : List Hd) (v : Value) (a b : Int) (h : RdH w lo hi v L) (hn : L.length ≤ 39) (h0 : SpOk L a b) : Ca Tryz.prog 21 [v, .int .i64 a, .int .i64 b] w fun x w' => ∃ y : (Value × List Int) × Int, (x = .tuple #[y.1.1, .int .i64 y.2] ∧ ChnR L a b y.1.2 y.2) ∧ Sat w M0 [.ow y.1.1 3 1 y.1.2.length (ints y.1.2)] w' := by
  refine q_of (Sat.nil w M0) Tryz.func21 rfl (by simp [Tryz.ntmps21]) ?_
  (refine q_seq (q_region (ql_pure tabOk rfl rfl (ql_pure tabOk rfl rfl (q_nil (q_seq (q_region ?_)))))); (iterate 3 refine ql_pure tabOk rfl rfl ?_))
  refine ql_call (β := (Value × List Nat) × (Value × List Int) × Int) tabOk [] _ M0 rfl rfl rfl rfl (Sp.refl _) (fun _ h => h.elim) (fun w' hs => guarded_ok w' lo hi L v a b (RdE.keep h hs.chg0) hn h0) ?_
  rintro ⟨⟨u, hl⟩, ⟨u2, ms⟩, e⟩ _ ⟨rfl, hg⟩
  dsimp only [List.cons_append, List.nil_append] at hg ⊢
  have hl3 : hl.length ≤ 1000000 := by
    rcases hg with ⟨_, hk⟩ | ⟨_, rfl, _⟩
    · have := (hk.min (C := L) (fun _ h => h) ((hk.full (by have := h0.rb; omega)).1 rfl))
      omega
    · simp
  rcases hl with _ | ⟨i, hl⟩
  · refine ql_fact (fun w hs => hs.slice2 (v := u) (by repeat constructor)) ?_
    rintro ⟨ua, uc, rfl⟩
    (refine ql_pure tabOk rfl rfl ?_; (iterate 3 refine ql_ext tabOk rfl rfl rfl ?_); (iterate 3 refine ql_pure tabOk rfl rfl ?_); refine q_nil (q_seq (q_region (ql_pure tabOk rfl rfl ?_))))
    refine ql_callv (val := .tuple #[]) tabOk rfl rfl rfl rfl (fun w hs => ?_) ?_; exact sort0_ca w ua uc
    (refine q_nil (q_seq (q_region ?_)); (iterate 4 refine ql_pure tabOk rfl rfl ?_); refine q_nil (q_ret ?_))
    refine q_fin tabOk rfl (by repeat constructor) fun w hs => ?_
    refine ⟨((.slice ua 0 uc, []), e), ⟨rfl, ?_⟩, hs.sp (by repeat constructor)⟩
    rcases hg with ⟨h1, h2⟩ | ⟨h1, _, _, h2⟩
    · exact .inl ⟨h1, [], ms, h2, .nil, .nil⟩
    · exact .inr ⟨h1, rfl, h2⟩
  · generalize hh : i :: hl = hs0 at hg hl3 ⊢
    have hpos : 0 < hs0.length := by rw [← hh]; simp
    refine ql_fact (fun w hs => hs.ownSome (v := u) (by repeat constructor) hpos) ?_
    rintro ⟨g, c, rfl⟩
    (refine ql_pure tabOk rfl rfl ?_; (iterate 3 refine ql_ext tabOk rfl rfl rfl ?_); (iterate 3 refine ql_pure tabOk rfl rfl ?_); refine q_nil (q_seq (q_region (ql_pure tabOk rfl rfl ?_))))
    refine ql_call (β := List Int) (ψ := fun C v => v = .tuple #[] ∧ C.Perm (nI hs0) ∧ C.Pairwise (· ≤ ·)) (L' := fun C => [.ow (.slice (some ⟨g, 0, none⟩) hs0.length c) 3 1 hs0.length (ints C)]) tabOk [.ow (.slice (some ⟨g, 0, none⟩) hs0.length c) 3 1 hs0.length (ints (nI hs0))] _ (fun x => x = g) rfl rfl rfl rfl (Sp.cons (by repeat constructor) (Sp.refl _)) (fun x hx => ⟨_, .head _, by subst hx; rfl⟩) (fun w' hs => by
      have := sort_ca w' g c (nI hs0) (by rw [nI_len]; exact hl3) (by rw [nI_len]; exact hs.all _ (.head _))
      rw [nI_len] at this
      exact this) ?_
    rintro C _ ⟨rfl, hp, hso⟩
    have hCl : C.length = hs0.length := by rw [hp.length_eq, nI_len]
    dsimp only [List.cons_append, List.nil_append]
    (refine q_nil (q_seq (q_region ?_)); (iterate 4 refine ql_pure tabOk rfl rfl ?_); refine q_nil (q_ret ?_))
    refine q_fin tabOk rfl (by repeat constructor) fun w hs => ?_
    refine ⟨((.slice (some ⟨g, 0, none⟩) hs0.length c, C), e), ⟨rfl, ?_⟩, by dsimp only; rw [hCl]; exact hs.sp (by repeat constructor)⟩
    rcases hg with ⟨h1, h2⟩ | ⟨_, h2, _⟩
    · exact .inl ⟨h1, hs0, ms, h2, hp, hso⟩
    · rw [h2] at hpos
      simp at hpos
/-- What Gap answers. -/
def GapR (L : List Hd) (a b : Int) (g e : Int) : Prop := (e = 0 ∧ (a ≤ g ∧ g < b) ∧ Gd L a g ∧ ∀ x ∈ L, x.cov g = false) ∨ (e = 6 ∧ g = 0 ∧ Gd L a b)
/-- Marks, looked at one after the other. -/
def mkK (L : List Hd) (a b : Int) (M : List Int) (k : Nat) : Bool := (List.range k).all fun i => inB (M.getD i 0) a (b - 1) && (decide (i = 0) || (decide (M.getD (i - 1) 0 < M.getD i 0) && !(L.any fun h => h.cov (M.getD (i - 1) 0) && h.cov (M.getD i 0))))
theorem mkK_succ (L : List Hd) (a b : Int) (M : List Int) (k : Nat) : mkK L a b M (k + 1) = (mkK L a b M k && (inB (M.getD k 0) a (b - 1) && (decide (k = 0) || (decide (M.getD (k - 1) 0 < M.getD k 0) && !(L.any fun h => h.cov (M.getD (k - 1) 0) && h.cov (M.getD k 0)))))) := by
  unfold mkK
  rw [List.range_succ, List.all_append]
  simp
theorem mkK_false {L : List Hd} {a b : Int} {M : List Int} {k n : Nat} (h : mkK L a b M (k + 1) = false) (hk : k < n) : mkK L a b M n = false := by
  unfold mkK at *
  rw [List.all_eq_false] at *
  obtain ⟨x, h1, h2⟩ := h
  exact ⟨x, List.mem_range.2 (by have := List.mem_range.1 h1; omega), h2⟩
def pCov2 (x y : Int) : Value → Bool
  | .agg cs => match cs.toList with
    | [.int _ a, .int _ b, .int _ c] => (Hd.mk a b c).cov x && (Hd.mk a b c).cov y
    | _ => false
  | _ => false
theorem pCov2_any (x y : Int) (l : List Hd) : (l.map hdV).any (pCov2 x y) = l.any fun h => h.cov x && h.cov y := by
  rw [List.any_map]
  rfl
theorem marks1_p (w : World) (l : List Hd) (x y : Int) (b1 b2 t1 t2 : Nat) (h1 : Blk w b1 [.int .i64 x] t1) (h2 : Blk w b2 [.int .i64 y] t2) : PredAt Tryz.prog tab w (.func (.func 144) #[] #[.pointer (some ⟨b1, 0, none⟩), .pointer (some ⟨b2, 0, none⟩)]) (l.map hdV) (pCov2 x y) := by
  refine ⟨_, _, _, rfl, rfl, fun w' hw' z hz => ?_⟩
  have h1 := h1.keep hw'
  have h2 := h2.keep hw'
  obtain ⟨⟨p, q, r⟩, hy, rfl⟩ := List.mem_map.1 hz
  have hagg : hdV ⟨p, q, r⟩ = .agg [.int .i64 p, .int .i64 q, .int .i64 r].toArray := rfl
  refine q_of (Sat.nil w' M0) Tryz.func144 rfl (by simp [Tryz.ntmps144]) ?_
  (refine q_seq (q_region ?_))
  refine ql_box rfl rfl (fun b3 => ?_)
  (refine ql_pure tabOk rfl rfl (q_nil (q_seq (q_region ?_))); refine ql_loadABa tabOk rfl rfl rfl ?_; refine ql_loadP tabOk rfl rfl rfl (by assumption) (by rfl) ?_)
  refine ql_callv (val := .bool ((Hd.mk p q r).cov x)) tabOk rfl rfl rfl rfl (fun w hs => ?_) ?_; exact covers_ca ⟨p, q, r⟩ x w
  cases hx : (Hd.mk p q r).cov x with
  | true =>
    (refine ql_pure tabOk rfl rfl (ql_gyes rfl ?_); refine ql_loadABa tabOk rfl rfl rfl ?_; refine ql_gyes rfl ?_; refine ql_loadP tabOk rfl rfl rfl (by assumption) (by rfl) ?_; refine ql_gyes rfl ?_)
    refine ql_callv (val := .bool ((Hd.mk p q r).cov y)) tabOk rfl rfl rfl rfl (fun w hs => ?_) ?_; exact covers_ca ⟨p, q, r⟩ y w
    (refine ql_pure tabOk rfl rfl (ql_pure tabOk rfl rfl (q_nil (q_ret ?_))))
    refine q_fin tabOk rfl (by repeat constructor) fun w hs => ?_
    exact ⟨by simp [Eng.retV, pCov2, hx], hs.chg0⟩
  | false =>
    (refine ql_pure tabOk rfl rfl ?_; (iterate 3 refine ql_gno rfl rfl rfl ?_); refine ql_pure tabOk rfl rfl (ql_pure tabOk rfl rfl (q_nil (q_ret ?_))))
    refine q_fin tabOk rfl (by repeat constructor) fun w hs => ?_
    exact ⟨by simp [Eng.retV, pCov2, hx], hs.chg0⟩
set_option maxHeartbeats 1000000 in
theorem mks_ok (w : World) (lo hi lo2 hi2 : Nat) (L : List Hd) (v mv : Value) (M : List Int) (a b : Int) (h : RdH w lo hi v L) (hm : RdI w lo2 hi2 mv M) (hM : M.length ≤ 1000000) (h0 : SpOk L a b) : Ca Tryz.prog 76 [v, .int .i64 a, .int .i64 b, mv] w fun x w' => x = .tuple #[.bool (mkK L a b M M.length), .int .i64 0] ∧ Chg [] w w' := by
  have ha := h0.ra
  have hb := h0.rb
  have hn := h0.g.n30
  obtain ⟨ma, mc, rfl, hma⟩ := RdI.outI hm
  refine q_of (Sat.nil w M0) Tryz.func76 rfl (by simp [Tryz.ntmps76]) ?_
  (refine q_seq (q_region (ql_pure tabOk rfl rfl (ql_pure tabOk rfl rfl (q_nil (q_seq (q_seq (q_region ?_))))))); (iterate 3 refine ql_pure tabOk rfl rfl ?_))
  refine ql_callv (val := .int .i64 0) tabOk rfl rfl rfl rfl (fun w hs => ?_) ?_; exact by have := spanned_ca w lo hi L v a b (RdE.keep h hs.chg0) (by simp only [maxLen]; omega); rw [chkSp_zero.2 h0] at this; exact this
  (refine ql_pure tabOk rfl rfl (q_nil (q_seq (q_region (ql_pure tabOk rfl rfl (ql_neqF tabOk rfl rfl rfl (by omega) (q_nil (q_cond_false rfl (q_skip (q_seq (q_seq (q_region ?_))))))))))); (iterate 3 refine ql_pure tabOk rfl rfl ?_); refine q_nil (q_block ?_))
  refine q_loop (σ := Nat) (fun k => k ≤ M.length ∧ mkK L a b M k = true) (fun k => M.length - k) (fun k => [(0, v), (1, .int .i64 a), (2, .int .i64 b), (3, .slice ma M.length mc), (21, .slice ma M.length mc), (22, .int .i64 M.length), (23, .int .i64 k)]) (fun _ => []) 0 ⟨by omega, rfl⟩ ⟨rfl, rfl, rfl, rfl, rfl, rfl, rfl, trivial⟩ (by repeat constructor) ?_
  rintro k ⟨hk, hmk⟩ K hK
  (refine q_seq (q_region (ql_pure tabOk rfl rfl (q_nil (q_seq ?_)))))
  refine q_if rfl (fun hc => ?_) (fun hc => ?_)
  · have hk2 : k < M.length := by omega
    clear hc
    have hsu := mkK_succ L a b M k
    rw [hmk, Bool.true_and] at hsu
    have hget : ∀ i (hi : i < M.length), M.getD i 0 = M[i] := fun i hi => by rw [List.getD_eq_getElem?_getD, List.getElem?_eq_getElem hi, Option.getD_some]
    rw [hget k hk2] at hsu
    obtain ⟨gm, om, rfl⟩ := hma (by omega)
    (refine q_skip (q_seq (q_block (q_seq (q_region (ql_pure tabOk rfl rfl ?_))))))
    refine ql_index tabOk rfl rfl rfl rfl rfl (by omega) (by omega) ?_
    refine ql_load1 (v := .int .i64 M[k]) tabOk rfl rfl rfl (fun w hs => RdI.at (RdE.keep hm hs.chg0) k hk2) ?_
    refine ql_alloc zero3 rfl (fun b12 => ?_)
    (refine ql_pure tabOk rfl rfl ?_; refine ql_set tabOk rfl rfl rfl rfl (by repeat constructor) ?_; refine q_nil (q_seq (q_seq (q_region ?_))); refine ql_loadBa tabOk rfl rfl rfl ?_; refine ql_pure tabOk rfl rfl (ql_pure tabOk rfl rfl (ql_ar tabOk rfl rfl rfl rfl (by omega) (by omega) ?_)))
    refine ql_callv (val := .bool (inB M[k] a (b - 1))) tabOk rfl rfl rfl rfl (fun w hs => ?_) ?_; exact rfin_ca M[k] a (b - 1) w
    cases hin : inB M[k] a (b - 1) with
    | false =>
      rw [hin, Bool.false_and] at hsu
      rw [mkK_false hsu hk2]
      (refine ql_pure tabOk rfl rfl (q_nil (q_cond_true rfl (q_seq (q_region (ql_pure tabOk rfl rfl (ql_pure tabOk rfl rfl (q_nil (q_ret ?_)))))))))
      refine q_fin tabOk rfl (by repeat constructor) fun w hs => ?_
      exact ⟨rfl, hs.chg0⟩
    | true =>
      rw [hin, Bool.true_and] at hsu
      by_cases hk0 : k = 0
      · subst hk0
        (refine ql_pure tabOk rfl rfl (q_nil (q_cond_false rfl (q_skip (q_seq (q_seq (q_region (ql_pure tabOk rfl rfl (ql_eqlT tabOk rfl rfl rfl (by omega) (q_nil (q_cond_true rfl (q_exit _ rfl ?_))))))))))); refine q_region (ql_ar tabOk rfl rfl rfl rfl (by omega) (by omega) (ql_pure tabOk rfl rfl (q_nil ?_))))
        exact hK (0 + 1) _ _ ⟨by omega, by rw [hsu]; rfl⟩ (by omega) ⟨rfl, rfl, rfl, rfl, rfl, rfl, rfl, trivial⟩ (by repeat constructor)
      · rw [decide_eq_false hk0, Bool.false_or] at hsu
        obtain ⟨j, rfl⟩ : ∃ j, k = j + 1 := ⟨k - 1, by omega⟩
        have hj : j < M.length := by omega
        rw [Nat.add_sub_cancel, hget j hj] at hsu
        (refine ql_pure tabOk rfl rfl (q_nil (q_cond_false rfl (q_skip (q_seq (q_seq (q_region (ql_pure tabOk rfl rfl (ql_eqlF tabOk rfl rfl rfl (by omega) (q_nil (q_cond_false rfl (q_skip ?_))))))))))); refine q_seq (q_region (ql_pure tabOk rfl rfl (ql_pure tabOk rfl rfl (ql_ar tabOk rfl rfl rfl rfl (by omega) (by omega) ?_)))))
        refine ql_index tabOk rfl rfl rfl rfl rfl (by omega) (by omega) ?_
        refine ql_load1 (v := .int .i64 M[j]) tabOk rfl rfl rfl (fun w hs => by
          have := RdI.at (RdE.keep hm hs.chg0) j hj
          rw [show (((j + 1 : Nat) : Int) - 1).toNat = j from by omega]
          exact this) ?_
        refine ql_alloc zero3 rfl (fun b13 => ?_)
        by_cases hlt : M[j] < M[j + 1]
        · rw [decide_eq_true hlt, Bool.true_and] at hsu
          (refine ql_set tabOk rfl rfl rfl rfl (by repeat constructor) ?_; refine q_nil (q_seq (q_region ?_)); (iterate 2 refine ql_loadBa tabOk rfl rfl rfl ?_); refine ql_leqF tabOk rfl rfl rfl (by omega) (ql_pure tabOk rfl rfl (ql_gyes rfl (ql_pure tabOk rfl rfl (ql_gyes rfl (ql_pure tabOk rfl rfl (ql_gyes rfl ?_)))))))
          refine ql_callv (val := .bool (L.any fun h => h.cov M[j] && h.cov M[j + 1])) tabOk rfl rfl rfl rfl (fun w hs => ?_) ?_; exact by have := conF_hold w lo hi v _ (L.map hdV) (pCov2 M[j] M[j + 1]) (RdE.keep h hs.chg0) (hdV_agg L) (by rw [List.length_map]; omega) (marks1_p w L M[j] M[j + 1] b13 b12 _ _ (hs.blk (b := b13) (by repeat constructor)) (hs.blk (b := b12) (by repeat constructor))); rw [pCov2_any] at this; exact this
          cases hany : (L.any fun h => h.cov M[j] && h.cov M[j + 1]) with
          | true =>
            rw [hany] at hsu
            rw [mkK_false hsu hk2]
            (refine ql_pure tabOk rfl rfl (q_nil (q_cond_true rfl (q_seq (q_region (ql_pure tabOk rfl rfl (ql_pure tabOk rfl rfl (q_nil (q_ret ?_)))))))))
            refine q_fin tabOk rfl (by repeat constructor) fun w hs => ?_
            exact ⟨rfl, hs.chg0⟩
          | false =>
            rw [hany] at hsu
            (refine ql_pure tabOk rfl rfl (q_nil (q_cond_false rfl (q_skip (q_blk (q_region (ql_ar tabOk rfl rfl rfl rfl (by omega) (by omega) (ql_pure tabOk rfl rfl (q_nil ?_)))))))))
            exact hK (j + 1 + 1) _ _ ⟨by omega, hsu⟩ (by omega) ⟨rfl, rfl, rfl, rfl, rfl, rfl, rfl, trivial⟩ (by repeat constructor)
        · rw [decide_eq_false hlt, Bool.false_and] at hsu
          rw [mkK_false hsu hk2]
          (refine ql_set tabOk rfl rfl rfl rfl (by repeat constructor) ?_; refine q_nil (q_seq (q_region ?_)); (iterate 2 refine ql_loadBa tabOk rfl rfl rfl ?_); refine ql_leqT tabOk rfl rfl rfl (by omega) (ql_pure tabOk rfl rfl ?_); (iterate 3 refine ql_gno rfl rfl rfl ?_); refine ql_pure tabOk rfl rfl (q_nil (q_cond_true rfl (q_seq (q_region (ql_pure tabOk rfl rfl (ql_pure tabOk rfl rfl (q_nil (q_ret ?_)))))))))
          refine q_fin tabOk rfl (by repeat constructor) fun w hs => ?_
          exact ⟨rfl, hs.chg0⟩
  · obtain rfl : k = M.length := by omega
    rw [hmk]
    (refine q_exit _ rfl (q_seq (q_region (ql_pure tabOk rfl rfl (ql_pure tabOk rfl rfl (q_nil (q_ret ?_)))))))
    refine q_fin tabOk rfl (by repeat constructor) fun w hs => ?_
    exact ⟨rfl, hs.chg0⟩
end Go.Proofs.YtopdmadgkjdgcaaGreat

/- Walks of rifle: which aims are right. -/
namespace Go.Proofs.YtopdmadgkjdgcaaGreat
set_option maxRecDepth 4000
open Go Go.Eng
def lenAB (row : List Int) : Bool := inB row.length 1 21 && true
def rngAB (row : List Int) : Bool := row.all fun n => inB n 0 1000
def ordAB (l : List Int) (u : Nat) : Bool := decide (l.getD u 0 ≤ l.getD (u - 1) 0) && (decide (u ≤ 1) || decide (l.getD (u - 1) 0 - l.getD u 0 ≤ l.getD (u - 2) 0 - l.getD (u - 1) 0))
def ordAR (l : List Int) (k : Nat) : Bool := (List.range k).all fun u => decide (u = 0) || ordAB l u
def ordAA (A : List (List Int)) (k : Nat) : Bool := (List.range k).all fun i => ordAR (A.getD i []) (A.getD i []).length
/-- The error of an aim. -/
def chkA (A : List (List Int)) : Int := if (inB A.length 1 8 && A.all lenAB) = false then 2 else if A.all rngAB = false then 3 else if ordAA A A.length = false then 4 else 0
theorem getA {A : List (List Int)} {i : Nat} (hi : i < A.length) : A.getD i [] = A[i] := by rw [List.getD_eq_getElem?_getD, List.getElem?_eq_getElem hi, Option.getD_some]
theorem getI {l : List Int} {i : Nat} (hi : i < l.length) : l.getD i 0 = l[i] := by rw [List.getD_eq_getElem?_getD, List.getElem?_eq_getElem hi, Option.getD_some]
theorem ordAR_succ (l : List Int) (k : Nat) : ordAR l (k + 1) = (ordAR l k && (decide (k = 0) || ordAB l k)) := by
  unfold ordAR
  rw [List.range_succ, List.all_append]
  simp
theorem ordAA_succ (A : List (List Int)) (k : Nat) : ordAA A (k + 1) = (ordAA A k && ordAR (A.getD k []) (A.getD k []).length) := by
  unfold ordAA
  rw [List.range_succ, List.all_append]
  simp
theorem all_false {p : Nat → Bool} {k n : Nat} (h : p k = false) (hk : k < n) : (List.range n).all p = false := List.all_eq_false.2 ⟨k, List.mem_range.2 hk, by rw [h]; simp⟩
theorem chkA_zero {A : List (List Int)} : chkA A = 0 ↔ AimOk A := by
  unfold chkA
  constructor
  · intro h
    split at h
    · omega
    rename_i h1
    split at h
    · omega
    rename_i h2
    split at h
    · omega
    rename_i h3
    simp only [Bool.not_eq_false, Bool.and_eq_true] at h1 h2 h3
    have n1 := inB_iff.1 h1.1
    have rw_ : ∀ i, i < A.length → 1 ≤ amW A i ∧ amW A i ≤ 21 := fun i hi => by
      have := List.all_eq_true.1 h1.2 A[i] (List.getElem_mem hi)
      simp only [lenAB, Bool.and_true] at this
      have := inB_iff.1 this
      unfold amW
      rw [getA hi]
      omega
    have st : ∀ i u, i < A.length → 0 < u → u < amW A i → ordAB (A.getD i []) u = true := fun i u hi hu hw => by
      have h4 := List.all_eq_true.1 h3 i (List.mem_range.2 hi)
      have h5 := List.all_eq_true.1 h4 u (List.mem_range.2 hw)
      simp only [Bool.or_eq_true, decide_eq_true_iff] at h5
      rcases h5 with h5 | h5
      · omega
      · exact h5
    refine ⟨by omega, by omega, rw_, fun i w hi hw => ?_, fun i w hi hw => ?_, fun i w hi hw => ?_⟩
    · unfold amW at hw
      have h4 := List.all_eq_true.1 h2 A[i] (List.getElem_mem hi)
      rw [getA hi] at hw
      have h5 := List.all_eq_true.1 h4 A[i][w] (List.getElem_mem hw)
      have := inB_iff.1 h5
      unfold amA
      rw [getA hi, getI hw]
      exact this
    · have := st i (w + 1) hi (by omega) hw
      simp only [ordAB, Nat.add_sub_cancel, Bool.and_eq_true, decide_eq_true_iff] at this
      exact this.1
    · have := st i (w + 2) hi (by omega) hw
      simp only [ordAB, Nat.add_sub_cancel, Bool.and_eq_true, Bool.or_eq_true, decide_eq_true_iff] at this
      rw [show w + 2 - 1 = w + 1 from rfl] at this
      unfold amA
      rcases this.2 with h | h
      · omega
      · exact h
  · intro h
    have h1 := h.n1
    have h2 := h.n8
    rw [if_neg, if_neg, if_neg]
    · simp only [Bool.not_eq_false]
      refine List.all_eq_true.2 fun i hi => List.all_eq_true.2 fun u hu => ?_
      have hi := List.mem_range.1 hi
      have hu := List.mem_range.1 hu
      simp only [Bool.or_eq_true, decide_eq_true_iff]
      by_cases e : u = 0
      · exact .inl e
      · obtain ⟨q, rfl⟩ : ∃ q, u = q + 1 := ⟨u - 1, by omega⟩
        refine .inr ?_
        have g1 := h.dec i q hi hu
        unfold ordAB
        simp only [Nat.add_sub_cancel, Bool.and_eq_true, Bool.or_eq_true, decide_eq_true_iff]
        refine ⟨g1, ?_⟩
        by_cases e2 : q = 0
        · exact .inl (by omega)
        · obtain ⟨r, rfl⟩ : ∃ r, q = r + 1 := ⟨q - 1, by omega⟩
          exact .inr (h.cvx i r hi hu)
    · simp only [Bool.not_eq_false]
      refine List.all_eq_true.2 fun l hl => List.all_eq_true.2 fun x hx => ?_
      obtain ⟨i, hi, rfl⟩ := List.mem_iff_getElem.1 hl
      obtain ⟨w, hw, rfl⟩ := List.mem_iff_getElem.1 hx
      have := h.bd i w hi (by unfold amW; rw [getA hi]; exact hw)
      unfold amA at this
      rw [getA hi, getI hw] at this
      exact inB_iff.2 this
    · simp only [Bool.not_eq_false, Bool.and_eq_true]
      refine ⟨inB_iff.2 (by omega), List.all_eq_true.2 fun l hl => ?_⟩
      obtain ⟨i, hi, rfl⟩ := List.mem_iff_getElem.1 hl
      have := h.row i hi
      unfold amW at this
      rw [getA hi] at this
      unfold lenAB
      rw [Bool.and_true]
      exact inB_iff.2 (by omega)
theorem aim1_p (w : World) (lo hi : Nat) (l : List (List Int)) (vs : List Value) (h2 : vs.length = l.length) (h3 : ∀ i (h : i < vs.length) (h' : i < l.length), RdI w lo hi vs[i] l[i]) :
    PredAt Tryz.prog tab w (.func (.func 147) #[] #[]) vs (fun x => lenAB (rowAt w x)) := by
  refine ⟨_, _, _, rfl, rfl, fun w' hw' x hx => ?_⟩
  obtain ⟨hr, hm⟩ := rdII_mem h2 h3 hx
  dsimp only
  generalize hg : rowAt w x = row at hr hm ⊢
  obtain ⟨ra, rc, rfl, hra⟩ := RdI.outI hr
  refine q_of (Sat.nil w' M0) Tryz.func147 rfl (by simp [Tryz.ntmps147]) ?_
  (refine q_seq (q_region (ql_pure tabOk rfl rfl (q_nil (q_seq (q_region (ql_pure tabOk rfl rfl (ql_pure tabOk rfl rfl ?_))))))))
  refine ql_callv (val := .bool (inB row.length 1 21)) tabOk rfl rfl rfl rfl (fun w hs => ?_) ?_; exact rfin_ca row.length 1 21 w
  (refine ql_pure tabOk rfl rfl (q_nil (q_ret ?_)))
  refine q_fin tabOk rfl (by repeat constructor) fun w hs => ?_
  exact ⟨by simp [Eng.retV, lenAB], hs.chg0⟩
theorem aim3_p (w : World) (c : List Int) : PredAt Tryz.prog tab w (.func (.func 149) #[] #[]) (ints c) (fun x => match x with | .int _ i => inB i 0 1000 | _ => false) := by
  refine ⟨_, _, _, rfl, rfl, fun w' hw' x hx => ?_⟩
  obtain ⟨i, hi, rfl⟩ := List.mem_map.1 hx
  refine q_of (Sat.nil w' M0) Tryz.func149 rfl (by simp [Tryz.ntmps149]) ?_
  (refine q_seq (q_region (ql_pure tabOk rfl rfl (q_nil (q_seq (q_region (ql_pure tabOk rfl rfl ?_)))))))
  refine ql_callv (val := .bool (inB i 0 1000)) tabOk rfl rfl rfl rfl (fun w hs => ?_) ?_; exact rfin_ca i 0 1000 w
  (refine ql_pure tabOk rfl rfl (q_nil (q_ret ?_)))
  refine q_fin tabOk rfl (by repeat constructor) fun w hs => ?_
  exact ⟨rfl, hs.chg0⟩
theorem aim2_p (w : World) (lo hi : Nat) (l : List (List Int)) (vs : List Value) (hl : ∀ row ∈ l, row.length ≤ 21) (h2 : vs.length = l.length) (h3 : ∀ i (h : i < vs.length) (h' : i < l.length), RdI w lo hi vs[i] l[i]) :
    PredAt Tryz.prog tab w (.func (.func 148) #[] #[]) vs (fun x => rngAB (rowAt w x)) := by
  refine ⟨_, _, _, rfl, rfl, fun w' hw' x hx => ?_⟩
  obtain ⟨hr, hm⟩ := rdII_mem h2 h3 hx
  dsimp only
  generalize hg : rowAt w x = row at hr hm ⊢
  have hr20 := hl row hm
  obtain ⟨ra, rc, rfl, hra⟩ := RdI.outI hr
  refine q_of (Sat.nil w' M0) Tryz.func148 rfl (by simp [Tryz.ntmps148]) ?_
  (refine q_seq (q_region (ql_pure tabOk rfl rfl (q_nil (q_seq (q_region (ql_pure tabOk rfl rfl ?_)))))))
  refine ql_callv (val := .bool (rngAB row)) tabOk rfl rfl rfl rfl (fun w hs => ?_) ?_; exact by have := all_rint w lo hi _ _ (ints row) _ (RdE.keep hr (hw'.trans hs.chg0)) (by intro i hi; simp [ints, oneV]) (by simp [ints]; omega) (aim3_p w row); unfold ints at this; rw [List.all_map] at this; exact this
  (refine ql_pure tabOk rfl rfl (q_nil (q_ret ?_)))
  refine q_fin tabOk rfl (by repeat constructor) fun w hs => ?_
  exact ⟨rfl, hs.chg0⟩
set_option maxHeartbeats 2000000 in
theorem checkA_ca (w : World) (lo hi : Nat) (v : Value) (A : List (List Int)) (h : RdII w lo hi v A) (hlen : A.length ≤ maxLen) : Ca Tryz.prog 82 [v] w fun x w' => x = .int .i64 (chkA A) ∧ Chg [] w w' := by
  obtain ⟨a, c, rfl, ha⟩ := RdII.outI h
  have hII := h
  obtain ⟨vs, hv1, hv2, hv3⟩ := h
  simp only [maxLen] at hlen
  have hone : ∀ i (hi : i < vs.length), oneV vs[i] = true := fun i hi => by
    obtain ⟨a, c, e, _⟩ := RdI.outI (hv3 i hi (by omega))
    rw [e]
    rfl
  refine q_of (Sat.nil w M0) Tryz.func82 rfl (by simp [Tryz.ntmps82]) ?_
  (refine q_seq (q_region (ql_pure tabOk rfl rfl (q_nil (q_seq (q_block (q_seq (q_region (ql_pure tabOk rfl rfl (ql_pure tabOk rfl rfl ?_))))))))))
  refine ql_callv (val := .bool (inB A.length 1 8)) tabOk rfl rfl rfl rfl (fun w hs => ?_) ?_; exact rfin_ca A.length 1 8 w
  cases h1 : inB A.length 1 8 with
  | false =>
    (refine ql_pure tabOk rfl rfl (ql_pure tabOk rfl rfl ?_); (iterate 3 refine ql_gno rfl rfl rfl ?_); refine ql_pure tabOk rfl rfl (ql_pure tabOk rfl rfl (q_nil (q_cond_true rfl (q_seq (q_region (ql_pure tabOk rfl rfl (q_nil (q_ret ?_)))))))))
    refine q_fin tabOk rfl (by repeat constructor) fun w hs => ?_
    exact ⟨by simp [Eng.retV, chkA, h1], hs.chg0⟩
  | true =>
    have h1' := inB_iff.1 h1
    (refine ql_pure tabOk rfl rfl (ql_pure tabOk rfl rfl (ql_gyes rfl (ql_pure tabOk rfl rfl (ql_gyes rfl ?_)))))
    refine ql_callv (val := .bool (A.all lenAB)) tabOk rfl rfl rfl rfl (fun w hs => ?_) ?_; exact by have := all_rints w lo hi _ _ vs _ (hv1.keep hs.chg0) hone (by omega) (aim1_p w lo hi A vs hv2 (fun i hi hi' => (hv3 i hi hi').keep hs.chg0)); rw [rdII_all hv2 (fun i hi hi' => (hv3 i hi hi').keep hs.chg0)] at this; exact this
    cases h4 : A.all lenAB with
    | false =>
      (refine ql_gyes rfl ?_; (iterate 3 refine ql_pure tabOk rfl rfl ?_); refine q_nil (q_cond_true rfl (q_seq (q_region (ql_pure tabOk rfl rfl (q_nil (q_ret ?_)))))))
      refine q_fin tabOk rfl (by repeat constructor) fun w hs => ?_
      exact ⟨by simp only [chkA]; rw [if_pos (by rw [h1]; exact h4)]; rfl, hs.chg0⟩
    | true =>
      have hl20 : ∀ row ∈ A, row.length ≤ 21 := fun row hm => by
        have := List.all_eq_true.1 h4 row hm
        simp only [lenAB, Bool.and_true] at this
        have := inB_iff.1 this
        omega
      have e0 : chkA A = if A.all rngAB = false then 3 else if ordAA A A.length = false then 4 else 0 := by
        unfold chkA
        rw [if_neg (by rw [h1, h4]; simp)]
      rw [e0]
      (refine ql_gyes rfl ?_; (iterate 3 refine ql_pure tabOk rfl rfl ?_); refine q_nil (q_cond_false rfl (q_seq (q_region (ql_pure tabOk rfl rfl ?_)))))
      refine ql_callv (val := .bool (A.all rngAB)) tabOk rfl rfl rfl rfl (fun w hs => ?_) ?_; exact by have := all_rints w lo hi _ _ vs _ (hv1.keep hs.chg0) hone (by omega) (aim2_p w lo hi A vs hl20 hv2 (fun i hi hi' => (hv3 i hi hi').keep hs.chg0)); rw [rdII_all hv2 (fun i hi hi' => (hv3 i hi hi').keep hs.chg0)] at this; exact this
      cases h5 : A.all rngAB with
      | false =>
        (refine ql_pure tabOk rfl rfl (ql_pure tabOk rfl rfl (q_nil (q_cond_true rfl (q_seq (q_region (ql_pure tabOk rfl rfl (q_nil (q_ret ?_)))))))))
        refine q_fin tabOk rfl (by repeat constructor) fun w hs => ?_
        exact ⟨by rw [if_pos rfl]; rfl, hs.chg0⟩
      | true =>
        rw [if_neg (by simp)]
        (refine ql_pure tabOk rfl rfl (ql_pure tabOk rfl rfl (q_nil (q_cond_false rfl (q_skip (q_blk (q_seq (q_seq (q_region ?_)))))))); (iterate 3 refine ql_pure tabOk rfl rfl ?_); refine q_nil (q_block ?_))
        refine q_loop (σ := Nat) (fun k => k ≤ A.length ∧ ordAA A k = true) (fun k => A.length - k) (fun k => [(20, .slice a A.length c), (21, .int .i64 A.length), (22, .int .i64 k)]) (fun _ => []) 0 ⟨by omega, rfl⟩ ⟨rfl, rfl, rfl, trivial⟩ (by repeat constructor) ?_
        rintro k ⟨hk, hok⟩ K hK
        (refine q_seq (q_region (ql_pure tabOk rfl rfl (q_nil (q_seq ?_)))))
        refine q_if rfl (fun hc => ?_) (fun hc => ?_)
        · have hk2 : k < A.length := by omega
          clear hc
          have hsu := ordAA_succ A k
          rw [hok, Bool.true_and, getA hk2] at hsu
          obtain ⟨gb, go, rfl⟩ := ha (by omega)
          obtain ⟨ra, rc, hr, hrc⟩ := RdII.row hII k hk2
          have hrl := hl20 _ (List.getElem_mem hk2)
          have hbd : ∀ i (hi : i < A[k].length), 0 ≤ A[k][i] ∧ A[k][i] ≤ 1000 := fun i hi => inB_iff.1 (List.all_eq_true.1 (List.all_eq_true.1 h5 _ (List.getElem_mem hk2)) _ (List.getElem_mem hi))
          generalize A[k] = row at hsu hr hrc hrl hbd
          obtain ⟨ra', rc', er, hra⟩ := RdI.outI hr
          cases er
          (refine q_skip (q_seq (q_block (q_seq (q_region ?_)))))
          refine ql_index tabOk rfl rfl rfl rfl rfl (by omega) (by omega) ?_
          refine ql_load1 tabOk rfl rfl rfl (fun w hs => hrc _ hs.chg0) ?_
          (refine ql_pure tabOk rfl rfl (q_nil (q_seq (q_region (ql_pure tabOk rfl rfl (q_nil (q_block ?_)))))))
          refine q_loop (σ := Nat) (fun u => 1 ≤ u ∧ (u ≤ row.length ∨ u = 1) ∧ ordAR row u = true) (fun u => row.length - u) (fun u => [(4, .slice ra row.length rc), (5, .int .i64 u), (20, .slice (some ⟨gb, go, none⟩) A.length c), (21, .int .i64 A.length), (22, .int .i64 k)]) (fun _ => []) 1 ⟨Nat.le_refl _, .inr rfl, rfl⟩ ⟨rfl, rfl, rfl, rfl, rfl, trivial⟩ (by repeat constructor) ?_
          rintro u ⟨hu1, hu2, hou⟩ K2 hK2
          (refine q_seq (q_seq (q_region ?_)); (iterate 4 refine ql_pure tabOk rfl rfl ?_); refine q_nil ?_)
          refine q_if rfl (fun hc => ?_) (fun hc => ?_)
          · have hu3 : u < row.length := by omega
            clear hc
            have hsr := ordAR_succ row u
            rw [hou, Bool.true_and, decide_eq_false (by omega), Bool.false_or] at hsr
            obtain ⟨rb, ro, rfl⟩ := hra (by omega)
            obtain ⟨q, rfl⟩ : ∃ q, u = q + 1 := ⟨u - 1, by omega⟩
            have hq : q < row.length := by omega
            have hrow : ∀ i (hi : i < row.length) (w' : World), Chg [] w w' → w'.cell? ⟨rb, ro + i * 1, none⟩ = some (.int .i64 row[i]) := fun i hi w' hs => RdI.at (RdE.keep hr hs) i hi
            have b1 := hbd (q + 1) hu3
            have b2 := hbd q hq
            have hfalse : ordAB row (q + 1) = false → ordAA A A.length = false := fun e => by
              have h6 : ordAA A (k + 1) = false := by rw [hsu]; exact all_false (k := q + 1) (by rw [e]; simp) hu3
              unfold ordAA at h6 ⊢
              rw [List.all_eq_false] at h6 ⊢
              obtain ⟨z, z1, z2⟩ := h6
              exact ⟨z, List.mem_range.2 (by have := List.mem_range.1 z1; omega), z2⟩
            by_cases c1 : row[q + 1] ≤ row[q]
            · by_cases c2 : q = 0
              · have e1 : ordAB row (q + 1) = true := by
                  unfold ordAB
                  rw [getI hu3, Nat.add_sub_cancel, getI hq, decide_eq_true c1, decide_eq_true (show q + 1 ≤ 1 by omega)]
                  rfl
                (refine q_skip (q_seq (q_block (q_seq ?_))))
                refine q_draw _ [] (Sp.refl _) (by kernel_rfl) (by kernel_rfl) ?_
                (refine qf_pure tabOk rfl rfl rfl (qf_pure tabOk rfl rfl rfl ?_))
                refine qf_index tabOk rfl rfl rfl rfl rfl (by omega) (by omega) ?_
                skip
                refine qf_load1 (v := .int .i64 row[q + 1]) tabOk rfl rfl rfl (fun w hs => hrow (q + 1) hu3 _ hs.chg0) ?_
                (refine qf_pure tabOk rfl rfl rfl (qf_pure tabOk rfl rfl rfl (qf_ar tabOk rfl rfl rfl rfl (by omega) (by omega) ?_)))
                refine qf_index tabOk rfl rfl rfl rfl rfl (by omega) (by omega) ?_
                skip
                refine qf_load1 (v := .int .i64 row[q]) tabOk rfl rfl rfl (fun w hs => by rw [show (((q + 1 : Nat) : Int) - 1).toNat = q from by omega]; exact hrow q hq _ hs.chg0) ?_
                (refine qf_gtrF tabOk rfl rfl rfl (by omega) (qf_pure tabOk rfl rfl rfl (qf_gyes rfl (qf_pure tabOk rfl rfl rfl (qf_gyes rfl (qf_gtrF tabOk rfl rfl rfl (by omega) (qf_gyes rfl (qf_pure tabOk rfl rfl rfl ?_))))))); (iterate 22 refine qf_gno rfl rfl rfl ?_); refine qf_gyes rfl (qf_pure tabOk rfl rfl rfl (qf_pure tabOk rfl rfl rfl (qf_nil (q_cond_false rfl (q_skip (q_blk (q_region (ql_pure tabOk rfl rfl (ql_ar tabOk rfl rfl rfl rfl (by omega) (by omega) (ql_pure tabOk rfl rfl (q_nil ?_))))))))))))
                exact hK2 (q + 1 + 1) _ _ ⟨by omega, by omega, by rw [hsr, e1]⟩ (by omega) ⟨rfl, rfl, rfl, rfl, rfl, trivial⟩ (by repeat constructor)
              · obtain ⟨r, rfl⟩ : ∃ r, q = r + 1 := ⟨q - 1, by omega⟩
                have hr0 : r < row.length := by omega
                have b3 := hbd r hr0
                have e1 : ordAB row (r + 1 + 1) = decide (row[r + 1] - row[r + 1 + 1] ≤ row[r] - row[r + 1]) := by
                  unfold ordAB
                  rw [getI hu3, Nat.add_sub_cancel, getI hq, decide_eq_true c1, show r + 1 + 1 - 2 = r from rfl, getI hr0, decide_eq_false (by omega)]
                  rfl
                by_cases c3 : row[r + 1] - row[r + 1 + 1] ≤ row[r] - row[r + 1]
                · rw [decide_eq_true c3] at e1
                  (refine q_skip (q_seq (q_block (q_seq ?_))))
                  refine q_draw _ [] (Sp.refl _) (by kernel_rfl) (by kernel_rfl) ?_
                  (refine qf_pure tabOk rfl rfl rfl (qf_pure tabOk rfl rfl rfl ?_))
                  refine qf_index tabOk rfl rfl rfl rfl rfl (by omega) (by omega) ?_
                  skip
                  refine qf_load1 (v := .int .i64 row[r + 1 + 1]) tabOk rfl rfl rfl (fun w hs => hrow (r + 1 + 1) hu3 _ hs.chg0) ?_
                  (refine qf_pure tabOk rfl rfl rfl (qf_pure tabOk rfl rfl rfl (qf_ar tabOk rfl rfl rfl rfl (by omega) (by omega) ?_)))
                  refine qf_index tabOk rfl rfl rfl rfl rfl (by omega) (by omega) ?_
                  skip
                  refine qf_load1 (v := .int .i64 row[r + 1]) tabOk rfl rfl rfl (fun w hs => by rw [show (((r + 1 + 1 : Nat) : Int) - 1).toNat = r + 1 from by omega]; exact hrow (r + 1) hq _ hs.chg0) ?_
                  (refine qf_gtrF tabOk rfl rfl rfl (by omega) (qf_pure tabOk rfl rfl rfl (qf_gyes rfl (qf_pure tabOk rfl rfl rfl (qf_gyes rfl (qf_gtrT tabOk rfl rfl rfl (by omega) (qf_gyes rfl (qf_pure tabOk rfl rfl rfl (qf_gyes rfl (qf_pure tabOk rfl rfl rfl (qf_gyes rfl (qf_pure tabOk rfl rfl rfl ?_))))))))))); refine qf_gyes rfl (qf_ar tabOk rfl rfl rfl rfl (by omega) (by omega) (qf_gyes rfl ?_)))
                  refine qf_index tabOk rfl rfl rfl rfl rfl (by omega) (by omega) ?_
                  (refine qf_gyes rfl ?_)
                  refine qf_load1 (v := .int .i64 row[r + 1]) tabOk rfl rfl rfl (fun w hs => by rw [show (((r + 1 + 1 : Nat) : Int) - 1).toNat = r + 1 from by omega]; exact hrow (r + 1) hq _ hs.chg0) ?_
                  (refine qf_gyes rfl (qf_pure tabOk rfl rfl rfl (qf_gyes rfl (qf_pure tabOk rfl rfl rfl (qf_gyes rfl ?_)))))
                  refine qf_index tabOk rfl rfl rfl rfl rfl (by omega) (by omega) ?_
                  (refine qf_gyes rfl ?_)
                  refine qf_load1 (v := .int .i64 row[r + 1 + 1]) tabOk rfl rfl rfl (fun w hs => hrow (r + 1 + 1) hu3 _ hs.chg0) ?_
                  (refine qf_gyes rfl (qf_ar tabOk rfl rfl rfl rfl (by omega) (by omega) (qf_gyes rfl (qf_pure tabOk rfl rfl rfl (qf_gyes rfl (qf_pure tabOk rfl rfl rfl (qf_gyes rfl (qf_ar tabOk rfl rfl rfl rfl (by omega) (by omega) (qf_gyes rfl ?_)))))))))
                  refine qf_index tabOk rfl rfl rfl rfl rfl (by omega) (by omega) ?_
                  (refine qf_gyes rfl ?_)
                  refine qf_load1 (v := .int .i64 row[r]) tabOk rfl rfl rfl (fun w hs => by rw [show (((r + 1 + 1 : Nat) : Int) - 2).toNat = r from by omega]; exact hrow r hr0 _ hs.chg0) ?_
                  (refine qf_gyes rfl (qf_pure tabOk rfl rfl rfl (qf_gyes rfl (qf_pure tabOk rfl rfl rfl (qf_gyes rfl (qf_ar tabOk rfl rfl rfl rfl (by omega) (by omega) (qf_gyes rfl ?_)))))))
                  refine qf_index tabOk rfl rfl rfl rfl rfl (by omega) (by omega) ?_
                  (refine qf_gyes rfl ?_)
                  refine qf_load1 (v := .int .i64 row[r + 1]) tabOk rfl rfl rfl (fun w hs => by rw [show (((r + 1 + 1 : Nat) : Int) - 1).toNat = r + 1 from by omega]; exact hrow (r + 1) hq _ hs.chg0) ?_
                  (refine qf_gyes rfl (qf_ar tabOk rfl rfl rfl rfl (by omega) (by omega) (qf_gyes rfl (qf_gtrF tabOk rfl rfl rfl (by omega) (qf_gyes rfl (qf_pure tabOk rfl rfl rfl (qf_pure tabOk rfl rfl rfl (qf_nil (q_cond_false rfl (q_skip (q_blk (q_region ?_))))))))))); refine ql_pure tabOk rfl rfl (ql_ar tabOk rfl rfl rfl rfl (by omega) (by omega) (ql_pure tabOk rfl rfl (q_nil ?_))))
                  exact hK2 (r + 1 + 1 + 1) _ _ ⟨by omega, by omega, by rw [hsr, e1]⟩ (by omega) ⟨rfl, rfl, rfl, rfl, rfl, trivial⟩ (by repeat constructor)
                · rw [decide_eq_false c3] at e1
                  rw [hfalse e1]
                  (refine q_skip (q_seq (q_block (q_seq ?_))))
                  refine q_draw _ [] (Sp.refl _) (by kernel_rfl) (by kernel_rfl) ?_
                  (refine qf_pure tabOk rfl rfl rfl (qf_pure tabOk rfl rfl rfl ?_))
                  refine qf_index tabOk rfl rfl rfl rfl rfl (by omega) (by omega) ?_
                  skip
                  refine qf_load1 (v := .int .i64 row[r + 1 + 1]) tabOk rfl rfl rfl (fun w hs => hrow (r + 1 + 1) hu3 _ hs.chg0) ?_
                  (refine qf_pure tabOk rfl rfl rfl (qf_pure tabOk rfl rfl rfl (qf_ar tabOk rfl rfl rfl rfl (by omega) (by omega) ?_)))
                  refine qf_index tabOk rfl rfl rfl rfl rfl (by omega) (by omega) ?_
                  skip
                  refine qf_load1 (v := .int .i64 row[r + 1]) tabOk rfl rfl rfl (fun w hs => by rw [show (((r + 1 + 1 : Nat) : Int) - 1).toNat = r + 1 from by omega]; exact hrow (r + 1) hq _ hs.chg0) ?_
                  (refine qf_gtrF tabOk rfl rfl rfl (by omega) (qf_pure tabOk rfl rfl rfl (qf_gyes rfl (qf_pure tabOk rfl rfl rfl (qf_gyes rfl (qf_gtrT tabOk rfl rfl rfl (by omega) (qf_gyes rfl (qf_pure tabOk rfl rfl rfl (qf_gyes rfl (qf_pure tabOk rfl rfl rfl (qf_gyes rfl (qf_pure tabOk rfl rfl rfl ?_))))))))))); refine qf_gyes rfl (qf_ar tabOk rfl rfl rfl rfl (by omega) (by omega) (qf_gyes rfl ?_)))
                  refine qf_index tabOk rfl rfl rfl rfl rfl (by omega) (by omega) ?_
                  (refine qf_gyes rfl ?_)
                  refine qf_load1 (v := .int .i64 row[r + 1]) tabOk rfl rfl rfl (fun w hs => by rw [show (((r + 1 + 1 : Nat) : Int) - 1).toNat = r + 1 from by omega]; exact hrow (r + 1) hq _ hs.chg0) ?_
                  (refine qf_gyes rfl (qf_pure tabOk rfl rfl rfl (qf_gyes rfl (qf_pure tabOk rfl rfl rfl (qf_gyes rfl ?_)))))
                  refine qf_index tabOk rfl rfl rfl rfl rfl (by omega) (by omega) ?_
                  (refine qf_gyes rfl ?_)
                  refine qf_load1 (v := .int .i64 row[r + 1 + 1]) tabOk rfl rfl rfl (fun w hs => hrow (r + 1 + 1) hu3 _ hs.chg0) ?_
                  (refine qf_gyes rfl (qf_ar tabOk rfl rfl rfl rfl (by omega) (by omega) (qf_gyes rfl (qf_pure tabOk rfl rfl rfl (qf_gyes rfl (qf_pure tabOk rfl rfl rfl (qf_gyes rfl (qf_ar tabOk rfl rfl rfl rfl (by omega) (by omega) (qf_gyes rfl ?_)))))))))
                  refine qf_index tabOk rfl rfl rfl rfl rfl (by omega) (by omega) ?_
                  (refine qf_gyes rfl ?_)
                  refine qf_load1 (v := .int .i64 row[r]) tabOk rfl rfl rfl (fun w hs => by rw [show (((r + 1 + 1 : Nat) : Int) - 2).toNat = r from by omega]; exact hrow r hr0 _ hs.chg0) ?_
                  (refine qf_gyes rfl (qf_pure tabOk rfl rfl rfl (qf_gyes rfl (qf_pure tabOk rfl rfl rfl (qf_gyes rfl (qf_ar tabOk rfl rfl rfl rfl (by omega) (by omega) (qf_gyes rfl ?_)))))))
                  refine qf_index tabOk rfl rfl rfl rfl rfl (by omega) (by omega) ?_
                  (refine qf_gyes rfl ?_)
                  refine qf_load1 (v := .int .i64 row[r + 1]) tabOk rfl rfl rfl (fun w hs => by rw [show (((r + 1 + 1 : Nat) : Int) - 1).toNat = r + 1 from by omega]; exact hrow (r + 1) hq _ hs.chg0) ?_
                  (refine qf_gyes rfl (qf_ar tabOk rfl rfl rfl rfl (by omega) (by omega) (qf_gyes rfl (qf_gtrT tabOk rfl rfl rfl (by omega) (qf_gyes rfl (qf_pure tabOk rfl rfl rfl (qf_pure tabOk rfl rfl rfl (qf_nil (q_cond_true rfl (q_seq (q_region (ql_pure tabOk rfl rfl ?_))))))))))); refine q_nil (q_ret ?_))
                  refine q_fin tabOk rfl (by repeat constructor) fun w hs => ?_
                  exact ⟨by rw [if_pos rfl]; rfl, hs.chg0⟩
            · have e1 : ordAB row (q + 1) = false := by
                unfold ordAB
                rw [getI hu3, Nat.add_sub_cancel, getI hq, decide_eq_false c1]
                rfl
              rw [hfalse e1]
              (refine q_skip (q_seq (q_block (q_seq ?_))))
              refine q_draw _ [] (Sp.refl _) (by kernel_rfl) (by kernel_rfl) ?_
              (refine qf_pure tabOk rfl rfl rfl (qf_pure tabOk rfl rfl rfl ?_))
              refine qf_index tabOk rfl rfl rfl rfl rfl (by omega) (by omega) ?_
              skip
              refine qf_load1 (v := .int .i64 row[q + 1]) tabOk rfl rfl rfl (fun w hs => hrow (q + 1) hu3 _ hs.chg0) ?_
              (refine qf_pure tabOk rfl rfl rfl (qf_pure tabOk rfl rfl rfl (qf_ar tabOk rfl rfl rfl rfl (by omega) (by omega) ?_)))
              refine qf_index tabOk rfl rfl rfl rfl rfl (by omega) (by omega) ?_
              skip
              refine qf_load1 (v := .int .i64 row[q]) tabOk rfl rfl rfl (fun w hs => by rw [show (((q + 1 : Nat) : Int) - 1).toNat = q from by omega]; exact hrow q hq _ hs.chg0) ?_
              (refine qf_gtrT tabOk rfl rfl rfl (by omega) (qf_pure tabOk rfl rfl rfl ?_); (iterate 3 refine qf_gno rfl rfl rfl ?_); (iterate 22 refine qf_gnone rfl rfl ?_); refine qf_gno rfl rfl rfl (qf_pure tabOk rfl rfl rfl (qf_nil (q_cond_true rfl (q_seq (q_region (ql_pure tabOk rfl rfl (q_nil (q_ret ?_)))))))))
              refine q_fin tabOk rfl (by repeat constructor) fun w hs => ?_
              exact ⟨by rw [if_pos rfl]; rfl, hs.chg0⟩
          · have hu4 : row.length ≤ u := by omega
            clear hc hK2
            have e1 : ordAR row row.length = true := by
              by_cases e : row.length = u
              · rw [e]; exact hou
              · have : row.length = 0 := by omega
                rw [this]
                rfl
            (refine q_exit _ rfl (q_blk (q_region (ql_ar tabOk rfl rfl rfl rfl (by omega) (by omega) (ql_pure tabOk rfl rfl (q_nil ?_))))))
            exact hK (k + 1) _ _ ⟨by omega, by rw [hsu, e1]⟩ (by omega) ⟨rfl, rfl, rfl, trivial⟩ (by repeat constructor)
        · obtain rfl : k = A.length := by omega
          rw [hok]
          (refine q_exit _ rfl (q_seq (q_region (ql_pure tabOk rfl rfl (q_nil (q_ret ?_))))))
          refine q_fin tabOk rfl (by repeat constructor) fun w hs => ?_
          exact ⟨rfl, hs.chg0⟩
end Go.Proofs.YtopdmadgkjdgcaaGreat

/- Walks of rifle: misses, what one more breath helps, the best waits, the curve, the price. -/
namespace Go.Proofs.YtopdmadgkjdgcaaGreat
set_option maxRecDepth 4000
open Go Go.Eng
theorem nI_get {W : List Nat} {i : Nat} (hi : i < W.length) (h2 : i < (nI W).length) : (nI W)[i] = (wtO W i : Int) := by
  unfold wtO
  rw [List.getD_eq_getElem?_getD, List.getElem?_eq_getElem hi, Option.getD_some]
  simp [nI]
/-- A shot's list, as it is read. -/
theorem aim_row {w : World} {lo hi gb go n c : Nat} {A : List (List Int)} (h : RdII w lo hi (.slice (some ⟨gb, go, none⟩) n c) A) {i : Nat} (hi' : i < A.length) (h1 : 1 ≤ amW A i) : ∃ rb ro rc, (∀ w', Chg [] w w' → w'.cell? ⟨gb, go + i * 1, none⟩ = some (.slice (some ⟨rb, ro, none⟩) (amW A i) rc)) ∧ ∀ x, x < amW A i → ∀ w', Chg [] w w' → w'.cell? ⟨rb, ro + x * 1, none⟩ = some (.int .i64 (amA A i x)) := by
  obtain ⟨ra, rc, hr, hrc⟩ := RdII.row h i hi'
  obtain ⟨ra', rc', er, hra⟩ := RdI.outI hr
  cases er
  have e : amW A i = A[i].length := by unfold amW; rw [getA hi']
  obtain ⟨rb, ro, rfl⟩ := hra (by omega)
  refine ⟨rb, ro, rc, fun w' hw => by rw [e]; exact hrc w' hw, fun x hx w' hw => ?_⟩
  have := RdI.at (RdE.keep hr hw) x (by omega)
  rw [this]
  unfold amA
  rw [getA hi', getI (by omega)]
set_option maxHeartbeats 1000000 in
theorem missed_ca (w : World) (lo hi lo2 hi2 : Nat) (v wv : Value) (A : List (List Int)) (W : List Nat) (h : RdII w lo hi v A) (hW : RdI w lo2 hi2 wv (nI W)) (hA : AimOk A) (hok : WOk A W) : Ca Tryz.prog 103 [v, wv] w fun x w' => x = .int .i64 (missV A W) ∧ Chg [] w w' := by
  have n1 := hA.n1
  have n8 := hA.n8
  have hl := hok.len
  obtain ⟨a, c, rfl, ha⟩ := RdII.outI h
  obtain ⟨gb, go, rfl⟩ := ha (by omega)
  obtain ⟨wa, wc, rfl, hwa⟩ := RdI.outI hW
  rw [nI_len, hl] at hwa hW ⊢
  obtain ⟨wb, wo, rfl⟩ := hwa (by omega)
  have hbd : ∀ k, k ≤ A.length → 0 ≤ smF (fun i => amA A i (wtO W i)) k ∧ smF (fun i => amA A i (wtO W i)) k ≤ 1000 * k := fun k => by
    induction k with
    | zero => intro _; exact ⟨Int.le_refl _, Int.le_refl _⟩
    | succ k ih =>
      intro hk
      have h1 := ih (by omega)
      have h2 := hA.bd k _ (by omega) (hok.lt k (by omega))
      simp only [smF]
      omega
  refine q_of (Sat.nil w M0) Tryz.func103 rfl (by simp [Tryz.ntmps103]) ?_
  (refine q_seq (q_region (ql_pure tabOk rfl rfl (q_nil (q_seq (q_region (ql_pure tabOk rfl rfl (q_nil (q_seq (q_seq (q_region ?_)))))))))); (iterate 3 refine ql_pure tabOk rfl rfl ?_); refine q_nil (q_block ?_))
  refine q_loop (σ := Nat) (fun k => k ≤ A.length) (fun k => A.length - k) (fun k => [(0, .slice (some ⟨gb, go, none⟩) A.length c), (5, .int .i64 (smF (fun i => amA A i (wtO W i)) k)), (8, .slice (some ⟨wb, wo, none⟩) A.length wc), (9, .int .i64 A.length), (10, .int .i64 k)]) (fun _ => []) 0 (by omega) ⟨rfl, rfl, rfl, rfl, rfl, trivial⟩ (by repeat constructor) ?_
  rintro k hk K hK
  have b0 := hbd k hk
  (refine q_seq (q_region (ql_pure tabOk rfl rfl (q_nil (q_seq ?_)))))
  refine q_if rfl (fun hc => ?_) (fun hc => ?_)
  · have hk2 : k < A.length := by omega
    clear hc
    have b1 := hbd (k + 1) (by omega)
    simp only [smF] at b1
    have hx := hok.lt k hk2
    obtain ⟨rb, ro, rc, hr1, hr2⟩ := aim_row h hk2 (by omega)
    have hrow := hA.row k hk2
    (refine q_skip (q_seq (q_block (q_seq (q_region (ql_pure tabOk rfl rfl ?_))))))
    refine ql_index tabOk rfl rfl rfl rfl rfl (by omega) (by omega) ?_
    refine ql_load1 (v := .int .i64 (wtO W k)) tabOk rfl rfl rfl (fun w hs => by
      have := RdI.at (RdE.keep hW hs.chg0) k (by rw [nI_len]; omega)
      rw [nI_get (by omega)] at this
      exact this) ?_
    (refine ql_pure tabOk rfl rfl (ql_pure tabOk rfl rfl (q_nil (q_region ?_))); (iterate 3 refine ql_pure tabOk rfl rfl ?_))
    refine ql_index tabOk rfl rfl rfl rfl rfl (by omega) (by omega) ?_
    refine ql_load1 tabOk rfl rfl rfl (fun w hs => hr1 _ hs.chg0) ?_
    (refine ql_pure tabOk rfl rfl ?_)
    refine ql_index tabOk rfl rfl rfl rfl rfl (by omega) (by omega) ?_
    refine ql_load1 tabOk rfl rfl rfl (fun w hs => hr2 _ hx _ hs.chg0) ?_
    (refine ql_ar tabOk rfl rfl rfl rfl (by omega) (by omega) (ql_pure tabOk rfl rfl (q_nil (q_blk (q_region (ql_ar tabOk rfl rfl rfl rfl (by omega) (by omega) (ql_pure tabOk rfl rfl (q_nil ?_))))))))
    exact hK (k + 1) _ _ (by omega) (by omega) ⟨rfl, rfl, rfl, rfl, rfl, trivial⟩ (by repeat constructor)
  · obtain rfl : k = A.length := by omega
    (refine q_exit _ rfl (q_seq (q_region (ql_pure tabOk rfl rfl (ql_pure tabOk rfl rfl (q_nil (q_ret ?_)))))))
    refine q_fin tabOk rfl (by repeat constructor) fun w hs => ?_
    exact ⟨rfl, hs.chg0⟩
set_option maxHeartbeats 2000000 in
theorem helps_ca (w : World) (lo hi lo2 hi2 : Nat) (v wv : Value) (A : List (List Int)) (W : List Nat) (h : RdII w lo hi v A) (hW : RdI w lo2 hi2 wv (nI W)) (hA : AimOk A) (hok : WOk A W) : Ca Tryz.prog 105 [v, wv] w fun x w' => x = .tuple #[.int .i64 (mostV A W), .int .i64 (shotV A W)] ∧ Chg [] w w' := by
  have n1 := hA.n1
  have n8 := hA.n8
  have hl := hok.len
  obtain ⟨a, c, rfl, ha⟩ := RdII.outI h
  obtain ⟨gb, go, rfl⟩ := ha (by omega)
  obtain ⟨wa, wc, rfl, hwa⟩ := RdI.outI hW
  rw [nI_len, hl] at hwa hW ⊢
  obtain ⟨wb, wo, rfl⟩ := hwa (by omega)
  refine q_of (Sat.nil w M0) Tryz.func105 rfl (by simp [Tryz.ntmps105]) ?_
  (refine q_seq (q_region (ql_pure tabOk rfl rfl (ql_pure tabOk rfl rfl (q_nil (q_seq (q_region (ql_pure tabOk rfl rfl (ql_pure tabOk rfl rfl (q_nil (q_seq (q_seq ?_))))))))))); refine q_region ?_; (iterate 3 refine ql_pure tabOk rfl rfl ?_); refine q_nil (q_block ?_))
  refine q_loop (σ := Nat) (fun k => k ≤ A.length) (fun k => A.length - k) (fun k => [(0, .slice (some ⟨gb, go, none⟩) A.length c), (6, .int .i64 (helpS A W k).1), (7, .int .i64 (helpS A W k).2), (10, .slice (some ⟨wb, wo, none⟩) A.length wc), (11, .int .i64 A.length), (12, .int .i64 k)]) (fun _ => []) 0 (by omega) ⟨rfl, rfl, rfl, rfl, rfl, rfl, trivial⟩ (by repeat constructor) ?_
  rintro k hk K hK
  (refine q_seq (q_region (ql_pure tabOk rfl rfl (q_nil (q_seq ?_)))))
  refine q_if rfl (fun hc => ?_) (fun hc => ?_)
  · have hk2 : k < A.length := by omega
    clear hc
    have hx := hok.lt k hk2
    obtain ⟨rb, ro, rc, hr1, hr2⟩ := aim_row h hk2 (by omega)
    have hrow := hA.row k hk2
    have hsu : helpS A W (k + 1) = if wtO W k + 1 < amW A k ∧ (helpS A W k).1 < incV A W k then (incV A W k, k) else helpS A W k := rfl
    have b1 := hA.bd k _ hk2 hx
    (refine q_skip (q_seq (q_block (q_seq (q_region (ql_pure tabOk rfl rfl ?_))))))
    refine ql_index tabOk rfl rfl rfl rfl rfl (by omega) (by omega) ?_
    refine ql_load1 (v := .int .i64 (wtO W k)) tabOk rfl rfl rfl (fun w hs => by
      have := RdI.at (RdE.keep hW hs.chg0) k (by rw [nI_len]; omega)
      rw [nI_get (by omega)] at this
      exact this) ?_
    by_cases c1 : wtO W k + 1 < amW A k
    · have b2 := hA.bd k _ hk2 c1
      have hi2 := hr2 _ c1
      have einc : incV A W k = amA A k (wtO W k) - amA A k (wtO W k + 1) := rfl
      have e1 : ((wtO W k : Nat) : Int) + 1 = ((wtO W k + 1 : Nat) : Int) := by omega
      (refine ql_pure tabOk rfl rfl (ql_pure tabOk rfl rfl (q_nil (q_seq ?_))))
      refine q_draw _ [] (Sp.refl _) (by kernel_rfl) (by kernel_rfl) ?_
      (refine qf_pure tabOk rfl rfl rfl (qf_ar tabOk rfl rfl rfl rfl (by omega) (by omega) (qf_pure tabOk rfl rfl rfl (qf_pure tabOk rfl rfl rfl ?_))))
      refine qf_index tabOk rfl rfl rfl rfl rfl (by omega) (by omega) ?_
      skip
      refine qf_load1 tabOk rfl rfl rfl (fun w hs => hr1 _ hs.chg0) ?_
      (refine qf_pure tabOk rfl rfl rfl (qf_lssT tabOk rfl rfl rfl (by omega) (qf_pure tabOk rfl rfl rfl (qf_gyes rfl (qf_pure tabOk rfl rfl rfl (qf_gyes rfl (qf_pure tabOk rfl rfl rfl (qf_gyes rfl ?_))))))))
      refine qf_index tabOk rfl rfl rfl rfl rfl (by omega) (by omega) ?_
      (refine qf_gyes rfl ?_)
      refine qf_load1 tabOk rfl rfl rfl (fun w hs => hr1 _ hs.chg0) ?_
      (refine qf_gyes rfl (qf_pure tabOk rfl rfl rfl (qf_gyes rfl ?_)))
      refine qf_index tabOk rfl rfl rfl rfl rfl (by omega) (by omega) ?_
      (refine qf_gyes rfl ?_)
      refine qf_load1 (v := .int .i64 (amA A k (wtO W k))) tabOk rfl rfl rfl (fun w hs => hr2 _ hx _ hs.chg0) ?_
      (refine qf_gyes rfl (qf_pure tabOk rfl rfl rfl (qf_gyes rfl (qf_pure tabOk rfl rfl rfl (qf_gyes rfl ?_)))))
      refine qf_index tabOk rfl rfl rfl rfl rfl (by omega) (by omega) ?_
      (refine qf_gyes rfl ?_)
      refine qf_load1 tabOk rfl rfl rfl (fun w hs => hr1 _ hs.chg0) ?_
      (refine qf_gyes rfl (qf_pure tabOk rfl rfl rfl (qf_gyes rfl (qf_ar tabOk rfl rfl rfl rfl (by omega) (by omega) (qf_gyes rfl ?_)))))
      refine qf_index tabOk rfl rfl rfl rfl rfl (by omega) (by omega) ?_
      (refine qf_gyes rfl ?_)
      refine qf_load1 (v := .int .i64 (amA A k (wtO W k + 1))) tabOk rfl rfl rfl (fun w hs => hi2 _ hs.chg0) ?_
      (refine qf_gyes rfl (qf_ar tabOk rfl rfl rfl rfl (by omega) (by omega) (qf_gyes rfl (qf_pure tabOk rfl rfl rfl (qf_gyes rfl (qf_pure tabOk rfl rfl rfl (qf_pure tabOk rfl rfl rfl (qf_nil ?_))))))))
      refine q_if rfl (fun hc => ?_) (fun hc => ?_)
      · have c2 : (helpS A W k).1 < incV A W k := by rw [einc]; simpa using hc
        rw [if_pos ⟨c1, c2⟩] at hsu
        skip
        refine q_draw _ [] (Sp.refl _) (by kernel_rfl) (by kernel_rfl) ?_
        (refine qf_pure tabOk rfl rfl rfl (qf_pure tabOk rfl rfl rfl ?_))
        refine qf_index tabOk rfl rfl rfl rfl rfl (by omega) (by omega) ?_
        skip
        refine qf_load1 tabOk rfl rfl rfl (fun w hs => hr1 _ hs.chg0) ?_
        (refine qf_pure tabOk rfl rfl rfl ?_)
        refine qf_index tabOk rfl rfl rfl rfl rfl (by omega) (by omega) ?_
        skip
        refine qf_load1 (v := .int .i64 (amA A k (wtO W k))) tabOk rfl rfl rfl (fun w hs => hr2 _ hx _ hs.chg0) ?_
        (refine qf_pure tabOk rfl rfl rfl (qf_pure tabOk rfl rfl rfl ?_))
        refine qf_index tabOk rfl rfl rfl rfl rfl (by omega) (by omega) ?_
        skip
        refine qf_load1 tabOk rfl rfl rfl (fun w hs => hr1 _ hs.chg0) ?_
        (refine qf_pure tabOk rfl rfl rfl (qf_ar tabOk rfl rfl rfl rfl (by omega) (by omega) ?_))
        refine qf_index tabOk rfl rfl rfl rfl rfl (by omega) (by omega) ?_
        skip
        refine qf_load1 (v := .int .i64 (amA A k (wtO W k + 1))) tabOk rfl rfl rfl (fun w hs => hi2 _ hs.chg0) ?_
        (refine qf_ar tabOk rfl rfl rfl rfl (by omega) (by omega) ?_; (iterate 3 refine qf_pure tabOk rfl rfl rfl ?_); refine qf_nil (q_blk (q_region (ql_ar tabOk rfl rfl rfl rfl (by omega) (by omega) (ql_pure tabOk rfl rfl (q_nil ?_))))))
        exact hK (k + 1) _ _ (by omega) (by omega) ⟨rfl, by rw [hsu]; rfl, by rw [hsu]; rfl, rfl, rfl, rfl, trivial⟩ (by repeat constructor)
      · have c2 : ¬ (helpS A W k).1 < incV A W k := by rw [einc]; simpa using hc
        rw [if_neg (fun e => c2 e.2)] at hsu
        (refine q_skip (q_blk (q_region (ql_ar tabOk rfl rfl rfl rfl (by omega) (by omega) (ql_pure tabOk rfl rfl (q_nil ?_))))))
        exact hK (k + 1) _ _ (by omega) (by omega) ⟨rfl, by rw [hsu]; rfl, by rw [hsu]; rfl, rfl, rfl, rfl, trivial⟩ (by repeat constructor)
    · rw [if_neg (fun e => c1 e.1)] at hsu
      (refine ql_pure tabOk rfl rfl (ql_pure tabOk rfl rfl (q_nil (q_seq ?_))))
      refine q_draw _ [] (Sp.refl _) (by kernel_rfl) (by kernel_rfl) ?_
      (refine qf_pure tabOk rfl rfl rfl (qf_ar tabOk rfl rfl rfl rfl (by omega) (by omega) (qf_pure tabOk rfl rfl rfl (qf_pure tabOk rfl rfl rfl ?_))))
      refine qf_index tabOk rfl rfl rfl rfl rfl (by omega) (by omega) ?_
      skip
      refine qf_load1 tabOk rfl rfl rfl (fun w hs => hr1 _ hs.chg0) ?_
      (refine qf_pure tabOk rfl rfl rfl (qf_lssF tabOk rfl rfl rfl (by omega) (qf_pure tabOk rfl rfl rfl ?_)); (iterate 18 refine qf_gno rfl rfl rfl ?_); refine qf_pure tabOk rfl rfl rfl (qf_nil (q_cond_false rfl (q_skip (q_blk (q_region (ql_ar tabOk rfl rfl rfl rfl (by omega) (by omega) (ql_pure tabOk rfl rfl (q_nil ?_)))))))))
      exact hK (k + 1) _ _ (by omega) (by omega) ⟨rfl, by rw [hsu]; rfl, by rw [hsu]; rfl, rfl, rfl, rfl, trivial⟩ (by repeat constructor)
  · obtain rfl : k = A.length := by omega
    (refine q_exit _ rfl (q_seq (q_region ?_)); (iterate 4 refine ql_pure tabOk rfl rfl ?_); refine q_nil (q_ret ?_))
    refine q_fin tabOk rfl (by repeat constructor) fun w hs => ?_
    exact ⟨rfl, hs.chg0⟩
theorem wts_stop {A : List (List Int)} {t : Nat} (h : mostV A (wtsV A t) = 0) : ∀ d, wtsV A (t + d) = wtsV A t
  | 0 => rfl
  | d + 1 => by
    have ih := wts_stop h d
    show stepW A (wtsV A (t + d)) = _
    rw [ih]
    unfold stepW
    rw [if_pos h]
theorem many_le {A : List (List Int)} (hA : AimOk A) : manyV A ≤ 160 := by
  have h1 : manyV A ≤ smF (fun _ => 20 * 1) A.length := smF_le fun i hi => by have := (hA.row i hi).2; omega
  rw [smF_mul 20 fun _ => 1] at h1
  have h2 : ∀ n : Nat, smF (fun _ => (1 : Int)) n = n := fun n => by
    induction n with
    | zero => rfl
    | succ n ih => simp only [smF]; omega
  rw [h2] at h1
  have := hA.n8
  omega
theorem nI_set {W : List Nat} {k x : Nat} : nI (W.set k x) = (nI W).set k (x : Int) := by
  unfold nI
  rw [List.map_set]
set_option maxHeartbeats 2000000 in
theorem waits_ca (w : World) (lo hi : Nat) (v : Value) (A : List (List Int)) (t : Nat) (h : RdII w lo hi v A) (hA : AimOk A) (ht : (t : Int) ≤ 9223372036854775807) : Ca Tryz.prog 104 [v, .int .i64 t] w fun x w' => ∃ b : Nat, x = .slice (some ⟨b, 0, none⟩) A.length A.length ∧ Sat w M0 [.pt b (ints (nI (wtsV A t))) 3] w' := by
  have n1 := hA.n1
  have n8 := hA.n8
  obtain ⟨a, c, rfl, ha⟩ := RdII.outI h
  refine q_of (Sat.nil w M0) Tryz.func104 rfl (by simp [Tryz.ntmps104]) ?_
  (refine q_seq (q_region (ql_pure tabOk rfl rfl (q_nil (q_seq (q_region (ql_pure tabOk rfl rfl (ql_pure tabOk rfl rfl ?_))))))))
  refine ql_makeI slI rfl rfl rfl (by omega) (fun b5 => ?_)
  have e0 : List.replicate A.length (0 : Int) = nI (wtsV A 0) := by simp [wtsV, nI]
  rw [e0]
  (refine ql_pure tabOk rfl rfl (q_nil (q_seq (q_seq (q_region ?_)))); (iterate 3 refine ql_pure tabOk rfl rfl ?_); refine q_nil (q_block ?_))
  obtain ⟨T, hT⟩ : ∃ T : Nat, T = min t 168 := ⟨_, rfl⟩
  have eT : min (t : Int) 168 = (T : Int) := by omega
  have eW : wtsV A t = wtsV A T := by
    by_cases e : t ≤ 168
    · rw [show T = t from by omega]
    · have h1 := most_many hA (t := 168) (by have := many_le hA; omega)
      have h2 := wts_stop h1 (t - 168)
      rw [show 168 + (t - 168) = t from by omega] at h2
      rw [h2, show T = 168 from by omega]
  rw [eT, eW]
  refine q_loop (σ := Nat) (fun k => k ≤ T) (fun k => T - k) (fun k => [(0, .slice a A.length c), (5, .slice (some ⟨b5, 0, none⟩) A.length A.length), (12, .int .i64 T), (13, .int .i64 k)]) (fun k => [.pt b5 (ints (nI (wtsV A k))) 3]) 0 (by omega) ⟨rfl, rfl, rfl, rfl, trivial⟩ (by repeat constructor) ?_
  rintro k hk K hK
  have hg := gr_all hA k
  have hWl := hg.ok.len
  (refine q_seq (q_region (ql_pure tabOk rfl rfl (q_nil (q_seq ?_)))))
  refine q_if rfl (fun hc => ?_) (fun hc => ?_)
  · have hk2 : k < T := by omega
    clear hc
    (refine q_skip (q_seq (q_block (q_seq (q_region (ql_pure tabOk rfl rfl (ql_pure tabOk rfl rfl ?_)))))))
    refine ql_callv (val := .tuple #[.int .i64 (mostV A (wtsV A k)), .int .i64 (shotV A (wtsV A k))]) tabOk rfl rfl rfl rfl (fun w hs => ?_) ?_; exact by have h9 := Blk.rdI (c := A.length) (hs.blk (b := b5) (cs := ints (nI (wtsV A k))) (by repeat constructor)); rw [nI_len, hWl] at h9; exact helps_ca w lo hi _ _ _ _ A (wtsV A k) (h.keep hs.chg0) h9 hA hg.ok
    by_cases hm : mostV A (wtsV A k) = 0
    · have e1 : wtsV A T = wtsV A k := by
        have := wts_stop hm (T - k)
        rwa [show k + (T - k) = T from by omega] at this
      rw [e1]
      (refine ql_pure tabOk rfl rfl (ql_ext tabOk rfl rfl rfl (ql_ext tabOk rfl rfl rfl (ql_pure tabOk rfl rfl (ql_pure tabOk rfl rfl (q_nil (q_seq (q_seq (q_region (ql_pure tabOk rfl rfl (ql_eqlT tabOk rfl rfl rfl (by omega) (q_nil ?_))))))))))); refine q_cond_true rfl (q_exit _ rfl (q_seq (q_region (ql_pure tabOk rfl rfl (ql_pure tabOk rfl rfl (q_nil (q_ret ?_))))))))
      refine q_fin tabOk rfl (by repeat constructor) fun w hs => ?_
      exact ⟨b5, rfl, hs.sp (by repeat constructor)⟩
    · have hsp := helpS_spec A (wtsV A k) A.length
      obtain ⟨g1, g2, g3⟩ := hsp.2.2 (by have := hsp.1; unfold mostV at hm; omega)
      have hstep : wtsV A (k + 1) = (wtsV A k).set (shotV A (wtsV A k)) (wtO (wtsV A k) (shotV A (wtsV A k)) + 1) := by
        show stepW A (wtsV A k) = _
        unfold stepW
        rw [if_neg hm]
      have hs1 : shotV A (wtsV A k) < A.length := g1
      have hs2 := (hA.row _ hs1).2
      have hs3 : wtO (wtsV A k) (shotV A (wtsV A k)) + 1 < amW A (shotV A (wtsV A k)) := g2
      generalize hsh : shotV A (wtsV A k) = s at *
      have hsl : s < (nI (wtsV A k)).length := by rw [nI_len]; omega
      have hval : (nI (wtsV A k))[s] = (wtO (wtsV A k) s : Int) := nI_get (by omega) hsl
      (refine ql_pure tabOk rfl rfl (ql_ext tabOk rfl rfl rfl (ql_ext tabOk rfl rfl rfl (ql_pure tabOk rfl rfl (ql_pure tabOk rfl rfl (q_nil (q_seq (q_seq (q_region (ql_pure tabOk rfl rfl (ql_eqlF tabOk rfl rfl rfl (by omega) (q_nil ?_))))))))))); refine q_cond_false rfl (q_skip (q_region (ql_pure tabOk rfl rfl (ql_pure tabOk rfl rfl ?_)))))
      refine ql_index tabOk rfl rfl rfl rfl rfl (by omega) (by omega) ?_
      refine ql_loadI tabOk (s) rfl rfl rfl (by repeat constructor) (by first | rfl | omega | simp) hsl ?_
      rw [hval]
      (refine ql_ar tabOk rfl rfl rfl rfl (by omega) (by omega) ?_)
      refine ql_index tabOk rfl rfl rfl rfl rfl (by omega) (by omega) ?_
      refine ql_storeI tabOk (s) rfl rfl rfl (by repeat constructor) (by first | rfl | omega | simp) hsl ?_
      rw [show ((wtO (wtsV A k) s : Nat) : Int) + 1 = ((wtO (wtsV A k) s + 1 : Nat) : Int) from by omega, ← nI_set, ← hstep]
      (refine q_nil (q_blk (q_region (ql_ar tabOk rfl rfl rfl rfl (by omega) (by omega) (ql_pure tabOk rfl rfl (q_nil ?_))))))
      exact hK (k + 1) _ _ (by omega) (by omega) ⟨rfl, rfl, rfl, rfl, trivial⟩ (by repeat constructor)
  · obtain rfl : k = T := by omega
    (refine q_exit _ rfl (q_seq (q_region (ql_pure tabOk rfl rfl (ql_pure tabOk rfl rfl (q_nil (q_ret ?_)))))))
    refine q_fin tabOk rfl (by repeat constructor) fun w hs => ?_
    exact ⟨b5, rfl, hs.sp (by repeat constructor)⟩
theorem abest_ok (w : World) (lo hi : Nat) (v : Value) (A : List (List Int)) (t : Nat) (h : RdII w lo hi v A) (hA : AimOk A) (ht : (t : Int) ≤ 9223372036854775807) : Ca Tryz.prog 64 [v, .int .i64 t] w fun x w' => ∃ b : Nat, x = .tuple #[.slice (some ⟨b, 0, none⟩) A.length A.length, .int .i64 (cvV A t), .int .i64 0] ∧ Sat w M0 [.pt b (ints (nI (wtsV A t))) 3] w' := by
  have n8 := hA.n8
  have hg := gr_all hA t
  refine q_of (Sat.nil w M0) Tryz.func64 rfl (by simp [Tryz.ntmps64]) ?_
  (refine q_seq (q_region ?_); (iterate 3 refine ql_pure tabOk rfl rfl ?_); refine q_nil (q_seq (q_region (ql_pure tabOk rfl rfl ?_))))
  refine ql_callv (val := .int .i64 0) tabOk rfl rfl rfl rfl (fun w hs => ?_) ?_; exact by have := checkA_ca w lo hi v A (h.keep hs.chg0) (by simp only [maxLen]; omega); rw [chkA_zero.2 hA] at this; exact this
  (refine ql_pure tabOk rfl rfl (q_nil (q_seq (q_block (q_seq (q_region (ql_pure tabOk rfl rfl (ql_neqF tabOk rfl rfl rfl (by omega) (ql_pure tabOk rfl rfl (q_nil (q_cond_false rfl (q_seq ?_))))))))))); refine q_region (ql_pure tabOk rfl rfl (ql_lssF tabOk rfl rfl rfl (by omega) (ql_pure tabOk rfl rfl (q_nil (q_cond_false rfl (q_skip (q_blk (q_seq (q_region (ql_pure tabOk rfl rfl (ql_pure tabOk rfl rfl ?_))))))))))))
  refine ql_call (β := Nat) tabOk [] _ M0 rfl rfl rfl rfl (Sp.refl _) (fun _ h => h.elim) (fun w' hs => waits_ca w' lo hi v A t (h.keep hs.chg0) hA ht) ?_
  rintro b _ rfl
  dsimp only [List.cons_append, List.nil_append]
  (refine ql_pure tabOk rfl rfl (q_nil (q_seq (q_region ?_))); (iterate 3 refine ql_pure tabOk rfl rfl ?_))
  refine ql_callv (val := .int .i64 (cvV A t)) tabOk rfl rfl rfl rfl (fun w hs => ?_) ?_; exact by have h9 := Blk.rdI (c := A.length) (hs.blk (b := b) (cs := ints (nI (wtsV A t))) (by repeat constructor)); rw [nI_len, hg.ok.len] at h9; exact missed_ca w lo hi _ _ _ _ A (wtsV A t) (h.keep hs.chg0) h9 hA hg.ok
  ((iterate 3 refine ql_pure tabOk rfl rfl ?_); refine q_nil (q_ret ?_))
  refine q_fin tabOk rfl (by repeat constructor) fun w hs => ?_
  exact ⟨b, rfl, hs.sp (by repeat constructor)⟩
theorem aprice_ok (w : World) (lo hi : Nat) (v : Value) (A : List (List Int)) (t : Nat) (h : RdII w lo hi v A) (hA : AimOk A) (ht : (t : Int) ≤ 9223372036854775807) : Ca Tryz.prog 27 [v, .int .i64 t] w fun x w' => x = .tuple #[.int .i64 (mostV A (wtsV A t)), .int .i64 0] ∧ Chg [] w w' := by
  have hg := gr_all hA t
  refine q_of (Sat.nil w M0) Tryz.func27 rfl (by simp [Tryz.ntmps27]) ?_
  (refine q_seq (q_region (ql_pure tabOk rfl rfl (ql_pure tabOk rfl rfl (q_nil (q_seq (q_region (ql_pure tabOk rfl rfl (ql_pure tabOk rfl rfl ?_)))))))))
  refine ql_call (β := Nat) tabOk [] _ M0 rfl rfl rfl rfl (Sp.refl _) (fun _ h => h.elim) (fun w' hs => abest_ok w' lo hi v A t (h.keep hs.chg0) hA ht) ?_
  rintro b _ rfl
  dsimp only [List.cons_append, List.nil_append]
  (refine ql_pure tabOk rfl rfl ?_; (iterate 3 refine ql_ext tabOk rfl rfl rfl ?_); (iterate 3 refine ql_pure tabOk rfl rfl ?_); refine q_nil (q_seq (q_seq (q_region (ql_pure tabOk rfl rfl (ql_neqF tabOk rfl rfl rfl (by omega) (q_nil (q_cond_false rfl (q_skip (q_seq (q_region (ql_pure tabOk rfl rfl ?_))))))))))); refine ql_pure tabOk rfl rfl ?_)
  refine ql_callv (val := .tuple #[.int .i64 (mostV A (wtsV A t)), .int .i64 (shotV A (wtsV A t))]) tabOk rfl rfl rfl rfl (fun w hs => ?_) ?_; exact by have h9 := Blk.rdI (c := A.length) (hs.blk (b := b) (cs := ints (nI (wtsV A t))) (by repeat constructor)); rw [nI_len, hg.ok.len] at h9; exact helps_ca w lo hi _ _ _ _ A (wtsV A t) (h.keep hs.chg0) h9 hA hg.ok
  (refine ql_pure tabOk rfl rfl (ql_ext tabOk rfl rfl rfl (ql_ext tabOk rfl rfl rfl (ql_pure tabOk rfl rfl (ql_pure tabOk rfl rfl (q_nil (q_seq (q_region ?_))))))); (iterate 3 refine ql_pure tabOk rfl rfl ?_); refine q_nil (q_ret ?_))
  refine q_fin tabOk rfl (by repeat constructor) fun w hs => ?_
  exact ⟨rfl, hs.chg0⟩
/-- The curve. -/
def curveL (A : List (List Int)) (n : Nat) : List Int := (List.range n).map fun t => cvV A t
theorem curveL_succ (A : List (List Int)) (n : Nat) : ints (curveL A (n + 1)) = ints (curveL A n) ++ [.int .i64 (cvV A n)] := by
  unfold curveL
  rw [List.range_succ, List.map_append]
  simp [ints]
def manyN (A : List (List Int)) : Nat := (manyV A).toNat + 1
set_option maxHeartbeats 2000000 in
theorem acurve_ok (w : World) (lo hi : Nat) (v : Value) (A : List (List Int)) (h : RdII w lo hi v A) (hA : AimOk A) : Ca Tryz.prog 26 [v] w fun x w' => ∃ u : Value, x = .tuple #[u, .int .i64 0] ∧ Sat w M0 [.ow u 3 1 (manyN A) (ints (curveL A (manyN A)))] w' := by
  have n1 := hA.n1
  have n8 := hA.n8
  have hmn := many_nn hA
  have hml := many_le hA
  obtain ⟨a, c, rfl, ha⟩ := RdII.outI h
  have ha0 := ha
  obtain ⟨gb, go, rfl⟩ := ha0 (by omega)
  have hbd : ∀ k, k ≤ A.length → 0 ≤ smF (fun i => (amW A i : Int) - 1) k ∧ smF (fun i => (amW A i : Int) - 1) k ≤ 20 * k := fun k => by
    induction k with
    | zero => intro _; exact ⟨Int.le_refl _, Int.le_refl _⟩
    | succ k ih =>
      intro hk
      have h1 := ih (by omega)
      have h2 := hA.row k (by omega)
      simp only [smF]
      omega
  refine q_of (Sat.nil w M0) Tryz.func26 rfl (by simp [Tryz.ntmps26]) ?_
  (refine q_seq (q_region (ql_pure tabOk rfl rfl (ql_pure tabOk rfl rfl (q_nil (q_seq (q_seq (q_region (ql_pure tabOk rfl rfl ?_)))))))))
  refine ql_callv (val := .int .i64 0) tabOk rfl rfl rfl rfl (fun w hs => ?_) ?_; exact by have := checkA_ca w lo hi _ A (h.keep hs.chg0) (by simp only [maxLen]; omega); rw [chkA_zero.2 hA] at this; exact this
  (refine ql_pure tabOk rfl rfl (q_nil (q_seq (q_region (ql_pure tabOk rfl rfl (ql_neqF tabOk rfl rfl rfl (by omega) (q_nil (q_cond_false rfl (q_skip (q_seq (q_region (ql_pure tabOk rfl rfl ?_))))))))))); refine q_nil (q_seq (q_seq (q_region ?_))); (iterate 3 refine ql_pure tabOk rfl rfl ?_); refine q_nil (q_block ?_))
  refine q_loop (σ := Nat) (fun k => k ≤ A.length) (fun k => A.length - k) (fun k => [(0, .slice (some ⟨gb, go, none⟩) A.length c), (5, .int .i64 (1 + smF (fun i => (amW A i : Int) - 1) k)), (15, .slice (some ⟨gb, go, none⟩) A.length c), (16, .int .i64 A.length), (17, .int .i64 k)]) (fun _ => []) 0 (by omega) ⟨rfl, rfl, rfl, rfl, rfl, trivial⟩ (by repeat constructor) ?_
  rintro k hk K hK
  have b0 := hbd k hk
  (refine q_seq (q_region (ql_pure tabOk rfl rfl (q_nil (q_seq ?_)))))
  refine q_if rfl (fun hc => ?_) (fun hc => ?_)
  · have hk2 : k < A.length := by omega
    clear hc
    have hrow := hA.row k hk2
    have b1 := hbd (k + 1) (by omega)
    simp only [smF] at b1
    obtain ⟨rb, ro, rc, hr1, hr2⟩ := aim_row h hk2 (by omega)
    (refine q_skip (q_seq (q_block (q_seq (q_region ?_)))))
    refine ql_index tabOk rfl rfl rfl rfl rfl (by omega) (by omega) ?_
    refine ql_load1 tabOk rfl rfl rfl (fun w hs => hr1 _ hs.chg0) ?_
    (refine ql_pure tabOk rfl rfl (q_nil (q_region ?_)); (iterate 3 refine ql_pure tabOk rfl rfl ?_); refine ql_ar tabOk rfl rfl rfl rfl (by omega) (by omega) (ql_ar tabOk rfl rfl rfl rfl (by omega) (by omega) (ql_pure tabOk rfl rfl (q_nil (q_blk (q_region (ql_ar tabOk rfl rfl rfl rfl (by omega) (by omega) (ql_pure tabOk rfl rfl (q_nil ?_)))))))))
    exact hK (k + 1) _ _ (by omega) (by omega) ⟨rfl, lookI rfl (by simp only [smF]; omega), rfl, rfl, rfl, trivial⟩ (by repeat constructor)
  · obtain rfl : k = A.length := by omega
    clear hc hK
    have em : 1 + smF (fun i => (amW A i : Int) - 1) A.length = ((manyN A : Nat) : Int) := by
      have : smF (fun i => (amW A i : Int) - 1) A.length = manyV A := rfl
      unfold manyN
      omega
    rw [em]
    generalize hN : manyN A = N at *
    have hN2 : N ≤ 161 := by unfold manyN at hN; omega
    (refine q_exit _ rfl (q_seq (q_region (ql_pure tabOk rfl rfl (q_nil (q_seq (q_seq (q_region (ql_pure tabOk rfl rfl (ql_pure tabOk rfl rfl (q_nil (q_block ?_))))))))))))
    refine q_conv (H' := [.ow (.slice none 0 0) 3 1 0 (ints (curveL A 0))]) (fun w' hs => Sat.ownil hs 3 1) ?_
    refine q_loop (σ := Nat × Value) (fun z => z.1 ≤ N) (fun z => N - z.1) (fun z => [(0, .slice (some ⟨gb, go, none⟩) A.length c), (8, z.2), (27, .int .i64 N), (28, .int .i64 z.1)]) (fun z => [.ow z.2 3 1 z.1 (ints (curveL A z.1))]) (0, .slice none 0 0) (Nat.zero_le _) ⟨rfl, rfl, rfl, rfl, trivial⟩ (by repeat constructor) ?_
    rintro ⟨t, u⟩ ht K hK
    dsimp only at ht hK ⊢
    (refine q_seq (q_region (ql_pure tabOk rfl rfl (q_nil (q_seq ?_)))))
    refine q_if rfl (fun hc => ?_) (fun hc => ?_)
    · have ht2 : t < N := by omega
      clear hc
      have hg := gr_all hA t
      (refine q_skip (q_seq (q_block (q_seq (q_region (ql_pure tabOk rfl rfl (ql_pure tabOk rfl rfl (q_nil (q_region ?_)))))))); (iterate 4 refine ql_pure tabOk rfl rfl ?_))
      refine ql_call (β := Nat) tabOk [] _ M0 rfl rfl rfl rfl (Sp.refl _) (fun _ h => h.elim) (fun w' hs => waits_ca w' lo hi _ A t (h.keep hs.chg0) hA (by omega)) ?_
      rintro b _ rfl
      dsimp only [List.cons_append, List.nil_append]
      skip
      refine ql_callv (val := .int .i64 (cvV A t)) tabOk rfl rfl rfl rfl (fun w hs => ?_) ?_; exact by have h9 := Blk.rdI (c := A.length) (hs.blk (b := b) (cs := ints (nI (wtsV A t))) (by repeat constructor)); rw [nI_len, hg.ok.len] at h9; exact missed_ca w lo hi _ _ _ _ A (wtsV A t) (h.keep hs.chg0) h9 hA hg.ok
      skip
      refine ql_mkS 3 [.int .i64 (cvV A t)] rfl (by kernel_rfl) rfl (fun bn => ?_)
      skip
      refine ql_append (q := 1) (news := [.int .i64 (cvV A t)]) slI rfl rfl rfl (fun v' => by repeat constructor) (fun w' hs => ⟨_, _, Blk.rdN (hs.blk (b := bn) (by repeat constructor)) rfl⟩) (by simp [oneV]) (by omega) (by omega) (fun u' => ?_)
      (refine ql_pure tabOk rfl rfl (q_nil (q_blk (q_region (ql_ar tabOk rfl rfl rfl rfl (by omega) (by omega) (ql_pure tabOk rfl rfl (q_nil ?_)))))))
      exact hK (t + 1, u') _ _ (by simp only; omega) (by simp only; omega) ⟨rfl, rfl, rfl, rfl, trivial⟩ (by dsimp only; rw [curveL_succ]; repeat constructor)
    · obtain rfl : t = N := by omega
      (refine q_exit _ rfl (q_seq (q_region ?_)); (iterate 3 refine ql_pure tabOk rfl rfl ?_); refine q_nil (q_ret ?_))
      refine q_fin tabOk rfl (by repeat constructor) fun w hs => ?_
      exact ⟨u, rfl, hs.sp (by repeat constructor)⟩
end Go.Proofs.YtopdmadgkjdgcaaGreat

/- Walks of rifle: which scales are right; spans. -/
namespace Go.Proofs.YtopdmadgkjdgcaaGreat
set_option maxRecDepth 4000
open Go Go.Eng
/-- A scale as cells. -/
abbrev scC (s : Sc) (tv rv : Value) : List Value := [.int .i64 s.err, .int .i64 s.least, tv, rv]
/-- A scale that can be read. -/
structure ScR (w : World) (lo hi : Nat) (tv rv : Value) (s : Sc) : Prop where
  t : RdS w lo hi tv s.tests
  r : RdI w lo hi rv s.rifles
theorem ScR.keep {w w' : World} {lo hi : Nat} {tv rv : Value} {s : Sc} (h : ScR w lo hi tv rv s) (c : Chg [] w w') : ScR w' lo hi tv rv s := ⟨RdE.keep h.t c, RdE.keep h.r c⟩
def tstB (t : Int × Int) : Bool := inB t.1 1 10000 && inB t.2 0 20000
def pTst : Value → Bool
  | .agg cs => match cs.toList with
    | [.int _ a, .int _ b] => tstB (a, b)
    | _ => false
  | _ => false
theorem pTst_all (l : List (Int × Int)) : (l.map rtV).all pTst = l.all tstB := by
  rw [List.all_map]
  rfl
/-- The error of a scale. -/
def chkS (s : Sc) : Int := if 10 < s.tests.length ∨ inB s.rifles.length 1 8 = false then 2 else if (inB s.err 0 100 && inB s.least 1 10000) = false then 3 else if s.tests.all tstB = false then 3 else if (s.rifles.all fun n => inB n 0 20000) = false then 3 else 0
theorem chkS_zero {s : Sc} : chkS s = 0 ↔ s.Ok := by
  unfold chkS
  constructor
  · intro h
    split at h
    · omega
    rename_i h1
    split at h
    · omega
    rename_i h2
    split at h
    · omega
    rename_i h3
    split at h
    · omega
    rename_i h4
    simp only [Bool.not_eq_false, Bool.and_eq_true, not_or] at h1 h2 h3 h4
    have r := inB_iff.1 h1.2
    exact ⟨by omega, by omega, by omega, inB_iff.1 h2.1, inB_iff.1 h2.2, fun t ht => by
      have := List.all_eq_true.1 h3 t ht
      simp only [tstB, Bool.and_eq_true] at this
      exact ⟨inB_iff.1 this.1, inB_iff.1 this.2⟩, fun n hn => inB_iff.1 (List.all_eq_true.1 h4 n hn)⟩
  · intro h
    have h1 := h.tn
    have h2 := h.rn1
    have h3 := h.rn8
    rw [if_neg, if_neg, if_neg, if_neg]
    · simp only [Bool.not_eq_false]
      exact List.all_eq_true.2 fun n hn => inB_iff.2 (h.rifle n hn)
    · simp only [Bool.not_eq_false]
      exact List.all_eq_true.2 fun t ht => by
        have := h.test t ht
        simp only [tstB, Bool.and_eq_true]
        exact ⟨inB_iff.2 this.1, inB_iff.2 this.2⟩
    · rw [inB_iff.2 h.err, inB_iff.2 h.least]
      simp
    · rw [inB_iff.2 (show (1 : Int) ≤ s.rifles.length ∧ (s.rifles.length : Int) ≤ 8 by omega)]
      simp
      omega
theorem checkS1_p (w : World) (l : List (Int × Int)) : PredAt Tryz.prog tab w (.func (.func 111) #[] #[]) (l.map rtV) pTst := by
  refine ⟨_, _, _, rfl, rfl, fun w' hw' x hx => ?_⟩
  obtain ⟨⟨x, y⟩, hy, rfl⟩ := List.mem_map.1 hx
  refine q_of (Sat.nil w' M0) Tryz.func111 rfl (by simp [Tryz.ntmps111]) ?_
  (refine q_seq (q_region ?_))
  refine ql_box rfl rfl (fun b1 => ?_)
  (refine ql_pure tabOk rfl rfl (q_nil (q_seq (q_region (ql_pure tabOk rfl rfl ?_)))); refine ql_loadBa tabOk rfl rfl rfl ?_)
  refine ql_callv (val := .bool (inB x 1 10000)) tabOk rfl rfl rfl rfl (fun w hs => ?_) ?_; exact rfin_ca x 1 10000 w
  (refine ql_pure tabOk rfl rfl ?_)
  refine ql_split rfl rfl (fun hc => ?_) (fun hc => ?_)
  · (refine ql_gyes rfl (ql_pure tabOk rfl rfl (ql_gyes rfl ?_)); refine ql_loadBa tabOk rfl rfl rfl ?_; refine ql_gyes rfl ?_)
    refine ql_callv (val := .bool (inB y 0 20000)) tabOk rfl rfl rfl rfl (fun w hs => ?_) ?_; exact rfin_ca y 0 20000 w
    (refine ql_pure tabOk rfl rfl (ql_pure tabOk rfl rfl (q_nil (q_ret ?_))))
    refine q_fin tabOk rfl (by repeat constructor) fun w hs => ?_
    exact ⟨by simp [Eng.retV, pTst, tstB, *], hs.chg0⟩
  · ((iterate 3 refine ql_gno rfl rfl rfl ?_); refine ql_pure tabOk rfl rfl (ql_pure tabOk rfl rfl (q_nil (q_ret ?_))))
    refine q_fin tabOk rfl (by repeat constructor) fun w hs => ?_
    exact ⟨by simp [Eng.retV, pTst, tstB, *], hs.chg0⟩
theorem checkS2_p (w : World) (c : List Int) : PredAt Tryz.prog tab w (.func (.func 113) #[] #[]) (ints c) (fun x => match x with | .int _ i => inB i 0 20000 | _ => false) := by
  refine ⟨_, _, _, rfl, rfl, fun w' hw' x hx => ?_⟩
  obtain ⟨i, hi, rfl⟩ := List.mem_map.1 hx
  refine q_of (Sat.nil w' M0) Tryz.func113 rfl (by simp [Tryz.ntmps113]) ?_
  (refine q_seq (q_region (ql_pure tabOk rfl rfl (q_nil (q_seq (q_region (ql_pure tabOk rfl rfl ?_)))))))
  refine ql_callv (val := .bool (inB i 0 20000)) tabOk rfl rfl rfl rfl (fun w hs => ?_) ?_; exact rfin_ca i 0 20000 w
  (refine ql_pure tabOk rfl rfl (q_nil (q_ret ?_)))
  refine q_fin tabOk rfl (by repeat constructor) fun w hs => ?_
  exact ⟨rfl, hs.chg0⟩
set_option maxHeartbeats 1000000 in
theorem checkS_ca (w : World) (lo hi : Nat) (s : Sc) (tv rv : Value) (h : ScR w lo hi tv rv s) (hl1 : s.tests.length ≤ maxLen) (hl2 : s.rifles.length ≤ maxLen) : Ca Tryz.prog 32 [.agg (scC s tv rv).toArray] w fun x w' => x = .int .i64 (chkS s) ∧ Chg [] w w' := by
  obtain ⟨ta, tc, rfl, _⟩ := RdS.outI h.t
  obtain ⟨ra, rc, rfl, _⟩ := RdI.outI h.r
  simp only [maxLen] at hl1 hl2
  refine q_of (Sat.nil w M0) Tryz.func32 rfl (by simp [Tryz.ntmps32]) ?_
  (refine q_seq (q_region ?_))
  refine ql_box rfl rfl (fun b1 => ?_)
  rw [agg_cells]
  by_cases h1 : 10 < s.tests.length
  · have e : chkS s = 2 := by unfold chkS; rw [if_pos (.inl h1)]
    rw [e]
    (refine ql_pure tabOk rfl rfl (q_nil (q_seq (q_block (q_seq (q_region (ql_pure tabOk rfl rfl ?_)))))); refine ql_loadBa tabOk rfl rfl rfl ?_; refine ql_pure tabOk rfl rfl (ql_gtrT tabOk rfl rfl rfl (by omega) (ql_pure tabOk rfl rfl ?_)); (iterate 5 refine ql_gno rfl rfl rfl ?_); refine ql_pure tabOk rfl rfl (ql_pure tabOk rfl rfl (q_nil (q_cond_true rfl (q_seq (q_region (ql_pure tabOk rfl rfl (q_nil (q_ret ?_)))))))))
    refine q_fin tabOk rfl (by repeat constructor) fun w hs => ?_
    exact ⟨rfl, hs.chg0⟩
  · (refine ql_pure tabOk rfl rfl (q_nil (q_seq (q_block (q_seq (q_region (ql_pure tabOk rfl rfl ?_)))))); refine ql_loadBa tabOk rfl rfl rfl ?_; refine ql_pure tabOk rfl rfl (ql_gtrF tabOk rfl rfl rfl (by omega) (ql_pure tabOk rfl rfl (ql_gyes rfl (ql_pure tabOk rfl rfl (ql_gyes rfl ?_))))); refine ql_loadBa tabOk rfl rfl rfl ?_; refine ql_gyes rfl (ql_pure tabOk rfl rfl (ql_gyes rfl ?_)))
    refine ql_callv (val := .bool (inB s.rifles.length 1 8)) tabOk rfl rfl rfl rfl (fun w hs => ?_) ?_; exact rfin_ca s.rifles.length 1 8 w
    cases h2 : inB s.rifles.length 1 8 with
    | false =>
      have e : chkS s = 2 := by unfold chkS; rw [if_pos (.inr h2)]
      rw [e]
      (refine ql_gyes rfl ?_; (iterate 3 refine ql_pure tabOk rfl rfl ?_); refine q_nil (q_cond_true rfl (q_seq (q_region (ql_pure tabOk rfl rfl (q_nil (q_ret ?_)))))))
      refine q_fin tabOk rfl (by repeat constructor) fun w hs => ?_
      exact ⟨rfl, hs.chg0⟩
    | true =>
      have hr8 := inB_iff.1 h2
      have e : chkS s = if (inB s.err 0 100 && inB s.least 1 10000) = false then 3 else if s.tests.all tstB = false then 3 else if (s.rifles.all fun n => inB n 0 20000) = false then 3 else 0 := by
        unfold chkS
        rw [if_neg (by rw [h2]; simp; omega)]
      rw [e]
      (refine ql_gyes rfl ?_; (iterate 3 refine ql_pure tabOk rfl rfl ?_); refine q_nil (q_cond_false rfl (q_seq (q_region (ql_pure tabOk rfl rfl ?_)))); refine ql_loadBa tabOk rfl rfl rfl ?_)
      refine ql_callv (val := .bool (inB s.err 0 100)) tabOk rfl rfl rfl rfl (fun w hs => ?_) ?_; exact rfin_ca s.err 0 100 w
      cases h3 : inB s.err 0 100 with
      | false =>
        (refine ql_pure tabOk rfl rfl (ql_pure tabOk rfl rfl ?_); (iterate 4 refine ql_gno rfl rfl rfl ?_); refine ql_pure tabOk rfl rfl (ql_pure tabOk rfl rfl (q_nil (q_cond_true rfl (q_seq (q_region (ql_pure tabOk rfl rfl (q_nil (q_ret ?_)))))))))
        refine q_fin tabOk rfl (by repeat constructor) fun w hs => ?_
        exact ⟨rfl, hs.chg0⟩
      | true =>
        (refine ql_pure tabOk rfl rfl (ql_pure tabOk rfl rfl (ql_gyes rfl (ql_pure tabOk rfl rfl (ql_gyes rfl ?_)))); refine ql_loadBa tabOk rfl rfl rfl ?_; refine ql_gyes rfl ?_)
        refine ql_callv (val := .bool (inB s.least 1 10000)) tabOk rfl rfl rfl rfl (fun w hs => ?_) ?_; exact rfin_ca s.least 1 10000 w
        cases h4 : inB s.least 1 10000 with
        | false =>
          (refine ql_gyes rfl ?_; (iterate 3 refine ql_pure tabOk rfl rfl ?_); refine q_nil (q_cond_true rfl (q_seq (q_region (ql_pure tabOk rfl rfl (q_nil (q_ret ?_)))))))
          refine q_fin tabOk rfl (by repeat constructor) fun w hs => ?_
          exact ⟨rfl, hs.chg0⟩
        | true =>
          rw [if_neg (by simp)]
          (refine ql_gyes rfl ?_; (iterate 3 refine ql_pure tabOk rfl rfl ?_); refine q_nil (q_cond_false rfl (q_seq (q_region (ql_pure tabOk rfl rfl ?_)))); refine ql_loadBa tabOk rfl rfl rfl ?_)
          refine ql_callv (val := .bool (s.tests.all tstB)) tabOk rfl rfl rfl rfl (fun w hs => ?_) ?_; exact by have := all_test w lo hi _ _ (s.tests.map rtV) pTst (RdE.keep h.t hs.chg0) (rtV_agg s.tests) (by rw [List.length_map]; omega) (checkS1_p w s.tests); rw [pTst_all] at this; exact this
          cases h5 : s.tests.all tstB with
          | false =>
            (refine ql_pure tabOk rfl rfl (ql_pure tabOk rfl rfl (q_nil (q_cond_true rfl (q_seq (q_region (ql_pure tabOk rfl rfl (q_nil (q_ret ?_)))))))))
            refine q_fin tabOk rfl (by repeat constructor) fun w hs => ?_
            exact ⟨rfl, hs.chg0⟩
          | true =>
            rw [if_neg (by simp)]
            (refine ql_pure tabOk rfl rfl (ql_pure tabOk rfl rfl (q_nil (q_cond_false rfl (q_seq (q_region (ql_pure tabOk rfl rfl ?_)))))); refine ql_loadBa tabOk rfl rfl rfl ?_)
            refine ql_callv (val := .bool (s.rifles.all fun n => inB n 0 20000)) tabOk rfl rfl rfl rfl (fun w hs => ?_) ?_; exact by have := all_rint w lo hi _ _ (ints s.rifles) _ (RdE.keep h.r hs.chg0) (by intro i hi; simp [ints, oneV]) (by simp [ints]; omega) (checkS2_p w s.rifles); unfold ints at this; rw [List.all_map] at this; exact this
            cases h6 : (s.rifles.all fun n => inB n 0 20000) with
            | false =>
              (refine ql_pure tabOk rfl rfl (ql_pure tabOk rfl rfl (q_nil (q_cond_true rfl (q_seq (q_region (ql_pure tabOk rfl rfl (q_nil (q_ret ?_)))))))))
              refine q_fin tabOk rfl (by repeat constructor) fun w hs => ?_
              exact ⟨rfl, hs.chg0⟩
            | true =>
              rw [if_neg (by simp)]
              (refine ql_pure tabOk rfl rfl (ql_pure tabOk rfl rfl (q_nil (q_cond_false rfl (q_skip (q_blk (q_seq (q_region (ql_pure tabOk rfl rfl (q_nil (q_ret ?_)))))))))))
              refine q_fin tabOk rfl (by repeat constructor) fun w hs => ?_
              exact ⟨rfl, hs.chg0⟩
abbrev spV2 (p : Int × Int) : Value := .agg #[.int .i64 p.1, .int .i64 p.2]
theorem allows_ca (s : Sc) (tv rv : Value) (t : Int × Int) (he : 0 ≤ s.err ∧ s.err ≤ 100) (ht : (1 ≤ t.1 ∧ t.1 ≤ 10000) ∧ 0 ≤ t.2 ∧ t.2 ≤ 20000) (w : World) : Ca Tryz.prog 119 [.agg (scC s tv rv).toArray, spV2 t] w fun x w' => x = spV2 (alwV s t) ∧ Chg [] w w' := by
  refine q_of (Sat.nil w M0) Tryz.func119 rfl (by simp [Tryz.ntmps119]) ?_
  (refine q_seq (q_region ?_))
  refine ql_box rfl rfl (fun b2 => ?_)
  refine ql_box rfl rfl (fun b3 => ?_)
  rw [agg_cells]
  skip
  refine ql_alloc zero56 rfl (fun b4 => ?_)
  (refine q_nil (q_seq (q_region (ql_pure tabOk rfl rfl ?_))); refine ql_loadBa tabOk rfl rfl rfl ?_; refine ql_pure tabOk rfl rfl ?_; refine ql_loadBa tabOk rfl rfl rfl ?_; refine ql_ar tabOk rfl rfl rfl rfl (by omega) (by omega) (ql_pure tabOk rfl rfl (q_nil (q_seq (q_region (ql_pure tabOk rfl rfl (ql_pure tabOk rfl rfl ?_)))))); refine ql_loadBa tabOk rfl rfl rfl ?_; refine ql_ar tabOk rfl rfl rfl rfl (by omega) (by omega) ?_; (iterate 3 refine ql_pure tabOk rfl rfl ?_); refine ql_loadBa tabOk rfl rfl rfl ?_; refine ql_ar tabOk rfl rfl rfl rfl (by omega) (by omega) (ql_pure tabOk rfl rfl ?_))
  refine ql_mk #[.int .i64 (max (-1000) (t.2 - t.1 - s.err)), .int .i64 (min 1000 (t.2 - t.1 + s.err))] rfl (by kernel_rfl) rfl ?_
  (refine ql_setA tabOk rfl rfl rfl rfl rfl (by repeat constructor) rfl ?_; refine q_nil (q_ret ?_))
  refine q_fin tabOk rfl (by repeat constructor) fun w hs => ?_
  exact ⟨rfl, hs.chg0⟩
def mxF (a : Int) (l : List Int) : Int := l.foldl max a
theorem great_ca (w : World) (lo hi : Nat) (a : Int) (v : Value) (l : List Int) (h : RdI w lo hi v l) (hlen : l.length ≤ 1000000) : Ca Tryz.prog 135 [.int .i64 a, v] w fun x w' => x = .int .i64 (mxF a l) ∧ Chg [] w w' := by
  obtain ⟨p, cap, rfl, hs⟩ := h.outI
  refine q_of (Sat.nil w M0) Tryz.func135 rfl (by simp [Tryz.ntmps135]) ?_
  (refine q_seq (q_region (ql_pure tabOk rfl rfl (q_nil (q_seq (q_seq (q_region ?_)))))); (iterate 3 refine ql_pure tabOk rfl rfl ?_); refine q_nil (q_block ?_))
  refine q_loop (σ := Nat) (fun k => k ≤ l.length) (fun k => l.length - k) (fun k => [(0, .int .i64 (mxF a (l.take k))), (7, .slice p l.length cap), (8, .int .i64 l.length), (9, .int .i64 k)]) (fun _ => []) 0 (by omega) ⟨rfl, rfl, rfl, rfl, trivial⟩ .nil ?_
  intro k hk K hK
  (refine q_seq (q_region (ql_pure tabOk rfl rfl (q_nil (q_seq ?_)))))
  refine q_if rfl (fun hc => ?_) (fun hc => ?_)
  · have hk : k < l.length := by omega
    obtain ⟨b, off, rfl⟩ := hs (by omega)
    (refine q_skip (q_seq (q_block (q_seq (q_region ?_)))))
    (refine ql_index tabOk rfl rfl rfl rfl rfl (by omega) (by omega) ?_; refine ql_load1 tabOk rfl rfl rfl (fun w hs => RdI.at (RdE.keep h hs.chg0) k hk) ?_)
    (refine ql_pure tabOk rfl rfl (q_nil (q_region ?_)); (iterate 4 refine ql_pure tabOk rfl rfl ?_); refine q_nil (q_blk (q_region (ql_ar tabOk rfl rfl rfl rfl (by omega) (by omega) (ql_pure tabOk rfl rfl (q_nil ?_))))))
    exact hK (k + 1) _ _ (by omega) (by omega) ⟨by
      have e : mxF a (l.take (k + 1)) = max (mxF a (l.take k)) l[k] := by
        unfold mxF
        rw [List.take_succ_eq_append_getElem hk, List.foldl_append]
        rfl
      rw [e]
      rfl, rfl, rfl, rfl, trivial⟩ .nil
  · obtain rfl : k = l.length := by omega
    rw [List.take_length]
    (refine q_exit _ rfl (q_seq (q_region (ql_pure tabOk rfl rfl (ql_pure tabOk rfl rfl (q_nil (q_ret ?_)))))))
    refine q_fin tabOk rfl (by repeat constructor) fun w hs => ?_
    exact ⟨rfl, hs.chg0⟩
theorem common_ca (a b : Int × Int) (w : World) : Ca Tryz.prog 118 [spV2 a, spV2 b] w fun x w' => x = spV2 (comV a b) ∧ Chg [] w w' := by
  refine q_of (Sat.nil w M0) Tryz.func118 rfl (by simp [Tryz.ntmps118]) ?_
  (refine q_seq (q_region ?_))
  refine ql_box rfl rfl (fun b2 => ?_)
  refine ql_box rfl rfl (fun b3 => ?_)
  skip
  refine ql_alloc zero56 rfl (fun b4 => ?_)
  (refine q_nil (q_seq ?_))
  refine q_drawS 12 _ [.pt b4 _ _] (Sp.cons (by repeat constructor) (Sp.refl _)) (by kernel_rfl) (by kernel_rfl) (by kernel_rfl) fun K1 hK1 => ?_
  (refine qf_pure tabOk rfl rfl rfl ?_; refine qf_loadBa tabOk rfl rfl rfl ?_; refine qf_pure tabOk rfl rfl rfl ?_; refine qf_loadBa tabOk rfl rfl rfl ?_)
  refine qf_mkS 3 [.int .i64 b.1] rfl (by kernel_rfl) rfl (fun bn => ?_)
  skip
  refine qf_callv (val := .int .i64 (max a.1 b.1)) tabOk rfl rfl rfl rfl (fun w hs => ?_) ?_; exact by have := great_ca w _ _ a.1 _ [b.1] (Blk.rdI (c := 1) (hs.blk (b := bn) (cs := ints [b.1]) (by repeat constructor))) (by simp); exact this
  (refine qf_pure tabOk rfl rfl rfl ?_; refine qf_loadBa tabOk rfl rfl rfl ?_; refine qf_pure tabOk rfl rfl rfl ?_; refine qf_loadBa tabOk rfl rfl rfl ?_; refine qf_pure tabOk rfl rfl rfl ?_)
  refine qf_mk #[.int .i64 (max a.1 b.1), .int .i64 (min a.2 b.2)] rfl (by kernel_rfl) rfl ?_
  (refine qf_nil ?_)
  refine hK1 _ _ [.pt b4 _ _] (Sp.cons (by repeat constructor) ((by repeat constructor))) ?_
  (refine qf_setA tabOk rfl rfl rfl rfl rfl (by repeat constructor) rfl ?_; refine qf_nil (q_ret ?_))
  refine q_fin tabOk rfl (by repeat constructor) fun w hs => ?_
  exact ⟨rfl, hs.chg0⟩
end Go.Proofs.YtopdmadgkjdgcaaGreat

/- Walks of rifle: a scale at work. -/
namespace Go.Proofs.YtopdmadgkjdgcaaGreat
set_option maxRecDepth 4000
open Go Go.Eng
/-- What is known, as cells. -/
abbrev knC (k : Kn) : List Value := .int .i64 k.lo :: .int .i64 k.hi :: (bools k.p ++ bools k.f)
abbrev knV (k : Kn) : Value := .agg (knC k).toArray
/-- A desk's cells. -/
abbrev dskC (s : Sc) (tv rv : Value) (k : Kn) : List Value := scC s tv rv ++ knC k
abbrev dskZ (s : Sc) (tv rv : Value) (lo hi : Int) : List Value := [.int .i64 s.err, .int .i64 s.least, tv, rv, .int .i64 lo, .int .i64 hi, .bool false, .bool false, .bool false, .bool false, .bool false, .bool false, .bool false, .bool false, .bool false, .bool false, .bool false, .bool false, .bool false, .bool false, .bool false, .bool false]
theorem off_take (s : Sc) (l : List (Int × Int)) (k : Nat) (hk : k < l.length) : offL s (l.take (k + 1)) = comV (offL s (l.take k)) (alwV s l[k]) := by
  unfold offL
  rw [List.take_succ_eq_append_getElem hk, List.foldl_append]
  rfl
set_option maxHeartbeats 2000000 in
/-- A scale at work, if no tests contradict each other. -/
theorem rask_both (w : World) (lo hi : Nat) (s : Sc) (tv rv : Value) (h : ScR w lo hi tv rv s) (hs0 : s.Ok) : Ca Tryz.prog 115 [.agg (scC s tv rv).toArray] w fun x w' => ∃ bd : Nat, (x = if (offV s).1 ≤ (offV s).2 then .tuple #[.pointer (some ⟨bd, 0, none⟩), .int .i64 0] else .tuple #[.pointer none, .int .i64 7]) ∧ Sat w M0 [.pt bd (dskC s tv rv (firstK s)) 184] w' := by
  have htn := hs0.tn
  have hrn := hs0.rn8
  have he := hs0.err
  have hob : ∀ l, -1000 ≤ (offL s l).1 ∧ (offL s l).2 ≤ 1000 := fun l => offL_bd s l (-1000, 1000)
  have hot : ∀ k, k ≤ s.tests.length → (offL s (s.tests.take k)).1 ≤ 30000 ∧ -30000 ≤ (offL s (s.tests.take k)).2 := fun k => by
    induction k with
    | zero => intro _; simp [offL]
    | succ k ih =>
      intro hk
      have h1 := ih (by omega)
      have h2 := hs0.test _ (List.getElem_mem (show k < s.tests.length by omega))
      rw [off_take s s.tests k (by omega)]
      simp only [comV, alwV]
      omega
  obtain ⟨ta, tc, rfl, hta⟩ := RdS.outI h.t
  refine q_of (Sat.nil w M0) Tryz.func115 rfl (by simp [Tryz.ntmps115]) ?_
  (refine q_seq (q_region ?_))
  refine ql_box rfl rfl (fun b1 => ?_)
  rw [agg_cells]
  (refine ql_pure tabOk rfl rfl (ql_pure tabOk rfl rfl (q_nil (q_seq (q_seq (q_region ?_))))); refine ql_loadABa tabOk rfl rfl rfl ?_)
  refine ql_callv (val := .int .i64 0) tabOk rfl rfl rfl rfl (fun w hs => ?_) ?_; exact by have := checkS_ca w lo hi s _ rv (h.keep hs.chg0) (by simp only [maxLen]; omega) (by simp only [maxLen]; omega); rw [chkS_zero.2 hs0] at this; exact this
  (refine ql_pure tabOk rfl rfl (q_nil (q_seq (q_region (ql_pure tabOk rfl rfl (ql_neqF tabOk rfl rfl rfl (by omega) (q_nil (q_cond_false rfl (q_skip (q_seq (q_region ?_)))))))))); refine ql_loadABa tabOk rfl rfl rfl ?_)
  refine ql_mk #[.int .i64 s.err, .int .i64 s.least, .slice ta s.tests.length tc, rv, .int .i64 0, .int .i64 0, .bool false, .bool false, .bool false, .bool false, .bool false, .bool false, .bool false, .bool false, .bool false, .bool false, .bool false, .bool false, .bool false, .bool false, .bool false, .bool false] rfl (by kernel_rfl) rfl ?_
  refine ql_box rfl rfl (fun b5 => ?_)
  (refine ql_pure tabOk rfl rfl (q_nil (q_seq (q_region (ql_pure tabOk rfl rfl ?_)))))
  refine ql_mk #[.int .i64 (-1000), .int .i64 1000] rfl (by kernel_rfl) rfl ?_
  ((iterate 3 refine ql_pure tabOk rfl rfl ?_))
  refine ql_stA (dskZ s (.slice ta s.tests.length tc) rv (-1000) 1000) tabOk rfl rfl rfl rfl rfl (by repeat constructor) rfl rfl ?_
  (refine q_nil (q_seq (q_seq (q_region (ql_pure tabOk rfl rfl ?_)))); refine ql_loadBa tabOk rfl rfl rfl ?_; refine ql_pure tabOk rfl rfl (ql_pure tabOk rfl rfl (q_nil (q_block ?_))))
  have e0 : offL s (s.tests.take 0) = (-1000, 1000) := rfl
  refine q_loop (σ := Nat) (fun k => k ≤ s.tests.length) (fun k => s.tests.length - k) (fun k => [(1, .pointer (some ⟨b1, 0, none⟩)), (2, .pointer none), (3, .int .i64 0), (5, .pointer (some ⟨b5, 0, none⟩)), (22, .slice ta s.tests.length tc), (23, .int .i64 s.tests.length), (24, .int .i64 k)]) (fun k => [.pt b5 (dskZ s (.slice ta s.tests.length tc) rv (offL s (s.tests.take k)).1 (offL s (s.tests.take k)).2) 184, .pt b1 (scC s (.slice ta s.tests.length tc) rv) 46]) 0 (by omega) ⟨rfl, rfl, rfl, rfl, rfl, rfl, rfl, trivial⟩ (by repeat constructor) ?_
  rintro k hk K hK
  have ho := hot k hk
  have ho2 := hob (s.tests.take k)
  (refine q_seq (q_region (ql_pure tabOk rfl rfl (q_nil (q_seq ?_)))))
  refine q_if rfl (fun hc => ?_) (fun hc => ?_)
  · have hk2 : k < s.tests.length := by omega
    clear hc
    have hsu := off_take s s.tests k hk2
    obtain ⟨gb, go, rfl⟩ := hta (by omega)
    obtain ⟨⟨t1, t2⟩, ht⟩ : ∃ t, s.tests[k] = t := ⟨_, rfl⟩
    have htb := hs0.test _ (List.getElem_mem hk2)
    rw [ht] at htb hsu
    generalize offL s (s.tests.take k) = off at *
    obtain ⟨o1, o2⟩ := off
    dsimp only at ho ho2 htb ⊢
    (refine q_skip (q_seq (q_block (q_seq (q_region ?_)))))
    refine ql_index tabOk rfl rfl rfl rfl rfl (by omega) (by omega) ?_
    refine ql_loadA (cs := [.int .i64 t1, .int .i64 t2]) tabOk rfl rfl rfl rfl (fun w hs q hq => by have := RdS.at (RdE.keep h.t hs.chg0) k hk2 q hq; rw [ht] at this; exact this) ?_
    refine ql_alloc zero78 rfl (fun b7 => ?_)
    (refine ql_setA tabOk rfl rfl rfl rfl rfl (by repeat constructor) rfl ?_; refine q_nil ?_)
    refine q_drawS 13 _ [.pt b5 _ _] (Sp.cons (by repeat constructor) (Sp.refl _)) (by kernel_rfl) (by kernel_rfl) (by kernel_rfl) fun K1 hK1 => ?_
    ((iterate 5 refine qf_pure tabOk rfl rfl rfl ?_); (iterate 3 refine qf_loadABa tabOk rfl rfl rfl ?_))
    refine qf_callv (val := spV2 (alwV s (t1, t2))) tabOk rfl rfl rfl rfl (fun w hs => ?_) ?_; exact allows_ca s _ rv (t1, t2) he htb w
    skip
    refine qf_callv (val := spV2 (comV (o1, o2) (alwV s (t1, t2)))) tabOk rfl rfl rfl rfl (fun w hs => ?_) ?_; exact common_ca (o1, o2) (alwV s (t1, t2)) w
    ((iterate 3 refine qf_pure tabOk rfl rfl rfl ?_); refine qf_nil ?_)
    refine hK1 _ _ [.pt b5 _ _] (Sp.cons (by repeat constructor) ((by repeat constructor))) ?_
    skip
    refine qf_stA (dskZ s (.slice (some ⟨gb, go, none⟩) s.tests.length tc) rv (comV (o1, o2) (alwV s (t1, t2))).1 (comV (o1, o2) (alwV s (t1, t2))).2) tabOk rfl rfl rfl rfl rfl (by repeat constructor) rfl rfl ?_
    (refine qf_nil (q_blk (q_region (ql_ar tabOk rfl rfl rfl rfl (by omega) (by omega) (ql_pure tabOk rfl rfl (q_nil ?_))))))
    exact hK (k + 1) _ _ (by omega) (by omega) ⟨rfl, rfl, rfl, rfl, rfl, rfl, rfl, trivial⟩ (by rw [hsu]; repeat constructor)
  · obtain rfl : k = s.tests.length := by omega
    clear hc hK
    rw [List.take_length] at ho ⊢
    have hoff : offL s s.tests = offV s := rfl
    rw [hoff] at ho ⊢
    obtain ⟨o1, hO1⟩ : ∃ o, (offV s).1 = o := ⟨_, rfl⟩
    obtain ⟨o2, hO2⟩ : ∃ o, (offV s).2 = o := ⟨_, rfl⟩
    have efst : dskC s (.slice ta s.tests.length tc) rv (firstK s) = dskZ s (.slice ta s.tests.length tc) rv o1 o2 := by rw [← hO1, ← hO2]; rfl
    rw [efst, hO1, hO2]
    by_cases hc : o1 ≤ o2
    · (refine q_exit _ rfl (q_seq (q_seq ?_)))
      refine q_draw _ [] (Sp.refl _) (by kernel_rfl) (by kernel_rfl) ?_
      ((iterate 5 refine qf_pure tabOk rfl rfl rfl ?_); refine qf_loadBa tabOk rfl rfl rfl ?_; (iterate 5 refine qf_pure tabOk rfl rfl rfl ?_); refine qf_loadBa tabOk rfl rfl rfl ?_; refine qf_gtrF tabOk rfl rfl rfl (by omega) (qf_nil (q_cond_false rfl (q_skip (q_seq (q_region ?_))))); (iterate 3 refine ql_pure tabOk rfl rfl ?_); refine q_nil (q_ret ?_))
      refine q_fin tabOk rfl (by repeat constructor) fun w hs => ?_
      exact ⟨b5, by rw [if_pos hc]; rfl, hs.sp (by repeat constructor)⟩
    · (refine q_exit _ rfl (q_seq (q_seq ?_)))
      refine q_draw _ [] (Sp.refl _) (by kernel_rfl) (by kernel_rfl) ?_
      ((iterate 5 refine qf_pure tabOk rfl rfl rfl ?_); refine qf_loadBa tabOk rfl rfl rfl ?_; (iterate 5 refine qf_pure tabOk rfl rfl rfl ?_); refine qf_loadBa tabOk rfl rfl rfl ?_; refine qf_gtrT tabOk rfl rfl rfl (by omega) (qf_nil (q_cond_true rfl (q_seq (q_region (ql_pure tabOk rfl rfl (ql_pure tabOk rfl rfl (q_nil (q_ret ?_)))))))))
      refine q_fin tabOk rfl (by repeat constructor) fun w hs => ?_
      exact ⟨b5, by rw [if_neg hc]; rfl, hs.sp (by repeat constructor)⟩
theorem rask_ok (w : World) (lo hi : Nat) (s : Sc) (tv rv : Value) (h : ScR w lo hi tv rv s) (hs0 : s.Ok) (ho : (offV s).1 ≤ (offV s).2) : Ca Tryz.prog 115 [.agg (scC s tv rv).toArray] w fun x w' => ∃ bd : Nat, x = .tuple #[.pointer (some ⟨bd, 0, none⟩), .int .i64 0] ∧ Sat w M0 [.pt bd (dskC s tv rv (firstK s)) 184] w' :=
  (rask_both w lo hi s tv rv h hs0).mono fun x w' ⟨bd, h1, h2⟩ => ⟨bd, by rw [h1, if_pos ho], h2⟩
/-- The error of a scale at work. -/
def chkO (s : Sc) : Int := if chkS s ≠ 0 then chkS s else if (offV s).1 ≤ (offV s).2 then 0 else 7
structure SOk (s : Sc) : Prop where
  ok : s.Ok
  le : (offV s).1 ≤ (offV s).2
theorem chkO_zero {s : Sc} : chkO s = 0 ↔ SOk s := by
  unfold chkO
  constructor
  · intro h
    split at h
    · omega
    rename_i h1
    split at h
    · rename_i h2
      exact ⟨chkS_zero.1 (by simpa using h1), h2⟩
    · omega
  · intro h
    rw [if_neg (by rw [chkS_zero.2 h.ok]; simp), if_pos h.le]
end Go.Proofs.YtopdmadgkjdgcaaGreat

/- Walks of rifle: what rifles weigh, which pass. -/
namespace Go.Proofs.YtopdmadgkjdgcaaGreat
set_option maxRecDepth 4000
open Go Go.Eng
theorem weight_ca (w : World) (lo hi bd : Nat) (s : Sc) (tv rv : Value) (k0 : Kn) (h : ScR w lo hi tv rv s) (hb : Blk w bd (dskC s tv rv k0) 184) (hs0 : s.Ok) (i : Nat) (hi' : i < s.rifles.length) (o : Int × Int) (ho : (-100000 ≤ o.1 ∧ o.1 ≤ 100000) ∧ -100000 ≤ o.2 ∧ o.2 ≤ 100000) : Ca Tryz.prog 120 [.pointer (some ⟨bd, 0, none⟩), .int .i64 i, spV2 o] w fun x w' => x = spV2 (wgtV s i o) ∧ Chg [] w w' := by
  have he := hs0.err
  have hrn := hs0.rn8
  have hri := hs0.rif hi'
  obtain ⟨ra, rc, rfl, hra⟩ := RdI.outI h.r
  obtain ⟨rb, ro, rfl⟩ := hra (by omega)
  have er : s.rifles[i] = s.rif i := by unfold Sc.rif; rw [getI hi']
  refine q_of (Sat.nil w M0) Tryz.func120 rfl (by simp [Tryz.ntmps120]) ?_
  (refine q_seq (q_region ?_))
  refine ql_box rfl rfl (fun b5 => ?_)
  skip
  refine ql_alloc zero56 rfl (fun b6 => ?_)
  (refine q_nil (q_seq (q_region ?_)); (iterate 4 refine ql_pure tabOk rfl rfl ?_); refine ql_loadP tabOk rfl rfl rfl (by assumption) (by rfl) ?_; refine ql_pure tabOk rfl rfl ?_)
  refine ql_index tabOk rfl rfl rfl rfl rfl (by omega) (by omega) ?_
  refine ql_load1 (v := .int .i64 (s.rif i)) tabOk rfl rfl rfl (fun w hs => by have := RdI.at (RdE.keep h.r hs.chg0) i hi'; rw [er] at this; exact this) ?_
  (refine ql_pure tabOk rfl rfl (q_nil (q_seq ?_)))
  refine q_draw _ [.pt b6 _ _] (Sp.cons (by repeat constructor) (Sp.refl _)) (by kernel_rfl) (by kernel_rfl) ?_
  (refine qf_pure tabOk rfl rfl rfl (qf_pure tabOk rfl rfl rfl ?_); refine qf_loadBa tabOk rfl rfl rfl ?_; refine qf_ar tabOk rfl rfl rfl rfl (by omega) (by omega) ?_; (iterate 4 refine qf_pure tabOk rfl rfl rfl ?_); refine qf_loadP tabOk rfl rfl rfl (by assumption) (by rfl) ?_; refine qf_ar tabOk rfl rfl rfl rfl (by omega) (by omega) (qf_pure tabOk rfl rfl rfl (qf_pure tabOk rfl rfl rfl ?_)); refine qf_loadBa tabOk rfl rfl rfl ?_; refine qf_ar tabOk rfl rfl rfl rfl (by omega) (by omega) ?_; (iterate 4 refine qf_pure tabOk rfl rfl rfl ?_); refine qf_loadP tabOk rfl rfl rfl (by assumption) (by rfl) ?_; refine qf_ar tabOk rfl rfl rfl rfl (by omega) (by omega) ?_)
  refine qf_mk #[.int .i64 (s.rif i - o.2 - s.err), .int .i64 (s.rif i - o.1 + s.err)] rfl (by kernel_rfl) rfl ?_
  (refine qf_setA tabOk rfl rfl rfl rfl rfl (by repeat constructor) rfl ?_; refine qf_nil (q_ret ?_))
  refine q_fin tabOk rfl (by repeat constructor) fun w hs => ?_
  exact ⟨rfl, hs.chg0⟩
abbrev lightF : Value := .func (.func 165) #[] #[]
abbrev heavyF : Value := .func (.func 198) #[] #[]
theorem light_ca (w : World) : Ca Tryz.prog 123 [] w fun x w' => x = .agg #[lightF] ∧ Chg [] w w' := by
  refine q_of (Sat.nil w M0) Tryz.func123 rfl (by simp [Tryz.ntmps123]) ?_
  (refine q_seq (q_region ?_))
  refine ql_alloc zero195 rfl (fun b0 => ?_)
  (refine q_nil (q_seq (q_region ?_)))
  refine ql_mk #[lightF] rfl (by kernel_rfl) rfl ?_
  (refine ql_setA tabOk rfl rfl rfl rfl rfl (by repeat constructor) rfl ?_; refine q_nil (q_ret ?_))
  refine q_fin tabOk rfl (by repeat constructor) fun w hs => ?_
  exact ⟨rfl, hs.chg0⟩
theorem heavy_ca (w : World) : Ca Tryz.prog 168 [] w fun x w' => x = .agg #[heavyF] ∧ Chg [] w w' := by
  refine q_of (Sat.nil w M0) Tryz.func168 rfl (by simp [Tryz.ntmps168]) ?_
  (refine q_seq (q_region ?_))
  refine ql_alloc zero195 rfl (fun b0 => ?_)
  (refine q_nil (q_seq (q_region ?_)))
  refine ql_mk #[heavyF] rfl (by kernel_rfl) rfl ?_
  (refine ql_setA tabOk rfl rfl rfl rfl rfl (by repeat constructor) rfl ?_; refine q_nil (q_ret ?_))
  refine q_fin tabOk rfl (by repeat constructor) fun w hs => ?_
  exact ⟨rfl, hs.chg0⟩
theorem light1_ca (o : Int × Int) (w : World) : Ca Tryz.prog 165 [spV2 o] w fun x w' => x = .int .i64 o.1 ∧ Chg [] w w' := by
  refine q_of (Sat.nil w M0) Tryz.func165 rfl (by simp [Tryz.ntmps165]) ?_
  (refine q_seq (q_region ?_))
  refine ql_box rfl rfl (fun b1 => ?_)
  (refine ql_pure tabOk rfl rfl (q_nil (q_seq (q_region (ql_pure tabOk rfl rfl ?_)))); refine ql_loadBa tabOk rfl rfl rfl ?_; refine ql_pure tabOk rfl rfl (q_nil (q_ret ?_)))
  refine q_fin tabOk rfl (by repeat constructor) fun w hs => ?_
  exact ⟨rfl, hs.chg0⟩
theorem heavy1_ca (o : Int × Int) (w : World) : Ca Tryz.prog 198 [spV2 o] w fun x w' => x = .int .i64 o.2 ∧ Chg [] w w' := by
  refine q_of (Sat.nil w M0) Tryz.func198 rfl (by simp [Tryz.ntmps198]) ?_
  (refine q_seq (q_region ?_))
  refine ql_box rfl rfl (fun b1 => ?_)
  (refine ql_pure tabOk rfl rfl (q_nil (q_seq (q_region (ql_pure tabOk rfl rfl ?_)))); refine ql_loadBa tabOk rfl rfl rfl ?_; refine ql_pure tabOk rfl rfl (q_nil (q_ret ?_)))
  refine q_fin tabOk rfl (by repeat constructor) fun w hs => ?_
  exact ⟨rfl, hs.chg0⟩
/-- What is known, with bounds for sums. -/
structure Kn.Bd (k : Kn) : Prop where
  p8 : k.p.length = 8
  f8 : k.f.length = 8
  lo : -100000 ≤ k.lo ∧ k.lo ≤ 100000
  hi : -100000 ≤ k.hi ∧ k.hi ≤ 100000
theorem Kn.Fit.bd {k : Kn} (h : k.Fit) : k.Bd := ⟨h.p8, h.f8, by have := h.lo; have := h.hi; have := h.le; omega, by have := h.lo; have := h.hi; have := h.le; omega⟩
theorem canL_ca (w : World) (lo hi bd : Nat) (s : Sc) (tv rv : Value) (k0 k : Kn) (h : ScR w lo hi tv rv s) (hb : Blk w bd (dskC s tv rv k0) 184) (hs0 : s.Ok) (hk : k.Bd) (i : Nat) (hi' : i < s.rifles.length) : Ca Tryz.prog 122 [.pointer (some ⟨bd, 0, none⟩), .int .i64 i, knV k, .agg #[lightF]] w fun x w' => x = .bool (decide (s.least ≤ (wgtV s i k.off).1)) ∧ Chg [] w w' := by
  refine q_of (Sat.nil w M0) Tryz.func122 rfl (by simp [Tryz.ntmps122]) ?_
  (refine q_seq (q_region ?_))
  refine ql_box rfl rfl (fun b6 => ?_)
  refine ql_box rfl rfl (fun b7 => ?_)
  rw [agg_cells]
  (refine ql_pure tabOk rfl rfl (q_nil (q_seq ?_)))
  refine q_draw _ [] (Sp.refl _) (by kernel_rfl) (by kernel_rfl) ?_
  (refine qf_pure tabOk rfl rfl rfl ?_; refine qf_loadBa tabOk rfl rfl rfl ?_; (iterate 3 refine qf_pure tabOk rfl rfl rfl ?_); refine qf_loadABa tabOk rfl rfl rfl ?_)
  refine qf_callv (val := spV2 (wgtV s i k.off)) tabOk rfl rfl rfl rfl (fun w hs => ?_) ?_; exact weight_ca w lo hi bd s tv rv k0 (h.keep hs.chg0) (hb.keep hs.chg0) hs0 i hi' k.off ⟨hk.lo, hk.hi⟩
  skip
  refine qf_callv (val := .int .i64 (wgtV s i k.off).1) tabOk rfl rfl rfl rfl (fun w hs => ?_) ?_; exact light1_ca (wgtV s i k.off) w
  ((iterate 4 refine qf_pure tabOk rfl rfl rfl ?_); refine qf_loadP tabOk rfl rfl rfl (by assumption) (by rfl) ?_; refine qf_pure tabOk rfl rfl rfl (qf_pure tabOk rfl rfl rfl (qf_nil (q_ret ?_))))
  refine q_fin tabOk rfl (by repeat constructor) fun w hs => ?_
  exact ⟨by simp [Eng.retV, ge_iff_le], hs.chg0⟩
theorem canH_ca (w : World) (lo hi bd : Nat) (s : Sc) (tv rv : Value) (k0 k : Kn) (h : ScR w lo hi tv rv s) (hb : Blk w bd (dskC s tv rv k0) 184) (hs0 : s.Ok) (hk : k.Bd) (i : Nat) (hi' : i < s.rifles.length) : Ca Tryz.prog 122 [.pointer (some ⟨bd, 0, none⟩), .int .i64 i, knV k, .agg #[heavyF]] w fun x w' => x = .bool (decide (s.least ≤ (wgtV s i k.off).2)) ∧ Chg [] w w' := by
  refine q_of (Sat.nil w M0) Tryz.func122 rfl (by simp [Tryz.ntmps122]) ?_
  (refine q_seq (q_region ?_))
  refine ql_box rfl rfl (fun b6 => ?_)
  refine ql_box rfl rfl (fun b7 => ?_)
  rw [agg_cells]
  (refine ql_pure tabOk rfl rfl (q_nil (q_seq ?_)))
  refine q_draw _ [] (Sp.refl _) (by kernel_rfl) (by kernel_rfl) ?_
  (refine qf_pure tabOk rfl rfl rfl ?_; refine qf_loadBa tabOk rfl rfl rfl ?_; (iterate 3 refine qf_pure tabOk rfl rfl rfl ?_); refine qf_loadABa tabOk rfl rfl rfl ?_)
  refine qf_callv (val := spV2 (wgtV s i k.off)) tabOk rfl rfl rfl rfl (fun w hs => ?_) ?_; exact weight_ca w lo hi bd s tv rv k0 (h.keep hs.chg0) (hb.keep hs.chg0) hs0 i hi' k.off ⟨hk.lo, hk.hi⟩
  skip
  refine qf_callv (val := .int .i64 (wgtV s i k.off).2) tabOk rfl rfl rfl rfl (fun w hs => ?_) ?_; exact heavy1_ca (wgtV s i k.off) w
  ((iterate 4 refine qf_pure tabOk rfl rfl rfl ?_); refine qf_loadP tabOk rfl rfl rfl (by assumption) (by rfl) ?_; refine qf_pure tabOk rfl rfl rfl (qf_pure tabOk rfl rfl rfl (qf_nil (q_ret ?_))))
  refine q_fin tabOk rfl (by repeat constructor) fun w hs => ?_
  exact ⟨by simp [Eng.retV, ge_iff_le], hs.chg0⟩
/-- What each rifle can weigh. -/
def wgtL (s : Sc) (k : Nat) : List (Int × Int) := (List.range k).map fun i => wgtV s i (offV s)
theorem wgtL_succ (s : Sc) (k : Nat) : spC (wgtL s (k + 1)) = spC (wgtL s k) ++ [.int .i64 (wgtV s k (offV s)).1, .int .i64 (wgtV s k (offV s)).2] := by
  unfold wgtL
  rw [List.range_succ, List.map_append]
  simp [spC]
set_option maxHeartbeats 1000000 in
theorem weights_ok (w : World) (lo hi : Nat) (s : Sc) (tv rv : Value) (h : ScR w lo hi tv rv s) (hs0 : SOk s) : Ca Tryz.prog 38 [.agg (scC s tv rv).toArray] w fun x w' => ∃ u : Value, x = .tuple #[u, .int .i64 0] ∧ Sat w M0 [.ow u 56 2 s.rifles.length (spC (wgtL s s.rifles.length))] w' := by
  have hrn := hs0.ok.rn8
  have hob := off_bd s
  have hle := hs0.le
  obtain ⟨ra, rc, rfl, hra⟩ := RdI.outI h.r
  refine q_of (Sat.nil w M0) Tryz.func38 rfl (by simp [Tryz.ntmps38]) ?_
  (refine q_seq (q_region ?_))
  refine ql_box rfl rfl (fun b1 => ?_)
  rw [agg_cells]
  (refine ql_pure tabOk rfl rfl (ql_pure tabOk rfl rfl (q_nil (q_seq (q_region ?_)))); refine ql_loadABa tabOk rfl rfl rfl ?_)
  refine ql_call (β := Nat) tabOk [] _ M0 rfl rfl rfl rfl (Sp.refl _) (fun _ h => h.elim) (fun w' hs => rask_ok w' lo hi s tv _ (h.keep hs.chg0) hs0.ok hs0.le) ?_
  rintro bd _ rfl
  dsimp only [List.cons_append, List.nil_append]
  (refine ql_pure tabOk rfl rfl (ql_ext tabOk rfl rfl rfl (ql_ext tabOk rfl rfl rfl (ql_pure tabOk rfl rfl (ql_pure tabOk rfl rfl (q_nil (q_seq (q_seq (q_region (ql_pure tabOk rfl rfl (ql_neqF tabOk rfl rfl rfl (by omega) (q_nil ?_))))))))))); refine q_cond_false rfl (q_skip (q_seq (q_region (ql_pure tabOk rfl rfl (q_nil (q_seq (q_seq (q_region ?_)))))))); (iterate 4 refine ql_pure tabOk rfl rfl ?_); refine ql_loadBa tabOk rfl rfl rfl ?_; refine ql_pure tabOk rfl rfl (ql_pure tabOk rfl rfl (q_nil (q_block ?_))))
  refine q_conv (H' := [.ow (.slice none 0 0) 56 2 0 (spC (wgtL s 0)), .pt bd (dskC s tv (.slice ra s.rifles.length rc) (firstK s)) 184]) (fun w' hs => Sat.ownil (hs.sp (by repeat constructor)) 56 2) ?_
  refine q_loop (σ := Nat × Value) (fun z => z.1 ≤ s.rifles.length) (fun z => s.rifles.length - z.1) (fun z => [(4, .pointer (some ⟨bd, 0, none⟩)), (6, z.2), (21, .int .i64 s.rifles.length), (22, .int .i64 z.1)]) (fun z => [.ow z.2 56 2 z.1 (spC (wgtL s z.1)), .pt bd (dskC s tv (.slice ra s.rifles.length rc) (firstK s)) 184]) (0, .slice none 0 0) (Nat.zero_le _) ⟨rfl, rfl, rfl, rfl, trivial⟩ (by repeat constructor) ?_
  rintro ⟨i, u⟩ hi2 K hK
  dsimp only at hi2 hK ⊢
  (refine q_seq (q_region (ql_pure tabOk rfl rfl (q_nil (q_seq ?_)))))
  refine q_if rfl (fun hc => ?_) (fun hc => ?_)
  · have hi3 : i < s.rifles.length := by omega
    clear hc
    (refine q_skip (q_seq (q_block (q_seq (q_region (ql_pure tabOk rfl rfl (ql_pure tabOk rfl rfl (q_nil (q_region ?_)))))))); (iterate 7 refine ql_pure tabOk rfl rfl ?_); refine ql_loadABa tabOk rfl rfl rfl ?_)
    refine ql_callv (val := spV2 (wgtV s i (offV s))) tabOk rfl rfl rfl rfl (fun w hs => ?_) ?_; exact weight_ca w lo hi bd s tv _ (firstK s) (h.keep hs.chg0) (hs.blk (by repeat constructor)) hs0.ok i hi3 (offV s) (by omega)
    skip
    refine ql_mkS 56 [.int .i64 (wgtV s i (offV s)).1, .int .i64 (wgtV s i (offV s)).2] rfl (by kernel_rfl) rfl (fun bn => ?_)
    skip
    refine ql_append (q := 1) (news := [.int .i64 (wgtV s i (offV s)).1, .int .i64 (wgtV s i (offV s)).2]) slS rfl rfl rfl (fun v' => by repeat constructor) (fun w' hs => ⟨_, _, Blk.rdN (hs.blk (b := bn) (by repeat constructor)) rfl⟩) (by simp [oneV]) (by omega) (by omega) (fun u' => ?_)
    (refine ql_pure tabOk rfl rfl (q_nil (q_blk (q_region (ql_ar tabOk rfl rfl rfl rfl (by omega) (by omega) (ql_pure tabOk rfl rfl (q_nil ?_)))))))
    exact hK (i + 1, u') _ _ (by simp only; omega) (by simp only; omega) ⟨rfl, rfl, rfl, rfl, trivial⟩ (by dsimp only; rw [wgtL_succ]; repeat constructor)
  · obtain rfl : i = s.rifles.length := by omega
    (refine q_exit _ rfl (q_seq (q_region ?_)); (iterate 3 refine ql_pure tabOk rfl rfl ?_); refine q_nil (q_ret ?_))
    refine q_fin tabOk rfl (by repeat constructor) fun w hs => ?_
    exact ⟨u, rfl, hs.sp (by repeat constructor)⟩
/-- The rifles that pass in all truths; of the first ones. -/
def pasL (s : Sc) (k : Nat) : List Nat := (List.range k).filter fun i => decide (s.least ≤ (wgtV s i (offV s)).1)
theorem pasL_succ (s : Sc) (k : Nat) : pasL s (k + 1) = if s.least ≤ (wgtV s k (offV s)).1 then pasL s k ++ [k] else pasL s k := by
  unfold pasL
  rw [List.range_succ, List.filter_append]
  by_cases e : s.least ≤ (wgtV s k (offV s)).1 <;> simp [e]
theorem pasL_len (s : Sc) (k : Nat) : (pasL s k).length ≤ k := by
  have := List.length_filter_le (fun i => decide (s.least ≤ (wgtV s i (offV s)).1)) (List.range k)
  rwa [List.length_range] at this
set_option maxHeartbeats 1000000 in
theorem passed_ok (w : World) (lo hi : Nat) (s : Sc) (tv rv : Value) (h : ScR w lo hi tv rv s) (hs0 : SOk s) : Ca Tryz.prog 41 [.agg (scC s tv rv).toArray] w fun x w' => ∃ u : Value, x = .tuple #[u, .int .i64 0] ∧ Sat w M0 [.ow u 3 1 (pasL s s.rifles.length).length (ints (nI (pasL s s.rifles.length)))] w' := by
  have hrn := hs0.ok.rn8
  have hfit := (firstK_fit hs0.le).bd
  obtain ⟨ra, rc, rfl, hra⟩ := RdI.outI h.r
  refine q_of (Sat.nil w M0) Tryz.func41 rfl (by simp [Tryz.ntmps41]) ?_
  (refine q_seq (q_region ?_))
  refine ql_box rfl rfl (fun b1 => ?_)
  rw [agg_cells]
  (refine ql_pure tabOk rfl rfl (ql_pure tabOk rfl rfl (q_nil (q_seq (q_region ?_)))); refine ql_loadABa tabOk rfl rfl rfl ?_)
  refine ql_call (β := Nat) tabOk [] _ M0 rfl rfl rfl rfl (Sp.refl _) (fun _ h => h.elim) (fun w' hs => rask_ok w' lo hi s tv _ (h.keep hs.chg0) hs0.ok hs0.le) ?_
  rintro bd _ rfl
  dsimp only [List.cons_append, List.nil_append]
  (refine ql_pure tabOk rfl rfl (ql_ext tabOk rfl rfl rfl (ql_ext tabOk rfl rfl rfl (ql_pure tabOk rfl rfl (ql_pure tabOk rfl rfl (q_nil (q_seq (q_seq (q_region (ql_pure tabOk rfl rfl (ql_neqF tabOk rfl rfl rfl (by omega) (q_nil ?_))))))))))); refine q_cond_false rfl (q_skip (q_seq (q_region (ql_pure tabOk rfl rfl (q_nil (q_seq (q_seq (q_region ?_)))))))); (iterate 4 refine ql_pure tabOk rfl rfl ?_); refine ql_loadBa tabOk rfl rfl rfl ?_; refine ql_pure tabOk rfl rfl (ql_pure tabOk rfl rfl (q_nil (q_block ?_))))
  refine q_conv (H' := [.ow (.slice none 0 0) 3 1 0 (ints (nI (pasL s 0))), .pt bd (dskC s tv (.slice ra s.rifles.length rc) (firstK s)) 184]) (fun w' hs => Sat.ownil (hs.sp (by repeat constructor)) 3 1) ?_
  refine q_loop (σ := Nat × Value) (fun z => z.1 ≤ s.rifles.length) (fun z => s.rifles.length - z.1) (fun z => [(4, .pointer (some ⟨bd, 0, none⟩)), (6, z.2), (21, .int .i64 s.rifles.length), (22, .int .i64 z.1)]) (fun z => [.ow z.2 3 1 (pasL s z.1).length (ints (nI (pasL s z.1))), .pt bd (dskC s tv (.slice ra s.rifles.length rc) (firstK s)) 184]) (0, .slice none 0 0) (Nat.zero_le _) ⟨rfl, rfl, rfl, rfl, trivial⟩ (by repeat constructor) ?_
  rintro ⟨i, u⟩ hi2 K hK
  dsimp only at hi2 hK ⊢
  (refine q_seq (q_region (ql_pure tabOk rfl rfl (q_nil (q_seq ?_)))))
  refine q_if rfl (fun hc => ?_) (fun hc => ?_)
  · have hi3 : i < s.rifles.length := by omega
    clear hc
    have hsu := pasL_succ s i
    have hpl := pasL_len s i
    (refine q_skip (q_seq (q_block (q_seq (q_region (ql_pure tabOk rfl rfl (ql_pure tabOk rfl rfl (q_nil (q_seq ?_)))))))))
    refine q_draw _ [] (Sp.refl _) (by kernel_rfl) (by kernel_rfl) ?_
    ((iterate 5 refine qf_pure tabOk rfl rfl rfl ?_); refine qf_loadABa tabOk rfl rfl rfl ?_)
    refine qf_callv (val := .agg #[lightF]) tabOk rfl rfl rfl rfl (fun w hs => ?_) ?_; exact light_ca w
    skip
    refine qf_callv (val := .bool (decide (s.least ≤ (wgtV s i (offV s)).1))) tabOk rfl rfl rfl rfl (fun w hs => ?_) ?_; exact by have := canL_ca w lo hi bd s tv _ (firstK s) (firstK s) (h.keep hs.chg0) (hs.blk (by repeat constructor)) hs0.ok hfit i hi3; exact this
    cases hp : decide (s.least ≤ (wgtV s i (offV s)).1) with
    | true =>
      rw [if_pos (of_decide_eq_true hp)] at hsu
      (refine qf_nil (q_cond_true rfl (q_region (ql_pure tabOk rfl rfl (ql_pure tabOk rfl rfl ?_)))))
      refine ql_mkS 3 [.int .i64 i] rfl (by kernel_rfl) rfl (fun bn => ?_)
      skip
      refine ql_append (q := 1) (news := [.int .i64 i]) slI rfl rfl rfl (fun v' => by repeat constructor) (fun w' hs => ⟨_, _, Blk.rdN (hs.blk (b := bn) (by repeat constructor)) rfl⟩) (by simp [oneV]) (by omega) (by omega) (fun u' => ?_)
      (refine ql_pure tabOk rfl rfl (q_nil (q_blk (q_region (ql_ar tabOk rfl rfl rfl rfl (by omega) (by omega) (ql_pure tabOk rfl rfl (q_nil ?_)))))))
      exact hK (i + 1, u') _ _ (by simp only; omega) (by simp only; omega) ⟨rfl, rfl, rfl, rfl, trivial⟩ (by dsimp only; rw [hsu, nI_snoc, List.length_append, List.length_singleton]; repeat constructor)
    | false =>
      rw [if_neg (of_decide_eq_false hp)] at hsu
      (refine qf_nil (q_cond_false rfl (q_skip (q_blk (q_region (ql_ar tabOk rfl rfl rfl rfl (by omega) (by omega) (ql_pure tabOk rfl rfl (q_nil ?_))))))))
      exact hK (i + 1, u) _ _ (by simp only; omega) (by simp only; omega) ⟨rfl, rfl, rfl, rfl, trivial⟩ (by dsimp only; rw [hsu]; repeat constructor)
  · obtain rfl : i = s.rifles.length := by omega
    (refine q_exit _ rfl (q_seq (q_region ?_)); (iterate 3 refine ql_pure tabOk rfl rfl ?_); refine q_nil (q_ret ?_))
    refine q_fin tabOk rfl (by repeat constructor) fun w hs => ?_
    exact ⟨u, rfl, hs.sp (by repeat constructor)⟩
end Go.Proofs.YtopdmadgkjdgcaaGreat
