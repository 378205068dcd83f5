/- My texts B5, V3, V4, Every, V5, V6, V7, V8, V9, V10, V11, V12, V13, V14, B6, B7, B8, S0, T0, P0, T1, R0, P1, E0, E1, joined: a claim takes at most 60 files. -/
import Derived.Test.YtohlillcaadidaaGreatW1
import Derived.Laws.CopyRow
import Derived.Laws.MakeOwn
import Derived.Laws.OwnMore
import Derived.Laws.Slices
import Derived.Laws.StructEq
import Derived.ChangeSlices
import Derived.ChangeArms
import Derived.ChangeShapes

/- The engine, part B5: arrays as values; slices of arrays; copy; make. -/
namespace Go.Eng
open Go Go.RowKit

section
variable {P : Program} {T : Tab}
variable {ro : Cx} {n n' : Nat} {F : Fin} {w0 : World} {M : Nat → Prop} {k : List It} {ops : Array Oper} {rest : List Oper} {e : Env} {H Hq : List Ck}

/-- An element of an array that is a value. -/
theorem run_ixA (hT : T.Ok P) {t len et : Nat} {cs : Array Value} {ik : IntKind} {i : Int} {v : Value} (hA : arrB P t len et 1 = true) (h1 : has T.one et = true) (h0 : 0 ≤ i) (hi : i < len) (hv : cs[i.toNat]? = some v) (w : World) :
    (Instr.index t (.agg cs) (.int ik i)).run P w = .ok v w := by
  obtain ⟨r1, r2⟩ := one_run hT h1 w
  simp only [arrB, Bool.and_eq_true] at hA
  obtain ⟨ha, hb⟩ := hA
  split at ha
  · rename_i m e' hu
    simp only [Bool.and_eq_true] at ha
    have e1 := Nat.eq_of_beq_eq_true ha.1
    have e2 := Nat.eq_of_beq_eq_true ha.2
    subst e1; subst e2
    simp [Instr.index, asIntOf, run_underlying hu, h0, hi, r2, part, r1, hv]
  · cases ha
theorem ql_ixA (hT : T.Ok P) {d t len et : Nat} {x ix : Operand} {cs : Array Value} {ik : IntKind} {i : Int} {v : Value} {ty : TypeId} {pos : String} {af : Array Edge} (hA : arrB P t len et 1 = true) (h1 : has T.one et = true)
    (hx : opv e x = some (.agg cs)) (hi : opv e ix = some (.int ik i)) (hd : Nat.blt d n = true) (h0 : 0 ≤ i) (hl : i < len) (hv : cs[i.toNat]? = some v)
    (h : QL P ro n F w0 M k ops rest ((d, v) :: e) H) : QL P ro n F w0 M k ops (⟨some d, .index t x ix, ty, pos, af, none⟩ :: rest) e H := .mk fun w hw =>
  yl_val (by simp) hd (fun a hf => by
    simp only [execOp, hf.op hx, hf.op hi]
    simp [run_ixA hT hA h1 h0 hl hv w]) (h w hw)
/-- A whole array, as a slice. -/
theorem run_slA {t len et sz : Nat} (hA : arrB P t len et sz = true) (a : Addr) (w : World) : (Instr.sliceAt t (.pointer (some a)) none none none).run P w = .ok (.slice (some a) len len) w := by
  simp only [arrB, Bool.and_eq_true] at hA
  obtain ⟨ha, hb⟩ := hA
  split at ha
  · rename_i m e' hu
    simp only [Bool.and_eq_true] at ha
    have e1 := Nat.eq_of_beq_eq_true ha.1
    have e2 := Nat.eq_of_beq_eq_true ha.2
    subst e1; subst e2
    split at hb
    · rename_i inf hinf
      by_cases hm : m = 0
      · subst hm
        simp [Instr.sliceAt, Instr.sureAddr, run_underlying hu, Instr.sliceBounds, sizeOf, typeInfo, hinf]
      · simp [Instr.sliceAt, Instr.sureAddr, run_underlying hu, Instr.sliceBounds, sizeOf, typeInfo, hinf, Addr.add]
    · cases hb
  · cases ha
theorem qf_slA {d t len et sz : Nat} {x : Operand} {a : Addr} {ty : TypeId} {pos : String} {af : Array Edge} (hA : arrB P t len et sz = true) (hx : opv e x = some (.pointer (some a))) (hd : Nat.blt d n = true)
    (h : QF P ro n F w0 M k ops Hq rest ((d, .slice (some a) len len) :: e) H) : QF P ro n F w0 M k ops Hq (⟨some d, .slice t x none none none, ty, pos, af, none⟩ :: rest) e H := .mk fun w hw =>
  yf_quiet rfl hd (fun ac hf w' _ => by
    simp only [execOp, hf.op hx]
    simp [run_slA hA a w']) (h w hw)

/-- copy of numbers into a block of numbers. -/
theorem run_copyI {w : World} {dT sT et n n2 lo hi b c c2 : Nat} {a : Option Addr} {bt : TypeId} {l L : List Int} (ty : TypeId) (hu : P.underlying dT = some (.slice et)) (hs : (P.info? et).map (·.size) = some 1) (hb : Blk w b (ints L) bt) (hL : L.length = n) (hl : l.length ≤ n) (h0 : 0 < l.length)
    (hm : n2 = l.length) (hrd : RdI w lo hi (.slice a n2 c2) l) :
    ∃ w', (Builtin.copy_ #[dT, sT] ty #[.slice (some ⟨b, 0, none⟩) n c, .slice a n2 c2]).run P w = .ok (goInt l.length) w' ∧ Chg [b] w w' ∧ Blk w' b (ints (l ++ L.drop l.length)) bt := by
  subst hm
  obtain ⟨_, _, ha, hs2⟩ := RdI.outI hrd
  obtain ⟨sb, so, rfl⟩ := hs2 h0
  cases ha
  have hrun := run_copy_row (P := P) w dT sT ty et b 0 n c ⟨sb, so, none⟩ l.length c2 (ints L).toArray bt (ints l) hu hs hb (by simp [Nat.min_def]; omega) (fun j v hj => by
    obtain ⟨hj1, rfl⟩ := List.getElem?_eq_some_iff.1 hj
    have hj2 : j < l.length := by simpa using hj1
    have h1 := RdI.at hrd j hj2
    rw [Nat.mul_one] at h1
    rw [Addr.add_lit, h1]
    simp) (by simp; omega) (fun v hv => by
    obtain ⟨x, _, rfl⟩ := List.mem_map.1 hv
    rfl)
  have e1 : ((ints L).toArray.toList.take 0 ++ ints l ++ (ints L).toArray.toList.drop (0 + (ints l).length)) = ints (l ++ L.drop l.length) := by
    simp [List.map_drop]
  rw [e1] at hrun
  rw [show (ints l).length = l.length by simp] at hrun
  exact ⟨w.setRow b (ints (l ++ L.drop l.length)).toArray, hrun, ⟨rfl, rfl, rfl, by simp [World.setRow], fun k _ hk => setRow_other w b k _ (by simpa using hk)⟩, setRow_heap w b _ _ bt (0, 0) hb⟩

theorem qf_copyI {d dT sT et n n2 c c2 b lo hi : Nat} {x y : Operand} {a : Option Addr} {bt : TypeId} {l L : List Int} {H' : List Ck} {ty : TypeId} {pos : String} {af : Array Edge} (hu : P.underlying dT = some (.slice et)) (hsz : (P.info? et).map (·.size) = some 1)
    (hx : opv e x = some (.slice (some ⟨b, 0, none⟩) n c)) (hy : opv e y = some (.slice a n2 c2)) (hd : Nat.blt d n' = true) (hr : Rp H (.pt b (ints L) bt) (.pt b (ints (l ++ L.drop l.length)) bt) H') (hL : L.length = n) (hl : l.length ≤ n) (h0 : 0 < l.length) (hm : n2 = l.length)
    (hrd : ∀ w, Sat w0 M (H ++ Hq) w → RdI w lo hi (.slice a n2 c2) l) (h : QF P ro n' F w0 M k ops Hq rest ((d, goInt l.length) :: e) H') :
    QF P ro n' F w0 M k ops Hq (⟨some d, .call { callee := .builtin .copy, args := [x, y].toArray, argTypes := [dT, sT].toArray }, ty, pos, af, none⟩ :: rest) e H := .mk fun w hs => by
  obtain ⟨w', hrun, hc, hb⟩ := run_copyI (P := P) (sT := sT) ty hu hsz (hs.blk (hr.app Hq).mem) hL hl h0 hm (hrd w hs) (c := c)
  have hs' := hs.pt (hr.app Hq) hc hb
  refine yf_eff (w' := w') rfl hd (fun ac hf => ?_) hs'.right (h.h w' hs')
  simp [execOp, resolve, invoke, builtin, hf.op hx, hf.op hy, hrun]
/-- make([]int, n). -/
theorem ql_makeI {d t et m : Nat} {x y : Operand} {ty : TypeId} {pos : String} {af : Array Edge} (hS : SlT P t et 1 8 (.int .i64 0)) (hx : opv e x = some (.int .i64 m)) (hy : opv e y = some (.int .i64 m)) (hd : Nat.blt d n = true) (hm : m ≤ 1000000)
    (h : ∀ b, QL P ro n F w0 M k ops rest ((d, .slice (some ⟨b, 0, none⟩) m m) :: e) (.pt b (ints (List.replicate m 0)) et :: H)) :
    QL P ro n F w0 M k ops (⟨some d, .makeSlice t x y, ty, pos, af, none⟩ :: rest) e H := .mk fun w hs => by
  obtain ⟨ht, hi', hzs, hsz⟩ := hS
  cases hinf : P.info? et with
  | none => simp [hinf] at hi'
  | some i =>
    simp [hinf] at hi'
    obtain ⟨hz, hsize, hby⟩ := hi'
    have hr := run_makeSlice (P := P) w t et i _ ht hinf hz .i64 .i64 m m (by omega) (Int.le_refl _) (by rw [hsize]; simp; omega) (by rw [hby]; omega) (by omega)
    have hcells : (madeCells (Value.int .i64 0).cells ((m : Int).toNat * i.size)) = (ints (List.replicate m 0)).toArray := by
      apply Array.ext'
      rw [hsize, show (Value.int .i64 0).cells = #[Value.int .i64 0] from rfl, toList_madeCells_one]
      simp
    rw [hcells] at hr
    refine yl_val (w' := w.alloc (.cells (ints (List.replicate m 0)).toArray et)) (by simp) hd (fun ac hf => ?_) ((h w.heap.size).h _ (hs.addPt (alloc_chg _ _) (by simp) (alloc_blk w _ _)))
    simp only [execOp, hf.op hx, hf.op hy]
    simp [hr]
end
end Go.Eng

/- Walks: all clicks, from one on. -/
namespace Go.Proofs.YtohlillcaadidaaGreat
open Go Go.Eng

/-- The clicks that are so far. -/
def farL (C near : Int) (far : Nat) : List Int := if far = 0 then [near] else [near - far, near + far].filter (fun c => inB c (-C) C)
def clickP (C near : Int) (n : Nat) : List Int := (List.range n).flatMap (farL C near)
/-- All clicks, the ones nearest to one first. -/
def clickL (C near : Int) : List Int := clickP C near (2 * C + 1).toNat
theorem clickP_succ (C near : Int) (n : Nat) : clickP C near (n + 1) = clickP C near n ++ farL C near n := by simp [clickP, List.range_succ]
theorem clickP_split (C near : Int) {n m : Nat} (h : n < m) : ∃ suf, clickP C near m = clickP C near n ++ (farL C near n ++ suf) := by
  induction m with
  | zero => omega
  | succ m ih =>
    by_cases h2 : n = m
    · subst h2
      exact ⟨[], by rw [clickP_succ, List.append_nil]⟩
    · obtain ⟨suf, hs⟩ := ih (by omega)
      exact ⟨suf ++ farL C near m, by rw [clickP_succ, hs]; simp⟩

/-- .. the first j of them. -/
def partL (C near : Int) (far j : Nat) : List Int := ([near - far, near + far].take j).filter (fun c => inB c (-C) C)
theorem partL_succ (C near : Int) (far j : Nat) (c : Int) (hc : [near - (far : Int), near + far][j]? = some c) : partL C near far (j + 1) = partL C near far j ++ if inB c (-C) C then [c] else [] := by
  obtain ⟨hj, rfl⟩ := List.getElem?_eq_some_iff.1 hc
  rw [partL, List.take_succ_eq_append_getElem hj, List.filter_append, partL]
  congr 1
  simp [List.filter_cons]
theorem farL_pos (C near : Int) (far : Nat) (h : far ≠ 0) : farL C near far = partL C near far 2 := by simp [farL, partL, h]
theorem farL_part (C near : Int) (far j : Nat) (h : far ≠ 0) (c : Int) (hc : [near - (far : Int), near + far][j]? = some c) (hin : inB c (-C) C = true) : ∃ suf, farL C near far = partL C near far j ++ c :: suf := by
  obtain ⟨hj, rfl⟩ := List.getElem?_eq_some_iff.1 hc
  refine ⟨([near - (far : Int), near + far].drop (j + 1)).filter (fun c => inB c (-C) C), ?_⟩
  rw [farL, if_neg h, partL]
  conv => lhs; rw [← List.take_append_drop j [near - (far : Int), near + far], List.filter_append, List.drop_eq_getElem_cons hj, List.filter_cons]
  rw [if_pos hin]

theorem ci_arr : arrB Tryz.prog 171 2 3 1 = true := by kernel_rfl

set_option maxHeartbeats 1000000 in
theorem clicks_it (w0 w : World) (D : Nat → Prop) (b bd bn : Nat) (near : Int) (r : Rg) (hdk : DkAt w0 b r) (h0 : ∀ w', ChgP D w w' → Chg [] w0 w') (hC : 0 ≤ r.clicks ∧ r.clicks ≤ 6) (hn : inB near (-r.clicks) r.clicks = true)
    {t1 t2 : TypeId} (hbd : Blk w bd [.pointer (some ⟨b, 0, none⟩)] t1) (hbn : Blk w bn [.int .i64 near] t2) (hDd : ¬ D bd) (hDn : ¬ D bn) :
    ItOk Tryz.prog 125 [.pointer (some ⟨bd, 0, none⟩), .pointer (some ⟨bn, 0, none⟩)] (fun c => [Value.int .i64 c]) (clickL r.clicks near) w D := by
  intro fv σ L I E s0 hI0 hLD hsat hcb
  have hn' := inB_iff.1 hn
  obtain ⟨cs, bt, hblk, lo, hi, ag, cg, ad, cd, af, cf, an, cn, rfl, hg, hdr, hf, hn⟩ := hdk
  have hm : ∀ w', ChgP (DL (L s0)) w w' → ChgP D w w' := fun w' hc => ⟨hc.os, hc.tape, hc.output, hc.size, fun k hk hk2 => hc.block k hk (fun h => hk2 (hLD k h))⟩
  have hP1 : ∀ w', ChgP (DL (L s0)) w w' → Blk w' bd [.pointer (some ⟨b, 0, none⟩)] t1 := fun w' hc => (hc.block bd hbd.lt (fun h => hDd (hLD bd h))).trans hbd
  have hP2 : ∀ w', ChgP (DL (L s0)) w w' → Blk w' bn [.int .i64 near] t2 := fun w' hc => (hc.block bn hbn.lt (fun h => hDn (hLD bn h))).trans hbn
  have hP3 : ∀ w', ChgP (DL (L s0)) w w' → Blk w' b _ bt := fun w' hc => hblk.keep (h0 w' (hm w' hc))
  clear hblk
  refine q_of (H := [un (L s0)]) (Sat.un1.2 hsat) Tryz.func125 rfl (by simp [Tryz.ntmps125]) ?_
  (refine q_seq ?_; refine q_region ?_; refine ql_loadG tabOk rfl rfl rfl (by assumption) (by rfl) ?_; (iterate 3 refine ql_pure tabOk rfl rfl ?_); refine ql_loadG tabOk rfl rfl rfl (by assumption) (by rfl) ?_; (iterate 2 refine ql_ar tabOk rfl rfl rfl rfl (by omega) (by omega) ?_); refine ql_pure tabOk rfl rfl ?_; refine q_nil ?_; refine q_block ?_)
  refine q_loop (σ := Nat × σ) (fun s => s.1 ≤ (2 * r.clicks + 1).toNat ∧ I (clickP r.clicks near s.1) s.2) (fun s => (2 * r.clicks + 1).toNat - s.1) (fun s => [(0, fv), (1, .pointer (some ⟨bd, 0, none⟩)), (2, .pointer (some ⟨bn, 0, none⟩)), (13, .int .i64 (2 * r.clicks + 1)), (14, .int .i64 s.1)])
    (fun s => [un (L s.2)]) (0, s0) ⟨by omega, hI0⟩ ⟨rfl, rfl, rfl, rfl, rfl, trivial⟩ (Sp.refl _) ?_
  rintro ⟨far, s⟩ ⟨hfar, hI⟩ K hK
  simp only at hfar hI
  (refine q_seq ?_; refine q_region ?_; refine ql_pure tabOk rfl rfl ?_; refine q_nil ?_; refine q_seq ?_)
  refine q_if rfl (fun hc => ?_) (fun hc => ?_)
  · have hfl : far < (2 * r.clicks + 1).toNat := by simp only at hc; omega
    obtain ⟨suf, hsuf⟩ := clickP_split r.clicks near hfl
    (refine q_skip ?_; refine q_seq ?_; refine q_block ?_; refine q_seq ?_; refine q_region ?_; (iterate 2 refine ql_pure tabOk rfl rfl ?_); refine q_nil ?_; refine q_seq ?_; refine q_region ?_; refine ql_loadG tabOk rfl rfl rfl (by assumption) (by rfl) ?_; refine ql_pure tabOk rfl rfl ?_; refine ql_ar tabOk rfl rfl rfl rfl (by omega) (by omega) ?_; refine ql_loadG tabOk rfl rfl rfl (by assumption) (by rfl) ?_; refine ql_pure tabOk rfl rfl ?_; refine ql_ar tabOk rfl rfl rfl rfl (by omega) (by omega) ?_)
    refine ql_mk #[.int .i64 (near - far), .int .i64 (near + far)] rfl (by kernel_rfl) rfl ?_
    (refine ql_pure tabOk rfl rfl ?_; refine q_nil ?_; refine q_block ?_)
    refine q_loop (σ := Nat × σ) (fun q => q.1 ≤ 2 ∧ (far = 0 → q.1 = 0) ∧ I (clickP r.clicks near far ++ partL r.clicks near far q.1) q.2) (fun q => 2 - q.1) (fun q => [(0, fv), (1, .pointer (some ⟨bd, 0, none⟩)), (2, .pointer (some ⟨bn, 0, none⟩)), (4, .int .i64 far), (13, .int .i64 (2 * r.clicks + 1)), (14, .int .i64 far), (23, .agg #[.int .i64 (near - far), .int .i64 (near + far)]), (24, .int .i64 q.1)])
      (fun q => [un (L q.2)]) (0, s) ⟨by simp, fun _ => rfl, by simpa [partL] using hI⟩ ⟨rfl, rfl, rfl, rfl, rfl, rfl, rfl, rfl, trivial⟩ (Sp.refl _) ?_
    clear hI
    rintro ⟨j, s⟩ ⟨hj, hj0, hI⟩ K2 hK2
    simp only at hj hj0 hI
    (refine q_seq ?_; refine q_region ?_; refine ql_pure tabOk rfl rfl ?_; refine q_nil ?_; refine q_seq ?_)
    refine q_if rfl (fun hc => ?_) (fun hc => ?_)
    · have hj2 : j < 2 := by simp only at hc; omega
      clear hc
      have hcj : ∃ c, [near - (far : Int), near + far][j]? = some c ∧ -20 ≤ c ∧ c ≤ 20 := by
        obtain rfl | rfl : j = 0 ∨ j = 1 := by omega
        · exact ⟨_, rfl, by omega, by omega⟩
        · exact ⟨_, rfl, by omega, by omega⟩
      obtain ⟨c, hcj, hc1, hc2⟩ := hcj
      (refine q_skip ?_; refine q_seq ?_; refine q_block ?_; refine q_seq ?_; refine q_region ?_)
      refine ql_ixA (v := .int .i64 c) tabOk ci_arr rfl rfl rfl rfl (by simp only; omega) (by simp only; omega) (by
        obtain rfl | rfl : j = 0 ∨ j = 1 := by omega
        · simpa using hcj
        · simpa using hcj) ?_
      (refine ql_pure tabOk rfl rfl ?_; refine q_nil ?_; (iterate 2 refine q_seq ?_))
      refine q_draw [] [un (L s)] (Sp.refl _) (by kernel_rfl) (by kernel_rfl) ?_
      (refine qf_pure tabOk rfl rfl rfl ?_; refine qf_loadG tabOk rfl rfl rfl (by assumption) (by rfl) ?_; (iterate 3 refine qf_pure tabOk rfl rfl rfl ?_); refine qf_loadG tabOk rfl rfl rfl (by assumption) (by rfl) ?_; refine qf_neg tabOk rfl rfl (by omega) (by omega) ?_; refine qf_loadG tabOk rfl rfl rfl (by assumption) (by rfl) ?_; (iterate 3 refine qf_pure tabOk rfl rfl rfl ?_); refine qf_loadG tabOk rfl rfl rfl (by assumption) (by rfl) ?_)
      refine qf_callv tabOk rfl rfl rfl rfl (fun w hs => in_ca c (-r.clicks) r.clicks w) ?_
      (refine qf_pure tabOk rfl rfl rfl ?_)
      by_cases hin : inB c (-r.clicks) r.clicks = true
      · rw [hin]
        (refine qf_gyes rfl ?_; refine qf_pure tabOk rfl rfl rfl ?_; refine qf_gyes rfl ?_; refine qf_pure tabOk rfl rfl rfl ?_; refine qf_gyes rfl ?_; refine qf_pure tabOk rfl rfl rfl ?_)
        by_cases hf0 : far = 0
        · subst hf0
          obtain rfl : j = 0 := hj0 rfl
          obtain rfl : c = near := by simpa using hcj.symm
          (refine qf_gyes rfl ?_; refine qf_pure tabOk rfl rfl rfl ?_; refine qf_gyes rfl ?_; refine qf_loadG tabOk rfl rfl rfl (by assumption) (by rfl) ?_; refine qf_gyes rfl ?_; refine qf_pure tabOk rfl rfl rfl ?_; refine qf_gyes rfl ?_; (iterate 3 refine qf_pure tabOk rfl rfl rfl ?_))
          rw [decide_eq_true (rfl : c = c)]
          (refine qf_gyes rfl ?_; refine qf_pure tabOk rfl rfl rfl ?_; refine qf_gyes rfl ?_; refine qf_pure tabOk rfl rfl rfl ?_; refine qf_gyes rfl ?_)
          have hx : clickL r.clicks c = (clickP r.clicks c 0 ++ partL r.clicks c 0 0) ++ c :: suf := by rw [clickL, hsuf]; simp [farL, partL]
          refine qf_callF [un (L s)] [] (DL (L s)) rfl rfl rfl (Sp.refl _) (fun b hb => ⟨_, .head _, hb⟩) (yieldF hcb hx hI) ?_
          rintro s' v (⟨rfl, hI'⟩ | ⟨rfl, hE⟩)
          · (refine qf_gyes rfl ?_; (iterate 2 refine qf_pure tabOk rfl rfl rfl ?_); refine qf_nil ?_; refine q_cond_false rfl ?_; refine q_skip ?_; refine q_seq ?_; refine q_region ?_; (iterate 2 refine ql_pure tabOk rfl rfl ?_); refine q_nil ?_; refine q_cond_true rfl ?_; refine q_exit _ rfl ?_; refine q_blk ?_; refine q_region ?_; refine ql_ar tabOk rfl rfl rfl rfl (by omega) (by omega) ?_; refine ql_pure tabOk rfl rfl ?_; refine q_nil ?_)
            refine hK (1, s') _ _ ⟨by omega, ?_⟩ (by simp only; omega) ⟨rfl, rfl, rfl, rfl, rfl, trivial⟩ (by repeat (first | exact Sp.nil | exact Sp.refl _ | refine Sp.cons (by repeat constructor) ?_))
            rw [show clickP r.clicks c 1 = clickP r.clicks c 0 ++ partL r.clicks c 0 0 ++ [c] by simp [clickP, farL, partL]]
            exact hI'
          · (refine qf_gyes rfl ?_; (iterate 2 refine qf_pure tabOk rfl rfl rfl ?_); refine qf_nil ?_; refine q_cond_true rfl ?_; refine q_ret ?_)
            refine q_fin tabOk rfl (by repeat (first | exact RVs.nil | apply RVs.tmp rfl | apply RVs.cellA rfl rfl (by repeat first | exact .head _ | refine .tail _ ?_) (by rfl) | apply RVs.cell1 rfl rfl (by repeat first | exact .head _ | refine .tail _ ?_))) fun w hs => ?_
            exact ⟨s', .inr hE, Sat.un1.1 (hs.sp (Sp.refl _))⟩
        · rw [decide_eq_true (show (0 : Int) < far by omega)]
          ((iterate 3 refine qf_gno rfl rfl rfl ?_); refine qf_gyes rfl ?_; (iterate 3 refine qf_pure tabOk rfl rfl rfl ?_); refine qf_gyes rfl ?_; refine qf_pure tabOk rfl rfl rfl ?_; refine qf_gyes rfl ?_; refine qf_pure tabOk rfl rfl rfl ?_; refine qf_gyes rfl ?_)
          obtain ⟨suf2, hsuf2⟩ := farL_part r.clicks near far j hf0 c hcj hin
          have hx : clickL r.clicks near = (clickP r.clicks near far ++ partL r.clicks near far j) ++ c :: (suf2 ++ suf) := by rw [clickL, hsuf, hsuf2]; simp
          have hp := partL_succ r.clicks near far j c hcj
          rw [if_pos hin] at hp
          refine qf_callF [un (L s)] [] (DL (L s)) rfl rfl rfl (Sp.refl _) (fun b hb => ⟨_, .head _, hb⟩) (yieldF hcb hx hI) ?_
          rintro s' v (⟨rfl, hI'⟩ | ⟨rfl, hE⟩)
          · (refine qf_gyes rfl ?_; (iterate 2 refine qf_pure tabOk rfl rfl rfl ?_); refine qf_nil ?_; refine q_cond_false rfl ?_; refine q_skip ?_; refine q_seq ?_; refine q_region ?_; (iterate 2 refine ql_pure tabOk rfl rfl ?_); refine q_nil ?_)
            rw [decide_eq_false (show ¬ (far : Int) = 0 by omega)]
            (refine q_cond_false rfl ?_; refine q_skip ?_; refine q_blk ?_; refine q_region ?_; refine ql_ar tabOk rfl rfl rfl rfl (by omega) (by omega) ?_; refine ql_pure tabOk rfl rfl ?_; refine q_nil ?_)
            refine hK2 (j + 1, s') _ _ ⟨by simp only; omega, fun h => absurd h hf0, ?_⟩ (by simp only; omega) ⟨rfl, rfl, rfl, rfl, rfl, rfl, rfl, rfl, trivial⟩ (by repeat (first | exact Sp.nil | exact Sp.refl _ | refine Sp.cons (by repeat constructor) ?_))
            simp only
            rw [hp, ← List.append_assoc]
            exact hI'
          · (refine qf_gyes rfl ?_; (iterate 2 refine qf_pure tabOk rfl rfl rfl ?_); refine qf_nil ?_; refine q_cond_true rfl ?_; refine q_ret ?_)
            refine q_fin tabOk rfl (by repeat (first | exact RVs.nil | apply RVs.tmp rfl | apply RVs.cellA rfl rfl (by repeat first | exact .head _ | refine .tail _ ?_) (by rfl) | apply RVs.cell1 rfl rfl (by repeat first | exact .head _ | refine .tail _ ?_))) fun w hs => ?_
            exact ⟨s', .inr hE, Sat.un1.1 (hs.sp (Sp.refl _))⟩
      · have hin' : inB c (-r.clicks) r.clicks = false := by simpa using hin
        rw [hin']
        ((iterate 3 refine qf_gno rfl rfl rfl ?_); (iterate 3 refine qf_gnone rfl rfl ?_); refine qf_gno rfl rfl rfl ?_; (iterate 2 refine qf_pure tabOk rfl rfl rfl ?_); (iterate 4 refine qf_gno rfl rfl rfl ?_); refine qf_pure tabOk rfl rfl rfl ?_; refine qf_nil ?_; refine q_cond_false rfl ?_; refine q_skip ?_; refine q_seq ?_; refine q_region ?_; (iterate 2 refine ql_pure tabOk rfl rfl ?_); refine q_nil ?_)
        by_cases hf0 : far = 0
        · subst hf0
          obtain rfl : j = 0 := hj0 rfl
          obtain rfl : c = near := by simpa using hcj.symm
          exact absurd hn hin
        · rw [decide_eq_false (show ¬ (far : Int) = 0 by omega)]
          (refine q_cond_false rfl ?_; refine q_skip ?_; refine q_blk ?_; refine q_region ?_; refine ql_ar tabOk rfl rfl rfl rfl (by omega) (by omega) ?_; refine ql_pure tabOk rfl rfl ?_; refine q_nil ?_)
          have hp := partL_succ r.clicks near far j c hcj
          rw [if_neg hin, List.append_nil] at hp
          exact hK2 (j + 1, s) _ _ ⟨by simp only; omega, fun h => absurd h hf0, by simp only; rw [hp]; exact hI⟩ (by simp only; omega) ⟨rfl, rfl, rfl, rfl, rfl, rfl, rfl, rfl, trivial⟩ (by repeat (first | exact Sp.nil | exact Sp.refl _ | refine Sp.cons (by repeat constructor) ?_))
    · have hj2 : j = 2 := by simp only at hc; omega
      subst hj2
      have hf0 : far ≠ 0 := fun h => by have := hj0 h; omega
      (refine q_exit _ rfl ?_; refine q_blk ?_; refine q_region ?_; refine ql_ar tabOk rfl rfl rfl rfl (by omega) (by omega) ?_; refine ql_pure tabOk rfl rfl ?_; refine q_nil ?_)
      exact hK (far + 1, s) _ _ ⟨by simp only; omega, by simp only; rw [clickP_succ, farL_pos r.clicks near far hf0]; exact hI⟩ (by simp only; omega) ⟨rfl, rfl, rfl, rfl, rfl, trivial⟩ (by repeat (first | exact Sp.nil | exact Sp.refl _ | refine Sp.cons (by repeat constructor) ?_))
  · obtain rfl : far = (2 * r.clicks + 1).toNat := by simp only at hc; omega
    (refine q_exit _ rfl ?_)
    refine q_end tabOk rfl (by repeat (first | exact RVs.nil | apply RVs.tmp rfl | apply RVs.cellA rfl rfl (by repeat first | exact .head _ | refine .tail _ ?_) (by rfl) | apply RVs.cell1 rfl rfl (by repeat first | exact .head _ | refine .tail _ ?_))) fun w hs => ?_
    exact ⟨s, .inl hI, Sat.un1.1 (hs.sp (Sp.refl _))⟩

end Go.Proofs.YtohlillcaadidaaGreat

/- Walks: the best click by a rule. -/
namespace Go.Proofs.YtohlillcaadidaaGreat
open Go Go.Eng

theorem clicks_ca (w : World) (b : Nat) (near : Int) : Ca Tryz.prog 102 [.pointer (some ⟨b, 0, none⟩), .int .i64 near] w fun v w' =>
    ∃ x : Nat × Nat, v = .func (.func 125) #[] #[.pointer (some ⟨x.1, 0, none⟩), .pointer (some ⟨x.2, 0, none⟩)] ∧ Sat w M0 [.pt x.2 [.int .i64 near] 3, .pt x.1 [.pointer (some ⟨b, 0, none⟩)] 84] w' := by
  refine q_of (Sat.nil w M0) Tryz.func102 rfl (by simp [Tryz.ntmps102]) ?_
  (refine q_seq ?_; refine q_region ?_)
  refine ql_box rfl rfl (fun b2 => ?_)
  refine ql_box rfl rfl (fun b3 => ?_)
  (refine ql_pure tabOk rfl rfl ?_; refine q_nil ?_; refine q_seq ?_; refine q_region ?_; (iterate 2 refine ql_pure tabOk rfl rfl ?_); refine q_nil ?_; refine q_ret ?_)
  refine q_fin tabOk rfl (by repeat (first | exact RVs.nil | apply RVs.tmp rfl | apply RVs.cellA rfl rfl (by repeat first | exact .head _ | refine .tail _ ?_) (by rfl) | apply RVs.cell1 rfl rfl (by repeat first | exact .head _ | refine .tail _ ?_))) fun w hs => ?_
  exact ⟨(b2, b3), rfl, hs⟩

/-- The first of the least ones. -/
def bestStep (q : Int → Int × Int) (s : Int × (Int × Int)) (c : Int) : Int × (Int × Int) := if lessB (q c) s.2 then (c, q c) else s
def bestOf (q : Int → Int × Int) (l : List Int) : Int × (Int × Int) := l.foldl (bestStep q) (0, q 0)

theorem clickL_in (C near : Int) (hn : inB near (-C) C = true) : ∀ c ∈ clickL C near, inB c (-C) C = true := by
  intro c hc
  simp only [clickL, clickP, List.mem_flatMap] at hc
  obtain ⟨n, _, hc⟩ := hc
  unfold farL at hc
  split at hc
  · rw [List.mem_singleton.1 hc]; exact hn
  · exact (List.mem_filter.1 hc).2

theorem bestOf_fine (q : Int → Int × Int) (C : Int) (hfine : ∀ c, inB c (-C) C = true → Fine (q c)) (h0 : inB 0 (-C) C = true) : ∀ (l : List Int), (∀ c ∈ l, inB c (-C) C = true) → ∀ s, Fine s.2 → Fine (l.foldl (bestStep q) s).2
  | [], _, s, hs => hs
  | c :: l, hl, s, hs => by
    rw [List.foldl_cons]
    refine bestOf_fine q C hfine h0 l (fun c hc => hl c (List.mem_cons_of_mem _ hc)) _ ?_
    unfold bestStep
    split
    · exact hfine c (hl c List.mem_cons_self)
    · exact hs

set_option maxHeartbeats 1000000 in
theorem best_ca (w : World) (b : Nat) (r : Rg) (fv : Value) (q : Int → Int × Int) (hdk : DkAt w b r) (hC : 0 ≤ r.clicks ∧ r.clicks ≤ 6) (hfv : oneV fv = true) (hfine : ∀ c, inB c (-r.clicks) r.clicks = true → Fine (q c))
    (hbad : ∀ w', Chg [] w w' → ∀ c, inB c (-r.clicks) r.clicks = true → CaF Tryz.prog fv [.int .i64 c] w' (fun v w'' => v = rtV (q c) ∧ Chg [] w' w'')) :
    Ca Tryz.prog 49 [.pointer (some ⟨b, 0, none⟩), .agg #[fv]] w fun v w' => v = .tuple #[.int .i64 (bestOf q (clickL r.clicks 0)).1, rtV (bestOf q (clickL r.clicks 0)).2] ∧ Chg [] w w' := by
  have h0 : inB 0 (-r.clicks) r.clicks = true := inB_iff.2 (by omega)
  refine q_ofM (Sat.nil w M0) Tryz.func49 rfl (by simp [Tryz.ntmps49]) ?_
  (refine q_seq ?_; refine q_region ?_)
  refine ql_box rfl rfl (fun b3 => ?_)
  (refine ql_pure tabOk rfl rfl ?_)
  refine ql_alloc zero36 rfl (fun b5 => ?_)
  (refine q_nil ?_; refine q_seq ?_; refine q_region ?_; refine ql_pure tabOk rfl rfl ?_; refine ql_loadB tabOk rfl rfl rfl (by repeat first | exact .head _ | refine .tail _ ?_) (by rfl) ?_)
  refine ql_callFv rfl rfl rfl (fun w' hs => hbad w' hs.chg0 0 h0) ?_
  skip
  refine ql_alloc zero3 rfl (fun b6 => ?_)
  refine ql_alloc zero36 rfl (fun b7 => ?_)
  (refine ql_set tabOk rfl rfl rfl rfl (by repeat constructor) ?_; refine ql_setA tabOk rfl rfl rfl rfl rfl (by repeat constructor) rfl ?_; refine q_nil ?_; (iterate 2 refine q_seq ?_); refine q_region ?_; refine ql_pure tabOk rfl rfl ?_)
  refine ql_call (β := Nat × Nat) tabOk [] _ M0 rfl rfl rfl rfl (Sp.refl _) (fun _ h => h.elim) (fun w' hs => clicks_ca w' b 0) ?_
  rintro ⟨bd, bn⟩ _ rfl
  (refine q_nil ?_; refine q_block ?_)
  refine q_range (fun c => [Value.int .i64 c]) (Int × (Int × Int)) (clickL r.clicks 0) (fun pre s => s = pre.foldl (bestStep q) (0, q 0)) (fun _ _ => False)
    (fun s => [.pt b7 [.int .i64 s.2.1, .int .i64 s.2.2] 36, .pt b6 [.int .i64 s.1] 3, .pt b3 [fv] 99]) [.pt bn [.int .i64 0] 3, .pt bd [.pointer (some ⟨b, 0, none⟩)] 84, .pt b5 [.int .i64 0, .int .i64 0] 36] (0, q 0)
    rfl (by kernel_rfl) rfl (fun _ _ => rfl) rfl (by repeat (first | exact Sp.nil | exact Sp.refl _ | refine Sp.cons (by repeat constructor) ?_)) ?_ ?_ ?_ (fun _ _ _ h => h.elim)
  · intro w1 D hs hD
    exact clicks_it w w1 D b bd bn 0 r hdk (fun w' hc => hs.chg0.old hc (fun k hk => (hD k hk).2.resolve_left (fun h => h))) hC h0 (hs.blk (by repeat first | exact .head _ | refine .tail _ ?_)) (hs.blk (by repeat first | exact .head _ | refine .tail _ ?_)) (fun h => (hD _ h).1 ⟨.pt bd [.pointer (some ⟨b, 0, none⟩)] _, (by repeat first | exact .head _ | refine .tail _ ?_), rfl⟩) (fun h => (hD _ h).1 ⟨.pt bn [.int .i64 0] _, (by repeat first | exact .head _ | refine .tail _ ?_), rfl⟩)
  · intro pre x post s w1 l rdy bsy K F' hx hI hsat hR hbegin hend hret hexit
    have hxin : inB x (-r.clicks) r.clicks = true := clickL_in _ _ h0 x (by rw [hx]; simp)
    have hsf : Fine s.2 := by
      rw [hI]
      exact bestOf_fine q r.clicks hfine h0 pre (fun c hc => clickL_in _ _ h0 c (by rw [hx]; simp [hc])) _ (hfine 0 h0)
    (refine q_region ?_; refine ql_pure tabOk rfl rfl ?_; refine q_nil ?_)
    refine hbegin _ _ ?_
    (refine q_block ?_; refine q_seq ?_; refine q_region ?_; refine ql_pure tabOk rfl rfl ?_; refine ql_loadB tabOk rfl rfl rfl (by repeat first | exact .head _ | refine .tail _ ?_) (by rfl) ?_; refine ql_pure tabOk rfl rfl ?_)
    refine ql_callFv rfl rfl rfl (fun w' hs => hbad w' (hR w' hs.chg).chg0 x hxin) ?_
    skip
    refine ql_alloc zero36 rfl (fun b9 => ?_)
    (refine ql_setA tabOk rfl rfl rfl rfl rfl (by repeat constructor) rfl ?_; refine q_nil ?_; refine q_seq ?_; refine q_region ?_; (iterate 2 refine ql_loadAB tabOk rfl rfl rfl (by repeat first | exact .head _ | refine .tail _ ?_) (by rfl) (by rfl) ?_))
    refine ql_callv tabOk rfl rfl rfl rfl (fun w hs => less_ca (q x) s.2 w (hfine x hxin) hsf) ?_
    (refine q_nil ?_)
    refine q_cond rfl (fun hc => ?_) (fun hc => ?_)
    · skip
      refine q_draw _ [.pt b6 _ _, .pt b7 _ _] (Sp.cons (by repeat constructor) (Sp.cons (by repeat constructor) (Sp.refl _))) (by kernel_rfl) (by kernel_rfl) ?_
      (refine qf_pure tabOk rfl rfl rfl ?_; refine qf_loadAB tabOk rfl rfl rfl (by repeat first | exact .head _ | refine .tail _ ?_) (by rfl) (by rfl) ?_; refine qf_set tabOk rfl rfl rfl rfl (by repeat constructor) ?_; refine qf_setA tabOk rfl rfl rfl rfl rfl (by repeat constructor) rfl ?_; refine qf_nil ?_; refine q_blk ?_)
      refine hend _ _ (x, q x) ?_ (by repeat (first | exact Sp.nil | exact Sp.refl _ | refine Sp.cons (by repeat constructor) ?_))
      rw [List.foldl_append, ← hI]
      simp [bestStep, hc]
    · (refine q_skip ?_; refine q_blk ?_)
      refine hend _ _ s ?_ (by repeat (first | exact Sp.nil | exact Sp.refl _ | refine Sp.cons (by repeat constructor) ?_))
      rw [List.foldl_append, ← hI]
      simp [bestStep, hc]
  · rintro D s rfl
    (refine q_blk ?_; refine q_seq ?_)
    refine q_draw _ [.pt b5 _ _] (Sp.cons (by repeat constructor) (Sp.refl _)) (by kernel_rfl) (by kernel_rfl) ?_
    (refine qf_loadB tabOk rfl rfl rfl (by repeat first | exact .head _ | refine .tail _ ?_) (by rfl) ?_; refine qf_loadAB tabOk rfl rfl rfl (by repeat first | exact .head _ | refine .tail _ ?_) (by rfl) (by rfl) ?_; refine qf_pure tabOk rfl rfl rfl ?_; refine qf_setA tabOk rfl rfl rfl rfl rfl (by repeat constructor) rfl ?_; refine qf_nil ?_; refine q_ret ?_)
    refine q_finMD tabOk (by repeat constructor) rfl (by repeat (first | exact RVs.nil | apply RVs.tmp rfl | apply RVs.cellA rfl rfl (by repeat first | exact .head _ | refine .tail _ ?_) (by rfl) | apply RVs.cell1 rfl rfl (by repeat first | exact .head _ | refine .tail _ ?_))) fun w hs => ?_
    exact ⟨rfl, hs.chg0⟩

end Go.Proofs.YtohlillcaadidaaGreat

/- Walks: IndexFunc, ContainsFunc, klister/wind.every: alike for each element type. Written by gen_every.py. -/
namespace Go.Proofs.YtohlillcaadidaaGreat
open Go Go.Eng

set_option maxHeartbeats 1000000 in
theorem idxF_int (w : World) (lo hi : Nat) (v cv : Value) (es : List Value) (p : Value → Bool) (hrd : RdE w lo hi v 1 es) (hone : ∀ i (hi : i < es.length), oneV es[i] = true) (hlen : es.length < 4611686018427387904) (hp : PredAt Tryz.prog tab w cv es p) :
    Ca Tryz.prog 131 [v, cv] w fun r w' => ((∃ i : Nat, r = .int .i64 i ∧ ∃ hi : i < es.length, p es[i] = true) ∨ (r = .int .i64 (-1) ∧ ∀ x ∈ es, p x = false)) ∧ Chg [] w w' := by
  obtain ⟨a, cap, rfl, hsl⟩ := hrd.out
  obtain ⟨g, first, caps, rfl, hg, hcl⟩ := hp
  refine ca_of Tryz.func131 rfl (by simp [Tryz.ntmps131]) ?_
  (refine y_seq ?_; refine y_region ?_; refine yl_pure tabOk rfl rfl ?_; (iterate 2 refine y_seq ?_); refine y_region ?_; (iterate 3 refine yl_pure tabOk rfl rfl ?_); refine y_block ?_)
  refine y_loop (fun m l wr => ∃ k : Nat, k ≤ es.length ∧ m = es.length - k ∧ l = [(0, .slice a es.length cap), (1, .func (.func g) first caps), (7, .int .i64 es.length), (8, .int .i64 k)] ∧ (∀ i (hi : i < es.length), i < k → p es[i] = false) ∧ Chg [] w wr) (m := es.length)
    ⟨0, by omega, rfl, rfl, fun i _ hi => by omega, Chg.refl _ _⟩ ⟨rfl, rfl, rfl, rfl, trivial⟩ ?_
  rintro m l wr ⟨k, hkl, rfl, rfl, hpk, hcw⟩ K hK
  (refine y_seq ?_; refine y_region ?_; refine yl_pure tabOk rfl rfl ?_; refine y_seq ?_)
  refine y_if rfl (fun hc => ?_) (fun hc => ?_)
  · have hk : k < es.length := by omega
    obtain ⟨b, off, rfl⟩ := hsl (by omega)
    (refine y_skip ?_; refine y_seq ?_; refine y_block ?_; refine y_seq ?_; refine y_region ?_; (iterate 2 refine yl_pure tabOk rfl rfl ?_); refine y_seq ?_; refine y_region ?_; (iterate 3 refine yl_pure tabOk rfl rfl ?_))
    refine yl_index tabOk rfl rfl rfl rfl rfl (by omega) (by omega) ?_
    refine yl_load1 tabOk rfl rfl rfl (v := es[k]) (by rw [show (Int.toNat (k : Int)) = k from rfl]; exact (hrd.keep hcw).cell1 k hk (hone k hk)) ?_
    refine yl_call tabOk rfl hg rfl rfl (hcl wr hcw es[k] (List.getElem_mem hk)) ?_
    rintro _ w2 ⟨rfl, hc2⟩
    (refine yl_nil ?_)
    refine y_cond rfl (fun hc => ?_) (fun hc => ?_)
    · (refine y_seq ?_; refine y_region ?_; (iterate 2 refine yl_pure tabOk rfl rfl ?_); refine y_ret ?_)
      exact y_fin1 rfl rfl ⟨.inl ⟨k, rfl, hk, hc⟩, hcw.trans hc2⟩
    · (refine y_skip ?_; refine y_region ?_; (iterate 2 refine yl_pure tabOk rfl rfl ?_); refine yl_nil ?_)
      refine y_k (hK _ _ _ _ ⟨k + 1, by omega, rfl, rfl, fun i hi hik => ?_, hcw.trans hc2⟩ (by omega) ⟨rfl, rfl, rfl, ?_, trivial⟩)
      · by_cases h : i < k
        · exact hpk i hi h
        · obtain rfl : i = k := by omega
          exact hc
      · show some (Value.int _ (IntKind.i64.wrap (↑k + 1))) = _
        rw [w64 (by omega) (by omega)]
        rfl
  · (refine y_exit _ rfl ?_; refine y_seq ?_; refine y_region ?_; refine yl_pure tabOk rfl rfl ?_; refine y_ret ?_)
    refine y_fin1 rfl rfl ⟨.inr ⟨rfl, fun x hx => ?_⟩, hcw⟩
    obtain ⟨i, hi, rfl⟩ := List.getElem_of_mem hx
    exact hpk i hi (by omega)

theorem conF_int (w : World) (lo hi : Nat) (v cv : Value) (es : List Value) (p : Value → Bool) (hrd : RdE w lo hi v 1 es) (hone : ∀ i (hi : i < es.length), oneV es[i] = true) (hlen : es.length < 4611686018427387904) (hp : PredAt Tryz.prog tab w cv es p) :
    Ca Tryz.prog 119 [v, cv] w fun r w' => r = .bool (es.any p) ∧ Chg [] w w' := by
  refine ca_of Tryz.func119 rfl (by simp [Tryz.ntmps119]) ?_
  (refine y_seq ?_; refine y_region ?_; refine yl_pure tabOk rfl rfl ?_; refine y_seq ?_; refine y_region ?_; (iterate 2 refine yl_pure tabOk rfl rfl ?_))
  refine yl_call tabOk rfl rfl rfl rfl (idxF_int w lo hi v cv es p hrd hone hlen hp) ?_
  rintro r w2 ⟨⟨i, rfl, hi, hpi⟩ | ⟨rfl, hall⟩, hc2⟩
  · ((iterate 2 refine yl_pure tabOk rfl rfl ?_); refine y_ret ?_)
    refine y_fin1 rfl rfl ⟨?_, hc2⟩
    have h1 : es.any p = true := List.any_eq_true.2 ⟨_, List.getElem_mem hi, hpi⟩
    rw [h1]
    exact congrArg Value.bool (decide_eq_true (by omega))
  · ((iterate 2 refine yl_pure tabOk rfl rfl ?_); refine y_ret ?_)
    refine y_fin1 rfl rfl ⟨?_, hc2⟩
    have h1 : es.any p = false := List.any_eq_false.2 (fun x hx => by simp [hall x hx])
    rw [h1]
    rfl

theorem all1_int (w : World) (b t : Nat) (cv x : Value) (es : List Value) (p : Value → Bool) (_hx : oneV x = true) (hm : x ∈ es) (hb : Blk w b [cv] t) (hp : PredAt Tryz.prog tab w cv es p) :
    Ca Tryz.prog 120 [x, .pointer (some ⟨b, 0, none⟩)] w fun r w' => r = .bool (!(p x)) ∧ Chg [] w w' := by
  obtain ⟨g, first, caps, rfl, hg, hcl⟩ := hp
  refine ca_of Tryz.func120 rfl (by simp [Tryz.ntmps120]) ?_
  (refine y_seq ?_; refine y_region ?_; refine yl_pure tabOk rfl rfl ?_; refine y_seq ?_; refine y_region ?_; refine yl_loadB tabOk rfl rfl rfl (by assumption) (by rfl) ?_; refine yl_pure tabOk rfl rfl ?_)
  refine yl_call tabOk rfl hg rfl rfl (hcl w (Chg.refl _ _) _ hm) ?_
  rintro _ w2 ⟨rfl, hc2⟩
  ((iterate 2 refine yl_pure tabOk rfl rfl ?_); refine y_ret ?_)
  exact y_fin1 rfl rfl ⟨rfl, hc2⟩

theorem all_int (w : World) (lo hi : Nat) (v cv : Value) (es : List Value) (p : Value → Bool) (hrd : RdE w lo hi v 1 es) (hone : ∀ i (hi : i < es.length), oneV es[i] = true) (hlen : es.length < 4611686018427387904) (hp : PredAt Tryz.prog tab w cv es p) :
    Ca Tryz.prog 77 [v, cv] w fun r w' => r = .bool (es.all p) ∧ Chg [] w w' := by
  refine ca_of Tryz.func77 rfl (by simp [Tryz.ntmps77]) ?_
  (refine y_seq ?_; refine y_region ?_)
  refine yl_box rfl rfl (fun w1 hc1 hs1 hb1 => ?_)
  have hcv : cv.cells.toList = [cv] := by obtain ⟨g, first, caps, rfl, _, _⟩ := hp; rfl
  rw [hcv] at hb1
  have hp1 : PredAt Tryz.prog tab w1 (.func (.func 120) #[] #[.pointer (some ⟨w.heap.size, 0, none⟩)]) es (fun x => !(p x)) := by
    refine ⟨120, #[], #[_], rfl, rfl, fun w' hw' x hx => ?_⟩
    refine all1_int w' w.heap.size _ cv x es p ?_ hx (hb1.keep hw') (hp.keep (hc1.trans hw'))
    obtain ⟨i, hi, rfl⟩ := List.getElem_of_mem hx
    exact hone i hi
  (refine yl_pure tabOk rfl rfl ?_; refine y_seq ?_; refine y_region ?_; (iterate 2 refine yl_pure tabOk rfl rfl ?_))
  refine yl_call tabOk rfl rfl rfl rfl (conF_int w1 lo hi v _ es _ (hrd.keep hc1) hone hlen hp1) ?_
  rintro _ w2 ⟨rfl, hc2⟩
  ((iterate 2 refine yl_pure tabOk rfl rfl ?_); refine y_ret ?_)
  refine y_fin1 rfl rfl ⟨?_, hc1.trans hc2⟩
  rw [List.all_eq_not_any_not]


set_option maxHeartbeats 1000000 in
theorem idxF_span (w : World) (lo hi : Nat) (v cv : Value) (es : List Value) (p : Value → Bool) (hrd : RdE w lo hi v 2 es) (hagg : ∀ i (hi : i < es.length), ∃ c, es[i] = .agg c) (hlen : es.length < 4611686018427387904) (hp : PredAt Tryz.prog tab w cv es p) :
    Ca Tryz.prog 133 [v, cv] w fun r w' => ((∃ i : Nat, r = .int .i64 i ∧ ∃ hi : i < es.length, p es[i] = true) ∨ (r = .int .i64 (-1) ∧ ∀ x ∈ es, p x = false)) ∧ Chg [] w w' := by
  obtain ⟨a, cap, rfl, hsl⟩ := hrd.out
  obtain ⟨g, first, caps, rfl, hg, hcl⟩ := hp
  refine ca_of Tryz.func133 rfl (by simp [Tryz.ntmps133]) ?_
  (refine y_seq ?_; refine y_region ?_; refine yl_pure tabOk rfl rfl ?_; (iterate 2 refine y_seq ?_); refine y_region ?_; (iterate 3 refine yl_pure tabOk rfl rfl ?_); refine y_block ?_)
  refine y_loop (fun m l wr => ∃ k : Nat, k ≤ es.length ∧ m = es.length - k ∧ l = [(0, .slice a es.length cap), (1, .func (.func g) first caps), (7, .int .i64 es.length), (8, .int .i64 k)] ∧ (∀ i (hi : i < es.length), i < k → p es[i] = false) ∧ Chg [] w wr) (m := es.length)
    ⟨0, by omega, rfl, rfl, fun i _ hi => by omega, Chg.refl _ _⟩ ⟨rfl, rfl, rfl, rfl, trivial⟩ ?_
  rintro m l wr ⟨k, hkl, rfl, rfl, hpk, hcw⟩ K hK
  (refine y_seq ?_; refine y_region ?_; refine yl_pure tabOk rfl rfl ?_; refine y_seq ?_)
  refine y_if rfl (fun hc => ?_) (fun hc => ?_)
  · have hk : k < es.length := by omega
    obtain ⟨b, off, rfl⟩ := hsl (by omega)
    (refine y_skip ?_; refine y_seq ?_; refine y_block ?_; refine y_seq ?_; refine y_region ?_; (iterate 2 refine yl_pure tabOk rfl rfl ?_); refine y_seq ?_; refine y_region ?_; (iterate 3 refine yl_pure tabOk rfl rfl ?_))
    refine yl_index tabOk rfl rfl rfl rfl rfl (by omega) (by omega) ?_
    refine yl_loadA tabOk rfl rfl rfl (cs := es[k].cells.toList) (by simpa using hrd.sz es[k] (List.getElem_mem hk)) (fun j hj => (hrd.keep hcw).cell k j hk hj) ?_
    have hval : Value.agg es[k].cells.toList.toArray = es[k] := by
      obtain ⟨c, hc⟩ := hagg k hk
      rw [hc]; simp [Value.cells]
    rw [hval]
    refine yl_call tabOk rfl hg rfl rfl (hcl wr hcw es[k] (List.getElem_mem hk)) ?_
    rintro _ w2 ⟨rfl, hc2⟩
    (refine yl_nil ?_)
    refine y_cond rfl (fun hc => ?_) (fun hc => ?_)
    · (refine y_seq ?_; refine y_region ?_; (iterate 2 refine yl_pure tabOk rfl rfl ?_); refine y_ret ?_)
      exact y_fin1 rfl rfl ⟨.inl ⟨k, rfl, hk, hc⟩, hcw.trans hc2⟩
    · (refine y_skip ?_; refine y_region ?_; (iterate 2 refine yl_pure tabOk rfl rfl ?_); refine yl_nil ?_)
      refine y_k (hK _ _ _ _ ⟨k + 1, by omega, rfl, rfl, fun i hi hik => ?_, hcw.trans hc2⟩ (by omega) ⟨rfl, rfl, rfl, ?_, trivial⟩)
      · by_cases h : i < k
        · exact hpk i hi h
        · obtain rfl : i = k := by omega
          exact hc
      · show some (Value.int _ (IntKind.i64.wrap (↑k + 1))) = _
        rw [w64 (by omega) (by omega)]
        rfl
  · (refine y_exit _ rfl ?_; refine y_seq ?_; refine y_region ?_; refine yl_pure tabOk rfl rfl ?_; refine y_ret ?_)
    refine y_fin1 rfl rfl ⟨.inr ⟨rfl, fun x hx => ?_⟩, hcw⟩
    obtain ⟨i, hi, rfl⟩ := List.getElem_of_mem hx
    exact hpk i hi (by omega)

theorem conF_span (w : World) (lo hi : Nat) (v cv : Value) (es : List Value) (p : Value → Bool) (hrd : RdE w lo hi v 2 es) (hagg : ∀ i (hi : i < es.length), ∃ c, es[i] = .agg c) (hlen : es.length < 4611686018427387904) (hp : PredAt Tryz.prog tab w cv es p) :
    Ca Tryz.prog 123 [v, cv] w fun r w' => r = .bool (es.any p) ∧ Chg [] w w' := by
  refine ca_of Tryz.func123 rfl (by simp [Tryz.ntmps123]) ?_
  (refine y_seq ?_; refine y_region ?_; refine yl_pure tabOk rfl rfl ?_; refine y_seq ?_; refine y_region ?_; (iterate 2 refine yl_pure tabOk rfl rfl ?_))
  refine yl_call tabOk rfl rfl rfl rfl (idxF_span w lo hi v cv es p hrd hagg hlen hp) ?_
  rintro r w2 ⟨⟨i, rfl, hi, hpi⟩ | ⟨rfl, hall⟩, hc2⟩
  · ((iterate 2 refine yl_pure tabOk rfl rfl ?_); refine y_ret ?_)
    refine y_fin1 rfl rfl ⟨?_, hc2⟩
    have h1 : es.any p = true := List.any_eq_true.2 ⟨_, List.getElem_mem hi, hpi⟩
    rw [h1]
    exact congrArg Value.bool (decide_eq_true (by omega))
  · ((iterate 2 refine yl_pure tabOk rfl rfl ?_); refine y_ret ?_)
    refine y_fin1 rfl rfl ⟨?_, hc2⟩
    have h1 : es.any p = false := List.any_eq_false.2 (fun x hx => by simp [hall x hx])
    rw [h1]
    rfl

theorem all1_span (w : World) (b t : Nat) (cv x : Value) (es : List Value) (p : Value → Bool) (hx : ∃ c, x = .agg c ∧ c.size = 2) (hm : x ∈ es) (hb : Blk w b [cv] t) (hp : PredAt Tryz.prog tab w cv es p) :
    Ca Tryz.prog 124 [x, .pointer (some ⟨b, 0, none⟩)] w fun r w' => r = .bool (!(p x)) ∧ Chg [] w w' := by
  obtain ⟨g, first, caps, rfl, hg, hcl⟩ := hp
  obtain ⟨c, rfl, hcs⟩ := hx
  refine ca_of Tryz.func124 rfl (by simp [Tryz.ntmps124]) ?_
  (refine y_seq ?_; refine y_region ?_)
  refine yl_box rfl rfl (fun w1 hc1 hs1 hb1 => ?_)
  have hb' := hb.keep hc1
  (refine yl_pure tabOk rfl rfl ?_; refine y_seq ?_; refine y_region ?_; refine yl_loadB tabOk rfl rfl rfl (by assumption) (by rfl) ?_)
  refine yl_loadAB tabOk rfl rfl rfl hb1 (us := c.toList) (List.take_of_length_le (by simp [Value.cells, hcs])) (by simpa using hcs) ?_
  refine yl_call tabOk rfl hg rfl rfl (hcl w1 hc1 _ hm) ?_
  rintro _ w2 ⟨rfl, hc2⟩
  ((iterate 2 refine yl_pure tabOk rfl rfl ?_); refine y_ret ?_)
  exact y_fin1 rfl rfl ⟨rfl, hc1.trans hc2⟩

theorem all_span (w : World) (lo hi : Nat) (v cv : Value) (es : List Value) (p : Value → Bool) (hrd : RdE w lo hi v 2 es) (hagg : ∀ i (hi : i < es.length), ∃ c, es[i] = .agg c) (hlen : es.length < 4611686018427387904) (hp : PredAt Tryz.prog tab w cv es p) :
    Ca Tryz.prog 98 [v, cv] w fun r w' => r = .bool (es.all p) ∧ Chg [] w w' := by
  refine ca_of Tryz.func98 rfl (by simp [Tryz.ntmps98]) ?_
  (refine y_seq ?_; refine y_region ?_)
  refine yl_box rfl rfl (fun w1 hc1 hs1 hb1 => ?_)
  have hcv : cv.cells.toList = [cv] := by obtain ⟨g, first, caps, rfl, _, _⟩ := hp; rfl
  rw [hcv] at hb1
  have hp1 : PredAt Tryz.prog tab w1 (.func (.func 124) #[] #[.pointer (some ⟨w.heap.size, 0, none⟩)]) es (fun x => !(p x)) := by
    refine ⟨124, #[], #[_], rfl, rfl, fun w' hw' x hx => ?_⟩
    refine all1_span w' w.heap.size _ cv x es p ?_ hx (hb1.keep hw') (hp.keep (hc1.trans hw'))
    obtain ⟨i, hi, rfl⟩ := List.getElem_of_mem hx
    obtain ⟨c, hc⟩ := hagg i hi; exact ⟨c, hc, by have := hrd.sz _ hx; rw [hc] at this; exact this⟩
  (refine yl_pure tabOk rfl rfl ?_; refine y_seq ?_; refine y_region ?_; (iterate 2 refine yl_pure tabOk rfl rfl ?_))
  refine yl_call tabOk rfl rfl rfl rfl (conF_span w1 lo hi v _ es _ (hrd.keep hc1) hagg hlen hp1) ?_
  rintro _ w2 ⟨rfl, hc2⟩
  ((iterate 2 refine yl_pure tabOk rfl rfl ?_); refine y_ret ?_)
  refine y_fin1 rfl rfl ⟨?_, hc1.trans hc2⟩
  rw [List.all_eq_not_any_not]


end Go.Proofs.YtohlillcaadidaaGreat

/- Walks: something holds for each row. -/
namespace Go.Proofs.YtohlillcaadidaaGreat
open Go Go.Eng

/-- A predicate of rows, as a function value. -/
def RowP (w : World) (lo hi : Nat) (cv : Value) (ll : List (List Int)) (p : List Int → Bool) : Prop :=
  ∃ g first caps, cv = .func (.func g) first caps ∧ has tab.fn g = true ∧
    ∀ w', Chg [] w w' → ∀ l ∈ ll, ∀ v, RdI w' lo hi v l → Ca Tryz.prog g (first.toList ++ [v] ++ caps.toList) w' fun v w'' => v = .bool (p l) ∧ Chg [] w' w''
theorem RowP.keep {w w1 : World} {lo hi : Nat} {cv : Value} {ll : List (List Int)} {p : List Int → Bool} (h : RowP w lo hi cv ll p) (c : Chg [] w w1) : RowP w1 lo hi cv ll p := by
  obtain ⟨g, f, cs, h1, h2, h3⟩ := h
  exact ⟨g, f, cs, h1, h2, fun w' hw => h3 w' (c.trans hw)⟩

theorem idxR (w : World) (lo hi : Nat) (v cv : Value) (ll : List (List Int)) (p : List Int → Bool) (hrd : RdII w lo hi v ll) (hlen : ll.length < 1000000) (hp : RowP w lo hi cv ll p) :
    Ca Tryz.prog 126 [v, cv] w fun r w' => (∃ i : Int, r = .int .i64 i ∧ decide (0 ≤ i) = ll.any p) ∧ Chg [] w w' := by
  obtain ⟨a, cap, rfl, hsl⟩ := hrd.outI
  obtain ⟨g, first, caps, rfl, hg, hcl⟩ := hp
  refine q_of (Sat.nil w M0) Tryz.func126 rfl (by simp [Tryz.ntmps126]) ?_
  (refine q_seq ?_; refine q_region ?_; refine ql_pure tabOk rfl rfl ?_; refine q_nil ?_; (iterate 2 refine q_seq ?_); refine q_region ?_; (iterate 3 refine ql_pure tabOk rfl rfl ?_); refine q_nil ?_; refine q_block ?_)
  refine q_loop (σ := Nat) (fun k => k ≤ ll.length ∧ (ll.take k).any p = false) (fun k => ll.length - k) (fun k => [(0, .slice a ll.length cap), (1, .func (.func g) first caps), (7, .int .i64 ll.length), (8, .int .i64 k)]) (fun _ => []) 0 ⟨by omega, rfl⟩ ⟨rfl, rfl, rfl, rfl, trivial⟩ .nil ?_
  rintro k ⟨hk, hpk⟩ K hK
  (refine q_seq ?_; refine q_region ?_; refine ql_pure tabOk rfl rfl ?_; refine q_nil ?_; refine q_seq ?_)
  refine q_if rfl (fun hc => ?_) (fun hc => ?_)
  · have hk : k < ll.length := by omega
    obtain ⟨b, off, rfl⟩ := hsl (by omega)
    obtain ⟨ar, cr, hrow, hcell⟩ := hrd.row k hk
    (refine q_skip ?_; refine q_seq ?_; refine q_block ?_; refine q_seq ?_; refine q_region ?_; (iterate 2 refine ql_pure tabOk rfl rfl ?_); refine q_nil ?_; refine q_seq ?_; refine q_region ?_; (iterate 3 refine ql_pure tabOk rfl rfl ?_))
    refine ql_index tabOk rfl rfl rfl rfl rfl (by omega) (by omega) ?_
    refine ql_load1 (v := .slice ar ll[k].length cr) tabOk rfl rfl rfl (fun w' hs => hcell w' hs.chg0) ?_
    refine ql_callv tabOk rfl hg rfl rfl (fun w' hs => hcl w' hs.chg0 ll[k] (List.getElem_mem hk) _ (RdE.keep hrow hs.chg0)) ?_
    (refine q_nil ?_)
    refine q_cond rfl (fun hc => ?_) (fun hc => ?_)
    · (refine q_seq ?_; refine q_region ?_; (iterate 2 refine ql_pure tabOk rfl rfl ?_); refine q_nil ?_; refine q_ret ?_)
      refine q_fin tabOk rfl (by repeat (first | exact RVs.nil | apply RVs.tmp rfl | apply RVs.cellA rfl rfl (by repeat first | exact .head _ | refine .tail _ ?_) (by rfl) | apply RVs.cell1 rfl rfl (by repeat first | exact .head _ | refine .tail _ ?_))) fun w hs => ?_
      refine ⟨⟨k, rfl, ?_⟩, hs.chg0⟩
      rw [decide_eq_true (by omega), List.any_eq_true.2 ⟨ll[k], List.getElem_mem hk, hc⟩]
    · (refine q_skip ?_; refine q_blk ?_; refine q_region ?_; refine ql_ar tabOk rfl rfl rfl rfl (by omega) (by omega) ?_; refine ql_pure tabOk rfl rfl ?_; refine q_nil ?_)
      exact hK (k + 1) _ _ ⟨by omega, by rw [List.take_succ_eq_append_getElem hk, List.any_append, hpk]; simp [hc]⟩ (by omega) ⟨rfl, rfl, rfl, rfl, trivial⟩ (by repeat (first | exact Sp.nil | exact Sp.refl _ | refine Sp.cons (by repeat constructor) ?_))
  · obtain rfl : k = ll.length := by omega
    rw [List.take_length] at hpk
    (refine q_exit _ rfl ?_; refine q_seq ?_; refine q_region ?_; refine ql_pure tabOk rfl rfl ?_; refine q_nil ?_; refine q_ret ?_)
    refine q_fin tabOk rfl (by repeat (first | exact RVs.nil | apply RVs.tmp rfl | apply RVs.cellA rfl rfl (by repeat first | exact .head _ | refine .tail _ ?_) (by rfl) | apply RVs.cell1 rfl rfl (by repeat first | exact .head _ | refine .tail _ ?_))) fun w hs => ?_
    exact ⟨⟨-1, rfl, by rw [hpk]; rfl⟩, hs.chg0⟩

theorem conR (w : World) (lo hi : Nat) (v cv : Value) (ll : List (List Int)) (p : List Int → Bool) (hrd : RdII w lo hi v ll) (hlen : ll.length < 1000000) (hp : RowP w lo hi cv ll p) :
    Ca Tryz.prog 105 [v, cv] w fun r w' => r = .bool (ll.any p) ∧ Chg [] w w' := by
  refine q_of (Sat.nil w M0) Tryz.func105 rfl (by simp [Tryz.ntmps105]) ?_
  (refine q_seq ?_; refine q_region ?_; refine ql_pure tabOk rfl rfl ?_; refine q_nil ?_; refine q_seq ?_; refine q_region ?_; (iterate 2 refine ql_pure tabOk rfl rfl ?_))
  refine ql_call (β := Int) (ψ := fun i v => v = .int .i64 i ∧ decide (0 ≤ i) = ll.any p) (L' := fun _ => []) tabOk [] _ M0 rfl rfl rfl rfl (Sp.refl _) (fun _ h => h.elim) (fun w' hs => (idxR w' lo hi v cv ll p (hrd.keep hs.chg0) hlen (hp.keep hs.chg0)).mono (fun r w'' ⟨⟨i, h1, h2⟩, h3⟩ => ⟨i, ⟨h1, h2⟩, (Sat.nil w' M0).keep h3⟩)) ?_
  rintro i _ ⟨rfl, hi⟩
  ((iterate 2 refine ql_pure tabOk rfl rfl ?_); refine q_nil ?_; refine q_ret ?_)
  refine q_fin tabOk rfl (by repeat (first | exact RVs.nil | apply RVs.tmp rfl | apply RVs.cellA rfl rfl (by repeat first | exact .head _ | refine .tail _ ?_) (by rfl) | apply RVs.cell1 rfl rfl (by repeat first | exact .head _ | refine .tail _ ?_))) fun w hs => ?_
  exact ⟨by rw [← hi]; rfl, hs.chg0⟩

theorem allR1 (w : World) (lo hi : Nat) (b t : Nat) (cv v : Value) (l : List Int) (ll : List (List Int)) (p : List Int → Bool) (hm : l ∈ ll) (hb : Blk w b [cv] t) (hv : RdI w lo hi v l) (hp : RowP w lo hi cv ll p) :
    Ca Tryz.prog 106 [v, .pointer (some ⟨b, 0, none⟩)] w fun r w' => r = .bool (!(p l)) ∧ Chg [] w w' := by
  obtain ⟨g, first, caps, rfl, hg, hcl⟩ := hp
  refine q_of (Sat.nil w M0) Tryz.func106 rfl (by simp [Tryz.ntmps106]) ?_
  (refine q_seq ?_; refine q_region ?_; refine ql_pure tabOk rfl rfl ?_; refine q_nil ?_; refine q_seq ?_; refine q_region ?_; refine ql_loadP tabOk rfl rfl rfl (by assumption) (by rfl) ?_; refine ql_pure tabOk rfl rfl ?_)
  refine ql_callv tabOk rfl hg rfl rfl (fun w' hs => hcl w' hs.chg0 l hm _ (RdE.keep hv hs.chg0)) ?_
  ((iterate 2 refine ql_pure tabOk rfl rfl ?_); refine q_nil ?_; refine q_ret ?_)
  refine q_fin tabOk rfl (by repeat (first | exact RVs.nil | apply RVs.tmp rfl | apply RVs.cellA rfl rfl (by repeat first | exact .head _ | refine .tail _ ?_) (by rfl) | apply RVs.cell1 rfl rfl (by repeat first | exact .head _ | refine .tail _ ?_))) fun w hs => ?_
  exact ⟨rfl, hs.chg0⟩

theorem allR (w : World) (lo hi : Nat) (v cv : Value) (ll : List (List Int)) (p : List Int → Bool) (hrd : RdII w lo hi v ll) (hlen : ll.length < 1000000) (hp : RowP w lo hi cv ll p) :
    Ca Tryz.prog 52 [v, cv] w fun r w' => r = .bool (ll.all p) ∧ Chg [] w w' := by
  have hcv : cv.cells.toList = [cv] := by obtain ⟨g, first, caps, rfl, _, _⟩ := hp; rfl
  refine q_of (Sat.nil w M0) Tryz.func52 rfl (by simp [Tryz.ntmps52]) ?_
  (refine q_seq ?_; refine q_region ?_)
  refine ql_box rfl rfl (fun b3 => ?_)
  rw [hcv]
  (refine ql_pure tabOk rfl rfl ?_; refine q_nil ?_; refine q_seq ?_; refine q_region ?_; (iterate 2 refine ql_pure tabOk rfl rfl ?_))
  refine ql_callv tabOk rfl rfl rfl rfl (fun w hs => conR w lo hi v _ ll (fun l => !(p l)) (hrd.keep hs.chg0) hlen ⟨_, #[], #[_], rfl, rfl, fun w' hw' l hl v hv => allR1 w' lo hi b3 _ cv v l ll p hl ((hs.blk (by repeat first | exact .head _ | refine .tail _ ?_)).keep hw') hv (hp.keep (hs.chg0.trans hw'))⟩) ?_
  ((iterate 2 refine ql_pure tabOk rfl rfl ?_); refine q_nil ?_; refine q_ret ?_)
  refine q_fin tabOk rfl (by repeat (first | exact RVs.nil | apply RVs.tmp rfl | apply RVs.cellA rfl rfl (by repeat first | exact .head _ | refine .tail _ ?_) (by rfl) | apply RVs.cell1 rfl rfl (by repeat first | exact .head _ | refine .tail _ ?_))) fun w hs => ?_
  exact ⟨by rw [List.all_eq_not_any_not]; rfl, hs.chg0⟩

end Go.Proofs.YtohlillcaadidaaGreat

/- Walks: which ranges are right. -/
namespace Go.Proofs.YtohlillcaadidaaGreat
open Go Go.Eng

def pI (lo hi : Int) : Value → Bool
  | .int _ n => inB n lo hi
  | _ => false
theorem pI_all (lo hi : Int) (l : List Int) : (ints l).all (pI lo hi) = l.all (fun n => inB n lo hi) := by
  rw [List.all_map]
  rfl
theorem ints_one (l : List Int) : ∀ i (hi : i < (ints l).length), oneV (ints l)[i] = true := by
  intro i hi
  simp [oneV]

theorem chk1_p (w : World) (lo hi b : Nat) (t : TypeId) (m : Int) (ll : List (List Int)) (hb : Blk w b [.int .i64 m] t) : RowP w lo hi (.func (.func 75) #[] #[.pointer (some ⟨b, 0, none⟩)]) ll (fun l => decide ((l.length : Int) = m) && true) := by
  refine ⟨_, _, _, rfl, rfl, fun w' hw' l _ v hv => ?_⟩
  have hb' := hb.keep hw'
  obtain ⟨a, c, rfl, _⟩ := RdI.outI hv
  refine q_of (Sat.nil w' M0) Tryz.func75 rfl (by simp [Tryz.ntmps75]) ?_
  (refine q_seq ?_; refine q_region ?_; refine ql_pure tabOk rfl rfl ?_; refine q_nil ?_; refine q_seq ?_; refine q_region ?_; (iterate 2 refine ql_pure tabOk rfl rfl ?_); refine ql_loadP tabOk rfl rfl rfl (by assumption) (by rfl) ?_; (iterate 2 refine ql_pure tabOk rfl rfl ?_); refine q_nil ?_; refine q_ret ?_)
  refine q_fin tabOk rfl (by repeat (first | exact RVs.nil | apply RVs.tmp rfl | apply RVs.cellA rfl rfl (by repeat first | exact .head _ | refine .tail _ ?_) (by rfl) | apply RVs.cell1 rfl rfl (by repeat first | exact .head _ | refine .tail _ ?_))) fun w hs => ?_
  exact ⟨by simp [retV], hs.chg0⟩

theorem chk2_p (w : World) (b : Nat) (t : TypeId) (r : Rg) (cs : List Value) (es : List Int) (hb : Blk w b cs t) (hc : cs[3]? = some (.int .i64 r.total)) : PredAt Tryz.prog tab w (.func (.func 76) #[] #[.pointer (some ⟨b, 0, none⟩)]) (ints es) (pI 0 r.total) := by
  refine ⟨_, _, _, rfl, rfl, fun w' hw' x hx => ?_⟩
  have hb' := hb.keep hw'
  obtain ⟨y, hy, rfl⟩ := List.mem_map.1 hx
  refine q_of (Sat.nil w' M0) Tryz.func76 rfl (by simp [Tryz.ntmps76]) ?_
  (refine q_seq ?_; refine q_region ?_; refine ql_pure tabOk rfl rfl ?_; refine q_nil ?_; refine q_seq ?_; refine q_region ?_; (iterate 2 refine ql_pure tabOk rfl rfl ?_))
  refine ql_loadP tabOk rfl rfl rfl hb' hc ?_
  skip
  refine ql_callv tabOk rfl rfl rfl rfl (fun w hs => in_ca y 0 r.total w) ?_
  (refine ql_pure tabOk rfl rfl ?_; refine q_nil ?_; refine q_ret ?_)
  refine q_fin tabOk rfl (by repeat (first | exact RVs.nil | apply RVs.tmp rfl | apply RVs.cellA rfl rfl (by repeat first | exact .head _ | refine .tail _ ?_) (by rfl) | apply RVs.cell1 rfl rfl (by repeat first | exact .head _ | refine .tail _ ?_))) fun w hs => ?_
  exact ⟨rfl, hs.chg0⟩

theorem chk3_p (w : World) (es : List Int) : PredAt Tryz.prog tab w (.func (.func 78) #[] #[]) (ints es) (pI (-300) 300) := by
  refine ⟨_, _, _, rfl, rfl, fun w' hw' x hx => ?_⟩
  obtain ⟨y, hy, rfl⟩ := List.mem_map.1 hx
  refine q_of (Sat.nil w' M0) Tryz.func78 rfl (by simp [Tryz.ntmps78]) ?_
  (refine q_seq ?_; refine q_region ?_; refine ql_pure tabOk rfl rfl ?_; refine q_nil ?_; refine q_seq ?_; refine q_region ?_; refine ql_pure tabOk rfl rfl ?_)
  refine ql_callv tabOk rfl rfl rfl rfl (fun w hs => in_ca y (-300) 300 w) ?_
  (refine ql_pure tabOk rfl rfl ?_; refine q_nil ?_; refine q_ret ?_)
  refine q_fin tabOk rfl (by repeat (first | exact RVs.nil | apply RVs.tmp rfl | apply RVs.cellA rfl rfl (by repeat first | exact .head _ | refine .tail _ ?_) (by rfl) | apply RVs.cell1 rfl rfl (by repeat first | exact .head _ | refine .tail _ ?_))) fun w hs => ?_
  exact ⟨rfl, hs.chg0⟩

theorem chk4_p (w : World) (es : List Int) : PredAt Tryz.prog tab w (.func (.func 79) #[] #[]) (ints es) (pI 0 100) := by
  refine ⟨_, _, _, rfl, rfl, fun w' hw' x hx => ?_⟩
  obtain ⟨y, hy, rfl⟩ := List.mem_map.1 hx
  refine q_of (Sat.nil w' M0) Tryz.func79 rfl (by simp [Tryz.ntmps79]) ?_
  (refine q_seq ?_; refine q_region ?_; refine ql_pure tabOk rfl rfl ?_; refine q_nil ?_; refine q_seq ?_; refine q_region ?_; refine ql_pure tabOk rfl rfl ?_)
  refine ql_callv tabOk rfl rfl rfl rfl (fun w hs => in_ca y 0 100 w) ?_
  (refine ql_pure tabOk rfl rfl ?_; refine q_nil ?_; refine q_ret ?_)
  refine q_fin tabOk rfl (by repeat (first | exact RVs.nil | apply RVs.tmp rfl | apply RVs.cellA rfl rfl (by repeat first | exact .head _ | refine .tail _ ?_) (by rfl) | apply RVs.cell1 rfl rfl (by repeat first | exact .head _ | refine .tail _ ?_))) fun w hs => ?_
  exact ⟨rfl, hs.chg0⟩

theorem chk5_p (w : World) (lo hi b b1 : Nat) (t t1 : TypeId) (r : Rg) (cs : List Value) (ll : List (List Int)) (hlen : ∀ l ∈ ll, l.length < 1000000) (hb : Blk w b [.func (.func 76) #[] #[.pointer (some ⟨b1, 0, none⟩)]] t) (hb1 : Blk w b1 cs t1) (hc : cs[3]? = some (.int .i64 r.total)) :
    RowP w lo hi (.func (.func 80) #[] #[.pointer (some ⟨b, 0, none⟩)]) ll (fun l => l.all (fun n => inB n 0 r.total)) := by
  refine ⟨_, _, _, rfl, rfl, fun w' hw' l hl v hv => ?_⟩
  have hb' := hb.keep hw'
  refine q_of (Sat.nil w' M0) Tryz.func80 rfl (by simp [Tryz.ntmps80]) ?_
  (refine q_seq ?_; refine q_region ?_; refine ql_pure tabOk rfl rfl ?_; refine q_nil ?_; refine q_seq ?_; refine q_region ?_; refine ql_pure tabOk rfl rfl ?_; refine ql_loadP tabOk rfl rfl rfl (by assumption) (by rfl) ?_)
  (refine ql_callv tabOk rfl rfl rfl rfl (fun w hs => all_int w lo hi v _ (ints l) (pI 0 r.total) (RdE.keep hv hs.chg0) (ints_one l) (by have := hlen l hl; simp; omega) (chk2_p w b1 t1 r cs l (hb1.keep (hw'.trans hs.chg0)) hc)) ?_)
  (refine ql_pure tabOk rfl rfl ?_; refine q_nil ?_; refine q_ret ?_)
  refine q_fin tabOk rfl (by repeat (first | exact RVs.nil | apply RVs.tmp rfl | apply RVs.cellA rfl rfl (by repeat first | exact .head _ | refine .tail _ ?_) (by rfl) | apply RVs.cell1 rfl rfl (by repeat first | exact .head _ | refine .tail _ ?_))) fun w hs => ?_
  exact ⟨by rw [pI_all]; rfl, hs.chg0⟩

theorem chk6_p (w : World) (lo hi b : Nat) (t : TypeId) (r : Rg) (cs : List Value) (ll : List (List Int)) (hlen : ∀ l ∈ ll, l.length < 1000000 ∧ ∀ x ∈ l, -1000000 ≤ x ∧ x ≤ 1000000) (hb : Blk w b cs t) (hc : cs[3]? = some (.int .i64 r.total)) :
    RowP w lo hi (.func (.func 82) #[] #[.pointer (some ⟨b, 0, none⟩)]) ll (fun l => decide (l.sum = r.total) && true) := by
  refine ⟨_, _, _, rfl, rfl, fun w' hw' l hl v hv => ?_⟩
  have hb' := hb.keep hw'
  refine q_of (Sat.nil w' M0) Tryz.func82 rfl (by simp [Tryz.ntmps82]) ?_
  (refine q_seq ?_; refine q_region ?_; refine ql_pure tabOk rfl rfl ?_; refine q_nil ?_; refine q_seq ?_)
  refine q_draw _ [] (Sp.refl _) (by kernel_rfl) (by kernel_rfl) ?_
  (refine qf_pure tabOk rfl rfl rfl ?_)
  refine qf_callv tabOk rfl rfl rfl rfl (fun w hs => sum_ca w lo hi v l (RdE.keep hv hs.chg0) (hlen l hl).1 (hlen l hl).2) ?_
  (refine qf_pure tabOk rfl rfl rfl ?_)
  refine qf_loadP tabOk rfl rfl rfl hb' hc ?_
  ((iterate 2 refine qf_pure tabOk rfl rfl rfl ?_); refine qf_nil ?_; refine q_ret ?_)
  refine q_fin tabOk rfl (by repeat (first | exact RVs.nil | apply RVs.tmp rfl | apply RVs.cellA rfl rfl (by repeat first | exact .head _ | refine .tail _ ?_) (by rfl) | apply RVs.cell1 rfl rfl (by repeat first | exact .head _ | refine .tail _ ?_))) fun w hs => ?_
  exact ⟨by simp [retV], hs.chg0⟩

def cntB (r : Rg) : Bool := inB r.group.length 1 21 && !(decide ((r.group.length : Int) % 2 = 0)) && inB r.drifts.length 1 5 && decide ((r.first.length : Int) = r.drifts.length) && decide ((r.next.length : Int) = r.drifts.length) && r.next.all (fun l => decide ((l.length : Int) = r.drifts.length) && true)
def rng1B (r : Rg) : Bool := inB r.radius 0 200 && inB r.unit 1 20 && inB r.clicks 0 6 && inB r.total 1 12
def rng2B (r : Rg) : Bool := r.drifts.all (fun n => inB n (-300) 300) && r.group.all (fun n => inB n 0 100)
def rng3B (r : Rg) : Bool := r.first.all (fun n => inB n 0 r.total) && r.next.all (fun l => l.all (fun n => inB n 0 r.total))
def cnfB (r : Rg) : Bool := inB r.group.sum 1 100 && decide (r.first.sum = r.total) && r.next.all (fun l => decide (l.sum = r.total) && true)
/-- The error of a range. -/
def checkV (r : Rg) : Int := if !cntB r then 2 else if !rng1B r then 3 else if !rng2B r then 3 else if !rng3B r then 3 else if !cnfB r then 7 else 0

set_option maxHeartbeats 2000000 in
theorem check_ca (w : World) (cs : List Value) (r : Rg) (h : RgC w cs r) (hsm : r.Small) : Ca Tryz.prog 28 [.agg cs.toArray] w fun v w' => v = .int .i64 (checkV r) ∧ Chg [] w w' := by
  obtain ⟨lo, hi, ag, cg, ad, cd, af, cf, an, cn, rfl, hg, hdr, hf, hn⟩ := h
  have s1 := hsm.group
  have s2 := hsm.drifts
  have s3 := hsm.first
  have s4 := hsm.next
  refine q_of (Sat.nil w M0) Tryz.func28 rfl (by simp [Tryz.ntmps28]) ?_
  (refine q_seq ?_; refine q_region ?_)
  refine ql_box rfl rfl (fun b1 => ?_)
  (refine ql_pure tabOk rfl rfl ?_; refine q_nil ?_; refine q_seq ?_; refine q_region ?_; refine ql_pure tabOk rfl rfl ?_; refine ql_loadB tabOk rfl rfl rfl (by repeat first | exact .head _ | refine .tail _ ?_) (by rfl) ?_; refine ql_pure tabOk rfl rfl ?_)
  refine ql_alloc zero3 rfl (fun b3 => ?_)
  (refine ql_set tabOk rfl rfl rfl rfl (by repeat constructor) ?_; refine q_nil ?_; (iterate 2 refine q_seq ?_); refine q_region ?_; refine ql_pure tabOk rfl rfl ?_; refine ql_loadB tabOk rfl rfl rfl (by repeat first | exact .head _ | refine .tail _ ?_) (by rfl) ?_; refine ql_pure tabOk rfl rfl ?_)
  refine ql_callv tabOk rfl rfl rfl rfl (fun w hs => in_ca (r.group.length : Int) 1 21 w) ?_
  ((iterate 2 refine ql_pure tabOk rfl rfl ?_))
  refine ql_split rfl rfl (fun hc => ?_) (fun hc => ?_)
  · ((iterate 5 refine ql_gno rfl rfl rfl ?_); (iterate 2 refine ql_pure tabOk rfl rfl ?_); (iterate 3 refine ql_gno rfl rfl rfl ?_); (iterate 2 refine ql_pure tabOk rfl rfl ?_); (iterate 5 refine ql_gno rfl rfl rfl ?_); (iterate 2 refine ql_pure tabOk rfl rfl ?_); (iterate 5 refine ql_gno rfl rfl rfl ?_); (iterate 2 refine ql_pure tabOk rfl rfl ?_); (iterate 5 refine ql_gno rfl rfl rfl ?_); refine ql_pure tabOk rfl rfl ?_; refine q_nil ?_; refine q_cond_true rfl ?_; refine q_seq ?_; refine q_region ?_; refine ql_pure tabOk rfl rfl ?_; refine q_nil ?_; refine q_ret ?_)
    refine q_fin tabOk rfl (by repeat (first | exact RVs.nil | apply RVs.tmp rfl | apply RVs.cellA rfl rfl (by repeat first | exact .head _ | refine .tail _ ?_) (by rfl) | apply RVs.cell1 rfl rfl (by repeat first | exact .head _ | refine .tail _ ?_))) fun w hs => ?_
    exact ⟨by simp at hc; simp [retV, checkV, cntB, hc], hs.chg0⟩
  simp at hc
  have c1 := hc
  (refine ql_gyes rfl ?_; refine ql_pure tabOk rfl rfl ?_; refine ql_gyes rfl ?_; refine ql_loadB tabOk rfl rfl rfl (by repeat first | exact .head _ | refine .tail _ ?_) (by rfl) ?_; refine ql_gyes rfl ?_; refine ql_pure tabOk rfl rfl ?_; refine ql_gyes rfl ?_; refine ql_remN rfl rfl rfl (by omega) (by omega) ?_; refine ql_gyes rfl ?_; (iterate 3 refine ql_pure tabOk rfl rfl ?_))
  refine ql_split rfl rfl (fun hc => ?_) (fun hc => ?_)
  · ((iterate 3 refine ql_gno rfl rfl rfl ?_); (iterate 2 refine ql_pure tabOk rfl rfl ?_); (iterate 5 refine ql_gno rfl rfl rfl ?_); (iterate 2 refine ql_pure tabOk rfl rfl ?_); (iterate 5 refine ql_gno rfl rfl rfl ?_); (iterate 2 refine ql_pure tabOk rfl rfl ?_); (iterate 5 refine ql_gno rfl rfl rfl ?_); refine ql_pure tabOk rfl rfl ?_; refine q_nil ?_; refine q_cond_true rfl ?_; refine q_seq ?_; refine q_region ?_; refine ql_pure tabOk rfl rfl ?_; refine q_nil ?_; refine q_ret ?_)
    refine q_fin tabOk rfl (by repeat (first | exact RVs.nil | apply RVs.tmp rfl | apply RVs.cellA rfl rfl (by repeat first | exact .head _ | refine .tail _ ?_) (by rfl) | apply RVs.cell1 rfl rfl (by repeat first | exact .head _ | refine .tail _ ?_))) fun w hs => ?_
    exact ⟨by simp [retV, checkV, cntB, hc], hs.chg0⟩
  simp at hc
  have c2 := hc
  (refine ql_gyes rfl ?_; refine ql_loadB tabOk rfl rfl rfl (by repeat first | exact .head _ | refine .tail _ ?_) (by rfl) ?_; refine ql_gyes rfl ?_)
  refine ql_callv tabOk rfl rfl rfl rfl (fun w hs => in_ca (r.drifts.length : Int) 1 5 w) ?_
  (refine ql_gyes rfl ?_; (iterate 3 refine ql_pure tabOk rfl rfl ?_))
  refine ql_split rfl rfl (fun hc => ?_) (fun hc => ?_)
  · ((iterate 5 refine ql_gno rfl rfl rfl ?_); (iterate 2 refine ql_pure tabOk rfl rfl ?_); (iterate 5 refine ql_gno rfl rfl rfl ?_); (iterate 2 refine ql_pure tabOk rfl rfl ?_); (iterate 5 refine ql_gno rfl rfl rfl ?_); refine ql_pure tabOk rfl rfl ?_; refine q_nil ?_; refine q_cond_true rfl ?_; refine q_seq ?_; refine q_region ?_; refine ql_pure tabOk rfl rfl ?_; refine q_nil ?_; refine q_ret ?_)
    refine q_fin tabOk rfl (by repeat (first | exact RVs.nil | apply RVs.tmp rfl | apply RVs.cellA rfl rfl (by repeat first | exact .head _ | refine .tail _ ?_) (by rfl) | apply RVs.cell1 rfl rfl (by repeat first | exact .head _ | refine .tail _ ?_))) fun w hs => ?_
    exact ⟨by simp at hc; simp [retV, checkV, cntB, hc], hs.chg0⟩
  simp at hc
  have c3 := hc
  (refine ql_gyes rfl ?_; refine ql_pure tabOk rfl rfl ?_; refine ql_gyes rfl ?_; refine ql_loadB tabOk rfl rfl rfl (by repeat first | exact .head _ | refine .tail _ ?_) (by rfl) ?_; refine ql_gyes rfl ?_; refine ql_pure tabOk rfl rfl ?_; refine ql_gyes rfl ?_; refine ql_loadB tabOk rfl rfl rfl (by repeat first | exact .head _ | refine .tail _ ?_) (by rfl) ?_; refine ql_gyes rfl ?_; (iterate 3 refine ql_pure tabOk rfl rfl ?_))
  refine ql_split rfl rfl (fun hc => ?_) (fun hc => ?_)
  · ((iterate 5 refine ql_gno rfl rfl rfl ?_); (iterate 2 refine ql_pure tabOk rfl rfl ?_); (iterate 5 refine ql_gno rfl rfl rfl ?_); refine ql_pure tabOk rfl rfl ?_; refine q_nil ?_; refine q_cond_true rfl ?_; refine q_seq ?_; refine q_region ?_; refine ql_pure tabOk rfl rfl ?_; refine q_nil ?_; refine q_ret ?_)
    refine q_fin tabOk rfl (by repeat (first | exact RVs.nil | apply RVs.tmp rfl | apply RVs.cellA rfl rfl (by repeat first | exact .head _ | refine .tail _ ?_) (by rfl) | apply RVs.cell1 rfl rfl (by repeat first | exact .head _ | refine .tail _ ?_))) fun w hs => ?_
    exact ⟨by simp [retV, checkV, cntB, hc], hs.chg0⟩
  simp at hc
  have c4 := hc
  (refine ql_gyes rfl ?_; refine ql_pure tabOk rfl rfl ?_; refine ql_gyes rfl ?_; refine ql_loadB tabOk rfl rfl rfl (by repeat first | exact .head _ | refine .tail _ ?_) (by rfl) ?_; refine ql_gyes rfl ?_; refine ql_pure tabOk rfl rfl ?_; refine ql_gyes rfl ?_; refine ql_loadB tabOk rfl rfl rfl (by repeat first | exact .head _ | refine .tail _ ?_) (by rfl) ?_; refine ql_gyes rfl ?_; (iterate 3 refine ql_pure tabOk rfl rfl ?_))
  refine ql_split rfl rfl (fun hc => ?_) (fun hc => ?_)
  · ((iterate 5 refine ql_gno rfl rfl rfl ?_); refine ql_pure tabOk rfl rfl ?_; refine q_nil ?_; refine q_cond_true rfl ?_; refine q_seq ?_; refine q_region ?_; refine ql_pure tabOk rfl rfl ?_; refine q_nil ?_; refine q_ret ?_)
    refine q_fin tabOk rfl (by repeat (first | exact RVs.nil | apply RVs.tmp rfl | apply RVs.cellA rfl rfl (by repeat first | exact .head _ | refine .tail _ ?_) (by rfl) | apply RVs.cell1 rfl rfl (by repeat first | exact .head _ | refine .tail _ ?_))) fun w hs => ?_
    exact ⟨by simp [retV, checkV, cntB, hc], hs.chg0⟩
  simp at hc
  have c5 := hc
  (refine ql_gyes rfl ?_; refine ql_pure tabOk rfl rfl ?_; refine ql_gyes rfl ?_; refine ql_loadB tabOk rfl rfl rfl (by repeat first | exact .head _ | refine .tail _ ?_) (by rfl) ?_; refine ql_gyes rfl ?_; refine ql_pure tabOk rfl rfl ?_; refine ql_gyes rfl ?_)
  refine ql_callv tabOk rfl rfl rfl rfl (fun w hs => allR w lo hi _ _ r.next _ (hn.keep hs.chg0) (by omega) (chk1_p w lo hi b3 _ _ r.next (hs.blk (by repeat first | exact .head _ | refine .tail _ ?_)))) ?_
  (refine ql_gyes rfl ?_; (iterate 2 refine ql_pure tabOk rfl rfl ?_); refine q_nil ?_)
  refine q_cond rfl (fun hc => ?_) (fun hc => ?_)
  · (refine q_seq ?_; refine q_region ?_; refine ql_pure tabOk rfl rfl ?_; refine q_nil ?_; refine q_ret ?_)
    refine q_fin tabOk rfl (by repeat (first | exact RVs.nil | apply RVs.tmp rfl | apply RVs.cellA rfl rfl (by repeat first | exact .head _ | refine .tail _ ?_) (by rfl) | apply RVs.cell1 rfl rfl (by repeat first | exact .head _ | refine .tail _ ?_))) fun w hs => ?_
    exact ⟨by simp only [Bool.not_eq_true'] at hc; simp only [retV, checkV, cntB, hc, Bool.and_false, Bool.false_and, Bool.not_false, Bool.not_true, if_true, if_false, Bool.false_eq_true], hs.chg0⟩
  simp only [Bool.not_eq_false'] at hc
  have cnt : cntB r = true := by
    simp only [cntB, Bool.and_eq_true, Bool.not_eq_true', decide_eq_true_eq, decide_eq_false_iff_not]
    exact ⟨⟨⟨⟨⟨c1, by omega⟩, c3⟩, by omega⟩, by omega⟩, hc⟩
  have hrows : ∀ l ∈ r.next, l.length = r.drifts.length := fun l hl => by
    have := List.all_eq_true.1 hc l hl
    simp at this
    omega
  have c3' := inB_iff.1 c3
  clear c1 c2 c3 c4 c5 hc
  (refine q_skip ?_; refine q_seq ?_; refine q_region ?_; refine ql_pure tabOk rfl rfl ?_)
  refine ql_alloc zero134 rfl (fun b4 => ?_)
  (refine ql_set tabOk rfl rfl rfl rfl (by repeat constructor) ?_; refine q_nil ?_; refine q_seq ?_; refine q_block ?_; refine q_seq ?_; refine q_region ?_; refine ql_pure tabOk rfl rfl ?_; refine ql_loadB tabOk rfl rfl rfl (by repeat first | exact .head _ | refine .tail _ ?_) (by rfl) ?_)
  refine ql_callv tabOk rfl rfl rfl rfl (fun w hs => in_ca r.radius 0 200 w) ?_
  ((iterate 2 refine ql_pure tabOk rfl rfl ?_))
  refine ql_split rfl rfl (fun hc => ?_) (fun hc => ?_)
  · ((iterate 4 refine ql_gno rfl rfl rfl ?_); (iterate 2 refine ql_pure tabOk rfl rfl ?_); (iterate 4 refine ql_gno rfl rfl rfl ?_); (iterate 2 refine ql_pure tabOk rfl rfl ?_); (iterate 4 refine ql_gno rfl rfl rfl ?_); (iterate 2 refine ql_pure tabOk rfl rfl ?_); refine q_nil ?_; refine q_cond_true rfl ?_; refine q_seq ?_; refine q_region ?_; refine ql_pure tabOk rfl rfl ?_; refine q_nil ?_; refine q_ret ?_)
    refine q_fin tabOk rfl (by repeat (first | exact RVs.nil | apply RVs.tmp rfl | apply RVs.cellA rfl rfl (by repeat first | exact .head _ | refine .tail _ ?_) (by rfl) | apply RVs.cell1 rfl rfl (by repeat first | exact .head _ | refine .tail _ ?_))) fun w hs => ?_
    exact ⟨by simp at hc; simp [retV, checkV, cnt, rng1B, hc], hs.chg0⟩
  simp at hc
  have c1 := hc
  (refine ql_gyes rfl ?_; refine ql_pure tabOk rfl rfl ?_; refine ql_gyes rfl ?_; refine ql_loadB tabOk rfl rfl rfl (by repeat first | exact .head _ | refine .tail _ ?_) (by rfl) ?_; refine ql_gyes rfl ?_)
  refine ql_callv tabOk rfl rfl rfl rfl (fun w hs => in_ca r.unit 1 20 w) ?_
  (refine ql_gyes rfl ?_; (iterate 3 refine ql_pure tabOk rfl rfl ?_))
  refine ql_split rfl rfl (fun hc => ?_) (fun hc => ?_)
  · ((iterate 4 refine ql_gno rfl rfl rfl ?_); (iterate 2 refine ql_pure tabOk rfl rfl ?_); (iterate 4 refine ql_gno rfl rfl rfl ?_); (iterate 2 refine ql_pure tabOk rfl rfl ?_); refine q_nil ?_; refine q_cond_true rfl ?_; refine q_seq ?_; refine q_region ?_; refine ql_pure tabOk rfl rfl ?_; refine q_nil ?_; refine q_ret ?_)
    refine q_fin tabOk rfl (by repeat (first | exact RVs.nil | apply RVs.tmp rfl | apply RVs.cellA rfl rfl (by repeat first | exact .head _ | refine .tail _ ?_) (by rfl) | apply RVs.cell1 rfl rfl (by repeat first | exact .head _ | refine .tail _ ?_))) fun w hs => ?_
    exact ⟨by simp at hc; simp [retV, checkV, cnt, rng1B, hc], hs.chg0⟩
  simp at hc
  have c2 := hc
  (refine ql_gyes rfl ?_; refine ql_pure tabOk rfl rfl ?_; refine ql_gyes rfl ?_; refine ql_loadB tabOk rfl rfl rfl (by repeat first | exact .head _ | refine .tail _ ?_) (by rfl) ?_; refine ql_gyes rfl ?_)
  refine ql_callv tabOk rfl rfl rfl rfl (fun w hs => in_ca r.clicks 0 6 w) ?_
  (refine ql_gyes rfl ?_; (iterate 3 refine ql_pure tabOk rfl rfl ?_))
  refine ql_split rfl rfl (fun hc => ?_) (fun hc => ?_)
  · ((iterate 4 refine ql_gno rfl rfl rfl ?_); (iterate 2 refine ql_pure tabOk rfl rfl ?_); refine q_nil ?_; refine q_cond_true rfl ?_; refine q_seq ?_; refine q_region ?_; refine ql_pure tabOk rfl rfl ?_; refine q_nil ?_; refine q_ret ?_)
    refine q_fin tabOk rfl (by repeat (first | exact RVs.nil | apply RVs.tmp rfl | apply RVs.cellA rfl rfl (by repeat first | exact .head _ | refine .tail _ ?_) (by rfl) | apply RVs.cell1 rfl rfl (by repeat first | exact .head _ | refine .tail _ ?_))) fun w hs => ?_
    exact ⟨by simp at hc; simp [retV, checkV, cnt, rng1B, hc], hs.chg0⟩
  simp at hc
  have c3 := hc
  (refine ql_gyes rfl ?_; refine ql_pure tabOk rfl rfl ?_; refine ql_gyes rfl ?_; refine ql_loadB tabOk rfl rfl rfl (by repeat first | exact .head _ | refine .tail _ ?_) (by rfl) ?_; refine ql_gyes rfl ?_)
  refine ql_callv tabOk rfl rfl rfl rfl (fun w hs => in_ca r.total 1 12 w) ?_
  (refine ql_gyes rfl ?_; (iterate 3 refine ql_pure tabOk rfl rfl ?_); refine q_nil ?_)
  refine q_cond rfl (fun hc => ?_) (fun hc => ?_)
  · (refine q_seq ?_; refine q_region ?_; refine ql_pure tabOk rfl rfl ?_; refine q_nil ?_; refine q_ret ?_)
    refine q_fin tabOk rfl (by repeat (first | exact RVs.nil | apply RVs.tmp rfl | apply RVs.cellA rfl rfl (by repeat first | exact .head _ | refine .tail _ ?_) (by rfl) | apply RVs.cell1 rfl rfl (by repeat first | exact .head _ | refine .tail _ ?_))) fun w hs => ?_
    exact ⟨by simp at hc; simp [retV, checkV, cnt, rng1B, hc], hs.chg0⟩
  simp at hc
  have rng1 : rng1B r = true := by simp [rng1B, c1, c2, c3, hc]
  have htot := inB_iff.1 hc
  clear c1 c2 c3 hc
  (refine q_seq ?_; refine q_region ?_; refine ql_pure tabOk rfl rfl ?_; refine ql_loadB tabOk rfl rfl rfl (by repeat first | exact .head _ | refine .tail _ ?_) (by rfl) ?_)
  (refine ql_callv tabOk rfl rfl rfl rfl (fun w hs => all_int w lo hi _ _ (ints r.drifts) (pI (-300) 300) (RdE.keep hdr hs.chg0) (ints_one _) (by simp; omega) (chk3_p w r.drifts)) ?_)
  rw [pI_all]
  ((iterate 2 refine ql_pure tabOk rfl rfl ?_))
  refine ql_split rfl rfl (fun hc => ?_) (fun hc => ?_)
  · ((iterate 4 refine ql_gno rfl rfl rfl ?_); (iterate 2 refine ql_pure tabOk rfl rfl ?_); refine q_nil ?_; refine q_cond_true rfl ?_; refine q_seq ?_; refine q_region ?_; refine ql_pure tabOk rfl rfl ?_; refine q_nil ?_; refine q_ret ?_)
    refine q_fin tabOk rfl (by repeat (first | exact RVs.nil | apply RVs.tmp rfl | apply RVs.cellA rfl rfl (by repeat first | exact .head _ | refine .tail _ ?_) (by rfl) | apply RVs.cell1 rfl rfl (by repeat first | exact .head _ | refine .tail _ ?_))) fun w hs => ?_
    exact ⟨by simp only [Bool.not_eq_true'] at hc; simp only [retV, checkV, cnt, rng1, rng2B, hc, Bool.and_false, Bool.false_and, Bool.not_false, Bool.not_true, if_true, if_false, Bool.false_eq_true], hs.chg0⟩
  simp only [Bool.not_eq_false'] at hc
  have c1 := hc
  (refine ql_gyes rfl ?_; refine ql_pure tabOk rfl rfl ?_; refine ql_gyes rfl ?_; refine ql_loadB tabOk rfl rfl rfl (by repeat first | exact .head _ | refine .tail _ ?_) (by rfl) ?_; refine ql_gyes rfl ?_)
  (refine ql_callv tabOk rfl rfl rfl rfl (fun w hs => all_int w lo hi _ _ (ints r.group) (pI 0 100) (RdE.keep hg hs.chg0) (ints_one _) (by simp; omega) (chk4_p w r.group)) ?_)
  rw [pI_all]
  (refine ql_gyes rfl ?_; (iterate 3 refine ql_pure tabOk rfl rfl ?_); refine q_nil ?_)
  refine q_cond rfl (fun hc => ?_) (fun hc => ?_)
  · (refine q_seq ?_; refine q_region ?_; refine ql_pure tabOk rfl rfl ?_; refine q_nil ?_; refine q_ret ?_)
    refine q_fin tabOk rfl (by repeat (first | exact RVs.nil | apply RVs.tmp rfl | apply RVs.cellA rfl rfl (by repeat first | exact .head _ | refine .tail _ ?_) (by rfl) | apply RVs.cell1 rfl rfl (by repeat first | exact .head _ | refine .tail _ ?_))) fun w hs => ?_
    exact ⟨by simp only [Bool.not_eq_true'] at hc; simp only [retV, checkV, cnt, rng1, rng2B, hc, Bool.and_false, Bool.false_and, Bool.not_false, Bool.not_true, if_true, if_false, Bool.false_eq_true], hs.chg0⟩
  simp only [Bool.not_eq_false'] at hc
  have rng2 : rng2B r = true := by simp only [rng2B, Bool.and_eq_true]; exact ⟨c1, hc⟩
  have hgr : ∀ x ∈ r.group, -1000000 ≤ x ∧ x ≤ 1000000 := fun x hx => by
    have := inB_iff.1 (List.all_eq_true.1 hc x hx)
    omega
  clear c1 hc
  (refine q_seq ?_; refine q_region ?_; refine ql_pure tabOk rfl rfl ?_; (iterate 2 refine ql_loadB tabOk rfl rfl rfl (by repeat first | exact .head _ | refine .tail _ ?_) (by rfl) ?_))
  (refine ql_callv tabOk rfl rfl rfl rfl (fun w hs => all_int w lo hi _ _ (ints r.first) (pI 0 r.total) (RdE.keep hf hs.chg0) (ints_one _) (by simp; omega) (chk2_p w b1 _ r _ r.first (hs.blk (by repeat first | exact .head _ | refine .tail _ ?_)) rfl)) ?_)
  rw [pI_all]
  ((iterate 2 refine ql_pure tabOk rfl rfl ?_))
  refine ql_split rfl rfl (fun hc => ?_) (fun hc => ?_)
  · ((iterate 5 refine ql_gno rfl rfl rfl ?_); (iterate 2 refine ql_pure tabOk rfl rfl ?_); refine q_nil ?_; refine q_cond_true rfl ?_; refine q_seq ?_; refine q_region ?_; refine ql_pure tabOk rfl rfl ?_; refine q_nil ?_; refine q_ret ?_)
    refine q_fin tabOk rfl (by repeat (first | exact RVs.nil | apply RVs.tmp rfl | apply RVs.cellA rfl rfl (by repeat first | exact .head _ | refine .tail _ ?_) (by rfl) | apply RVs.cell1 rfl rfl (by repeat first | exact .head _ | refine .tail _ ?_))) fun w hs => ?_
    exact ⟨by simp only [Bool.not_eq_true'] at hc; simp only [retV, checkV, cnt, rng1, rng2, rng3B, hc, Bool.and_false, Bool.false_and, Bool.not_false, Bool.not_true, if_true, if_false, Bool.false_eq_true], hs.chg0⟩
  simp only [Bool.not_eq_false'] at hc
  have c1 := hc
  (refine ql_gyes rfl ?_; refine ql_pure tabOk rfl rfl ?_; refine ql_gyes rfl ?_; refine ql_loadB tabOk rfl rfl rfl (by repeat first | exact .head _ | refine .tail _ ?_) (by rfl) ?_; refine ql_gyes rfl ?_; refine ql_pure tabOk rfl rfl ?_; refine ql_gyes rfl ?_)
  (refine ql_callv tabOk rfl rfl rfl rfl (fun w hs => allR w lo hi _ _ r.next _ (hn.keep hs.chg0) (by omega) (chk5_p w lo hi b4 b1 _ _ r _ r.next (fun l hl => by have := hrows l hl; omega) (hs.blk (by repeat first | exact .head _ | refine .tail _ ?_)) (hs.blk (by repeat first | exact .head _ | refine .tail _ ?_)) rfl)) ?_)
  (refine ql_gyes rfl ?_; (iterate 3 refine ql_pure tabOk rfl rfl ?_); refine q_nil ?_)
  refine q_cond rfl (fun hc => ?_) (fun hc => ?_)
  · (refine q_seq ?_; refine q_region ?_; refine ql_pure tabOk rfl rfl ?_; refine q_nil ?_; refine q_ret ?_)
    refine q_fin tabOk rfl (by repeat (first | exact RVs.nil | apply RVs.tmp rfl | apply RVs.cellA rfl rfl (by repeat first | exact .head _ | refine .tail _ ?_) (by rfl) | apply RVs.cell1 rfl rfl (by repeat first | exact .head _ | refine .tail _ ?_))) fun w hs => ?_
    exact ⟨by simp only [Bool.not_eq_true'] at hc; simp only [retV, checkV, cnt, rng1, rng2, rng3B, hc, Bool.and_false, Bool.false_and, Bool.not_false, Bool.not_true, if_true, if_false, Bool.false_eq_true], hs.chg0⟩
  simp only [Bool.not_eq_false'] at hc
  have rng3 : rng3B r = true := by simp only [rng3B, Bool.and_eq_true]; exact ⟨c1, hc⟩
  have hfr : ∀ x ∈ r.first, -1000000 ≤ x ∧ x ≤ 1000000 := fun x hx => by
    have := inB_iff.1 (List.all_eq_true.1 c1 x hx)
    omega
  have hnr : ∀ l ∈ r.next, l.length < 1000000 ∧ ∀ x ∈ l, -1000000 ≤ x ∧ x ≤ 1000000 := fun l hl => ⟨by have := hrows l hl; omega, fun x hx => by
    have := inB_iff.1 (List.all_eq_true.1 (List.all_eq_true.1 hc l hl) x hx)
    omega⟩
  clear c1 hc
  (refine q_seq ?_)
  refine q_draw _ [] (Sp.refl _) (by kernel_rfl) (by kernel_rfl) ?_
  (refine qf_pure tabOk rfl rfl rfl ?_; refine qf_loadB tabOk rfl rfl rfl (by repeat first | exact .head _ | refine .tail _ ?_) (by rfl) ?_)
  refine qf_callv tabOk rfl rfl rfl rfl (fun w hs => sum_ca w lo hi _ r.group (RdE.keep hg hs.chg0) (by omega) hgr) ?_
  skip
  refine qf_callv tabOk rfl rfl rfl rfl (fun w hs => in_ca r.group.sum 1 100 w) ?_
  ((iterate 2 refine qf_pure tabOk rfl rfl rfl ?_))
  refine qf_split rfl rfl (fun hc => ?_) (fun hc => ?_)
  · ((iterate 6 refine qf_gno rfl rfl rfl ?_); (iterate 2 refine qf_pure tabOk rfl rfl rfl ?_); (iterate 5 refine qf_gno rfl rfl rfl ?_); (iterate 2 refine qf_pure tabOk rfl rfl rfl ?_); refine qf_nil ?_; refine q_cond_true rfl ?_; refine q_seq ?_; refine q_region ?_; refine ql_pure tabOk rfl rfl ?_; refine q_nil ?_; refine q_ret ?_)
    refine q_fin tabOk rfl (by repeat (first | exact RVs.nil | apply RVs.tmp rfl | apply RVs.cellA rfl rfl (by repeat first | exact .head _ | refine .tail _ ?_) (by rfl) | apply RVs.cell1 rfl rfl (by repeat first | exact .head _ | refine .tail _ ?_))) fun w hs => ?_
    exact ⟨by simp at hc; simp [retV, checkV, cnt, rng1, rng2, rng3, cnfB, hc], hs.chg0⟩
  simp at hc
  have c1 := hc
  (refine qf_gyes rfl ?_; refine qf_pure tabOk rfl rfl rfl ?_; refine qf_gyes rfl ?_; refine qf_loadB tabOk rfl rfl rfl (by repeat first | exact .head _ | refine .tail _ ?_) (by rfl) ?_; refine qf_gyes rfl ?_)
  refine qf_callv tabOk rfl rfl rfl rfl (fun w hs => sum_ca w lo hi _ r.first (RdE.keep hf hs.chg0) (by omega) hfr) ?_
  (refine qf_gyes rfl ?_; refine qf_pure tabOk rfl rfl rfl ?_; refine qf_gyes rfl ?_; refine qf_loadB tabOk rfl rfl rfl (by repeat first | exact .head _ | refine .tail _ ?_) (by rfl) ?_; refine qf_gyes rfl ?_; (iterate 3 refine qf_pure tabOk rfl rfl rfl ?_))
  refine qf_split rfl rfl (fun hc => ?_) (fun hc => ?_)
  · ((iterate 5 refine qf_gno rfl rfl rfl ?_); (iterate 2 refine qf_pure tabOk rfl rfl rfl ?_); refine qf_nil ?_; refine q_cond_true rfl ?_; refine q_seq ?_; refine q_region ?_; refine ql_pure tabOk rfl rfl ?_; refine q_nil ?_; refine q_ret ?_)
    refine q_fin tabOk rfl (by repeat (first | exact RVs.nil | apply RVs.tmp rfl | apply RVs.cellA rfl rfl (by repeat first | exact .head _ | refine .tail _ ?_) (by rfl) | apply RVs.cell1 rfl rfl (by repeat first | exact .head _ | refine .tail _ ?_))) fun w hs => ?_
    exact ⟨by simp at hc; simp [retV, checkV, cnt, rng1, rng2, rng3, cnfB, hc], hs.chg0⟩
  simp at hc
  have c2 := hc
  (refine qf_gyes rfl ?_; refine qf_pure tabOk rfl rfl rfl ?_; refine qf_gyes rfl ?_; refine qf_loadB tabOk rfl rfl rfl (by repeat first | exact .head _ | refine .tail _ ?_) (by rfl) ?_; refine qf_gyes rfl ?_; refine qf_pure tabOk rfl rfl rfl ?_; refine qf_gyes rfl ?_)
  refine qf_callv tabOk rfl rfl rfl rfl (fun w hs => allR w lo hi _ _ r.next _ (hn.keep hs.chg0) (by omega) (chk6_p w lo hi b1 _ r _ r.next hnr (hs.blk (by repeat first | exact .head _ | refine .tail _ ?_)) rfl)) ?_
  (refine qf_gyes rfl ?_; (iterate 3 refine qf_pure tabOk rfl rfl rfl ?_); refine qf_nil ?_)
  refine q_cond rfl (fun hc => ?_) (fun hc => ?_)
  · (refine q_seq ?_; refine q_region ?_; refine ql_pure tabOk rfl rfl ?_; refine q_nil ?_; refine q_ret ?_)
    refine q_fin tabOk rfl (by repeat (first | exact RVs.nil | apply RVs.tmp rfl | apply RVs.cellA rfl rfl (by repeat first | exact .head _ | refine .tail _ ?_) (by rfl) | apply RVs.cell1 rfl rfl (by repeat first | exact .head _ | refine .tail _ ?_))) fun w hs => ?_
    exact ⟨by simp only [Bool.not_eq_true'] at hc; simp only [retV, checkV, cnt, rng1, rng2, rng3, cnfB, hc, Bool.and_false, Bool.false_and, Bool.not_false, Bool.not_true, if_true, if_false, Bool.false_eq_true], hs.chg0⟩
  · simp only [Bool.not_eq_false'] at hc
    (refine q_skip ?_; refine q_blk ?_; refine q_seq ?_; refine q_region ?_; refine ql_pure tabOk rfl rfl ?_; refine q_nil ?_; refine q_ret ?_)
    refine q_fin tabOk rfl (by repeat (first | exact RVs.nil | apply RVs.tmp rfl | apply RVs.cellA rfl rfl (by repeat first | exact .head _ | refine .tail _ ?_) (by rfl) | apply RVs.cell1 rfl rfl (by repeat first | exact .head _ | refine .tail _ ?_))) fun w hs => ?_
    refine ⟨?_, hs.chg0⟩
    have cnf : cnfB r = true := by
      simp only [cnfB, Bool.and_eq_true]
      exact ⟨⟨c1, by simpa using c2⟩, hc⟩
    simp [retV, checkV, cnt, rng1, rng2, rng3, cnf]

end Go.Proofs.YtohlillcaadidaaGreat

/- Walks: a range is opened; hits. -/
namespace Go.Proofs.YtohlillcaadidaaGreat
open Go Go.Eng

theorem right_check (r : Rg) : checkV r = 0 ↔ r.Right := by
  constructor
  · intro h
    have hc : cntB r = true ∧ rng1B r = true ∧ rng2B r = true ∧ rng3B r = true ∧ cnfB r = true := by
      unfold checkV at h
      cases h1 : cntB r <;> cases h2 : rng1B r <;> cases h3 : rng2B r <;> cases h4 : rng3B r <;> cases h5 : cnfB r <;> simp [h1, h2, h3, h4, h5] at h ⊢
    obtain ⟨h1, h2, h3, h4, h5⟩ := hc
    simp only [cntB, rng1B, rng2B, rng3B, cnfB, Bool.and_eq_true, inB_iff, Bool.not_eq_true', decide_eq_true_eq, decide_eq_false_iff_not, List.all_eq_true, Bool.and_true] at h1 h2 h3 h4 h5
    obtain ⟨⟨⟨⟨⟨a1, a2⟩, a3⟩, a4⟩, a5⟩, a6⟩ := h1
    obtain ⟨⟨⟨b1, b2⟩, b3⟩, b4⟩ := h2
    obtain ⟨⟨d1, d2⟩, d3⟩ := h5
    exact ⟨by omega, by omega, by omega, by omega, by omega, by omega, by omega, fun l hl => by have := a6 l hl; omega, b1, b2, b3, b4, h3.1, h3.2, h4.1, h4.2, d1, d2, d3⟩
  · intro h
    have h1 : cntB r = true := by
      simp only [cntB, Bool.and_eq_true, inB_iff, Bool.not_eq_true', decide_eq_true_eq, decide_eq_false_iff_not, List.all_eq_true, Bool.and_true]
      have e1 := h.g1; have e2 := h.g2; have e3 := h.odd; have e4 := h.d1; have e5 := h.d2; have e6 := h.first; have e7 := h.next
      exact ⟨⟨⟨⟨⟨by omega, by omega⟩, by omega⟩, by omega⟩, by omega⟩, fun l hl => by have := h.rows l hl; omega⟩
    have h2 : rng1B r = true := by
      simp only [rng1B, Bool.and_eq_true, inB_iff]
      exact ⟨⟨⟨h.radius, h.unit⟩, h.clicks⟩, h.total⟩
    have h3 : rng2B r = true := by
      simp only [rng2B, Bool.and_eq_true, inB_iff, List.all_eq_true]
      exact ⟨h.drift, h.weight⟩
    have h4 : rng3B r = true := by
      simp only [rng3B, Bool.and_eq_true, inB_iff, List.all_eq_true]
      exact ⟨h.chance, h.chances⟩
    have h5 : cnfB r = true := by
      simp only [cnfB, Bool.and_eq_true, inB_iff, List.all_eq_true, decide_eq_true_eq, Bool.and_true]
      exact ⟨⟨h.gsum, h.fsum⟩, h.nsum⟩
    simp [checkV, h1, h2, h3, h4, h5]

theorem opened_no (w : World) (cs : List Value) (r : Rg) (h : RgC w cs r) (hsm : r.Small) (hr : checkV r ≠ 0) : Ca Tryz.prog 83 [.agg cs.toArray] w fun v w' => v = .tuple #[.pointer none, .int .i64 (checkV r)] ∧ Chg [] w w' := by
  have h0 := h
  obtain ⟨lo, hi, ag, cg, ad, cd, af, cf, an, cn, rfl, hg, hdr, hf, hn⟩ := h
  refine q_of (Sat.nil w M0) Tryz.func83 rfl (by simp [Tryz.ntmps83]) ?_
  (refine q_seq ?_; refine q_region ?_)
  refine ql_box rfl rfl (fun b1 => ?_)
  ((iterate 2 refine ql_pure tabOk rfl rfl ?_); refine q_nil ?_; (iterate 2 refine q_seq ?_); refine q_region ?_; refine ql_loadAB tabOk rfl rfl rfl (by repeat first | exact .head _ | refine .tail _ ?_) (by rfl) (by rfl) ?_)
  refine ql_callv tabOk rfl rfl rfl rfl (fun w hs => check_ca w _ r (h0.keep hs.chg0) hsm) ?_
  (refine ql_pure tabOk rfl rfl ?_; refine q_nil ?_; refine q_seq ?_; refine q_region ?_; (iterate 2 refine ql_pure tabOk rfl rfl ?_); refine q_nil ?_)
  rw [decide_eq_false hr]
  (refine q_cond_true rfl ?_; refine q_seq ?_; refine q_region ?_; (iterate 3 refine ql_pure tabOk rfl rfl ?_); refine q_nil ?_; refine q_ret ?_)
  refine q_fin tabOk rfl (by repeat (first | exact RVs.nil | apply RVs.tmp rfl | apply RVs.cellA rfl rfl (by repeat first | exact .head _ | refine .tail _ ?_) (by rfl) | apply RVs.cell1 rfl rfl (by repeat first | exact .head _ | refine .tail _ ?_))) fun w hs => ?_
  exact ⟨rfl, hs.chg0⟩

theorem opened_ok (w : World) (cs : List Value) (r : Rg) (h : RgC w cs r) (hsm : r.Small) (hr : checkV r = 0) : Ca Tryz.prog 83 [.agg cs.toArray] w fun v w' => ∃ x : Nat, v = .tuple #[.pointer (some ⟨x, 0, none⟩), .int .i64 0] ∧ Sat w M0 [.pt x cs 141] w' := by
  have h0 := h
  obtain ⟨lo, hi, ag, cg, ad, cd, af, cf, an, cn, rfl, hg, hdr, hf, hn⟩ := h
  refine q_of (Sat.nil w M0) Tryz.func83 rfl (by simp [Tryz.ntmps83]) ?_
  (refine q_seq ?_; refine q_region ?_)
  refine ql_box rfl rfl (fun b1 => ?_)
  ((iterate 2 refine ql_pure tabOk rfl rfl ?_); refine q_nil ?_; (iterate 2 refine q_seq ?_); refine q_region ?_; refine ql_loadAB tabOk rfl rfl rfl (by repeat first | exact .head _ | refine .tail _ ?_) (by rfl) (by rfl) ?_)
  refine ql_callv tabOk rfl rfl rfl rfl (fun w hs => check_ca w _ r (h0.keep hs.chg0) hsm) ?_
  rw [hr]
  (refine ql_pure tabOk rfl rfl ?_; refine q_nil ?_; refine q_seq ?_; refine q_region ?_; (iterate 2 refine ql_pure tabOk rfl rfl ?_); refine q_nil ?_; refine q_cond_false rfl ?_; refine q_skip ?_; refine q_seq ?_; refine q_region ?_; refine ql_loadAB tabOk rfl rfl rfl (by repeat first | exact .head _ | refine .tail _ ?_) (by rfl) (by rfl) ?_)
  refine ql_mk #[.int .i64 r.radius, .int .i64 r.unit, .int .i64 r.clicks, .int .i64 r.total, .slice ag r.group.length cg, .slice ad r.drifts.length cd, .slice af r.first.length cf, .slice an r.next.length cn] rfl (by kernel_rfl) rfl ?_
  refine ql_box rfl rfl (fun b2 => ?_)
  ((iterate 2 refine ql_pure tabOk rfl rfl ?_); refine q_nil ?_; refine q_ret ?_)
  refine q_fin tabOk rfl (by repeat (first | exact RVs.nil | apply RVs.tmp rfl | apply RVs.cellA rfl rfl (by repeat first | exact .head _ | refine .tail _ ?_) (by rfl) | apply RVs.cell1 rfl rfl (by repeat first | exact .head _ | refine .tail _ ?_))) fun w hs => ?_
  exact ⟨b2, rfl, hs.sp (by repeat (first | exact Sp.nil | exact Sp.refl _ | refine Sp.cons (by repeat constructor) ?_))⟩

end Go.Proofs.YtohlillcaadidaaGreat

/- Walks: Hit; the weights of the states. -/
namespace Go.Proofs.YtohlillcaadidaaGreat
open Go Go.Eng

theorem sum_mono : ∀ (a b : List Int), a.length = b.length → (∀ i (h : i < a.length) (h' : i < b.length), a[i] ≤ b[i]) → a.sum ≤ b.sum
  | [], [], _, _ => by simp
  | x :: a, y :: b, hl, h => by
    have h0 := h 0 (by simp) (by simp)
    have ih := sum_mono a b (by simpa using hl) (fun i h1 h2 => by have := h (i + 1) (by simpa using h1) (by simpa using h2); simpa using this)
    simp at h0
    simp
    omega
theorem sum_nonneg' : ∀ (a : List Int), (∀ x ∈ a, 0 ≤ x) → 0 ≤ a.sum
  | [], _ => by simp
  | x :: a, h => by
    have h0 := h x List.mem_cons_self
    have ih := sum_nonneg' a (fun y hy => h y (List.mem_cons_of_mem _ hy))
    simp
    omega

theorem missS_bd (r : Rg) (hr : r.Right) (drift click : Int) : 0 ≤ missS r drift click ∧ missS r drift click ≤ r.group.sum := by
  constructor
  · refine sum_nonneg' _ (fun x hx => ?_)
    obtain ⟨k, hk, rfl⟩ := List.getElem_of_mem hx
    have hk' : k < r.group.length := by rwa [missL_length] at hk
    have := hr.weight r.group[k] (List.getElem_mem hk')
    rw [missL_get r drift click k hk']
    split <;> omega
  · refine sum_mono _ _ (missL_length r drift click) (fun k h h' => ?_)
    have := hr.weight r.group[k] (List.getElem_mem h')
    rw [missL_get r drift click k h']
    split <;> omega

/-- The chance of a hit. -/
def hitV (r : Rg) (state click : Int) : (Int × Int) × Int :=
  if checkV r ≠ 0 then ((0, 0), checkV r) else if !inB state 0 ((r.drifts.length : Int) - 1) then ((0, 0), 1) else if !inB click (-r.clicks) r.clicks then ((0, 0), 3)
  else (ratioV (r.group.sum - missS r (r.drifts.getD state.toNat 0) click) r.group.sum, 0)

set_option maxHeartbeats 1000000 in
theorem hit_ca (w : World) (cs : List Value) (r : Rg) (state click : Int) (h : RgC w cs r) (hsm : r.Small) : Ca Tryz.prog 29 [.agg cs.toArray, .int .i64 state, .int .i64 click] w fun v w' => v = .tuple #[rtV (hitV r state click).1, .int .i64 (hitV r state click).2] ∧ Chg [] w w' := by
  have h0 := h
  have s2 := hsm.drifts
  obtain ⟨lo, hi, ag, cg, ad, cd, af, cf, an, cn, rfl, hg, hdr, hf, hn⟩ := h
  refine q_of (Sat.nil w M0) Tryz.func29 rfl (by simp [Tryz.ntmps29]) ?_
  (refine q_seq ?_; refine q_region ?_)
  refine ql_box rfl rfl (fun b3 => ?_)
  skip
  refine ql_alloc zero36 rfl (fun b6 => ?_)
  (refine ql_pure tabOk rfl rfl ?_; refine q_nil ?_; refine q_seq ?_; refine q_region ?_; refine ql_loadAB tabOk rfl rfl rfl (by repeat first | exact .head _ | refine .tail _ ?_) (by rfl) (by rfl) ?_)
  by_cases hr : checkV r = 0
  · have hR := (right_check r).1 hr
    have hcl := hR.clicks
    refine ql_call (β := Nat) tabOk [] _ M0 rfl rfl rfl rfl (Sp.refl _) (fun _ h => h.elim) (fun w' hs => opened_ok w' _ r (h0.keep hs.chg0) hsm hr) ?_
    rintro bd _ rfl
    (refine ql_pure tabOk rfl rfl ?_; (iterate 2 refine ql_ext tabOk rfl rfl rfl ?_); (iterate 2 refine ql_pure tabOk rfl rfl ?_); refine q_nil ?_; refine q_seq ?_; refine q_block ?_; refine q_seq ?_; refine q_region ?_; (iterate 3 refine ql_pure tabOk rfl rfl ?_); refine q_nil ?_; refine q_cond_false rfl ?_; refine q_seq ?_; refine q_region ?_; (iterate 2 refine ql_pure tabOk rfl rfl ?_); refine ql_loadB tabOk rfl rfl rfl (by repeat first | exact .head _ | refine .tail _ ?_) (by rfl) ?_; refine ql_pure tabOk rfl rfl ?_; refine ql_ar tabOk rfl rfl rfl rfl (by omega) (by omega) ?_)
    refine ql_callv tabOk rfl rfl rfl rfl (fun w hs => in_ca state 0 ((r.drifts.length : Int) - 1) w) ?_
    ((iterate 2 refine ql_pure tabOk rfl rfl ?_); refine q_nil ?_)
    refine q_cond rfl (fun hc => ?_) (fun hc => ?_)
    · (refine q_seq ?_; refine q_region ?_)
      refine ql_mk #[.int .i64 0, .int .i64 0] rfl (by kernel_rfl) rfl ?_
      (refine ql_setA tabOk rfl rfl rfl rfl rfl (by repeat constructor) rfl ?_; refine ql_pure tabOk rfl rfl ?_; refine q_nil ?_; refine q_ret ?_)
      refine q_fin tabOk rfl (by repeat (first | exact RVs.nil | apply RVs.tmp rfl | apply RVs.cellA rfl rfl (by repeat first | exact .head _ | refine .tail _ ?_) (by rfl) | apply RVs.cell1 rfl rfl (by repeat first | exact .head _ | refine .tail _ ?_))) fun w hs => ?_
      exact ⟨by simp at hc; simp [retV, hitV, hr, hc, rtV], hs.chg0⟩
    simp at hc
    have hst := hc
    have hst' := inB_iff.1 hst
    (refine q_seq ?_; refine q_region ?_; (iterate 2 refine ql_pure tabOk rfl rfl ?_); refine ql_loadB tabOk rfl rfl rfl (by repeat first | exact .head _ | refine .tail _ ?_) (by rfl) ?_; refine ql_neg tabOk rfl rfl (by omega) (by omega) ?_; refine ql_pure tabOk rfl rfl ?_; refine ql_loadB tabOk rfl rfl rfl (by repeat first | exact .head _ | refine .tail _ ?_) (by rfl) ?_)
    refine ql_callv tabOk rfl rfl rfl rfl (fun w hs => in_ca click (-r.clicks) r.clicks w) ?_
    ((iterate 2 refine ql_pure tabOk rfl rfl ?_); refine q_nil ?_)
    refine q_cond rfl (fun hc => ?_) (fun hc => ?_)
    · (refine q_seq ?_; refine q_region ?_)
      refine ql_mk #[.int .i64 0, .int .i64 0] rfl (by kernel_rfl) rfl ?_
      (refine ql_setA tabOk rfl rfl rfl rfl rfl (by repeat constructor) rfl ?_; refine ql_pure tabOk rfl rfl ?_; refine q_nil ?_; refine q_ret ?_)
      refine q_fin tabOk rfl (by repeat (first | exact RVs.nil | apply RVs.tmp rfl | apply RVs.cellA rfl rfl (by repeat first | exact .head _ | refine .tail _ ?_) (by rfl) | apply RVs.cell1 rfl rfl (by repeat first | exact .head _ | refine .tail _ ?_))) fun w hs => ?_
      exact ⟨by simp at hc; simp [retV, hitV, hr, hst, hc, rtV], hs.chg0⟩
    simp at hc
    have hck' := inB_iff.1 hc
    obtain ⟨i, rfl⟩ := Int.eq_ofNat_of_zero_le hst'.1
    have hi : i < r.drifts.length := by omega
    obtain ⟨_, _, hsl, hsd⟩ := RdI.outI hdr
    cases hsl
    obtain ⟨b0, off, rfl⟩ := hsd (by omega)
    have hdrift := hR.drift r.drifts[i] (List.getElem_mem hi)
    have hms := missS_bd r hR r.drifts[i] click
    have hgs := hR.gsum
    (refine q_skip ?_; refine q_blk ?_; refine q_seq ?_)
    refine q_draw _ [.pt b6 _ _] (Sp.cons (by repeat constructor) (Sp.refl _)) (by kernel_rfl) (by kernel_rfl) ?_
    (refine qf_pure tabOk rfl rfl rfl ?_)
    refine qf_callv tabOk rfl rfl rfl rfl (fun w hs => group_ca w bd r ⟨_, _, hs.blk (by repeat first | exact .head _ | refine .tail _ ?_), h0.keep hs.chg0⟩ hR) ?_
    ((iterate 2 refine qf_pure tabOk rfl rfl rfl ?_); refine qf_loadB tabOk rfl rfl rfl (by repeat first | exact .head _ | refine .tail _ ?_) (by rfl) ?_; refine qf_pure tabOk rfl rfl rfl ?_)
    (refine qf_index tabOk rfl rfl rfl rfl rfl (by omega) (by omega) ?_; refine qf_load1 tabOk rfl rfl rfl (fun w hs => RdI.at (RdE.keep hdr hs.chg0) i hi) ?_)
    (refine qf_pure tabOk rfl rfl rfl ?_)
    refine qf_callv (val := .int .i64 (missS r (r.drifts[i]'hi) click)) tabOk rfl rfl rfl rfl (fun w hs => ?_) ?_; exact missed_ca w bd r (r.drifts[i]'hi) click ⟨_, _, hs.blk (by repeat first | exact .head _ | refine .tail _ ?_), h0.keep hs.chg0⟩ hR (by omega) (by omega)
    (refine qf_ar tabOk rfl rfl rfl rfl (by omega) (by omega) ?_; refine qf_pure tabOk rfl rfl rfl ?_)
    refine qf_callv tabOk rfl rfl rfl rfl (fun w hs => group_ca w bd r ⟨_, _, hs.blk (by repeat first | exact .head _ | refine .tail _ ?_), h0.keep hs.chg0⟩ hR) ?_
    skip
    refine qf_callv tabOk rfl rfl rfl rfl (fun w hs => ratio_ca (r.group.sum - missS r (r.drifts[i]'hi) click) r.group.sum w (by omega) (by omega) (by omega) (by omega)) ?_
    (refine qf_setA tabOk rfl rfl rfl rfl rfl (by repeat constructor) rfl ?_; refine qf_pure tabOk rfl rfl rfl ?_; refine qf_nil ?_; refine q_ret ?_)
    refine q_fin tabOk rfl (by repeat (first | exact RVs.nil | apply RVs.tmp rfl | apply RVs.cellA rfl rfl (by repeat first | exact .head _ | refine .tail _ ?_) (by rfl) | apply RVs.cell1 rfl rfl (by repeat first | exact .head _ | refine .tail _ ?_))) fun w hs => ?_
    refine ⟨?_, hs.chg0⟩
    have e : r.drifts.getD i 0 = r.drifts[i] := by simp [hi]
    have hc2 : inB click (-r.clicks) r.clicks = true := inB_iff.2 hck'
    simp [retV, hitV, hr, hst, hc2, List.getElem?_eq_getElem hi, rtV]
  · refine ql_callv tabOk rfl rfl rfl rfl (fun w hs => opened_no w _ r (h0.keep hs.chg0) hsm hr) ?_
    (refine ql_pure tabOk rfl rfl ?_; (iterate 2 refine ql_ext tabOk rfl rfl rfl ?_); (iterate 2 refine ql_pure tabOk rfl rfl ?_); refine q_nil ?_; refine q_seq ?_; refine q_block ?_; refine q_seq ?_; refine q_region ?_; (iterate 3 refine ql_pure tabOk rfl rfl ?_); refine q_nil ?_)
    rw [decide_eq_false hr]
    (refine q_cond_true rfl ?_; refine q_seq ?_; refine q_region ?_)
    refine ql_mk #[.int .i64 0, .int .i64 0] rfl (by kernel_rfl) rfl ?_
    (refine ql_pure tabOk rfl rfl ?_; refine ql_setA tabOk rfl rfl rfl rfl rfl (by repeat constructor) rfl ?_; refine ql_pure tabOk rfl rfl ?_; refine q_nil ?_; refine q_ret ?_)
    refine q_fin tabOk rfl (by repeat (first | exact RVs.nil | apply RVs.tmp rfl | apply RVs.cellA rfl rfl (by repeat first | exact .head _ | refine .tail _ ?_) (by rfl) | apply RVs.cell1 rfl rfl (by repeat first | exact .head _ | refine .tail _ ?_))) fun w hs => ?_
    exact ⟨by simp [retV, hitV, hr, rtV], hs.chg0⟩

end Go.Proofs.YtohlillcaadidaaGreat

/- Walks: the weights of the states, shot by shot. -/
namespace Go.Proofs.YtohlillcaadidaaGreat
open Go Go.Eng

/-- A row, so many times, added. -/
def addRow (out : List Int) (c : Int) (row : List Int) : List Int := (List.range out.length).map fun t => out.getD t 0 + c * row.getD t 0
theorem addRow_length (out : List Int) (c : Int) (row : List Int) : (addRow out c row).length = out.length := by simp [addRow]
theorem addRow_get (out : List Int) (c : Int) (row : List Int) (t : Nat) (ht : t < out.length) : (addRow out c row)[t]'(by rw [addRow_length]; exact ht) = out.getD t 0 + c * row.getD t 0 := by simp [addRow]
theorem addRow_nil (out : List Int) (c : Int) : addRow out c [] = out := by
  refine List.ext_getElem (addRow_length _ _ _) (fun i h1 h2 => ?_)
  rw [addRow_get out c [] i h2]
  simp [h2]
theorem addRow_step (out : List Int) (c : Int) (row : List Int) (j : Nat) (hj : j < row.length) (ho : j < out.length) :
    addRow out c (row.take (j + 1)) = (addRow out c (row.take j)).set j ((addRow out c (row.take j))[j]'(by rw [addRow_length]; exact ho) + c * row[j]) := by
  refine List.ext_getElem (by simp [addRow_length]) (fun i h1 h2 => ?_)
  have hi : i < out.length := by rw [addRow_length] at h1; exact h1
  rw [addRow_get out c _ i hi]
  by_cases h : j = i
  · subst h
    rw [List.getElem_set_self, addRow_get out c _ j ho]
    simp [List.getElem?_eq_getElem hj, List.getElem?_take]
  · rw [List.getElem_set_ne h, addRow_get out c _ i hi]
    simp only [List.getD_eq_getElem?_getD, List.getElem?_take]
    by_cases h3 : i < j
    · rw [if_pos h3, if_pos (by omega)]
    · rw [if_neg h3, if_neg (by omega)]
theorem addRow_bd {out row : List Int} {c A B : Int} (ho : ∀ x ∈ out, 0 ≤ x ∧ x ≤ A) (hc : 0 ≤ c ∧ c ≤ B) (hr : ∀ x ∈ row, 0 ≤ x ∧ x ≤ 12) : ∀ x ∈ addRow out c row, 0 ≤ x ∧ x ≤ A + B * 12 := by
  intro x hx
  obtain ⟨t, ht, rfl⟩ := List.getElem_of_mem hx
  have ht' : t < out.length := by rw [addRow_length] at ht; exact ht
  rw [addRow_get out c row t ht']
  have h1 := ho out[t] (List.getElem_mem ht')
  have h2 : 0 ≤ row.getD t 0 ∧ row.getD t 0 ≤ 12 := by
    by_cases h : t < row.length
    · simp only [List.getD_eq_getElem?_getD, List.getElem?_eq_getElem h, Option.getD_some]
      exact hr _ (List.getElem_mem h)
    · simp only [List.getD_eq_getElem?_getD, List.getElem?_eq_none (Nat.le_of_not_lt h), Option.getD_none]
      omega
  have h3 := mul_bd0 hc h2
  simp only [List.getD_eq_getElem?_getD, List.getElem?_eq_getElem ht', Option.getD_some] at h3 ⊢
  omega

/-- The weights behind the first k states. -/
def afterP (r : Rg) (ws : List Int) : Nat → List Int
  | 0 => List.replicate 5 0
  | k + 1 => addRow (afterP r ws k) (ws.getD k 0) (r.next.getD k [])
/-- The weights of the states behind others. -/
def afterS (r : Rg) (ws : List Int) : List Int := afterP r ws r.next.length
theorem afterP_length (r : Rg) (ws : List Int) : ∀ k, (afterP r ws k).length = 5
  | 0 => by simp [afterP]
  | k + 1 => by rw [afterP, addRow_length, afterP_length r ws k]
theorem row_bd {r : Rg} (hr : r.Right) (k : Nat) : ∀ x ∈ r.next.getD k [], 0 ≤ x ∧ x ≤ 12 := by
  intro x hx
  by_cases h : k < r.next.length
  · simp only [List.getD_eq_getElem?_getD, List.getElem?_eq_getElem h, Option.getD_some] at hx
    have := hr.chances _ (List.getElem_mem h) x hx
    have := hr.total
    omega
  · simp [List.getD_eq_getElem?_getD, List.getElem?_eq_none (Nat.le_of_not_lt h)] at hx
theorem getD_bd {l : List Int} {B : Int} (hB : 0 ≤ B) (h : ∀ x ∈ l, 0 ≤ x ∧ x ≤ B) (k : Nat) : 0 ≤ l.getD k 0 ∧ l.getD k 0 ≤ B := by
  by_cases hk : k < l.length
  · simp only [List.getD_eq_getElem?_getD, List.getElem?_eq_getElem hk, Option.getD_some]
    exact h _ (List.getElem_mem hk)
  · simp only [List.getD_eq_getElem?_getD, List.getElem?_eq_none (Nat.le_of_not_lt hk), Option.getD_none]
    omega
theorem afterP_bd {r : Rg} (hr : r.Right) {ws : List Int} {B : Int} (hB : 0 ≤ B) (hw : ∀ x ∈ ws, 0 ≤ x ∧ x ≤ B) : ∀ k, ∀ x ∈ afterP r ws k, 0 ≤ x ∧ x ≤ B * 12 * k
  | 0 => by
    intro x hx
    simp [afterP] at hx
    obtain ⟨_, rfl⟩ := hx
    simp
  | k + 1 => by
    intro x hx
    rw [afterP] at hx
    have h1 := addRow_bd (afterP_bd hr hB hw k) (getD_bd hB hw k) (row_bd hr k) x hx
    have e : B * 12 * ((k + 1 : Nat) : Int) = B * 12 * (k : Int) + B * 12 := by
      rw [Int.natCast_add, Int.mul_add]
      simp
    omega

theorem w_arr : arrB Tryz.prog 158 5 3 1 = true := by kernel_rfl

set_option maxHeartbeats 1000000 in
theorem after_ca (w : World) (b : Nat) (r : Rg) (ws : List Int) (hd : DkAt w b r) (hr : r.Right) (hlen : ws.length = 5) (hw : ∀ x ∈ ws, 0 ≤ x ∧ x ≤ 1000000000) :
    Ca Tryz.prog 128 [.pointer (some ⟨b, 0, none⟩), .agg (ints ws).toArray] w fun v w' => v = .agg (ints (afterS r ws)).toArray ∧ Chg [] w w' := by
  obtain ⟨cs, bt, hblk, lo, hi, ag, cg, ad, cd, af, cf, an, cn, rfl, hg, hdr, hf, hn⟩ := hd
  have hnl := hr.next
  have hd2 := hr.d2
  obtain ⟨_, _, hsl, hsn⟩ := RdII.outI hn
  cases hsl
  refine q_of (Sat.nil w M0) Tryz.func128 rfl (by simp [Tryz.ntmps128]) ?_
  (refine q_seq ?_; refine q_region ?_)
  refine ql_box rfl rfl (fun b3 => ?_)
  refine ql_alloc zero158 rfl (fun b4 => ?_)
  (refine q_nil ?_; refine q_seq ?_; refine q_region ?_)
  refine ql_alloc zero158 rfl (fun b5 => ?_)
  (refine q_nil ?_; (iterate 2 refine q_seq ?_); refine q_region ?_; (iterate 4 refine ql_pure tabOk rfl rfl ?_); refine ql_loadP tabOk rfl rfl rfl (by assumption) (by rfl) ?_; (iterate 2 refine ql_pure tabOk rfl rfl ?_); refine q_nil ?_; refine q_block ?_)
  refine q_loop (σ := Nat) (fun k => k ≤ r.next.length) (fun k => r.next.length - k) (fun k => [(0, .pointer (some ⟨b, 0, none⟩)), (3, .pointer (some ⟨b3, 0, none⟩)), (4, .pointer (some ⟨b4, 0, none⟩)), (5, .pointer (some ⟨b5, 0, none⟩)), (14, .slice an r.next.length cn), (15, .int .i64 r.next.length), (16, .int .i64 k)])
    (fun k => [.pt b5 (ints (afterP r ws k)) 158, .pt b4 (ints (List.replicate 5 0)) 158, .pt b3 (ints ws) 158]) 0 (by omega) ⟨rfl, rfl, rfl, rfl, rfl, rfl, rfl, trivial⟩ (by repeat (first | exact Sp.nil | exact Sp.refl _ | refine Sp.cons (by repeat constructor) ?_)) ?_
  intro k hk K hK
  (refine q_seq ?_; refine q_region ?_; refine ql_pure tabOk rfl rfl ?_; refine q_nil ?_; refine q_seq ?_)
  refine q_if rfl (fun hc => ?_) (fun hc => ?_)
  · have hk : k < r.next.length := by omega
    obtain ⟨bs, off, rfl⟩ := hsn (by omega)
    obtain ⟨ar, cr, hrow, hcell⟩ := hn.row k hk
    generalize hrw : r.next[k] = row at hrow hcell
    have hrl := hr.rows r.next[k] (List.getElem_mem hk)
    have hrb : ∀ x ∈ r.next[k], 0 ≤ x ∧ x ≤ 12 := fun x hx => by have := hr.chances _ (List.getElem_mem hk) x hx; have := hr.total; omega
    rw [hrw] at hrl hrb
    obtain ⟨_, _, hsl2, hsr⟩ := RdI.outI hrow
    cases hsl2
    have hwk := hw (ws[k]'(by omega)) (List.getElem_mem _)
    have ha : afterP r ws (k + 1) = addRow (afterP r ws k) (ws[k]'(by omega)) row := by
      rw [afterP]
      congr 1
      · simp [show k < ws.length by omega]
      · simp [hk, hrw]
    have hkw : k < ws.length := by omega
    generalize hwk' : ws[k]'hkw = wk at hwk ha
    (refine q_skip ?_; refine q_seq ?_; refine q_block ?_; refine q_seq ?_; refine q_region ?_; refine ql_pure tabOk rfl rfl ?_)
    refine ql_index tabOk rfl rfl rfl rfl rfl (by omega) (by omega) ?_
    refine ql_load1 (v := .slice ar row.length cr) tabOk rfl rfl rfl (fun w' hs => hcell w' hs.chg0) ?_
    ((iterate 2 refine ql_pure tabOk rfl rfl ?_); refine q_nil ?_; refine q_seq ?_; refine q_region ?_; (iterate 3 refine ql_pure tabOk rfl rfl ?_); refine q_nil ?_; refine q_block ?_)
    refine q_loop (σ := Nat) (fun j => j ≤ row.length) (fun j => row.length - j) (fun j => [(0, .pointer (some ⟨b, 0, none⟩)), (3, .pointer (some ⟨b3, 0, none⟩)), (4, .pointer (some ⟨b4, 0, none⟩)), (5, .pointer (some ⟨b5, 0, none⟩)), (6, .int .i64 k), (14, .slice (some ⟨bs, off, none⟩) r.next.length cn), (15, .int .i64 r.next.length), (16, .int .i64 k), (21, .slice ar row.length cr), (22, .int .i64 row.length), (23, .int .i64 j)])
      (fun j => [.pt b5 (ints (addRow (afterP r ws k) wk (row.take j))) 158, .pt b4 (ints (List.replicate 5 0)) 158, .pt b3 (ints ws) 158]) 0 (by omega) ⟨rfl, rfl, rfl, rfl, rfl, rfl, rfl, rfl, rfl, rfl, rfl, trivial⟩ (by rw [List.take_zero, addRow_nil]; repeat (first | exact Sp.nil | exact Sp.refl _ | refine Sp.cons (by repeat constructor) ?_)) ?_
    intro j hj K2 hK2
    (refine q_seq ?_; refine q_region ?_; refine ql_pure tabOk rfl rfl ?_; refine q_nil ?_; refine q_seq ?_)
    refine q_if rfl (fun hc => ?_) (fun hc => ?_)
    · have hj : j < row.length := by omega
      obtain ⟨br, offr, rfl⟩ := hsr (by omega)
      have hjo : j < (afterP r ws k).length := by rw [afterP_length]; omega
      have hjo2 : j < (addRow (afterP r ws k) wk (row.take j)).length := by rw [addRow_length]; exact hjo
      have hnj := hrb row[j] (List.getElem_mem hj)
      have hmul := mul_bd0 hwk hnj
      have hout := addRow_bd (afterP_bd hr (by omega) hw k) hwk (fun x hx => hrb x (List.mem_of_mem_take hx)) ((addRow (afterP r ws k) wk (row.take j))[j]'hjo2) (List.getElem_mem hjo2)
      have hk5 : (1000000000 : Int) * 12 * k ≤ 60000000000 := by omega
      have hst := addRow_step (afterP r ws k) wk row j hj hjo
      generalize hLj : (addRow (afterP r ws k) wk (row.take j))[j]'hjo2 = lj at hout hst
      (refine q_skip ?_; refine q_seq ?_; refine q_block ?_; refine q_seq ?_; refine q_region ?_; refine ql_pure tabOk rfl rfl ?_)
      (refine ql_index tabOk rfl rfl rfl rfl rfl (by omega) (by omega) ?_; refine ql_load1 tabOk rfl rfl rfl (fun w hs => RdI.at (RdE.keep hrow hs.chg0) j hj) ?_)
      ((iterate 2 refine ql_pure tabOk rfl rfl ?_); refine q_nil ?_)
      refine q_drawS 10 _ [.pt b5 _ _] (Sp.cons (by repeat constructor) (Sp.refl _)) (by kernel_rfl) (by kernel_rfl) (by kernel_rfl) fun K1 hK1 => ?_
      (refine qf_pure tabOk rfl rfl rfl ?_)
      refine qf_indexA w_arr rfl rfl rfl (by omega) (by omega) ?_
      refine qf_loadI tabOk (j) rfl rfl rfl (by repeat first | exact .head _ | refine .tail _ ?_) (by first | rfl | omega | simp) hjo2 ?_
      rw [hLj]
      (refine qf_pure tabOk rfl rfl rfl ?_)
      refine qf_indexA w_arr rfl rfl rfl (by omega) (by omega) ?_
      refine qf_loadI tabOk (k) rfl rfl rfl (by repeat first | exact .head _ | refine .tail _ ?_) (by first | rfl | omega | simp) (by omega) ?_
      rw [hwk']
      (refine qf_pure tabOk rfl rfl rfl ?_; (iterate 2 refine qf_ar tabOk rfl rfl rfl rfl (by omega) (by omega) ?_))
      refine qf_indexA w_arr rfl rfl rfl (by omega) (by omega) ?_
      (refine qf_nil ?_)
      refine hK1 _ _ [.pt b5 _ _] (Sp.cons (by repeat constructor) ((by repeat (first | exact Sp.nil | exact Sp.refl _ | refine Sp.cons (by repeat constructor) ?_)))) ?_
      refine qf_storeI tabOk (j) rfl rfl rfl (by repeat constructor) (by first | rfl | omega | simp) hjo2 ?_
      (refine qf_nil ?_; refine q_blk ?_; refine q_region ?_; refine ql_ar tabOk rfl rfl rfl rfl (by omega) (by omega) ?_; refine ql_pure tabOk rfl rfl ?_; refine q_nil ?_)
      exact hK2 (j + 1) _ _ (by omega) (by omega) ⟨rfl, rfl, rfl, rfl, rfl, rfl, rfl, rfl, rfl, rfl, rfl, trivial⟩ (by rw [hst]; repeat (first | exact Sp.nil | exact Sp.refl _ | refine Sp.cons (by repeat constructor) ?_))
    · obtain rfl : j = row.length := by omega
      (refine q_exit _ rfl ?_; refine q_blk ?_; refine q_region ?_; refine ql_ar tabOk rfl rfl rfl rfl (by omega) (by omega) ?_; refine ql_pure tabOk rfl rfl ?_; refine q_nil ?_)
      exact hK (k + 1) _ _ (by omega) (by omega) ⟨rfl, rfl, rfl, rfl, rfl, rfl, rfl, trivial⟩ (by rw [ha, List.take_length]; repeat (first | exact Sp.nil | exact Sp.refl _ | refine Sp.cons (by repeat constructor) ?_))
  · obtain rfl : k = r.next.length := by omega
    have hal := afterP_length r ws r.next.length
    (refine q_exit _ rfl ?_; refine q_seq ?_; refine q_region ?_)
    refine ql_loadAB (us := ints (afterP r ws r.next.length)) tabOk rfl rfl rfl (by repeat first | exact .head _ | refine .tail _ ?_) (by rw [List.drop_zero]; exact List.take_of_length_le (by simp [hal])) (by simp [hal]) ?_
    refine ql_setA tabOk rfl rfl rfl (by simp [hal]) (by simp [oneV]) (by repeat constructor) (by simp) ?_
    (refine q_nil ?_; refine q_ret ?_)
    refine q_fin (vs := [.agg (ints (afterP r ws r.next.length)).toArray]) tabOk rfl (RVs.cellA rfl rfl (by repeat first | exact .head _ | refine .tail _ ?_) (by simp [hal]) .nil) fun w hs => ?_
    exact ⟨rfl, hs.chg0⟩

end Go.Proofs.YtohlillcaadidaaGreat

/- Walks: the weights of the states at each shot. -/
namespace Go.Proofs.YtohlillcaadidaaGreat
open Go Go.Eng

/-- The weights of the states at shot k. -/
def wts (r : Rg) : Nat → List Int
  | 0 => r.first ++ (List.replicate 5 (0 : Int)).drop r.first.length
  | k + 1 => afterS r (wts r k)
def shotL (r : Rg) : List (List Int × Int) := (List.range 5).map fun k => (wts r k, r.total ^ (k + 1))
theorem wts_length (r : Rg) (hr : r.Right) : ∀ k, (wts r k).length = 5
  | 0 => by
    have h1 := hr.first
    have h2 := hr.d2
    simp [wts]
    omega
  | k + 1 => by rw [wts, afterS, afterP_length]
theorem wts_bd0 (r : Rg) (hr : r.Right) : ∀ k, ∀ x ∈ wts r k, 0 ≤ x ∧ x ≤ 12 * 60 ^ k
  | 0 => by
    intro x hx
    simp only [wts, List.mem_append] at hx
    rcases hx with hx | hx
    · have := hr.chance x hx
      have := hr.total
      simp
      omega
    · have h1 := List.eq_of_mem_replicate (List.mem_of_mem_drop hx)
      subst h1
      simp
  | k + 1 => by
    intro x hx
    have hp : (0 : Int) ≤ 12 * 60 ^ k := Int.mul_nonneg (by omega) (Int.pow_nonneg (by omega))
    have h1 := afterP_bd hr hp (wts_bd0 r hr k) r.next.length x hx
    have h2 := hr.next
    have h3 := hr.d2
    have h4 : 12 * (60 : Int) ^ (k + 1) = (12 * 60 ^ k) * 12 * 5 := by rw [Int.pow_succ]; omega
    have h5 : (12 * (60 : Int) ^ k) * 12 * (r.next.length : Int) ≤ (12 * 60 ^ k) * 12 * 5 := Int.mul_le_mul_of_nonneg_left (by omega) (by omega)
    omega
theorem wts_bd (r : Rg) (hr : r.Right) (k : Nat) (hk : k ≤ 4) : ∀ x ∈ wts r k, 0 ≤ x ∧ x ≤ 1000000000 := by
  intro x hx
  have h := wts_bd0 r hr k x hx
  have : k = 0 ∨ k = 1 ∨ k = 2 ∨ k = 3 ∨ k = 4 := by omega
  rcases this with rfl | rfl | rfl | rfl | rfl <;> simp at h <;> omega
theorem tot_bd (r : Rg) (hr : r.Right) : ∀ k, 1 ≤ r.total ^ k ∧ r.total ^ k ≤ 12 ^ k
  | 0 => by simp
  | k + 1 => by
    have h1 := tot_bd r hr k
    have h2 := hr.total
    have h3 := mul_bd0 (show 0 ≤ r.total ^ k ∧ r.total ^ k ≤ 12 ^ k by omega) (show 0 ≤ r.total ∧ r.total ≤ 12 by omega)
    have h4 : r.total ^ k * 1 ≤ r.total ^ k * r.total := Int.mul_le_mul_of_nonneg_left h2.1 (by omega)
    rw [Int.pow_succ, Int.pow_succ]
    omega
theorem tot_bd6 (r : Rg) (hr : r.Right) (k : Nat) (hk : k ≤ 9) : 1 ≤ r.total ^ k ∧ r.total ^ k ≤ 5159780352 := by
  have h1 := tot_bd r hr k
  have : k = 0 ∨ k = 1 ∨ k = 2 ∨ k = 3 ∨ k = 4 ∨ k = 5 ∨ k = 6 ∨ k = 7 ∨ k = 8 ∨ k = 9 := by omega
  rcases this with rfl | rfl | rfl | rfl | rfl | rfl | rfl | rfl | rfl | rfl <;> simp at h1 ⊢ <;> omega

theorem shotL_split (r : Rg) (k : Nat) (hk : k < 5) : shotL r = (shotL r).take k ++ (wts r k, r.total ^ (k + 1)) :: (shotL r).drop (k + 1) := by
  have h : k < (shotL r).length := by simp [shotL]; omega
  have e : (shotL r)[k] = (wts r k, r.total ^ (k + 1)) := by simp [shotL]
  rw [← e, ← List.drop_eq_getElem_cons h, List.take_append_drop]
theorem shotL_take (r : Rg) (k : Nat) (hk : k < 5) : (shotL r).take (k + 1) = (shotL r).take k ++ [(wts r k, r.total ^ (k + 1))] := by
  have h : k < (shotL r).length := by simp [shotL]; omega
  rw [List.take_succ_eq_append_getElem h]
  simp [shotL]

theorem u22 : Tryz.prog.underlying 22 = some (.slice 3) := by kernel_rfl
theorem sz3 : (Tryz.prog.info? 3).map (·.size) = some 1 := by kernel_rfl

def encS (x : List Int × Int) : List Value := [.agg (ints x.1).toArray, .int .i64 x.2]

set_option maxHeartbeats 1000000 in
theorem shots_it (w0 w : World) (D : Nat → Prop) (b bd : Nat) (r : Rg) (hdk : DkAt w0 b r) (hr : r.Right) (h0 : ∀ w', ChgP D w w' → Chg [] w0 w')
    {t1 : TypeId} (hbd : Blk w bd [.pointer (some ⟨b, 0, none⟩)] t1) (hDd : ¬ D bd) :
    ItOk Tryz.prog 127 [.pointer (some ⟨bd, 0, none⟩)] encS (shotL r) w D := by
  intro fv σ L I E s0 hI0 hLD hsat hcb
  have hdk0 := hdk
  obtain ⟨cs, bt, hblk, lo, hi, ag, cg, ad, cd, af, cf, an, cn, rfl, hg, hdr, hf, hn⟩ := hdk
  have hm : ∀ w', ChgP (DL (L s0)) w w' → ChgP D w w' := fun w' hc => ⟨hc.os, hc.tape, hc.output, hc.size, fun k hk hk2 => hc.block k hk (fun h => hk2 (hLD k h))⟩
  have hP1 : ∀ w', ChgP (DL (L s0)) w w' → Blk w' bd [.pointer (some ⟨b, 0, none⟩)] t1 := fun w' hc => (hc.block bd hbd.lt (fun h => hDd (hLD bd h))).trans hbd
  have hP3 : ∀ w', ChgP (DL (L s0)) w w' → Blk w' b _ bt := fun w' hc => hblk.keep (h0 w' (hm w' hc))
  clear hblk
  have hfl := hr.first
  have hd1 := hr.d1
  have hd2 := hr.d2
  have htot := hr.total
  have hpow1 : some (Value.int .i64 r.total) = some (.int .i64 (r.total ^ (0 + 1))) := by rw [Int.pow_succ, Int.pow_zero, Int.one_mul]
  refine q_of (H := [un (L s0)]) (Sat.un1.2 hsat) Tryz.func127 rfl (by simp [Tryz.ntmps127]) ?_
  (refine q_seq ?_; refine q_region ?_)
  refine ql_alloc zero158 rfl (fun b3 => ?_)
  (refine q_nil ?_; refine q_seq ?_)
  refine q_draw _ [.pt b3 _ _] (Sp.cons (by repeat constructor) (Sp.refl _)) (by kernel_rfl) (by kernel_rfl) ?_
  refine qf_slA w_arr rfl rfl ?_
  (refine qf_loadG tabOk rfl rfl rfl (by assumption) (by rfl) ?_; (iterate 3 refine qf_pure tabOk rfl rfl rfl ?_); refine qf_loadG tabOk rfl rfl rfl (by assumption) (by rfl) ?_)
  refine qf_copyI (l := r.first) (L := List.replicate 5 0) u22 sz3 rfl rfl rfl (by repeat constructor) (by simp) (by omega) (by omega) rfl (fun w' hs => RdE.keep hf (h0 w' (hm w' hs.chg))) ?_
  (refine qf_nil ?_; refine q_seq ?_; refine q_region ?_; refine ql_loadG tabOk rfl rfl rfl (by assumption) (by rfl) ?_; (iterate 3 refine ql_pure tabOk rfl rfl ?_); refine ql_loadG tabOk rfl rfl rfl (by assumption) (by rfl) ?_; refine ql_pure tabOk rfl rfl ?_; refine q_nil ?_; refine q_seq ?_; refine q_region ?_; refine ql_pure tabOk rfl rfl ?_; refine q_nil ?_; refine q_block ?_)
  refine q_loop (σ := Nat × σ) (fun s => s.1 ≤ 5 ∧ I ((shotL r).take s.1) s.2) (fun s => 5 - s.1) (fun s => [(0, fv), (1, .pointer (some ⟨bd, 0, none⟩)), (3, .pointer (some ⟨b3, 0, none⟩)), (4, .int .i64 (r.total ^ (s.1 + 1))), (17, .int .i64 s.1)])
    (fun s => [.pt b3 (ints (wts r s.1)) 158, un (L s.2)]) (0, s0) ⟨by omega, hI0⟩ ⟨rfl, rfl, rfl, hpow1, rfl, trivial⟩ (by repeat (first | exact Sp.nil | exact Sp.refl _ | refine Sp.cons (by repeat constructor) ?_)) ?_
  rintro ⟨k, s⟩ ⟨hk, hI⟩ K hK
  simp only at hk hI
  have hwl := wts_length r hr k
  (refine q_seq ?_; refine q_region ?_; refine ql_pure tabOk rfl rfl ?_; refine q_nil ?_; refine q_seq ?_)
  refine q_if rfl (fun hc => ?_) (fun hc => ?_)
  · have hk5 : k < 5 := by simp only at hc; omega
    clear hc
    have htk := tot_bd6 r hr (k + 1) (by omega)
    have htk2 := tot_bd6 r hr (k + 2) (by omega)
    rw [Int.pow_succ] at htk2
    have hwb := wts_bd r hr k (by omega)
    have hp2 : some (Value.int .i64 (IntKind.i64.wrap (r.total ^ (k + 1) * r.total))) = some (.int .i64 (r.total ^ (k + 1 + 1))) := by rw [Int.pow_succ r.total (k + 1), w64 (by omega) (by omega)]
    (refine q_skip ?_; refine q_seq ?_; refine q_block ?_; (iterate 2 refine q_seq ?_); refine q_region ?_; refine ql_pure tabOk rfl rfl ?_)
    refine ql_loadAB (us := ints (wts r k)) tabOk rfl rfl rfl (by repeat first | exact .head _ | refine .tail _ ?_) (by rw [List.drop_zero]; exact List.take_of_length_le (by simp [hwl])) (by simp [hwl]) ?_
    (refine ql_pure tabOk rfl rfl ?_)
    refine ql_callF [un (L s)] [.pt b3 (ints (wts r k)) 158] (DL (L s)) rfl rfl rfl (by repeat (first | exact Sp.nil | exact Sp.refl _ | refine Sp.cons (by repeat constructor) ?_)) (fun b hb => ⟨_, .head _, hb⟩) (yieldF hcb (shotL_split r k hk5) hI) ?_
    rintro s' v (⟨rfl, hI'⟩ | ⟨rfl, hE⟩)
    · (refine ql_pure tabOk rfl rfl ?_; refine q_nil ?_; refine q_cond_false rfl ?_; refine q_skip ?_)
      refine q_drawS 3 _ [.pt b3 _ _] (Sp.cons (by repeat constructor) (Sp.refl _)) (by kernel_rfl) (by kernel_rfl) (by kernel_rfl) fun K1 hK1 => ?_
      (refine qf_loadG tabOk rfl rfl rfl (by assumption) (by rfl) ?_)
      refine qf_loadAB (us := ints (wts r k)) tabOk rfl rfl rfl (by repeat first | exact .head _ | refine .tail _ ?_) (by rw [List.drop_zero]; exact List.take_of_length_le (by simp [hwl])) (by simp [hwl]) ?_
      refine qf_callv (val := .agg (ints (afterS r (wts r k))).toArray) tabOk rfl rfl rfl rfl (fun w hs => ?_) ?_; exact after_ca w b r (wts r k) (hdk0.keep (h0 w (hm w hs.chg))) hr hwl hwb
      (refine qf_nil ?_)
      refine hK1 _ _ [.pt b3 _ _] (Sp.cons (by repeat constructor) ((by repeat (first | exact Sp.nil | exact Sp.refl _ | refine Sp.cons (by repeat constructor) ?_)))) ?_
      (refine qf_pure tabOk rfl rfl rfl ?_; refine qf_loadG tabOk rfl rfl rfl (by assumption) (by rfl) ?_; (iterate 3 refine qf_pure tabOk rfl rfl rfl ?_); refine qf_loadG tabOk rfl rfl rfl (by assumption) (by rfl) ?_; refine qf_pure tabOk rfl rfl rfl ?_)
      refine qf_setA (us := ints (afterS r (wts r k))) tabOk rfl rfl rfl (by simp [afterS, afterP_length]) (by simp [oneV]) (by repeat constructor) (by simp [hwl]) ?_
      (refine qf_pure tabOk rfl rfl rfl ?_; refine qf_nil ?_; refine q_blk ?_; refine q_region ?_; refine ql_ar tabOk rfl rfl rfl rfl (by omega) (by omega) ?_; refine ql_pure tabOk rfl rfl ?_; refine q_nil ?_)
      exact hK (k + 1, s') _ _ ⟨by simp only; omega, by simp only; rw [shotL_take r k hk5]; exact hI'⟩ (by simp only; omega) ⟨rfl, rfl, rfl, hp2, rfl, trivial⟩ (by repeat (first | exact Sp.nil | exact Sp.refl _ | refine Sp.cons (by repeat constructor) ?_))
    · (refine ql_pure tabOk rfl rfl ?_; refine q_nil ?_; refine q_cond_true rfl ?_; refine q_ret ?_)
      refine q_fin tabOk rfl (by repeat (first | exact RVs.nil | apply RVs.tmp rfl | apply RVs.cellA rfl rfl (by repeat first | exact .head _ | refine .tail _ ?_) (by rfl) | apply RVs.cell1 rfl rfl (by repeat first | exact .head _ | refine .tail _ ?_))) fun w hs => ?_
      exact ⟨s', .inr hE, Sat.un1.1 (hs.sp (by repeat (first | exact Sp.nil | exact Sp.refl _ | refine Sp.cons (by repeat constructor) ?_)))⟩
  · obtain rfl : k = 5 := by simp only at hc; omega
    (refine q_exit _ rfl ?_)
    refine q_end tabOk rfl (by repeat (first | exact RVs.nil | apply RVs.tmp rfl | apply RVs.cellA rfl rfl (by repeat first | exact .head _ | refine .tail _ ?_) (by rfl) | apply RVs.cell1 rfl rfl (by repeat first | exact .head _ | refine .tail _ ?_))) fun w hs => ?_
    exact ⟨s, .inl (by rwa [List.take_of_length_le (by simp [shotL])] at hI), Sat.un1.1 (hs.sp (by repeat (first | exact Sp.nil | exact Sp.refl _ | refine Sp.cons (by repeat constructor) ?_)))⟩

theorem shots_ca (w : World) (b : Nat) : Ca Tryz.prog 110 [.pointer (some ⟨b, 0, none⟩)] w fun v w' =>
    ∃ x : Nat, v = .func (.func 127) #[] #[.pointer (some ⟨x, 0, none⟩)] ∧ Sat w M0 [.pt x [.pointer (some ⟨b, 0, none⟩)] 84] w' := by
  refine q_of (Sat.nil w M0) Tryz.func110 rfl (by simp [Tryz.ntmps110]) ?_
  (refine q_seq ?_; refine q_region ?_)
  refine ql_box rfl rfl (fun b1 => ?_)
  (refine ql_pure tabOk rfl rfl ?_; refine q_nil ?_; refine q_seq ?_; refine q_region ?_; (iterate 2 refine ql_pure tabOk rfl rfl ?_); refine q_nil ?_; refine q_ret ?_)
  refine q_fin tabOk rfl (by repeat (first | exact RVs.nil | apply RVs.tmp rfl | apply RVs.cellA rfl rfl (by repeat first | exact .head _ | refine .tail _ ?_) (by rfl) | apply RVs.cell1 rfl rfl (by repeat first | exact .head _ | refine .tail _ ?_))) fun w hs => ?_
  exact ⟨b1, rfl, hs⟩

end Go.Proofs.YtohlillcaadidaaGreat

/- Walks: the misses to be expected. -/
namespace Go.Proofs.YtohlillcaadidaaGreat
open Go Go.Eng

def sumR (f : Nat → Int) : Nat → Int
  | 0 => 0
  | n + 1 => sumR f n + f n
theorem sumR_eq (f : Nat → Int) : ∀ n, ((List.range n).map f).sum = sumR f n
  | 0 => rfl
  | n + 1 => by rw [List.range_succ, List.map_append, List.sum_append, sumR_eq f n, sumR]; simp
theorem sumR_add (f g : Nat → Int) : ∀ n, sumR (fun i => f i + g i) n = sumR f n + sumR g n
  | 0 => rfl
  | n + 1 => by rw [sumR, sumR, sumR, sumR_add f g n]; omega
theorem sumR_mul (c : Int) (g : Nat → Int) : ∀ n, sumR (fun i => c * g i) n = c * sumR g n
  | 0 => by simp [sumR]
  | n + 1 => by rw [sumR, sumR, sumR_mul c g n, Int.mul_add]
theorem sumR_front (f : Nat → Int) : ∀ n, sumR f (n + 1) = f 0 + sumR (fun i => f (i + 1)) n
  | 0 => by simp [sumR]
  | n + 1 => by rw [sumR, sumR_front f n, sumR]; omega
theorem sumR_zero (f : Nat → Int) : ∀ n, (∀ i, i < n → f i = 0) → sumR f n = 0
  | 0, _ => rfl
  | n + 1, h => by rw [sumR, sumR_zero f n (fun i hi => h i (by omega)), h n (by omega)]; rfl
theorem sumR_getD : ∀ (l : List Int) n, l.length ≤ n → sumR (fun i => l.getD i 0) n = l.sum
  | [], n, _ => by rw [sumR_zero]; rfl; intro i _; simp
  | x :: l, 0, h => by simp at h
  | x :: l, n + 1, h => by
    rw [sumR_front, List.sum_cons]
    have := sumR_getD l n (by simpa using h)
    simp at this ⊢
    omega
theorem sumR_mono (f g : Nat → Int) : ∀ n, (∀ i, i < n → f i ≤ g i) → sumR f n ≤ sumR g n
  | 0, _ => by simp [sumR]
  | n + 1, h => by
    have h1 := sumR_mono f g n (fun i hi => h i (by omega))
    have h2 := h n (by omega)
    rw [sumR, sumR]
    omega
theorem sumR_up (f : Nat → Int) (h : ∀ i, 0 ≤ f i) {n m : Nat} (hnm : n ≤ m) : sumR f n ≤ sumR f m := by
  induction m with
  | zero => obtain rfl : n = 0 := by omega
            simp
  | succ m ih =>
    by_cases e : n = m + 1
    · subst e; simp
    · have := ih (by omega)
      have := h m
      rw [sumR]
      omega
theorem sumR_nonneg (f : Nat → Int) (h : ∀ i, 0 ≤ f i) : ∀ n, 0 ≤ sumR f n
  | 0 => by simp [sumR]
  | n + 1 => by have := sumR_nonneg f h n; have := h n; rw [sumR]; omega

theorem addRow_sum (out : List Int) (c : Int) (row : List Int) (h : row.length ≤ out.length) : (addRow out c row).sum = out.sum + c * row.sum := by
  rw [addRow, sumR_eq, sumR_add, sumR_mul, sumR_getD out _ (Nat.le_refl _), sumR_getD row _ h]

theorem afterP_sum (r : Rg) (hr : r.Right) (ws : List Int) : ∀ k, k ≤ r.next.length → (afterP r ws k).sum = sumR (fun s => ws.getD s 0) k * r.total
  | 0, _ => by simp [afterP, sumR]
  | k + 1, h => by
    have hk : k < r.next.length := by omega
    have e : r.next.getD k [] = r.next[k] := by simp [hk]
    have h1 := hr.rows _ (List.getElem_mem hk)
    have h2 := hr.nsum _ (List.getElem_mem hk)
    have h3 := hr.d2
    rw [afterP, addRow_sum _ _ _ (by rw [afterP_length, e]; omega), afterP_sum r hr ws k (by omega), sumR, Int.add_mul, e, h2]

theorem wts_sum (r : Rg) (hr : r.Right) : ∀ k, (wts r k).sum ≤ r.total ^ (k + 1)
  | 0 => by
    have h : (wts r 0).sum = r.first.sum := by
      have hz : ∀ n, (List.replicate n (0 : Int)).sum = 0 := fun n => by induction n <;> simp_all [List.replicate_succ]
      rw [wts, List.sum_append, List.drop_replicate, hz, Int.add_zero]
    rw [h, hr.fsum, Int.pow_succ, Int.pow_zero, Int.one_mul]
    exact Int.le_refl _
  | k + 1 => by
    have h1 := wts_sum r hr k
    have h0 := wts_length r hr k
    have hd2 := hr.d2
    have hn := hr.next
    have ht := hr.total
    have h2 : sumR (fun s => (wts r k).getD s 0) r.next.length ≤ (wts r k).sum := by
      rw [← sumR_getD (wts r k) 5 (by omega)]
      refine sumR_up _ (fun i => ?_) (by omega)
      by_cases hi : i < (wts r k).length
      · simp only [List.getD_eq_getElem?_getD, List.getElem?_eq_getElem hi, Option.getD_some]
        exact (wts_bd0 r hr k _ (List.getElem_mem hi)).1
      · simp [List.getElem?_eq_none (Nat.le_of_not_lt hi)]
    rw [wts, afterS, afterP_sum r hr (wts r k) _ (Nat.le_refl _), Int.pow_succ]
    exact Int.mul_le_mul_of_nonneg_right (by omega) (by omega)

/-- The misses at a shot, by the first n states. -/
def mulN (r : Rg) (click : Int) (ws : List Int) (n : Nat) : Int := sumR (fun s => ws.getD s 0 * missS r (r.drifts.getD s 0) click) n
theorem wts_getD (r : Rg) (hr : r.Right) (k i : Nat) : 0 ≤ (wts r k).getD i 0 := by
  by_cases hi : i < (wts r k).length
  · simp only [List.getD_eq_getElem?_getD, List.getElem?_eq_getElem hi, Option.getD_some]
    exact (wts_bd0 r hr k _ (List.getElem_mem hi)).1
  · simp [List.getElem?_eq_none (Nat.le_of_not_lt hi)]
theorem mulN_bd (r : Rg) (hr : r.Right) (click : Int) (k n : Nat) (hn : n ≤ 5) : 0 ≤ mulN r click (wts r k) n ∧ mulN r click (wts r k) n ≤ r.total ^ (k + 1) * r.group.sum := by
  constructor
  · exact sumR_nonneg _ (fun i => Int.mul_nonneg (wts_getD r hr k i) (missS_bd r hr _ _).1) n
  · have hG := hr.gsum
    have h1 : mulN r click (wts r k) n ≤ sumR (fun s => r.group.sum * (wts r k).getD s 0) n := sumR_mono _ _ n (fun i _ => by
      rw [Int.mul_comm]
      exact Int.mul_le_mul_of_nonneg_right (missS_bd r hr _ _).2 (wts_getD r hr k i))
    rw [sumR_mul] at h1
    have h2 : sumR (fun s => (wts r k).getD s 0) n ≤ (wts r k).sum := by
      rw [← sumR_getD (wts r k) 5 (by rw [wts_length r hr k]; exact Nat.le_refl _)]
      exact sumR_up _ (wts_getD r hr k) hn
    have h3 := wts_sum r hr k
    have h4 : r.group.sum * sumR (fun s => (wts r k).getD s 0) n ≤ r.group.sum * r.total ^ (k + 1) := Int.mul_le_mul_of_nonneg_left (by omega) (by omega)
    rw [Int.mul_comm (r.total ^ (k + 1))]
    omega

def expStep (r : Rg) (click : Int) (s : Int × Int) (x : List Int × Int) : Int × Int := (s.1 * r.total + mulN r click x.1 r.drifts.length, x.2)
def expP (r : Rg) (click : Int) (k : Nat) : Int × Int := ((shotL r).take k).foldl (expStep r click) (0, 1)
theorem expP_succ (r : Rg) (click : Int) (k : Nat) (hk : k < 5) : expP r click (k + 1) = ((expP r click k).1 * r.total + mulN r click (wts r k) r.drifts.length, r.total ^ (k + 1)) := by
  rw [expP, shotL_take r k hk, List.foldl_append]
  rfl
theorem expP_bd (r : Rg) (hr : r.Right) (click : Int) : ∀ k, k ≤ 5 → 0 ≤ (expP r click k).1 ∧ (expP r click k).1 ≤ r.total ^ k * r.group.sum * k ∧ (expP r click k).2 = r.total ^ k
  | 0, _ => by simp [expP]
  | k + 1, h => by
    obtain ⟨h1, h2, h3⟩ := expP_bd r hr click k (by omega)
    have h4 := mulN_bd r hr click k r.drifts.length hr.d2
    have ht := hr.total
    rw [expP_succ r click k (by omega)]
    have h5 : (expP r click k).1 * r.total ≤ r.total ^ k * r.group.sum * k * r.total := Int.mul_le_mul_of_nonneg_right h2 (by omega)
    have h6 : r.total ^ (k + 1) * r.group.sum * ((k + 1 : Nat) : Int) = r.total ^ k * r.group.sum * k * r.total + r.total ^ (k + 1) * r.group.sum := by
      rw [Int.natCast_add, Int.mul_add, Int.pow_succ]
      congr 1
      · rw [Int.mul_right_comm (r.total ^ k) r.total, Int.mul_right_comm _ r.total]
      · simp
    have h7 : 0 ≤ (expP r click k).1 * r.total := Int.mul_nonneg h1 (by omega)
    refine ⟨by simp only; omega, by simp only; omega, rfl⟩
/-- The misses to be expected with a click. -/
def expV (r : Rg) (click : Int) : Int × Int := ratioV (expP r click 5).1 (r.total ^ 5 * r.group.sum)

end Go.Proofs.YtohlillcaadidaaGreat

/- Walks: the misses to be expected with a click. -/
namespace Go.Proofs.YtohlillcaadidaaGreat
open Go Go.Eng

theorem shotL_mem (r : Rg) {pre post : List (List Int × Int)} {x : List Int × Int} (h : shotL r = pre ++ x :: post) : pre.length < 5 ∧ pre = (shotL r).take pre.length ∧ x = (wts r pre.length, r.total ^ (pre.length + 1)) := by
  have hl : (shotL r).length = 5 := by simp [shotL]
  have hk : pre.length < 5 := by rw [h] at hl; simp at hl; omega
  refine ⟨hk, by rw [h]; simp, ?_⟩
  have h1 : (shotL r)[pre.length]? = some x := by rw [h]; simp
  have h2 : (shotL r)[pre.length]? = some (wts r pre.length, r.total ^ (pre.length + 1)) := by simp [shotL, hk]
  rw [h1] at h2
  exact Option.some.inj h2

theorem expP_num (r : Rg) (hr : r.Right) (click : Int) (k : Nat) (hk : k ≤ 5) : 0 ≤ (expP r click k).1 ∧ (expP r click k).1 ≤ 124416000 ∧ (expP r click k).2 = r.total ^ k ∧ 1 ≤ r.total ^ k ∧ r.total ^ k ≤ 248832 := by
  obtain ⟨h1, h2, h3⟩ := expP_bd r hr click k hk
  have h4 := tot_bd r hr k
  have h5 : (12 : Int) ^ k ≤ 248832 := by
    have : k = 0 ∨ k = 1 ∨ k = 2 ∨ k = 3 ∨ k = 4 ∨ k = 5 := by omega
    rcases this with rfl | rfl | rfl | rfl | rfl | rfl <;> simp
  have hg := hr.gsum
  have h6 := mul_bd0 (show 0 ≤ r.total ^ k ∧ r.total ^ k ≤ 248832 by omega) (show 0 ≤ r.group.sum ∧ r.group.sum ≤ 100 by omega)
  have h7 := mul_bd0 (show 0 ≤ r.total ^ k * r.group.sum ∧ r.total ^ k * r.group.sum ≤ 24883200 by omega) (show 0 ≤ (k : Int) ∧ (k : Int) ≤ 5 by omega)
  exact ⟨h1, by omega, h3, h4.1, by omega⟩
theorem mulN_num (r : Rg) (hr : r.Right) (click : Int) (k n : Nat) (hk : k < 5) (hn : n ≤ 5) : 0 ≤ mulN r click (wts r k) n ∧ mulN r click (wts r k) n ≤ 24883200 := by
  have h1 := mulN_bd r hr click k n hn
  have h2 := expP_num r hr click (k + 1) (by omega)
  have hg := hr.gsum
  have h6 := mul_bd0 (show 0 ≤ r.total ^ (k + 1) ∧ r.total ^ (k + 1) ≤ 248832 by omega) (show 0 ≤ r.group.sum ∧ r.group.sum ≤ 100 by omega)
  omega
theorem mulN_succ (r : Rg) (click : Int) (ws : List Int) (n : Nat) (hn : n < r.drifts.length) (hw : n < ws.length) : mulN r click ws (n + 1) = mulN r click ws n + ws[n] * missS r r.drifts[n] click := by
  simp [mulN, sumR, List.getElem?_eq_getElem hn, List.getElem?_eq_getElem hw]

set_option maxHeartbeats 1000000 in
theorem expected_ca (w : World) (b : Nat) (r : Rg) (click : Int) (hdk : DkAt w b r) (hr : r.Right) (hck : -1000 ≤ click ∧ click ≤ 1000) :
    Ca Tryz.prog 87 [.pointer (some ⟨b, 0, none⟩), .int .i64 click] w fun v w' => v = rtV (expV r click) ∧ Chg [] w w' := by
  have hdk0 := hdk
  obtain ⟨cs, bt, hblk, lo, hi, ag, cg, ad, cd, af, cf, an, cn, rfl, hg, hdr, hf, hn⟩ := hdk
  have hd1 := hr.d1
  have hd2 := hr.d2
  have htot := hr.total
  have hgs := hr.gsum
  obtain ⟨_, _, hsl, hsd⟩ := RdI.outI hdr
  cases hsl
  obtain ⟨b0, off, rfl⟩ := hsd (by omega)
  refine q_ofM (Sat.nil w M0) Tryz.func87 rfl (by simp [Tryz.ntmps87]) ?_
  (refine q_seq ?_; refine q_region ?_)
  refine ql_box rfl rfl (fun b2 => ?_)
  refine ql_box rfl rfl (fun b3 => ?_)
  refine ql_alloc zero36 rfl (fun b4 => ?_)
  (refine q_nil ?_; refine q_seq ?_; refine q_region ?_)
  refine ql_alloc zero3 rfl (fun b5 => ?_)
  refine ql_alloc zero3 rfl (fun b6 => ?_)
  ((iterate 2 refine ql_set tabOk rfl rfl rfl rfl (by repeat constructor) ?_); refine q_nil ?_; (iterate 2 refine q_seq ?_); refine q_region ?_; refine ql_loadB tabOk rfl rfl rfl (by repeat first | exact .head _ | refine .tail _ ?_) (by rfl) ?_)
  refine ql_call (β := Nat) tabOk [] _ M0 rfl rfl rfl rfl (Sp.refl _) (fun _ h => h.elim) (fun w' hs => shots_ca w' b) ?_
  rintro bd _ rfl
  (refine q_nil ?_; refine q_block ?_)
  refine q_range encS (Int × Int) (shotL r) (fun pre s => s = expP r click pre.length) (fun _ _ => False)
    (fun s => [.pt b6 [.int .i64 s.2] 3, .pt b5 [.int .i64 s.1] 3]) [.pt bd [.pointer (some ⟨b, 0, none⟩)] 84, .pt b4 [.int .i64 0, .int .i64 0] 36, .pt b3 [.int .i64 click] 3, .pt b2 [.pointer (some ⟨b, 0, none⟩)] 84] (0, 1)
    rfl (by kernel_rfl) rfl (fun _ _ => rfl) rfl (by repeat (first | exact Sp.nil | exact Sp.refl _ | refine Sp.cons (by repeat constructor) ?_)) ?_ ?_ ?_ (fun _ _ _ h => h.elim)
  · intro w1 D hs hD
    exact shots_it w w1 D b bd r hdk0 hr (fun w' hc => hs.chg0.old hc (fun k hk => (hD k hk).2.resolve_left (fun h => h))) (hs.blk (by repeat first | exact .head _ | refine .tail _ ?_)) (fun h => (hD _ h).1 ⟨.pt bd [.pointer (some ⟨b, 0, none⟩)] _, (by repeat first | exact .head _ | refine .tail _ ?_), rfl⟩)
  · intro pre x post s w1 l rdy bsy K F' hx hI hsat hR hbegin hend hret hexit
    obtain ⟨hk5, hpre, rfl⟩ := shotL_mem r hx
    generalize hkk : pre.length = kk at *
    subst hI
    have hwl := wts_length r hr kk
    have hwb := wts_bd r hr kk (by omega)
    (refine q_seq ?_; refine q_region ?_)
    refine ql_alloc zero158 rfl (fun b7 => ?_)
    skip
    refine ql_setA (us := ints (wts r kk)) tabOk rfl rfl rfl (by simp [hwl]) (by simp [oneV]) (by repeat constructor) (by rfl) ?_
    (refine q_nil ?_; refine q_region ?_; refine ql_pure tabOk rfl rfl ?_; refine q_nil ?_)
    refine q_keep [(8, .int .i64 (r.total ^ (kk + 1))), (7, .pointer (some ⟨b7, 0, none⟩)), (6, .pointer (some ⟨b6, 0, none⟩)), (5, .pointer (some ⟨b5, 0, none⟩)), (3, .pointer (some ⟨b3, 0, none⟩)), (2, .pointer (some ⟨b2, 0, none⟩))] (rdy :: [.pt b7 (ints (wts r kk)) 158, .pt b6 [.int .i64 (expP r click kk).2] 3, .pt b5 [.int .i64 (expP r click kk).1] 3]) ⟨rfl, rfl, rfl, rfl, rfl, rfl, trivial⟩ (by repeat (first | exact Sp.nil | exact Sp.refl _ | refine Sp.cons (by repeat constructor) ?_)) (hbegin _ _ ?_)
    have hB2 : ∀ w', ChgP (DL (rdy :: [.pt b6 [.int .i64 (expP r click kk).2] 3, .pt b5 [.int .i64 (expP r click kk).1] 3])) w1 w' → Blk w' b2 [.pointer (some ⟨b, 0, none⟩)] 84 := fun w' hc => (hR w' hc).blk (by repeat first | exact .head _ | refine .tail _ ?_)
    have hB3 : ∀ w', ChgP (DL (rdy :: [.pt b6 [.int .i64 (expP r click kk).2] 3, .pt b5 [.int .i64 (expP r click kk).1] 3])) w1 w' → Blk w' b3 [.int .i64 click] 3 := fun w' hc => (hR w' hc).blk (by repeat first | exact .head _ | refine .tail _ ?_)
    have hP3 : ∀ w', ChgP (DL (rdy :: [.pt b6 [.int .i64 (expP r click kk).2] 3, .pt b5 [.int .i64 (expP r click kk).1] 3])) w1 w' → Blk w' b _ bt := fun w' hc => hblk.keep (hR w' hc).chg0
    clear hblk
    (refine q_block ?_; refine q_seq ?_; refine q_region ?_; refine ql_pure tabOk rfl rfl ?_; refine q_nil ?_; (iterate 2 refine q_seq ?_); refine q_region ?_; refine ql_loadG tabOk rfl rfl rfl (by assumption) (by rfl) ?_; (iterate 3 refine ql_pure tabOk rfl rfl ?_); refine ql_loadG tabOk rfl rfl rfl (by assumption) (by rfl) ?_; (iterate 2 refine ql_pure tabOk rfl rfl ?_); refine q_nil ?_; refine q_block ?_)
    refine q_loop (σ := Nat) (fun n => n ≤ r.drifts.length) (fun n => r.drifts.length - n) (fun n => [(22, .int .i64 n), (21, .int .i64 r.drifts.length), (20, .slice (some ⟨b0, off, none⟩) r.drifts.length cd), (9, .int .i64 (mulN r click (wts r kk) n)), (8, .int .i64 (r.total ^ (kk + 1))), (7, .pointer (some ⟨b7, 0, none⟩)), (6, .pointer (some ⟨b6, 0, none⟩)), (5, .pointer (some ⟨b5, 0, none⟩)), (3, .pointer (some ⟨b3, 0, none⟩)), (2, .pointer (some ⟨b2, 0, none⟩))])
      (fun _ => [bsy, .pt b7 (ints (wts r kk)) 158, .pt b6 [.int .i64 (expP r click kk).2] 3, .pt b5 [.int .i64 (expP r click kk).1] 3]) 0 (by omega) ⟨rfl, rfl, rfl, rfl, rfl, rfl, rfl, rfl, rfl, rfl, trivial⟩ (Sp.refl _) ?_
    intro n hn K2 hK2
    have hm1 := mulN_num r hr click kk n hk5 (by omega)
    (refine q_seq ?_; refine q_region ?_; refine ql_pure tabOk rfl rfl ?_; refine q_nil ?_; refine q_seq ?_)
    refine q_if rfl (fun hc => ?_) (fun hc => ?_)
    · have hn2 : n < r.drifts.length := by omega
      have hnw : n < (wts r kk).length := by omega
      have hdrift := hr.drift r.drifts[n] (List.getElem_mem hn2)
      have hms := missS_bd r hr r.drifts[n] click
      have hmx := mulN_succ r click (wts r kk) n hn2 hnw
      have hwx := hwb (wts r kk)[n] (List.getElem_mem hnw)
      have hpr := mul_bd0 hwx (show 0 ≤ missS r r.drifts[n] click ∧ missS r r.drifts[n] click ≤ 100 by omega)
      (refine q_skip ?_; refine q_seq ?_; refine q_block ?_; refine q_seq ?_; refine q_region ?_; refine ql_pure tabOk rfl rfl ?_)
      (refine ql_index tabOk rfl rfl rfl rfl rfl (by omega) (by omega) ?_; refine ql_load1 tabOk rfl rfl rfl (fun w hs => RdI.at (RdE.keep hdr (hR _ hs.chg).chg0) n hn2) ?_)
      ((iterate 2 refine ql_pure tabOk rfl rfl ?_); refine q_nil ?_)
      refine q_draw _ [] (Sp.refl _) (by kernel_rfl) (by kernel_rfl) ?_
      ((iterate 2 refine qf_pure tabOk rfl rfl rfl ?_))
      refine qf_indexA w_arr rfl rfl rfl (by omega) (by omega) ?_
      refine qf_loadI tabOk (n) rfl rfl rfl (by repeat first | exact .head _ | refine .tail _ ?_) (by first | rfl | omega | simp) hnw ?_
      (refine qf_loadG tabOk rfl rfl rfl (by assumption) (by rfl) ?_; refine qf_pure tabOk rfl rfl rfl ?_; refine qf_loadG tabOk rfl rfl rfl (by assumption) (by rfl) ?_)
      refine qf_callv (val := .int .i64 (missS r (r.drifts[n]'hn2) click)) tabOk rfl rfl rfl rfl (fun w hs => ?_) ?_; exact missed_ca w b r (r.drifts[n]'hn2) click (hdk0.keep (hR w hs.chg).chg0) hr (by omega) (by omega)
      ((iterate 2 refine qf_ar tabOk rfl rfl rfl rfl (by omega) (by omega) ?_); refine qf_pure tabOk rfl rfl rfl ?_; refine qf_nil ?_; refine q_blk ?_; refine q_region ?_; refine ql_ar tabOk rfl rfl rfl rfl (by omega) (by omega) ?_; refine ql_pure tabOk rfl rfl ?_; refine q_nil ?_)
      have hm2 : some (Value.int .i64 (mulN r click (wts r kk) n + (wts r kk)[n] * missS r r.drifts[n] click)) = some (.int .i64 (mulN r click (wts r kk) (n + 1))) := by rw [hmx]
      exact hK2 (n + 1) _ _ (by omega) (by omega) ⟨rfl, rfl, rfl, hm2, rfl, rfl, rfl, rfl, rfl, rfl, trivial⟩ (by repeat (first | exact Sp.nil | exact Sp.refl _ | refine Sp.cons (by repeat constructor) ?_))
    · obtain rfl : n = r.drifts.length := by omega
      have he1 := expP_num r hr click kk (by omega)
      have he2 := expP_succ r click kk hk5
      have he3 := mul_bd0 (show 0 ≤ (expP r click kk).1 ∧ (expP r click kk).1 ≤ 124416000 by omega) (show 0 ≤ r.total ∧ r.total ≤ 12 by omega)
      (refine q_exit _ rfl ?_)
      refine q_drawS 9 _ [.pt b5 _ _, .pt b6 _ _] (Sp.cons (by repeat constructor) (Sp.cons (by repeat constructor) (Sp.refl _))) (by kernel_rfl) (by kernel_rfl) (by kernel_rfl) fun K1 hK1 => ?_
      (refine qf_loadB tabOk rfl rfl rfl (by repeat first | exact .head _ | refine .tail _ ?_) (by rfl) ?_; refine qf_loadG tabOk rfl rfl rfl (by assumption) (by rfl) ?_; (iterate 3 refine qf_pure tabOk rfl rfl rfl ?_); refine qf_loadG tabOk rfl rfl rfl (by assumption) (by rfl) ?_; refine qf_ar tabOk rfl rfl rfl rfl (by omega) (by omega) ?_; refine qf_pure tabOk rfl rfl rfl ?_; refine qf_ar tabOk rfl rfl rfl rfl (by omega) (by omega) ?_; refine qf_nil ?_)
      refine hK1 _ _ [.pt b5 _ _, .pt b6 _ _] (Sp.cons (by repeat constructor) (Sp.cons (by repeat constructor) ((by repeat (first | exact Sp.nil | exact Sp.refl _ | refine Sp.cons (by repeat constructor) ?_))))) ?_
      (refine qf_pure tabOk rfl rfl rfl ?_; (iterate 2 refine qf_set tabOk rfl rfl rfl rfl (by repeat constructor) ?_); refine qf_nil ?_; refine q_blk ?_)
      refine hend _ _ (expP r click (kk + 1)) (by simp [hkk]) (by rw [he2]; repeat (first | exact Sp.nil | exact Sp.refl _ | refine Sp.cons (by repeat constructor) ?_))
  · rintro D s hsx
    obtain rfl : s = expP r click 5 := by simpa [shotL] using hsx
    have he1 := expP_num r hr click 5 (by omega)
    have he3 := mul_bd0 (show 0 ≤ r.total ^ 5 ∧ r.total ^ 5 ≤ 248832 by omega) (show 0 ≤ r.group.sum ∧ r.group.sum ≤ 100 by omega)
    rw [he1.2.2.1]
    (refine q_blk ?_; refine q_seq ?_)
    refine q_draw _ [.pt b4 _ _] (Sp.cons (by repeat constructor) (Sp.refl _)) (by kernel_rfl) (by kernel_rfl) ?_
    ((iterate 3 refine qf_loadB tabOk rfl rfl rfl (by repeat first | exact .head _ | refine .tail _ ?_) (by rfl) ?_))
    refine qf_callv tabOk rfl rfl rfl rfl (fun w hs => group_ca w b r (hdk0.keep hs.chg0) hr) ?_
    (refine qf_ar tabOk rfl rfl rfl rfl (by omega) (by omega) ?_)
    (refine qf_callv tabOk rfl rfl rfl rfl (fun w hs => ratio_ca (expP r click 5).1 (r.total ^ 5 * r.group.sum) w (by omega) (by have := Int.mul_le_mul_of_nonneg_left hgs.1 (show 0 ≤ r.total ^ 5 by omega); omega) (by omega) (by omega)) ?_)
    (refine qf_setA tabOk rfl rfl rfl rfl rfl (by repeat constructor) rfl ?_; refine qf_nil ?_; refine q_ret ?_)
    refine q_finMD tabOk (by repeat constructor) rfl (by repeat (first | exact RVs.nil | apply RVs.tmp rfl | apply RVs.cellA rfl rfl (by repeat first | exact .head _ | refine .tail _ ?_) (by rfl) | apply RVs.cell1 rfl rfl (by repeat first | exact .head _ | refine .tail _ ?_))) fun w hs => ?_
    exact ⟨rfl, hs.chg0⟩

end Go.Proofs.YtohlillcaadidaaGreat

/- Walks: Expected. -/
namespace Go.Proofs.YtohlillcaadidaaGreat
open Go Go.Eng

theorem ratioV_fine {n d : Int} (hn : 0 ≤ n ∧ n ≤ 1000000000) (hd : 0 < d ∧ d ≤ 1000000000) : Fine (ratioV n d) := by
  have hg : 0 < (Int.gcd n d : Int) := by
    have : Int.gcd n d ≠ 0 := fun h => by have := (Int.gcd_eq_zero_iff.1 h).2; omega
    omega
  have h1 : (Int.gcd n d : Int) ≤ d := Int.le_of_dvd hd.1 (Int.gcd_dvd_right ..)
  refine ⟨Int.ediv_nonneg hn.1 (by omega), ?_, Int.ediv_pos_of_pos_of_dvd hd.1 (by omega) (Int.gcd_dvd_right ..), ?_⟩
  · have := Int.ediv_le_self (Int.gcd n d : Int) hn.1
    simp only [ratioV]
    omega
  · have := Int.ediv_le_self (Int.gcd n d : Int) (show 0 ≤ d by omega)
    simp only [ratioV]
    omega
theorem expV_fine (r : Rg) (hr : r.Right) (click : Int) : Fine (expV r click) := by
  have he1 := expP_num r hr click 5 (by omega)
  have hgs := hr.gsum
  have he3 := mul_bd0 (show 0 ≤ r.total ^ 5 ∧ r.total ^ 5 ≤ 248832 by omega) (show 0 ≤ r.group.sum ∧ r.group.sum ≤ 100 by omega)
  have := Int.mul_le_mul_of_nonneg_left hgs.1 (show 0 ≤ r.total ^ 5 by omega)
  exact ratioV_fine (by omega) (by omega)

/-- The misses to be expected with a click, or the error. -/
def expdV (r : Rg) (click : Int) : (Int × Int) × Int :=
  if checkV r ≠ 0 then ((0, 0), checkV r) else if !inB click (-r.clicks) r.clicks then ((0, 0), 3) else (expV r click, 0)

set_option maxHeartbeats 1000000 in
theorem expectedF_ca (w : World) (cs : List Value) (r : Rg) (click : Int) (h : RgC w cs r) (hsm : r.Small) : Ca Tryz.prog 30 [.agg cs.toArray, .int .i64 click] w fun v w' => v = .tuple #[rtV (expdV r click).1, .int .i64 (expdV r click).2] ∧ Chg [] w w' := by
  have h0 := h
  have s2 := hsm.drifts
  obtain ⟨lo, hi, ag, cg, ad, cd, af, cf, an, cn, rfl, hg, hdr, hf, hn⟩ := h
  refine q_of (Sat.nil w M0) Tryz.func30 rfl (by simp [Tryz.ntmps30]) ?_
  (refine q_seq ?_; refine q_region ?_)
  refine ql_box rfl rfl (fun b2 => ?_)
  skip
  refine ql_alloc zero36 rfl (fun b4 => ?_)
  (refine ql_pure tabOk rfl rfl ?_; refine q_nil ?_; refine q_seq ?_; refine q_region ?_; refine ql_loadAB tabOk rfl rfl rfl (by repeat first | exact .head _ | refine .tail _ ?_) (by rfl) (by rfl) ?_)
  by_cases hr : checkV r = 0
  · have hR := (right_check r).1 hr
    have hcl := hR.clicks
    refine ql_call (β := Nat) tabOk [] _ M0 rfl rfl rfl rfl (Sp.refl _) (fun _ h => h.elim) (fun w' hs => opened_ok w' _ r (h0.keep hs.chg0) hsm hr) ?_
    rintro bd _ rfl
    (refine ql_pure tabOk rfl rfl ?_; (iterate 2 refine ql_ext tabOk rfl rfl rfl ?_); (iterate 2 refine ql_pure tabOk rfl rfl ?_); refine q_nil ?_; refine q_seq ?_; refine q_block ?_; refine q_seq ?_; refine q_region ?_; (iterate 3 refine ql_pure tabOk rfl rfl ?_); refine q_nil ?_; refine q_cond_false rfl ?_; refine q_seq ?_; refine q_region ?_; (iterate 2 refine ql_pure tabOk rfl rfl ?_); refine ql_loadB tabOk rfl rfl rfl (by repeat first | exact .head _ | refine .tail _ ?_) (by rfl) ?_; refine ql_neg tabOk rfl rfl (by omega) (by omega) ?_; refine ql_pure tabOk rfl rfl ?_; refine ql_loadB tabOk rfl rfl rfl (by repeat first | exact .head _ | refine .tail _ ?_) (by rfl) ?_)
    refine ql_callv tabOk rfl rfl rfl rfl (fun w hs => in_ca click (-r.clicks) r.clicks w) ?_
    ((iterate 2 refine ql_pure tabOk rfl rfl ?_); refine q_nil ?_)
    refine q_cond rfl (fun hc => ?_) (fun hc => ?_)
    · (refine q_seq ?_; refine q_region ?_)
      refine ql_mk #[.int .i64 0, .int .i64 0] rfl (by kernel_rfl) rfl ?_
      (refine ql_setA tabOk rfl rfl rfl rfl rfl (by repeat constructor) rfl ?_; refine ql_pure tabOk rfl rfl ?_; refine q_nil ?_; refine q_ret ?_)
      refine q_fin tabOk rfl (by repeat (first | exact RVs.nil | apply RVs.tmp rfl | apply RVs.cellA rfl rfl (by repeat first | exact .head _ | refine .tail _ ?_) (by rfl) | apply RVs.cell1 rfl rfl (by repeat first | exact .head _ | refine .tail _ ?_))) fun w hs => ?_
      exact ⟨by simp at hc; simp [retV, expdV, hr, hc, rtV], hs.chg0⟩
    simp at hc
    have hck' := inB_iff.1 hc
    (refine q_skip ?_; refine q_blk ?_; refine q_seq ?_; refine q_region ?_; (iterate 2 refine ql_pure tabOk rfl rfl ?_))
    refine ql_callv (val := rtV (expV r click)) tabOk rfl rfl rfl rfl (fun w hs => ?_) ?_; exact expected_ca w bd r click ⟨_, _, hs.blk (by repeat first | exact .head _ | refine .tail _ ?_), h0.keep hs.chg0⟩ hR (by omega)
    (refine ql_setA tabOk rfl rfl rfl rfl rfl (by repeat constructor) rfl ?_; refine ql_pure tabOk rfl rfl ?_; refine q_nil ?_; refine q_ret ?_)
    refine q_fin tabOk rfl (by repeat (first | exact RVs.nil | apply RVs.tmp rfl | apply RVs.cellA rfl rfl (by repeat first | exact .head _ | refine .tail _ ?_) (by rfl) | apply RVs.cell1 rfl rfl (by repeat first | exact .head _ | refine .tail _ ?_))) fun w hs => ?_
    refine ⟨?_, hs.chg0⟩
    simp [retV, expdV, hr, hc, rtV]
  · refine ql_callv tabOk rfl rfl rfl rfl (fun w hs => opened_no w _ r (h0.keep hs.chg0) hsm hr) ?_
    (refine ql_pure tabOk rfl rfl ?_; (iterate 2 refine ql_ext tabOk rfl rfl rfl ?_); (iterate 2 refine ql_pure tabOk rfl rfl ?_); refine q_nil ?_; refine q_seq ?_; refine q_block ?_; refine q_seq ?_; refine q_region ?_; (iterate 3 refine ql_pure tabOk rfl rfl ?_); refine q_nil ?_)
    rw [decide_eq_false hr]
    (refine q_cond_true rfl ?_; refine q_seq ?_; refine q_region ?_)
    refine ql_mk #[.int .i64 0, .int .i64 0] rfl (by kernel_rfl) rfl ?_
    (refine ql_pure tabOk rfl rfl ?_; refine ql_setA tabOk rfl rfl rfl rfl rfl (by repeat constructor) rfl ?_; refine ql_pure tabOk rfl rfl ?_; refine q_nil ?_; refine q_ret ?_)
    refine q_fin tabOk rfl (by repeat (first | exact RVs.nil | apply RVs.tmp rfl | apply RVs.cellA rfl rfl (by repeat first | exact .head _ | refine .tail _ ?_) (by rfl) | apply RVs.cell1 rfl rfl (by repeat first | exact .head _ | refine .tail _ ?_))) fun w hs => ?_
    exact ⟨by simp [retV, expdV, hr, rtV], hs.chg0⟩

end Go.Proofs.YtohlillcaadidaaGreat

/- Walks: Best. -/
namespace Go.Proofs.YtohlillcaadidaaGreat
open Go Go.Eng

/-- The best click, or the error. -/
def bestV (r : Rg) : Int × (Int × Int) × Int :=
  if checkV r ≠ 0 then (0, (0, 0), checkV r) else ((bestOf (expV r) (clickL r.clicks 0)).1, (bestOf (expV r) (clickL r.clicks 0)).2, 0)

set_option maxHeartbeats 1000000 in
theorem bestF_ca (w : World) (cs : List Value) (r : Rg) (h : RgC w cs r) (hsm : r.Small) : Ca Tryz.prog 31 [.agg cs.toArray] w fun v w' => v = .tuple #[.int .i64 (bestV r).1, rtV (bestV r).2.1, .int .i64 (bestV r).2.2] ∧ Chg [] w w' := by
  have h0 := h
  obtain ⟨lo, hi, ag, cg, ad, cd, af, cf, an, cn, rfl, hg, hdr, hf, hn⟩ := h
  refine q_of (Sat.nil w M0) Tryz.func31 rfl (by simp [Tryz.ntmps31]) ?_
  (refine q_seq ?_; refine q_region ?_)
  refine ql_box rfl rfl (fun b1 => ?_)
  (refine ql_pure tabOk rfl rfl ?_)
  refine ql_alloc zero36 rfl (fun b3 => ?_)
  (refine ql_pure tabOk rfl rfl ?_; refine q_nil ?_; refine q_seq ?_; refine q_region ?_; refine ql_loadAB tabOk rfl rfl rfl (by repeat first | exact .head _ | refine .tail _ ?_) (by rfl) (by rfl) ?_)
  by_cases hr : checkV r = 0
  · have hR := (right_check r).1 hr
    have hcl := hR.clicks
    refine ql_call (β := Nat) tabOk [] _ M0 rfl rfl rfl rfl (Sp.refl _) (fun _ h => h.elim) (fun w' hs => opened_ok w' _ r (h0.keep hs.chg0) hsm hr) ?_
    rintro bd _ rfl
    (refine ql_pure tabOk rfl rfl ?_; (iterate 2 refine ql_ext tabOk rfl rfl rfl ?_); (iterate 2 refine ql_pure tabOk rfl rfl ?_); refine q_nil ?_; (iterate 2 refine q_seq ?_); refine q_region ?_; (iterate 2 refine ql_pure tabOk rfl rfl ?_); refine q_nil ?_; refine q_cond_false rfl ?_; refine q_skip ?_; refine q_seq ?_; refine q_region ?_; (iterate 3 refine ql_pure tabOk rfl rfl ?_))
    refine ql_mk #[.func (.func 87) #[.pointer (some ⟨bd, 0, none⟩)] #[]] rfl (by kernel_rfl) rfl ?_
    skip
    refine ql_callv (val := .tuple #[.int .i64 (bestOf (expV r) (clickL r.clicks 0)).1, rtV (bestOf (expV r) (clickL r.clicks 0)).2]) tabOk rfl rfl rfl rfl (fun w hs => ?_) ?_; exact best_ca w bd r (.func (.func 87) #[.pointer (some ⟨bd, 0, none⟩)] #[]) (expV r) ⟨_, _, hs.blk (by repeat first | exact .head _ | refine .tail _ ?_), h0.keep hs.chg0⟩ hcl rfl (fun c _ => expV_fine r hR c) (fun w' hc' c hcin => CaF.of tabOk (by kernel_rfl) (expected_ca w' bd r c (DkAt.keep ⟨_, _, hs.blk (by repeat first | exact .head _ | refine .tail _ ?_), h0.keep hs.chg0⟩ hc') hR (by have := inB_iff.1 hcin; omega)))
    (refine ql_pure tabOk rfl rfl ?_; (iterate 2 refine ql_ext tabOk rfl rfl rfl ?_))
    refine ql_alloc zero36 rfl (fun b8 => ?_)
    (refine ql_pure tabOk rfl rfl ?_; refine ql_setA tabOk rfl rfl rfl rfl rfl (by repeat constructor) rfl ?_; refine q_nil ?_; refine q_seq ?_)
    refine q_draw _ [.pt b3 _ _] (Sp.cons (by repeat constructor) (Sp.refl _)) (by kernel_rfl) (by kernel_rfl) ?_
    (refine qf_pure tabOk rfl rfl rfl ?_; refine qf_loadAB tabOk rfl rfl rfl (by repeat first | exact .head _ | refine .tail _ ?_) (by rfl) (by rfl) ?_; refine qf_pure tabOk rfl rfl rfl ?_; refine qf_setA tabOk rfl rfl rfl rfl rfl (by repeat constructor) rfl ?_; refine qf_pure tabOk rfl rfl rfl ?_; refine qf_nil ?_; refine q_ret ?_)
    refine q_fin tabOk rfl (by repeat (first | exact RVs.nil | apply RVs.tmp rfl | apply RVs.cellA rfl rfl (by repeat first | exact .head _ | refine .tail _ ?_) (by rfl) | apply RVs.cell1 rfl rfl (by repeat first | exact .head _ | refine .tail _ ?_))) fun w hs => ?_
    refine ⟨?_, hs.chg0⟩
    simp [retV, bestV, hr, rtV]
  · refine ql_callv tabOk rfl rfl rfl rfl (fun w hs => opened_no w _ r (h0.keep hs.chg0) hsm hr) ?_
    (refine ql_pure tabOk rfl rfl ?_; (iterate 2 refine ql_ext tabOk rfl rfl rfl ?_); (iterate 2 refine ql_pure tabOk rfl rfl ?_); refine q_nil ?_; (iterate 2 refine q_seq ?_); refine q_region ?_; (iterate 2 refine ql_pure tabOk rfl rfl ?_); refine q_nil ?_)
    rw [decide_eq_false hr]
    (refine q_cond_true rfl ?_; refine q_seq ?_; refine q_region ?_)
    refine ql_mk #[.int .i64 0, .int .i64 0] rfl (by kernel_rfl) rfl ?_
    ((iterate 2 refine ql_pure tabOk rfl rfl ?_); refine ql_setA tabOk rfl rfl rfl rfl rfl (by repeat constructor) rfl ?_; refine ql_pure tabOk rfl rfl ?_; refine q_nil ?_; refine q_ret ?_)
    refine q_fin tabOk rfl (by repeat (first | exact RVs.nil | apply RVs.tmp rfl | apply RVs.cellA rfl rfl (by repeat first | exact .head _ | refine .tail _ ?_) (by rfl) | apply RVs.cell1 rfl rfl (by repeat first | exact .head _ | refine .tail _ ?_))) fun w hs => ?_
    exact ⟨by simp [retV, bestV, hr, rtV], hs.chg0⟩

end Go.Proofs.YtohlillcaadidaaGreat

/- The engine, part B6: other pieces for the same memory. -/
namespace Go.Eng
open Go Go.RowKit

section
variable {P : Program} {T : Tab}
variable {ro : Cx} {n n' : Nat} {F : Fin} {w0 : World} {M : Nat → Prop} {k : List It} {ops : Array Oper} {rest : List Oper} {e : Env} {H H' Hq L R : List Ck}

theorem q_conv (hc : ∀ w, Sat w0 M H w → Sat w0 M H' w) (h : Q P ro n F w0 M k e H') : Q P ro n F w0 M k e H := .mk fun w hs => h.h w (hc w hs)
theorem ql_conv (hc : ∀ w, Sat w0 M H w → Sat w0 M H' w) (h : QL P ro n F w0 M k ops rest e H') : QL P ro n F w0 M k ops rest e H := .mk fun w hs => h.h w (hc w hs)

theorem q_fact {p : Prop} (hp : ∀ w, Sat w0 M H w → p) (h : p → Q P ro n F w0 M k e H) : Q P ro n F w0 M k e H := .mk fun w hs => (h (hp w hs)).h w hs
theorem ql_fact {p : Prop} (hp : ∀ w, Sat w0 M H w → p) (h : p → QL P ro n F w0 M k ops rest e H) : QL P ro n F w0 M k ops rest e H := .mk fun w hs => (h (hp w hs)).h w hs
theorem Blk.rd {w : World} {b m : Nat} {cs : List Value} {t : TypeId} (h : Blk w b cs t) (hl : cs.length = m) (c : Nat) : Rd w b (b + 1) (.slice (some ⟨b, 0, none⟩) m c) 1 m cs :=
  ⟨by omega, .inr ⟨b, 0, c, rfl, fun _ => ⟨Nat.le_refl _, Nat.lt_succ_self _, h.lt⟩, fun j _ => by rw [Blk.cell h]; simp⟩⟩
theorem cellsOf_one : ∀ (es : List Value), (∀ e ∈ es, oneV e = true) → cellsOf es = es
  | [], _ => rfl
  | e :: es, h => by
    have h1 := cellsOf_one es (fun x hx => h x (List.mem_cons_of_mem _ hx))
    have h2 := h e List.mem_cons_self
    have h3 : e.cells.toList = [e] := by cases e <;> first | rfl | simp [oneV] at h2
    simp only [cellsOf, List.flatMap_cons] at h1 ⊢
    rw [h1, h3]
    rfl
/-- Elements of one cell each. -/
theorem RdE.one {w : World} {lo hi : Nat} {v : Value} {es : List Value} (h : Rd w lo hi v 1 es.length es) (h1 : ∀ e ∈ es, oneV e = true) : RdE w lo hi v 1 es :=
  ⟨by rw [cellsOf_one es h1]; exact h, fun e he => by have := h1 e he; cases e <;> first | rfl | simp [oneV] at this⟩

theorem Sat.ownil {w : World} (h : Sat w0 M H w) (t sz : Nat) : Sat w0 M (.ow (.slice none 0 0) t sz 0 [] :: H) w :=
  h.add (Chg.refl _ _) (own_nil _ _ _ _) (fun b hb => by simp [Ck.D, Value.ownBlock] at hb)

theorem Sat.pt_ow {w : World} {b : Nat} {cs : List Value} {t sz m : Nat} (hl : cs.length = m * sz) (hm : m ≤ 1000000) (h : Sat w0 M (.pt b cs t :: R) w) : Sat w0 M (.ow (.slice (some ⟨b, 0, none⟩) m m) t sz m cs :: R) w := by
  have hb : Blk w b cs t := h.blk List.mem_cons_self
  refine h.rep .z (Chg.refl [] w) (by simp) ⟨hl, .inr ⟨b, m, cs.toArray, rfl, Nat.zero_le _, hb, Nat.le_refl _, by simp only [maxLen]; omega, by simpa using hl, ?_⟩⟩ (fun x hx => ?_)
  · rw [← hl]; simp
  · have hx' : x = b := by simpa [Ck.D, Value.ownBlock, eq_comm] using hx
    subst hx'
    exact ⟨.inl rfl, hb.lt⟩

theorem Sat.un_perm {w : World} {L L' : List Ck} (hp : L.Perm L') (h : Sat w0 M (un L :: R) w) : Sat w0 M (un L' :: R) w :=
  Sat.un_iff.2 ((Sat.un_iff.1 h).perm (hp.append_right R))
theorem Sat.un_in {w : World} {c : Ck} (h : Sat w0 M (c :: un L :: R) w) : Sat w0 M (un (c :: L) :: R) w := by
  have h1 : Sat w0 M (un L :: c :: R) w := h.perm (.swap _ _ _)
  refine Sat.un_iff.2 ((Sat.un_iff.1 h1).perm ?_)
  exact List.perm_middle
theorem Sat.un_nil {w : World} (h : Sat w0 M R w) : Sat w0 M (un [] :: R) w := Sat.un_iff.2 h
theorem Sat.un_mem {w : World} {c : Ck} (h : Sat w0 M H w) (hu : un L ∈ H) (hc : c ∈ L) : c.p w := by
  obtain ⟨h1, _, _⟩ := (h.all (un L) hu : (un L).p w)
  exact h1 c hc
end
end Go.Eng

/- The engine, part B7: structs of numbers and Bools compared; maps. -/
namespace Go.Eng
open Go Go.RowKit

section
variable {P : Program} {T : Tab}

/-! Flat structs: each field is a number or a Bool. -/
def flatF (P : Program) : Nat → List Field → List (Option IntKind) → Bool
  | _, [], [] => true
  | o, f :: fs, k :: ks => !(f.name == "_") && Nat.beq f.offset o && oneB P f.type && (match P.underlying f.type, k with | some (.int q), some q' => kindEq q q' | some .bool, none => true | _, _ => false) && flatF P (o + 1) fs ks
  | _, _, _ => false
def flatB (P : Program) (t : Nat) (ks : List (Option IntKind)) : Bool :=
  !(P.stoodInHeld t) && !(P.eqGuardType P.depth t) && (match P.underlying t with | some (.struct fs) => flatF P 0 fs.toList ks | _ => false)
def fitV : List (Option IntKind) → List Value → Bool
  | [], [] => true
  | some k :: ks, .int k' _ :: vs => kindEq k k' && fitV ks vs
  | none :: ks, .bool _ :: vs => fitV ks vs
  | _, _ => false
def eqL : List Value → List Value → Bool
  | .int _ a :: l, .int _ b :: m => decide (a = b) && eqL l m
  | .bool a :: l, .bool b :: m => (a == b) && eqL l m
  | _, _ => true

theorem eqL_refl : ∀ l : List Value, eqL l l = true
  | [] => rfl
  | v :: l => by
    cases v <;> simp [eqL, eqL_refl l]
theorem eqL_eq : ∀ (ks : List (Option IntKind)) (l m : List Value), fitV ks l = true → fitV ks m = true → eqL l m = true → l = m
  | [], [], [], _, _, _ => rfl
  | [], [], _ :: _, _, h, _ => by simp [fitV] at h
  | [], _ :: _, _, h, _, _ => by simp [fitV] at h
  | k :: ks, [], _, h, _, _ => by cases k <;> simp [fitV] at h
  | k :: ks, _ :: _, [], _, h, _ => by cases k <;> simp [fitV] at h
  | some k :: ks, v :: l, u :: m, h1, h2, h3 => by
    cases v <;> simp [fitV] at h1
    cases u <;> simp [fitV] at h2
    simp [eqL] at h3
    have e1 := kindEq_eq h1.1
    have e2 := kindEq_eq h2.1
    rw [h3.1, ← e1, ← e2, eqL_eq ks l m h1.2 h2.2 h3.2]
  | none :: ks, v :: l, u :: m, h1, h2, h3 => by
    cases v <;> simp [fitV] at h1
    cases u <;> simp [fitV] at h2
    simp [eqL] at h3
    rw [h3.1, eqL_eq ks l m h1 h2 h3.2]

theorem oneB_agg {t : Nat} (h : oneB P t = true) (w : World) : (isAgg t).run P w = .ok false w := by
  simp only [oneB, Bool.and_eq_true] at h
  obtain ⟨ha, _⟩ := h
  split at ha <;> first | (cases ha; done) | (rename_i d hd1 hd2 hu; cases d <;> first | exact absurd rfl (hd1 _) | exact absurd rfl (hd2 _ _) | simp [isAgg, run_underlying hu])
theorem run_part1 {t : Nat} (h : oneB P t = true) {xs : Array Value} {o : Nat} {v : Value} (hv : xs[o]? = some v) (w : World) : (part t xs o).run P w = .ok v w := by
  simp [part, oneB_agg h w, hv]

theorem fitV_cons {k : Option IntKind} {ks : List (Option IntKind)} {l : List Value} (h : fitV (k :: ks) l = true) : ∃ v m, l = v :: m ∧ fitV ks m = true ∧ ((∃ q a, k = some q ∧ v = .int q a) ∨ (∃ b, k = none ∧ v = .bool b)) := by
  cases l with
  | nil => cases k <;> simp [fitV] at h
  | cons v m =>
    cases k with
    | none =>
      cases v <;> simp [fitV] at h
      exact ⟨_, _, rfl, h, .inr ⟨_, rfl, rfl⟩⟩
    | some q =>
      cases v <;> simp [fitV] at h
      have := kindEq_eq h.1
      subst this
      exact ⟨_, _, rfl, h.2, .inl ⟨_, _, rfl, rfl⟩⟩

theorem eqFields_flat (d : Nat) (w : World) : ∀ (fs : List Field) (ks : List (Option IntKind)) (o : Nat) (xs ys : List Value) (l m : List Value), flatF P o fs ks = true → fitV ks l = true → fitV ks m = true → xs.drop o = l → ys.drop o = m →
    (Op.eqFields (d + 1) xs.toArray ys.toArray fs).run P w = .ok (eqL l m) w
  | [], [], o, xs, ys, l, m, _, hl, hm, _, _ => by
    cases l <;> simp [fitV] at hl
    cases m <;> simp [fitV] at hm
    rfl
  | [], _ :: _, _, _, _, _, _, h, _, _, _, _ => by simp [flatF] at h
  | _ :: _, [], _, _, _, _, _, h, _, _, _, _ => by simp [flatF] at h
  | f :: fs, k :: ks, o, xs, ys, l, m, h, hl, hm, ex, ey => by
    simp only [flatF, Bool.and_eq_true] at h
    obtain ⟨⟨⟨⟨hn, ho⟩, h1⟩, hk⟩, hr⟩ := h
    have ho := Nat.eq_of_beq_eq_true ho
    have hn : f.name ≠ "_" := by simpa using hn
    obtain ⟨v, l', rfl, hl', hv⟩ := fitV_cons hl
    obtain ⟨u, m', rfl, hm', hu⟩ := fitV_cons hm
    have gx : xs.toArray[f.offset]? = some v := by
      rw [ho]
      have := congrArg (fun z => z[0]?) ex
      simpa using this
    have gy : ys.toArray[f.offset]? = some u := by
      rw [ho]
      have := congrArg (fun z => z[0]?) ey
      simpa using this
    have dx : xs.drop (o + 1) = l' := by rw [← List.drop_drop, ex]; rfl
    have dy : ys.drop (o + 1) = m' := by rw [← List.drop_drop, ey]; rfl
    have ih := eqFields_flat d w fs ks (o + 1) xs ys l' m' hr hl' hm' dx dy
    have key : ∀ c : Bool, (Op.equalIn (d + 1) f.type v u).run P w = .ok c w → (Op.eqFields (d + 1) xs.toArray ys.toArray (f :: fs)).run P w = .ok (c && eqL l' m') w := by
      intro c hc
      simp only [Op.eqFields, if_pos hn, Sem.run_bind, run_part1 h1 gx, run_part1 h1 gy, Result.andThen_ok, hc]
      cases c
      · simp
      · simpa using ih
    rcases hv with ⟨q, a, rfl, rfl⟩ | ⟨a, rfl, rfl⟩
    · rcases hu with ⟨q', b, hq, rfl⟩ | ⟨b, hq, _⟩
      · cases hq
        split at hk
        · rename_i q1 q2 hun hq2
          exact (key (a == b) (run_equalIn_int w d f.type q q1 a b hun)).trans (by congr 1)
        · rename_i hq2; cases hq2
        · cases hk
      · cases hq
    · rcases hu with ⟨q', b, hq, _⟩ | ⟨b, _, rfl⟩
      · cases hq
      · split at hk
        · rename_i hq2; cases hq2
        · rename_i hun _
          exact key (a == b) (run_equalIn_bool' w d f.type a b hun)
        · cases hk

theorem flat_under {t : Nat} {ks : List (Option IntKind)} (h : flatB P t ks = true) : P.stoodInHeld t = false ∧ P.eqGuardType P.depth t = false ∧ P.underlying t = some (.struct (P.fieldsOf t)) ∧ flatF P 0 (P.fieldsOf t).toList ks = true := by
  simp only [flatB, Bool.and_eq_true, Bool.not_eq_true'] at h
  obtain ⟨⟨h1, h2⟩, h3⟩ := h
  split at h3
  · rename_i fs hu
    refine ⟨h1, h2, ?_, ?_⟩
    · simp [Program.fieldsOf, hu]
    · simpa [Program.fieldsOf, hu] using h3
  · cases h3

theorem run_eqFlat {t : Nat} {ks : List (Option IntKind)} (h : flatB P t ks = true) {xs ys : List Value} (hx : fitV ks xs = true) (hy : fitV ks ys = true) (d : Nat) (w : World) : (Op.equalIn (d + 2) t (.agg xs.toArray) (.agg ys.toArray)).run P w = .ok (eqL xs ys) w := by
  obtain ⟨h1, h2, h3, h4⟩ := flat_under h
  rw [run_equalIn_agg w (d + 1) t _ _ h3 h1]
  exact eqFields_flat d w _ ks 0 xs ys xs ys h4 hx hy rfl rfl

variable {ro : Cx} {n : Nat} {F : Fin} {w0 : World} {M : Nat → Prop} {k : List It} {ops : Array Oper} {rest : List Oper} {e : Env} {H Hq : List Ck}

theorem exec_eqFlat {a : Act} {d t t' : Nat} {x y : Operand} {xs ys : List Value} {ks : List (Option IntKind)} {ty : TypeId} {pos : String} {af : Array Edge} (hf : Fits n e a) (hx : opv e x = some (.agg xs.toArray)) (hy : opv e y = some (.agg ys.toArray)) (hF : flatB P t ks = true) (h1 : fitV ks xs = true) (h2 : fitV ks ys = true) (w : World) :
    (execOp a.eval ⟨some d, .binOp .eql t x y t', ty, pos, af, none⟩).run P w = .ok (.value (.bool (eqL xs ys))) w ∧ (execOp a.eval ⟨some d, .binOp .neq t x y t', ty, pos, af, none⟩).run P w = .ok (.value (.bool (!(eqL xs ys)))) w := by
  have e1 := hf.op hx
  have e2 := hf.op hy
  have h3 := run_eqFlat hF h1 h2 9998 w
  have hg := (flat_under hF).2.1
  constructor <;> simp [execOp, e1, e2, run_eqGuard_agg, hg, run_eql_struct, run_neq_struct, h3]
theorem ql_eqF (ks : List (Option IntKind)) {d t t' : Nat} {x y : Operand} {xs ys : List Value} {ty : TypeId} {pos : String} {af : Array Edge} (hF : flatB P t ks = true) (hx : opv e x = some (.agg xs.toArray)) (hy : opv e y = some (.agg ys.toArray)) (h1 : fitV ks xs = true) (h2 : fitV ks ys = true) (hd : Nat.blt d n = true)
    (h : QL P ro n F w0 M k ops rest ((d, .bool (eqL xs ys)) :: e) H) : QL P ro n F w0 M k ops (⟨some d, .binOp .eql t x y t', ty, pos, af, none⟩ :: rest) e H := .mk fun w hw =>
  yl_val (by simp) hd (fun _ hf => (exec_eqFlat hf hx hy hF h1 h2 w).1) (h.h w hw)
theorem ql_neF (ks : List (Option IntKind)) {d t t' : Nat} {x y : Operand} {xs ys : List Value} {ty : TypeId} {pos : String} {af : Array Edge} (hF : flatB P t ks = true) (hx : opv e x = some (.agg xs.toArray)) (hy : opv e y = some (.agg ys.toArray)) (h1 : fitV ks xs = true) (h2 : fitV ks ys = true) (hd : Nat.blt d n = true)
    (h : QL P ro n F w0 M k ops rest ((d, .bool (!(eqL xs ys))) :: e) H) : QL P ro n F w0 M k ops (⟨some d, .binOp .neq t x y t', ty, pos, af, none⟩ :: rest) e H := .mk fun w hw =>
  yl_val (by simp) hd (fun _ hf => (exec_eqFlat hf hx hy hF h1 h2 w).2) (h.h w hw)
theorem qf_neF (ks : List (Option IntKind)) {d t t' : Nat} {x y : Operand} {xs ys : List Value} {ty : TypeId} {pos : String} {af : Array Edge} (hF : flatB P t ks = true) (hx : opv e x = some (.agg xs.toArray)) (hy : opv e y = some (.agg ys.toArray)) (h1 : fitV ks xs = true) (h2 : fitV ks ys = true) (hd : Nat.blt d n = true)
    (h : QF P ro n F w0 M k ops Hq rest ((d, .bool (!(eqL xs ys))) :: e) H) : QF P ro n F w0 M k ops Hq (⟨some d, .binOp .neq t x y t', ty, pos, af, none⟩ :: rest) e H := .mk fun w hw =>
  yf_quiet rfl hd (fun _ hf w' _ => (exec_eqFlat hf hx hy hF h1 h2 w').2) (h.h w hw)

/-! Maps -/
/-- How keys of a type are compared: q says what Go's == does. -/
structure KeyT (P : Program) (kt : TypeId) (K : Value → Prop) (q : Value → Value → Bool) : Prop where
  chk : ∀ empty k w, K k → (Instr.checkKey empty 10000 kt k).run P w = .ok () w
  find : ∀ k es w, K k → (∀ x ∈ es, K x.key) → (Instr.findKey kt k es).run P w = .ok ((es.zipIdx.find? (fun p => q k p.1.key)).map (fun p => (p.2, p.1.val))) w
  eq : ∀ a b, K a → K b → q a b = true → a = b
  refl : ∀ a, K a → q a a = true
  bits : ∀ a, K a → Instr.sameBits 10000 a a = true

/-- A block is a map that is f. -/
def MapAt (w : World) (b : Nat) (K : Value → Prop) (q : Value → Value → Bool) (f : Value → Option Value) : Prop :=
  ∃ es clock, w.heap[b]? = some (.map es clock) ∧ (∀ x ∈ es.toList, K x.key) ∧ ∀ k, K k → (es.toList.find? (fun x => q k x.key)).map (·.val) = f k
def mpP (K : Value → Prop) (q : Value → Value → Bool) (b : Nat) (f : Value → Option Value) : Ck := .gn (· = b) (fun w => MapAt w b K q f)
  (fun _ _ _ ⟨es, clock, h1, h2⟩ hc hn => ⟨es, clock, (hc.block b (Array.getElem?_eq_some_iff.1 h1).1 (hn b rfl)).trans h1, h2⟩)

theorem find_zipIdx {α : Type} (p : α → Bool) : ∀ (l : List α) (i : Nat), (l.zipIdx i).find? (fun x => p x.1) = ((l.findIdx? p).bind fun j => (l[j]?).map fun a => (a, i + j))
  | [], i => by simp
  | a :: l, i => by
    rw [List.zipIdx_cons, List.find?_cons, List.findIdx?_cons]
    cases h : p a
    · rw [find_zipIdx p l (i + 1)]
      simp only [Option.bind_map]
      cases List.findIdx? p l with
      | none => simp
      | some j =>
        simp
        cases l[j]? with
        | none => simp
        | some b => simp; omega
    · simp

variable {K : Value → Prop} {q : Value → Value → Bool} {kt et mt : TypeId}

theorem run_mapLook {w : World} {b : Nat} {f : Value → Option Value} (hK : KeyT P kt K q) (ht : P.underlying mt = some (.map kt et)) {z : Value} (hz : (zeroValue et).run P w = .ok z w) (hm : MapAt w b K q f) {key : Value} (hk : K key) (ok : Bool) :
    (Instr.lookup mt (.map (some b)) key ok).run P w = .ok (if ok then .tuple #[(f key).getD z, .bool (f key).isSome] else (f key).getD z) w := by
  obtain ⟨es, clock, hb, hes, hf⟩ := hm
  have h1 := hK.find key es.toList w hk hes
  have h2 := hf key hk
  have h3 : ((es.toList.zipIdx.find? (fun p => q key p.1.key)).map (fun p => (p.2, p.1.val))).map (·.2) = f key := by
    rw [← h2, find_zipIdx (fun x : MapEntry => q key x.key), Option.map_map]
    rw [List.find?_eq_bind_findIdx?_getElem?]
    cases List.findIdx? (fun x : MapEntry => q key x.key) es.toList with
    | none => rfl
    | some j => simp only [Option.bind_some]; cases es.toList[j]? <;> rfl
  generalize (es.toList.zipIdx.find? (fun p => q key p.1.key)).map (fun p => (p.2, p.1.val)) = r at h1 h3
  have hg : (getObj b).run P w = .ok (.map es clock) w := by simp [getObj, Sem.run, hb]
  simp only [Instr.lookup, Sem.run_bind, run_underlying ht, Result.andThen_ok, hg, Sem.run_pure, hK.chk _ key w hk, h1]
  cases r with
  | none =>
    simp at h3
    rw [← h3]
    cases ok <;> simp [hz]
  | some p =>
    obtain ⟨i, v⟩ := p
    simp at h3
    rw [← h3]
    cases ok <;> simp

theorem find_mod0 (p : MapEntry → Bool) (g : MapEntry → MapEntry) : ∀ (l : List MapEntry) (i : Nat), (∀ e, l[i]? = some e → p e = false ∧ p (g e) = false) → (l.modify i g).find? p = l.find? p
  | [], i, _ => by simp
  | a :: l, 0, h => by
    have := h a rfl
    simp [List.modify_cons, List.find?_cons, this.1, this.2]
  | a :: l, i + 1, h => by
    have ih := find_mod0 p g l i (fun e he => h e (by simpa using he))
    simp [List.modify_cons, List.find?_cons, ih]
theorem find_mod1 (p : MapEntry → Bool) (g : MapEntry → MapEntry) : ∀ (l : List MapEntry) (i : Nat), l.findIdx? p = some i → (∀ e, l[i]? = some e → p (g e) = true) → (l.modify i g).find? p = (l[i]?).map g
  | [], i, h, _ => by simp at h
  | a :: l, i, h, hg => by
    rw [List.findIdx?_cons] at h
    cases ha : p a with
    | true =>
      rw [ha] at h
      simp at h
      subst h
      have := hg a rfl
      simp [List.modify_cons, List.find?_cons, this]
    | false =>
      rw [ha] at h
      simp at h
      obtain ⟨j, hj, rfl⟩ := h
      have ih := find_mod1 p g l j hj (fun e he => hg e (by simpa using he))
      simp [List.modify_cons, List.find?_cons, ha, ih]

theorem putObj_heap (w : World) (r : Nat) (o : Obj) (h : r < w.heap.size) : (w.putObj r o).heap[r]? = some o := World.putObj_heap_same h

theorem run_mapUpd {w : World} {b : Nat} {f : Value → Option Value} (hK : KeyT P kt K q) (ht : P.underlying mt = some (.map kt et)) (hm : MapAt w b K q f) {key v : Value} (hk : K key) :
    ∃ w', (Instr.mapUpdate mt (.map (some b)) key v).run P w = .ok () w' ∧ MapAt w' b K q (fun x => if q x key then some v else f x) ∧ Chg [b] w w' := by
  obtain ⟨es, clock, hb, hes, hf⟩ := hm
  have hlt : b < w.heap.size := (Array.getElem?_eq_some_iff.1 hb).1
  have h1 := hK.find key es.toList w hk hes
  have hg : (getObj b).run P w = .ok (.map es clock) w := by simp [getObj, Sem.run, hb]
  have hs : ∀ o, (setObj b o).run P w = .ok () (w.putObj b o) := fun o => by simp [setObj, Sem.run, World.putObj, hb]
  rw [find_zipIdx (fun x : MapEntry => q key x.key)] at h1
  have hfi : ∀ k, (es.toList.find? (fun x => q k x.key)) = (es.toList.findIdx? (fun x => q k x.key)).bind fun i => es.toList[i]? := fun k => List.find?_eq_bind_findIdx?_getElem?
  cases hi : es.toList.findIdx? (fun x => q key x.key) with
  | none =>
    rw [hi] at h1
    simp at h1
    refine ⟨w.putObj b (.map (es.push { key := key, val := v, born := clock }) (clock + 1)), ?_, ⟨es.push { key := key, val := v, born := clock }, clock + 1, putObj_heap w b _ hlt, ?_, fun k hk' => ?_⟩, putObj_chg w b _⟩
    · simp only [Instr.mapUpdate, Sem.run_bind, run_underlying ht, Result.andThen_ok, hg, hK.chk _ key w hk, h1, hs]
    · intro x hx
      rw [Array.toList_push, List.mem_append] at hx
      rcases hx with hx | hx
      · exact hes x hx
      · rw [List.mem_singleton.1 hx]; exact hk
    · rw [Array.toList_push, List.find?_append]
      by_cases hq : q k key = true
      · have := hK.eq k key hk' hk hq
        subst this
        rw [hfi, hi]
        simp [hq]
      · have hq' : q k key = false := by simpa using hq
        simp only [hq', if_false, Bool.false_eq_true]
        rw [← hf k hk']
        cases List.find? (fun x => q k x.key) es.toList <;> simp [hq']
  | some i =>
    have hi0 := hi
    rw [List.findIdx?_eq_some_iff_getElem] at hi
    obtain ⟨hlt2, hqi, _⟩ := hi
    have hki : es.toList[i].key = key := (hK.eq key _ hk (hes _ (List.getElem_mem hlt2)) hqi).symm
    rw [hi0] at h1
    simp only [Option.bind_some, List.getElem?_eq_getElem hlt2, Option.map_some] at h1
    have hki2 : ((es[i]?).map (·.key)).getD key = key := by
      rw [← Array.getElem?_toList, List.getElem?_eq_getElem hlt2]
      simpa using hki
    have hkeep : (Instr.keyThatStays (((es[i]?).map (·.key)).getD key) key).run P w = .ok key w := by
      rw [hki2]
      simp [Instr.keyThatStays, hK.bits key hk]
    refine ⟨w.putObj b (.map (es.modify i fun e => { e with key := key, val := v }) clock), ?_, ⟨es.modify i fun e => { e with key := key, val := v }, clock, putObj_heap w b _ hlt, ?_, fun k hk' => ?_⟩, putObj_chg w b _⟩
    · simp only [Instr.mapUpdate, Sem.run_bind, run_underlying ht, Result.andThen_ok, hg, hK.chk _ key w hk, h1, Nat.zero_add, hkeep, hs]
    · intro x hx
      rw [Array.toList_modify] at hx
      obtain ⟨j, hj, rfl⟩ := List.getElem_of_mem hx
      rw [List.getElem_modify]
      split
      · exact hk
      · exact hes _ (List.getElem_mem _)
    · rw [Array.toList_modify]
      by_cases hq : q k key = true
      · have := hK.eq k key hk' hk hq
        subst this
        rw [find_mod1 _ _ _ i hi0 (fun e _ => hq), List.getElem?_eq_getElem hlt2]
        simp [hq]
      · have hq' : q k key = false := by simpa using hq
        simp only [hq', if_false, Bool.false_eq_true]
        rw [find_mod0 _ _ _ i (fun e he => ?_), hf k hk']
        rw [List.getElem?_eq_getElem hlt2] at he
        cases he
        rw [hki]
        exact ⟨hq', hq'⟩
end
end Go.Eng

/- The engine, part B8: kinds of keys; the operations on maps. -/
namespace Go.Eng
open Go Go.RowKit

section
variable {P : Program} {T : Tab}

theorem lookI {e : Env} {t : Nat} {a b : Int} (hl : look e t = some (.int .i64 a)) (h : a = b) : look e t = some (.int .i64 b) := by rw [hl, h]

def eqV : Value → Value → Bool
  | .agg a, .agg b => eqL a.toList b.toList
  | .int _ a, .int _ b => decide (a = b)
  | _, _ => true
def keyF (ks : List (Option IntKind)) (v : Value) : Prop := ∃ xs : List Value, v = .agg xs.toArray ∧ fitV ks xs = true
def keyI (kd : IntKind) (v : Value) : Prop := ∃ a, v = .int kd a

theorem chk_fields (empty : Bool) (d : Nat) (w : World) : ∀ (fs : List Field) (ks : List (Option IntKind)) (o : Nat) (xs : List Value) (l : List Value), flatF P o fs ks = true → fitV ks l = true → xs.drop o = l →
    (forIn (m := Sem) fs PUnit.unit fun f _ => if f.name ≠ "_" then (do
        let v ← part f.type xs.toArray f.offset
        Instr.checkKey empty (d + 1) f.type v
        pure (ForInStep.yield PUnit.unit)) else pure (ForInStep.yield PUnit.unit)).run P w = .ok PUnit.unit w
  | [], [], o, xs, l, _, _, _ => by simp
  | [], _ :: _, _, _, _, h, _, _ => by simp [flatF] at h
  | _ :: _, [], _, _, _, h, _, _ => by simp [flatF] at h
  | f :: fs, k :: ks, o, xs, l, h, hl, ex => by
    simp only [flatF, Bool.and_eq_true] at h
    obtain ⟨⟨⟨⟨hn, ho⟩, h1⟩, hk⟩, hr⟩ := h
    have ho := Nat.eq_of_beq_eq_true ho
    have hn : f.name ≠ "_" := by simpa using hn
    obtain ⟨v, l', rfl, hl', hv⟩ := fitV_cons hl
    have gx : xs.toArray[f.offset]? = some v := by
      rw [ho]
      have := congrArg (fun z => z[0]?) ex
      simpa using this
    have dx : xs.drop (o + 1) = l' := by rw [← List.drop_drop, ex]; rfl
    have ih := chk_fields empty d w fs ks (o + 1) xs l' hr hl' dx
    have hc : (Instr.checkKey empty (d + 1) f.type v).run P w = .ok () w := by
      rcases hv with ⟨q, a, rfl, rfl⟩ | ⟨a, rfl, rfl⟩
      · split at hk
        · rename_i q1 q2 hun hq2
          simp [Instr.checkKey, run_underlying hun]
        · rename_i hq2; cases hq2
        · cases hk
      · split at hk
        · rename_i hq2; cases hq2
        · rename_i hun _
          simp [Instr.checkKey, run_underlying hun]
        · cases hk
    simp only [List.forIn_cons, Sem.run_bind, if_pos hn, run_part1 h1 gx, Result.andThen_ok, hc, Sem.run_pure]
    exact ih

theorem chk_agg {kt : TypeId} {ks : List (Option IntKind)} (hF : flatB P kt ks = true) {xs : List Value} (h : fitV ks xs = true) (empty : Bool) (d : Nat) (w : World) : (Instr.checkKey empty (d + 2) kt (.agg xs.toArray)).run P w = .ok () w := by
  obtain ⟨h1, h2, h3, h4⟩ := flat_under hF
  rw [Instr.checkKey]
  simp only [Sem.run_bind, run_underlying h3, Result.andThen_ok]
  rw [← Array.forIn_toList]
  rw [chk_fields empty d w _ ks 0 xs xs h4 h rfl]
  rfl
theorem bits_flat (d : Nat) : ∀ (ks : List (Option IntKind)) (l : List Value), fitV ks l = true → (l.zip l).all (fun p => Instr.sameBits d p.1 p.2) = true
  | [], [], _ => rfl
  | [], _ :: _, h => by simp [fitV] at h
  | k :: ks, l, h => by
    obtain ⟨v, m, rfl, hm, hv⟩ := fitV_cons h
    have ih := bits_flat d ks m hm
    simp only [List.zip_cons_cons, List.all_cons, ih, Bool.and_true]
    rcases hv with ⟨q, a, rfl, rfl⟩ | ⟨a, rfl, rfl⟩ <;> simp [Instr.sameBits]

theorem bits_agg (n : Nat) (a b : Array Value) : Instr.sameBits (n + 1) (.agg a) (.agg b) = (a.size == b.size && (a.toList.zip b.toList).all fun p => Instr.sameBits n p.1 p.2) := by
  rw [Instr.sameBits]
theorem ask_find {kt : TypeId} {K : Value → Prop} {q : Value → Value → Bool} (w : World) (he : ∀ a b, K a → K b → (Op.equal kt a b).run P w = .ok (q a b) w) {k : Value} (hk : K k) : ∀ (es : List MapEntry) (i : Nat), (∀ x ∈ es, K x.key) →
    (Instr.findAsking kt k es i).run P w = .ok (((es.zipIdx i).find? (fun p => q k p.1.key)).map (fun p => (p.2, p.1.val))) w
  | [], i, _ => by simp [Instr.findAsking]
  | x :: es, i, h => by
    have ih := ask_find w he hk es (i + 1) (fun y hy => h y (List.mem_cons_of_mem _ hy))
    have h1 := he k x.key hk (h x List.mem_cons_self)
    rw [List.zipIdx_cons, List.find?_cons]
    simp only [Instr.findAsking, Sem.run_bind, h1, Result.andThen_ok]
    cases q k x.key
    · simpa using ih
    · simp

theorem keyT_flat {kt : TypeId} {ks : List (Option IntKind)} (hF : flatB P kt ks = true) : KeyT P kt (keyF ks) eqV where
  chk empty k w := by
    rintro ⟨xs, rfl, h⟩
    exact chk_agg hF h empty 9998 w
  find k es w hk hes := by
    have he : ∀ a b, keyF ks a → keyF ks b → (Op.equal kt a b).run P w = .ok (eqV a b) w := by
      rintro _ _ ⟨xs, rfl, hx⟩ ⟨ys, rfl, hy⟩
      exact run_eqFlat hF hx hy 9998 w
    obtain ⟨h1, h2, h3, h4⟩ := flat_under hF
    have h5 := ask_find w he hk es 0 hes
    simp only [Instr.findKey, Sem.run_bind, run_underlying h3, Result.andThen_ok]
    cases es with
    | nil => simp [Instr.findNow]
    | cons x es =>
      simp only [Instr.findNow, Instr.sameNow]
      exact h5
  eq := by
    rintro _ _ ⟨xs, rfl, hx⟩ ⟨ys, rfl, hy⟩ h
    rw [eqL_eq ks xs ys hx hy h]
  refl := by
    rintro _ ⟨xs, rfl, _⟩
    exact eqL_refl xs
  bits := by
    rintro _ ⟨xs, rfl, h⟩
    exact (bits_agg 9999 xs.toArray xs.toArray).trans (by simpa using bits_flat 9999 ks xs h)

variable {ro : Cx} {n : Nat} {F : Fin} {w0 : World} {M : Nat → Prop} {k : List It} {ops : Array Oper} {rest : List Oper} {e : Env} {H Hq : List Ck}
variable {K : Value → Prop} {q : Value → Value → Bool} {kt et mt : TypeId}

theorem zero_run {t : TypeId} {z : Value} (h : ZeroOf P t z) (w : World) : (zeroValue t).run P w = .ok z w := by
  have h1 := h.h
  cases hi : P.info? t with
  | none => rw [hi] at h1; cases h1
  | some i =>
    rw [hi] at h1
    have hz : i.zero = some z := h1
    simp [zeroValue, typeInfo, hi, hz]

theorem qf_look {d b : Nat} {x ix : Operand} {f : Value → Option Value} {key z v : Value} {ty : TypeId} {pos : String} {af : Array Edge} (hK : KeyT P kt K q) (ht : P.underlying mt = some (.map kt et)) (hz : ZeroOf P et z)
    (hx : opv e x = some (.map (some b))) (hi : opv e ix = some key) (hd : Nat.blt d n = true) (hm : mpP K q b f ∈ Hq) (hk : K key) (hv : (f key).getD z = v)
    (h : QF P ro n F w0 M k ops Hq rest ((d, v) :: e) H) : QF P ro n F w0 M k ops Hq (⟨some d, .lookup mt x ix false, ty, pos, af, none⟩ :: rest) e H := .mk fun w hw =>
  yf_quiet rfl hd (fun a hf w' hs => by
    simp only [execOp, hf.op hx, hf.op hi]
    simp [run_mapLook hK ht (zero_run hz w') (hs.mem hm) hk, hv]) (h.h w hw)

theorem Sat.mapUpd {w w' : World} {b : Nat} {f f' : Value → Option Value} {H' : List Ck} (hs : Sat w0 M H w) (hr : Rp H (mpP K q b f) (mpP K q b f') H') (hc : Chg [b] w w') (hm : MapAt w' b K q f') : Sat w0 M H' w' := by
  refine hs.rep hr hc (fun x hx => (by simpa using hx : x = b)) hm (fun x hx => ?_)
  have hx' : x = b := hx
  subst hx'
  obtain ⟨es, clock, h1, _⟩ := hm
  exact ⟨.inl rfl, (Array.getElem?_eq_some_iff.1 h1).1⟩
theorem qf_mapUpd {b : Nat} {x ix y : Operand} {f : Value → Option Value} {key v : Value} {H' : List Ck} {ty : TypeId} {pos : String} {af : Array Edge} (hK : KeyT P kt K q) (ht : P.underlying mt = some (.map kt et))
    (hx : opv e x = some (.map (some b))) (hi : opv e ix = some key) (hy : opv e y = some v) (hk : K key) (hr : Rp H (mpP K q b f) (mpP K q b (fun x => if q x key then some v else f x)) H')
    (h : QF P ro n F w0 M k ops Hq rest e H') : QF P ro n F w0 M k ops Hq (⟨none, .mapUpdate mt x ix y, ty, pos, af, none⟩ :: rest) e H := .mk fun w hw => by
  obtain ⟨w', hrun, hm, hc⟩ := run_mapUpd hK ht (hw.mem (hr.app Hq).mem) hk (v := v)
  have hs' := hw.mapUpd (hr.app Hq) hc hm
  refine yf_do (w' := w') rfl (fun a hf => ?_) hs'.right (h.h w' hs')
  simp only [execOp, hf.op hx, hf.op hi, hf.op hy]
  simp [hrun]

theorem run_mkMap (t : TypeId) (w : World) : (Instr.makeMap t none).run P w = .ok (.map (some w.heap.size)) (w.alloc (.map #[] 0)) := rfl
theorem mk_mapAt (w : World) : MapAt (w.alloc (.map #[] 0)) w.heap.size K q (fun _ => none) := ⟨#[], 0, by show (w.heap.push _)[w.heap.size]? = _; simp, by simp, fun _ _ => rfl⟩
theorem mk_mapD (w : World) : ∀ b, (mpP K q w.heap.size (fun _ => none)).D b → w.heap.size ≤ b ∧ b < (w.alloc (.map #[] 0)).heap.size := fun x hx => by
  have hx' : x = w.heap.size := hx
  subst hx'
  simp
theorem ql_makeMap (K : Value → Prop) (q : Value → Value → Bool) {d : Nat} {t : TypeId} {ty : TypeId} {pos : String} {af : Array Edge} (hd : Nat.blt d n = true)
    (h : ∀ b, QL P ro n F w0 M k ops rest ((d, .map (some b)) :: e) (mpP K q b (fun _ => none) :: H)) : QL P ro n F w0 M k ops (⟨some d, .makeMap t none, ty, pos, af, none⟩ :: rest) e H := .mk fun w hs => by
  refine yl_val (w' := w.alloc (.map #[] 0)) (by simp) hd (fun a hf => ?_) ((h w.heap.size).h _ (hs.add (alloc_chg _ _) (mk_mapAt w) (mk_mapD w)))
  simp only [execOp]
  simp [run_mkMap]
/-! An empty list that is not nil. -/
theorem run_mkS0 {t et : Nat} (hu : P.underlying t = some (.slice et)) (hi : (P.info? et).isSome = true) (w : World) : (Instr.buildSlice t 0 #[]).run P w = .ok (.slice (some ⟨w.heap.size, 0, none⟩) 0 0) (w.alloc (.cells #[] et)) := by
  cases h : P.info? et with
  | none => rw [h] at hi; cases hi
  | some i =>
    have e0 : (Array.range 0) = #[] := rfl
    simp [Instr.buildSlice, run_underlying hu, sizeOf, typeInfo, h, Instr.fill, newRow, e0]
theorem ql_mkS0 (et : Nat) {d t : Nat} {ty : TypeId} {pos : String} {af : Array Edge} (hu : P.underlying t = some (.slice et)) (hi : (P.info? et).isSome = true) (hd : Nat.blt d n = true)
    (h : ∀ b, QL P ro n F w0 M k ops rest ((d, .slice (some ⟨b, 0, none⟩) 0 0) :: e) (.ow (.slice (some ⟨b, 0, none⟩) 0 0) et 1 0 [] :: H)) : QL P ro n F w0 M k ops (⟨some d, .buildSlice t 0 #[], ty, pos, af, none⟩ :: rest) e H := .mk fun w hs => by
  refine yl_val (w' := w.alloc (.cells #[] et)) (by simp) hd (fun a hf => ?_) ((h w.heap.size).h _ (Sat.pt_ow (m := 0) rfl (by omega) (hs.addPt (alloc_chg _ _) (by simp) (alloc_blk w _ _))))
  simp only [execOp]
  simp [run_mkS0 hu hi]
theorem RdI.row {w : World} {lo hi : Nat} {v : Value} {l : List Int} (h : RdI w lo hi v l) : Rd w lo hi v 1 l.length (ints l) := by
  have := h.rd
  rw [cellsOf_one _ (by simp [oneV])] at this
  simpa using this
end
end Go.Eng

/- Walks: spans; the misses of a case. -/
namespace Go.Proofs.YtohlillcaadidaaGreat
open Go Go.Eng

/-- A list of spans that can be read. -/
abbrev RdS (w : World) (lo hi : Nat) (v : Value) (l : List (Int × Int)) : Prop := RdE w lo hi v 2 (l.map rtV)
theorem RdS.outI {w : World} {lo hi : Nat} {v : Value} {l : List (Int × Int)} (h : RdS w lo hi v l) : ∃ a cap, v = .slice a l.length cap ∧ (0 < l.length → ∃ b off, a = some ⟨b, off, none⟩) := by
  have := RdE.out h
  simpa using this
theorem RdS.at {w : World} {lo hi b off len cap : Nat} {l : List (Int × Int)} (h : RdS w lo hi (.slice (some ⟨b, off, none⟩) len cap) l) (i : Nat) (hi : i < l.length) (j : Nat) (hj : j < 2) : w.cell? ⟨b, off + i * 2 + j, none⟩ = [Value.int .i64 l[i].1, Value.int .i64 l[i].2][j]? := by
  have := RdE.cell h i j (by simpa using hi) hj
  rw [this]
  simp [rtV, Value.cells]
theorem RdS.at0 {w : World} {lo hi b off len cap : Nat} {l : List (Int × Int)} (h : RdS w lo hi (.slice (some ⟨b, off, none⟩) len cap) l) (i : Nat) (hi : i < l.length) : w.cell? ⟨b, off + i * 2 + 0, none⟩ = some (.int .i64 l[i].1) := RdS.at h i hi 0 (by omega)
theorem RdS.at1 {w : World} {lo hi b off len cap : Nat} {l : List (Int × Int)} (h : RdS w lo hi (.slice (some ⟨b, off, none⟩) len cap) l) (i : Nat) (hi : i < l.length) : w.cell? ⟨b, off + i * 2 + 1, none⟩ = some (.int .i64 l[i].2) := RdS.at h i hi 1 (by omega)

def facS (r : Rg) (l : List Int) (click : Int) (n : Nat) : Int := sumR (fun i => missS r (l.getD i 0) click) n
def facedV (r : Rg) (l : List Int) (click : Int) : Int × Int := ratioV (facS r l click l.length) r.group.sum
theorem facS_bd (r : Rg) (hr : r.Right) (l : List Int) (click : Int) : ∀ n, 0 ≤ facS r l click n ∧ facS r l click n ≤ 100 * n
  | 0 => by simp [facS, sumR]
  | n + 1 => by
    have ih := facS_bd r hr l click n
    have h1 := missS_bd r hr (l.getD n 0) click
    have h2 := hr.gsum
    have e : facS r l click (n + 1) = facS r l click n + missS r (l.getD n 0) click := rfl
    omega
theorem facS_succ (r : Rg) (l : List Int) (click : Int) (n : Nat) (hn : n < l.length) : facS r l click (n + 1) = facS r l click n + missS r l[n] click := by
  simp [facS, sumR, List.getElem?_eq_getElem hn]

set_option maxHeartbeats 1000000 in
theorem faced_ca (w : World) (b lo hi : Nat) (r : Rg) (v : Value) (l : List Int) (click : Int) (hd : DkAt w b r) (hr : r.Right) (hl : RdI w lo hi v l) (hlen : l.length ≤ 1000000) (hb : ∀ x ∈ l, -1000000 ≤ x ∧ x ≤ 1000000) (hck : -1000 ≤ click ∧ click ≤ 1000) :
    Ca Tryz.prog 42 [.pointer (some ⟨b, 0, none⟩), v, .int .i64 click] w fun v w' => v = rtV (facedV r l click) ∧ Chg [] w w' := by
  obtain ⟨a, cap, rfl, hs⟩ := hl.outI
  have hg := hr.gsum
  refine q_of (Sat.nil w M0) Tryz.func42 rfl (by simp [Tryz.ntmps42]) ?_
  (refine q_seq ?_; refine q_region ?_)
  refine ql_alloc zero36 rfl (fun b6 => ?_)
  (refine q_nil ?_; refine q_seq ?_; refine q_region ?_; refine ql_pure tabOk rfl rfl ?_; refine q_nil ?_; (iterate 2 refine q_seq ?_); refine q_region ?_; (iterate 3 refine ql_pure tabOk rfl rfl ?_); refine q_nil ?_; refine q_block ?_)
  refine q_loop (σ := Nat) (fun k => k ≤ l.length) (fun k => l.length - k) (fun k => [(0, .pointer (some ⟨b, 0, none⟩)), (2, .int .i64 click), (6, .pointer (some ⟨b6, 0, none⟩)), (7, .int .i64 (facS r l click k)), (10, .slice a l.length cap), (11, .int .i64 l.length), (12, .int .i64 k)])
    (fun _ => [.pt b6 [.int .i64 0, .int .i64 0] 36]) 0 (by omega) ⟨rfl, rfl, rfl, rfl, rfl, rfl, rfl, trivial⟩ (by repeat (first | exact Sp.nil | exact Sp.refl _ | refine Sp.cons (by repeat constructor) ?_)) ?_
  intro k hk K hK
  have hfb := facS_bd r hr l click k
  (refine q_seq ?_; refine q_region ?_; refine ql_pure tabOk rfl rfl ?_; refine q_nil ?_; refine q_seq ?_)
  refine q_if rfl (fun hc => ?_) (fun hc => ?_)
  · have hk : k < l.length := by omega
    obtain ⟨b0, off, rfl⟩ := hs (by omega)
    have h1 := hb _ (List.getElem_mem hk)
    have h2 := missS_bd r hr l[k] click
    have h3 := facS_succ r l click k hk
    (refine q_skip ?_; refine q_seq ?_; refine q_block ?_; refine q_seq ?_; refine q_region ?_)
    (refine ql_index tabOk rfl rfl rfl rfl rfl (by omega) (by omega) ?_; refine ql_load1 tabOk rfl rfl rfl (fun w hs => RdI.at (RdE.keep hl hs.chg0) k hk) ?_)
    (refine ql_pure tabOk rfl rfl ?_; refine q_nil ?_; refine q_region ?_; (iterate 4 refine ql_pure tabOk rfl rfl ?_))
    refine ql_callv (val := .int .i64 (missS r l[k] click)) tabOk rfl rfl rfl rfl (fun w hs => ?_) ?_; exact missed_ca w b r l[k] click (hd.keep hs.chg0) hr h1 hck
    (refine ql_ar tabOk rfl rfl rfl rfl (by omega) (by omega) ?_; refine ql_pure tabOk rfl rfl ?_; refine q_nil ?_; refine q_blk ?_; refine q_region ?_; refine ql_ar tabOk rfl rfl rfl rfl (by omega) (by omega) ?_; refine ql_pure tabOk rfl rfl ?_; refine q_nil ?_)
    rw [← h3]
    skip
    exact hK (k + 1) _ _ (by omega) (by omega) ⟨rfl, rfl, rfl, rfl, rfl, rfl, rfl, trivial⟩ (by repeat (first | exact Sp.nil | exact Sp.refl _ | refine Sp.cons (by repeat constructor) ?_))
  · obtain rfl : k = l.length := by omega
    (refine q_exit _ rfl ?_; refine q_seq ?_; refine q_region ?_; (iterate 2 refine ql_pure tabOk rfl rfl ?_))
    refine ql_callv tabOk rfl rfl rfl rfl (fun w hs => group_ca w b r (hd.keep hs.chg0) hr) ?_
    skip
    refine ql_callv (val := rtV (facedV r l click)) tabOk rfl rfl rfl rfl (fun w hs => ?_) ?_; exact ratio_ca _ _ w (by omega) (by omega) (by omega) (by omega)
    (refine ql_setA tabOk rfl rfl rfl rfl rfl (by repeat constructor) rfl ?_; refine q_nil ?_; refine q_ret ?_)
    refine q_fin tabOk rfl (by repeat (first | exact RVs.nil | apply RVs.tmp rfl | apply RVs.cellA rfl rfl (by repeat first | exact .head _ | refine .tail _ ?_) (by rfl) | apply RVs.cell1 rfl rfl (by repeat first | exact .head _ | refine .tail _ ?_))) fun w hs => ?_
    exact ⟨rfl, hs.chg0⟩

end Go.Proofs.YtohlillcaadidaaGreat

/- What a function is told of its arguments: slices and structs that came in can be read. -/
namespace Go.Proofs.YtohlillcaadidaaGreat
open Go Go.Eng

section
variable {H : Type} {enc : TypeId × Value → H} {P : Program} {w : World} {sp : Nat → Bool} {held : Bool}
theorem cell_spot {a : Addr} {v : Value} (h : w.cell? a = some v) : a.spot = none ∧ a.block < w.heap.size := by
  unfold World.cell? at h
  split at h
  · rename_i hh
    refine ⟨?_, (Array.getElem?_eq_some_iff.1 hh).1⟩
    split at h
    · cases h
    · rename_i hs
      cases hsp : a.spot with
      | none => rfl
      | some _ => rw [hsp] at hs; exact absurd rfl hs
  · cases h
theorem flat_len {sz : Nat} : ∀ (css : List (List Value)), (∀ c ∈ css, c.length = sz) → css.flatten.length = css.length * sz
  | [], _ => by simp
  | c :: css, h => by
    rw [List.flatten_cons, List.length_append, flat_len css (fun d hd => h d (List.mem_cons_of_mem _ hd)), h c List.mem_cons_self, List.length_cons, Nat.succ_mul, Nat.add_comm]
theorem flat_get {sz : Nat} (hsz : 0 < sz) : ∀ (css : List (List Value)), (∀ c ∈ css, c.length = sz) → ∀ j, css.flatten[j]? = (css[j / sz]?).bind (fun c => c[j % sz]?)
  | [], _, j => by simp
  | c :: css, h, j => by
    have hc := h c List.mem_cons_self
    rw [List.flatten_cons]
    by_cases hj : j < sz
    · rw [List.getElem?_append_left (by omega), Nat.div_eq_of_lt hj, Nat.mod_eq_of_lt hj]
      rfl
    · obtain ⟨k, rfl⟩ : ∃ k, j = k + sz := ⟨j - sz, by omega⟩
      rw [List.getElem?_append_right (by omega), hc, Nat.add_sub_cancel, flat_get hsz css (fun d hd => h d (List.mem_cons_of_mem _ hd)), Nat.add_div_right _ hsz, Nat.add_mod_right]
      rfl
/-- A slice that came in: its elements' cells. -/
theorem in_slice {t e : TypeId} {fuel : Nat} {cs : List Value} {x : DataW H × List MemPlace} (ht : P.underlying t = some (.slice e)) (hpos : 0 < P.cellsOf e) (h : DataW.trod enc P w 0 sp held fuel t cs = some x) :
    ∃ (v : Value) (css : List (List Value)), cs = [v] ∧ css.length ≤ maxLen ∧ Rd w 0 w.heap.size v (P.cellsOf e) css.length css.flatten ∧ (∀ c ∈ css, c.length = P.cellsOf e) ∧ ∀ c ∈ css, ∃ n y, DataW.trod enc P w 0 sp held n e c = some y := by
  rcases DataW.trod_slice ht h with ⟨rfl, _⟩ | ⟨a, len, cap, elems, rest, n, _, rfl, _, hb, hl, hm, hlen, hel, _, _⟩
  · exact ⟨_, [], rfl, by simp, ⟨by simp, .inl ⟨.inl rfl, rfl⟩⟩, by simp, by simp⟩
  · have key : ∀ i, i < len → ∃ c y, w.cells? 0 (a.add (i * P.cellsOf e)) (P.cellsOf e) = some c ∧ DataW.trod enc P w 0 sp held n e c = some y := by
      intro i hi
      have h1 := hel i hi
      rw [List.getElem?_eq_getElem (by omega), Option.bind_eq_some_iff] at h1
      obtain ⟨c, h2, h3⟩ := h1
      exact ⟨c, _, h2, h3⟩
    let css := (List.range len).map fun i => (w.cells? 0 (a.add (i * P.cellsOf e)) (P.cellsOf e)).getD []
    have hcl : css.length = len := by simp [css]
    have hat : ∀ i, i < len → ∃ c y, css[i]? = some c ∧ w.cells? 0 (a.add (i * P.cellsOf e)) (P.cellsOf e) = some c ∧ DataW.trod enc P w 0 sp held n e c = some y := by
      intro i hi
      obtain ⟨c, y, h2, h3⟩ := key i hi
      exact ⟨c, y, by simp [css, hi, h2], h2, h3⟩
    have hmem : ∀ c ∈ css, c.length = P.cellsOf e ∧ ∃ n y, DataW.trod enc P w 0 sp held n e c = some y := by
      intro c hc
      obtain ⟨i, hi, rfl⟩ := List.getElem_of_mem hc
      obtain ⟨c, y, h1, h2, h3⟩ := hat i (by omega)
      rw [List.getElem?_eq_getElem hi, Option.some.injEq] at h1
      subst h1
      exact ⟨(World.cells?_some h2).2.1, _, _, h3⟩
    have hfl := flat_len css (fun c hc => (hmem c hc).1)
    refine ⟨_, css, rfl, by omega, ⟨by rw [hfl], ?_⟩, fun c hc => (hmem c hc).1, fun c hc => (hmem c hc).2⟩
    by_cases h0 : len = 0
    · subst h0
      exact .inl ⟨.inr ⟨a, cap, rfl⟩, hcl⟩
    · obtain ⟨c0, y0, g1, g2, g3⟩ := hat 0 (by omega)
      obtain ⟨_, g4, g5⟩ := World.cells?_some g2
      have g6 := g5 0 hpos
      rw [List.getElem?_eq_getElem (by omega)] at g6
      have g7 := cell_spot g6
      rw [Nat.zero_mul, Addr.add_zero', Addr.add_zero'] at g7
      obtain ⟨b, off, spot⟩ := a
      obtain ⟨h9, g8⟩ := g7
      simp only at h9
      subst h9
      refine .inr ⟨b, off, cap, by rw [hcl], fun _ => ⟨Nat.zero_le _, g8, g8⟩, fun j hj => ?_⟩
      rw [hfl, hcl] at hj
      rw [flat_get hpos css (fun c hc => (hmem c hc).1)]
      have hji : j / P.cellsOf e < len := Nat.div_lt_of_lt_mul (by rw [Nat.mul_comm]; exact hj)
      obtain ⟨c, y, e1, e2, e3⟩ := hat (j / P.cellsOf e) hji
      obtain ⟨_, e4, e5⟩ := World.cells?_some e2
      have e6 := e5 (j % P.cellsOf e) (Nat.mod_lt _ hpos)
      rw [e1, Option.bind_some, ← e6, Addr.add_lit, Addr.add_lit]
      have := Nat.div_add_mod j (P.cellsOf e)
      rw [Nat.mul_comm] at this
      rw [show off + j / P.cellsOf e * P.cellsOf e + j % P.cellsOf e = off + j by omega]
/-- A field of a struct that came in. -/
theorem in_field {t : TypeId} {fs : Array Field} {fuel : Nat} {cs : List Value} {x : DataW H × List MemPlace} (ht : P.underlying t = some (.struct fs)) (h : DataW.trod enc P w 0 sp held fuel t cs = some x) :
    cs.length = P.cellsOf t ∧ ∀ (i : Nat) (f : Field), fs[i]? = some f → ∃ n y, DataW.trod enc P w 0 sp held n f.type ((cs.drop f.offset).take (P.cellsOf f.type)) = some y := by
  obtain ⟨xs, n, _, _, hl, hx, hf⟩ := DataW.trod_struct ht h
  refine ⟨hl, fun i f hi => ?_⟩
  have h1 := hf i f hi
  have h2 : i < xs.length := by rw [hx]; exact (Array.getElem?_eq_some_iff.1 hi).1
  rw [List.getElem?_eq_getElem h2] at h1
  exact ⟨n, _, h1⟩
end
/-- A number that fits into 64 bits. -/
def I64 (n : Int) : Prop := -9223372036854775808 ≤ n ∧ n < 9223372036854775808
theorem wf_i64 {n : Int} (h : (Lit.int .i64 n).wf = true) : I64 n := by
  simp [Lit.wf, IntKind.min, IntKind.max, IntKind.signed, IntKind.bits] at h
  unfold I64
  omega
section
variable {H : Type} {enc : TypeId × Value → H} {P : Program} {w : World} {sp : Nat → Bool} {held : Bool}
theorem in_int {t : TypeId} {fuel : Nat} {cs : List Value} {x : DataW H × List MemPlace} (ht : P.underlying t = some (.int .i64)) (h : DataW.trod enc P w 0 sp held fuel t cs = some x) : ∃ n, cs = [.int .i64 n] ∧ I64 n := by
  obtain ⟨n, h1, _, h2⟩ := DataW.trod_int ht h
  exact ⟨n, h1, wf_i64 h2⟩
theorem ints_of : ∀ (css : List (List Value)), (∀ c ∈ css, ∃ n, c = [.int .i64 n] ∧ I64 n) → ∃ l : List Int, css.flatten = ints l ∧ l.length = css.length ∧ ∀ x ∈ l, I64 x
  | [], _ => ⟨[], rfl, rfl, by simp⟩
  | c :: css, h => by
    obtain ⟨n, rfl, hn⟩ := h c List.mem_cons_self
    obtain ⟨l, h1, h2, h3⟩ := ints_of css (fun d hd => h d (List.mem_cons_of_mem _ hd))
    refine ⟨n :: l, by rw [List.flatten_cons, h1]; rfl, by simp [h2], fun x hx => ?_⟩
    rcases List.mem_cons.1 hx with rfl | hx
    · exact hn
    · exact h3 x hx
/-- A list of numbers that came in. -/
theorem in_ints {t e : TypeId} {fuel : Nat} {cs : List Value} {x : DataW H × List MemPlace} (ht : P.underlying t = some (.slice e)) (he : P.underlying e = some (.int .i64)) (hc : P.cellsOf e = 1) (h : DataW.trod enc P w 0 sp held fuel t cs = some x) :
    ∃ v l, cs = [v] ∧ RdI w 0 w.heap.size v l ∧ (∀ x ∈ l, I64 x) ∧ l.length ≤ maxLen := by
  obtain ⟨v, css, h1, h2, h3, _, h4⟩ := in_slice ht (by omega) h
  obtain ⟨l, e1, e2, e3⟩ := ints_of css (fun c hc' => by obtain ⟨n, y, hy⟩ := h4 c hc'; exact in_int he hy)
  rw [e1, ← e2, hc] at h3
  exact ⟨v, l, h1, RdE.one (by simpa using h3) (fun e he => by obtain ⟨n, _, rfl⟩ := List.mem_map.1 he; rfl), e3, by omega⟩
theorem rows_of : ∀ (css : List (List Value)), (∀ c ∈ css, ∃ v l, c = [v] ∧ RdI w 0 w.heap.size v l ∧ (∀ x ∈ l, I64 x) ∧ l.length ≤ maxLen) →
    ∃ (vs : List Value) (ll : List (List Int)), css.flatten = vs ∧ vs.length = css.length ∧ ll.length = css.length ∧ (∀ i (h : i < vs.length) (h' : i < ll.length), RdI w 0 w.heap.size vs[i] ll[i]) ∧ ∀ l ∈ ll, (∀ x ∈ l, I64 x) ∧ l.length ≤ maxLen
  | [], _ => ⟨[], [], rfl, rfl, rfl, fun i h => absurd h (by simp), by simp⟩
  | c :: css, h => by
    obtain ⟨v, l, rfl, h1, h2, h3⟩ := h c List.mem_cons_self
    obtain ⟨vs, ll, g1, g2, g3, g4, g5⟩ := rows_of css (fun d hd => h d (List.mem_cons_of_mem _ hd))
    refine ⟨v :: vs, l :: ll, by rw [List.flatten_cons, g1]; rfl, by simp [g2], by simp [g3], fun i h h' => ?_, fun x hx => ?_⟩
    · cases i with
      | zero => exact h1
      | succ i => exact g4 i (by simpa using h) (by simpa using h')
    · rcases List.mem_cons.1 hx with rfl | hx
      · exact ⟨h2, h3⟩
      · exact g5 x hx
theorem RdI.one {v : Value} {l : List Int} {lo hi : Nat} (h : RdI w lo hi v l) : oneV v = true := by
  obtain ⟨a, c, rfl, _⟩ := RdI.outI h
  rfl
/-- Lists of numbers that came in. -/
theorem in_rows {t e e2 : TypeId} {fuel : Nat} {cs : List Value} {x : DataW H × List MemPlace} (ht : P.underlying t = some (.slice e)) (he : P.underlying e = some (.slice e2)) (hc : P.cellsOf e = 1) (he2 : P.underlying e2 = some (.int .i64)) (hc2 : P.cellsOf e2 = 1) (h : DataW.trod enc P w 0 sp held fuel t cs = some x) :
    ∃ v ll, cs = [v] ∧ RdII w 0 w.heap.size v ll ∧ (∀ l ∈ ll, (∀ x ∈ l, I64 x) ∧ l.length ≤ maxLen) ∧ ll.length ≤ maxLen := by
  obtain ⟨v, css, h1, h2, h3, _, h4⟩ := in_slice ht (by omega) h
  obtain ⟨vs, ll, e1, e2, e3, e4, e5⟩ := rows_of (w := w) css (fun c hc' => by obtain ⟨n, y, hy⟩ := h4 c hc'; exact in_ints he he2 hc2 hy)
  rw [e1, ← e2, hc] at h3
  refine ⟨v, ll, h1, ⟨vs, RdE.one h3 (fun e he => ?_), by omega, e4⟩, e5, by omega⟩
  obtain ⟨i, hi, rfl⟩ := List.getElem_of_mem he
  exact RdI.one (e4 i hi (by omega))
theorem spans_of : ∀ (css : List (List Value)), (∀ c ∈ css, ∃ a b, c = [.int .i64 a, .int .i64 b] ∧ I64 a ∧ I64 b) → ∃ l : List (Int × Int), css.flatten = cellsOf (l.map rtV) ∧ l.length = css.length ∧ ∀ x ∈ l, I64 x.1 ∧ I64 x.2
  | [], _ => ⟨[], rfl, rfl, by simp⟩
  | c :: css, h => by
    obtain ⟨a, b, rfl, ha, hb⟩ := h c List.mem_cons_self
    obtain ⟨l, h1, h2, h3⟩ := spans_of css (fun d hd => h d (List.mem_cons_of_mem _ hd))
    refine ⟨(a, b) :: l, ?_, by simp [h2], fun x hx => ?_⟩
    · rw [List.flatten_cons, h1]
      rfl
    · rcases List.mem_cons.1 hx with rfl | hx
      · exact ⟨ha, hb⟩
      · exact h3 x hx
/-- Spans that came in. -/
theorem in_spans {t e : TypeId} {fs : Array Field} {fuel : Nat} {cs : List Value} {x : DataW H × List MemPlace} (ht : P.underlying t = some (.slice e)) (he : P.underlying e = some (.struct fs)) (hc : P.cellsOf e = 2)
    (hf : ∀ n c y, DataW.trod enc P w 0 sp held n e c = some y → ∃ a b, c = [.int .i64 a, .int .i64 b] ∧ I64 a ∧ I64 b) (h : DataW.trod enc P w 0 sp held fuel t cs = some x) :
    ∃ v l, cs = [v] ∧ RdS w 0 w.heap.size v l ∧ (∀ x ∈ l, I64 x.1 ∧ I64 x.2) ∧ l.length ≤ maxLen := by
  obtain ⟨v, css, h1, h2, h3, _, h4⟩ := in_slice ht (by omega) h
  obtain ⟨l, e1, e2, e3⟩ := spans_of css (fun c hc' => by obtain ⟨n, y, hy⟩ := h4 c hc'; exact hf n c y hy)
  rw [e1, ← e2, hc] at h3
  exact ⟨v, l, h1, ⟨by simpa using h3, fun e he => by obtain ⟨n, _, rfl⟩ := List.mem_map.1 he; rfl⟩, e3, by omega⟩
end
end Go.Proofs.YtohlillcaadidaaGreat

/- The plan, as plain numbers. -/
namespace Go.Proofs.YtohlillcaadidaaGreat
open Go Go.Eng

/-- Rules. -/
structure Ru where
  miss : Int
  click : Int
  wait : Int
  waits : Int
structure Ru.Right (p : Ru) : Prop where
  miss : 0 ≤ p.miss ∧ p.miss ≤ 6000
  click : 0 ≤ p.click ∧ p.click ≤ 600
  wait : 0 ≤ p.wait ∧ p.wait ≤ 600
  waits : 0 ≤ p.waits ∧ p.waits ≤ 3

def partsV (r : Rg) (shot wt : Nat) : Int := r.group.sum * r.total ^ (4 - shot + wt)
def folS (r : Rg) (f : Nat → Int) (st : Nat) : Int := sumR (fun t => (r.next.getD st []).getD t 0 * f t) r.drifts.length
/-- What is to be expected of a shot, if g are the values behind it. -/
def shootV (r : Rg) (p : Ru) (g : Nat → Int → Int) (shot wt st : Nat) (cl click : Int) : Int :=
  p.click * max (click - cl) (cl - click) * partsV r shot wt + p.miss * missS r (r.drifts.getD st 0) click * (partsV r shot wt / r.group.sum) + (if shot < 4 then folS r (fun t => g t click) st else 0)
def waitV (r : Rg) (p : Ru) (h : Nat → Int → Int) (shot wt st : Nat) (cl : Int) : Int := p.wait * partsV r shot wt + folS r (fun t => h t cl) st
def chStep (r : Rg) (p : Ru) (g : Nat → Int → Int) (shot wt st : Nat) (cl : Int) (s : Int × Int) (c : Int) : Int × Int := if shootV r p g shot wt st cl c < s.2 then (c, shootV r p g shot wt st cl c) else s
def chClick (r : Rg) (p : Ru) (g : Nat → Int → Int) (shot wt st : Nat) (cl : Int) : Int × Int := (clickL r.clicks cl).foldl (chStep r p g shot wt st cl) (cl, shootV r p g shot wt st cl cl)
/-- The best choice (to wait; the click), and what is to be expected. -/
def chV (r : Rg) (p : Ru) (g h : Nat → Int → Int) (shot wt st : Nat) (cl : Int) : (Bool × Int) × Int :=
  let s := chClick r p g shot wt st cl
  if 0 < wt then (if waitV r p h shot wt st cl < s.2 then ((true, 0), waitV r p h shot wt st cl) else ((false, s.1), s.2)) else ((false, s.1), s.2)

/-! Tables: waits, states, clicks. -/
def allC (C : Int) : List Int := (List.range (2 * C + 1).toNat).map fun (i : Nat) => (i : Int) - C
def getT (C : Int) (t : List (List Int)) (st : Nat) (cl : Int) : Int := (t.getD st []).getD (cl + C).toNat 0
def lev (r : Rg) (p : Ru) (g h : Nat → Int → Int) (shot wt : Nat) : List (List Int) := (List.range r.drifts.length).map fun st => (allC r.clicks).map fun cl => (chV r p g h shot wt st cl).2
def levW (r : Rg) (p : Ru) (shot : Nat) (prev : List (List (List Int))) : Nat → List (List (List Int))
  | 0 => []
  | k + 1 => let l := levW r p shot prev k; l ++ [lev r p (getT r.clicks (prev.getD k [])) (getT r.clicks (l.getD (k - 1) [])) shot k]
def tabV (r : Rg) (p : Ru) : Nat → List (List (List Int))
  | 0 => levW r p 4 [] (p.waits + 1).toNat
  | m + 1 => levW r p (4 - (m + 1)) (tabV r p m) (p.waits + 1).toNat
/-- The value of a situation; 0 behind the last shot. -/
def valV (r : Rg) (p : Ru) (shot wt st : Nat) (cl : Int) : Int := if shot < 5 then getT r.clicks ((tabV r p (4 - shot)).getD wt []) st cl else 0
def choV (r : Rg) (p : Ru) (shot wt st : Nat) (cl : Int) : (Bool × Int) × Int := chV r p (valV r p (shot + 1) wt) (valV r p shot (wt - 1)) shot wt st cl

theorem levW_length (r : Rg) (p : Ru) (shot : Nat) (prev : List (List (List Int))) : ∀ k, (levW r p shot prev k).length = k
  | 0 => rfl
  | k + 1 => by simp [levW, levW_length r p shot prev k]
theorem levW_getD (r : Rg) (p : Ru) (shot : Nat) (prev : List (List (List Int))) : ∀ n k, k < n → (levW r p shot prev n).getD k [] = lev r p (getT r.clicks (prev.getD k [])) (getT r.clicks ((levW r p shot prev n).getD (k - 1) [])) shot k ∨ k = 0 ∧ (levW r p shot prev n).getD 0 [] = lev r p (getT r.clicks (prev.getD 0 [])) (getT r.clicks []) shot 0
  | 0, k, h => by omega
  | n + 1, k, h => by
    have hl := levW_length r p shot prev n
    by_cases hk : k < n
    · have ih := levW_getD r p shot prev n k hk
      have e : ∀ j, j < n → (levW r p shot prev (n + 1)).getD j [] = (levW r p shot prev n).getD j [] := fun j hj => by
        simp only [levW, List.getD_eq_getElem?_getD]
        rw [List.getElem?_append_left (by omega)]
      rw [e k hk, e (k - 1) (by omega), e 0 (by omega)]
      exact ih
    · obtain rfl : k = n := by omega
      have e0 : (levW r p shot prev (k + 1)).getD k [] = lev r p (getT r.clicks (prev.getD k [])) (getT r.clicks ((levW r p shot prev k).getD (k - 1) [])) shot k := by
        simp only [levW, List.getD_eq_getElem?_getD]
        rw [List.getElem?_append_right (by omega), hl]
        simp
      cases k with
      | zero => exact .inr ⟨rfl, e0⟩
      | succ j =>
        refine .inl ?_
        rw [e0]
        congr 2
        simp only [Nat.add_sub_cancel]
        rw [show levW r p shot prev (j + 1 + 1) = levW r p shot prev (j + 1) ++ [lev r p (getT r.clicks (prev.getD (j + 1) [])) (getT r.clicks ((levW r p shot prev (j + 1)).getD j [])) shot (j + 1)] from rfl]
        simp only [List.getD_eq_getElem?_getD]
        rw [List.getElem?_append_left (by omega)]

theorem lev_get (r : Rg) (p : Ru) (g h : Nat → Int → Int) (shot wt st : Nat) (cl : Int) (hs : st < r.drifts.length) (hc : -r.clicks ≤ cl ∧ cl ≤ r.clicks) : getT r.clicks (lev r p g h shot wt) st cl = (chV r p g h shot wt st cl).2 := by
  have h1 : (cl + r.clicks).toNat < (2 * r.clicks + 1).toNat := by omega
  have h2 : ((cl + r.clicks).toNat : Int) - r.clicks = cl := by omega
  have h3 : max (cl + r.clicks) 0 - r.clicks = cl := by omega
  simp [getT, lev, allC, hs, h1, h3]

theorem chV_h0 (r : Rg) (p : Ru) (g h h' : Nat → Int → Int) (shot st : Nat) (cl : Int) : chV r p g h shot 0 st cl = chV r p g h' shot 0 st cl := by simp [chV]
theorem chClick_g4 (r : Rg) (p : Ru) (g g' : Nat → Int → Int) (wt st : Nat) (cl : Int) : chClick r p g 4 wt st cl = chClick r p g' 4 wt st cl := by
  have : chStep r p g 4 wt st cl = chStep r p g' 4 wt st cl := by
    funext s c
    simp [chStep, shootV]
  simp only [chClick, this]
  simp [shootV]
theorem chV_g4 (r : Rg) (p : Ru) (g g' h : Nat → Int → Int) (wt st : Nat) (cl : Int) : chV r p g h 4 wt st cl = chV r p g' h 4 wt st cl := by
  simp only [chV, chClick_g4 r p g g']

/-- The value of a situation is what the best choice costs. -/
theorem valV_eq (r : Rg) (p : Ru) (shot wt st : Nat) (cl : Int) (h5 : shot < 5) (hw : (wt : Int) ≤ p.waits) (hs : st < r.drifts.length) (hc : -r.clicks ≤ cl ∧ cl ≤ r.clicks) : valV r p shot wt st cl = (choV r p shot wt st cl).2 := by
  obtain ⟨m, hm⟩ : ∃ m, 4 - shot = m := ⟨_, rfl⟩
  have hwn : wt < (p.waits + 1).toNat := by omega
  unfold valV choV
  rw [if_pos h5, hm]
  cases m with
  | zero =>
    obtain rfl : shot = 4 := by omega
    rcases levW_getD r p 4 [] _ wt hwn with h | ⟨rfl, h⟩
    · rw [tabV, h, lev_get r p _ _ 4 wt st cl hs hc]
      rw [chV_g4 r p _ (valV r p (4 + 1) wt)]
      rfl
    · rw [tabV, h, lev_get r p _ _ 4 0 st cl hs hc]
      rw [chV_g4 r p _ (valV r p (4 + 1) 0), chV_h0 r p _ _ (valV r p 4 (0 - 1))]
  | succ m =>
    have hsh : shot = 4 - (m + 1) := by omega
    have hm4 : m + 1 ≤ 4 := by omega
    have eg : getT r.clicks ((tabV r p m).getD wt []) = valV r p (shot + 1) wt := by
      funext t c
      simp only [valV]
      rw [if_pos (by omega), show 4 - (shot + 1) = m by omega]
    rcases levW_getD r p (4 - (m + 1)) (tabV r p m) _ wt hwn with h | ⟨rfl, h⟩
    · rw [tabV, h, lev_get r p _ _ _ wt st cl hs hc, eg, ← hsh]
      congr 1
      congr 1
      funext t c
      simp only [valV]
      rw [if_pos h5, hm, tabV, ← hsh]
    · rw [tabV, h, lev_get r p _ _ _ 0 st cl hs hc, eg, ← hsh]
      rw [chV_h0 r p _ _ (valV r p shot (0 - 1))]
end Go.Proofs.YtohlillcaadidaaGreat

/- What a function of the chapter is told of its arguments. -/
namespace Go.Proofs.YtohlillcaadidaaGreat
open Go Go.Eng

section
variable {H : Type} {enc : TypeId × Value → H} {P : Program} {w : World} {sp : Nat → Bool} {held : Bool}
theorem in_fieldK {t : TypeId} {fs : Array Field} {fuel : Nat} {cs : List Value} {x : DataW H × List MemPlace} (ht : P.underlying t = some (.struct fs)) (h : DataW.trod enc P w 0 sp held fuel t cs = some x) (i u o m : Nat) (hi : (fs[i]?).map (fun f => (f.type, f.offset)) = some (u, o)) (hm : P.cellsOf u = m) :
    ∃ n y, DataW.trod enc P w 0 sp held n u ((cs.drop o).take m) = some y := by
  cases hf : fs[i]? with
  | none => rw [hf] at hi; cases hi
  | some f =>
    rw [hf] at hi
    simp only [Option.map_some, Option.some.injEq, Prod.mk.injEq] at hi
    obtain ⟨rfl, rfl⟩ := hi
    rw [← hm]
    exact (in_field ht h).2 i f hf
theorem agg_of {r : Reach} {base : Nat} {t : TypeId} {fs : Array Field} {v : Value} (ht : P.underlying t = some (.struct fs)) (hv : Value.okWide P w r base t v) : ∃ cs : List Value, v = .agg cs.toArray ∧ v.cells.toList = cs := by
  simp only [Value.okWide, ht] at hv
  obtain ⟨cs, rfl, _, _⟩ := hv
  exact ⟨cs.toList, by simp, rfl⟩
theorem cs2 {cs : List Value} (h : cs.length = 2) : ∃ a b, cs = [a, b] := by
  match cs, h with
  | [a, b], _ => exact ⟨a, b, rfl⟩
theorem cs4 {cs : List Value} (h : cs.length = 4) : ∃ a b c d, cs = [a, b, c, d] := by
  match cs, h with
  | [a, b, c, d], _ => exact ⟨a, b, c, d, rfl⟩
theorem cs8 {cs : List Value} (h : cs.length = 8) : ∃ a b c d e f g i, cs = [a, b, c, d, e, f, g, i] := by
  match cs, h with
  | [a, b, c, d, e, f, g, i], _ => exact ⟨a, b, c, d, e, f, g, i, rfl⟩
end

/-- The lists of a range are no longer than lists can be. -/
structure Rg.Big (r : Rg) : Prop where
  group : r.group.length ≤ maxLen
  drifts : r.drifts.length ≤ maxLen
  first : r.first.length ≤ maxLen
  next : r.next.length ≤ maxLen
  rows : ∀ l ∈ r.next, l.length ≤ maxLen

section
variable {H : Type} {enc : TypeId × Value → H} {w : World} {sp : Nat → Bool} {held : Bool} {rc : Reach} {base : Nat} {v : Value} {d : DataW H} {ps : List MemPlace}
theorem und_rg : Tryz.prog.underlying 25 = some (.struct (Tryz.prog.fieldsOf 25)) := by kernel_rfl
theorem und_sp : Tryz.prog.underlying 32 = some (.struct (Tryz.prog.fieldsOf 32)) := by kernel_rfl
theorem und_i : Tryz.prog.underlying 3 = some (.int .i64) := by kernel_rfl
theorem und_l : Tryz.prog.underlying 22 = some (.slice 3) := by kernel_rfl
theorem und_m : Tryz.prog.underlying 23 = some (.slice 22) := by kernel_rfl
theorem und_S : Tryz.prog.underlying 26 = some (.slice 32) := by kernel_rfl
theorem cel_i : Tryz.prog.cellsOf 3 = 1 := by kernel_rfl
theorem cel_l : Tryz.prog.cellsOf 22 = 1 := by kernel_rfl
theorem cel_m : Tryz.prog.cellsOf 23 = 1 := by kernel_rfl
theorem cel_sp : Tryz.prog.cellsOf 32 = 2 := by kernel_rfl
theorem cel_rg : Tryz.prog.cellsOf 25 = 8 := by kernel_rfl
set_option maxRecDepth 100000 in
theorem in_R (h : DataW.Trod enc Tryz.prog w 0 sp held 25 v d ps) (hv : Value.okWide Tryz.prog w rc base 25 v) :
    ∃ cs r, v = .agg cs.toArray ∧ RgC w cs r ∧ r.Big := by
  obtain ⟨fuel, h⟩ := h
  obtain ⟨cs, rfl, hcs⟩ := agg_of und_rg hv
  rw [hcs] at h
  have hl := (in_field und_rg h).1
  rw [cel_rg] at hl
  obtain ⟨n0, y0, f0⟩ := in_fieldK und_rg h 0 3 0 1 (by kernel_rfl) cel_i
  obtain ⟨n1, y1, f1⟩ := in_fieldK und_rg h 1 3 1 1 (by kernel_rfl) cel_i
  obtain ⟨n2, y2, f2⟩ := in_fieldK und_rg h 2 3 2 1 (by kernel_rfl) cel_i
  obtain ⟨n3, y3, f3⟩ := in_fieldK und_rg h 3 3 3 1 (by kernel_rfl) cel_i
  obtain ⟨n4, y4, f4⟩ := in_fieldK und_rg h 4 22 4 1 (by kernel_rfl) cel_l
  obtain ⟨n5, y5, f5⟩ := in_fieldK und_rg h 5 22 5 1 (by kernel_rfl) cel_l
  obtain ⟨n6, y6, f6⟩ := in_fieldK und_rg h 6 22 6 1 (by kernel_rfl) cel_l
  obtain ⟨n7, y7, f7⟩ := in_fieldK und_rg h 7 23 7 1 (by kernel_rfl) cel_m
  obtain ⟨a0, a1, a2, a3, a4, a5, a6, a7, rfl⟩ := cs8 hl
  obtain ⟨x0, g0, _⟩ := in_int und_i f0
  obtain ⟨x1, g1, _⟩ := in_int und_i f1
  obtain ⟨x2, g2, _⟩ := in_int und_i f2
  obtain ⟨x3, g3, _⟩ := in_int und_i f3
  obtain ⟨v4, l4, g4, r4, _, m4⟩ := in_ints und_l und_i cel_i f4
  obtain ⟨v5, l5, g5, r5, _, m5⟩ := in_ints und_l und_i cel_i f5
  obtain ⟨v6, l6, g6, r6, _, m6⟩ := in_ints und_l und_i cel_i f6
  obtain ⟨v7, l7, g7, r7, b7, m7⟩ := in_rows und_m und_l cel_l und_i cel_i f7
  cases g0; cases g1; cases g2; cases g3; cases g4; cases g5; cases g6; cases g7
  obtain ⟨p4, c4, rfl, _⟩ := RdI.outI r4
  obtain ⟨p5, c5, rfl, _⟩ := RdI.outI r5
  obtain ⟨p6, c6, rfl, _⟩ := RdI.outI r6
  obtain ⟨p7, c7, rfl, _⟩ := RdII.outI r7
  exact ⟨_, ⟨x0, x1, x2, x3, l4, l5, l6, l7⟩, rfl, ⟨_, _, p4, c4, p5, c5, p6, c6, p7, c7, rfl, r4, r5, r6, r7⟩, ⟨m4, m5, m6, m7, fun l hl => (b7 l hl).2⟩⟩
set_option maxRecDepth 100000 in
theorem in_m (h : DataW.Trod enc Tryz.prog w 0 sp held 23 v d ps) (hv : Value.okWide Tryz.prog w rc base 23 v) :
    ∃ ll, RdII w 0 w.heap.size v ll ∧ (∀ l ∈ ll, (∀ x ∈ l, I64 x) ∧ l.length ≤ maxLen) ∧ ll.length ≤ maxLen := by
  obtain ⟨fuel, h⟩ := h
  obtain ⟨a, n, c, rfl⟩ := WideShapes.okWide_slice und_m hv
  obtain ⟨v, l, h1, h2, h3, h4⟩ := in_rows und_m und_l cel_l und_i cel_i h
  cases h1
  exact ⟨l, h2, h3, h4⟩
set_option maxRecDepth 100000 in
theorem in_S (h : DataW.Trod enc Tryz.prog w 0 sp held 26 v d ps) (hv : Value.okWide Tryz.prog w rc base 26 v) :
    ∃ l, RdS w 0 w.heap.size v l ∧ (∀ x ∈ l, I64 x.1 ∧ I64 x.2) ∧ l.length ≤ maxLen := by
  obtain ⟨fuel, h⟩ := h
  obtain ⟨a, n, c, rfl⟩ := WideShapes.okWide_slice und_S hv
  obtain ⟨v, l, h1, h2, h3, h4⟩ := in_spans (w := w) und_S und_sp cel_sp (fun n c y h => by
    have hl := (in_field und_sp h).1
    rw [cel_sp] at hl
    obtain ⟨n0, y0, f0⟩ := in_fieldK und_sp h 0 3 0 1 (by kernel_rfl) cel_i
    obtain ⟨n1, y1, f1⟩ := in_fieldK und_sp h 1 3 1 1 (by kernel_rfl) cel_i
    obtain ⟨a0, a1, rfl⟩ := cs2 hl
    obtain ⟨x0, g0, e0⟩ := in_int und_i f0
    obtain ⟨x1, g1, e1⟩ := in_int und_i f1
    cases g0; cases g1
    exact ⟨_, _, rfl, e0, e1⟩) h
  cases h1
  exact ⟨l, h2, h3, h4⟩
end
end Go.Proofs.YtohlillcaadidaaGreat

/- Walks: the reference's off. -/
namespace Go.Proofs.YtohlillcaadidaaGreat
open Go Go.Eng

theorem off_ca (n lo hi : Int) (w : World) : Ca Tryz.prog 44 [.int .i64 n, .int .i64 lo, .int .i64 hi] w fun v w' => v = .bool (!inB n lo hi) ∧ Chg [] w w' := by
  refine q_of (Sat.nil w M0) Tryz.func44 rfl (by simp [Tryz.ntmps44]) ?_
  (refine q_seq ?_; refine q_region ?_; refine ql_pure tabOk rfl rfl ?_; refine q_nil ?_; refine q_seq ?_; refine q_region ?_; (iterate 4 refine ql_pure tabOk rfl rfl ?_))
  refine ql_split rfl rfl (fun hc => ?_) (fun hc => ?_)
  · ((iterate 3 refine ql_gno rfl rfl rfl ?_); (iterate 2 refine ql_pure tabOk rfl rfl ?_); refine q_nil ?_; refine q_ret ?_)
    exact q_fin1 rfl rfl fun w' hs => ⟨by simp at hc; simp [inB]; omega, hs.chg0⟩
  · (refine ql_gyes rfl ?_; refine ql_pure tabOk rfl rfl ?_; refine ql_gyes rfl ?_; refine ql_pure tabOk rfl rfl ?_; refine ql_gyes rfl ?_; (iterate 3 refine ql_pure tabOk rfl rfl ?_); refine q_nil ?_; refine q_ret ?_)
    exact q_fin1 rfl rfl fun w' hs => ⟨by simp at hc; by_cases h : n ≤ hi <;> simp [inB, hc, h] <;> omega, hs.chg0⟩

end Go.Proofs.YtohlillcaadidaaGreat

/- The plan, as plain numbers: bounds. -/
namespace Go.Proofs.YtohlillcaadidaaGreat
open Go Go.Eng

theorem parts_div (r : Rg) (hr : r.Right) (shot wt : Nat) : partsV r shot wt / r.group.sum = r.total ^ (4 - shot + wt) := by
  have := hr.gsum
  unfold partsV
  exact Int.mul_ediv_cancel_left _ (by omega)
theorem tot7 (r : Rg) (hr : r.Right) (k : Nat) (hk : k ≤ 7) : 1 ≤ r.total ^ k ∧ r.total ^ k ≤ 35831808 := by
  have h1 := tot_bd r hr k
  have h2 : (12 : Int) ^ k ≤ 12 ^ 7 := by
    have : (12 : Nat) ^ k ≤ 12 ^ 7 := Nat.pow_le_pow_right (by omega) hk
    exact_mod_cast this
  have h3 : (12 : Int) ^ 7 = 35831808 := by decide
  omega
theorem parts_bd (r : Rg) (hr : r.Right) (shot wt : Nat) (hw : wt ≤ 3) : 1 ≤ partsV r shot wt ∧ partsV r shot wt ≤ 3583180800 := by
  have h1 := tot7 r hr (4 - shot + wt) (by omega)
  have h2 := hr.gsum
  have h3 : 0 ≤ partsV r shot wt ∧ partsV r shot wt ≤ 100 * 35831808 := mul_bd0 (by omega) (by omega)
  have h4 : 1 * 1 ≤ partsV r shot wt := Int.mul_le_mul h2.1 h1.1 (by omega) (by omega)
  omega
theorem parts_shot (r : Rg) (shot wt : Nat) (h : shot < 4) : partsV r shot wt = r.total * partsV r (shot + 1) wt := by
  unfold partsV
  rw [show 4 - shot + wt = (4 - (shot + 1) + wt) + 1 by omega, Int.pow_succ, Int.mul_comm r.total, Int.mul_assoc]
theorem next_bd (r : Rg) (hr : r.Right) (st t : Nat) : 0 ≤ (r.next.getD st []).getD t 0 ∧ (r.next.getD st []).getD t 0 ≤ 12 := getD_bd (by omega) (row_bd hr st) t
theorem sumR_bd (f : Nat → Int) (B : Int) : ∀ n, (∀ i, i < n → 0 ≤ f i ∧ f i ≤ B) → 0 ≤ sumR f n ∧ sumR f n ≤ B * n
  | 0, _ => by simp [sumR]
  | n + 1, h => by
    have ih := sumR_bd f B n (fun i hi => h i (by omega))
    have h1 := h n (by omega)
    have e : B * ((n + 1 : Nat) : Int) = B * n + B := by simp [Int.mul_add]
    rw [e, sumR]
    omega
theorem fol_bd (r : Rg) (hr : r.Right) (f : Nat → Int) (B : Int) (hB : ∀ t, t < r.drifts.length → 0 ≤ f t ∧ f t ≤ B) (st n : Nat) (hn : n ≤ r.drifts.length) : 0 ≤ sumR (fun t => (r.next.getD st []).getD t 0 * f t) n ∧ sumR (fun t => (r.next.getD st []).getD t 0 * f t) n ≤ 12 * B * n :=
  sumR_bd _ _ n (fun i hi => mul_bd0 (next_bd r hr st i) (hB i (by omega)))
/-- A row's weights times values that are not above B. -/
theorem fol_tot (r : Rg) (hr : r.Right) (f : Nat → Int) (B : Int) (hB : ∀ t, t < r.drifts.length → 0 ≤ f t ∧ f t ≤ B) (st : Nat) (hs : st < r.drifts.length) : 0 ≤ folS r f st ∧ folS r f st ≤ r.total * B := by
  refine ⟨(fol_bd r hr f B hB st _ (Nat.le_refl _)).1, ?_⟩
  have hn : st < r.next.length := by rw [hr.next]; exact hs
  have hrow : r.next.getD st [] = r.next[st] := by simp [hn]
  have hlen := hr.rows _ (List.getElem_mem hn)
  have hsum := hr.nsum _ (List.getElem_mem hn)
  have h1 : folS r f st ≤ sumR (fun t => B * (r.next.getD st []).getD t 0) r.drifts.length := sumR_mono _ _ _ (fun i hi => by
    rw [Int.mul_comm B]
    exact Int.mul_le_mul_of_nonneg_left (hB i hi).2 (next_bd r hr st i).1)
  rw [sumR_mul, sumR_getD _ _ (by rw [hrow]; omega), hrow, hsum, Int.mul_comm B] at h1
  exact h1

theorem far_bd {C cl click : Int} (hC : C ≤ 6) (h1 : -C ≤ cl ∧ cl ≤ C) (h2 : -C ≤ click ∧ click ≤ C) : 0 ≤ max (click - cl) (cl - click) ∧ max (click - cl) (cl - click) ≤ 12 := by omega

theorem shoot_bd (r : Rg) (hr : r.Right) (p : Ru) (hp : p.Right) (g : Nat → Int → Int) (B : Int) (hB0 : 0 ≤ B) (hB : ∀ t c, t < r.drifts.length → -r.clicks ≤ c ∧ c ≤ r.clicks → 0 ≤ g t c ∧ g t c ≤ B) (shot wt st : Nat) (hw : wt ≤ 3) (cl click : Int) (h1 : -r.clicks ≤ cl ∧ cl ≤ r.clicks) (h2 : -r.clicks ≤ click ∧ click ≤ r.clicks) :
    0 ≤ shootV r p g shot wt st cl click ∧ shootV r p g shot wt st cl click ≤ 50000000000000 + 60 * B := by
  have hpt := parts_bd r hr shot wt hw
  have hms := missS_bd r hr (r.drifts.getD st 0) click
  have hg := hr.gsum
  have hd := parts_div r hr shot wt
  have ht := tot7 r hr (4 - shot + wt) (by omega)
  have a1 := mul_bd0 hp.click (far_bd hr.clicks.2 h1 h2)
  have a2 := mul_bd0 a1 (show 0 ≤ partsV r shot wt ∧ partsV r shot wt ≤ 3583180800 by omega)
  have b1 := mul_bd0 hp.miss (show 0 ≤ missS r (r.drifts.getD st 0) click ∧ missS r (r.drifts.getD st 0) click ≤ 100 by omega)
  have b2 := mul_bd0 b1 (show 0 ≤ partsV r shot wt / r.group.sum ∧ partsV r shot wt / r.group.sum ≤ 35831808 by omega)
  have c1 : 0 ≤ folS r (fun t => g t click) st ∧ folS r (fun t => g t click) st ≤ 12 * B * (r.drifts.length : Int) := fol_bd r hr (fun t => g t click) B (fun t ht => hB t click ht h2) st r.drifts.length (Nat.le_refl _)
  have c2 : 12 * B * (r.drifts.length : Int) ≤ 12 * B * 5 := Int.mul_le_mul_of_nonneg_left (by have := hr.d2; omega) (by omega)
  unfold shootV
  split
  · omega
  · omega

theorem fold_best (sv : Int → Int) : ∀ (l : List Int) (s : Int × Int), s.2 = sv s.1 → (l.foldl (fun s c => if sv c < s.2 then (c, sv c) else s) s).2 = sv (l.foldl (fun s c => if sv c < s.2 then (c, sv c) else s) s).1 ∧ (l.foldl (fun s c => if sv c < s.2 then (c, sv c) else s) s).2 ≤ s.2 ∧ (∀ c ∈ l, (l.foldl (fun s c => if sv c < s.2 then (c, sv c) else s) s).2 ≤ sv c) ∧ ((l.foldl (fun s c => if sv c < s.2 then (c, sv c) else s) s).1 = s.1 ∨ (l.foldl (fun s c => if sv c < s.2 then (c, sv c) else s) s).1 ∈ l)
  | [], s, hs => ⟨hs, Int.le_refl _, by simp, .inl rfl⟩
  | c :: l, s, hs => by
    rw [List.foldl_cons]
    by_cases h : sv c < s.2
    · rw [if_pos h]
      obtain ⟨h1, h2, h3, h4⟩ := fold_best sv l (c, sv c) rfl
      refine ⟨h1, by simp only at h2; omega, fun d hd => ?_, .inr ?_⟩
      · rcases List.mem_cons.1 hd with rfl | hd
        · exact h2
        · exact h3 d hd
      · rcases h4 with h4 | h4
        · rw [h4]; exact List.mem_cons_self
        · exact List.mem_cons_of_mem _ h4
    · rw [if_neg h]
      obtain ⟨h1, h2, h3, h4⟩ := fold_best sv l s hs
      refine ⟨h1, h2, fun d hd => ?_, ?_⟩
      · rcases List.mem_cons.1 hd with rfl | hd
        · omega
        · exact h3 d hd
      · rcases h4 with h4 | h4
        · exact .inl h4
        · exact .inr (List.mem_cons_of_mem _ h4)

theorem chClick_spec (r : Rg) (p : Ru) (g : Nat → Int → Int) (shot wt st : Nat) (cl : Int) (hc : -r.clicks ≤ cl ∧ cl ≤ r.clicks) : (chClick r p g shot wt st cl).2 = shootV r p g shot wt st cl (chClick r p g shot wt st cl).1 ∧ (-r.clicks ≤ (chClick r p g shot wt st cl).1 ∧ (chClick r p g shot wt st cl).1 ≤ r.clicks) ∧
    (∀ c, c ∈ clickL r.clicks cl → (chClick r p g shot wt st cl).2 ≤ shootV r p g shot wt st cl c) ∧ (chClick r p g shot wt st cl).2 ≤ shootV r p g shot wt st cl cl := by
  obtain ⟨h1, h2, h3, h4⟩ := fold_best (shootV r p g shot wt st cl) (clickL r.clicks cl) (cl, shootV r p g shot wt st cl cl) rfl
  refine ⟨h1, ?_, h3, h2⟩
  rcases h4 with h4 | h4
  · have e : (chClick r p g shot wt st cl).1 = cl := h4
    omega
  · exact inB_iff.1 (clickL_in _ _ (inB_iff.2 hc) _ h4)

theorem wait_bd (r : Rg) (hr : r.Right) (p : Ru) (hp : p.Right) (h : Nat → Int → Int) (B : Int) (hB0 : 0 ≤ B) (hB : ∀ t c, t < r.drifts.length → -r.clicks ≤ c ∧ c ≤ r.clicks → 0 ≤ h t c ∧ h t c ≤ B) (shot wt st : Nat) (hw : wt ≤ 3) (cl : Int) (h1 : -r.clicks ≤ cl ∧ cl ≤ r.clicks) :
    0 ≤ waitV r p h shot wt st cl ∧ waitV r p h shot wt st cl ≤ 50000000000000 + 60 * B := by
  have hpt := parts_bd r hr shot wt hw
  have a1 := mul_bd0 hp.wait (show 0 ≤ partsV r shot wt ∧ partsV r shot wt ≤ 3583180800 by omega)
  have c1 : 0 ≤ folS r (fun t => h t cl) st ∧ folS r (fun t => h t cl) st ≤ 12 * B * (r.drifts.length : Int) := fol_bd r hr (fun t => h t cl) B (fun t ht => hB t cl ht h1) st r.drifts.length (Nat.le_refl _)
  have c2 : 12 * B * (r.drifts.length : Int) ≤ 12 * B * 5 := Int.mul_le_mul_of_nonneg_left (by have := hr.d2; omega) (by omega)
  unfold waitV
  omega

theorem chV_nonneg {wt : Nat} (r : Rg) (hr : r.Right) (p : Ru) (hp : p.Right) (g h : Nat → Int → Int) (B : Int) (hB0 : 0 ≤ B) (hg : ∀ t c, t < r.drifts.length → -r.clicks ≤ c ∧ c ≤ r.clicks → 0 ≤ g t c ∧ g t c ≤ B) (hh : 0 < wt → ∀ t c, t < r.drifts.length → -r.clicks ≤ c ∧ c ≤ r.clicks → 0 ≤ h t c ∧ h t c ≤ B) (shot st : Nat) (hw : wt ≤ 3) (cl : Int) (hc : -r.clicks ≤ cl ∧ cl ≤ r.clicks) : 0 ≤ (chV r p g h shot wt st cl).2 := by
  obtain ⟨h1, h2, _⟩ := chClick_spec r p g shot wt st cl hc
  have h3 := shoot_bd r hr p hp g B hB0 hg shot wt st hw cl _ hc h2
  unfold chV
  simp only
  split
  · have h4 := wait_bd r hr p hp h B hB0 (hh (by assumption)) shot wt st hw cl hc
    split
    · exact h4.1
    · simp only; omega
  · simp only; omega
theorem chV_le (r : Rg) (p : Ru) (g h : Nat → Int → Int) (shot wt st : Nat) (cl : Int) (hc : -r.clicks ≤ cl ∧ cl ≤ r.clicks) : (chV r p g h shot wt st cl).2 ≤ (chClick r p g shot wt st cl).2 := by
  unfold chV
  simp only
  split
  · split
    · omega
    · exact Int.le_refl _
  · exact Int.le_refl _

theorem valV_bd1 (r : Rg) (hr : r.Right) (p : Ru) (hp : p.Right) (m wt shot st : Nat) (cl : Int) (hm : 5 - shot = m + 1) (hw : (wt : Int) ≤ p.waits) (hs : st < r.drifts.length) (hc : -r.clicks ≤ cl ∧ cl ≤ r.clicks)
    (hg : ∀ t c, t < r.drifts.length → -r.clicks ≤ c ∧ c ≤ r.clicks → 0 ≤ valV r p (shot + 1) wt t c ∧ valV r p (shot + 1) wt t c ≤ 6000 * m * partsV r (shot + 1) wt)
    (hh : 0 < wt → ∀ t c, t < r.drifts.length → -r.clicks ≤ c ∧ c ≤ r.clicks → 0 ≤ valV r p shot (wt - 1) t c ∧ valV r p shot (wt - 1) t c ≤ 6000 * (m + 1 : Nat) * partsV r shot (wt - 1)) : 0 ≤ valV r p shot wt st cl ∧ valV r p shot wt st cl ≤ 6000 * (m + 1 : Nat) * partsV r shot wt := by
  have hw3 : wt ≤ 3 := by have := hp.waits; omega
  have hp1 := parts_bd r hr (shot + 1) wt hw3
  have hp2 := parts_bd r hr shot (wt - 1) (by omega)
  have hp3 := parts_bd r hr shot wt hw3
  have hm5 : (m : Int) ≤ 4 := by omega
  have hb1 : 6000 * (m : Int) * partsV r (shot + 1) wt ≤ 30000 * 3583180800 := (mul_bd0 (show 0 ≤ 6000 * (m : Int) ∧ 6000 * (m : Int) ≤ 30000 by omega) (show 0 ≤ partsV r (shot + 1) wt ∧ _ by exact ⟨by omega, hp1.2⟩)).2
  have hb2 : 6000 * ((m + 1 : Nat) : Int) * partsV r shot (wt - 1) ≤ 30000 * 3583180800 := (mul_bd0 (show 0 ≤ 6000 * ((m + 1 : Nat) : Int) ∧ 6000 * ((m + 1 : Nat) : Int) ≤ 30000 by omega) (show 0 ≤ partsV r shot (wt - 1) ∧ _ by exact ⟨by omega, hp2.2⟩)).2
  rw [valV_eq r p shot wt st cl (by omega) hw hs hc]
  refine ⟨chV_nonneg r hr p hp _ _ (30000 * 3583180800) (by omega) (fun t c ht hc => by have := hg t c ht hc; omega) (fun h0 t c ht hc => by have := hh h0 t c ht hc; omega) shot st hw3 cl hc, ?_⟩
  refine Int.le_trans (chV_le r p _ _ shot wt st cl hc) (Int.le_trans (chClick_spec r p _ shot wt st cl hc).2.2.2 ?_)
  have hd := parts_div r hr shot wt
  have ht := tot7 r hr (4 - shot + wt) (by omega)
  have hms := missS_bd r hr (r.drifts.getD st 0) cl
  have h1 : p.miss * missS r (r.drifts.getD st 0) cl * (partsV r shot wt / r.group.sum) ≤ 6000 * partsV r shot wt := by
    rw [hd]
    unfold partsV
    rw [← Int.mul_assoc]
    exact Int.mul_le_mul_of_nonneg_right (Int.mul_le_mul hp.miss.2 hms.2 hms.1 (by omega)) (by omega)
  unfold shootV
  rw [show max (cl - cl) (cl - cl) = 0 by omega, Int.mul_zero, Int.zero_mul, Int.zero_add]
  have e1 : 6000 * ((m + 1 : Nat) : Int) * partsV r shot wt = 6000 * m * partsV r shot wt + 6000 * partsV r shot wt := by
    rw [Int.natCast_add, Int.mul_add, Int.add_mul]
    simp
  rw [e1]
  split
  · have h2 := (fol_tot r hr (fun t => valV r p (shot + 1) wt t cl) (6000 * m * partsV r (shot + 1) wt) (fun t ht => hg t cl ht hc) st hs).2
    have e2 : r.total * (6000 * m * partsV r (shot + 1) wt) = 6000 * m * partsV r shot wt := by
      rw [parts_shot r shot wt (by assumption), Int.mul_left_comm]
    omega
  · have : 0 ≤ 6000 * (m : Int) * partsV r shot wt := Int.mul_nonneg (by omega) (by omega)
    omega

/-- Values are not below 0, and not above what five misses cost. -/
theorem valV_bd (r : Rg) (hr : r.Right) (p : Ru) (hp : p.Right) : ∀ (m wt shot st : Nat) (cl : Int), 5 - shot = m → (wt : Int) ≤ p.waits → st < r.drifts.length → -r.clicks ≤ cl ∧ cl ≤ r.clicks → 0 ≤ valV r p shot wt st cl ∧ valV r p shot wt st cl ≤ 6000 * m * partsV r shot wt := by
  intro m
  induction m with
  | zero =>
    intro wt shot st cl hm hw hs hc
    rw [valV, if_neg (by omega)]
    simp
  | succ m ih =>
    intro wt
    induction wt with
    | zero =>
      intro shot st cl hm hw hs hc
      exact valV_bd1 r hr p hp m 0 shot st cl hm hw hs hc (fun t c ht hc => ih 0 (shot + 1) t c (by omega) hw ht hc) (fun h => by omega)
    | succ wt ihw =>
      intro shot st cl hm hw hs hc
      exact valV_bd1 r hr p hp m (wt + 1) shot st cl hm hw hs hc (fun t c ht hc => ih (wt + 1) (shot + 1) t c (by omega) hw ht hc) (fun _ t c ht hc => ihw shot t c hm (by omega) ht hc)
end Go.Proofs.YtohlillcaadidaaGreat

/- Walks of the reference: small functions. -/
namespace Go.Proofs.YtohlillcaadidaaGreat
open Go Go.Eng

theorem rtotal_ca (w : World) (lo hi : Nat) (v : Value) (l : List Int) (h : RdI w lo hi v l) (hlen : l.length < 1000000) (hb : ∀ x ∈ l, -1000000 ≤ x ∧ x ≤ 1000000) :
    Ca Tryz.prog 48 [v] w fun r w' => r = .int .i64 l.sum ∧ Chg [] w w' := by
  obtain ⟨a, cap, rfl, hs⟩ := h.outI
  refine q_of (Sat.nil w M0) Tryz.func48 rfl (by simp [Tryz.ntmps48]) ?_
  (refine q_seq ?_; refine q_region ?_; refine ql_pure tabOk rfl rfl ?_; refine q_nil ?_; refine q_seq ?_; refine q_region ?_; refine ql_pure tabOk rfl rfl ?_; refine q_nil ?_; (iterate 2 refine q_seq ?_); refine q_region ?_; refine ql_pure tabOk rfl rfl ?_; refine q_nil ?_; refine q_block ?_)
  refine q_loop (σ := Nat) (fun k => k ≤ l.length) (fun k => l.length - k) (fun k => [(0, .slice a l.length cap), (3, .int .i64 (l.take k).sum), (4, .int .i64 k)]) (fun _ => []) 0 (by omega) ⟨rfl, rfl, rfl, trivial⟩ .nil ?_
  intro k hk K hK
  ((iterate 2 refine q_seq ?_); refine q_region ?_; (iterate 4 refine ql_pure tabOk rfl rfl ?_); refine q_nil ?_)
  refine q_if rfl (fun hc => ?_) (fun hc => ?_)
  · have hk : k < l.length := by omega
    obtain ⟨b, off, rfl⟩ := hs (by omega)
    (refine q_skip ?_; refine q_seq ?_; refine q_block ?_; refine q_region ?_; (iterate 3 refine ql_pure tabOk rfl rfl ?_))
    have h1 := sum_take_bd l k hb (show l.length ≤ 1000000 by omega) (by omega)
    have h2 := hb l[k] (List.getElem_mem hk)
    (refine ql_index tabOk rfl rfl rfl rfl rfl (by omega) (by omega) ?_; refine ql_load1 tabOk rfl rfl rfl (fun w hs => RdI.at (h.keep hs.chg0) k hk) ?_)
    (refine ql_ar tabOk rfl rfl rfl rfl (by omega) (by omega) ?_; refine ql_pure tabOk rfl rfl ?_; refine q_nil ?_; refine q_blk ?_; refine q_region ?_; refine ql_pure tabOk rfl rfl ?_; refine ql_ar tabOk rfl rfl rfl rfl (by omega) (by omega) ?_; refine ql_pure tabOk rfl rfl ?_; refine q_nil ?_)
    exact hK (k + 1) _ _ (by omega) (by omega) ⟨rfl, by rw [sum_take_succ l k hk]; rfl, rfl, trivial⟩ (by repeat (first | exact Sp.nil | exact Sp.refl _ | refine Sp.cons (by repeat constructor) ?_))
  · obtain rfl : k = l.length := by omega
    (refine q_exit _ rfl ?_; refine q_seq ?_; refine q_region ?_; (iterate 2 refine ql_pure tabOk rfl rfl ?_); refine q_nil ?_; refine q_ret ?_)
    exact q_fin1 rfl rfl fun w' hs => ⟨by rw [List.take_length], hs.chg0⟩

theorem roffs_ca (w : World) (b0 b1 : Nat) (v : Value) (l : List Int) (lo hi : Int) (h : RdI w b0 b1 v l) (hlen : l.length < 1000000) :
    Ca Tryz.prog 109 [v, .int .i64 lo, .int .i64 hi] w fun r w' => r = .bool (!(l.all fun n => inB n lo hi)) ∧ Chg [] w w' := by
  obtain ⟨a, cap, rfl, hs⟩ := h.outI
  refine q_of (Sat.nil w M0) Tryz.func109 rfl (by simp [Tryz.ntmps109]) ?_
  (refine q_seq ?_; refine q_region ?_; refine ql_pure tabOk rfl rfl ?_; refine q_nil ?_; (iterate 2 refine q_seq ?_); refine q_region ?_; refine ql_pure tabOk rfl rfl ?_; refine q_nil ?_; refine q_block ?_)
  refine q_loop (σ := Nat) (fun k => k ≤ l.length ∧ (l.take k).all (fun n => inB n lo hi) = true) (fun k => l.length - k) (fun k => [(0, .slice a l.length cap), (1, .int .i64 lo), (2, .int .i64 hi), (7, .int .i64 k)]) (fun _ => []) 0 ⟨by omega, rfl⟩ ⟨rfl, rfl, rfl, rfl, trivial⟩ .nil ?_
  rintro k ⟨hk, hall⟩ K hK
  ((iterate 2 refine q_seq ?_); refine q_region ?_; (iterate 4 refine ql_pure tabOk rfl rfl ?_); refine q_nil ?_)
  refine q_if rfl (fun hc => ?_) (fun hc => ?_)
  · have hk : k < l.length := by omega
    obtain ⟨b, off, rfl⟩ := hs (by omega)
    have e : (l.take (k + 1)).all (fun n => inB n lo hi) = inB l[k] lo hi := by rw [List.take_succ_eq_append_getElem hk, List.all_append, hall]; simp
    (refine q_skip ?_; refine q_seq ?_; refine q_block ?_; refine q_seq ?_; refine q_region ?_; (iterate 2 refine ql_pure tabOk rfl rfl ?_))
    (refine ql_index tabOk rfl rfl rfl rfl rfl (by omega) (by omega) ?_; refine ql_load1 tabOk rfl rfl rfl (fun w hs => RdI.at (h.keep hs.chg0) k hk) ?_)
    ((iterate 2 refine ql_pure tabOk rfl rfl ?_))
    refine ql_callv (val := .bool (!(inB l[k] lo hi))) tabOk rfl rfl rfl rfl (fun w hs => ?_) ?_; exact off_ca l[k] lo hi w
    cases hh : inB l[k] lo hi with
    | true =>
      rw [hh] at e
      (refine q_nil ?_; refine q_cond_false rfl ?_; refine q_skip ?_; refine q_blk ?_; refine q_region ?_; refine ql_pure tabOk rfl rfl ?_; refine ql_ar tabOk rfl rfl rfl rfl (by omega) (by omega) ?_; refine ql_pure tabOk rfl rfl ?_; refine q_nil ?_)
      exact hK (k + 1) _ _ ⟨by omega, e⟩ (by omega) ⟨rfl, rfl, rfl, rfl, trivial⟩ (by repeat (first | exact Sp.nil | exact Sp.refl _ | refine Sp.cons (by repeat constructor) ?_))
    | false =>
      (refine q_nil ?_; refine q_cond_true rfl ?_; refine q_seq ?_; refine q_region ?_; refine ql_pure tabOk rfl rfl ?_; refine q_nil ?_; refine q_ret ?_)
      have e2 : (l.all fun n => inB n lo hi) = false := List.all_eq_false.2 ⟨l[k], List.getElem_mem hk, by simp [hh]⟩
      exact q_fin1 rfl rfl fun w' hs => ⟨by rw [e2]; rfl, hs.chg0⟩
  · obtain rfl : k = l.length := by omega
    rw [List.take_length] at hall
    (refine q_exit _ rfl ?_; refine q_seq ?_; refine q_region ?_; refine ql_pure tabOk rfl rfl ?_; refine q_nil ?_; refine q_ret ?_)
    exact q_fin1 rfl rfl fun w' hs => ⟨by rw [hall]; rfl, hs.chg0⟩

theorem lowest_ca (n d : Int) (w : World) (hn : 0 ≤ n) (hd : 0 < d) (hn' : n < 9223372036854775808) (hd' : d < 9223372036854775808) :
    Ca Tryz.prog 47 [.int .i64 n, .int .i64 d] w fun v w' => v = rtV (ratioV n d) ∧ Chg [] w w' := by
  refine q_of (Sat.nil w M0) Tryz.func47 rfl (by simp [Tryz.ntmps47]) ?_
  (refine q_seq ?_; refine q_region ?_)
  refine ql_alloc zero36 rfl (fun b4 => ?_)
  (refine q_nil ?_; refine q_seq ?_; refine q_region ?_; (iterate 4 refine ql_pure tabOk rfl rfl ?_); refine q_nil ?_; refine q_seq ?_; refine q_block ?_)
  refine q_loop (σ := Int × Int) (fun s => 0 ≤ s.1 ∧ 0 ≤ s.2 ∧ s.1 < 9223372036854775808 ∧ s.2 < 9223372036854775808 ∧ Int.gcd s.2 s.1 = Int.gcd n d) (fun s => s.1.toNat) (fun s => [(0, .int .i64 n), (1, .int .i64 d), (4, .pointer (some ⟨b4, 0, none⟩)), (5, .int .i64 s.1), (6, .int .i64 s.2)])
    (fun _ => [.pt b4 [.int .i64 0, .int .i64 0] 36]) (n, d) ⟨hn, by omega, hn', hd', Int.gcd_comm ..⟩ ⟨rfl, rfl, rfl, rfl, rfl, trivial⟩ (Sp.refl _) ?_
  rintro ⟨a, b⟩ ⟨h1, h2, h3, h4, h5⟩ K hK
  simp only at h1 h2 h3 h4 h5
  ((iterate 2 refine q_seq ?_); refine q_region ?_; (iterate 2 refine ql_pure tabOk rfl rfl ?_); refine q_nil ?_)
  refine q_if rfl (fun hc => ?_) (fun hc => ?_)
  · (refine q_skip ?_; refine q_block ?_; refine q_region ?_; (iterate 2 refine ql_pure tabOk rfl rfl ?_); refine ql_remN rfl rfl rfl (by omega) (by omega) ?_; (iterate 3 refine ql_pure tabOk rfl rfl ?_); refine q_nil ?_; refine q_blk ?_)
    have h6 := Int.emod_nonneg b (show a ≠ 0 by omega)
    have h7 := Int.emod_lt_of_pos b (show 0 < a by omega)
    exact hK (b % a, a) _ _ ⟨h6, h1, by simp only; omega, h3, (gcd_step b a).trans h5⟩ (by simp only; omega) ⟨rfl, rfl, rfl, rfl, rfl, trivial⟩ (by repeat (first | exact Sp.nil | exact Sp.refl _ | refine Sp.cons (by repeat constructor) ?_))
  · obtain rfl : a = 0 := by omega
    have h6 : (Int.gcd n d : Int) = b := by
      rw [← h5]
      simp
      omega
    have h7 : 0 < b := by
      have : Int.gcd n d ≠ 0 := by
        intro h
        have := Int.gcd_eq_zero_iff.1 h
        omega
      omega
    (refine q_exit _ rfl ?_; refine q_seq ?_)
    refine q_draw _ [.pt b4 _ _] (Sp.cons (by repeat constructor) (Sp.refl _)) (by kernel_rfl) (by kernel_rfl) ?_
    ((iterate 2 refine qf_pure tabOk rfl rfl rfl ?_); refine qf_quoN rfl rfl rfl (by omega) (by omega) (by omega) ?_; (iterate 2 refine qf_pure tabOk rfl rfl rfl ?_); refine qf_quoN rfl rfl rfl (by omega) (by omega) (by omega) ?_)
    refine qf_mk #[.int .i64 (n / b), .int .i64 (d / b)] rfl (by kernel_rfl) rfl ?_
    (refine qf_setA tabOk rfl rfl rfl rfl rfl (by repeat constructor) rfl ?_; refine qf_nil ?_; refine q_ret ?_)
    refine q_fin tabOk rfl (by repeat (first | exact RVs.nil | apply RVs.tmp rfl | apply RVs.cellA rfl rfl (by repeat first | exact .head _ | refine .tail _ ?_) (by rfl) | apply RVs.cell1 rfl rfl (by repeat first | exact .head _ | refine .tail _ ?_))) fun w hs => ?_
    exact ⟨by rw [ratioV, h6]; rfl, hs.chg0⟩

theorem misses_ca (w : World) (cs : List Value) (r : Rg) (drift click : Int) (h : RgC w cs r) (hr : r.Right) (h1 : -1000000 ≤ drift ∧ drift ≤ 1000000) (h2 : -1000 ≤ click ∧ click ≤ 1000) :
    Ca Tryz.prog 46 [.agg cs.toArray, .int .i64 drift, .int .i64 click] w fun v w' => v = .int .i64 (missS r drift click) ∧ Chg [] w w' := by
  obtain ⟨lo, hi, ag, cg, ad, cd, af, cf, an, cn, rfl, hg, hdr, hf, hn⟩ := h
  obtain ⟨_, _, hsl, hsg⟩ := RdI.outI hg
  cases hsl
  have hlen : r.group.length ≤ 21 := hr.g2
  have hodd := hr.odd
  have hrad := hr.radius
  have hcu := mul_bd h2 (show -20 ≤ r.unit ∧ r.unit ≤ 20 by have := hr.unit; omega)
  refine q_of (Sat.nil w M0) Tryz.func46 rfl (by simp [Tryz.ntmps46]) ?_
  (refine q_seq ?_; refine q_region ?_)
  refine ql_box rfl rfl (fun b3 => ?_)
  (refine ql_pure tabOk rfl rfl ?_; refine q_nil ?_; refine q_seq ?_; refine q_region ?_; refine ql_pure tabOk rfl rfl ?_; refine q_nil ?_; (iterate 2 refine q_seq ?_); refine q_region ?_; refine ql_pure tabOk rfl rfl ?_; refine q_nil ?_; refine q_block ?_)
  refine q_loop (σ := Nat) (fun k => k ≤ r.group.length) (fun k => r.group.length - k) (fun k => [(1, .int .i64 drift), (2, .int .i64 click), (3, .pointer (some ⟨b3, 0, none⟩)), (7, .int .i64 ((missL r drift click).take k).sum), (8, .int .i64 k)])
    (fun _ => [.pt b3 [.int .i64 r.radius, .int .i64 r.unit, .int .i64 r.clicks, .int .i64 r.total, .slice ag r.group.length cg, .slice ad r.drifts.length cd, .slice af r.first.length cf, .slice an r.next.length cn] 34]) 0 (by omega) ⟨rfl, rfl, rfl, rfl, rfl, trivial⟩ (Sp.refl _) ?_
  intro k hk K hK
  ((iterate 2 refine q_seq ?_); refine q_region ?_; (iterate 2 refine ql_pure tabOk rfl rfl ?_); refine ql_loadB tabOk rfl rfl rfl (by repeat first | exact .head _ | refine .tail _ ?_) (by rfl) ?_; (iterate 2 refine ql_pure tabOk rfl rfl ?_); refine q_nil ?_)
  refine q_if rfl (fun hc => ?_) (fun hc => ?_)
  · have hk : k < r.group.length := by omega
    obtain ⟨b0, off, rfl⟩ := hsg (by omega)
    have h3 := sum_take_bd (missL r drift click) k (missL_bd r hr drift click) (show (missL r drift click).length ≤ 21 by rw [missL_length]; omega) (by omega)
    have h4 := hr.weight r.group[k] (List.getElem_mem hk)
    have h5 := sum_take_succ (missL r drift click) k (by rw [missL_length]; exact hk)
    rw [missL_get r drift click k hk] at h5
    have h6 : drift + click * r.unit + (k : Int) - ((r.group.length : Int) - 1) / 2 = drift + (k : Int) - (r.group.length : Int) / 2 + click * r.unit := by
      generalize click * r.unit = x
      omega
    (refine q_skip ?_; refine q_seq ?_; refine q_block ?_; refine q_seq ?_; refine q_region ?_; (iterate 3 refine ql_pure tabOk rfl rfl ?_); refine ql_loadB tabOk rfl rfl rfl (by repeat first | exact .head _ | refine .tail _ ?_) (by rfl) ?_; (iterate 2 refine ql_ar tabOk rfl rfl rfl rfl (by omega) (by omega) ?_); refine ql_pure tabOk rfl rfl ?_; refine ql_ar tabOk rfl rfl rfl rfl (by omega) (by omega) ?_; refine ql_pure tabOk rfl rfl ?_; refine ql_loadB tabOk rfl rfl rfl (by repeat first | exact .head _ | refine .tail _ ?_) (by rfl) ?_; refine ql_pure tabOk rfl rfl ?_; refine ql_ar tabOk rfl rfl rfl rfl (by omega) (by omega) ?_; refine ql_quoN rfl rfl rfl (by omega) (by omega) (by omega) ?_; refine ql_ar tabOk rfl rfl rfl rfl (by omega) (by omega) ?_; refine ql_pure tabOk rfl rfl ?_; refine q_nil ?_; refine q_seq ?_; refine q_region ?_; (iterate 2 refine ql_pure tabOk rfl rfl ?_); refine ql_loadB tabOk rfl rfl rfl (by repeat first | exact .head _ | refine .tail _ ?_) (by rfl) ?_; refine ql_neg tabOk rfl rfl (by omega) (by omega) ?_; (iterate 2 refine ql_pure tabOk rfl rfl ?_))
    rw [h6]
    generalize hx : drift + (k : Int) - (r.group.length : Int) / 2 + click * r.unit = x at *
    refine ql_split rfl rfl (fun hc => ?_) (fun hc => ?_)
    · have hh : hitB r x = false := by cases hq : hitB r x with | false => rfl | true => have := inB_iff.1 (show inB x (-r.radius) r.radius = true from hq); simp at hc; omega
      rw [hh] at h5
      ((iterate 4 refine ql_gno rfl rfl rfl ?_); refine ql_pure tabOk rfl rfl ?_; refine q_nil ?_; refine q_cond_true rfl ?_; refine q_region ?_; (iterate 2 refine ql_pure tabOk rfl rfl ?_); refine ql_loadB tabOk rfl rfl rfl (by repeat first | exact .head _ | refine .tail _ ?_) (by rfl) ?_; refine ql_pure tabOk rfl rfl ?_)
      (refine ql_index tabOk rfl rfl rfl rfl rfl (by omega) (by omega) ?_; refine ql_load1 tabOk rfl rfl rfl (fun w hs => RdI.at (hg.keep hs.chg0) k hk) ?_)
      (refine ql_ar tabOk rfl rfl rfl rfl (by omega) (by omega) ?_; refine ql_pure tabOk rfl rfl ?_; refine q_nil ?_; refine q_blk ?_; refine q_region ?_; refine ql_pure tabOk rfl rfl ?_; refine ql_ar tabOk rfl rfl rfl rfl (by omega) (by omega) ?_; refine ql_pure tabOk rfl rfl ?_; refine q_nil ?_)
      exact hK (k + 1) _ _ (by omega) (by omega) ⟨rfl, rfl, rfl, by rw [h5]; simp; rfl, rfl, trivial⟩ (by repeat (first | exact Sp.nil | exact Sp.refl _ | refine Sp.cons (by repeat constructor) ?_))
    · have hc0 := of_decide_eq_false hc
      clear hc
      (refine ql_gyes rfl ?_; refine ql_pure tabOk rfl rfl ?_; refine ql_gyes rfl ?_; refine ql_pure tabOk rfl rfl ?_; refine ql_gyes rfl ?_; refine ql_loadB tabOk rfl rfl rfl (by repeat first | exact .head _ | refine .tail _ ?_) (by rfl) ?_; refine ql_gyes rfl ?_; (iterate 2 refine ql_pure tabOk rfl rfl ?_); refine q_nil ?_)
      refine q_if rfl (fun hc => ?_) (fun hc => ?_)
      · have hh : hitB r x = false := by cases hq : hitB r x with | false => rfl | true => have := inB_iff.1 (show inB x (-r.radius) r.radius = true from hq); omega
        rw [hh] at h5
        (refine q_region ?_; (iterate 2 refine ql_pure tabOk rfl rfl ?_); refine ql_loadB tabOk rfl rfl rfl (by repeat first | exact .head _ | refine .tail _ ?_) (by rfl) ?_; refine ql_pure tabOk rfl rfl ?_)
        (refine ql_index tabOk rfl rfl rfl rfl rfl (by omega) (by omega) ?_; refine ql_load1 tabOk rfl rfl rfl (fun w hs => RdI.at (hg.keep hs.chg0) k hk) ?_)
        (refine ql_ar tabOk rfl rfl rfl rfl (by omega) (by omega) ?_; refine ql_pure tabOk rfl rfl ?_; refine q_nil ?_; refine q_blk ?_; refine q_region ?_; refine ql_pure tabOk rfl rfl ?_; refine ql_ar tabOk rfl rfl rfl rfl (by omega) (by omega) ?_; refine ql_pure tabOk rfl rfl ?_; refine q_nil ?_)
        exact hK (k + 1) _ _ (by omega) (by omega) ⟨rfl, rfl, rfl, by rw [h5]; simp; rfl, rfl, trivial⟩ (by repeat (first | exact Sp.nil | exact Sp.refl _ | refine Sp.cons (by repeat constructor) ?_))
      · have hh : hitB r x = true := by unfold hitB; rw [inB_iff]; omega
        rw [hh] at h5
        (refine q_skip ?_; refine q_blk ?_; refine q_region ?_; refine ql_pure tabOk rfl rfl ?_; refine ql_ar tabOk rfl rfl rfl rfl (by omega) (by omega) ?_; refine ql_pure tabOk rfl rfl ?_; refine q_nil ?_)
        exact hK (k + 1) _ _ (by omega) (by omega) ⟨rfl, rfl, rfl, by rw [h5]; simp; rfl, rfl, trivial⟩ (by repeat (first | exact Sp.nil | exact Sp.refl _ | refine Sp.cons (by repeat constructor) ?_))
  · obtain rfl : k = r.group.length := by omega
    (refine q_exit _ rfl ?_; refine q_seq ?_; refine q_region ?_; (iterate 2 refine ql_pure tabOk rfl rfl ?_); refine q_nil ?_; refine q_ret ?_)
    refine q_fin tabOk rfl (by repeat (first | exact RVs.nil | apply RVs.tmp rfl | apply RVs.cellA rfl rfl (by repeat first | exact .head _ | refine .tail _ ?_) (by rfl) | apply RVs.cell1 rfl rfl (by repeat first | exact .head _ | refine .tail _ ?_))) fun w hs => ?_
    exact ⟨by rw [missS, List.take_of_length_le (by rw [missL_length]; omega)]; rfl, hs.chg0⟩

end Go.Proofs.YtohlillcaadidaaGreat

/- Walks of the reference: a range's error. -/
namespace Go.Proofs.YtohlillcaadidaaGreat
open Go Go.Eng

theorem cntB_iff (r : Rg) : cntB r = true ↔ (1 ≤ r.group.length ∧ r.group.length ≤ 21 ∧ r.group.length % 2 = 1 ∧ 1 ≤ r.drifts.length ∧ r.drifts.length ≤ 5 ∧ r.first.length = r.drifts.length ∧ r.next.length = r.drifts.length ∧ ∀ l ∈ r.next, l.length = r.drifts.length) := by
  simp only [cntB, inB, Bool.and_eq_true, Bool.not_eq_true', decide_eq_true_eq, decide_eq_false_iff_not, List.all_eq_true, Bool.and_true]
  constructor
  · rintro ⟨⟨⟨⟨⟨h1, h2⟩, h3⟩, h4⟩, h5⟩, h6⟩
    exact ⟨by omega, by omega, by omega, by omega, by omega, by omega, by omega, fun l hl => by have := h6 l hl; omega⟩
  · rintro ⟨h1, h2, h3, h4, h5, h6, h7, h8⟩
    exact ⟨⟨⟨⟨⟨by omega, by omega⟩, by omega⟩, by omega⟩, by omega⟩, fun l hl => by have := h8 l hl; omega⟩
theorem ck2 {r : Rg} (h : cntB r = true → False) : checkV r = 2 := by
  unfold checkV
  cases hc : cntB r with
  | true => exact (h hc).elim
  | false => rfl
theorem ck3 {r : Rg} (h1 : cntB r = true) (h : rng1B r = true → rng2B r = true → rng3B r = true → False) : checkV r = 3 := by
  unfold checkV
  rw [h1]
  cases h2 : rng1B r <;> cases h3 : rng2B r <;> cases h4 : rng3B r <;> first | rfl | exact (h h2 h3 h4).elim
theorem ck7 {r : Rg} (h1 : cntB r = true) (h2 : rng1B r = true) (h3 : rng2B r = true) (h4 : rng3B r = true) (h : cnfB r = true → False) : checkV r = 7 := by
  unfold checkV
  rw [h1, h2, h3, h4]
  cases hc : cnfB r with
  | true => exact (h hc).elim
  | false => rfl
theorem ck0 {r : Rg} (h1 : cntB r = true) (h2 : rng1B r = true) (h3 : rng2B r = true) (h4 : rng3B r = true) (h : cnfB r = true) : checkV r = 0 := by
  unfold checkV
  rw [h1, h2, h3, h4, h]
  rfl
theorem all_take_succ {α : Type} {p : α → Bool} {l : List α} {k : Nat} (hk : k < l.length) (h : (l.take k).all p = true) (hp : p l[k] = true) : (l.take (k + 1)).all p = true := by
  rw [List.take_succ_eq_append_getElem hk, List.all_append, h]
  simp [hp]
set_option maxHeartbeats 4000000 in
theorem rcheck_ca (w : World) (cs : List Value) (r : Rg) (h : RgC w cs r) (hsm : r.Small) : Ca Tryz.prog 60 [.agg cs.toArray] w fun v w' => v = .int .i64 (checkV r) ∧ Chg [] w w' := by
  obtain ⟨lo, hi, ag, cg, ad, cd, af, cf, an, cn, rfl, hg, hdr, hf, hn⟩ := h
  have s1 := hsm.group
  have s2 := hsm.drifts
  have s3 := hsm.first
  have s4 := hsm.next
  obtain ⟨_, _, hsl, hsn⟩ := RdII.outI hn
  cases hsl
  refine q_of (Sat.nil w M0) Tryz.func60 rfl (by simp [Tryz.ntmps60]) ?_
  (refine q_seq ?_; refine q_region ?_)
  refine ql_box rfl rfl (fun b1 => ?_)
  (refine ql_pure tabOk rfl rfl ?_; refine q_nil ?_; refine q_seq ?_; refine q_region ?_; refine ql_pure tabOk rfl rfl ?_; refine ql_loadB tabOk rfl rfl rfl (by repeat first | exact .head _ | refine .tail _ ?_) (by rfl) ?_; (iterate 2 refine ql_pure tabOk rfl rfl ?_); refine q_nil ?_; (iterate 2 refine q_seq ?_); refine q_region ?_; refine ql_pure tabOk rfl rfl ?_; refine ql_loadB tabOk rfl rfl rfl (by repeat first | exact .head _ | refine .tail _ ?_) (by rfl) ?_; (iterate 3 refine ql_pure tabOk rfl rfl ?_))
  refine ql_split rfl rfl (fun hc => ?_) (fun hc => ?_)
  · ((iterate 4 refine ql_gno rfl rfl rfl ?_); (iterate 2 refine ql_pure tabOk rfl rfl ?_); (iterate 5 refine ql_gno rfl rfl rfl ?_); (iterate 2 refine ql_pure tabOk rfl rfl ?_); (iterate 2 refine ql_gno rfl rfl rfl ?_); (iterate 2 refine ql_pure tabOk rfl rfl ?_); (iterate 2 refine ql_gno rfl rfl rfl ?_); (iterate 2 refine ql_pure tabOk rfl rfl ?_); (iterate 5 refine ql_gno rfl rfl rfl ?_); (iterate 2 refine ql_pure tabOk rfl rfl ?_); (iterate 5 refine ql_gno rfl rfl rfl ?_); refine ql_pure tabOk rfl rfl ?_; refine q_nil ?_; refine q_cond_true rfl ?_; refine q_seq ?_; refine q_region ?_; refine ql_pure tabOk rfl rfl ?_; refine q_nil ?_; refine q_ret ?_)
    refine q_fin tabOk rfl (by repeat (first | exact RVs.nil | apply RVs.tmp rfl | apply RVs.cellA rfl rfl (by repeat first | exact .head _ | refine .tail _ ?_) (by rfl) | apply RVs.cell1 rfl rfl (by repeat first | exact .head _ | refine .tail _ ?_))) fun w hs => ?_
    exact ⟨by rw [ck2 (fun h => by have := (cntB_iff r).1 h; simp at hc; omega)]; rfl, hs.chg0⟩
  have c1 := of_decide_eq_false hc
  clear hc
  (refine ql_gyes rfl ?_; refine ql_pure tabOk rfl rfl ?_; refine ql_gyes rfl ?_; refine ql_loadB tabOk rfl rfl rfl (by repeat first | exact .head _ | refine .tail _ ?_) (by rfl) ?_; refine ql_gyes rfl ?_; refine ql_pure tabOk rfl rfl ?_; refine ql_gyes rfl ?_; (iterate 3 refine ql_pure tabOk rfl rfl ?_))
  refine ql_split rfl rfl (fun hc => ?_) (fun hc => ?_)
  · ((iterate 5 refine ql_gno rfl rfl rfl ?_); (iterate 2 refine ql_pure tabOk rfl rfl ?_); (iterate 2 refine ql_gno rfl rfl rfl ?_); (iterate 2 refine ql_pure tabOk rfl rfl ?_); (iterate 2 refine ql_gno rfl rfl rfl ?_); (iterate 2 refine ql_pure tabOk rfl rfl ?_); (iterate 5 refine ql_gno rfl rfl rfl ?_); (iterate 2 refine ql_pure tabOk rfl rfl ?_); (iterate 5 refine ql_gno rfl rfl rfl ?_); refine ql_pure tabOk rfl rfl ?_; refine q_nil ?_; refine q_cond_true rfl ?_; refine q_seq ?_; refine q_region ?_; refine ql_pure tabOk rfl rfl ?_; refine q_nil ?_; refine q_ret ?_)
    refine q_fin tabOk rfl (by repeat (first | exact RVs.nil | apply RVs.tmp rfl | apply RVs.cellA rfl rfl (by repeat first | exact .head _ | refine .tail _ ?_) (by rfl) | apply RVs.cell1 rfl rfl (by repeat first | exact .head _ | refine .tail _ ?_))) fun w hs => ?_
    exact ⟨by rw [ck2 (fun h => by have := (cntB_iff r).1 h; simp at hc; omega)]; rfl, hs.chg0⟩
  have c2 := of_decide_eq_false hc
  clear hc
  (refine ql_gyes rfl ?_; refine ql_pure tabOk rfl rfl ?_; refine ql_gyes rfl ?_; refine ql_loadB tabOk rfl rfl rfl (by repeat first | exact .head _ | refine .tail _ ?_) (by rfl) ?_; refine ql_gyes rfl ?_; refine ql_pure tabOk rfl rfl ?_; refine ql_gyes rfl ?_; refine ql_remN rfl rfl rfl (by omega) (by omega) ?_; refine ql_gyes rfl ?_; (iterate 3 refine ql_pure tabOk rfl rfl ?_))
  refine ql_split rfl rfl (fun hc => ?_) (fun hc => ?_)
  · ((iterate 2 refine ql_gno rfl rfl rfl ?_); (iterate 2 refine ql_pure tabOk rfl rfl ?_); (iterate 2 refine ql_gno rfl rfl rfl ?_); (iterate 2 refine ql_pure tabOk rfl rfl ?_); (iterate 5 refine ql_gno rfl rfl rfl ?_); (iterate 2 refine ql_pure tabOk rfl rfl ?_); (iterate 5 refine ql_gno rfl rfl rfl ?_); refine ql_pure tabOk rfl rfl ?_; refine q_nil ?_; refine q_cond_true rfl ?_; refine q_seq ?_; refine q_region ?_; refine ql_pure tabOk rfl rfl ?_; refine q_nil ?_; refine q_ret ?_)
    refine q_fin tabOk rfl (by repeat (first | exact RVs.nil | apply RVs.tmp rfl | apply RVs.cellA rfl rfl (by repeat first | exact .head _ | refine .tail _ ?_) (by rfl) | apply RVs.cell1 rfl rfl (by repeat first | exact .head _ | refine .tail _ ?_))) fun w hs => ?_
    exact ⟨by rw [ck2 (fun h => by have := (cntB_iff r).1 h; simp at hc; omega)]; rfl, hs.chg0⟩
  simp at hc
  have c3 := hc
  clear hc
  (refine ql_gyes rfl ?_; refine ql_pure tabOk rfl rfl ?_; refine ql_gyes rfl ?_; (iterate 3 refine ql_pure tabOk rfl rfl ?_))
  refine ql_split rfl rfl (fun hc => ?_) (fun hc => ?_)
  · ((iterate 2 refine ql_gno rfl rfl rfl ?_); (iterate 2 refine ql_pure tabOk rfl rfl ?_); (iterate 5 refine ql_gno rfl rfl rfl ?_); (iterate 2 refine ql_pure tabOk rfl rfl ?_); (iterate 5 refine ql_gno rfl rfl rfl ?_); refine ql_pure tabOk rfl rfl ?_; refine q_nil ?_; refine q_cond_true rfl ?_; refine q_seq ?_; refine q_region ?_; refine ql_pure tabOk rfl rfl ?_; refine q_nil ?_; refine q_ret ?_)
    refine q_fin tabOk rfl (by repeat (first | exact RVs.nil | apply RVs.tmp rfl | apply RVs.cellA rfl rfl (by repeat first | exact .head _ | refine .tail _ ?_) (by rfl) | apply RVs.cell1 rfl rfl (by repeat first | exact .head _ | refine .tail _ ?_))) fun w hs => ?_
    exact ⟨by rw [ck2 (fun h => by have := (cntB_iff r).1 h; simp at hc; omega)]; rfl, hs.chg0⟩
  have c4 := of_decide_eq_false hc
  clear hc
  (refine ql_gyes rfl ?_; refine ql_pure tabOk rfl rfl ?_; refine ql_gyes rfl ?_; (iterate 3 refine ql_pure tabOk rfl rfl ?_))
  refine ql_split rfl rfl (fun hc => ?_) (fun hc => ?_)
  · ((iterate 5 refine ql_gno rfl rfl rfl ?_); (iterate 2 refine ql_pure tabOk rfl rfl ?_); (iterate 5 refine ql_gno rfl rfl rfl ?_); refine ql_pure tabOk rfl rfl ?_; refine q_nil ?_; refine q_cond_true rfl ?_; refine q_seq ?_; refine q_region ?_; refine ql_pure tabOk rfl rfl ?_; refine q_nil ?_; refine q_ret ?_)
    refine q_fin tabOk rfl (by repeat (first | exact RVs.nil | apply RVs.tmp rfl | apply RVs.cellA rfl rfl (by repeat first | exact .head _ | refine .tail _ ?_) (by rfl) | apply RVs.cell1 rfl rfl (by repeat first | exact .head _ | refine .tail _ ?_))) fun w hs => ?_
    exact ⟨by rw [ck2 (fun h => by have := (cntB_iff r).1 h; simp at hc; omega)]; rfl, hs.chg0⟩
  have c5 := of_decide_eq_false hc
  clear hc
  (refine ql_gyes rfl ?_; refine ql_pure tabOk rfl rfl ?_; refine ql_gyes rfl ?_; refine ql_loadB tabOk rfl rfl rfl (by repeat first | exact .head _ | refine .tail _ ?_) (by rfl) ?_; refine ql_gyes rfl ?_; refine ql_pure tabOk rfl rfl ?_; refine ql_gyes rfl ?_; refine ql_pure tabOk rfl rfl ?_; refine ql_gyes rfl ?_; (iterate 3 refine ql_pure tabOk rfl rfl ?_))
  refine ql_split rfl rfl (fun hc => ?_) (fun hc => ?_)
  · ((iterate 5 refine ql_gno rfl rfl rfl ?_); refine ql_pure tabOk rfl rfl ?_; refine q_nil ?_; refine q_cond_true rfl ?_; refine q_seq ?_; refine q_region ?_; refine ql_pure tabOk rfl rfl ?_; refine q_nil ?_; refine q_ret ?_)
    refine q_fin tabOk rfl (by repeat (first | exact RVs.nil | apply RVs.tmp rfl | apply RVs.cellA rfl rfl (by repeat first | exact .head _ | refine .tail _ ?_) (by rfl) | apply RVs.cell1 rfl rfl (by repeat first | exact .head _ | refine .tail _ ?_))) fun w hs => ?_
    exact ⟨by rw [ck2 (fun h => by have := (cntB_iff r).1 h; simp at hc; omega)]; rfl, hs.chg0⟩
  simp at hc
  have c6 := hc
  clear hc
  (refine ql_gyes rfl ?_; refine ql_pure tabOk rfl rfl ?_; refine ql_gyes rfl ?_; refine ql_loadB tabOk rfl rfl rfl (by repeat first | exact .head _ | refine .tail _ ?_) (by rfl) ?_; refine ql_gyes rfl ?_; refine ql_pure tabOk rfl rfl ?_; refine ql_gyes rfl ?_; refine ql_pure tabOk rfl rfl ?_; refine ql_gyes rfl ?_; (iterate 2 refine ql_pure tabOk rfl rfl ?_); refine q_nil ?_)
  refine q_ifn rfl (fun hc => ?_) (fun hc => ?_)
  · (refine q_seq ?_; refine q_region ?_; refine ql_pure tabOk rfl rfl ?_; refine q_nil ?_; refine q_ret ?_)
    refine q_fin tabOk rfl (by repeat (first | exact RVs.nil | apply RVs.tmp rfl | apply RVs.cellA rfl rfl (by repeat first | exact .head _ | refine .tail _ ?_) (by rfl) | apply RVs.cell1 rfl rfl (by repeat first | exact .head _ | refine .tail _ ?_))) fun w hs => ?_
    exact ⟨by rw [ck2 (fun h => by have := (cntB_iff r).1 h; omega)]; rfl, hs.chg0⟩
  have c7 : r.next.length = r.drifts.length := by omega
  clear hc
  (refine q_skip ?_; (iterate 2 refine q_seq ?_); refine q_region ?_; refine ql_pure tabOk rfl rfl ?_; refine q_nil ?_; refine q_block ?_)
  refine q_loop (σ := Nat) (fun k => k ≤ r.next.length ∧ (r.next.take k).all (fun l => decide (l.length = r.drifts.length)) = true) (fun k => r.next.length - k) (fun k => [(1, .pointer (some ⟨b1, 0, none⟩)), (3, .int .i64 r.drifts.length), (4, .int .i64 k)])
    (fun _ => [.pt b1 [.int .i64 r.radius, .int .i64 r.unit, .int .i64 r.clicks, .int .i64 r.total, .slice ag r.group.length cg, .slice ad r.drifts.length cd, .slice af r.first.length cf, .slice an r.next.length cn] 34]) 0 ⟨by omega, rfl⟩ ⟨rfl, rfl, rfl, trivial⟩ (Sp.refl _) ?_
  rintro k ⟨hk, hall⟩ K hK
  ((iterate 2 refine q_seq ?_); refine q_region ?_; (iterate 3 refine ql_pure tabOk rfl rfl ?_); refine q_nil ?_)
  refine q_if rfl (fun hc => ?_) (fun hc => ?_)
  · have hk2 : k < r.next.length := by omega
    clear hc
    obtain ⟨bs, off, rfl⟩ := hsn (by omega)
    obtain ⟨ar, cr, hrow, hcell⟩ := hn.row k hk2
    (refine q_skip ?_; refine q_seq ?_; refine q_block ?_; refine q_seq ?_; refine q_region ?_; refine ql_pure tabOk rfl rfl ?_; refine ql_loadB tabOk rfl rfl rfl (by repeat first | exact .head _ | refine .tail _ ?_) (by rfl) ?_; refine ql_pure tabOk rfl rfl ?_)
    refine ql_index tabOk rfl rfl rfl rfl rfl (by omega) (by omega) ?_
    refine ql_load1 (v := .slice ar r.next[k].length cr) tabOk rfl rfl rfl (fun w' hs => hcell w' hs.chg0) ?_
    ((iterate 3 refine ql_pure tabOk rfl rfl ?_); refine q_nil ?_)
    refine q_ifn rfl (fun hc => ?_) (fun hc => ?_)
    · (refine q_seq ?_; refine q_region ?_; refine ql_pure tabOk rfl rfl ?_; refine q_nil ?_; refine q_ret ?_)
      refine q_fin tabOk rfl (by repeat (first | exact RVs.nil | apply RVs.tmp rfl | apply RVs.cellA rfl rfl (by repeat first | exact .head _ | refine .tail _ ?_) (by rfl) | apply RVs.cell1 rfl rfl (by repeat first | exact .head _ | refine .tail _ ?_))) fun w hs => ?_
      exact ⟨by rw [ck2 (fun h => by have := ((cntB_iff r).1 h).2.2.2.2.2.2.2 _ (List.getElem_mem hk2); omega)]; rfl, hs.chg0⟩
    · (refine q_skip ?_; refine q_blk ?_; refine q_region ?_; refine ql_pure tabOk rfl rfl ?_; refine ql_ar tabOk rfl rfl rfl rfl (by omega) (by omega) ?_; refine ql_pure tabOk rfl rfl ?_; refine q_nil ?_)
      exact hK (k + 1) _ _ ⟨by omega, all_take_succ hk2 hall (by simp; omega)⟩ (by omega) ⟨rfl, rfl, rfl, trivial⟩ (by repeat (first | exact Sp.nil | exact Sp.refl _ | refine Sp.cons (by repeat constructor) ?_))
  obtain rfl : k = r.next.length := by omega
  rw [List.take_length] at hall
  clear hc hK
  have hrows : ∀ l ∈ r.next, l.length = r.drifts.length := fun l hl => by simpa using List.all_eq_true.1 hall l hl
  have cnt : cntB r = true := (cntB_iff r).2 ⟨by omega, by omega, by omega, by omega, by omega, by omega, by omega, hrows⟩
  (refine q_exit _ rfl ?_; (iterate 2 refine q_seq ?_); refine q_region ?_; refine ql_pure tabOk rfl rfl ?_; refine ql_loadB tabOk rfl rfl rfl (by repeat first | exact .head _ | refine .tail _ ?_) (by rfl) ?_)
  refine ql_callv (val := .bool (!(inB r.radius 0 200))) tabOk rfl rfl rfl rfl (fun w hs => ?_) ?_; exact off_ca r.radius 0 200 w
  (refine ql_pure tabOk rfl rfl ?_)
  refine ql_split rfl rfl (fun hc => ?_) (fun hc => ?_)
  · ((iterate 3 refine ql_gno rfl rfl rfl ?_); (iterate 2 refine ql_pure tabOk rfl rfl ?_); (iterate 3 refine ql_gno rfl rfl rfl ?_); (iterate 2 refine ql_pure tabOk rfl rfl ?_); (iterate 3 refine ql_gno rfl rfl rfl ?_); (iterate 2 refine ql_pure tabOk rfl rfl ?_); (iterate 3 refine ql_gno rfl rfl rfl ?_); (iterate 2 refine ql_pure tabOk rfl rfl ?_); (iterate 3 refine ql_gno rfl rfl rfl ?_); (iterate 2 refine ql_pure tabOk rfl rfl ?_); (iterate 5 refine ql_gno rfl rfl rfl ?_); refine ql_pure tabOk rfl rfl ?_; refine q_nil ?_; refine q_cond_true rfl ?_; refine q_seq ?_; refine q_region ?_; refine ql_pure tabOk rfl rfl ?_; refine q_nil ?_; refine q_ret ?_)
    refine q_fin tabOk rfl (by repeat (first | exact RVs.nil | apply RVs.tmp rfl | apply RVs.cellA rfl rfl (by repeat first | exact .head _ | refine .tail _ ?_) (by rfl) | apply RVs.cell1 rfl rfl (by repeat first | exact .head _ | refine .tail _ ?_))) fun w hs => ?_
    exact ⟨by rw [ck3 cnt (fun h _ _ => by simp at hc; simp [rng1B, hc] at h)]; rfl, hs.chg0⟩
  simp at hc
  have d1 := hc
  clear hc
  (refine ql_gyes rfl ?_; refine ql_pure tabOk rfl rfl ?_; refine ql_gyes rfl ?_; refine ql_loadB tabOk rfl rfl rfl (by repeat first | exact .head _ | refine .tail _ ?_) (by rfl) ?_; refine ql_gyes rfl ?_)
  refine ql_callv (val := .bool (!(inB r.unit 1 20))) tabOk rfl rfl rfl rfl (fun w hs => ?_) ?_; exact off_ca r.unit 1 20 w
  ((iterate 2 refine ql_pure tabOk rfl rfl ?_))
  refine ql_split rfl rfl (fun hc => ?_) (fun hc => ?_)
  · ((iterate 3 refine ql_gno rfl rfl rfl ?_); (iterate 2 refine ql_pure tabOk rfl rfl ?_); (iterate 3 refine ql_gno rfl rfl rfl ?_); (iterate 2 refine ql_pure tabOk rfl rfl ?_); (iterate 3 refine ql_gno rfl rfl rfl ?_); (iterate 2 refine ql_pure tabOk rfl rfl ?_); (iterate 3 refine ql_gno rfl rfl rfl ?_); (iterate 2 refine ql_pure tabOk rfl rfl ?_); (iterate 5 refine ql_gno rfl rfl rfl ?_); refine ql_pure tabOk rfl rfl ?_; refine q_nil ?_; refine q_cond_true rfl ?_; refine q_seq ?_; refine q_region ?_; refine ql_pure tabOk rfl rfl ?_; refine q_nil ?_; refine q_ret ?_)
    refine q_fin tabOk rfl (by repeat (first | exact RVs.nil | apply RVs.tmp rfl | apply RVs.cellA rfl rfl (by repeat first | exact .head _ | refine .tail _ ?_) (by rfl) | apply RVs.cell1 rfl rfl (by repeat first | exact .head _ | refine .tail _ ?_))) fun w hs => ?_
    exact ⟨by rw [ck3 cnt (fun h _ _ => by simp at hc; simp [rng1B, hc] at h)]; rfl, hs.chg0⟩
  simp at hc
  have d2 := hc
  clear hc
  (refine ql_gyes rfl ?_; refine ql_pure tabOk rfl rfl ?_; refine ql_gyes rfl ?_; refine ql_loadB tabOk rfl rfl rfl (by repeat first | exact .head _ | refine .tail _ ?_) (by rfl) ?_; refine ql_gyes rfl ?_)
  refine ql_callv (val := .bool (!(inB r.clicks 0 6))) tabOk rfl rfl rfl rfl (fun w hs => ?_) ?_; exact off_ca r.clicks 0 6 w
  ((iterate 2 refine ql_pure tabOk rfl rfl ?_))
  refine ql_split rfl rfl (fun hc => ?_) (fun hc => ?_)
  · ((iterate 3 refine ql_gno rfl rfl rfl ?_); (iterate 2 refine ql_pure tabOk rfl rfl ?_); (iterate 3 refine ql_gno rfl rfl rfl ?_); (iterate 2 refine ql_pure tabOk rfl rfl ?_); (iterate 3 refine ql_gno rfl rfl rfl ?_); (iterate 2 refine ql_pure tabOk rfl rfl ?_); (iterate 5 refine ql_gno rfl rfl rfl ?_); refine ql_pure tabOk rfl rfl ?_; refine q_nil ?_; refine q_cond_true rfl ?_; refine q_seq ?_; refine q_region ?_; refine ql_pure tabOk rfl rfl ?_; refine q_nil ?_; refine q_ret ?_)
    refine q_fin tabOk rfl (by repeat (first | exact RVs.nil | apply RVs.tmp rfl | apply RVs.cellA rfl rfl (by repeat first | exact .head _ | refine .tail _ ?_) (by rfl) | apply RVs.cell1 rfl rfl (by repeat first | exact .head _ | refine .tail _ ?_))) fun w hs => ?_
    exact ⟨by rw [ck3 cnt (fun h _ _ => by simp at hc; simp [rng1B, hc] at h)]; rfl, hs.chg0⟩
  simp at hc
  have d3 := hc
  clear hc
  (refine ql_gyes rfl ?_; refine ql_pure tabOk rfl rfl ?_; refine ql_gyes rfl ?_; refine ql_loadB tabOk rfl rfl rfl (by repeat first | exact .head _ | refine .tail _ ?_) (by rfl) ?_; refine ql_gyes rfl ?_)
  refine ql_callv (val := .bool (!(inB r.total 1 12))) tabOk rfl rfl rfl rfl (fun w hs => ?_) ?_; exact off_ca r.total 1 12 w
  ((iterate 2 refine ql_pure tabOk rfl rfl ?_))
  refine ql_split rfl rfl (fun hc => ?_) (fun hc => ?_)
  · ((iterate 3 refine ql_gno rfl rfl rfl ?_); (iterate 2 refine ql_pure tabOk rfl rfl ?_); (iterate 3 refine ql_gno rfl rfl rfl ?_); (iterate 2 refine ql_pure tabOk rfl rfl ?_); (iterate 5 refine ql_gno rfl rfl rfl ?_); refine ql_pure tabOk rfl rfl ?_; refine q_nil ?_; refine q_cond_true rfl ?_; refine q_seq ?_; refine q_region ?_; refine ql_pure tabOk rfl rfl ?_; refine q_nil ?_; refine q_ret ?_)
    refine q_fin tabOk rfl (by repeat (first | exact RVs.nil | apply RVs.tmp rfl | apply RVs.cellA rfl rfl (by repeat first | exact .head _ | refine .tail _ ?_) (by rfl) | apply RVs.cell1 rfl rfl (by repeat first | exact .head _ | refine .tail _ ?_))) fun w hs => ?_
    exact ⟨by rw [ck3 cnt (fun h _ _ => by simp at hc; simp [rng1B, hc] at h)]; rfl, hs.chg0⟩
  simp at hc
  have rng1 : rng1B r = true := by simp [rng1B, d1, d2, d3, hc]
  have htot := inB_iff.1 hc
  clear d1 d2 d3 hc
  (refine ql_gyes rfl ?_; refine ql_pure tabOk rfl rfl ?_; refine ql_gyes rfl ?_; refine ql_loadB tabOk rfl rfl rfl (by repeat first | exact .head _ | refine .tail _ ?_) (by rfl) ?_; refine ql_gyes rfl ?_)
  refine ql_callv (val := .bool (!(r.drifts.all fun n => inB n (-300) 300))) tabOk rfl rfl rfl rfl (fun w hs => ?_) ?_; exact roffs_ca w lo hi _ r.drifts (-300) 300 (RdE.keep hdr hs.chg0) (by omega)
  ((iterate 2 refine ql_pure tabOk rfl rfl ?_))
  refine ql_split rfl rfl (fun hc => ?_) (fun hc => ?_)
  · ((iterate 3 refine ql_gno rfl rfl rfl ?_); (iterate 2 refine ql_pure tabOk rfl rfl ?_); (iterate 5 refine ql_gno rfl rfl rfl ?_); refine ql_pure tabOk rfl rfl ?_; refine q_nil ?_; refine q_cond_true rfl ?_; refine q_seq ?_; refine q_region ?_; refine ql_pure tabOk rfl rfl ?_; refine q_nil ?_; refine q_ret ?_)
    refine q_fin tabOk rfl (by repeat (first | exact RVs.nil | apply RVs.tmp rfl | apply RVs.cellA rfl rfl (by repeat first | exact .head _ | refine .tail _ ?_) (by rfl) | apply RVs.cell1 rfl rfl (by repeat first | exact .head _ | refine .tail _ ?_))) fun w hs => ?_
    exact ⟨by rw [ck3 cnt (fun _ h _ => by unfold rng2B at h; rw [Bool.and_eq_true] at h; rw [h.1] at hc; cases hc)]; rfl, hs.chg0⟩
  rw [Bool.not_eq_false'] at hc
  have d1 := hc
  clear hc
  (refine ql_gyes rfl ?_; refine ql_pure tabOk rfl rfl ?_; refine ql_gyes rfl ?_; refine ql_loadB tabOk rfl rfl rfl (by repeat first | exact .head _ | refine .tail _ ?_) (by rfl) ?_; refine ql_gyes rfl ?_)
  refine ql_callv (val := .bool (!(r.group.all fun n => inB n 0 100))) tabOk rfl rfl rfl rfl (fun w hs => ?_) ?_; exact roffs_ca w lo hi _ r.group 0 100 (RdE.keep hg hs.chg0) (by omega)
  ((iterate 2 refine ql_pure tabOk rfl rfl ?_))
  refine ql_split rfl rfl (fun hc => ?_) (fun hc => ?_)
  · ((iterate 5 refine ql_gno rfl rfl rfl ?_); refine ql_pure tabOk rfl rfl ?_; refine q_nil ?_; refine q_cond_true rfl ?_; refine q_seq ?_; refine q_region ?_; refine ql_pure tabOk rfl rfl ?_; refine q_nil ?_; refine q_ret ?_)
    refine q_fin tabOk rfl (by repeat (first | exact RVs.nil | apply RVs.tmp rfl | apply RVs.cellA rfl rfl (by repeat first | exact .head _ | refine .tail _ ?_) (by rfl) | apply RVs.cell1 rfl rfl (by repeat first | exact .head _ | refine .tail _ ?_))) fun w hs => ?_
    exact ⟨by rw [ck3 cnt (fun _ h _ => by unfold rng2B at h; rw [Bool.and_eq_true] at h; rw [h.2] at hc; cases hc)]; rfl, hs.chg0⟩
  rw [Bool.not_eq_false'] at hc
  have rng2 : rng2B r = true := by simp only [rng2B, Bool.and_eq_true]; exact ⟨d1, hc⟩
  have hgr : ∀ x ∈ r.group, -1000000 ≤ x ∧ x ≤ 1000000 := fun x hx => by
    have := inB_iff.1 (List.all_eq_true.1 hc x hx)
    omega
  clear d1 hc
  (refine ql_gyes rfl ?_; refine ql_pure tabOk rfl rfl ?_; refine ql_gyes rfl ?_; refine ql_loadB tabOk rfl rfl rfl (by repeat first | exact .head _ | refine .tail _ ?_) (by rfl) ?_; refine ql_gyes rfl ?_; refine ql_pure tabOk rfl rfl ?_; refine ql_gyes rfl ?_; refine ql_loadB tabOk rfl rfl rfl (by repeat first | exact .head _ | refine .tail _ ?_) (by rfl) ?_; refine ql_gyes rfl ?_)
  refine ql_callv (val := .bool (!(r.first.all fun n => inB n 0 r.total))) tabOk rfl rfl rfl rfl (fun w hs => ?_) ?_; exact roffs_ca w lo hi _ r.first 0 r.total (RdE.keep hf hs.chg0) (by omega)
  (refine ql_pure tabOk rfl rfl ?_; refine q_nil ?_)
  refine q_cond rfl (fun hc => ?_) (fun hc => ?_)
  · (refine q_seq ?_; refine q_region ?_; refine ql_pure tabOk rfl rfl ?_; refine q_nil ?_; refine q_ret ?_)
    refine q_fin tabOk rfl (by repeat (first | exact RVs.nil | apply RVs.tmp rfl | apply RVs.cellA rfl rfl (by repeat first | exact .head _ | refine .tail _ ?_) (by rfl) | apply RVs.cell1 rfl rfl (by repeat first | exact .head _ | refine .tail _ ?_))) fun w hs => ?_
    exact ⟨by rw [ck3 cnt (fun _ _ h => by unfold rng3B at h; rw [Bool.and_eq_true] at h; rw [h.1] at hc; cases hc)]; rfl, hs.chg0⟩
  have d1 : (r.first.all fun n => inB n 0 r.total) = true := by simpa using hc
  clear hc
  have hfr : ∀ x ∈ r.first, -1000000 ≤ x ∧ x ≤ 1000000 := fun x hx => by
    have := inB_iff.1 (List.all_eq_true.1 d1 x hx)
    omega
  (refine q_skip ?_; (iterate 2 refine q_seq ?_); refine q_region ?_; refine ql_pure tabOk rfl rfl ?_; refine q_nil ?_; refine q_block ?_)
  refine q_loop (σ := Nat) (fun k => k ≤ r.next.length ∧ (r.next.take k).all (fun l => l.all (fun n => inB n 0 r.total)) = true) (fun k => r.next.length - k) (fun k => [(1, .pointer (some ⟨b1, 0, none⟩)), (3, .int .i64 r.drifts.length), (5, .int .i64 k)])
    (fun _ => [.pt b1 [.int .i64 r.radius, .int .i64 r.unit, .int .i64 r.clicks, .int .i64 r.total, .slice ag r.group.length cg, .slice ad r.drifts.length cd, .slice af r.first.length cf, .slice an r.next.length cn] 34]) 0 ⟨by omega, rfl⟩ ⟨rfl, rfl, rfl, trivial⟩ (Sp.refl _) ?_
  rintro k ⟨hk, hall⟩ K hK
  ((iterate 2 refine q_seq ?_); refine q_region ?_; (iterate 3 refine ql_pure tabOk rfl rfl ?_); refine q_nil ?_)
  refine q_if rfl (fun hc => ?_) (fun hc => ?_)
  · have hk2 : k < r.next.length := by omega
    clear hc
    obtain ⟨bs, off, rfl⟩ := hsn (by omega)
    obtain ⟨ar, cr, hrow, hcell⟩ := hn.row k hk2
    have hrl := hrows _ (List.getElem_mem hk2)
    (refine q_skip ?_; refine q_seq ?_; refine q_block ?_; refine q_seq ?_)
    refine q_draw _ [] (Sp.refl _) (by kernel_rfl) (by kernel_rfl) ?_
    (refine qf_pure tabOk rfl rfl rfl ?_; refine qf_loadB tabOk rfl rfl rfl (by repeat first | exact .head _ | refine .tail _ ?_) (by rfl) ?_; refine qf_pure tabOk rfl rfl rfl ?_)
    refine qf_index tabOk rfl rfl rfl rfl rfl (by omega) (by omega) ?_
    refine qf_load1 (v := .slice ar r.next[k].length cr) tabOk rfl rfl rfl (fun w' hs => hcell w' hs.chg0) ?_
    (refine qf_pure tabOk rfl rfl rfl ?_; refine qf_loadB tabOk rfl rfl rfl (by repeat first | exact .head _ | refine .tail _ ?_) (by rfl) ?_)
    refine qf_callv (val := .bool (!(r.next[k].all fun n => inB n 0 r.total))) tabOk rfl rfl rfl rfl (fun w hs => ?_) ?_; exact roffs_ca w lo hi _ r.next[k] 0 r.total (RdE.keep hrow hs.chg0) (by omega)
    (refine qf_nil ?_)
    refine q_cond rfl (fun hc => ?_) (fun hc => ?_)
    · (refine q_seq ?_; refine q_region ?_; refine ql_pure tabOk rfl rfl ?_; refine q_nil ?_; refine q_ret ?_)
      refine q_fin tabOk rfl (by repeat (first | exact RVs.nil | apply RVs.tmp rfl | apply RVs.cellA rfl rfl (by repeat first | exact .head _ | refine .tail _ ?_) (by rfl) | apply RVs.cell1 rfl rfl (by repeat first | exact .head _ | refine .tail _ ?_))) fun w hs => ?_
      exact ⟨by rw [ck3 cnt (fun _ _ h => by unfold rng3B at h; rw [Bool.and_eq_true] at h; rw [List.all_eq_true.1 h.2 _ (List.getElem_mem hk2)] at hc; cases hc)]; rfl, hs.chg0⟩
    · (refine q_skip ?_; refine q_blk ?_; refine q_region ?_; refine ql_pure tabOk rfl rfl ?_; refine ql_ar tabOk rfl rfl rfl rfl (by omega) (by omega) ?_; refine ql_pure tabOk rfl rfl ?_; refine q_nil ?_)
      exact hK (k + 1) _ _ ⟨by omega, all_take_succ hk2 hall (by simpa using hc)⟩ (by omega) ⟨rfl, rfl, rfl, trivial⟩ (by repeat (first | exact Sp.nil | exact Sp.refl _ | refine Sp.cons (by repeat constructor) ?_))
  obtain rfl : k = r.next.length := by omega
  rw [List.take_length] at hall
  clear hc hK
  have rng3 : rng3B r = true := by simp only [rng3B, Bool.and_eq_true]; exact ⟨d1, hall⟩
  have hnr : ∀ l ∈ r.next, l.length < 1000000 ∧ ∀ x ∈ l, -1000000 ≤ x ∧ x ≤ 1000000 := fun l hl => ⟨by have := hrows l hl; omega, fun x hx => by
    have := inB_iff.1 (List.all_eq_true.1 (List.all_eq_true.1 hall l hl) x hx)
    omega⟩
  clear hall d1
  (refine q_exit _ rfl ?_; (iterate 2 refine q_seq ?_))
  refine q_draw _ [] (Sp.refl _) (by kernel_rfl) (by kernel_rfl) ?_
  (refine qf_pure tabOk rfl rfl rfl ?_; refine qf_loadB tabOk rfl rfl rfl (by repeat first | exact .head _ | refine .tail _ ?_) (by rfl) ?_)
  refine qf_callv (val := .int .i64 r.group.sum) tabOk rfl rfl rfl rfl (fun w hs => ?_) ?_; exact rtotal_ca w lo hi _ r.group (RdE.keep hg hs.chg0) (by omega) hgr
  skip
  refine qf_callv (val := .bool (!(inB r.group.sum 1 100))) tabOk rfl rfl rfl rfl (fun w hs => ?_) ?_; exact off_ca r.group.sum 1 100 w
  (refine qf_pure tabOk rfl rfl rfl ?_)
  refine qf_split rfl rfl (fun hc => ?_) (fun hc => ?_)
  · ((iterate 6 refine qf_gno rfl rfl rfl ?_); refine qf_pure tabOk rfl rfl rfl ?_; refine qf_nil ?_; refine q_cond_true rfl ?_; refine q_seq ?_; refine q_region ?_; refine ql_pure tabOk rfl rfl ?_; refine q_nil ?_; refine q_ret ?_)
    refine q_fin tabOk rfl (by repeat (first | exact RVs.nil | apply RVs.tmp rfl | apply RVs.cellA rfl rfl (by repeat first | exact .head _ | refine .tail _ ?_) (by rfl) | apply RVs.cell1 rfl rfl (by repeat first | exact .head _ | refine .tail _ ?_))) fun w hs => ?_
    exact ⟨by rw [ck7 cnt rng1 rng2 rng3 (fun h => by simp only [cnfB, Bool.and_eq_true] at h; rw [h.1.1] at hc; cases hc)]; rfl, hs.chg0⟩
  have e1 : inB r.group.sum 1 100 = true := by simpa using hc
  clear hc
  (refine qf_gyes rfl ?_; refine qf_pure tabOk rfl rfl rfl ?_; refine qf_gyes rfl ?_; refine qf_loadB tabOk rfl rfl rfl (by repeat first | exact .head _ | refine .tail _ ?_) (by rfl) ?_; refine qf_gyes rfl ?_)
  refine qf_callv (val := .int .i64 r.first.sum) tabOk rfl rfl rfl rfl (fun w hs => ?_) ?_; exact rtotal_ca w lo hi _ r.first (RdE.keep hf hs.chg0) (by omega) hfr
  (refine qf_gyes rfl ?_; refine qf_pure tabOk rfl rfl rfl ?_; refine qf_gyes rfl ?_; refine qf_loadB tabOk rfl rfl rfl (by repeat first | exact .head _ | refine .tail _ ?_) (by rfl) ?_; refine qf_gyes rfl ?_; (iterate 2 refine qf_pure tabOk rfl rfl rfl ?_); refine qf_nil ?_)
  refine q_ifn rfl (fun hc => ?_) (fun hc => ?_)
  · (refine q_seq ?_; refine q_region ?_; refine ql_pure tabOk rfl rfl ?_; refine q_nil ?_; refine q_ret ?_)
    refine q_fin tabOk rfl (by repeat (first | exact RVs.nil | apply RVs.tmp rfl | apply RVs.cellA rfl rfl (by repeat first | exact .head _ | refine .tail _ ?_) (by rfl) | apply RVs.cell1 rfl rfl (by repeat first | exact .head _ | refine .tail _ ?_))) fun w hs => ?_
    exact ⟨by rw [ck7 cnt rng1 rng2 rng3 (fun h => by simp only [cnfB, Bool.and_eq_true, decide_eq_true_eq] at h; exact hc h.1.2)]; rfl, hs.chg0⟩
  have e2 : r.first.sum = r.total := by simpa using hc
  clear hc
  (refine q_skip ?_; (iterate 2 refine q_seq ?_); refine q_region ?_; refine ql_pure tabOk rfl rfl ?_; refine q_nil ?_; refine q_block ?_)
  refine q_loop (σ := Nat) (fun k => k ≤ r.next.length ∧ (r.next.take k).all (fun l => decide (l.sum = r.total) && true) = true) (fun k => r.next.length - k) (fun k => [(1, .pointer (some ⟨b1, 0, none⟩)), (3, .int .i64 r.drifts.length), (6, .int .i64 k)])
    (fun _ => [.pt b1 [.int .i64 r.radius, .int .i64 r.unit, .int .i64 r.clicks, .int .i64 r.total, .slice ag r.group.length cg, .slice ad r.drifts.length cd, .slice af r.first.length cf, .slice an r.next.length cn] 34]) 0 ⟨by omega, rfl⟩ ⟨rfl, rfl, rfl, trivial⟩ (Sp.refl _) ?_
  rintro k ⟨hk, hall⟩ K hK
  ((iterate 2 refine q_seq ?_); refine q_region ?_; (iterate 3 refine ql_pure tabOk rfl rfl ?_); refine q_nil ?_)
  refine q_if rfl (fun hc => ?_) (fun hc => ?_)
  · have hk2 : k < r.next.length := by omega
    clear hc
    obtain ⟨bs, off, rfl⟩ := hsn (by omega)
    obtain ⟨ar, cr, hrow, hcell⟩ := hn.row k hk2
    have hrl := hnr _ (List.getElem_mem hk2)
    (refine q_skip ?_; refine q_seq ?_; refine q_block ?_; refine q_seq ?_)
    refine q_draw _ [] (Sp.refl _) (by kernel_rfl) (by kernel_rfl) ?_
    (refine qf_pure tabOk rfl rfl rfl ?_; refine qf_loadB tabOk rfl rfl rfl (by repeat first | exact .head _ | refine .tail _ ?_) (by rfl) ?_; refine qf_pure tabOk rfl rfl rfl ?_)
    refine qf_index tabOk rfl rfl rfl rfl rfl (by omega) (by omega) ?_
    refine qf_load1 (v := .slice ar r.next[k].length cr) tabOk rfl rfl rfl (fun w' hs => hcell w' hs.chg0) ?_
    skip
    refine qf_callv (val := .int .i64 r.next[k].sum) tabOk rfl rfl rfl rfl (fun w hs => ?_) ?_; exact rtotal_ca w lo hi _ r.next[k] (RdE.keep hrow hs.chg0) hrl.1 hrl.2
    (refine qf_pure tabOk rfl rfl rfl ?_; refine qf_loadB tabOk rfl rfl rfl (by repeat first | exact .head _ | refine .tail _ ?_) (by rfl) ?_; refine qf_pure tabOk rfl rfl rfl ?_; refine qf_nil ?_)
    refine q_ifn rfl (fun hc => ?_) (fun hc => ?_)
    · (refine q_seq ?_; refine q_region ?_; refine ql_pure tabOk rfl rfl ?_; refine q_nil ?_; refine q_ret ?_)
      refine q_fin tabOk rfl (by repeat (first | exact RVs.nil | apply RVs.tmp rfl | apply RVs.cellA rfl rfl (by repeat first | exact .head _ | refine .tail _ ?_) (by rfl) | apply RVs.cell1 rfl rfl (by repeat first | exact .head _ | refine .tail _ ?_))) fun w hs => ?_
      exact ⟨by rw [ck7 cnt rng1 rng2 rng3 (fun h => by simp only [cnfB, Bool.and_eq_true] at h; have := List.all_eq_true.1 h.2 _ (List.getElem_mem hk2); simp at this; exact hc this)]; rfl, hs.chg0⟩
    · (refine q_skip ?_; refine q_blk ?_; refine q_region ?_; refine ql_pure tabOk rfl rfl ?_; refine ql_ar tabOk rfl rfl rfl rfl (by omega) (by omega) ?_; refine ql_pure tabOk rfl rfl ?_; refine q_nil ?_)
      exact hK (k + 1) _ _ ⟨by omega, all_take_succ hk2 hall (by simpa using hc)⟩ (by omega) ⟨rfl, rfl, rfl, trivial⟩ (by repeat (first | exact Sp.nil | exact Sp.refl _ | refine Sp.cons (by repeat constructor) ?_))
  obtain rfl : k = r.next.length := by omega
  rw [List.take_length] at hall
  clear hc hK
  (refine q_exit _ rfl ?_; refine q_seq ?_; refine q_region ?_; refine ql_pure tabOk rfl rfl ?_; refine q_nil ?_; refine q_ret ?_)
  refine q_fin tabOk rfl (by repeat (first | exact RVs.nil | apply RVs.tmp rfl | apply RVs.cellA rfl rfl (by repeat first | exact .head _ | refine .tail _ ?_) (by rfl) | apply RVs.cell1 rfl rfl (by repeat first | exact .head _ | refine .tail _ ?_))) fun w hs => ?_
  exact ⟨by rw [ck0 cnt rng1 rng2 rng3 (by simp only [cnfB, Bool.and_eq_true, decide_eq_true_eq]; exact ⟨⟨e1, e2⟩, hall⟩)]; rfl, hs.chg0⟩
end Go.Proofs.YtohlillcaadidaaGreat
