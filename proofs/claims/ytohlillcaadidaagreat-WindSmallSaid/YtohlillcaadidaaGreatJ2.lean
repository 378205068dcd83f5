/- My texts V2, B5, V3, V4, Every, V5, V6, V7, V8, V9, V10, V11, V12, V13, V14, R0, P0, P1, E0, E1, B6, B7, B8, S0, S1, S2, S3, S4, joined: a claim takes at most 60 files. -/
import Derived.Test.YtohlillcaadidaaGreatJ1
import Derived.Laws.CopyRow
import Derived.Laws.MakeOwn
import Derived.Laws.OwnMore
import Derived.Laws.Slices
import Derived.Laws.StructEq

/- Walks: fractions; the weight of the offsets that miss. -/
namespace Go.Proofs.YtohlillcaadidaaGreat
open Go Go.Eng

theorem gK {a b A B : Int} (ha : -A ≤ a ∧ a ≤ A) (hb : -B ≤ b ∧ b ≤ B) : -(A * B) ≤ a * b ∧ a * b ≤ A * B := by
 have hA : 0 ≤ A := by omega
 have hB : 0 ≤ B := by omega
 have h1 : a.natAbs * b.natAbs ≤ A.natAbs * B.natAbs := Nat.mul_le_mul O O
 have h2 : (a * b).natAbs ≤ (A * B).natAbs := by rw [Int.natAbs_mul, Int.natAbs_mul]; exact h1
 have h3 : 0 ≤ A * B := Int.mul_nonneg hA hB
 omega
theorem bR {a b A B : Int} (ha : 0 ≤ a ∧ a ≤ A) (hb : 0 ≤ b ∧ b ≤ B) : 0 ≤ a * b ∧ a * b ≤ A * B :=
 ⟨Int.mul_nonneg ha.1 hb.1, (gK ⟨by omega, ha.2⟩ ⟨by omega, hb.2⟩).2⟩

/-- A fraction in lowest terms. -/
def ratioV (n d : Int) : Int × Int := (n / (Int.gcd n d : Int), d / (Int.gcd n d : Int))
def rtV (q : Int × Int) : Value := .agg #[.int .i64 q.1, .int .i64 q.2]

theorem gcd_step (a b : Int) : Int.gcd b (a % b) = Int.gcd a b := by
 rw [Int.emod_def, Int.gcd_sub_mul_left_right, Int.gcd_comm]

theorem nD (n d : Int) (w : World) (hn : 0 ≤ n) (hd : 0 < d) (hn' : n < 9223372036854775808) (hd' : d < 9223372036854775808) :
  Ca Tryz.prog 84 [.int .i64 n, .int .i64 d] w fun v w' => v = rtV (ratioV n d) ∧ Chg [] w w' := by
 refine dB (Sat.nil w M0) Tryz.func84 Z (by simp [Tryz.ntmps84]) ?_
 (refine aE (aB ?_))
 refine aV cO Z (fun b4 => ?_)
 (refine aF (aE (aB ?_)); (iterate 4 refine aA V Z Z ?_); refine aF (aE (aP ?_)))
 refine bN (σ := Int × Int) (fun s => 0 ≤ s.1 ∧ 0 ≤ s.2 ∧ s.1 < 9223372036854775808 ∧ s.2 < 9223372036854775808 ∧ Int.gcd s.1 s.2 = Int.gcd n d) (fun s => s.2.toNat) (fun s => [(0, .int .i64 n), (1, .int .i64 d), (4, .pointer (some ⟨b4, 0, none⟩)), (5, .int .i64 s.1), (6, .int .i64 s.2)])
  (fun _ => [.pt b4 [.int .i64 0, .int .i64 0] 36]) (n, d) ⟨hn, by omega, hn', hd', rfl⟩ ⟨rfl, rfl, rfl, rfl, rfl, trivial⟩ (Sp.refl _) ?_
 rintro ⟨a, b⟩ ⟨h1, h2, h3, h4, h5⟩ K hK
 simp only at h1 h2 h3 h4 h5
 (refine aE (aE (aB (aA V Z Z (aA V Z Z (aF ?_))))))
 refine dD Z (fun hc => ?_) (fun hc => ?_)
 ·(refine aR (aP ?_))
  refine bX _ [] (Sp.refl _) qR qR ?_
  ((iterate 3 refine aD V Z Z Z ?_); refine bQ Z Z Z O O (aD V Z Z Z (aD V Z Z Z (aK (bL ?_)))))
  have h6 := Int.emod_nonneg a (show b ≠ 0 by omega)
  have h7 := Int.emod_lt_of_pos a (show 0 < b by omega)
  exact hK (b, a % b) _ _ ⟨h2, h6, h4, by simp only; omega, (gcd_step a b).trans h5⟩ (by simp only; omega) ⟨Z, Z, Z, Z, Z, trivial⟩ U
 ·obtain rfl : b = 0 := by omega
  have h6 : (Int.gcd n d : Int) = a := by
   rw [← h5]
   simp
   omega
  have h7 : 0 < a := by
   have : Int.gcd n d ≠ 0 := by
    intro h
    have := Int.gcd_eq_zero_iff.1 h
    omega
   omega
  (refine bJ _ Z (aE (aB (aA V Z Z (aA V Z Z (fJ V Z Z O O (aA V Z Z (aA V Z Z (aF (aE ?_))))))))))
  rw [show max a (-a) = a by omega]
  refine bX _ [.pt b4 _ _] (Sp.cons U (Sp.refl _)) qR qR ?_
  (refine aD V Z Z Z (aD V Z Z Z (dS Z Z Z O O O (aD V Z Z Z (aD V Z Z Z (dS Z Z Z O O O ?_))))))
  refine lP #[.int .i64 (n / a), .int .i64 (d / a)] Z qR Z ?_
  (refine bK V Z Z Z Z Z U Z ?_; refine aK (aW ?_))
  refine aX V Z U fun w hs => ?_
  exact ⟨by rw [ratioV, h6]; rfl, hs.chg0⟩

/-- What can be compared without wrapping. -/
def Fine (q : Int × Int) : Prop := 0 ≤ q.1 ∧ q.1 ≤ 1000000000 ∧ 0 < q.2 ∧ q.2 ≤ 1000000000
def nW (p q : Int × Int) : Bool := decide (p.1 * q.2 < q.1 * p.2) && true

theorem less_ca (p q : Int × Int) (w : World) (hp : Fine p) (hq : Fine q) :
  Ca Tryz.prog 103 [rtV p, rtV q] w fun v w' => v = .bool (nW p q) ∧ Chg [] w w' := by
 refine dB (Sat.nil w M0) Tryz.func103 Z (by simp [Tryz.ntmps103]) ?_
 obtain ⟨p1, p2, p3, p4⟩ := hp
 obtain ⟨q1, q2, q3, q4⟩ := hq
 have h1 := bR ⟨p1, p2⟩ (show 0 ≤ q.2 ∧ q.2 ≤ 1000000000 by omega)
 have h2 := bR ⟨q1, q2⟩ (show 0 ≤ p.2 ∧ p.2 ≤ 1000000000 by omega)
 (refine aE (aB ?_))
 refine bG Z Z (fun b2 => ?_)
 refine bG Z Z (fun b3 => ?_)
 (refine aA V Z Z (aF (aE (aB (aA V Z Z ?_)))); refine aH V Z Z Z ?_; refine aA V Z Z ?_; refine aH V Z Z Z ?_; refine bB V Z Z Z Z O O (aA V Z Z ?_); refine aH V Z Z Z ?_; refine aA V Z Z ?_; refine aH V Z Z Z ?_; refine bB V Z Z Z Z O O (aA V Z Z (aA V Z Z (aF (aW ?_)))))
 refine aX V Z U fun w hs => ?_
 exact ⟨by simp [fT, nW], hs.chg0⟩

/-- The weights of the offsets, those that hit counted 0. -/
def qA (r : Rg) (drift click : Int) : List Int := r.group.zipIdx.map fun p => if hitB r (drift + (p.2 : Int) - (r.group.length : Int) / 2 + click * r.unit) then 0 else p.1
def cX (r : Rg) (drift click : Int) : Int := (qA r drift click).sum
theorem dX (r : Rg) (drift click : Int) : (qA r drift click).length = r.group.length := by simp [qA]
theorem lQ (r : Rg) (drift click : Int) (k : Nat) (hk : k < r.group.length) : (qA r drift click)[k]'(by rw [dX]; exact hk) = if hitB r (drift + (k : Int) - (r.group.length : Int) / 2 + click * r.unit) then 0 else r.group[k] := by
 simp [qA]
theorem missL_bd (r : Rg) (hr : r.Right) (drift click : Int) : ∀ x ∈ qA r drift click, -100 ≤ x ∧ x ≤ 100 := by
 intro x hx
 obtain ⟨k, hk, rfl⟩ := List.getElem_of_mem hx
 have hk' : k < r.group.length := by rwa [dX] at hk
 have := hr.weight r.group[k] (List.getElem_mem hk')
 rw [lQ r drift click k hk']
 split <;> omega

theorem jR (w : World) (b : Nat) (r : Rg) (drift click : Int) (hd : DkAt w b r) (hr : r.Right) (h1 : -1000000 ≤ drift ∧ drift ≤ 1000000) (h2 : -1000 ≤ click ∧ click ≤ 1000) :
  Ca Tryz.prog 86 [.pointer (some ⟨b, 0, none⟩), .int .i64 drift, .int .i64 click] w fun v w' => v = .int .i64 (cX r drift click) ∧ Chg [] w w' := by
 have hd0 := hd
 obtain ⟨cs, bt, hblk, lo, hi, ag, cg, ad, cd, af, cf, an, cn, rfl, hg, hdr, hf, hn⟩ := hd
 obtain ⟨_, _, hsl, hsg⟩ := RdI.outI hg
 cases hsl
 have hlen : r.group.length ≤ 21 := hr.g2
 have hcu := gK h2 (show -20 ≤ r.unit ∧ r.unit ≤ 20 by have := hr.unit; omega)
 refine dB (Sat.nil w M0) Tryz.func86 Z (by simp [Tryz.ntmps86]) ?_
 (refine aE (aB (aA V Z Z (aF (aE (aB ?_))))); (iterate 3 refine aA V Z Z ?_); refine aF (aE (aB (aA V Z Z (aF (aE (aE (aB ?_))))))); (iterate 4 refine aA V Z Z ?_); refine eN V Z Z Z (by assumption) (by rfl) ?_; refine aA V Z Z (aA V Z Z (aF (aP ?_))))
 refine bN (σ := Nat) (fun k => k ≤ r.group.length) (fun k => r.group.length - k) (fun k => [(0, .pointer (some ⟨b, 0, none⟩)), (1, .int .i64 drift), (2, .int .i64 click), (7, .func (.func 90) #[.pointer (some ⟨b, 0, none⟩)] #[]), (8, .int .i64 ((qA r drift click).take k).sum), (17, .slice ag r.group.length cg), (18, .int .i64 r.group.length), (19, .int .i64 k)]) (fun _ => []) 0 O ⟨Z, Z, Z, Z, Z, Z, Z, Z, trivial⟩ .nil ?_
 intro k hk K hK
 (refine aE (aB (aA V Z Z (aF (aE ?_)))))
 refine dD Z (fun hc => ?_) (fun hc => ?_)
 ·have hk : k < r.group.length := by omega
  obtain ⟨b0, off, rfl⟩ := hsg O
  have h3 := kL (qA r drift click) k (missL_bd r hr drift click) (show (qA r drift click).length ≤ 21 by rw [dX]; omega) O
  have h4 := hr.weight r.group[k] (List.getElem_mem hk)
  have h5 := iA (qA r drift click) k (by rw [dX]; exact hk)
  rw [lQ r drift click k hk] at h5
  (refine aR (aE (aP (aE (aB (aA V Z Z ?_))))))
  (refine bW V Z Z Z Z Z O O ?_; refine cI V Z Z Z (fun w hs => RdI.at (hg.keep hs.chg0) k hk) ?_)
  (refine aA V Z Z (aA V Z Z (aF (aE ?_))))
  refine bX _ [] (Sp.refl _) qR qR ?_
  ((iterate 3 refine aD V Z Z Z ?_); refine bY V Z Z Z Z O O ?_; (iterate 4 refine aD V Z Z Z ?_); refine dO V Z Z Z (by assumption) (by rfl) ?_; refine aD V Z Z Z (dS Z Z Z O O O (bY V Z Z Z Z O O ?_)); (iterate 5 refine aD V Z Z Z ?_); refine dO V Z Z Z (by assumption) (by rfl) ?_; refine bY V Z Z Z Z O O (bY V Z Z Z Z O O ?_))
  refine aS V Z Z Z Z (fun w hs => hits_ca w b r _ (hd0.keep hs.chg0) hr.radius) ?_
  (refine aD V Z Z Z (aK ?_))
  refine jO Z (fun hc => ?_) (fun hc => ?_)
  ·simp at hc
   rw [hc] at h5
   (refine aB (aA V Z Z (aA V Z Z (bB V Z Z Z Z O O (aA V Z Z (aF (bL (aB (bB V Z Z Z Z O O (aA V Z Z (aF ?_)))))))))))
   exact hK (k + 1) _ _ O O ⟨Z, Z, Z, Z, by rw [h5]; rfl, Z, Z, Z, trivial⟩ U
  ·simp at hc
   rw [hc] at h5
   (refine aR (bL (aB (bB V Z Z Z Z O O (aA V Z Z (aF ?_))))))
   exact hK (k + 1) _ _ O O ⟨Z, Z, Z, Z, by rw [h5]; simp; rfl, Z, Z, Z, trivial⟩ U
 ·obtain rfl : k = r.group.length := by omega
  (refine bJ _ Z (aE (aB (aA V Z Z (aA V Z Z (aF (aW ?_)))))))
  refine aX V Z U fun w hs => ?_
  exact ⟨by rw [cX, List.take_of_length_le (by rw [dX]; omega)]; rfl, hs.chg0⟩

end Go.Proofs.YtohlillcaadidaaGreat

/- The engine, part B5: arrays as values; slices of arrays; copy; make. -/
namespace Go.Eng
open Go Go.RowKit

section
variable {P : Program} {T : Tab}
variable {ro : Cx} {n n' : Nat} {F : Fin} {w0 : World} {M : Nat → Prop} {k : List It} {ops : Array Oper} {rest : List Oper} {e : Env} {H Hq : List Ck}

/-- An element of an array that is a value. -/
theorem run_ixA (hT : T.Ok P) {t len et : Nat} {cs : Array Value} {ik : IntKind} {i : Int} {v : Value} (hA : arrB P t len et 1 = true) (h1 : has T.one et = true) (h0 : 0 ≤ i) (hi : i < len) (hv : cs[i.toNat]? = some v) (w : World) :
  (Instr.index t (.agg cs) (.int ik i)).run P w = .ok v w := by
 obtain ⟨r1, r2⟩ := one_run hT h1 w
 simp only [arrB, Bool.and_eq_true] at hA
 obtain ⟨ha, hb⟩ := hA
 split at ha
 ·rename_i m e' hu
  simp only [Bool.and_eq_true] at ha
  have e1 := Nat.eq_of_beq_eq_true ha.1
  have e2 := Nat.eq_of_beq_eq_true ha.2
  subst e1; subst e2
  simp [Instr.index, asIntOf, run_underlying hu, h0, hi, r2, part, r1, hv]
 ·cases ha
theorem ql_ixA (hT : T.Ok P) {d t len et : Nat} {x ix : Operand} {cs : Array Value} {ik : IntKind} {i : Int} {v : Value} {ty : TypeId} {pos : String} {af : Array Edge} (hA : arrB P t len et 1 = true) (h1 : has T.one et = true)
  (hx : opv e x = some (.agg cs)) (hi : opv e ix = some (.int ik i)) (hd : Nat.blt d n = true) (h0 : 0 ≤ i) (hl : i < len) (hv : cs[i.toNat]? = some v)
  (h : QL P ro n F w0 M k ops rest ((d, v) :: e) H) : QL P ro n F w0 M k ops (⟨some d, .index t x ix, ty, pos, af, none⟩ :: rest) e H := .mk fun w hw =>
 fZ (by simp) hd (fun a hf => by
  simp only [execOp, hf.op hx, hf.op hi]
  simp [run_ixA hT hA h1 h0 hl hv w]) (h w hw)
/-- A whole array, as a slice. -/
theorem run_slA {t len et sz : Nat} (hA : arrB P t len et sz = true) (a : Addr) (w : World) : (Instr.sliceAt t (.pointer (some a)) none none none).run P w = .ok (.slice (some a) len len) w := by
 simp only [arrB, Bool.and_eq_true] at hA
 obtain ⟨ha, hb⟩ := hA
 split at ha
 ·rename_i m e' hu
  simp only [Bool.and_eq_true] at ha
  have e1 := Nat.eq_of_beq_eq_true ha.1
  have e2 := Nat.eq_of_beq_eq_true ha.2
  subst e1; subst e2
  split at hb
  ·rename_i inf hinf
   by_cases hm : m = 0
   ·subst hm
    simp [Instr.sliceAt, Instr.sureAddr, run_underlying hu, Instr.sliceBounds, sizeOf, typeInfo, hinf]
   ·simp [Instr.sliceAt, Instr.sureAddr, run_underlying hu, Instr.sliceBounds, sizeOf, typeInfo, hinf, Addr.add]
  ·cases hb
 ·cases ha
theorem qf_slA {d t len et sz : Nat} {x : Operand} {a : Addr} {ty : TypeId} {pos : String} {af : Array Edge} (hA : arrB P t len et sz = true) (hx : opv e x = some (.pointer (some a))) (hd : Nat.blt d n = true)
  (h : QF P ro n F w0 M k ops Hq rest ((d, .slice (some a) len len) :: e) H) : QF P ro n F w0 M k ops Hq (⟨some d, .slice t x none none none, ty, pos, af, none⟩ :: rest) e H := .mk fun w hw =>
 eY rfl hd (fun ac hf w' _ => by
  simp only [execOp, hf.op hx]
  simp [run_slA hA a w']) (h w hw)

/-- copy of numbers into a block of numbers. -/
theorem run_copyI {w : World} {dT sT et n n2 lo hi b c c2 : Nat} {a : Option Addr} {bt : TypeId} {l L : List Int} (ty : TypeId) (hu : P.underlying dT = some (.slice et)) (hs : (P.info? et).map (·.size) = some 1) (hb : Blk w b (aZ L) bt) (hL : L.length = n) (hl : l.length ≤ n) (h0 : 0 < l.length)
  (hm : n2 = l.length) (hrd : RdI w lo hi (.slice a n2 c2) l) :
  ∃ w', (Builtin.copy_ #[dT, sT] ty #[.slice (some ⟨b, 0, none⟩) n c, .slice a n2 c2]).run P w = .ok (goInt l.length) w' ∧ Chg [b] w w' ∧ Blk w' b (aZ (l ++ L.drop l.length)) bt := by
 subst hm
 obtain ⟨_, _, ha, hs2⟩ := RdI.outI hrd
 obtain ⟨sb, so, rfl⟩ := hs2 h0
 cases ha
 have hrun := run_copy_row (P := P) w dT sT ty et b 0 n c ⟨sb, so, none⟩ l.length c2 (aZ L).toArray bt (aZ l) hu hs hb (by simp [Nat.min_def]; omega) (fun j v hj => by
  obtain ⟨hj1, rfl⟩ := List.getElem?_eq_some_iff.1 hj
  have hj2 : j < l.length := by simpa using hj1
  have h1 := RdI.at hrd j hj2
  rw [Nat.mul_one] at h1
  rw [Addr.add_lit, h1]
  simp) (by simp; omega) (fun v hv => by
  obtain ⟨x, _, rfl⟩ := List.mem_map.1 hv
  rfl)
 have e1 : ((aZ L).toArray.toList.take 0 ++ aZ l ++ (aZ L).toArray.toList.drop (0 + (aZ l).length)) = aZ (l ++ L.drop l.length) := by
  simp [List.map_drop]
 rw [e1] at hrun
 rw [show (aZ l).length = l.length by simp] at hrun
 exact ⟨w.setRow b (aZ (l ++ L.drop l.length)).toArray, hrun, ⟨Z, Z, Z, by simp [World.setRow], fun k _ hk => setRow_other w b k _ (by simpa using hk)⟩, setRow_heap w b _ _ bt (0, 0) hb⟩

theorem qf_copyI {d dT sT et n n2 c c2 b lo hi : Nat} {x y : Operand} {a : Option Addr} {bt : TypeId} {l L : List Int} {H' : List Ck} {ty : TypeId} {pos : String} {af : Array Edge} (hu : P.underlying dT = some (.slice et)) (hsz : (P.info? et).map (·.size) = some 1)
  (hx : opv e x = some (.slice (some ⟨b, 0, none⟩) n c)) (hy : opv e y = some (.slice a n2 c2)) (hd : Nat.blt d n' = true) (hr : Rp H (.pt b (aZ L) bt) (.pt b (aZ (l ++ L.drop l.length)) bt) H') (hL : L.length = n) (hl : l.length ≤ n) (h0 : 0 < l.length) (hm : n2 = l.length)
  (hrd : ∀ w, Sat w0 M (H ++ Hq) w → RdI w lo hi (.slice a n2 c2) l) (h : QF P ro n' F w0 M k ops Hq rest ((d, goInt l.length) :: e) H') :
  QF P ro n' F w0 M k ops Hq (⟨some d, .call { callee := .builtin .copy, args := [x, y].toArray, argTypes := [dT, sT].toArray }, ty, pos, af, none⟩ :: rest) e H := .mk fun w hs => by
 obtain ⟨w', hrun, hc, hb⟩ := run_copyI (P := P) (sT := sT) ty hu hsz (hs.blk (hr.app Hq).mem) hL hl h0 hm (hrd w hs) (c := c)
 have hs' := hs.pt (hr.app Hq) hc hb
 refine yf_eff (w' := w') Z hd (fun ac hf => ?_) hs'.right (h.h w' hs')
 simp [execOp, resolve, invoke, builtin, hf.op hx, hf.op hy, hrun]
/-- make([]int, n). -/
theorem ql_makeI {d t et m : Nat} {x y : Operand} {ty : TypeId} {pos : String} {af : Array Edge} (hS : SlT P t et 1 8 (.int .i64 0)) (hx : opv e x = some (.int .i64 m)) (hy : opv e y = some (.int .i64 m)) (hd : Nat.blt d n = true) (hm : m ≤ 1000000)
  (h : ∀ b, QL P ro n F w0 M k ops rest ((d, .slice (some ⟨b, 0, none⟩) m m) :: e) (.pt b (aZ (List.replicate m 0)) et :: H)) :
  QL P ro n F w0 M k ops (⟨some d, .makeSlice t x y, ty, pos, af, none⟩ :: rest) e H := .mk fun w hs => by
 obtain ⟨ht, hi', hzs, hsz⟩ := hS
 cases hinf : P.info? et with
 | none => simp [hinf] at hi'
 | some i =>
  simp [hinf] at hi'
  obtain ⟨hz, hsize, hby⟩ := hi'
  have hr := run_makeSlice (P := P) w t et i _ ht hinf hz .i64 .i64 m m O (Int.le_refl _) (by rw [hsize]; simp; omega) (by rw [hby]; omega) O
  have hcells : (madeCells (Value.int .i64 0).cells ((m : Int).toNat * i.size)) = (aZ (List.replicate m 0)).toArray := by
   apply Array.ext'
   rw [hsize, show (Value.int .i64 0).cells = #[Value.int .i64 0] from rfl, toList_madeCells_one]
   simp
  rw [hcells] at hr
  refine fZ (w' := w.alloc (.cells (aZ (List.replicate m 0)).toArray et)) (by simp) hd (fun ac hf => ?_) ((h w.heap.size).h _ (hs.addPt (eQ _ _) (by simp) (gH w _ _)))
  simp only [execOp, hf.op hx, hf.op hy]
  simp [hr]
end
end Go.Eng

/- Walks: all clicks, from one on. -/
namespace Go.Proofs.YtohlillcaadidaaGreat
open Go Go.Eng

/-- The clicks that are so far. -/
def farL (C near : Int) (far : Nat) : List Int := if far = 0 then [near] else [near - far, near + far].filter (fun c => inB c (-C) C)
def gQ (C near : Int) (n : Nat) : List Int := (List.range n).flatMap (farL C near)
/-- All clicks, the ones nearest to one first. -/
def cR (C near : Int) : List Int := gQ C near (2 * C + 1).toNat
theorem pV (C near : Int) (n : Nat) : gQ C near (n + 1) = gQ C near n ++ farL C near n := by simp [gQ, List.range_succ]
theorem clickP_split (C near : Int) {n m : Nat} (h : n < m) : ∃ suf, gQ C near m = gQ C near n ++ (farL C near n ++ suf) := by
 induction m with
 | zero => omega
 | succ m ih =>
  by_cases h2 : n = m
  ·subst h2
   exact ⟨[], by rw [pV, List.append_nil]⟩
  ·obtain ⟨suf, hs⟩ := ih O
   exact ⟨suf ++ farL C near m, by rw [pV, hs]; simp⟩

/-- .. the first j of them. -/
def pP (C near : Int) (far j : Nat) : List Int := ([near - far, near + far].take j).filter (fun c => inB c (-C) C)
theorem partL_succ (C near : Int) (far j : Nat) (c : Int) (hc : [near - (far : Int), near + far][j]? = some c) : pP C near far (j + 1) = pP C near far j ++ if inB c (-C) C then [c] else [] := by
 obtain ⟨hj, rfl⟩ := List.getElem?_eq_some_iff.1 hc
 rw [pP, List.take_succ_eq_append_getElem hj, List.filter_append, pP]
 congr 1
 simp [List.filter_cons]
theorem farL_pos (C near : Int) (far : Nat) (h : far ≠ 0) : farL C near far = pP C near far 2 := by simp [farL, pP, h]
theorem farL_part (C near : Int) (far j : Nat) (h : far ≠ 0) (c : Int) (hc : [near - (far : Int), near + far][j]? = some c) (hin : inB c (-C) C = true) : ∃ suf, farL C near far = pP C near far j ++ c :: suf := by
 obtain ⟨hj, rfl⟩ := List.getElem?_eq_some_iff.1 hc
 refine ⟨([near - (far : Int), near + far].drop (j + 1)).filter (fun c => inB c (-C) C), ?_⟩
 rw [farL, if_neg h, pP]
 conv => lhs; rw [← List.take_append_drop j [near - (far : Int), near + far], List.filter_append, List.drop_eq_getElem_cons hj, List.filter_cons]
 rw [if_pos hin]

theorem ci_arr : arrB Tryz.prog 171 2 3 1 = true := by kernel_rfl

set_option maxHeartbeats 1000000 in
theorem clicks_it (w0 w : World) (D : Nat → Prop) (b bd bn : Nat) (near : Int) (r : Rg) (hdk : DkAt w0 b r) (h0 : ∀ w', ChgP D w w' → Chg [] w0 w') (hC : 0 ≤ r.clicks ∧ r.clicks ≤ 6) (hn : inB near (-r.clicks) r.clicks = true)
  {t1 t2 : TypeId} (hbd : Blk w bd [.pointer (some ⟨b, 0, none⟩)] t1) (hbn : Blk w bn [.int .i64 near] t2) (hDd : ¬ D bd) (hDn : ¬ D bn) :
  ItOk Tryz.prog 125 [.pointer (some ⟨bd, 0, none⟩), .pointer (some ⟨bn, 0, none⟩)] (fun c => [Value.int .i64 c]) (cR r.clicks near) w D := by
 intro fv σ L I E s0 hI0 hLD hsat hcb
 have hn' := bH.1 hn
 obtain ⟨cs, bt, hblk, lo, hi, ag, cg, ad, cd, af, cf, an, cn, rfl, hg, hdr, hf, hn⟩ := hdk
 have hm : ∀ w', ChgP (DL (L s0)) w w' → ChgP D w w' := fun w' hc => ⟨hc.os, hc.tape, hc.output, hc.size, fun k hk hk2 => hc.block k hk (fun h => hk2 (hLD k h))⟩
 have hP1 : ∀ w', ChgP (DL (L s0)) w w' → Blk w' bd [.pointer (some ⟨b, 0, none⟩)] t1 := fun w' hc => (hc.block bd hbd.lt (fun h => hDd (hLD bd h))).trans hbd
 have hP2 : ∀ w', ChgP (DL (L s0)) w w' → Blk w' bn [.int .i64 near] t2 := fun w' hc => (hc.block bn hbn.lt (fun h => hDn (hLD bn h))).trans hbn
 have hP3 : ∀ w', ChgP (DL (L s0)) w w' → Blk w' b _ bt := fun w' hc => hblk.keep (h0 w' (hm w' hc))
 clear hblk
 refine dB (H := [un (L s0)]) (Sat.un1.2 hsat) Tryz.func125 Z (by simp [Tryz.ntmps125]) ?_
 (refine aE (aB ?_); refine cL V Z Z Z (by assumption) (by rfl) ?_; (iterate 3 refine aA V Z Z ?_); refine cL V Z Z Z (by assumption) (by rfl) ?_; refine bB V Z Z Z Z O O (bB V Z Z Z Z O O (aA V Z Z (aF (aP ?_)))))
 refine bN (σ := Nat × σ) (fun s => s.1 ≤ (2 * r.clicks + 1).toNat ∧ I (gQ r.clicks near s.1) s.2) (fun s => (2 * r.clicks + 1).toNat - s.1) (fun s => [(0, fv), (1, .pointer (some ⟨bd, 0, none⟩)), (2, .pointer (some ⟨bn, 0, none⟩)), (13, .int .i64 (2 * r.clicks + 1)), (14, .int .i64 s.1)])
  (fun s => [un (L s.2)]) (0, s0) ⟨by omega, hI0⟩ ⟨rfl, rfl, rfl, rfl, rfl, trivial⟩ (Sp.refl _) ?_
 rintro ⟨far, s⟩ ⟨hfar, hI⟩ K hK
 simp only at hfar hI
 (refine aE (aB (aA V Z Z (aF (aE ?_)))))
 refine dD Z (fun hc => ?_) (fun hc => ?_)
 ·have hfl : far < (2 * r.clicks + 1).toNat := by simp only at hc; omega
  obtain ⟨suf, hsuf⟩ := clickP_split r.clicks near hfl
  (refine aR (aE (aP (aE (aB (aA V Z Z (aA V Z Z (aF (aE (aB ?_))))))))); refine cL V Z Z Z (by assumption) (by rfl) ?_; refine aA V Z Z (bB V Z Z Z Z O O ?_); refine cL V Z Z Z (by assumption) (by rfl) ?_; refine aA V Z Z (bB V Z Z Z Z O O ?_))
  refine cE #[.int .i64 (near - far), .int .i64 (near + far)] Z qR Z ?_
  (refine aA V Z Z (aF (aP ?_)))
  refine bN (σ := Nat × σ) (fun q => q.1 ≤ 2 ∧ (far = 0 → q.1 = 0) ∧ I (gQ r.clicks near far ++ pP r.clicks near far q.1) q.2) (fun q => 2 - q.1) (fun q => [(0, fv), (1, .pointer (some ⟨bd, 0, none⟩)), (2, .pointer (some ⟨bn, 0, none⟩)), (4, .int .i64 far), (13, .int .i64 (2 * r.clicks + 1)), (14, .int .i64 far), (23, .agg #[.int .i64 (near - far), .int .i64 (near + far)]), (24, .int .i64 q.1)])
   (fun q => [un (L q.2)]) (0, s) ⟨by simp, fun _ => rfl, by simpa [pP] using hI⟩ ⟨rfl, rfl, rfl, rfl, rfl, rfl, rfl, rfl, trivial⟩ (Sp.refl _) ?_
  clear hI
  rintro ⟨j, s⟩ ⟨hj, hj0, hI⟩ K2 hK2
  simp only at hj hj0 hI
  (refine aE (aB (aA V Z Z (aF (aE ?_)))))
  refine dD Z (fun hc => ?_) (fun hc => ?_)
  ·have hj2 : j < 2 := by simp only at hc; omega
   clear hc
   have hcj : ∃ c, [near - (far : Int), near + far][j]? = some c ∧ -20 ≤ c ∧ c ≤ 20 := by
    obtain rfl | rfl : j = 0 ∨ j = 1 := by omega
    ·exact ⟨_, Z, by omega, by omega⟩
    ·exact ⟨_, Z, by omega, by omega⟩
   obtain ⟨c, hcj, hc1, hc2⟩ := hcj
   (refine aR (aE (aP (aE (aB ?_)))))
   refine ql_ixA (v := .int .i64 c) V ci_arr Z Z Z Z (by simp only; omega) (by simp only; omega) (by
    obtain rfl | rfl : j = 0 ∨ j = 1 := by omega
    ·simpa using hcj
    ·simpa using hcj) ?_
   (refine aA V Z Z (aF (aE (aE ?_))))
   refine bX [] [un (L s)] (Sp.refl _) qR qR ?_
   (refine aD V Z Z Z ?_; refine cP V Z Z Z (by assumption) (by rfl) ?_; (iterate 3 refine aD V Z Z Z ?_); refine cP V Z Z Z (by assumption) (by rfl) ?_; refine qf_neg V Z Z O O ?_; refine cP V Z Z Z (by assumption) (by rfl) ?_; (iterate 3 refine aD V Z Z Z ?_); refine cP V Z Z Z (by assumption) (by rfl) ?_)
   refine aS V Z Z Z Z (fun w hs => fW c (-r.clicks) r.clicks w) ?_
   (refine aD V Z Z Z ?_)
   by_cases hin : inB c (-r.clicks) r.clicks = true
   ·rw [hin]
    (refine aG Z (aD V Z Z Z (aG Z (aD V Z Z Z (aG Z (aD V Z Z Z ?_))))))
    by_cases hf0 : far = 0
    ·subst hf0
     obtain rfl : j = 0 := hj0 rfl
     obtain rfl : c = near := by simpa using hcj.symm
     (refine aG Z (aD V Z Z Z (aG Z ?_)); refine cP V Z Z Z (by assumption) (by rfl) ?_; refine aG Z (aD V Z Z Z (aG Z ?_)); (iterate 3 refine aD V Z Z Z ?_))
     rw [decide_eq_true (rfl : c = c)]
     (refine aG Z (aD V Z Z Z (aG Z (aD V Z Z Z (aG Z ?_)))))
     have hx : cR r.clicks c = (gQ r.clicks c 0 ++ pP r.clicks c 0 0) ++ c :: suf := by rw [cR, hsuf]; simp [farL, pP]
     refine qf_callF [un (L s)] [] (DL (L s)) Z Z Z (Sp.refl _) (fun b hb => ⟨_, .head _, hb⟩) (yieldF hcb hx hI) ?_
     rintro s' v (⟨rfl, hI'⟩ | ⟨rfl, hE⟩)
     ·(refine aG Z (aD V Z Z Z (aD V Z Z Z (aK (aL Z (aR (aE (aB (aA V Z Z (aA V Z Z (aF (aM Z ?_))))))))))); refine bJ _ Z (bL (aB (bB V Z Z Z Z O O (aA V Z Z (aF ?_))))))
      refine hK (1, s') _ _ ⟨by omega, ?_⟩ (by simp only; omega) ⟨Z, Z, Z, Z, Z, trivial⟩ U
      rw [show gQ r.clicks c 1 = gQ r.clicks c 0 ++ pP r.clicks c 0 0 ++ [c] by simp [gQ, farL, pP]]
      exact hI'
     ·(refine aG Z (aD V Z Z Z (aD V Z Z Z (aK (aM Z (aW ?_))))))
      refine aX V Z U fun w hs => ?_
      exact ⟨s', .inr hE, Sat.un1.1 (hs.sp (Sp.refl _))⟩
    ·rw [decide_eq_true (show (0 : Int) < far by omega)]
     ((iterate 3 refine eD Z Z Z ?_); refine aG Z ?_; (iterate 3 refine aD V Z Z Z ?_); refine aG Z (aD V Z Z Z (aG Z (aD V Z Z Z (aG Z ?_)))))
     obtain ⟨suf2, hsuf2⟩ := farL_part r.clicks near far j hf0 c hcj hin
     have hx : cR r.clicks near = (gQ r.clicks near far ++ pP r.clicks near far j) ++ c :: (suf2 ++ suf) := by rw [cR, hsuf, hsuf2]; simp
     have hp := partL_succ r.clicks near far j c hcj
     rw [if_pos hin] at hp
     refine qf_callF [un (L s)] [] (DL (L s)) Z Z Z (Sp.refl _) (fun b hb => ⟨_, .head _, hb⟩) (yieldF hcb hx hI) ?_
     rintro s' v (⟨rfl, hI'⟩ | ⟨rfl, hE⟩)
     ·(refine aG Z (aD V Z Z Z (aD V Z Z Z (aK (aL Z (aR (aE (aB (aA V Z Z (aA V Z Z (aF ?_)))))))))))
      rw [decide_eq_false (show ¬ (far : Int) = 0 by omega)]
      (refine aL Z (aR (bL (aB (bB V Z Z Z Z O O (aA V Z Z (aF ?_)))))))
      refine hK2 (j + 1, s') _ _ ⟨by simp only; omega, fun h => absurd h hf0, ?_⟩ (by simp only; omega) ⟨Z, Z, Z, Z, Z, Z, Z, Z, trivial⟩ U
      simp only
      rw [hp, ← List.append_assoc]
      exact hI'
     ·(refine aG Z (aD V Z Z Z (aD V Z Z Z (aK (aM Z (aW ?_))))))
      refine aX V Z U fun w hs => ?_
      exact ⟨s', .inr hE, Sat.un1.1 (hs.sp (Sp.refl _))⟩
   ·have hin' : inB c (-r.clicks) r.clicks = false := by simpa using hin
    rw [hin']
    ((iterate 3 refine eD Z Z Z ?_); (iterate 3 refine qf_gnone Z Z ?_); refine eD Z Z Z (aD V Z Z Z (aD V Z Z Z ?_)); (iterate 4 refine eD Z Z Z ?_); refine aD V Z Z Z (aK (aL Z (aR (aE (aB (aA V Z Z (aA V Z Z (aF ?_)))))))))
    by_cases hf0 : far = 0
    ·subst hf0
     obtain rfl : j = 0 := hj0 rfl
     obtain rfl : c = near := by simpa using hcj.symm
     exact absurd hn hin
    ·rw [decide_eq_false (show ¬ (far : Int) = 0 by omega)]
     (refine aL Z (aR (bL (aB (bB V Z Z Z Z O O (aA V Z Z (aF ?_)))))))
     have hp := partL_succ r.clicks near far j c hcj
     rw [if_neg hin, List.append_nil] at hp
     exact hK2 (j + 1, s) _ _ ⟨by simp only; omega, fun h => absurd h hf0, by simp only; rw [hp]; exact hI⟩ (by simp only; omega) ⟨Z, Z, Z, Z, Z, Z, Z, Z, trivial⟩ U
  ·have hj2 : j = 2 := by simp only at hc; omega
   subst hj2
   have hf0 : far ≠ 0 := fun h => by have := hj0 h; omega
   (refine bJ _ Z (bL (aB (bB V Z Z Z Z O O (aA V Z Z (aF ?_))))))
   exact hK (far + 1, s) _ _ ⟨by simp only; omega, by simp only; rw [pV, farL_pos r.clicks near far hf0]; exact hI⟩ (by simp only; omega) ⟨Z, Z, Z, Z, Z, trivial⟩ U
 ·obtain rfl : far = (2 * r.clicks + 1).toNat := by simp only at hc; omega
  (refine bJ _ Z ?_)
  refine q_end V Z U fun w hs => ?_
  exact ⟨s, .inl hI, Sat.un1.1 (hs.sp (Sp.refl _))⟩

end Go.Proofs.YtohlillcaadidaaGreat

/- Walks: the best click by a rule. -/
namespace Go.Proofs.YtohlillcaadidaaGreat
open Go Go.Eng

theorem clicks_ca (w : World) (b : Nat) (near : Int) : Ca Tryz.prog 102 [.pointer (some ⟨b, 0, none⟩), .int .i64 near] w fun v w' =>
  ∃ x : Nat × Nat, v = .func (.func 125) #[] #[.pointer (some ⟨x.1, 0, none⟩), .pointer (some ⟨x.2, 0, none⟩)] ∧ Sat w M0 [.pt x.2 [.int .i64 near] 3, .pt x.1 [.pointer (some ⟨b, 0, none⟩)] 84] w' := by
 refine dB (Sat.nil w M0) Tryz.func102 Z (by simp [Tryz.ntmps102]) ?_
 (refine aE (aB ?_))
 refine bG Z Z (fun b2 => ?_)
 refine bG Z Z (fun b3 => ?_)
 (refine aA V Z Z (aF (aE (aB (aA V Z Z (aA V Z Z (aF (aW ?_))))))))
 refine aX V Z U fun w hs => ?_
 exact ⟨(b2, b3), Z, hs⟩

/-- The first of the least ones. -/
def eP (q : Int → Int × Int) (s : Int × (Int × Int)) (c : Int) : Int × (Int × Int) := if nW (q c) s.2 then (c, q c) else s
def fH (q : Int → Int × Int) (l : List Int) : Int × (Int × Int) := l.foldl (eP q) (0, q 0)

theorem iP (C near : Int) (hn : inB near (-C) C = true) : ∀ c ∈ cR C near, inB c (-C) C = true := by
 intro c hc
 simp only [cR, gQ, List.mem_flatMap] at hc
 obtain ⟨n, _, hc⟩ := hc
 unfold farL at hc
 split at hc
 ·rw [List.mem_singleton.1 hc]; exact hn
 ·exact (List.mem_filter.1 hc).2

theorem bestOf_fine (q : Int → Int × Int) (C : Int) (hfine : ∀ c, inB c (-C) C = true → Fine (q c)) (h0 : inB 0 (-C) C = true) : ∀ (l : List Int), (∀ c ∈ l, inB c (-C) C = true) → ∀ s, Fine s.2 → Fine (l.foldl (eP q) s).2
 | [], _, s, hs => hs
 | c :: l, hl, s, hs => by
  rw [List.foldl_cons]
  refine bestOf_fine q C hfine h0 l (fun c hc => hl c (List.mem_cons_of_mem _ hc)) _ ?_
  unfold eP
  split
  ·exact hfine c (hl c List.mem_cons_self)
  ·exact hs

set_option maxHeartbeats 1000000 in
theorem best_ca (w : World) (b : Nat) (r : Rg) (fv : Value) (q : Int → Int × Int) (hdk : DkAt w b r) (hC : 0 ≤ r.clicks ∧ r.clicks ≤ 6) (hfv : dY fv = true) (hfine : ∀ c, inB c (-r.clicks) r.clicks = true → Fine (q c))
  (hbad : ∀ w', Chg [] w w' → ∀ c, inB c (-r.clicks) r.clicks = true → CaF Tryz.prog fv [.int .i64 c] w' (fun v w'' => v = rtV (q c) ∧ Chg [] w' w'')) :
  Ca Tryz.prog 49 [.pointer (some ⟨b, 0, none⟩), .agg #[fv]] w fun v w' => v = .tuple #[.int .i64 (fH q (cR r.clicks 0)).1, rtV (fH q (cR r.clicks 0)).2] ∧ Chg [] w w' := by
 have h0 : inB 0 (-r.clicks) r.clicks = true := bH.2 O
 refine q_ofM (Sat.nil w M0) Tryz.func49 Z (by simp [Tryz.ntmps49]) ?_
 (refine aE (aB ?_))
 refine bG Z Z (fun b3 => ?_)
 (refine aA V Z Z ?_)
 refine aV cO Z (fun b5 => ?_)
 (refine aF (aE (aB (aA V Z Z ?_))); refine aH V Z Z Z ?_)
 refine ql_callFv Z Z Z (fun w' hs => hbad w' hs.chg0 0 h0) ?_
 refine aV nE Z (fun b6 => ?_)
 refine aV cO Z (fun b7 => ?_)
 (refine eV V Z Z Z Z U ?_; refine aY V Z Z Z Z Z U Z ?_; refine aF (aE (aE (aB (aA V Z Z ?_)))))
 refine bO (β := Nat × Nat) V [] _ M0 Z Z Z Z (Sp.refl _) qS (fun w' hs => clicks_ca w' b 0) ?_
 rintro ⟨bd, bn⟩ _ rfl
 (refine aF (aP ?_))
 refine q_range (fun c => [Value.int .i64 c]) (Int × (Int × Int)) (cR r.clicks 0) (fun pre s => s = pre.foldl (eP q) (0, q 0)) (fun _ _ => False)
  (fun s => [.pt b7 [.int .i64 s.2.1, .int .i64 s.2.2] 36, .pt b6 [.int .i64 s.1] 3, .pt b3 [fv] 99]) [.pt bn [.int .i64 0] 3, .pt bd [.pointer (some ⟨b, 0, none⟩)] 84, .pt b5 [.int .i64 0, .int .i64 0] 36] (0, q 0)
  rfl qR rfl (fun _ _ => rfl) rfl U ?_ ?_ ?_ (fun _ _ _ h => h.elim)
 ·intro w1 D hs hD
  exact clicks_it w w1 D b bd bn 0 r hdk (fun w' hc => hs.chg0.old hc (fun k hk => (hD k hk).2.resolve_left (fun h => h))) hC h0 (hs.blk U) (hs.blk U) (fun h => (hD _ h).1 ⟨.pt bd [.pointer (some ⟨b, 0, none⟩)] _, U, Z⟩) (fun h => (hD _ h).1 ⟨.pt bn [.int .i64 0] _, U, Z⟩)
 ·intro pre x post s w1 l rdy bsy K F' hx hI hsat hR hbegin hend hret hexit
  have hxin : inB x (-r.clicks) r.clicks = true := iP _ _ h0 x (by rw [hx]; simp)
  have hsf : Fine s.2 := by
   rw [hI]
   exact bestOf_fine q r.clicks hfine h0 pre (fun c hc => iP _ _ h0 c (by rw [hx]; simp [hc])) _ (hfine 0 h0)
  (refine aB (aA V Z Z (aF ?_)))
  refine hbegin _ _ ?_
  (refine aP (aE (aB (aA V Z Z ?_))); refine aH V Z Z Z ?_; refine aA V Z Z ?_)
  refine ql_callFv Z Z Z (fun w' hs => hbad w' (hR w' hs.chg).chg0 x hxin) ?_
  refine aV cO Z (fun b9 => ?_)
  (refine aY V Z Z Z Z Z U Z ?_; refine aF (aE (aB ?_)); (iterate 2 refine aI V Z Z Z ?_))
  refine aJ V Z Z Z Z (fun w hs => less_ca (q x) s.2 w (hfine x hxin) hsf) ?_
  (refine aF ?_)
  refine jO Z (fun hc => ?_) (fun hc => ?_)
  ·refine bX _ [.pt b6 _ _, .pt b7 _ _] (Sp.cons U (Sp.cons U (Sp.refl _))) qR qR ?_
   (refine aD V Z Z Z ?_; refine aO V Z Z Z ?_; refine lV V Z Z Z Z U ?_; refine bK V Z Z Z Z Z U Z ?_; refine aK (bL ?_))
   refine hend _ _ (x, q x) ?_ U
   rw [List.foldl_append, ← hI]
   simp [eP, hc]
  ·(refine aR (bL ?_))
   refine hend _ _ s ?_ U
   rw [List.foldl_append, ← hI]
   simp [eP, hc]
 ·rintro D s rfl
  (refine bL (aE ?_))
  refine bX _ [.pt b5 _ _] (Sp.cons U (Sp.refl _)) qR qR ?_
  (refine aT V Z Z Z ?_; refine aO V Z Z Z ?_; refine aD V Z Z Z ?_; refine bK V Z Z Z Z Z U Z ?_; refine aK (aW ?_))
  refine q_finMD V U Z U fun w hs => ?_
  exact ⟨Z, hs.chg0⟩

end Go.Proofs.YtohlillcaadidaaGreat

/- Walks: IndexFunc, ContainsFunc, klister/wind.every: alike for each element type. Written by gen_every.py. -/
namespace Go.Proofs.YtohlillcaadidaaGreat
open Go Go.Eng

set_option maxHeartbeats 1000000 in
theorem idxF_int (w : World) (lo hi : Nat) (v cv : Value) (es : List Value) (p : Value → Bool) (hrd : RdE w lo hi v 1 es) (hone : ∀ i (hi : i < es.length), dY es[i] = true) (hlen : es.length < 4611686018427387904) (hp : PredAt Tryz.prog tab w cv es p) :
  Ca Tryz.prog 131 [v, cv] w fun r w' => ((∃ i : Nat, r = .int .i64 i ∧ ∃ hi : i < es.length, p es[i] = true) ∨ (r = .int .i64 (-1) ∧ ∀ x ∈ es, p x = false)) ∧ Chg [] w w' := by
 obtain ⟨a, cap, rfl, hsl⟩ := hrd.out
 obtain ⟨g, first, caps, rfl, hg, hcl⟩ := hp
 refine ca_of Tryz.func131 Z (by simp [Tryz.ntmps131]) ?_
 (refine fQ (cQ (cD V Z Z (fQ (fQ (cQ ?_))))); (iterate 3 refine cD V Z Z ?_); refine y_block ?_)
 refine y_loop (fun m l wr => ∃ k : Nat, k ≤ es.length ∧ m = es.length - k ∧ l = [(0, .slice a es.length cap), (1, .func (.func g) first caps), (7, .int .i64 es.length), (8, .int .i64 k)] ∧ (∀ i (hi : i < es.length), i < k → p es[i] = false) ∧ Chg [] w wr) (m := es.length)
  ⟨0, by omega, rfl, rfl, fun i _ hi => by omega, Chg.refl _ _⟩ ⟨rfl, rfl, rfl, rfl, trivial⟩ ?_
 rintro m l wr ⟨k, hkl, rfl, rfl, hpk, hcw⟩ K hK
 (refine fQ (cQ (cD V Z Z (fQ ?_))))
 refine y_if Z (fun hc => ?_) (fun hc => ?_)
 ·have hk : k < es.length := by omega
  obtain ⟨b, off, rfl⟩ := hsl O
  (refine y_skip (fQ (y_block (fQ (cQ (cD V Z Z (cD V Z Z (fQ (cQ ?_)))))))); (iterate 3 refine cD V Z Z ?_))
  refine yl_index V Z Z Z Z Z O O ?_
  refine yl_load1 V Z Z Z (v := es[k]) (by rw [show (Int.toNat (k : Int)) = k from rfl]; exact (hrd.keep hcw).cell1 k hk (hone k hk)) ?_
  refine jF V Z hg Z Z (hcl wr hcw es[k] (List.getElem_mem hk)) ?_
  rintro _ w2 ⟨rfl, hc2⟩
  (refine yl_nil ?_)
  refine y_cond Z (fun hc => ?_) (fun hc => ?_)
  ·(refine fQ (cQ (cD V Z Z (cD V Z Z (y_ret ?_)))))
   exact jQ Z Z ⟨.inl ⟨k, Z, hk, hc⟩, hcw.trans hc2⟩
  ·(refine y_skip (cQ (cD V Z Z (cD V Z Z (yl_nil ?_)))))
   refine y_k (hK _ _ _ _ ⟨k + 1, by omega, Z, Z, fun i hi hik => ?_, hcw.trans hc2⟩ O ⟨Z, Z, Z, ?_, trivial⟩)
   ·by_cases h : i < k
    ·exact hpk i hi h
    ·obtain rfl : i = k := by omega
     exact hc
   ·show some (Value.int _ (IntKind.i64.wrap (↑k + 1))) = _
    rw [w64 O O]
    rfl
 ·(refine y_exit _ Z (fQ (cQ (cD V Z Z (y_ret ?_)))))
  refine jQ Z Z ⟨.inr ⟨Z, fun x hx => ?_⟩, hcw⟩
  obtain ⟨i, hi, rfl⟩ := List.getElem_of_mem hx
  exact hpk i hi O

theorem conF_int (w : World) (lo hi : Nat) (v cv : Value) (es : List Value) (p : Value → Bool) (hrd : RdE w lo hi v 1 es) (hone : ∀ i (hi : i < es.length), dY es[i] = true) (hlen : es.length < 4611686018427387904) (hp : PredAt Tryz.prog tab w cv es p) :
  Ca Tryz.prog 119 [v, cv] w fun r w' => r = .bool (es.any p) ∧ Chg [] w w' := by
 refine ca_of Tryz.func119 Z (by simp [Tryz.ntmps119]) ?_
 (refine fQ (cQ (cD V Z Z (fQ (cQ (cD V Z Z (cD V Z Z ?_)))))))
 refine jF V Z Z Z Z (idxF_int w lo hi v cv es p hrd hone hlen hp) ?_
 rintro r w2 ⟨⟨i, rfl, hi, hpi⟩ | ⟨rfl, hall⟩, hc2⟩
 ·(refine cD V Z Z (cD V Z Z (y_ret ?_)))
  refine jQ Z Z ⟨?_, hc2⟩
  have h1 : es.any p = true := List.any_eq_true.2 ⟨_, List.getElem_mem hi, hpi⟩
  rw [h1]
  exact congrArg Value.bool (decide_eq_true O)
 ·(refine cD V Z Z (cD V Z Z (y_ret ?_)))
  refine jQ Z Z ⟨?_, hc2⟩
  have h1 : es.any p = false := List.any_eq_false.2 (fun x hx => by simp [hall x hx])
  rw [h1]
  rfl

theorem all1_int (w : World) (b t : Nat) (cv x : Value) (es : List Value) (p : Value → Bool) (_hx : dY x = true) (hm : x ∈ es) (hb : Blk w b [cv] t) (hp : PredAt Tryz.prog tab w cv es p) :
  Ca Tryz.prog 120 [x, .pointer (some ⟨b, 0, none⟩)] w fun r w' => r = .bool (!(p x)) ∧ Chg [] w w' := by
 obtain ⟨g, first, caps, rfl, hg, hcl⟩ := hp
 refine ca_of Tryz.func120 Z (by simp [Tryz.ntmps120]) ?_
 (refine fQ (cQ (cD V Z Z (fQ (cQ ?_)))); refine yl_loadB V Z Z Z (by assumption) (by rfl) ?_; refine cD V Z Z ?_)
 refine jF V Z hg Z Z (hcl w (Chg.refl _ _) _ hm) ?_
 rintro _ w2 ⟨rfl, hc2⟩
 (refine cD V Z Z (cD V Z Z (y_ret ?_)))
 exact jQ Z Z ⟨Z, hc2⟩

theorem lC (w : World) (lo hi : Nat) (v cv : Value) (es : List Value) (p : Value → Bool) (hrd : RdE w lo hi v 1 es) (hone : ∀ i (hi : i < es.length), dY es[i] = true) (hlen : es.length < 4611686018427387904) (hp : PredAt Tryz.prog tab w cv es p) :
  Ca Tryz.prog 77 [v, cv] w fun r w' => r = .bool (es.all p) ∧ Chg [] w w' := by
 refine ca_of Tryz.func77 Z (by simp [Tryz.ntmps77]) ?_
 (refine fQ (cQ ?_))
 refine yl_box Z Z (fun w1 hc1 hs1 hb1 => ?_)
 have hcv : cv.cells.toList = [cv] := by obtain ⟨g, first, caps, rfl, _, _⟩ := hp; rfl
 rw [hcv] at hb1
 have hp1 : PredAt Tryz.prog tab w1 (.func (.func 120) #[] #[.pointer (some ⟨w.heap.size, 0, none⟩)]) es (fun x => !(p x)) := by
  refine ⟨120, #[], #[_], Z, Z, fun w' hw' x hx => ?_⟩
  refine all1_int w' w.heap.size _ cv x es p ?_ hx (hb1.keep hw') (hp.keep (hc1.trans hw'))
  obtain ⟨i, hi, rfl⟩ := List.getElem_of_mem hx
  exact hone i hi
 (refine cD V Z Z (fQ (cQ (cD V Z Z (cD V Z Z ?_)))))
 refine jF V Z Z Z Z (conF_int w1 lo hi v _ es _ (hrd.keep hc1) hone hlen hp1) ?_
 rintro _ w2 ⟨rfl, hc2⟩
 (refine cD V Z Z (cD V Z Z (y_ret ?_)))
 refine jQ Z Z ⟨?_, hc1.trans hc2⟩
 rw [List.all_eq_not_any_not]


set_option maxHeartbeats 1000000 in
theorem idxF_span (w : World) (lo hi : Nat) (v cv : Value) (es : List Value) (p : Value → Bool) (hrd : RdE w lo hi v 2 es) (hagg : ∀ i (hi : i < es.length), ∃ c, es[i] = .agg c) (hlen : es.length < 4611686018427387904) (hp : PredAt Tryz.prog tab w cv es p) :
  Ca Tryz.prog 133 [v, cv] w fun r w' => ((∃ i : Nat, r = .int .i64 i ∧ ∃ hi : i < es.length, p es[i] = true) ∨ (r = .int .i64 (-1) ∧ ∀ x ∈ es, p x = false)) ∧ Chg [] w w' := by
 obtain ⟨a, cap, rfl, hsl⟩ := hrd.out
 obtain ⟨g, first, caps, rfl, hg, hcl⟩ := hp
 refine ca_of Tryz.func133 Z (by simp [Tryz.ntmps133]) ?_
 (refine fQ (cQ (cD V Z Z (fQ (fQ (cQ ?_))))); (iterate 3 refine cD V Z Z ?_); refine y_block ?_)
 refine y_loop (fun m l wr => ∃ k : Nat, k ≤ es.length ∧ m = es.length - k ∧ l = [(0, .slice a es.length cap), (1, .func (.func g) first caps), (7, .int .i64 es.length), (8, .int .i64 k)] ∧ (∀ i (hi : i < es.length), i < k → p es[i] = false) ∧ Chg [] w wr) (m := es.length)
  ⟨0, by omega, rfl, rfl, fun i _ hi => by omega, Chg.refl _ _⟩ ⟨rfl, rfl, rfl, rfl, trivial⟩ ?_
 rintro m l wr ⟨k, hkl, rfl, rfl, hpk, hcw⟩ K hK
 (refine fQ (cQ (cD V Z Z (fQ ?_))))
 refine y_if Z (fun hc => ?_) (fun hc => ?_)
 ·have hk : k < es.length := by omega
  obtain ⟨b, off, rfl⟩ := hsl O
  (refine y_skip (fQ (y_block (fQ (cQ (cD V Z Z (cD V Z Z (fQ (cQ ?_)))))))); (iterate 3 refine cD V Z Z ?_))
  refine yl_index V Z Z Z Z Z O O ?_
  refine yl_loadA V Z Z Z (cs := es[k].cells.toList) (by simpa using hrd.sz es[k] (List.getElem_mem hk)) (fun j hj => (hrd.keep hcw).cell k j hk hj) ?_
  have hval : Value.agg es[k].cells.toList.toArray = es[k] := by
   obtain ⟨c, hc⟩ := hagg k hk
   rw [hc]; simp [Value.cells]
  rw [hval]
  refine jF V Z hg Z Z (hcl wr hcw es[k] (List.getElem_mem hk)) ?_
  rintro _ w2 ⟨rfl, hc2⟩
  (refine yl_nil ?_)
  refine y_cond Z (fun hc => ?_) (fun hc => ?_)
  ·(refine fQ (cQ (cD V Z Z (cD V Z Z (y_ret ?_)))))
   exact jQ Z Z ⟨.inl ⟨k, Z, hk, hc⟩, hcw.trans hc2⟩
  ·(refine y_skip (cQ (cD V Z Z (cD V Z Z (yl_nil ?_)))))
   refine y_k (hK _ _ _ _ ⟨k + 1, by omega, Z, Z, fun i hi hik => ?_, hcw.trans hc2⟩ O ⟨Z, Z, Z, ?_, trivial⟩)
   ·by_cases h : i < k
    ·exact hpk i hi h
    ·obtain rfl : i = k := by omega
     exact hc
   ·show some (Value.int _ (IntKind.i64.wrap (↑k + 1))) = _
    rw [w64 O O]
    rfl
 ·(refine y_exit _ Z (fQ (cQ (cD V Z Z (y_ret ?_)))))
  refine jQ Z Z ⟨.inr ⟨Z, fun x hx => ?_⟩, hcw⟩
  obtain ⟨i, hi, rfl⟩ := List.getElem_of_mem hx
  exact hpk i hi O

theorem conF_span (w : World) (lo hi : Nat) (v cv : Value) (es : List Value) (p : Value → Bool) (hrd : RdE w lo hi v 2 es) (hagg : ∀ i (hi : i < es.length), ∃ c, es[i] = .agg c) (hlen : es.length < 4611686018427387904) (hp : PredAt Tryz.prog tab w cv es p) :
  Ca Tryz.prog 123 [v, cv] w fun r w' => r = .bool (es.any p) ∧ Chg [] w w' := by
 refine ca_of Tryz.func123 Z (by simp [Tryz.ntmps123]) ?_
 (refine fQ (cQ (cD V Z Z (fQ (cQ (cD V Z Z (cD V Z Z ?_)))))))
 refine jF V Z Z Z Z (idxF_span w lo hi v cv es p hrd hagg hlen hp) ?_
 rintro r w2 ⟨⟨i, rfl, hi, hpi⟩ | ⟨rfl, hall⟩, hc2⟩
 ·(refine cD V Z Z (cD V Z Z (y_ret ?_)))
  refine jQ Z Z ⟨?_, hc2⟩
  have h1 : es.any p = true := List.any_eq_true.2 ⟨_, List.getElem_mem hi, hpi⟩
  rw [h1]
  exact congrArg Value.bool (decide_eq_true O)
 ·(refine cD V Z Z (cD V Z Z (y_ret ?_)))
  refine jQ Z Z ⟨?_, hc2⟩
  have h1 : es.any p = false := List.any_eq_false.2 (fun x hx => by simp [hall x hx])
  rw [h1]
  rfl

theorem all1_span (w : World) (b t : Nat) (cv x : Value) (es : List Value) (p : Value → Bool) (hx : ∃ c, x = .agg c ∧ c.size = 2) (hm : x ∈ es) (hb : Blk w b [cv] t) (hp : PredAt Tryz.prog tab w cv es p) :
  Ca Tryz.prog 124 [x, .pointer (some ⟨b, 0, none⟩)] w fun r w' => r = .bool (!(p x)) ∧ Chg [] w w' := by
 obtain ⟨g, first, caps, rfl, hg, hcl⟩ := hp
 obtain ⟨c, rfl, hcs⟩ := hx
 refine ca_of Tryz.func124 Z (by simp [Tryz.ntmps124]) ?_
 (refine fQ (cQ ?_))
 refine yl_box Z Z (fun w1 hc1 hs1 hb1 => ?_)
 have hb' := hb.keep hc1
 (refine cD V Z Z (fQ (cQ ?_)); refine yl_loadB V Z Z Z (by assumption) (by rfl) ?_)
 refine yl_loadAB V Z Z Z hb1 (us := c.toList) (List.take_of_length_le (by simp [Value.cells, hcs])) (by simpa using hcs) ?_
 refine jF V Z hg Z Z (hcl w1 hc1 _ hm) ?_
 rintro _ w2 ⟨rfl, hc2⟩
 (refine cD V Z Z (cD V Z Z (y_ret ?_)))
 exact jQ Z Z ⟨Z, hc1.trans hc2⟩

theorem all_span (w : World) (lo hi : Nat) (v cv : Value) (es : List Value) (p : Value → Bool) (hrd : RdE w lo hi v 2 es) (hagg : ∀ i (hi : i < es.length), ∃ c, es[i] = .agg c) (hlen : es.length < 4611686018427387904) (hp : PredAt Tryz.prog tab w cv es p) :
  Ca Tryz.prog 98 [v, cv] w fun r w' => r = .bool (es.all p) ∧ Chg [] w w' := by
 refine ca_of Tryz.func98 Z (by simp [Tryz.ntmps98]) ?_
 (refine fQ (cQ ?_))
 refine yl_box Z Z (fun w1 hc1 hs1 hb1 => ?_)
 have hcv : cv.cells.toList = [cv] := by obtain ⟨g, first, caps, rfl, _, _⟩ := hp; rfl
 rw [hcv] at hb1
 have hp1 : PredAt Tryz.prog tab w1 (.func (.func 124) #[] #[.pointer (some ⟨w.heap.size, 0, none⟩)]) es (fun x => !(p x)) := by
  refine ⟨124, #[], #[_], Z, Z, fun w' hw' x hx => ?_⟩
  refine all1_span w' w.heap.size _ cv x es p ?_ hx (hb1.keep hw') (hp.keep (hc1.trans hw'))
  obtain ⟨i, hi, rfl⟩ := List.getElem_of_mem hx
  obtain ⟨c, hc⟩ := hagg i hi; exact ⟨c, hc, by have := hrd.sz _ hx; rw [hc] at this; exact this⟩
 (refine cD V Z Z (fQ (cQ (cD V Z Z (cD V Z Z ?_)))))
 refine jF V Z Z Z Z (conF_span w1 lo hi v _ es _ (hrd.keep hc1) hagg hlen hp1) ?_
 rintro _ w2 ⟨rfl, hc2⟩
 (refine cD V Z Z (cD V Z Z (y_ret ?_)))
 refine jQ Z Z ⟨?_, hc1.trans hc2⟩
 rw [List.all_eq_not_any_not]


end Go.Proofs.YtohlillcaadidaaGreat

/- Walks: something holds for each row. -/
namespace Go.Proofs.YtohlillcaadidaaGreat
open Go Go.Eng

/-- A predicate of rows, as a function value. -/
def RowP (w : World) (lo hi : Nat) (cv : Value) (ll : List (List Int)) (p : List Int → Bool) : Prop :=
 ∃ g first caps, cv = .func (.func g) first caps ∧ has tab.fn g = true ∧
  ∀ w', Chg [] w w' → ∀ l ∈ ll, ∀ v, RdI w' lo hi v l → Ca Tryz.prog g (first.toList ++ [v] ++ caps.toList) w' fun v w'' => v = .bool (p l) ∧ Chg [] w' w''
theorem RowP.keep {w w1 : World} {lo hi : Nat} {cv : Value} {ll : List (List Int)} {p : List Int → Bool} (h : RowP w lo hi cv ll p) (c : Chg [] w w1) : RowP w1 lo hi cv ll p := by
 obtain ⟨g, f, cs, h1, h2, h3⟩ := h
 exact ⟨g, f, cs, h1, h2, fun w' hw => h3 w' (c.trans hw)⟩

theorem idxR (w : World) (lo hi : Nat) (v cv : Value) (ll : List (List Int)) (p : List Int → Bool) (hrd : RdII w lo hi v ll) (hlen : ll.length < 1000000) (hp : RowP w lo hi cv ll p) :
  Ca Tryz.prog 126 [v, cv] w fun r w' => (∃ i : Int, r = .int .i64 i ∧ decide (0 ≤ i) = ll.any p) ∧ Chg [] w w' := by
 obtain ⟨a, cap, rfl, hsl⟩ := hrd.outI
 obtain ⟨g, first, caps, rfl, hg, hcl⟩ := hp
 refine dB (Sat.nil w M0) Tryz.func126 Z (by simp [Tryz.ntmps126]) ?_
 (refine aE (aB (aA V Z Z (aF (aE (aE (aB ?_)))))); (iterate 3 refine aA V Z Z ?_); refine aF (aP ?_))
 refine bN (σ := Nat) (fun k => k ≤ ll.length ∧ (ll.take k).any p = false) (fun k => ll.length - k) (fun k => [(0, .slice a ll.length cap), (1, .func (.func g) first caps), (7, .int .i64 ll.length), (8, .int .i64 k)]) (fun _ => []) 0 ⟨by omega, Z⟩ ⟨Z, Z, Z, Z, trivial⟩ .nil ?_
 rintro k ⟨hk, hpk⟩ K hK
 (refine aE (aB (aA V Z Z (aF (aE ?_)))))
 refine dD Z (fun hc => ?_) (fun hc => ?_)
 ·have hk : k < ll.length := by omega
  obtain ⟨b, off, rfl⟩ := hsl O
  obtain ⟨ar, cr, hrow, hcell⟩ := hrd.row k hk
  (refine aR (aE (aP (aE (aB (aA V Z Z (aA V Z Z (aF (aE (aB ?_))))))))); (iterate 3 refine aA V Z Z ?_))
  refine bW V Z Z Z Z Z O O ?_
  refine cI (v := .slice ar ll[k].length cr) V Z Z Z (fun w' hs => hcell w' hs.chg0) ?_
  refine aJ V Z hg Z Z (fun w' hs => hcl w' hs.chg0 ll[k] (List.getElem_mem hk) _ (RdE.keep hrow hs.chg0)) ?_
  (refine aF ?_)
  refine jO Z (fun hc => ?_) (fun hc => ?_)
  ·(refine aE (aB (aA V Z Z (aA V Z Z (aF (aW ?_))))))
   refine aX V Z U fun w hs => ?_
   refine ⟨⟨k, Z, ?_⟩, hs.chg0⟩
   rw [decide_eq_true O, List.any_eq_true.2 ⟨ll[k], List.getElem_mem hk, hc⟩]
  ·(refine aR (bL (aB (bB V Z Z Z Z O O (aA V Z Z (aF ?_))))))
   exact hK (k + 1) _ _ ⟨by omega, by rw [List.take_succ_eq_append_getElem hk, List.any_append, hpk]; simp [hc]⟩ O ⟨Z, Z, Z, Z, trivial⟩ U
 ·obtain rfl : k = ll.length := by omega
  rw [List.take_length] at hpk
  (refine bJ _ Z (aE (aB (aA V Z Z (aF (aW ?_))))))
  refine aX V Z U fun w hs => ?_
  exact ⟨⟨-1, Z, by rw [hpk]; rfl⟩, hs.chg0⟩

theorem conR (w : World) (lo hi : Nat) (v cv : Value) (ll : List (List Int)) (p : List Int → Bool) (hrd : RdII w lo hi v ll) (hlen : ll.length < 1000000) (hp : RowP w lo hi cv ll p) :
  Ca Tryz.prog 105 [v, cv] w fun r w' => r = .bool (ll.any p) ∧ Chg [] w w' := by
 refine dB (Sat.nil w M0) Tryz.func105 Z (by simp [Tryz.ntmps105]) ?_
 (refine aE (aB (aA V Z Z (aF (aE (aB (aA V Z Z (aA V Z Z ?_))))))))
 refine bO (β := Int) (ψ := fun i v => v = .int .i64 i ∧ decide (0 ≤ i) = ll.any p) (L' := fun _ => []) V [] _ M0 Z Z Z Z (Sp.refl _) qS (fun w' hs => (idxR w' lo hi v cv ll p (hrd.keep hs.chg0) hlen (hp.keep hs.chg0)).mono (fun r w'' ⟨⟨i, h1, h2⟩, h3⟩ => ⟨i, ⟨h1, h2⟩, (Sat.nil w' M0).keep h3⟩)) ?_
 rintro i _ ⟨rfl, hi⟩
 (refine aA V Z Z (aA V Z Z (aF (aW ?_))))
 refine aX V Z U fun w hs => ?_
 exact ⟨by rw [← hi]; rfl, hs.chg0⟩

theorem allR1 (w : World) (lo hi : Nat) (b t : Nat) (cv v : Value) (l : List Int) (ll : List (List Int)) (p : List Int → Bool) (hm : l ∈ ll) (hb : Blk w b [cv] t) (hv : RdI w lo hi v l) (hp : RowP w lo hi cv ll p) :
  Ca Tryz.prog 106 [v, .pointer (some ⟨b, 0, none⟩)] w fun r w' => r = .bool (!(p l)) ∧ Chg [] w w' := by
 obtain ⟨g, first, caps, rfl, hg, hcl⟩ := hp
 refine dB (Sat.nil w M0) Tryz.func106 Z (by simp [Tryz.ntmps106]) ?_
 (refine aE (aB (aA V Z Z (aF (aE (aB ?_))))); refine eN V Z Z Z (by assumption) (by rfl) ?_; refine aA V Z Z ?_)
 refine aJ V Z hg Z Z (fun w' hs => hcl w' hs.chg0 l hm _ (RdE.keep hv hs.chg0)) ?_
 (refine aA V Z Z (aA V Z Z (aF (aW ?_))))
 refine aX V Z U fun w hs => ?_
 exact ⟨Z, hs.chg0⟩

theorem allR (w : World) (lo hi : Nat) (v cv : Value) (ll : List (List Int)) (p : List Int → Bool) (hrd : RdII w lo hi v ll) (hlen : ll.length < 1000000) (hp : RowP w lo hi cv ll p) :
  Ca Tryz.prog 52 [v, cv] w fun r w' => r = .bool (ll.all p) ∧ Chg [] w w' := by
 have hcv : cv.cells.toList = [cv] := by obtain ⟨g, first, caps, rfl, _, _⟩ := hp; rfl
 refine dB (Sat.nil w M0) Tryz.func52 Z (by simp [Tryz.ntmps52]) ?_
 (refine aE (aB ?_))
 refine bG Z Z (fun b3 => ?_)
 rw [hcv]
 (refine aA V Z Z (aF (aE (aB (aA V Z Z (aA V Z Z ?_))))))
 refine aJ V Z Z Z Z (fun w hs => conR w lo hi v _ ll (fun l => !(p l)) (hrd.keep hs.chg0) hlen ⟨_, #[], #[_], Z, Z, fun w' hw' l hl v hv => allR1 w' lo hi b3 _ cv v l ll p hl ((hs.blk U).keep hw') hv (hp.keep (hs.chg0.trans hw'))⟩) ?_
 (refine aA V Z Z (aA V Z Z (aF (aW ?_))))
 refine aX V Z U fun w hs => ?_
 exact ⟨by rw [List.all_eq_not_any_not]; rfl, hs.chg0⟩

end Go.Proofs.YtohlillcaadidaaGreat

/- Walks: which ranges are right. -/
namespace Go.Proofs.YtohlillcaadidaaGreat
open Go Go.Eng

def pI (lo hi : Int) : Value → Bool
 | .int _ n => inB n lo hi
 | _ => false
theorem qF (lo hi : Int) (l : List Int) : (aZ l).all (pI lo hi) = l.all (fun n => inB n lo hi) := by
 rw [List.all_map]
 rfl
theorem iB (l : List Int) : ∀ i (hi : i < (aZ l).length), dY (aZ l)[i] = true := by
 intro i hi
 simp [dY]

theorem chk1_p (w : World) (lo hi b : Nat) (t : TypeId) (m : Int) (ll : List (List Int)) (hb : Blk w b [.int .i64 m] t) : RowP w lo hi (.func (.func 75) #[] #[.pointer (some ⟨b, 0, none⟩)]) ll (fun l => decide ((l.length : Int) = m) && true) := by
 refine ⟨_, _, _, Z, Z, fun w' hw' l _ v hv => ?_⟩
 have hb' := hb.keep hw'
 obtain ⟨a, c, rfl, _⟩ := RdI.outI hv
 refine dB (Sat.nil w' M0) Tryz.func75 Z (by simp [Tryz.ntmps75]) ?_
 (refine aE (aB (aA V Z Z (aF (aE (aB (aA V Z Z (aA V Z Z ?_))))))); refine eN V Z Z Z (by assumption) (by rfl) ?_; refine aA V Z Z (aA V Z Z (aF (aW ?_))))
 refine aX V Z U fun w hs => ?_
 exact ⟨by simp [fT], hs.chg0⟩

theorem chk2_p (w : World) (b : Nat) (t : TypeId) (r : Rg) (cs : List Value) (es : List Int) (hb : Blk w b cs t) (hc : cs[3]? = some (.int .i64 r.total)) : PredAt Tryz.prog tab w (.func (.func 76) #[] #[.pointer (some ⟨b, 0, none⟩)]) (aZ es) (pI 0 r.total) := by
 refine ⟨_, _, _, Z, Z, fun w' hw' x hx => ?_⟩
 have hb' := hb.keep hw'
 obtain ⟨y, hy, rfl⟩ := List.mem_map.1 hx
 refine dB (Sat.nil w' M0) Tryz.func76 Z (by simp [Tryz.ntmps76]) ?_
 (refine aE (aB (aA V Z Z (aF (aE (aB (aA V Z Z (aA V Z Z ?_))))))))
 refine eN V Z Z Z hb' hc ?_
 refine aJ V Z Z Z Z (fun w hs => fW y 0 r.total w) ?_
 (refine aA V Z Z (aF (aW ?_)))
 refine aX V Z U fun w hs => ?_
 exact ⟨Z, hs.chg0⟩

theorem chk3_p (w : World) (es : List Int) : PredAt Tryz.prog tab w (.func (.func 78) #[] #[]) (aZ es) (pI (-300) 300) := by
 refine ⟨_, _, _, Z, Z, fun w' hw' x hx => ?_⟩
 obtain ⟨y, hy, rfl⟩ := List.mem_map.1 hx
 refine dB (Sat.nil w' M0) Tryz.func78 Z (by simp [Tryz.ntmps78]) ?_
 (refine aE (aB (aA V Z Z (aF (aE (aB (aA V Z Z ?_)))))))
 refine aJ V Z Z Z Z (fun w hs => fW y (-300) 300 w) ?_
 (refine aA V Z Z (aF (aW ?_)))
 refine aX V Z U fun w hs => ?_
 exact ⟨Z, hs.chg0⟩

theorem chk4_p (w : World) (es : List Int) : PredAt Tryz.prog tab w (.func (.func 79) #[] #[]) (aZ es) (pI 0 100) := by
 refine ⟨_, _, _, Z, Z, fun w' hw' x hx => ?_⟩
 obtain ⟨y, hy, rfl⟩ := List.mem_map.1 hx
 refine dB (Sat.nil w' M0) Tryz.func79 Z (by simp [Tryz.ntmps79]) ?_
 (refine aE (aB (aA V Z Z (aF (aE (aB (aA V Z Z ?_)))))))
 refine aJ V Z Z Z Z (fun w hs => fW y 0 100 w) ?_
 (refine aA V Z Z (aF (aW ?_)))
 refine aX V Z U fun w hs => ?_
 exact ⟨Z, hs.chg0⟩

theorem chk5_p (w : World) (lo hi b b1 : Nat) (t t1 : TypeId) (r : Rg) (cs : List Value) (ll : List (List Int)) (hlen : ∀ l ∈ ll, l.length < 1000000) (hb : Blk w b [.func (.func 76) #[] #[.pointer (some ⟨b1, 0, none⟩)]] t) (hb1 : Blk w b1 cs t1) (hc : cs[3]? = some (.int .i64 r.total)) :
  RowP w lo hi (.func (.func 80) #[] #[.pointer (some ⟨b, 0, none⟩)]) ll (fun l => l.all (fun n => inB n 0 r.total)) := by
 refine ⟨_, _, _, Z, Z, fun w' hw' l hl v hv => ?_⟩
 have hb' := hb.keep hw'
 refine dB (Sat.nil w' M0) Tryz.func80 Z (by simp [Tryz.ntmps80]) ?_
 (refine aE (aB (aA V Z Z (aF (aE (aB (aA V Z Z ?_)))))); refine eN V Z Z Z (by assumption) (by rfl) ?_)
 (refine aJ V Z Z Z Z (fun w hs => lC w lo hi v _ (aZ l) (pI 0 r.total) (RdE.keep hv hs.chg0) (iB l) (by have := hlen l hl; simp; omega) (chk2_p w b1 t1 r cs l (hb1.keep (hw'.trans hs.chg0)) hc)) ?_)
 (refine aA V Z Z (aF (aW ?_)))
 refine aX V Z U fun w hs => ?_
 exact ⟨by rw [qF]; rfl, hs.chg0⟩

theorem chk6_p (w : World) (lo hi b : Nat) (t : TypeId) (r : Rg) (cs : List Value) (ll : List (List Int)) (hlen : ∀ l ∈ ll, l.length < 1000000 ∧ ∀ x ∈ l, -1000000 ≤ x ∧ x ≤ 1000000) (hb : Blk w b cs t) (hc : cs[3]? = some (.int .i64 r.total)) :
  RowP w lo hi (.func (.func 82) #[] #[.pointer (some ⟨b, 0, none⟩)]) ll (fun l => decide (l.sum = r.total) && true) := by
 refine ⟨_, _, _, Z, Z, fun w' hw' l hl v hv => ?_⟩
 have hb' := hb.keep hw'
 refine dB (Sat.nil w' M0) Tryz.func82 Z (by simp [Tryz.ntmps82]) ?_
 (refine aE (aB (aA V Z Z (aF (aE ?_)))))
 refine bX _ [] (Sp.refl _) qR qR ?_
 (refine aD V Z Z Z ?_)
 refine aS V Z Z Z Z (fun w hs => sum_ca w lo hi v l (RdE.keep hv hs.chg0) (hlen l hl).1 (hlen l hl).2) ?_
 (refine aD V Z Z Z ?_)
 refine dO V Z Z Z hb' hc ?_
 (refine aD V Z Z Z (aD V Z Z Z (aK (aW ?_))))
 refine aX V Z U fun w hs => ?_
 exact ⟨by simp [fT], hs.chg0⟩

def cntB (r : Rg) : Bool := inB r.group.length 1 21 && !(decide ((r.group.length : Int) % 2 = 0)) && inB r.drifts.length 1 5 && decide ((r.first.length : Int) = r.drifts.length) && decide ((r.next.length : Int) = r.drifts.length) && r.next.all (fun l => decide ((l.length : Int) = r.drifts.length) && true)
def iT (r : Rg) : Bool := inB r.radius 0 200 && inB r.unit 1 20 && inB r.clicks 0 6 && inB r.total 1 12
def lI (r : Rg) : Bool := r.drifts.all (fun n => inB n (-300) 300) && r.group.all (fun n => inB n 0 100)
def lM (r : Rg) : Bool := r.first.all (fun n => inB n 0 r.total) && r.next.all (fun l => l.all (fun n => inB n 0 r.total))
def cnfB (r : Rg) : Bool := inB r.group.sum 1 100 && decide (r.first.sum = r.total) && r.next.all (fun l => decide (l.sum = r.total) && true)
/-- The error of a range. -/
def checkV (r : Rg) : Int := if !cntB r then 2 else if !iT r then 3 else if !lI r then 3 else if !lM r then 3 else if !cnfB r then 7 else 0

set_option maxHeartbeats 2000000 in
theorem dJ (w : World) (cs : List Value) (r : Rg) (h : RgC w cs r) (hsm : r.Small) : Ca Tryz.prog 28 [.agg cs.toArray] w fun v w' => v = .int .i64 (checkV r) ∧ Chg [] w w' := by
 obtain ⟨lo, hi, ag, cg, ad, cd, af, cf, an, cn, rfl, hg, hdr, hf, hn⟩ := h
 have s1 := hsm.group
 have s2 := hsm.drifts
 have s3 := hsm.first
 have s4 := hsm.next
 refine dB (Sat.nil w M0) Tryz.func28 Z (by simp [Tryz.ntmps28]) ?_
 (refine aE (aB ?_))
 refine bG Z Z (fun b1 => ?_)
 (refine aA V Z Z (aF (aE (aB (aA V Z Z ?_)))); refine aH V Z Z Z ?_; refine aA V Z Z ?_)
 refine aV nE Z (fun b3 => ?_)
 (refine eV V Z Z Z Z U ?_; refine aF (aE (aE (aB (aA V Z Z ?_)))); refine aH V Z Z Z ?_; refine aA V Z Z ?_)
 refine aJ V Z Z Z Z (fun w hs => fW (r.group.length : Int) 1 21 w) ?_
 (refine aA V Z Z (aA V Z Z ?_))
 refine bU Z Z (fun hc => ?_) (fun hc => ?_)
 ·((iterate 5 refine bA Z Z Z ?_); refine aA V Z Z (aA V Z Z ?_); (iterate 3 refine bA Z Z Z ?_); refine aA V Z Z (aA V Z Z ?_); (iterate 5 refine bA Z Z Z ?_); refine aA V Z Z (aA V Z Z ?_); (iterate 5 refine bA Z Z Z ?_); refine aA V Z Z (aA V Z Z ?_); (iterate 5 refine bA Z Z Z ?_); refine aA V Z Z (aF (aM Z (aE (aB (aA V Z Z (aF (aW ?_))))))))
  refine aX V Z U fun w hs => ?_
  exact ⟨by simp at hc; simp [fT, checkV, cntB, hc], hs.chg0⟩
 simp at hc
 have c1 := hc
 (refine aC Z (aA V Z Z (aC Z ?_)); refine aH V Z Z Z ?_; refine aC Z (aA V Z Z (aC Z (dE Z Z Z O O (aC Z ?_)))); (iterate 3 refine aA V Z Z ?_))
 refine bU Z Z (fun hc => ?_) (fun hc => ?_)
 ·((iterate 3 refine bA Z Z Z ?_); refine aA V Z Z (aA V Z Z ?_); (iterate 5 refine bA Z Z Z ?_); refine aA V Z Z (aA V Z Z ?_); (iterate 5 refine bA Z Z Z ?_); refine aA V Z Z (aA V Z Z ?_); (iterate 5 refine bA Z Z Z ?_); refine aA V Z Z (aF (aM Z (aE (aB (aA V Z Z (aF (aW ?_))))))))
  refine aX V Z U fun w hs => ?_
  exact ⟨by simp [fT, checkV, cntB, hc], hs.chg0⟩
 simp at hc
 have c2 := hc
 (refine aC Z ?_; refine aH V Z Z Z ?_; refine aC Z ?_)
 refine aJ V Z Z Z Z (fun w hs => fW (r.drifts.length : Int) 1 5 w) ?_
 (refine aC Z ?_; (iterate 3 refine aA V Z Z ?_))
 refine bU Z Z (fun hc => ?_) (fun hc => ?_)
 ·((iterate 5 refine bA Z Z Z ?_); refine aA V Z Z (aA V Z Z ?_); (iterate 5 refine bA Z Z Z ?_); refine aA V Z Z (aA V Z Z ?_); (iterate 5 refine bA Z Z Z ?_); refine aA V Z Z (aF (aM Z (aE (aB (aA V Z Z (aF (aW ?_))))))))
  refine aX V Z U fun w hs => ?_
  exact ⟨by simp at hc; simp [fT, checkV, cntB, hc], hs.chg0⟩
 simp at hc
 have c3 := hc
 (refine aC Z (aA V Z Z (aC Z ?_)); refine aH V Z Z Z ?_; refine aC Z (aA V Z Z (aC Z ?_)); refine aH V Z Z Z ?_; refine aC Z ?_; (iterate 3 refine aA V Z Z ?_))
 refine bU Z Z (fun hc => ?_) (fun hc => ?_)
 ·((iterate 5 refine bA Z Z Z ?_); refine aA V Z Z (aA V Z Z ?_); (iterate 5 refine bA Z Z Z ?_); refine aA V Z Z (aF (aM Z (aE (aB (aA V Z Z (aF (aW ?_))))))))
  refine aX V Z U fun w hs => ?_
  exact ⟨by simp [fT, checkV, cntB, hc], hs.chg0⟩
 simp at hc
 have c4 := hc
 (refine aC Z (aA V Z Z (aC Z ?_)); refine aH V Z Z Z ?_; refine aC Z (aA V Z Z (aC Z ?_)); refine aH V Z Z Z ?_; refine aC Z ?_; (iterate 3 refine aA V Z Z ?_))
 refine bU Z Z (fun hc => ?_) (fun hc => ?_)
 ·((iterate 5 refine bA Z Z Z ?_); refine aA V Z Z (aF (aM Z (aE (aB (aA V Z Z (aF (aW ?_))))))))
  refine aX V Z U fun w hs => ?_
  exact ⟨by simp [fT, checkV, cntB, hc], hs.chg0⟩
 simp at hc
 have c5 := hc
 (refine aC Z (aA V Z Z (aC Z ?_)); refine aH V Z Z Z ?_; refine aC Z (aA V Z Z (aC Z ?_)))
 refine aJ V Z Z Z Z (fun w hs => allR w lo hi _ _ r.next _ (hn.keep hs.chg0) O (chk1_p w lo hi b3 _ _ r.next (hs.blk U))) ?_
 (refine aC Z (aA V Z Z (aA V Z Z (aF ?_))))
 refine jO Z (fun hc => ?_) (fun hc => ?_)
 ·(refine aE (aB (aA V Z Z (aF (aW ?_)))))
  refine aX V Z U fun w hs => ?_
  exact ⟨by simp only [Bool.not_eq_true'] at hc; simp only [fT, checkV, cntB, hc, Bool.and_false, Bool.false_and, Bool.not_false, Bool.not_true, if_true, if_false, Bool.false_eq_true], hs.chg0⟩
 simp only [Bool.not_eq_false'] at hc
 have cnt : cntB r = true := by
  simp only [cntB, Bool.and_eq_true, Bool.not_eq_true', decide_eq_true_eq, decide_eq_false_iff_not]
  exact ⟨⟨⟨⟨⟨c1, by omega⟩, c3⟩, by omega⟩, by omega⟩, hc⟩
 have hrows : ∀ l ∈ r.next, l.length = r.drifts.length := fun l hl => by
  have := List.all_eq_true.1 hc l hl
  simp at this
  omega
 have c3' := bH.1 c3
 clear c1 c2 c3 c4 c5 hc
 (refine aR (aE (aB (aA V Z Z ?_))))
 refine aV zero134 Z (fun b4 => ?_)
 (refine eV V Z Z Z Z U ?_; refine aF (aE (aP (aE (aB (aA V Z Z ?_))))); refine aH V Z Z Z ?_)
 refine aJ V Z Z Z Z (fun w hs => fW r.radius 0 200 w) ?_
 (refine aA V Z Z (aA V Z Z ?_))
 refine bU Z Z (fun hc => ?_) (fun hc => ?_)
 ·((iterate 4 refine bA Z Z Z ?_); refine aA V Z Z (aA V Z Z ?_); (iterate 4 refine bA Z Z Z ?_); refine aA V Z Z (aA V Z Z ?_); (iterate 4 refine bA Z Z Z ?_); refine aA V Z Z (aA V Z Z (aF (aM Z (aE (aB (aA V Z Z (aF (aW ?_)))))))))
  refine aX V Z U fun w hs => ?_
  exact ⟨by simp at hc; simp [fT, checkV, cnt, iT, hc], hs.chg0⟩
 simp at hc
 have c1 := hc
 (refine aC Z (aA V Z Z (aC Z ?_)); refine aH V Z Z Z ?_; refine aC Z ?_)
 refine aJ V Z Z Z Z (fun w hs => fW r.unit 1 20 w) ?_
 (refine aC Z ?_; (iterate 3 refine aA V Z Z ?_))
 refine bU Z Z (fun hc => ?_) (fun hc => ?_)
 ·((iterate 4 refine bA Z Z Z ?_); refine aA V Z Z (aA V Z Z ?_); (iterate 4 refine bA Z Z Z ?_); refine aA V Z Z (aA V Z Z (aF (aM Z (aE (aB (aA V Z Z (aF (aW ?_)))))))))
  refine aX V Z U fun w hs => ?_
  exact ⟨by simp at hc; simp [fT, checkV, cnt, iT, hc], hs.chg0⟩
 simp at hc
 have c2 := hc
 (refine aC Z (aA V Z Z (aC Z ?_)); refine aH V Z Z Z ?_; refine aC Z ?_)
 refine aJ V Z Z Z Z (fun w hs => fW r.clicks 0 6 w) ?_
 (refine aC Z ?_; (iterate 3 refine aA V Z Z ?_))
 refine bU Z Z (fun hc => ?_) (fun hc => ?_)
 ·((iterate 4 refine bA Z Z Z ?_); refine aA V Z Z (aA V Z Z (aF (aM Z (aE (aB (aA V Z Z (aF (aW ?_)))))))))
  refine aX V Z U fun w hs => ?_
  exact ⟨by simp at hc; simp [fT, checkV, cnt, iT, hc], hs.chg0⟩
 simp at hc
 have c3 := hc
 (refine aC Z (aA V Z Z (aC Z ?_)); refine aH V Z Z Z ?_; refine aC Z ?_)
 refine aJ V Z Z Z Z (fun w hs => fW r.total 1 12 w) ?_
 (refine aC Z ?_; (iterate 3 refine aA V Z Z ?_); refine aF ?_)
 refine jO Z (fun hc => ?_) (fun hc => ?_)
 ·(refine aE (aB (aA V Z Z (aF (aW ?_)))))
  refine aX V Z U fun w hs => ?_
  exact ⟨by simp at hc; simp [fT, checkV, cnt, iT, hc], hs.chg0⟩
 simp at hc
 have rng1 : iT r = true := by simp [iT, c1, c2, c3, hc]
 have htot := bH.1 hc
 clear c1 c2 c3 hc
 (refine aE (aB (aA V Z Z ?_)); refine aH V Z Z Z ?_)
 (refine aJ V Z Z Z Z (fun w hs => lC w lo hi _ _ (aZ r.drifts) (pI (-300) 300) (RdE.keep hdr hs.chg0) (iB _) (by simp; omega) (chk3_p w r.drifts)) ?_)
 rw [qF]
 (refine aA V Z Z (aA V Z Z ?_))
 refine bU Z Z (fun hc => ?_) (fun hc => ?_)
 ·((iterate 4 refine bA Z Z Z ?_); refine aA V Z Z (aA V Z Z (aF (aM Z (aE (aB (aA V Z Z (aF (aW ?_)))))))))
  refine aX V Z U fun w hs => ?_
  exact ⟨by simp only [Bool.not_eq_true'] at hc; simp only [fT, checkV, cnt, rng1, lI, hc, Bool.and_false, Bool.false_and, Bool.not_false, Bool.not_true, if_true, if_false, Bool.false_eq_true], hs.chg0⟩
 simp only [Bool.not_eq_false'] at hc
 have c1 := hc
 (refine aC Z (aA V Z Z (aC Z ?_)); refine aH V Z Z Z ?_; refine aC Z ?_)
 (refine aJ V Z Z Z Z (fun w hs => lC w lo hi _ _ (aZ r.group) (pI 0 100) (RdE.keep hg hs.chg0) (iB _) (by simp; omega) (chk4_p w r.group)) ?_)
 rw [qF]
 (refine aC Z ?_; (iterate 3 refine aA V Z Z ?_); refine aF ?_)
 refine jO Z (fun hc => ?_) (fun hc => ?_)
 ·(refine aE (aB (aA V Z Z (aF (aW ?_)))))
  refine aX V Z U fun w hs => ?_
  exact ⟨by simp only [Bool.not_eq_true'] at hc; simp only [fT, checkV, cnt, rng1, lI, hc, Bool.and_false, Bool.false_and, Bool.not_false, Bool.not_true, if_true, if_false, Bool.false_eq_true], hs.chg0⟩
 simp only [Bool.not_eq_false'] at hc
 have rng2 : lI r = true := by simp only [lI, Bool.and_eq_true]; exact ⟨c1, hc⟩
 have hgr : ∀ x ∈ r.group, -1000000 ≤ x ∧ x ≤ 1000000 := fun x hx => by
  have := bH.1 (List.all_eq_true.1 hc x hx)
  omega
 clear c1 hc
 (refine aE (aB (aA V Z Z ?_)); (iterate 2 refine aH V Z Z Z ?_))
 (refine aJ V Z Z Z Z (fun w hs => lC w lo hi _ _ (aZ r.first) (pI 0 r.total) (RdE.keep hf hs.chg0) (iB _) (by simp; omega) (chk2_p w b1 _ r _ r.first (hs.blk U) Z)) ?_)
 rw [qF]
 (refine aA V Z Z (aA V Z Z ?_))
 refine bU Z Z (fun hc => ?_) (fun hc => ?_)
 ·((iterate 5 refine bA Z Z Z ?_); refine aA V Z Z (aA V Z Z (aF (aM Z (aE (aB (aA V Z Z (aF (aW ?_)))))))))
  refine aX V Z U fun w hs => ?_
  exact ⟨by simp only [Bool.not_eq_true'] at hc; simp only [fT, checkV, cnt, rng1, rng2, lM, hc, Bool.and_false, Bool.false_and, Bool.not_false, Bool.not_true, if_true, if_false, Bool.false_eq_true], hs.chg0⟩
 simp only [Bool.not_eq_false'] at hc
 have c1 := hc
 (refine aC Z (aA V Z Z (aC Z ?_)); refine aH V Z Z Z ?_; refine aC Z (aA V Z Z (aC Z ?_)))
 (refine aJ V Z Z Z Z (fun w hs => allR w lo hi _ _ r.next _ (hn.keep hs.chg0) O (chk5_p w lo hi b4 b1 _ _ r _ r.next (fun l hl => by have := hrows l hl; omega) (hs.blk U) (hs.blk U) Z)) ?_)
 (refine aC Z ?_; (iterate 3 refine aA V Z Z ?_); refine aF ?_)
 refine jO Z (fun hc => ?_) (fun hc => ?_)
 ·(refine aE (aB (aA V Z Z (aF (aW ?_)))))
  refine aX V Z U fun w hs => ?_
  exact ⟨by simp only [Bool.not_eq_true'] at hc; simp only [fT, checkV, cnt, rng1, rng2, lM, hc, Bool.and_false, Bool.false_and, Bool.not_false, Bool.not_true, if_true, if_false, Bool.false_eq_true], hs.chg0⟩
 simp only [Bool.not_eq_false'] at hc
 have rng3 : lM r = true := by simp only [lM, Bool.and_eq_true]; exact ⟨c1, hc⟩
 have hfr : ∀ x ∈ r.first, -1000000 ≤ x ∧ x ≤ 1000000 := fun x hx => by
  have := bH.1 (List.all_eq_true.1 c1 x hx)
  omega
 have hnr : ∀ l ∈ r.next, l.length < 1000000 ∧ ∀ x ∈ l, -1000000 ≤ x ∧ x ≤ 1000000 := fun l hl => ⟨by have := hrows l hl; omega, fun x hx => by
  have := bH.1 (List.all_eq_true.1 (List.all_eq_true.1 hc l hl) x hx)
  omega⟩
 clear c1 hc
 (refine aE ?_)
 refine bX _ [] (Sp.refl _) qR qR ?_
 (refine aD V Z Z Z ?_; refine aT V Z Z Z ?_)
 refine aS V Z Z Z Z (fun w hs => sum_ca w lo hi _ r.group (RdE.keep hg hs.chg0) O hgr) ?_
 refine aS V Z Z Z Z (fun w hs => fW r.group.sum 1 100 w) ?_
 (refine aD V Z Z Z (aD V Z Z Z ?_))
 refine jA Z Z (fun hc => ?_) (fun hc => ?_)
 ·((iterate 6 refine eD Z Z Z ?_); refine aD V Z Z Z (aD V Z Z Z ?_); (iterate 5 refine eD Z Z Z ?_); refine aD V Z Z Z (aD V Z Z Z (aK (aM Z (aE (aB (aA V Z Z (aF (aW ?_)))))))))
  refine aX V Z U fun w hs => ?_
  exact ⟨by simp at hc; simp [fT, checkV, cnt, rng1, rng2, rng3, cnfB, hc], hs.chg0⟩
 simp at hc
 have c1 := hc
 (refine aG Z (aD V Z Z Z (aG Z ?_)); refine aT V Z Z Z ?_; refine aG Z ?_)
 refine aS V Z Z Z Z (fun w hs => sum_ca w lo hi _ r.first (RdE.keep hf hs.chg0) O hfr) ?_
 (refine aG Z (aD V Z Z Z (aG Z ?_)); refine aT V Z Z Z ?_; refine aG Z ?_; (iterate 3 refine aD V Z Z Z ?_))
 refine jA Z Z (fun hc => ?_) (fun hc => ?_)
 ·((iterate 5 refine eD Z Z Z ?_); refine aD V Z Z Z (aD V Z Z Z (aK (aM Z (aE (aB (aA V Z Z (aF (aW ?_)))))))))
  refine aX V Z U fun w hs => ?_
  exact ⟨by simp at hc; simp [fT, checkV, cnt, rng1, rng2, rng3, cnfB, hc], hs.chg0⟩
 simp at hc
 have c2 := hc
 (refine aG Z (aD V Z Z Z (aG Z ?_)); refine aT V Z Z Z ?_; refine aG Z (aD V Z Z Z (aG Z ?_)))
 refine aS V Z Z Z Z (fun w hs => allR w lo hi _ _ r.next _ (hn.keep hs.chg0) O (chk6_p w lo hi b1 _ r _ r.next hnr (hs.blk U) Z)) ?_
 (refine aG Z ?_; (iterate 3 refine aD V Z Z Z ?_); refine aK ?_)
 refine jO Z (fun hc => ?_) (fun hc => ?_)
 ·(refine aE (aB (aA V Z Z (aF (aW ?_)))))
  refine aX V Z U fun w hs => ?_
  exact ⟨by simp only [Bool.not_eq_true'] at hc; simp only [fT, checkV, cnt, rng1, rng2, rng3, cnfB, hc, Bool.and_false, Bool.false_and, Bool.not_false, Bool.not_true, if_true, if_false, Bool.false_eq_true], hs.chg0⟩
 ·simp only [Bool.not_eq_false'] at hc
  (refine aR (bL (aE (aB (aA V Z Z (aF (aW ?_)))))))
  refine aX V Z U fun w hs => ?_
  refine ⟨?_, hs.chg0⟩
  have cnf : cnfB r = true := by
   simp only [cnfB, Bool.and_eq_true]
   exact ⟨⟨c1, by simpa using c2⟩, hc⟩
  simp [fT, checkV, cnt, rng1, rng2, rng3, cnf]

end Go.Proofs.YtohlillcaadidaaGreat

/- Walks: a range is opened; hits. -/
namespace Go.Proofs.YtohlillcaadidaaGreat
open Go Go.Eng

theorem bM (r : Rg) : checkV r = 0 ↔ r.Right := by
 constructor
 ·intro h
  have hc : cntB r = true ∧ iT r = true ∧ lI r = true ∧ lM r = true ∧ cnfB r = true := by
   unfold checkV at h
   cases h1 : cntB r <;> cases h2 : iT r <;> cases h3 : lI r <;> cases h4 : lM r <;> cases h5 : cnfB r <;> simp [h1, h2, h3, h4, h5] at h ⊢
  obtain ⟨h1, h2, h3, h4, h5⟩ := hc
  simp only [cntB, iT, lI, lM, cnfB, Bool.and_eq_true, bH, Bool.not_eq_true', decide_eq_true_eq, decide_eq_false_iff_not, List.all_eq_true, Bool.and_true] at h1 h2 h3 h4 h5
  obtain ⟨⟨⟨⟨⟨a1, a2⟩, a3⟩, a4⟩, a5⟩, a6⟩ := h1
  obtain ⟨⟨⟨b1, b2⟩, b3⟩, b4⟩ := h2
  obtain ⟨⟨d1, d2⟩, d3⟩ := h5
  exact ⟨by omega, by omega, by omega, by omega, by omega, by omega, by omega, fun l hl => by have := a6 l hl; omega, b1, b2, b3, b4, h3.1, h3.2, h4.1, h4.2, d1, d2, d3⟩
 ·intro h
  have h1 : cntB r = true := by
   simp only [cntB, Bool.and_eq_true, bH, Bool.not_eq_true', decide_eq_true_eq, decide_eq_false_iff_not, List.all_eq_true, Bool.and_true]
   have e1 := h.g1; have e2 := h.g2; have e3 := h.odd; have e4 := h.d1; have e5 := h.d2; have e6 := h.first; have e7 := h.next
   exact ⟨⟨⟨⟨⟨by omega, by omega⟩, by omega⟩, by omega⟩, by omega⟩, fun l hl => by have := h.rows l hl; omega⟩
  have h2 : iT r = true := by
   simp only [iT, Bool.and_eq_true, bH]
   exact ⟨⟨⟨h.radius, h.unit⟩, h.clicks⟩, h.total⟩
  have h3 : lI r = true := by
   simp only [lI, Bool.and_eq_true, bH, List.all_eq_true]
   exact ⟨h.drift, h.weight⟩
  have h4 : lM r = true := by
   simp only [lM, Bool.and_eq_true, bH, List.all_eq_true]
   exact ⟨h.chance, h.chances⟩
  have h5 : cnfB r = true := by
   simp only [cnfB, Bool.and_eq_true, bH, List.all_eq_true, decide_eq_true_eq, Bool.and_true]
   exact ⟨⟨h.gsum, h.fsum⟩, h.nsum⟩
  simp [checkV, h1, h2, h3, h4, h5]

theorem jN (w : World) (cs : List Value) (r : Rg) (h : RgC w cs r) (hsm : r.Small) (hr : checkV r ≠ 0) : Ca Tryz.prog 83 [.agg cs.toArray] w fun v w' => v = .tuple #[.pointer none, .int .i64 (checkV r)] ∧ Chg [] w w' := by
 have h0 := h
 obtain ⟨lo, hi, ag, cg, ad, cd, af, cf, an, cn, rfl, hg, hdr, hf, hn⟩ := h
 refine dB (Sat.nil w M0) Tryz.func83 Z (by simp [Tryz.ntmps83]) ?_
 (refine aE (aB ?_))
 refine bG Z Z (fun b1 => ?_)
 (refine aA V Z Z (aA V Z Z (aF (aE (aE (aB ?_))))); refine aI V Z Z Z ?_)
 refine aJ V Z Z Z Z (fun w hs => dJ w _ r (h0.keep hs.chg0) hsm) ?_
 (refine aA V Z Z (aF (aE (aB (aA V Z Z (aA V Z Z (aF ?_)))))))
 rw [decide_eq_false hr]
 (refine aM Z (aE (aB ?_)); (iterate 3 refine aA V Z Z ?_); refine aF (aW ?_))
 refine aX V Z U fun w hs => ?_
 exact ⟨Z, hs.chg0⟩

theorem iH (w : World) (cs : List Value) (r : Rg) (h : RgC w cs r) (hsm : r.Small) (hr : checkV r = 0) : Ca Tryz.prog 83 [.agg cs.toArray] w fun v w' => ∃ x : Nat, v = .tuple #[.pointer (some ⟨x, 0, none⟩), .int .i64 0] ∧ Sat w M0 [.pt x cs 141] w' := by
 have h0 := h
 obtain ⟨lo, hi, ag, cg, ad, cd, af, cf, an, cn, rfl, hg, hdr, hf, hn⟩ := h
 refine dB (Sat.nil w M0) Tryz.func83 Z (by simp [Tryz.ntmps83]) ?_
 (refine aE (aB ?_))
 refine bG Z Z (fun b1 => ?_)
 (refine aA V Z Z (aA V Z Z (aF (aE (aE (aB ?_))))); refine aI V Z Z Z ?_)
 refine aJ V Z Z Z Z (fun w hs => dJ w _ r (h0.keep hs.chg0) hsm) ?_
 rw [hr]
 (refine aA V Z Z (aF (aE (aB (aA V Z Z (aA V Z Z (aF (aL Z (aR (aE (aB ?_)))))))))); refine aI V Z Z Z ?_)
 refine cE #[.int .i64 r.radius, .int .i64 r.unit, .int .i64 r.clicks, .int .i64 r.total, .slice ag r.group.length cg, .slice ad r.drifts.length cd, .slice af r.first.length cf, .slice an r.next.length cn] Z qR Z ?_
 refine bG Z Z (fun b2 => ?_)
 (refine aA V Z Z (aA V Z Z (aF (aW ?_))))
 refine aX V Z U fun w hs => ?_
 exact ⟨b2, Z, hs.sp U⟩

end Go.Proofs.YtohlillcaadidaaGreat

/- Walks: Hit; the weights of the states. -/
namespace Go.Proofs.YtohlillcaadidaaGreat
open Go Go.Eng

theorem sum_mono : ∀ (a b : List Int), a.length = b.length → (∀ i (h : i < a.length) (h' : i < b.length), a[i] ≤ b[i]) → a.sum ≤ b.sum
 | [], [], _, _ => by simp
 | x :: a, y :: b, hl, h => by
  have h0 := h 0 (by simp) (by simp)
  have ih := sum_mono a b (by simpa using hl) (fun i h1 h2 => by have := h (i + 1) (by simpa using h1) (by simpa using h2); simpa using this)
  simp at h0
  simp
  omega
theorem sum_nonneg' : ∀ (a : List Int), (∀ x ∈ a, 0 ≤ x) → 0 ≤ a.sum
 | [], _ => by simp
 | x :: a, h => by
  have h0 := h x List.mem_cons_self
  have ih := sum_nonneg' a (fun y hy => h y (List.mem_cons_of_mem _ hy))
  simp
  omega

theorem eC (r : Rg) (hr : r.Right) (drift click : Int) : 0 ≤ cX r drift click ∧ cX r drift click ≤ r.group.sum := by
 constructor
 ·refine sum_nonneg' _ (fun x hx => ?_)
  obtain ⟨k, hk, rfl⟩ := List.getElem_of_mem hx
  have hk' : k < r.group.length := by rwa [dX] at hk
  have := hr.weight r.group[k] (List.getElem_mem hk')
  rw [lQ r drift click k hk']
  split <;> omega
 ·refine sum_mono _ _ (dX r drift click) (fun k h h' => ?_)
  have := hr.weight r.group[k] (List.getElem_mem h')
  rw [lQ r drift click k h']
  split <;> omega

/-- The chance of a hit. -/
def hitV (r : Rg) (state click : Int) : (Int × Int) × Int :=
 if checkV r ≠ 0 then ((0, 0), checkV r) else if !inB state 0 ((r.drifts.length : Int) - 1) then ((0, 0), 1) else if !inB click (-r.clicks) r.clicks then ((0, 0), 3)
 else (ratioV (r.group.sum - cX r (r.drifts.getD state.toNat 0) click) r.group.sum, 0)

set_option maxHeartbeats 1000000 in
theorem hit_ca (w : World) (cs : List Value) (r : Rg) (state click : Int) (h : RgC w cs r) (hsm : r.Small) : Ca Tryz.prog 29 [.agg cs.toArray, .int .i64 state, .int .i64 click] w fun v w' => v = .tuple #[rtV (hitV r state click).1, .int .i64 (hitV r state click).2] ∧ Chg [] w w' := by
 have h0 := h
 have s2 := hsm.drifts
 obtain ⟨lo, hi, ag, cg, ad, cd, af, cf, an, cn, rfl, hg, hdr, hf, hn⟩ := h
 refine dB (Sat.nil w M0) Tryz.func29 Z (by simp [Tryz.ntmps29]) ?_
 (refine aE (aB ?_))
 refine bG Z Z (fun b3 => ?_)
 refine aV cO Z (fun b6 => ?_)
 (refine aA V Z Z (aF (aE (aB ?_))); refine aI V Z Z Z ?_)
 by_cases hr : checkV r = 0
 ·have hR := (bM r).1 hr
  have hcl := hR.clicks
  refine bO (β := Nat) V [] _ M0 Z Z Z Z (Sp.refl _) qS (fun w' hs => iH w' _ r (h0.keep hs.chg0) hsm hr) ?_
  rintro bd _ rfl
  (refine aA V Z Z (bC V Z Z Z (bC V Z Z Z (aA V Z Z (aA V Z Z (aF (aE (aP (aE (aB ?_))))))))); (iterate 3 refine aA V Z Z ?_); refine aF (aL Z (aE (aB (aA V Z Z (aA V Z Z ?_))))); refine aH V Z Z Z ?_; refine aA V Z Z (bB V Z Z Z Z O O ?_))
  refine aJ V Z Z Z Z (fun w hs => fW state 0 ((r.drifts.length : Int) - 1) w) ?_
  (refine aA V Z Z (aA V Z Z (aF ?_)))
  refine jO Z (fun hc => ?_) (fun hc => ?_)
  ·(refine aE (aB ?_))
   refine cE #[.int .i64 0, .int .i64 0] Z qR Z ?_
   (refine aY V Z Z Z Z Z U Z ?_; refine aA V Z Z (aF (aW ?_)))
   refine aX V Z U fun w hs => ?_
   exact ⟨by simp at hc; simp [fT, hitV, hr, hc, rtV], hs.chg0⟩
  simp at hc
  have hst := hc
  have hst' := bH.1 hst
  (refine aE (aB (aA V Z Z (aA V Z Z ?_))); refine aH V Z Z Z ?_; refine fJ V Z Z O O (aA V Z Z ?_); refine aH V Z Z Z ?_)
  refine aJ V Z Z Z Z (fun w hs => fW click (-r.clicks) r.clicks w) ?_
  (refine aA V Z Z (aA V Z Z (aF ?_)))
  refine jO Z (fun hc => ?_) (fun hc => ?_)
  ·(refine aE (aB ?_))
   refine cE #[.int .i64 0, .int .i64 0] Z qR Z ?_
   (refine aY V Z Z Z Z Z U Z ?_; refine aA V Z Z (aF (aW ?_)))
   refine aX V Z U fun w hs => ?_
   exact ⟨by simp at hc; simp [fT, hitV, hr, hst, hc, rtV], hs.chg0⟩
  simp at hc
  have hck' := bH.1 hc
  obtain ⟨i, rfl⟩ := Int.eq_ofNat_of_zero_le hst'.1
  have hi : i < r.drifts.length := by omega
  obtain ⟨_, _, hsl, hsd⟩ := RdI.outI hdr
  cases hsl
  obtain ⟨b0, off, rfl⟩ := hsd O
  have hdrift := hR.drift r.drifts[i] (List.getElem_mem hi)
  have hms := eC r hR r.drifts[i] click
  have hgs := hR.gsum
  (refine aR (bL (aE ?_)))
  refine bX _ [.pt b6 _ _] (Sp.cons U (Sp.refl _)) qR qR ?_
  (refine aD V Z Z Z ?_)
  refine aS V Z Z Z Z (fun w hs => nC w bd r ⟨_, _, hs.blk U, h0.keep hs.chg0⟩ hR) ?_
  (refine aD V Z Z Z (aD V Z Z Z ?_); refine aT V Z Z Z ?_; refine aD V Z Z Z ?_)
  (refine bF V Z Z Z Z Z O O ?_; refine bI V Z Z Z (fun w hs => RdI.at (RdE.keep hdr hs.chg0) i hi) ?_)
  (refine aD V Z Z Z ?_)
  refine aS (val := .int .i64 (cX r (r.drifts[i]'hi) click)) V Z Z Z Z (fun w hs => ?_) ?_; exact jR w bd r (r.drifts[i]'hi) click ⟨_, _, hs.blk U, h0.keep hs.chg0⟩ hR O O
  (refine bY V Z Z Z Z O O (aD V Z Z Z ?_))
  refine aS V Z Z Z Z (fun w hs => nC w bd r ⟨_, _, hs.blk U, h0.keep hs.chg0⟩ hR) ?_
  refine aS V Z Z Z Z (fun w hs => nD (r.group.sum - cX r (r.drifts[i]'hi) click) r.group.sum w O O O O) ?_
  (refine bK V Z Z Z Z Z U Z ?_; refine aD V Z Z Z (aK (aW ?_)))
  refine aX V Z U fun w hs => ?_
  refine ⟨?_, hs.chg0⟩
  have e : r.drifts.getD i 0 = r.drifts[i] := by simp [hi]
  have hc2 : inB click (-r.clicks) r.clicks = true := bH.2 hck'
  simp [fT, hitV, hr, hst, hc2, List.getElem?_eq_getElem hi, rtV]
 ·refine aJ V Z Z Z Z (fun w hs => jN w _ r (h0.keep hs.chg0) hsm hr) ?_
  (refine aA V Z Z (bC V Z Z Z (bC V Z Z Z (aA V Z Z (aA V Z Z (aF (aE (aP (aE (aB ?_))))))))); (iterate 3 refine aA V Z Z ?_); refine aF ?_)
  rw [decide_eq_false hr]
  (refine aM Z (aE (aB ?_)))
  refine cE #[.int .i64 0, .int .i64 0] Z qR Z ?_
  (refine aA V Z Z ?_; refine aY V Z Z Z Z Z U Z ?_; refine aA V Z Z (aF (aW ?_)))
  refine aX V Z U fun w hs => ?_
  exact ⟨by simp [fT, hitV, hr, rtV], hs.chg0⟩

end Go.Proofs.YtohlillcaadidaaGreat

/- Walks: the weights of the states, shot by shot. -/
namespace Go.Proofs.YtohlillcaadidaaGreat
open Go Go.Eng

/-- A row, so many times, added. -/
def gP (out : List Int) (c : Int) (row : List Int) : List Int := (List.range out.length).map fun t => out.getD t 0 + c * row.getD t 0
theorem dU (out : List Int) (c : Int) (row : List Int) : (gP out c row).length = out.length := by simp [gP]
theorem iE (out : List Int) (c : Int) (row : List Int) (t : Nat) (ht : t < out.length) : (gP out c row)[t]'(by rw [dU]; exact ht) = out.getD t 0 + c * row.getD t 0 := by simp [gP]
theorem addRow_nil (out : List Int) (c : Int) : gP out c [] = out := by
 refine List.ext_getElem (dU _ _ _) (fun i h1 h2 => ?_)
 rw [iE out c [] i h2]
 simp [h2]
theorem addRow_step (out : List Int) (c : Int) (row : List Int) (j : Nat) (hj : j < row.length) (ho : j < out.length) :
  gP out c (row.take (j + 1)) = (gP out c (row.take j)).set j ((gP out c (row.take j))[j]'(by rw [dU]; exact ho) + c * row[j]) := by
 refine List.ext_getElem (by simp [dU]) (fun i h1 h2 => ?_)
 have hi : i < out.length := by rw [dU] at h1; exact h1
 rw [iE out c _ i hi]
 by_cases h : j = i
 ·subst h
  rw [List.getElem_set_self, iE out c _ j ho]
  simp [List.getElem?_eq_getElem hj, List.getElem?_take]
 ·rw [List.getElem_set_ne h, iE out c _ i hi]
  simp only [List.getD_eq_getElem?_getD, List.getElem?_take]
  by_cases h3 : i < j
  ·rw [if_pos h3, if_pos O]
  ·rw [if_neg h3, if_neg O]
theorem addRow_bd {out row : List Int} {c A B : Int} (ho : ∀ x ∈ out, 0 ≤ x ∧ x ≤ A) (hc : 0 ≤ c ∧ c ≤ B) (hr : ∀ x ∈ row, 0 ≤ x ∧ x ≤ 12) : ∀ x ∈ gP out c row, 0 ≤ x ∧ x ≤ A + B * 12 := by
 intro x hx
 obtain ⟨t, ht, rfl⟩ := List.getElem_of_mem hx
 have ht' : t < out.length := by rw [dU] at ht; exact ht
 rw [iE out c row t ht']
 have h1 := ho out[t] (List.getElem_mem ht')
 have h2 : 0 ≤ row.getD t 0 ∧ row.getD t 0 ≤ 12 := by
  by_cases h : t < row.length
  ·simp only [List.getD_eq_getElem?_getD, List.getElem?_eq_getElem h, Option.getD_some]
   exact hr _ (List.getElem_mem h)
  ·simp only [List.getD_eq_getElem?_getD, List.getElem?_eq_none (Nat.le_of_not_lt h), Option.getD_none]
   omega
 have h3 := bR hc h2
 simp only [List.getD_eq_getElem?_getD, List.getElem?_eq_getElem ht', Option.getD_some] at h3 ⊢
 omega

/-- The weights behind the first k states. -/
def eL (r : Rg) (ws : List Int) : Nat → List Int
 | 0 => List.replicate 5 0
 | k + 1 => gP (eL r ws k) (ws.getD k 0) (r.next.getD k [])
/-- The weights of the states behind others. -/
def lZ (r : Rg) (ws : List Int) : List Int := eL r ws r.next.length
theorem eJ (r : Rg) (ws : List Int) : ∀ k, (eL r ws k).length = 5
 | 0 => by simp [eL]
 | k + 1 => by rw [eL, dU, eJ r ws k]
theorem row_bd {r : Rg} (hr : r.Right) (k : Nat) : ∀ x ∈ r.next.getD k [], 0 ≤ x ∧ x ≤ 12 := by
 intro x hx
 by_cases h : k < r.next.length
 ·simp only [List.getD_eq_getElem?_getD, List.getElem?_eq_getElem h, Option.getD_some] at hx
  have := hr.chances _ (List.getElem_mem h) x hx
  have := hr.total
  omega
 ·simp [List.getD_eq_getElem?_getD, List.getElem?_eq_none (Nat.le_of_not_lt h)] at hx
theorem getD_bd {l : List Int} {B : Int} (hB : 0 ≤ B) (h : ∀ x ∈ l, 0 ≤ x ∧ x ≤ B) (k : Nat) : 0 ≤ l.getD k 0 ∧ l.getD k 0 ≤ B := by
 by_cases hk : k < l.length
 ·simp only [List.getD_eq_getElem?_getD, List.getElem?_eq_getElem hk, Option.getD_some]
  exact h _ (List.getElem_mem hk)
 ·simp only [List.getD_eq_getElem?_getD, List.getElem?_eq_none (Nat.le_of_not_lt hk), Option.getD_none]
  omega
theorem afterP_bd {r : Rg} (hr : r.Right) {ws : List Int} {B : Int} (hB : 0 ≤ B) (hw : ∀ x ∈ ws, 0 ≤ x ∧ x ≤ B) : ∀ k, ∀ x ∈ eL r ws k, 0 ≤ x ∧ x ≤ B * 12 * k
 | 0 => by
  intro x hx
  simp [eL] at hx
  obtain ⟨_, rfl⟩ := hx
  simp
 | k + 1 => by
  intro x hx
  rw [eL] at hx
  have h1 := addRow_bd (afterP_bd hr hB hw k) (getD_bd hB hw k) (row_bd hr k) x hx
  have e : B * 12 * ((k + 1 : Nat) : Int) = B * 12 * (k : Int) + B * 12 := by
   rw [Int.natCast_add, Int.mul_add]
   simp
  omega

theorem w_arr : arrB Tryz.prog 158 5 3 1 = true := by kernel_rfl

set_option maxHeartbeats 1000000 in
theorem after_ca (w : World) (b : Nat) (r : Rg) (ws : List Int) (hd : DkAt w b r) (hr : r.Right) (hlen : ws.length = 5) (hw : ∀ x ∈ ws, 0 ≤ x ∧ x ≤ 1000000000) :
  Ca Tryz.prog 128 [.pointer (some ⟨b, 0, none⟩), .agg (aZ ws).toArray] w fun v w' => v = .agg (aZ (lZ r ws)).toArray ∧ Chg [] w w' := by
 obtain ⟨cs, bt, hblk, lo, hi, ag, cg, ad, cd, af, cf, an, cn, rfl, hg, hdr, hf, hn⟩ := hd
 have hnl := hr.next
 have hd2 := hr.d2
 obtain ⟨_, _, hsl, hsn⟩ := RdII.outI hn
 cases hsl
 refine dB (Sat.nil w M0) Tryz.func128 Z (by simp [Tryz.ntmps128]) ?_
 (refine aE (aB ?_))
 refine bG Z Z (fun b3 => ?_)
 refine aV zero158 Z (fun b4 => ?_)
 (refine aF (aE (aB ?_)))
 refine aV zero158 Z (fun b5 => ?_)
 (refine aF (aE (aE (aB ?_))); (iterate 4 refine aA V Z Z ?_); refine eN V Z Z Z (by assumption) (by rfl) ?_; refine aA V Z Z (aA V Z Z (aF (aP ?_))))
 refine bN (σ := Nat) (fun k => k ≤ r.next.length) (fun k => r.next.length - k) (fun k => [(0, .pointer (some ⟨b, 0, none⟩)), (3, .pointer (some ⟨b3, 0, none⟩)), (4, .pointer (some ⟨b4, 0, none⟩)), (5, .pointer (some ⟨b5, 0, none⟩)), (14, .slice an r.next.length cn), (15, .int .i64 r.next.length), (16, .int .i64 k)])
  (fun k => [.pt b5 (aZ (eL r ws k)) 158, .pt b4 (aZ (List.replicate 5 0)) 158, .pt b3 (aZ ws) 158]) 0 O ⟨rfl, rfl, rfl, rfl, rfl, rfl, rfl, trivial⟩ U ?_
 intro k hk K hK
 (refine aE (aB (aA V Z Z (aF (aE ?_)))))
 refine dD Z (fun hc => ?_) (fun hc => ?_)
 ·have hk : k < r.next.length := by omega
  obtain ⟨bs, off, rfl⟩ := hsn O
  obtain ⟨ar, cr, hrow, hcell⟩ := hn.row k hk
  generalize hrw : r.next[k] = row at hrow hcell
  have hrl := hr.rows r.next[k] (List.getElem_mem hk)
  have hrb : ∀ x ∈ r.next[k], 0 ≤ x ∧ x ≤ 12 := fun x hx => by have := hr.chances _ (List.getElem_mem hk) x hx; have := hr.total; omega
  rw [hrw] at hrl hrb
  obtain ⟨_, _, hsl2, hsr⟩ := RdI.outI hrow
  cases hsl2
  have hwk := hw (ws[k]'O) (List.getElem_mem _)
  have ha : eL r ws (k + 1) = gP (eL r ws k) (ws[k]'O) row := by
   rw [eL]
   congr 1
   ·simp [show k < ws.length by omega]
   ·simp [hk, hrw]
  have hkw : k < ws.length := by omega
  generalize hwk' : ws[k]'hkw = wk at hwk ha
  (refine aR (aE (aP (aE (aB (aA V Z Z ?_))))))
  refine bW V Z Z Z Z Z O O ?_
  refine cI (v := .slice ar row.length cr) V Z Z Z (fun w' hs => hcell w' hs.chg0) ?_
  (refine aA V Z Z (aA V Z Z (aF (aE (aB ?_)))); (iterate 3 refine aA V Z Z ?_); refine aF (aP ?_))
  refine bN (σ := Nat) (fun j => j ≤ row.length) (fun j => row.length - j) (fun j => [(0, .pointer (some ⟨b, 0, none⟩)), (3, .pointer (some ⟨b3, 0, none⟩)), (4, .pointer (some ⟨b4, 0, none⟩)), (5, .pointer (some ⟨b5, 0, none⟩)), (6, .int .i64 k), (14, .slice (some ⟨bs, off, none⟩) r.next.length cn), (15, .int .i64 r.next.length), (16, .int .i64 k), (21, .slice ar row.length cr), (22, .int .i64 row.length), (23, .int .i64 j)])
   (fun j => [.pt b5 (aZ (gP (eL r ws k) wk (row.take j))) 158, .pt b4 (aZ (List.replicate 5 0)) 158, .pt b3 (aZ ws) 158]) 0 O ⟨rfl, rfl, rfl, rfl, rfl, rfl, rfl, rfl, rfl, rfl, rfl, trivial⟩ (by rw [List.take_zero, addRow_nil]; repeat constructor) ?_
  intro j hj K2 hK2
  (refine aE (aB (aA V Z Z (aF (aE ?_)))))
  refine dD Z (fun hc => ?_) (fun hc => ?_)
  ·have hj : j < row.length := by omega
   obtain ⟨br, offr, rfl⟩ := hsr O
   have hjo : j < (eL r ws k).length := by rw [eJ]; omega
   have hjo2 : j < (gP (eL r ws k) wk (row.take j)).length := by rw [dU]; exact hjo
   have hnj := hrb row[j] (List.getElem_mem hj)
   have hmul := bR hwk hnj
   have hout := addRow_bd (afterP_bd hr O hw k) hwk (fun x hx => hrb x (List.mem_of_mem_take hx)) ((gP (eL r ws k) wk (row.take j))[j]'hjo2) (List.getElem_mem hjo2)
   have hk5 : (1000000000 : Int) * 12 * k ≤ 60000000000 := by omega
   have hst := addRow_step (eL r ws k) wk row j hj hjo
   generalize hLj : (gP (eL r ws k) wk (row.take j))[j]'hjo2 = lj at hout hst
   (refine aR (aE (aP (aE (aB (aA V Z Z ?_))))))
   (refine bW V Z Z Z Z Z O O ?_; refine cI V Z Z Z (fun w hs => RdI.at (RdE.keep hrow hs.chg0) j hj) ?_)
   (refine aA V Z Z (aA V Z Z (aF ?_)))
   refine gW 10 _ [.pt b5 _ _] (Sp.cons U (Sp.refl _)) qR qR qR fun K1 hK1 => ?_
   (refine aD V Z Z Z ?_)
   refine eB w_arr Z Z Z O O ?_
   refine fL V (j) Z Z Z U (by first | rfl | omega | simp) hjo2 ?_
   rw [hLj]
   (refine aD V Z Z Z ?_)
   refine eB w_arr Z Z Z O O ?_
   refine fL V (k) Z Z Z U (by first | rfl | omega | simp) O ?_
   rw [hwk']
   (refine aD V Z Z Z (bY V Z Z Z Z O O (bY V Z Z Z Z O O ?_)))
   refine eB w_arr Z Z Z O O ?_
   (refine aK ?_)
   refine hK1 _ _ [.pt b5 _ _] (Sp.cons U (U)) ?_
   refine lX V (j) Z Z Z U (by first | rfl | omega | simp) hjo2 ?_
   (refine aK (bL (aB (bB V Z Z Z Z O O (aA V Z Z (aF ?_))))))
   exact hK2 (j + 1) _ _ O O ⟨Z, Z, Z, Z, Z, Z, Z, Z, Z, Z, Z, trivial⟩ (by rw [hst]; repeat constructor)
  ·obtain rfl : j = row.length := by omega
   (refine bJ _ Z (bL (aB (bB V Z Z Z Z O O (aA V Z Z (aF ?_))))))
   exact hK (k + 1) _ _ O O ⟨Z, Z, Z, Z, Z, Z, Z, trivial⟩ (by rw [ha, List.take_length]; repeat constructor)
 ·obtain rfl : k = r.next.length := by omega
  have hal := eJ r ws r.next.length
  (refine bJ _ Z (aE (aB ?_)))
  refine lN (us := aZ (eL r ws r.next.length)) V Z Z Z U (by rw [List.drop_zero]; exact List.take_of_length_le (by simp [hal])) (by simp [hal]) ?_
  refine aY V Z Z Z (by simp [hal]) (by simp [dY]) U (by simp) ?_
  (refine aF (aW ?_))
  refine aX (vs := [.agg (aZ (eL r ws r.next.length)).toArray]) V Z (RVs.cellA Z Z U (by simp [hal]) .nil) fun w hs => ?_
  exact ⟨Z, hs.chg0⟩

end Go.Proofs.YtohlillcaadidaaGreat

/- Walks: the weights of the states at each shot. -/
namespace Go.Proofs.YtohlillcaadidaaGreat
open Go Go.Eng

/-- The weights of the states at shot k. -/
def wts (r : Rg) : Nat → List Int
 | 0 => r.first ++ (List.replicate 5 (0 : Int)).drop r.first.length
 | k + 1 => lZ r (wts r k)
def gF (r : Rg) : List (List Int × Int) := (List.range 5).map fun k => (wts r k, r.total ^ (k + 1))
theorem iD (r : Rg) (hr : r.Right) : ∀ k, (wts r k).length = 5
 | 0 => by
  have h1 := hr.first
  have h2 := hr.d2
  simp [wts]
  omega
 | k + 1 => by rw [wts, lZ, eJ]
theorem wts_bd0 (r : Rg) (hr : r.Right) : ∀ k, ∀ x ∈ wts r k, 0 ≤ x ∧ x ≤ 12 * 60 ^ k
 | 0 => by
  intro x hx
  simp only [wts, List.mem_append] at hx
  rcases hx with hx | hx
  ·have := hr.chance x hx
   have := hr.total
   simp
   omega
  ·have h1 := List.eq_of_mem_replicate (List.mem_of_mem_drop hx)
   subst h1
   simp
 | k + 1 => by
  intro x hx
  have hp : (0 : Int) ≤ 12 * 60 ^ k := Int.mul_nonneg O (Int.pow_nonneg O)
  have h1 := afterP_bd hr hp (wts_bd0 r hr k) r.next.length x hx
  have h2 := hr.next
  have h3 := hr.d2
  have h4 : 12 * (60 : Int) ^ (k + 1) = (12 * 60 ^ k) * 12 * 5 := by rw [Int.pow_succ]; omega
  have h5 : (12 * (60 : Int) ^ k) * 12 * (r.next.length : Int) ≤ (12 * 60 ^ k) * 12 * 5 := Int.mul_le_mul_of_nonneg_left O O
  omega
theorem wts_bd (r : Rg) (hr : r.Right) (k : Nat) (hk : k ≤ 4) : ∀ x ∈ wts r k, 0 ≤ x ∧ x ≤ 1000000000 := by
 intro x hx
 have h := wts_bd0 r hr k x hx
 have : k = 0 ∨ k = 1 ∨ k = 2 ∨ k = 3 ∨ k = 4 := by omega
 rcases this with rfl | rfl | rfl | rfl | rfl <;> simp at h <;> omega
theorem tot_bd (r : Rg) (hr : r.Right) : ∀ k, 1 ≤ r.total ^ k ∧ r.total ^ k ≤ 12 ^ k
 | 0 => by simp
 | k + 1 => by
  have h1 := tot_bd r hr k
  have h2 := hr.total
  have h3 := bR (show 0 ≤ r.total ^ k ∧ r.total ^ k ≤ 12 ^ k by omega) (show 0 ≤ r.total ∧ r.total ≤ 12 by omega)
  have h4 : r.total ^ k * 1 ≤ r.total ^ k * r.total := Int.mul_le_mul_of_nonneg_left h2.1 O
  rw [Int.pow_succ, Int.pow_succ]
  omega
theorem tot_bd6 (r : Rg) (hr : r.Right) (k : Nat) (hk : k ≤ 9) : 1 ≤ r.total ^ k ∧ r.total ^ k ≤ 5159780352 := by
 have h1 := tot_bd r hr k
 have : k = 0 ∨ k = 1 ∨ k = 2 ∨ k = 3 ∨ k = 4 ∨ k = 5 ∨ k = 6 ∨ k = 7 ∨ k = 8 ∨ k = 9 := by omega
 rcases this with rfl | rfl | rfl | rfl | rfl | rfl | rfl | rfl | rfl | rfl <;> simp at h1 ⊢ <;> omega

theorem shotL_split (r : Rg) (k : Nat) (hk : k < 5) : gF r = (gF r).take k ++ (wts r k, r.total ^ (k + 1)) :: (gF r).drop (k + 1) := by
 have h : k < (gF r).length := by simp [gF]; omega
 have e : (gF r)[k] = (wts r k, r.total ^ (k + 1)) := by simp [gF]
 rw [← e, ← List.drop_eq_getElem_cons h, List.take_append_drop]
theorem shotL_take (r : Rg) (k : Nat) (hk : k < 5) : (gF r).take (k + 1) = (gF r).take k ++ [(wts r k, r.total ^ (k + 1))] := by
 have h : k < (gF r).length := by simp [gF]; omega
 rw [List.take_succ_eq_append_getElem h]
 simp [gF]

theorem u22 : Tryz.prog.underlying 22 = some (.slice 3) := by kernel_rfl
theorem sz3 : (Tryz.prog.info? 3).map (·.size) = some 1 := by kernel_rfl

def encS (x : List Int × Int) : List Value := [.agg (aZ x.1).toArray, .int .i64 x.2]

set_option maxHeartbeats 1000000 in
theorem shots_it (w0 w : World) (D : Nat → Prop) (b bd : Nat) (r : Rg) (hdk : DkAt w0 b r) (hr : r.Right) (h0 : ∀ w', ChgP D w w' → Chg [] w0 w')
  {t1 : TypeId} (hbd : Blk w bd [.pointer (some ⟨b, 0, none⟩)] t1) (hDd : ¬ D bd) :
  ItOk Tryz.prog 127 [.pointer (some ⟨bd, 0, none⟩)] encS (gF r) w D := by
 intro fv σ L I E s0 hI0 hLD hsat hcb
 have hdk0 := hdk
 obtain ⟨cs, bt, hblk, lo, hi, ag, cg, ad, cd, af, cf, an, cn, rfl, hg, hdr, hf, hn⟩ := hdk
 have hm : ∀ w', ChgP (DL (L s0)) w w' → ChgP D w w' := fun w' hc => ⟨hc.os, hc.tape, hc.output, hc.size, fun k hk hk2 => hc.block k hk (fun h => hk2 (hLD k h))⟩
 have hP1 : ∀ w', ChgP (DL (L s0)) w w' → Blk w' bd [.pointer (some ⟨b, 0, none⟩)] t1 := fun w' hc => (hc.block bd hbd.lt (fun h => hDd (hLD bd h))).trans hbd
 have hP3 : ∀ w', ChgP (DL (L s0)) w w' → Blk w' b _ bt := fun w' hc => hblk.keep (h0 w' (hm w' hc))
 clear hblk
 have hfl := hr.first
 have hd1 := hr.d1
 have hd2 := hr.d2
 have htot := hr.total
 have hpow1 : some (Value.int .i64 r.total) = some (.int .i64 (r.total ^ (0 + 1))) := by rw [Int.pow_succ, Int.pow_zero, Int.one_mul]
 refine dB (H := [un (L s0)]) (Sat.un1.2 hsat) Tryz.func127 Z (by simp [Tryz.ntmps127]) ?_
 (refine aE (aB ?_))
 refine aV zero158 Z (fun b3 => ?_)
 (refine aF (aE ?_))
 refine bX _ [.pt b3 _ _] (Sp.cons U (Sp.refl _)) qR qR ?_
 refine qf_slA w_arr Z Z ?_
 (refine cP V Z Z Z (by assumption) (by rfl) ?_; (iterate 3 refine aD V Z Z Z ?_); refine cP V Z Z Z (by assumption) (by rfl) ?_)
 refine qf_copyI (l := r.first) (L := List.replicate 5 0) u22 sz3 Z Z Z U (by simp) O O Z (fun w' hs => RdE.keep hf (h0 w' (hm w' hs.chg))) ?_
 (refine aK (aE (aB ?_)); refine cL V Z Z Z (by assumption) (by rfl) ?_; (iterate 3 refine aA V Z Z ?_); refine cL V Z Z Z (by assumption) (by rfl) ?_; refine aA V Z Z (aF (aE (aB (aA V Z Z (aF (aP ?_)))))))
 refine bN (σ := Nat × σ) (fun s => s.1 ≤ 5 ∧ I ((gF r).take s.1) s.2) (fun s => 5 - s.1) (fun s => [(0, fv), (1, .pointer (some ⟨bd, 0, none⟩)), (3, .pointer (some ⟨b3, 0, none⟩)), (4, .int .i64 (r.total ^ (s.1 + 1))), (17, .int .i64 s.1)])
  (fun s => [.pt b3 (aZ (wts r s.1)) 158, un (L s.2)]) (0, s0) ⟨by omega, hI0⟩ ⟨rfl, rfl, rfl, hpow1, rfl, trivial⟩ U ?_
 rintro ⟨k, s⟩ ⟨hk, hI⟩ K hK
 simp only at hk hI
 have hwl := iD r hr k
 (refine aE (aB (aA V Z Z (aF (aE ?_)))))
 refine dD Z (fun hc => ?_) (fun hc => ?_)
 ·have hk5 : k < 5 := by simp only at hc; omega
  clear hc
  have htk := tot_bd6 r hr (k + 1) O
  have htk2 := tot_bd6 r hr (k + 2) O
  rw [Int.pow_succ] at htk2
  have hwb := wts_bd r hr k O
  have hp2 : some (Value.int .i64 (IntKind.i64.wrap (r.total ^ (k + 1) * r.total))) = some (.int .i64 (r.total ^ (k + 1 + 1))) := by rw [Int.pow_succ r.total (k + 1), w64 O O]
  (refine aR (aE (aP (aE (aE (aB (aA V Z Z ?_)))))))
  refine lN (us := aZ (wts r k)) V Z Z Z U (by rw [List.drop_zero]; exact List.take_of_length_le (by simp [hwl])) (by simp [hwl]) ?_
  (refine aA V Z Z ?_)
  refine ql_callF [un (L s)] [.pt b3 (aZ (wts r k)) 158] (DL (L s)) Z Z Z U (fun b hb => ⟨_, .head _, hb⟩) (yieldF hcb (shotL_split r k hk5) hI) ?_
  rintro s' v (⟨rfl, hI'⟩ | ⟨rfl, hE⟩)
  ·(refine aA V Z Z (aF (aL Z (aR ?_))))
   refine gW 3 _ [.pt b3 _ _] (Sp.cons U (Sp.refl _)) qR qR qR fun K1 hK1 => ?_
   (refine cP V Z Z Z (by assumption) (by rfl) ?_)
   refine qf_loadAB (us := aZ (wts r k)) V Z Z Z U (by rw [List.drop_zero]; exact List.take_of_length_le (by simp [hwl])) (by simp [hwl]) ?_
   refine aS (val := .agg (aZ (lZ r (wts r k))).toArray) V Z Z Z Z (fun w hs => ?_) ?_; exact after_ca w b r (wts r k) (hdk0.keep (h0 w (hm w hs.chg))) hr hwl hwb
   (refine aK ?_)
   refine hK1 _ _ [.pt b3 _ _] (Sp.cons U (U)) ?_
   (refine aD V Z Z Z ?_; refine cP V Z Z Z (by assumption) (by rfl) ?_; (iterate 3 refine aD V Z Z Z ?_); refine cP V Z Z Z (by assumption) (by rfl) ?_; refine aD V Z Z Z ?_)
   refine bK (us := aZ (lZ r (wts r k))) V Z Z Z (by simp [lZ, eJ]) (by simp [dY]) U (by simp [hwl]) ?_
   (refine aD V Z Z Z (aK (bL (aB (bB V Z Z Z Z O O (aA V Z Z (aF ?_)))))))
   exact hK (k + 1, s') _ _ ⟨by simp only; omega, by simp only; rw [shotL_take r k hk5]; exact hI'⟩ (by simp only; omega) ⟨Z, Z, Z, hp2, Z, trivial⟩ U
  ·(refine aA V Z Z (aF (aM Z (aW ?_))))
   refine aX V Z U fun w hs => ?_
   exact ⟨s', .inr hE, Sat.un1.1 (hs.sp U)⟩
 ·obtain rfl : k = 5 := by simp only at hc; omega
  (refine bJ _ Z ?_)
  refine q_end V Z U fun w hs => ?_
  exact ⟨s, .inl (by rwa [List.take_of_length_le (by simp [gF])] at hI), Sat.un1.1 (hs.sp U)⟩

theorem shots_ca (w : World) (b : Nat) : Ca Tryz.prog 110 [.pointer (some ⟨b, 0, none⟩)] w fun v w' =>
  ∃ x : Nat, v = .func (.func 127) #[] #[.pointer (some ⟨x, 0, none⟩)] ∧ Sat w M0 [.pt x [.pointer (some ⟨b, 0, none⟩)] 84] w' := by
 refine dB (Sat.nil w M0) Tryz.func110 Z (by simp [Tryz.ntmps110]) ?_
 (refine aE (aB ?_))
 refine bG Z Z (fun b1 => ?_)
 (refine aA V Z Z (aF (aE (aB (aA V Z Z (aA V Z Z (aF (aW ?_))))))))
 refine aX V Z U fun w hs => ?_
 exact ⟨b1, Z, hs⟩

end Go.Proofs.YtohlillcaadidaaGreat

/- Walks: the misses to be expected. -/
namespace Go.Proofs.YtohlillcaadidaaGreat
open Go Go.Eng

def cV (f : Nat → Int) : Nat → Int
 | 0 => 0
 | n + 1 => cV f n + f n
theorem sumR_eq (f : Nat → Int) : ∀ n, ((List.range n).map f).sum = cV f n
 | 0 => rfl
 | n + 1 => by rw [List.range_succ, List.map_append, List.sum_append, sumR_eq f n, cV]; simp
theorem sumR_add (f g : Nat → Int) : ∀ n, cV (fun i => f i + g i) n = cV f n + cV g n
 | 0 => rfl
 | n + 1 => by rw [cV, cV, cV, sumR_add f g n]; omega
theorem hJ (c : Int) (g : Nat → Int) : ∀ n, cV (fun i => c * g i) n = c * cV g n
 | 0 => by simp [cV]
 | n + 1 => by rw [cV, cV, hJ c g n, Int.mul_add]
theorem sumR_front (f : Nat → Int) : ∀ n, cV f (n + 1) = f 0 + cV (fun i => f (i + 1)) n
 | 0 => by simp [cV]
 | n + 1 => by rw [cV, sumR_front f n, cV]; omega
theorem mH (f : Nat → Int) : ∀ n, (∀ i, i < n → f i = 0) → cV f n = 0
 | 0, _ => rfl
 | n + 1, h => by rw [cV, mH f n (fun i hi => h i O), h n O]; rfl
theorem iM : ∀ (l : List Int) n, l.length ≤ n → cV (fun i => l.getD i 0) n = l.sum
 | [], n, _ => by rw [mH]; rfl; intro i _; simp
 | x :: l, 0, h => by simp at h
 | x :: l, n + 1, h => by
  rw [sumR_front, List.sum_cons]
  have := iM l n (by simpa using h)
  simp at this ⊢
  omega
theorem lW (f g : Nat → Int) : ∀ n, (∀ i, i < n → f i ≤ g i) → cV f n ≤ cV g n
 | 0, _ => by simp [cV]
 | n + 1, h => by
  have h1 := lW f g n (fun i hi => h i O)
  have h2 := h n O
  rw [cV, cV]
  omega
theorem sumR_up (f : Nat → Int) (h : ∀ i, 0 ≤ f i) {n m : Nat} (hnm : n ≤ m) : cV f n ≤ cV f m := by
  induction m with
  | zero => obtain rfl : n = 0 := by omega
            simp
  | succ m ih =>
    by_cases e : n = m + 1
    · subst e; simp
    · have := ih O
      have := h m
      rw [cV]
      omega
theorem sumR_nonneg (f : Nat → Int) (h : ∀ i, 0 ≤ f i) : ∀ n, 0 ≤ cV f n
 | 0 => by simp [cV]
 | n + 1 => by have := sumR_nonneg f h n; have := h n; rw [cV]; omega

theorem addRow_sum (out : List Int) (c : Int) (row : List Int) (h : row.length ≤ out.length) : (gP out c row).sum = out.sum + c * row.sum := by
 rw [gP, sumR_eq, sumR_add, hJ, iM out _ (Nat.le_refl _), iM row _ h]

theorem afterP_sum (r : Rg) (hr : r.Right) (ws : List Int) : ∀ k, k ≤ r.next.length → (eL r ws k).sum = cV (fun s => ws.getD s 0) k * r.total
 | 0, _ => by simp [eL, cV]
 | k + 1, h => by
  have hk : k < r.next.length := by omega
  have e : r.next.getD k [] = r.next[k] := by simp [hk]
  have h1 := hr.rows _ (List.getElem_mem hk)
  have h2 := hr.nsum _ (List.getElem_mem hk)
  have h3 := hr.d2
  rw [eL, addRow_sum _ _ _ (by rw [eJ, e]; omega), afterP_sum r hr ws k O, cV, Int.add_mul, e, h2]

theorem wts_sum (r : Rg) (hr : r.Right) : ∀ k, (wts r k).sum ≤ r.total ^ (k + 1)
 | 0 => by
  have h : (wts r 0).sum = r.first.sum := by
   have hz : ∀ n, (List.replicate n (0 : Int)).sum = 0 := fun n => by induction n <;> simp_all [List.replicate_succ]
   rw [wts, List.sum_append, List.drop_replicate, hz, Int.add_zero]
  rw [h, hr.fsum, Int.pow_succ, Int.pow_zero, Int.one_mul]
  exact Int.le_refl _
 | k + 1 => by
  have h1 := wts_sum r hr k
  have h0 := iD r hr k
  have hd2 := hr.d2
  have hn := hr.next
  have ht := hr.total
  have h2 : cV (fun s => (wts r k).getD s 0) r.next.length ≤ (wts r k).sum := by
   rw [← iM (wts r k) 5 O]
   refine sumR_up _ (fun i => ?_) O
   by_cases hi : i < (wts r k).length
   ·simp only [List.getD_eq_getElem?_getD, List.getElem?_eq_getElem hi, Option.getD_some]
    exact (wts_bd0 r hr k _ (List.getElem_mem hi)).1
   ·simp [List.getElem?_eq_none (Nat.le_of_not_lt hi)]
  rw [wts, lZ, afterP_sum r hr (wts r k) _ (Nat.le_refl _), Int.pow_succ]
  exact Int.mul_le_mul_of_nonneg_right O O

/-- The misses at a shot, by the first n states. -/
def mulN (r : Rg) (click : Int) (ws : List Int) (n : Nat) : Int := cV (fun s => ws.getD s 0 * cX r (r.drifts.getD s 0) click) n
theorem wts_getD (r : Rg) (hr : r.Right) (k i : Nat) : 0 ≤ (wts r k).getD i 0 := by
 by_cases hi : i < (wts r k).length
 ·simp only [List.getD_eq_getElem?_getD, List.getElem?_eq_getElem hi, Option.getD_some]
  exact (wts_bd0 r hr k _ (List.getElem_mem hi)).1
 ·simp [List.getElem?_eq_none (Nat.le_of_not_lt hi)]
theorem mulN_bd (r : Rg) (hr : r.Right) (click : Int) (k n : Nat) (hn : n ≤ 5) : 0 ≤ mulN r click (wts r k) n ∧ mulN r click (wts r k) n ≤ r.total ^ (k + 1) * r.group.sum := by
 constructor
 ·exact sumR_nonneg _ (fun i => Int.mul_nonneg (wts_getD r hr k i) (eC r hr _ _).1) n
 ·have hG := hr.gsum
  have h1 : mulN r click (wts r k) n ≤ cV (fun s => r.group.sum * (wts r k).getD s 0) n := lW _ _ n (fun i _ => by
   rw [Int.mul_comm]
   exact Int.mul_le_mul_of_nonneg_right (eC r hr _ _).2 (wts_getD r hr k i))
  rw [hJ] at h1
  have h2 : cV (fun s => (wts r k).getD s 0) n ≤ (wts r k).sum := by
   rw [← iM (wts r k) 5 (by rw [iD r hr k]; exact Nat.le_refl _)]
   exact sumR_up _ (wts_getD r hr k) hn
  have h3 := wts_sum r hr k
  have h4 : r.group.sum * cV (fun s => (wts r k).getD s 0) n ≤ r.group.sum * r.total ^ (k + 1) := Int.mul_le_mul_of_nonneg_left O O
  rw [Int.mul_comm (r.total ^ (k + 1))]
  omega

def expStep (r : Rg) (click : Int) (s : Int × Int) (x : List Int × Int) : Int × Int := (s.1 * r.total + mulN r click x.1 r.drifts.length, x.2)
def lL (r : Rg) (click : Int) (k : Nat) : Int × Int := ((gF r).take k).foldl (expStep r click) (0, 1)
theorem iJ (r : Rg) (click : Int) (k : Nat) (hk : k < 5) : lL r click (k + 1) = ((lL r click k).1 * r.total + mulN r click (wts r k) r.drifts.length, r.total ^ (k + 1)) := by
 rw [lL, shotL_take r k hk, List.foldl_append]
 rfl
theorem expP_bd (r : Rg) (hr : r.Right) (click : Int) : ∀ k, k ≤ 5 → 0 ≤ (lL r click k).1 ∧ (lL r click k).1 ≤ r.total ^ k * r.group.sum * k ∧ (lL r click k).2 = r.total ^ k
 | 0, _ => by simp [lL]
 | k + 1, h => by
  obtain ⟨h1, h2, h3⟩ := expP_bd r hr click k O
  have h4 := mulN_bd r hr click k r.drifts.length hr.d2
  have ht := hr.total
  rw [iJ r click k O]
  have h5 : (lL r click k).1 * r.total ≤ r.total ^ k * r.group.sum * k * r.total := Int.mul_le_mul_of_nonneg_right h2 O
  have h6 : r.total ^ (k + 1) * r.group.sum * ((k + 1 : Nat) : Int) = r.total ^ k * r.group.sum * k * r.total + r.total ^ (k + 1) * r.group.sum := by
   rw [Int.natCast_add, Int.mul_add, Int.pow_succ]
   congr 1
   ·rw [Int.mul_right_comm (r.total ^ k) r.total, Int.mul_right_comm _ r.total]
   ·simp
  have h7 : 0 ≤ (lL r click k).1 * r.total := Int.mul_nonneg h1 O
  refine ⟨by simp only; omega, by simp only; omega, Z⟩
/-- The misses to be expected with a click. -/
def lK (r : Rg) (click : Int) : Int × Int := ratioV (lL r click 5).1 (r.total ^ 5 * r.group.sum)

end Go.Proofs.YtohlillcaadidaaGreat

/- Walks: the misses to be expected with a click. -/
namespace Go.Proofs.YtohlillcaadidaaGreat
open Go Go.Eng

theorem shotL_mem (r : Rg) {pre post : List (List Int × Int)} {x : List Int × Int} (h : gF r = pre ++ x :: post) : pre.length < 5 ∧ pre = (gF r).take pre.length ∧ x = (wts r pre.length, r.total ^ (pre.length + 1)) := by
 have hl : (gF r).length = 5 := by simp [gF]
 have hk : pre.length < 5 := by rw [h] at hl; simp at hl; omega
 refine ⟨hk, by rw [h]; simp, ?_⟩
 have h1 : (gF r)[pre.length]? = some x := by rw [h]; simp
 have h2 : (gF r)[pre.length]? = some (wts r pre.length, r.total ^ (pre.length + 1)) := by simp [gF, hk]
 rw [h1] at h2
 exact Option.some.inj h2

theorem expP_num (r : Rg) (hr : r.Right) (click : Int) (k : Nat) (hk : k ≤ 5) : 0 ≤ (lL r click k).1 ∧ (lL r click k).1 ≤ 124416000 ∧ (lL r click k).2 = r.total ^ k ∧ 1 ≤ r.total ^ k ∧ r.total ^ k ≤ 248832 := by
 obtain ⟨h1, h2, h3⟩ := expP_bd r hr click k hk
 have h4 := tot_bd r hr k
 have h5 : (12 : Int) ^ k ≤ 248832 := by
  have : k = 0 ∨ k = 1 ∨ k = 2 ∨ k = 3 ∨ k = 4 ∨ k = 5 := by omega
  rcases this with rfl | rfl | rfl | rfl | rfl | rfl <;> simp
 have hg := hr.gsum
 have h6 := bR (show 0 ≤ r.total ^ k ∧ r.total ^ k ≤ 248832 by omega) (show 0 ≤ r.group.sum ∧ r.group.sum ≤ 100 by omega)
 have h7 := bR (show 0 ≤ r.total ^ k * r.group.sum ∧ r.total ^ k * r.group.sum ≤ 24883200 by omega) (show 0 ≤ (k : Int) ∧ (k : Int) ≤ 5 by omega)
 exact ⟨h1, by omega, h3, h4.1, by omega⟩
theorem mulN_num (r : Rg) (hr : r.Right) (click : Int) (k n : Nat) (hk : k < 5) (hn : n ≤ 5) : 0 ≤ mulN r click (wts r k) n ∧ mulN r click (wts r k) n ≤ 24883200 := by
 have h1 := mulN_bd r hr click k n hn
 have h2 := expP_num r hr click (k + 1) O
 have hg := hr.gsum
 have h6 := bR (show 0 ≤ r.total ^ (k + 1) ∧ r.total ^ (k + 1) ≤ 248832 by omega) (show 0 ≤ r.group.sum ∧ r.group.sum ≤ 100 by omega)
 omega
theorem mulN_succ (r : Rg) (click : Int) (ws : List Int) (n : Nat) (hn : n < r.drifts.length) (hw : n < ws.length) : mulN r click ws (n + 1) = mulN r click ws n + ws[n] * cX r r.drifts[n] click := by
 simp [mulN, cV, List.getElem?_eq_getElem hn, List.getElem?_eq_getElem hw]

set_option maxHeartbeats 1000000 in
theorem expected_ca (w : World) (b : Nat) (r : Rg) (click : Int) (hdk : DkAt w b r) (hr : r.Right) (hck : -1000 ≤ click ∧ click ≤ 1000) :
  Ca Tryz.prog 87 [.pointer (some ⟨b, 0, none⟩), .int .i64 click] w fun v w' => v = rtV (lK r click) ∧ Chg [] w w' := by
 have hdk0 := hdk
 obtain ⟨cs, bt, hblk, lo, hi, ag, cg, ad, cd, af, cf, an, cn, rfl, hg, hdr, hf, hn⟩ := hdk
 have hd1 := hr.d1
 have hd2 := hr.d2
 have htot := hr.total
 have hgs := hr.gsum
 obtain ⟨_, _, hsl, hsd⟩ := RdI.outI hdr
 cases hsl
 obtain ⟨b0, off, rfl⟩ := hsd O
 refine q_ofM (Sat.nil w M0) Tryz.func87 Z (by simp [Tryz.ntmps87]) ?_
 (refine aE (aB ?_))
 refine bG Z Z (fun b2 => ?_)
 refine bG Z Z (fun b3 => ?_)
 refine aV cO Z (fun b4 => ?_)
 (refine aF (aE (aB ?_)))
 refine aV nE Z (fun b5 => ?_)
 refine aV nE Z (fun b6 => ?_)
 ((iterate 2 refine eV V Z Z Z Z U ?_); refine aF (aE (aE (aB ?_))); refine aH V Z Z Z ?_)
 refine bO (β := Nat) V [] _ M0 Z Z Z Z (Sp.refl _) qS (fun w' hs => shots_ca w' b) ?_
 rintro bd _ rfl
 (refine aF (aP ?_))
 refine q_range encS (Int × Int) (gF r) (fun pre s => s = lL r click pre.length) (fun _ _ => False)
  (fun s => [.pt b6 [.int .i64 s.2] 3, .pt b5 [.int .i64 s.1] 3]) [.pt bd [.pointer (some ⟨b, 0, none⟩)] 84, .pt b4 [.int .i64 0, .int .i64 0] 36, .pt b3 [.int .i64 click] 3, .pt b2 [.pointer (some ⟨b, 0, none⟩)] 84] (0, 1)
  rfl qR rfl (fun _ _ => rfl) rfl U ?_ ?_ ?_ (fun _ _ _ h => h.elim)
 ·intro w1 D hs hD
  exact shots_it w w1 D b bd r hdk0 hr (fun w' hc => hs.chg0.old hc (fun k hk => (hD k hk).2.resolve_left (fun h => h))) (hs.blk U) (fun h => (hD _ h).1 ⟨.pt bd [.pointer (some ⟨b, 0, none⟩)] _, U, Z⟩)
 ·intro pre x post s w1 l rdy bsy K F' hx hI hsat hR hbegin hend hret hexit
  obtain ⟨hk5, hpre, rfl⟩ := shotL_mem r hx
  generalize hkk : pre.length = kk at *
  subst hI
  have hwl := iD r hr kk
  have hwb := wts_bd r hr kk O
  (refine aE (aB ?_))
  refine aV zero158 Z (fun b7 => ?_)
  refine aY (us := aZ (wts r kk)) V Z Z Z (by simp [hwl]) (by simp [dY]) U (by rfl) ?_
  (refine aF (aB (aA V Z Z (aF ?_))))
  refine q_keep [(8, .int .i64 (r.total ^ (kk + 1))), (7, .pointer (some ⟨b7, 0, none⟩)), (6, .pointer (some ⟨b6, 0, none⟩)), (5, .pointer (some ⟨b5, 0, none⟩)), (3, .pointer (some ⟨b3, 0, none⟩)), (2, .pointer (some ⟨b2, 0, none⟩))] (rdy :: [.pt b7 (aZ (wts r kk)) 158, .pt b6 [.int .i64 (lL r click kk).2] 3, .pt b5 [.int .i64 (lL r click kk).1] 3]) ⟨Z, Z, Z, Z, Z, Z, trivial⟩ U (hbegin _ _ ?_)
  have hB2 : ∀ w', ChgP (DL (rdy :: [.pt b6 [.int .i64 (lL r click kk).2] 3, .pt b5 [.int .i64 (lL r click kk).1] 3])) w1 w' → Blk w' b2 [.pointer (some ⟨b, 0, none⟩)] 84 := fun w' hc => (hR w' hc).blk U
  have hB3 : ∀ w', ChgP (DL (rdy :: [.pt b6 [.int .i64 (lL r click kk).2] 3, .pt b5 [.int .i64 (lL r click kk).1] 3])) w1 w' → Blk w' b3 [.int .i64 click] 3 := fun w' hc => (hR w' hc).blk U
  have hP3 : ∀ w', ChgP (DL (rdy :: [.pt b6 [.int .i64 (lL r click kk).2] 3, .pt b5 [.int .i64 (lL r click kk).1] 3])) w1 w' → Blk w' b _ bt := fun w' hc => hblk.keep (hR w' hc).chg0
  clear hblk
  (refine aP (aE (aB (aA V Z Z (aF (aE (aE (aB ?_))))))); refine cL V Z Z Z (by assumption) (by rfl) ?_; (iterate 3 refine aA V Z Z ?_); refine cL V Z Z Z (by assumption) (by rfl) ?_; refine aA V Z Z (aA V Z Z (aF (aP ?_))))
  refine bN (σ := Nat) (fun n => n ≤ r.drifts.length) (fun n => r.drifts.length - n) (fun n => [(22, .int .i64 n), (21, .int .i64 r.drifts.length), (20, .slice (some ⟨b0, off, none⟩) r.drifts.length cd), (9, .int .i64 (mulN r click (wts r kk) n)), (8, .int .i64 (r.total ^ (kk + 1))), (7, .pointer (some ⟨b7, 0, none⟩)), (6, .pointer (some ⟨b6, 0, none⟩)), (5, .pointer (some ⟨b5, 0, none⟩)), (3, .pointer (some ⟨b3, 0, none⟩)), (2, .pointer (some ⟨b2, 0, none⟩))])
   (fun _ => [bsy, .pt b7 (aZ (wts r kk)) 158, .pt b6 [.int .i64 (lL r click kk).2] 3, .pt b5 [.int .i64 (lL r click kk).1] 3]) 0 O ⟨rfl, rfl, rfl, rfl, rfl, rfl, rfl, rfl, rfl, rfl, trivial⟩ (Sp.refl _) ?_
  intro n hn K2 hK2
  have hm1 := mulN_num r hr click kk n hk5 O
  (refine aE (aB (aA V Z Z (aF (aE ?_)))))
  refine dD Z (fun hc => ?_) (fun hc => ?_)
  ·have hn2 : n < r.drifts.length := by omega
   have hnw : n < (wts r kk).length := by omega
   have hdrift := hr.drift r.drifts[n] (List.getElem_mem hn2)
   have hms := eC r hr r.drifts[n] click
   have hmx := mulN_succ r click (wts r kk) n hn2 hnw
   have hwx := hwb (wts r kk)[n] (List.getElem_mem hnw)
   have hpr := bR hwx (show 0 ≤ cX r r.drifts[n] click ∧ cX r r.drifts[n] click ≤ 100 by omega)
   (refine aR (aE (aP (aE (aB (aA V Z Z ?_))))))
   (refine bW V Z Z Z Z Z O O ?_; refine cI V Z Z Z (fun w hs => RdI.at (RdE.keep hdr (hR _ hs.chg).chg0) n hn2) ?_)
   (refine aA V Z Z (aA V Z Z (aF ?_)))
   refine bX _ [] (Sp.refl _) qR qR ?_
   (refine aD V Z Z Z (aD V Z Z Z ?_))
   refine eB w_arr Z Z Z O O ?_
   refine fL V (n) Z Z Z U (by first | rfl | omega | simp) hnw ?_
   (refine cP V Z Z Z (by assumption) (by rfl) ?_; refine aD V Z Z Z ?_; refine cP V Z Z Z (by assumption) (by rfl) ?_)
   refine aS (val := .int .i64 (cX r (r.drifts[n]'hn2) click)) V Z Z Z Z (fun w hs => ?_) ?_; exact jR w b r (r.drifts[n]'hn2) click (hdk0.keep (hR w hs.chg).chg0) hr O O
   (refine bY V Z Z Z Z O O (bY V Z Z Z Z O O (aD V Z Z Z (aK (bL (aB (bB V Z Z Z Z O O (aA V Z Z (aF ?_)))))))))
   have hm2 : some (Value.int .i64 (mulN r click (wts r kk) n + (wts r kk)[n] * cX r r.drifts[n] click)) = some (.int .i64 (mulN r click (wts r kk) (n + 1))) := by rw [hmx]
   exact hK2 (n + 1) _ _ O O ⟨Z, Z, Z, hm2, Z, Z, Z, Z, Z, Z, trivial⟩ U
  ·obtain rfl : n = r.drifts.length := by omega
   have he1 := expP_num r hr click kk O
   have he2 := iJ r click kk hk5
   have he3 := bR (show 0 ≤ (lL r click kk).1 ∧ (lL r click kk).1 ≤ 124416000 by omega) (show 0 ≤ r.total ∧ r.total ≤ 12 by omega)
   (refine bJ _ Z ?_)
   refine gW 9 _ [.pt b5 _ _, .pt b6 _ _] (Sp.cons U (Sp.cons U (Sp.refl _))) qR qR qR fun K1 hK1 => ?_
   (refine aT V Z Z Z ?_; refine cP V Z Z Z (by assumption) (by rfl) ?_; (iterate 3 refine aD V Z Z Z ?_); refine cP V Z Z Z (by assumption) (by rfl) ?_; refine bY V Z Z Z Z O O (aD V Z Z Z (bY V Z Z Z Z O O (aK ?_))))
   refine hK1 _ _ [.pt b5 _ _, .pt b6 _ _] (Sp.cons U (Sp.cons U (U))) ?_
   (refine aD V Z Z Z ?_; (iterate 2 refine lV V Z Z Z Z U ?_); refine aK (bL ?_))
   refine hend _ _ (lL r click (kk + 1)) (by simp [hkk]) (by rw [he2]; repeat constructor)
 ·rintro D s hsx
  obtain rfl : s = lL r click 5 := by simpa [gF] using hsx
  have he1 := expP_num r hr click 5 O
  have he3 := bR (show 0 ≤ r.total ^ 5 ∧ r.total ^ 5 ≤ 248832 by omega) (show 0 ≤ r.group.sum ∧ r.group.sum ≤ 100 by omega)
  rw [he1.2.2.1]
  (refine bL (aE ?_))
  refine bX _ [.pt b4 _ _] (Sp.cons U (Sp.refl _)) qR qR ?_
  ((iterate 3 refine aT V Z Z Z ?_))
  refine aS V Z Z Z Z (fun w hs => nC w b r (hdk0.keep hs.chg0) hr) ?_
  (refine bY V Z Z Z Z O O ?_)
  (refine aS V Z Z Z Z (fun w hs => nD (lL r click 5).1 (r.total ^ 5 * r.group.sum) w O (by have := Int.mul_le_mul_of_nonneg_left hgs.1 (show 0 ≤ r.total ^ 5 by omega); omega) O O) ?_)
  (refine bK V Z Z Z Z Z U Z ?_; refine aK (aW ?_))
  refine q_finMD V U Z U fun w hs => ?_
  exact ⟨Z, hs.chg0⟩

end Go.Proofs.YtohlillcaadidaaGreat

/- Walks: Expected. -/
namespace Go.Proofs.YtohlillcaadidaaGreat
open Go Go.Eng

theorem pN {n d : Int} (hn : 0 ≤ n ∧ n ≤ 1000000000) (hd : 0 < d ∧ d ≤ 1000000000) : Fine (ratioV n d) := by
 have hg : 0 < (Int.gcd n d : Int) := by
  have : Int.gcd n d ≠ 0 := fun h => by have := (Int.gcd_eq_zero_iff.1 h).2; omega
  omega
 have h1 : (Int.gcd n d : Int) ≤ d := Int.le_of_dvd hd.1 (Int.gcd_dvd_right ..)
 refine ⟨Int.ediv_nonneg hn.1 O, ?_, Int.ediv_pos_of_pos_of_dvd hd.1 O (Int.gcd_dvd_right ..), ?_⟩
 ·have := Int.ediv_le_self (Int.gcd n d : Int) hn.1
  simp only [ratioV]
  omega
 ·have := Int.ediv_le_self (Int.gcd n d : Int) (show 0 ≤ d by omega)
  simp only [ratioV]
  omega
theorem expV_fine (r : Rg) (hr : r.Right) (click : Int) : Fine (lK r click) := by
 have he1 := expP_num r hr click 5 O
 have hgs := hr.gsum
 have he3 := bR (show 0 ≤ r.total ^ 5 ∧ r.total ^ 5 ≤ 248832 by omega) (show 0 ≤ r.group.sum ∧ r.group.sum ≤ 100 by omega)
 have := Int.mul_le_mul_of_nonneg_left hgs.1 (show 0 ≤ r.total ^ 5 by omega)
 exact pN O O

/-- The misses to be expected with a click, or the error. -/
def mG (r : Rg) (click : Int) : (Int × Int) × Int :=
 if checkV r ≠ 0 then ((0, 0), checkV r) else if !inB click (-r.clicks) r.clicks then ((0, 0), 3) else (lK r click, 0)

set_option maxHeartbeats 1000000 in
theorem expectedF_ca (w : World) (cs : List Value) (r : Rg) (click : Int) (h : RgC w cs r) (hsm : r.Small) : Ca Tryz.prog 30 [.agg cs.toArray, .int .i64 click] w fun v w' => v = .tuple #[rtV (mG r click).1, .int .i64 (mG r click).2] ∧ Chg [] w w' := by
 have h0 := h
 have s2 := hsm.drifts
 obtain ⟨lo, hi, ag, cg, ad, cd, af, cf, an, cn, rfl, hg, hdr, hf, hn⟩ := h
 refine dB (Sat.nil w M0) Tryz.func30 Z (by simp [Tryz.ntmps30]) ?_
 (refine aE (aB ?_))
 refine bG Z Z (fun b2 => ?_)
 refine aV cO Z (fun b4 => ?_)
 (refine aA V Z Z (aF (aE (aB ?_))); refine aI V Z Z Z ?_)
 by_cases hr : checkV r = 0
 ·have hR := (bM r).1 hr
  have hcl := hR.clicks
  refine bO (β := Nat) V [] _ M0 Z Z Z Z (Sp.refl _) qS (fun w' hs => iH w' _ r (h0.keep hs.chg0) hsm hr) ?_
  rintro bd _ rfl
  (refine aA V Z Z (bC V Z Z Z (bC V Z Z Z (aA V Z Z (aA V Z Z (aF (aE (aP (aE (aB ?_))))))))); (iterate 3 refine aA V Z Z ?_); refine aF (aL Z (aE (aB (aA V Z Z (aA V Z Z ?_))))); refine aH V Z Z Z ?_; refine fJ V Z Z O O (aA V Z Z ?_); refine aH V Z Z Z ?_)
  refine aJ V Z Z Z Z (fun w hs => fW click (-r.clicks) r.clicks w) ?_
  (refine aA V Z Z (aA V Z Z (aF ?_)))
  refine jO Z (fun hc => ?_) (fun hc => ?_)
  ·(refine aE (aB ?_))
   refine cE #[.int .i64 0, .int .i64 0] Z qR Z ?_
   (refine aY V Z Z Z Z Z U Z ?_; refine aA V Z Z (aF (aW ?_)))
   refine aX V Z U fun w hs => ?_
   exact ⟨by simp at hc; simp [fT, mG, hr, hc, rtV], hs.chg0⟩
  simp at hc
  have hck' := bH.1 hc
  (refine aR (bL (aE (aB (aA V Z Z (aA V Z Z ?_))))))
  refine aJ (val := rtV (lK r click)) V Z Z Z Z (fun w hs => ?_) ?_; exact expected_ca w bd r click ⟨_, _, hs.blk U, h0.keep hs.chg0⟩ hR O
  (refine aY V Z Z Z Z Z U Z ?_; refine aA V Z Z (aF (aW ?_)))
  refine aX V Z U fun w hs => ?_
  refine ⟨?_, hs.chg0⟩
  simp [fT, mG, hr, hc, rtV]
 ·refine aJ V Z Z Z Z (fun w hs => jN w _ r (h0.keep hs.chg0) hsm hr) ?_
  (refine aA V Z Z (bC V Z Z Z (bC V Z Z Z (aA V Z Z (aA V Z Z (aF (aE (aP (aE (aB ?_))))))))); (iterate 3 refine aA V Z Z ?_); refine aF ?_)
  rw [decide_eq_false hr]
  (refine aM Z (aE (aB ?_)))
  refine cE #[.int .i64 0, .int .i64 0] Z qR Z ?_
  (refine aA V Z Z ?_; refine aY V Z Z Z Z Z U Z ?_; refine aA V Z Z (aF (aW ?_)))
  refine aX V Z U fun w hs => ?_
  exact ⟨by simp [fT, mG, hr, rtV], hs.chg0⟩

end Go.Proofs.YtohlillcaadidaaGreat

/- Walks: Best. -/
namespace Go.Proofs.YtohlillcaadidaaGreat
open Go Go.Eng

/-- The best click, or the error. -/
def jS (r : Rg) : Int × (Int × Int) × Int :=
 if checkV r ≠ 0 then (0, (0, 0), checkV r) else ((fH (lK r) (cR r.clicks 0)).1, (fH (lK r) (cR r.clicks 0)).2, 0)

set_option maxHeartbeats 1000000 in
theorem bestF_ca (w : World) (cs : List Value) (r : Rg) (h : RgC w cs r) (hsm : r.Small) : Ca Tryz.prog 31 [.agg cs.toArray] w fun v w' => v = .tuple #[.int .i64 (jS r).1, rtV (jS r).2.1, .int .i64 (jS r).2.2] ∧ Chg [] w w' := by
 have h0 := h
 obtain ⟨lo, hi, ag, cg, ad, cd, af, cf, an, cn, rfl, hg, hdr, hf, hn⟩ := h
 refine dB (Sat.nil w M0) Tryz.func31 Z (by simp [Tryz.ntmps31]) ?_
 (refine aE (aB ?_))
 refine bG Z Z (fun b1 => ?_)
 (refine aA V Z Z ?_)
 refine aV cO Z (fun b3 => ?_)
 (refine aA V Z Z (aF (aE (aB ?_))); refine aI V Z Z Z ?_)
 by_cases hr : checkV r = 0
 ·have hR := (bM r).1 hr
  have hcl := hR.clicks
  refine bO (β := Nat) V [] _ M0 Z Z Z Z (Sp.refl _) qS (fun w' hs => iH w' _ r (h0.keep hs.chg0) hsm hr) ?_
  rintro bd _ rfl
  (refine aA V Z Z (bC V Z Z Z (bC V Z Z Z (aA V Z Z (aA V Z Z (aF (aE (aE (aB (aA V Z Z (aA V Z Z (aF ?_))))))))))); refine aL Z (aR (aE (aB ?_))); (iterate 3 refine aA V Z Z ?_))
  refine cE #[.func (.func 87) #[.pointer (some ⟨bd, 0, none⟩)] #[]] Z qR Z ?_
  refine aJ (val := .tuple #[.int .i64 (fH (lK r) (cR r.clicks 0)).1, rtV (fH (lK r) (cR r.clicks 0)).2]) V Z Z Z Z (fun w hs => ?_) ?_; exact best_ca w bd r (.func (.func 87) #[.pointer (some ⟨bd, 0, none⟩)] #[]) (lK r) ⟨_, _, hs.blk U, h0.keep hs.chg0⟩ hcl Z (fun c _ => expV_fine r hR c) (fun w' hc' c hcin => CaF.of V qR (expected_ca w' bd r c (DkAt.keep ⟨_, _, hs.blk U, h0.keep hs.chg0⟩ hc') hR (by have := bH.1 hcin; omega)))
  (refine aA V Z Z (bC V Z Z Z (bC V Z Z Z ?_)))
  refine aV cO Z (fun b8 => ?_)
  (refine aA V Z Z ?_; refine aY V Z Z Z Z Z U Z ?_; refine aF (aE ?_))
  refine bX _ [.pt b3 _ _] (Sp.cons U (Sp.refl _)) qR qR ?_
  (refine aD V Z Z Z ?_; refine aO V Z Z Z ?_; refine aD V Z Z Z ?_; refine bK V Z Z Z Z Z U Z ?_; refine aD V Z Z Z (aK (aW ?_)))
  refine aX V Z U fun w hs => ?_
  refine ⟨?_, hs.chg0⟩
  simp [fT, jS, hr, rtV]
 ·refine aJ V Z Z Z Z (fun w hs => jN w _ r (h0.keep hs.chg0) hsm hr) ?_
  (refine aA V Z Z (bC V Z Z Z (bC V Z Z Z (aA V Z Z (aA V Z Z (aF (aE (aE (aB (aA V Z Z (aA V Z Z (aF ?_))))))))))))
  rw [decide_eq_false hr]
  (refine aM Z (aE (aB ?_)))
  refine cE #[.int .i64 0, .int .i64 0] Z qR Z ?_
  (refine aA V Z Z (aA V Z Z ?_); refine aY V Z Z Z Z Z U Z ?_; refine aA V Z Z (aF (aW ?_)))
  refine aX V Z U fun w hs => ?_
  exact ⟨by simp [fT, jS, hr, rtV], hs.chg0⟩

end Go.Proofs.YtohlillcaadidaaGreat

/- Walks: the reference's off. -/
namespace Go.Proofs.YtohlillcaadidaaGreat
open Go Go.Eng

theorem fO (n lo hi : Int) (w : World) : Ca Tryz.prog 44 [.int .i64 n, .int .i64 lo, .int .i64 hi] w fun v w' => v = .bool (!inB n lo hi) ∧ Chg [] w w' := by
 refine dB (Sat.nil w M0) Tryz.func44 Z (by simp [Tryz.ntmps44]) ?_
 (refine aE (aB (aA V Z Z (aF (aE (aB ?_))))); (iterate 4 refine aA V Z Z ?_))
 refine bU Z Z (fun hc => ?_) (fun hc => ?_)
 ·((iterate 3 refine bA Z Z Z ?_); refine aA V Z Z (aA V Z Z (aF (aW ?_))))
  exact nJ Z Z fun w' hs => ⟨by simp at hc; simp [inB]; omega, hs.chg0⟩
 ·(refine aC Z (aA V Z Z (aC Z (aA V Z Z (aC Z ?_)))); (iterate 3 refine aA V Z Z ?_); refine aF (aW ?_))
  exact nJ Z Z fun w' hs => ⟨by simp at hc; by_cases h : n ≤ hi <;> simp [inB, hc, h] <;> omega, hs.chg0⟩

end Go.Proofs.YtohlillcaadidaaGreat

/- The plan, as plain numbers. -/
namespace Go.Proofs.YtohlillcaadidaaGreat
open Go Go.Eng

/-- Rules. -/
structure Ru where
 miss : Int
 click : Int
 wait : Int
 waits : Int
structure Ru.Right (p : Ru) : Prop where
 miss : 0 ≤ p.miss ∧ p.miss ≤ 6000
 click : 0 ≤ p.click ∧ p.click ≤ 600
 wait : 0 ≤ p.wait ∧ p.wait ≤ 600
 waits : 0 ≤ p.waits ∧ p.waits ≤ 3

def cJ (r : Rg) (shot wt : Nat) : Int := r.group.sum * r.total ^ (4 - shot + wt)
def folS (r : Rg) (f : Nat → Int) (st : Nat) : Int := cV (fun t => (r.next.getD st []).getD t 0 * f t) r.drifts.length
/-- What is to be expected of a shot, if g are the values behind it. -/
def cS (r : Rg) (p : Ru) (g : Nat → Int → Int) (shot wt st : Nat) (cl click : Int) : Int :=
 p.click * max (click - cl) (cl - click) * cJ r shot wt + p.miss * cX r (r.drifts.getD st 0) click * (cJ r shot wt / r.group.sum) + (if shot < 4 then folS r (fun t => g t click) st else 0)
def mI (r : Rg) (p : Ru) (h : Nat → Int → Int) (shot wt st : Nat) (cl : Int) : Int := p.wait * cJ r shot wt + folS r (fun t => h t cl) st
def nO (r : Rg) (p : Ru) (g : Nat → Int → Int) (shot wt st : Nat) (cl : Int) (s : Int × Int) (c : Int) : Int × Int := if cS r p g shot wt st cl c < s.2 then (c, cS r p g shot wt st cl c) else s
def dH (r : Rg) (p : Ru) (g : Nat → Int → Int) (shot wt st : Nat) (cl : Int) : Int × Int := (cR r.clicks cl).foldl (nO r p g shot wt st cl) (cl, cS r p g shot wt st cl cl)
/-- The best choice (to wait; the click), and what is to be expected. -/
def chV (r : Rg) (p : Ru) (g h : Nat → Int → Int) (shot wt st : Nat) (cl : Int) : (Bool × Int) × Int :=
 let s := dH r p g shot wt st cl
 if 0 < wt then (if mI r p h shot wt st cl < s.2 then ((true, 0), mI r p h shot wt st cl) else ((false, s.1), s.2)) else ((false, s.1), s.2)

/-! Tables: waits, states, clicks. -/
def eT (C : Int) : List Int := (List.range (2 * C + 1).toNat).map fun (i : Nat) => (i : Int) - C
def getT (C : Int) (t : List (List Int)) (st : Nat) (cl : Int) : Int := (t.getD st []).getD (cl + C).toNat 0
def lev (r : Rg) (p : Ru) (g h : Nat → Int → Int) (shot wt : Nat) : List (List Int) := (List.range r.drifts.length).map fun st => (eT r.clicks).map fun cl => (chV r p g h shot wt st cl).2
def levW (r : Rg) (p : Ru) (shot : Nat) (prev : List (List (List Int))) : Nat → List (List (List Int))
 | 0 => []
 | k + 1 => let l := levW r p shot prev k; l ++ [lev r p (getT r.clicks (prev.getD k [])) (getT r.clicks (l.getD (k - 1) [])) shot k]
def tabV (r : Rg) (p : Ru) : Nat → List (List (List Int))
 | 0 => levW r p 4 [] (p.waits + 1).toNat
 | m + 1 => levW r p (4 - (m + 1)) (tabV r p m) (p.waits + 1).toNat
/-- The value of a situation; 0 behind the last shot. -/
def iU (r : Rg) (p : Ru) (shot wt st : Nat) (cl : Int) : Int := if shot < 5 then getT r.clicks ((tabV r p (4 - shot)).getD wt []) st cl else 0
def jW (r : Rg) (p : Ru) (shot wt st : Nat) (cl : Int) : (Bool × Int) × Int := chV r p (iU r p (shot + 1) wt) (iU r p shot (wt - 1)) shot wt st cl

theorem levW_length (r : Rg) (p : Ru) (shot : Nat) (prev : List (List (List Int))) : ∀ k, (levW r p shot prev k).length = k
 | 0 => rfl
 | k + 1 => by simp [levW, levW_length r p shot prev k]
theorem levW_getD (r : Rg) (p : Ru) (shot : Nat) (prev : List (List (List Int))) : ∀ n k, k < n → (levW r p shot prev n).getD k [] = lev r p (getT r.clicks (prev.getD k [])) (getT r.clicks ((levW r p shot prev n).getD (k - 1) [])) shot k ∨ k = 0 ∧ (levW r p shot prev n).getD 0 [] = lev r p (getT r.clicks (prev.getD 0 [])) (getT r.clicks []) shot 0
 | 0, k, h => by omega
 | n + 1, k, h => by
  have hl := levW_length r p shot prev n
  by_cases hk : k < n
  ·have ih := levW_getD r p shot prev n k hk
   have e : ∀ j, j < n → (levW r p shot prev (n + 1)).getD j [] = (levW r p shot prev n).getD j [] := fun j hj => by
    simp only [levW, List.getD_eq_getElem?_getD]
    rw [List.getElem?_append_left O]
   rw [e k hk, e (k - 1) O, e 0 O]
   exact ih
  ·obtain rfl : k = n := by omega
   have e0 : (levW r p shot prev (k + 1)).getD k [] = lev r p (getT r.clicks (prev.getD k [])) (getT r.clicks ((levW r p shot prev k).getD (k - 1) [])) shot k := by
    simp only [levW, List.getD_eq_getElem?_getD]
    rw [List.getElem?_append_right O, hl]
    simp
   cases k with
   | zero => exact .inr ⟨rfl, e0⟩
   | succ j =>
    refine .inl ?_
    rw [e0]
    congr 2
    simp only [Nat.add_sub_cancel]
    rw [show levW r p shot prev (j + 1 + 1) = levW r p shot prev (j + 1) ++ [lev r p (getT r.clicks (prev.getD (j + 1) [])) (getT r.clicks ((levW r p shot prev (j + 1)).getD j [])) shot (j + 1)] from rfl]
    simp only [List.getD_eq_getElem?_getD]
    rw [List.getElem?_append_left O]

theorem lev_get (r : Rg) (p : Ru) (g h : Nat → Int → Int) (shot wt st : Nat) (cl : Int) (hs : st < r.drifts.length) (hc : -r.clicks ≤ cl ∧ cl ≤ r.clicks) : getT r.clicks (lev r p g h shot wt) st cl = (chV r p g h shot wt st cl).2 := by
 have h1 : (cl + r.clicks).toNat < (2 * r.clicks + 1).toNat := by omega
 have h2 : ((cl + r.clicks).toNat : Int) - r.clicks = cl := by omega
 have h3 : max (cl + r.clicks) 0 - r.clicks = cl := by omega
 simp [getT, lev, eT, hs, h1, h3]

theorem chV_h0 (r : Rg) (p : Ru) (g h h' : Nat → Int → Int) (shot st : Nat) (cl : Int) : chV r p g h shot 0 st cl = chV r p g h' shot 0 st cl := by simp [chV]
theorem chClick_g4 (r : Rg) (p : Ru) (g g' : Nat → Int → Int) (wt st : Nat) (cl : Int) : dH r p g 4 wt st cl = dH r p g' 4 wt st cl := by
 have : nO r p g 4 wt st cl = nO r p g' 4 wt st cl := by
  funext s c
  simp [nO, cS]
 simp only [dH, this]
 simp [cS]
theorem chV_g4 (r : Rg) (p : Ru) (g g' h : Nat → Int → Int) (wt st : Nat) (cl : Int) : chV r p g h 4 wt st cl = chV r p g' h 4 wt st cl := by
 simp only [chV, chClick_g4 r p g g']

/-- The value of a situation is what the best choice costs. -/
theorem valV_eq (r : Rg) (p : Ru) (shot wt st : Nat) (cl : Int) (h5 : shot < 5) (hw : (wt : Int) ≤ p.waits) (hs : st < r.drifts.length) (hc : -r.clicks ≤ cl ∧ cl ≤ r.clicks) : iU r p shot wt st cl = (jW r p shot wt st cl).2 := by
 obtain ⟨m, hm⟩ : ∃ m, 4 - shot = m := ⟨_, rfl⟩
 have hwn : wt < (p.waits + 1).toNat := by omega
 unfold iU jW
 rw [if_pos h5, hm]
 cases m with
 | zero =>
  obtain rfl : shot = 4 := by omega
  rcases levW_getD r p 4 [] _ wt hwn with h | ⟨rfl, h⟩
  ·rw [tabV, h, lev_get r p _ _ 4 wt st cl hs hc]
   rw [chV_g4 r p _ (iU r p (4 + 1) wt)]
   rfl
  ·rw [tabV, h, lev_get r p _ _ 4 0 st cl hs hc]
   rw [chV_g4 r p _ (iU r p (4 + 1) 0), chV_h0 r p _ _ (iU r p 4 (0 - 1))]
 | succ m =>
  have hsh : shot = 4 - (m + 1) := by omega
  have hm4 : m + 1 ≤ 4 := by omega
  have eg : getT r.clicks ((tabV r p m).getD wt []) = iU r p (shot + 1) wt := by
   funext t c
   simp only [iU]
   rw [if_pos O, show 4 - (shot + 1) = m by omega]
  rcases levW_getD r p (4 - (m + 1)) (tabV r p m) _ wt hwn with h | ⟨rfl, h⟩
  ·rw [tabV, h, lev_get r p _ _ _ wt st cl hs hc, eg, ← hsh]
   congr 1
   congr 1
   funext t c
   simp only [iU]
   rw [if_pos h5, hm, tabV, ← hsh]
  ·rw [tabV, h, lev_get r p _ _ _ 0 st cl hs hc, eg, ← hsh]
   rw [chV_h0 r p _ _ (iU r p shot (0 - 1))]
end Go.Proofs.YtohlillcaadidaaGreat

/- The plan, as plain numbers: bounds. -/
namespace Go.Proofs.YtohlillcaadidaaGreat
open Go Go.Eng

theorem pY (r : Rg) (hr : r.Right) (shot wt : Nat) : cJ r shot wt / r.group.sum = r.total ^ (4 - shot + wt) := by
 have := hr.gsum
 unfold cJ
 exact Int.mul_ediv_cancel_left _ O
theorem tot7 (r : Rg) (hr : r.Right) (k : Nat) (hk : k ≤ 7) : 1 ≤ r.total ^ k ∧ r.total ^ k ≤ 35831808 := by
 have h1 := tot_bd r hr k
 have h2 : (12 : Int) ^ k ≤ 12 ^ 7 := by
  have : (12 : Nat) ^ k ≤ 12 ^ 7 := Nat.pow_le_pow_right O hk
  exact_mod_cast this
 have h3 : (12 : Int) ^ 7 = 35831808 := by decide
 omega
theorem hZ (r : Rg) (hr : r.Right) (shot wt : Nat) (hw : wt ≤ 3) : 1 ≤ cJ r shot wt ∧ cJ r shot wt ≤ 3583180800 := by
 have h1 := tot7 r hr (4 - shot + wt) O
 have h2 := hr.gsum
 have h3 : 0 ≤ cJ r shot wt ∧ cJ r shot wt ≤ 100 * 35831808 := bR O O
 have h4 : 1 * 1 ≤ cJ r shot wt := Int.mul_le_mul h2.1 h1.1 O O
 omega
theorem parts_shot (r : Rg) (shot wt : Nat) (h : shot < 4) : cJ r shot wt = r.total * cJ r (shot + 1) wt := by
 unfold cJ
 rw [show 4 - shot + wt = (4 - (shot + 1) + wt) + 1 by omega, Int.pow_succ, Int.mul_comm r.total, Int.mul_assoc]
theorem next_bd (r : Rg) (hr : r.Right) (st t : Nat) : 0 ≤ (r.next.getD st []).getD t 0 ∧ (r.next.getD st []).getD t 0 ≤ 12 := getD_bd O (row_bd hr st) t
theorem mK (f : Nat → Int) (B : Int) : ∀ n, (∀ i, i < n → 0 ≤ f i ∧ f i ≤ B) → 0 ≤ cV f n ∧ cV f n ≤ B * n
 | 0, _ => by simp [cV]
 | n + 1, h => by
  have ih := mK f B n (fun i hi => h i O)
  have h1 := h n O
  have e : B * ((n + 1 : Nat) : Int) = B * n + B := by simp [Int.mul_add]
  rw [e, cV]
  omega
theorem fol_bd (r : Rg) (hr : r.Right) (f : Nat → Int) (B : Int) (hB : ∀ t, t < r.drifts.length → 0 ≤ f t ∧ f t ≤ B) (st n : Nat) (hn : n ≤ r.drifts.length) : 0 ≤ cV (fun t => (r.next.getD st []).getD t 0 * f t) n ∧ cV (fun t => (r.next.getD st []).getD t 0 * f t) n ≤ 12 * B * n :=
 mK _ _ n (fun i hi => bR (next_bd r hr st i) (hB i O))
/-- A row's weights times values that are not above B. -/
theorem fol_tot (r : Rg) (hr : r.Right) (f : Nat → Int) (B : Int) (hB : ∀ t, t < r.drifts.length → 0 ≤ f t ∧ f t ≤ B) (st : Nat) (hs : st < r.drifts.length) : 0 ≤ folS r f st ∧ folS r f st ≤ r.total * B := by
 refine ⟨(fol_bd r hr f B hB st _ (Nat.le_refl _)).1, ?_⟩
 have hn : st < r.next.length := by rw [hr.next]; exact hs
 have hrow : r.next.getD st [] = r.next[st] := by simp [hn]
 have hlen := hr.rows _ (List.getElem_mem hn)
 have hsum := hr.nsum _ (List.getElem_mem hn)
 have h1 : folS r f st ≤ cV (fun t => B * (r.next.getD st []).getD t 0) r.drifts.length := lW _ _ _ (fun i hi => by
  rw [Int.mul_comm B]
  exact Int.mul_le_mul_of_nonneg_left (hB i hi).2 (next_bd r hr st i).1)
 rw [hJ, iM _ _ (by rw [hrow]; omega), hrow, hsum, Int.mul_comm B] at h1
 exact h1

theorem far_bd {C cl click : Int} (hC : C ≤ 6) (h1 : -C ≤ cl ∧ cl ≤ C) (h2 : -C ≤ click ∧ click ≤ C) : 0 ≤ max (click - cl) (cl - click) ∧ max (click - cl) (cl - click) ≤ 12 := by omega

theorem shoot_bd (r : Rg) (hr : r.Right) (p : Ru) (hp : p.Right) (g : Nat → Int → Int) (B : Int) (hB0 : 0 ≤ B) (hB : ∀ t c, t < r.drifts.length → -r.clicks ≤ c ∧ c ≤ r.clicks → 0 ≤ g t c ∧ g t c ≤ B) (shot wt st : Nat) (hw : wt ≤ 3) (cl click : Int) (h1 : -r.clicks ≤ cl ∧ cl ≤ r.clicks) (h2 : -r.clicks ≤ click ∧ click ≤ r.clicks) :
  0 ≤ cS r p g shot wt st cl click ∧ cS r p g shot wt st cl click ≤ 50000000000000 + 60 * B := by
 have hpt := hZ r hr shot wt hw
 have hms := eC r hr (r.drifts.getD st 0) click
 have hg := hr.gsum
 have hd := pY r hr shot wt
 have ht := tot7 r hr (4 - shot + wt) O
 have a1 := bR hp.click (far_bd hr.clicks.2 h1 h2)
 have a2 := bR a1 (show 0 ≤ cJ r shot wt ∧ cJ r shot wt ≤ 3583180800 by omega)
 have b1 := bR hp.miss (show 0 ≤ cX r (r.drifts.getD st 0) click ∧ cX r (r.drifts.getD st 0) click ≤ 100 by omega)
 have b2 := bR b1 (show 0 ≤ cJ r shot wt / r.group.sum ∧ cJ r shot wt / r.group.sum ≤ 35831808 by omega)
 have c1 : 0 ≤ folS r (fun t => g t click) st ∧ folS r (fun t => g t click) st ≤ 12 * B * (r.drifts.length : Int) := fol_bd r hr (fun t => g t click) B (fun t ht => hB t click ht h2) st r.drifts.length (Nat.le_refl _)
 have c2 : 12 * B * (r.drifts.length : Int) ≤ 12 * B * 5 := Int.mul_le_mul_of_nonneg_left (by have := hr.d2; omega) O
 unfold cS
 split
 ·omega
 ·omega

theorem fold_best (sv : Int → Int) : ∀ (l : List Int) (s : Int × Int), s.2 = sv s.1 → (l.foldl (fun s c => if sv c < s.2 then (c, sv c) else s) s).2 = sv (l.foldl (fun s c => if sv c < s.2 then (c, sv c) else s) s).1 ∧ (l.foldl (fun s c => if sv c < s.2 then (c, sv c) else s) s).2 ≤ s.2 ∧ (∀ c ∈ l, (l.foldl (fun s c => if sv c < s.2 then (c, sv c) else s) s).2 ≤ sv c) ∧ ((l.foldl (fun s c => if sv c < s.2 then (c, sv c) else s) s).1 = s.1 ∨ (l.foldl (fun s c => if sv c < s.2 then (c, sv c) else s) s).1 ∈ l)
 | [], s, hs => ⟨hs, Int.le_refl _, by simp, .inl rfl⟩
 | c :: l, s, hs => by
  rw [List.foldl_cons]
  by_cases h : sv c < s.2
  ·rw [if_pos h]
   obtain ⟨h1, h2, h3, h4⟩ := fold_best sv l (c, sv c) rfl
   refine ⟨h1, by simp only at h2; omega, fun d hd => ?_, .inr ?_⟩
   ·rcases List.mem_cons.1 hd with rfl | hd
    ·exact h2
    ·exact h3 d hd
   ·rcases h4 with h4 | h4
    ·rw [h4]; exact List.mem_cons_self
    ·exact List.mem_cons_of_mem _ h4
  ·rw [if_neg h]
   obtain ⟨h1, h2, h3, h4⟩ := fold_best sv l s hs
   refine ⟨h1, h2, fun d hd => ?_, ?_⟩
   ·rcases List.mem_cons.1 hd with rfl | hd
    ·omega
    ·exact h3 d hd
   ·rcases h4 with h4 | h4
    ·exact .inl h4
    ·exact .inr (List.mem_cons_of_mem _ h4)

theorem lR (r : Rg) (p : Ru) (g : Nat → Int → Int) (shot wt st : Nat) (cl : Int) (hc : -r.clicks ≤ cl ∧ cl ≤ r.clicks) : (dH r p g shot wt st cl).2 = cS r p g shot wt st cl (dH r p g shot wt st cl).1 ∧ (-r.clicks ≤ (dH r p g shot wt st cl).1 ∧ (dH r p g shot wt st cl).1 ≤ r.clicks) ∧
  (∀ c, c ∈ cR r.clicks cl → (dH r p g shot wt st cl).2 ≤ cS r p g shot wt st cl c) ∧ (dH r p g shot wt st cl).2 ≤ cS r p g shot wt st cl cl := by
 obtain ⟨h1, h2, h3, h4⟩ := fold_best (cS r p g shot wt st cl) (cR r.clicks cl) (cl, cS r p g shot wt st cl cl) rfl
 refine ⟨h1, ?_, h3, h2⟩
 rcases h4 with h4 | h4
 ·have e : (dH r p g shot wt st cl).1 = cl := h4
  omega
 ·exact bH.1 (iP _ _ (bH.2 hc) _ h4)

theorem wait_bd (r : Rg) (hr : r.Right) (p : Ru) (hp : p.Right) (h : Nat → Int → Int) (B : Int) (hB0 : 0 ≤ B) (hB : ∀ t c, t < r.drifts.length → -r.clicks ≤ c ∧ c ≤ r.clicks → 0 ≤ h t c ∧ h t c ≤ B) (shot wt st : Nat) (hw : wt ≤ 3) (cl : Int) (h1 : -r.clicks ≤ cl ∧ cl ≤ r.clicks) :
  0 ≤ mI r p h shot wt st cl ∧ mI r p h shot wt st cl ≤ 50000000000000 + 60 * B := by
 have hpt := hZ r hr shot wt hw
 have a1 := bR hp.wait (show 0 ≤ cJ r shot wt ∧ cJ r shot wt ≤ 3583180800 by omega)
 have c1 : 0 ≤ folS r (fun t => h t cl) st ∧ folS r (fun t => h t cl) st ≤ 12 * B * (r.drifts.length : Int) := fol_bd r hr (fun t => h t cl) B (fun t ht => hB t cl ht h1) st r.drifts.length (Nat.le_refl _)
 have c2 : 12 * B * (r.drifts.length : Int) ≤ 12 * B * 5 := Int.mul_le_mul_of_nonneg_left (by have := hr.d2; omega) O
 unfold mI
 omega

theorem chV_nonneg {wt : Nat} (r : Rg) (hr : r.Right) (p : Ru) (hp : p.Right) (g h : Nat → Int → Int) (B : Int) (hB0 : 0 ≤ B) (hg : ∀ t c, t < r.drifts.length → -r.clicks ≤ c ∧ c ≤ r.clicks → 0 ≤ g t c ∧ g t c ≤ B) (hh : 0 < wt → ∀ t c, t < r.drifts.length → -r.clicks ≤ c ∧ c ≤ r.clicks → 0 ≤ h t c ∧ h t c ≤ B) (shot st : Nat) (hw : wt ≤ 3) (cl : Int) (hc : -r.clicks ≤ cl ∧ cl ≤ r.clicks) : 0 ≤ (chV r p g h shot wt st cl).2 := by
 obtain ⟨h1, h2, _⟩ := lR r p g shot wt st cl hc
 have h3 := shoot_bd r hr p hp g B hB0 hg shot wt st hw cl _ hc h2
 unfold chV
 simp only
 split
 ·have h4 := wait_bd r hr p hp h B hB0 (hh (by assumption)) shot wt st hw cl hc
  split
  ·exact h4.1
  ·simp only; omega
 ·simp only; omega
theorem chV_le (r : Rg) (p : Ru) (g h : Nat → Int → Int) (shot wt st : Nat) (cl : Int) (hc : -r.clicks ≤ cl ∧ cl ≤ r.clicks) : (chV r p g h shot wt st cl).2 ≤ (dH r p g shot wt st cl).2 := by
 unfold chV
 simp only
 split
 ·split
  ·omega
  ·exact Int.le_refl _
 ·exact Int.le_refl _

theorem valV_bd1 (r : Rg) (hr : r.Right) (p : Ru) (hp : p.Right) (m wt shot st : Nat) (cl : Int) (hm : 5 - shot = m + 1) (hw : (wt : Int) ≤ p.waits) (hs : st < r.drifts.length) (hc : -r.clicks ≤ cl ∧ cl ≤ r.clicks)
  (hg : ∀ t c, t < r.drifts.length → -r.clicks ≤ c ∧ c ≤ r.clicks → 0 ≤ iU r p (shot + 1) wt t c ∧ iU r p (shot + 1) wt t c ≤ 6000 * m * cJ r (shot + 1) wt)
  (hh : 0 < wt → ∀ t c, t < r.drifts.length → -r.clicks ≤ c ∧ c ≤ r.clicks → 0 ≤ iU r p shot (wt - 1) t c ∧ iU r p shot (wt - 1) t c ≤ 6000 * (m + 1 : Nat) * cJ r shot (wt - 1)) : 0 ≤ iU r p shot wt st cl ∧ iU r p shot wt st cl ≤ 6000 * (m + 1 : Nat) * cJ r shot wt := by
 have hw3 : wt ≤ 3 := by have := hp.waits; omega
 have hp1 := hZ r hr (shot + 1) wt hw3
 have hp2 := hZ r hr shot (wt - 1) O
 have hp3 := hZ r hr shot wt hw3
 have hm5 : (m : Int) ≤ 4 := by omega
 have hb1 : 6000 * (m : Int) * cJ r (shot + 1) wt ≤ 30000 * 3583180800 := (bR (show 0 ≤ 6000 * (m : Int) ∧ 6000 * (m : Int) ≤ 30000 by omega) (show 0 ≤ cJ r (shot + 1) wt ∧ _ by exact ⟨by omega, hp1.2⟩)).2
 have hb2 : 6000 * ((m + 1 : Nat) : Int) * cJ r shot (wt - 1) ≤ 30000 * 3583180800 := (bR (show 0 ≤ 6000 * ((m + 1 : Nat) : Int) ∧ 6000 * ((m + 1 : Nat) : Int) ≤ 30000 by omega) (show 0 ≤ cJ r shot (wt - 1) ∧ _ by exact ⟨by omega, hp2.2⟩)).2
 rw [valV_eq r p shot wt st cl O hw hs hc]
 refine ⟨chV_nonneg r hr p hp _ _ (30000 * 3583180800) O (fun t c ht hc => by have := hg t c ht hc; omega) (fun h0 t c ht hc => by have := hh h0 t c ht hc; omega) shot st hw3 cl hc, ?_⟩
 refine Int.le_trans (chV_le r p _ _ shot wt st cl hc) (Int.le_trans (lR r p _ shot wt st cl hc).2.2.2 ?_)
 have hd := pY r hr shot wt
 have ht := tot7 r hr (4 - shot + wt) O
 have hms := eC r hr (r.drifts.getD st 0) cl
 have h1 : p.miss * cX r (r.drifts.getD st 0) cl * (cJ r shot wt / r.group.sum) ≤ 6000 * cJ r shot wt := by
  rw [hd]
  unfold cJ
  rw [← Int.mul_assoc]
  exact Int.mul_le_mul_of_nonneg_right (Int.mul_le_mul hp.miss.2 hms.2 hms.1 O) O
 unfold cS
 rw [show max (cl - cl) (cl - cl) = 0 by omega, Int.mul_zero, Int.zero_mul, Int.zero_add]
 have e1 : 6000 * ((m + 1 : Nat) : Int) * cJ r shot wt = 6000 * m * cJ r shot wt + 6000 * cJ r shot wt := by
  rw [Int.natCast_add, Int.mul_add, Int.add_mul]
  simp
 rw [e1]
 split
 ·have h2 := (fol_tot r hr (fun t => iU r p (shot + 1) wt t cl) (6000 * m * cJ r (shot + 1) wt) (fun t ht => hg t cl ht hc) st hs).2
  have e2 : r.total * (6000 * m * cJ r (shot + 1) wt) = 6000 * m * cJ r shot wt := by
   rw [parts_shot r shot wt (by assumption), Int.mul_left_comm]
  omega
 ·have : 0 ≤ 6000 * (m : Int) * cJ r shot wt := Int.mul_nonneg O O
  omega

/-- Values are not below 0, and not above what five misses cost. -/
theorem valV_bd (r : Rg) (hr : r.Right) (p : Ru) (hp : p.Right) : ∀ (m wt shot st : Nat) (cl : Int), 5 - shot = m → (wt : Int) ≤ p.waits → st < r.drifts.length → -r.clicks ≤ cl ∧ cl ≤ r.clicks → 0 ≤ iU r p shot wt st cl ∧ iU r p shot wt st cl ≤ 6000 * m * cJ r shot wt := by
 intro m
 induction m with
 | zero =>
  intro wt shot st cl hm hw hs hc
  rw [iU, if_neg O]
  simp
 | succ m ih =>
  intro wt
  induction wt with
  | zero =>
   intro shot st cl hm hw hs hc
   exact valV_bd1 r hr p hp m 0 shot st cl hm hw hs hc (fun t c ht hc => ih 0 (shot + 1) t c O hw ht hc) (fun h => by omega)
  | succ wt ihw =>
   intro shot st cl hm hw hs hc
   exact valV_bd1 r hr p hp m (wt + 1) shot st cl hm hw hs hc (fun t c ht hc => ih (wt + 1) (shot + 1) t c O hw ht hc) (fun _ t c ht hc => ihw shot t c hm O ht hc)
end Go.Proofs.YtohlillcaadidaaGreat

/- Walks of the reference: small functions. -/
namespace Go.Proofs.YtohlillcaadidaaGreat
open Go Go.Eng

theorem fI (w : World) (lo hi : Nat) (v : Value) (l : List Int) (h : RdI w lo hi v l) (hlen : l.length < 1000000) (hb : ∀ x ∈ l, -1000000 ≤ x ∧ x ≤ 1000000) :
  Ca Tryz.prog 48 [v] w fun r w' => r = .int .i64 l.sum ∧ Chg [] w w' := by
 obtain ⟨a, cap, rfl, hs⟩ := h.outI
 refine dB (Sat.nil w M0) Tryz.func48 Z (by simp [Tryz.ntmps48]) ?_
 (refine aE (aB (aA V Z Z (aF (aE (aB (aA V Z Z (aF (aE (aE (aB (aA V Z Z ?_))))))))))); refine aF (aP ?_))
 refine bN (σ := Nat) (fun k => k ≤ l.length) (fun k => l.length - k) (fun k => [(0, .slice a l.length cap), (3, .int .i64 (l.take k).sum), (4, .int .i64 k)]) (fun _ => []) 0 O ⟨Z, Z, Z, trivial⟩ .nil ?_
 intro k hk K hK
 (refine aE (aE (aB ?_)); (iterate 4 refine aA V Z Z ?_); refine aF ?_)
 refine dD Z (fun hc => ?_) (fun hc => ?_)
 ·have hk : k < l.length := by omega
  obtain ⟨b, off, rfl⟩ := hs O
  (refine aR (aE (aP (aB ?_))); (iterate 3 refine aA V Z Z ?_))
  have h1 := kL l k hb (show l.length ≤ 1000000 by omega) O
  have h2 := hb l[k] (List.getElem_mem hk)
  (refine bW V Z Z Z Z Z O O ?_; refine cI V Z Z Z (fun w hs => RdI.at (h.keep hs.chg0) k hk) ?_)
  (refine bB V Z Z Z Z O O (aA V Z Z (aF (bL (aB (aA V Z Z (bB V Z Z Z Z O O (aA V Z Z (aF ?_)))))))))
  exact hK (k + 1) _ _ O O ⟨Z, by rw [iA l k hk]; rfl, Z, trivial⟩ U
 ·obtain rfl : k = l.length := by omega
  (refine bJ _ Z (aE (aB (aA V Z Z (aA V Z Z (aF (aW ?_)))))))
  exact nJ Z Z fun w' hs => ⟨by rw [List.take_length], hs.chg0⟩

theorem iX (w : World) (b0 b1 : Nat) (v : Value) (l : List Int) (lo hi : Int) (h : RdI w b0 b1 v l) (hlen : l.length < 1000000) :
  Ca Tryz.prog 109 [v, .int .i64 lo, .int .i64 hi] w fun r w' => r = .bool (!(l.all fun n => inB n lo hi)) ∧ Chg [] w w' := by
 obtain ⟨a, cap, rfl, hs⟩ := h.outI
 refine dB (Sat.nil w M0) Tryz.func109 Z (by simp [Tryz.ntmps109]) ?_
 (refine aE (aB (aA V Z Z (aF (aE (aE (aB (aA V Z Z (aF (aP ?_))))))))))
 refine bN (σ := Nat) (fun k => k ≤ l.length ∧ (l.take k).all (fun n => inB n lo hi) = true) (fun k => l.length - k) (fun k => [(0, .slice a l.length cap), (1, .int .i64 lo), (2, .int .i64 hi), (7, .int .i64 k)]) (fun _ => []) 0 ⟨by omega, Z⟩ ⟨Z, Z, Z, Z, trivial⟩ .nil ?_
 rintro k ⟨hk, hall⟩ K hK
 (refine aE (aE (aB ?_)); (iterate 4 refine aA V Z Z ?_); refine aF ?_)
 refine dD Z (fun hc => ?_) (fun hc => ?_)
 ·have hk : k < l.length := by omega
  obtain ⟨b, off, rfl⟩ := hs O
  have e : (l.take (k + 1)).all (fun n => inB n lo hi) = inB l[k] lo hi := by rw [List.take_succ_eq_append_getElem hk, List.all_append, hall]; simp
  (refine aR (aE (aP (aE (aB (aA V Z Z (aA V Z Z ?_)))))))
  (refine bW V Z Z Z Z Z O O ?_; refine cI V Z Z Z (fun w hs => RdI.at (h.keep hs.chg0) k hk) ?_)
  (refine aA V Z Z (aA V Z Z ?_))
  refine aJ (val := .bool (!(inB l[k] lo hi))) V Z Z Z Z (fun w hs => ?_) ?_; exact fO l[k] lo hi w
  cases hh : inB l[k] lo hi with
  | true =>
   rw [hh] at e
   (refine aF (aL Z (aR (bL (aB (aA V Z Z (bB V Z Z Z Z O O (aA V Z Z (aF ?_)))))))))
   exact hK (k + 1) _ _ ⟨by omega, e⟩ O ⟨Z, Z, Z, Z, trivial⟩ U
  | false =>
   (refine aF (aM Z (aE (aB (aA V Z Z (aF (aW ?_)))))))
   have e2 : (l.all fun n => inB n lo hi) = false := List.all_eq_false.2 ⟨l[k], List.getElem_mem hk, by simp [hh]⟩
   exact nJ Z Z fun w' hs => ⟨by rw [e2]; rfl, hs.chg0⟩
 ·obtain rfl : k = l.length := by omega
  rw [List.take_length] at hall
  (refine bJ _ Z (aE (aB (aA V Z Z (aF (aW ?_))))))
  exact nJ Z Z fun w' hs => ⟨by rw [hall]; rfl, hs.chg0⟩

theorem jV (n d : Int) (w : World) (hn : 0 ≤ n) (hd : 0 < d) (hn' : n < 9223372036854775808) (hd' : d < 9223372036854775808) :
  Ca Tryz.prog 47 [.int .i64 n, .int .i64 d] w fun v w' => v = rtV (ratioV n d) ∧ Chg [] w w' := by
 refine dB (Sat.nil w M0) Tryz.func47 Z (by simp [Tryz.ntmps47]) ?_
 (refine aE (aB ?_))
 refine aV cO Z (fun b4 => ?_)
 (refine aF (aE (aB ?_)); (iterate 4 refine aA V Z Z ?_); refine aF (aE (aP ?_)))
 refine bN (σ := Int × Int) (fun s => 0 ≤ s.1 ∧ 0 ≤ s.2 ∧ s.1 < 9223372036854775808 ∧ s.2 < 9223372036854775808 ∧ Int.gcd s.2 s.1 = Int.gcd n d) (fun s => s.1.toNat) (fun s => [(0, .int .i64 n), (1, .int .i64 d), (4, .pointer (some ⟨b4, 0, none⟩)), (5, .int .i64 s.1), (6, .int .i64 s.2)])
  (fun _ => [.pt b4 [.int .i64 0, .int .i64 0] 36]) (n, d) ⟨hn, by omega, hn', hd', Int.gcd_comm ..⟩ ⟨rfl, rfl, rfl, rfl, rfl, trivial⟩ (Sp.refl _) ?_
 rintro ⟨a, b⟩ ⟨h1, h2, h3, h4, h5⟩ K hK
 simp only at h1 h2 h3 h4 h5
 (refine aE (aE (aB (aA V Z Z (aA V Z Z (aF ?_))))))
 refine dD Z (fun hc => ?_) (fun hc => ?_)
 ·(refine aR (aP (aB (aA V Z Z (aA V Z Z (dE Z Z Z O O ?_))))); (iterate 3 refine aA V Z Z ?_); refine aF (bL ?_))
  have h6 := Int.emod_nonneg b (show a ≠ 0 by omega)
  have h7 := Int.emod_lt_of_pos b (show 0 < a by omega)
  exact hK (b % a, a) _ _ ⟨h6, h1, by simp only; omega, h3, (gcd_step b a).trans h5⟩ (by simp only; omega) ⟨Z, Z, Z, Z, Z, trivial⟩ U
 ·obtain rfl : a = 0 := by omega
  have h6 : (Int.gcd n d : Int) = b := by
   rw [← h5]
   simp
   omega
  have h7 : 0 < b := by
   have : Int.gcd n d ≠ 0 := by
    intro h
    have := Int.gcd_eq_zero_iff.1 h
    omega
   omega
  (refine bJ _ Z (aE ?_))
  refine bX _ [.pt b4 _ _] (Sp.cons U (Sp.refl _)) qR qR ?_
  (refine aD V Z Z Z (aD V Z Z Z (dS Z Z Z O O O (aD V Z Z Z (aD V Z Z Z (dS Z Z Z O O O ?_))))))
  refine lP #[.int .i64 (n / b), .int .i64 (d / b)] Z qR Z ?_
  (refine bK V Z Z Z Z Z U Z ?_; refine aK (aW ?_))
  refine aX V Z U fun w hs => ?_
  exact ⟨by rw [ratioV, h6]; rfl, hs.chg0⟩

theorem mC (w : World) (cs : List Value) (r : Rg) (drift click : Int) (h : RgC w cs r) (hr : r.Right) (h1 : -1000000 ≤ drift ∧ drift ≤ 1000000) (h2 : -1000 ≤ click ∧ click ≤ 1000) :
  Ca Tryz.prog 46 [.agg cs.toArray, .int .i64 drift, .int .i64 click] w fun v w' => v = .int .i64 (cX r drift click) ∧ Chg [] w w' := by
 obtain ⟨lo, hi, ag, cg, ad, cd, af, cf, an, cn, rfl, hg, hdr, hf, hn⟩ := h
 obtain ⟨_, _, hsl, hsg⟩ := RdI.outI hg
 cases hsl
 have hlen : r.group.length ≤ 21 := hr.g2
 have hodd := hr.odd
 have hrad := hr.radius
 have hcu := gK h2 (show -20 ≤ r.unit ∧ r.unit ≤ 20 by have := hr.unit; omega)
 refine dB (Sat.nil w M0) Tryz.func46 Z (by simp [Tryz.ntmps46]) ?_
 (refine aE (aB ?_))
 refine bG Z Z (fun b3 => ?_)
 (refine aA V Z Z (aF (aE (aB (aA V Z Z (aF (aE (aE (aB (aA V Z Z (aF (aP ?_))))))))))))
 refine bN (σ := Nat) (fun k => k ≤ r.group.length) (fun k => r.group.length - k) (fun k => [(1, .int .i64 drift), (2, .int .i64 click), (3, .pointer (some ⟨b3, 0, none⟩)), (7, .int .i64 ((qA r drift click).take k).sum), (8, .int .i64 k)])
  (fun _ => [.pt b3 [.int .i64 r.radius, .int .i64 r.unit, .int .i64 r.clicks, .int .i64 r.total, .slice ag r.group.length cg, .slice ad r.drifts.length cd, .slice af r.first.length cf, .slice an r.next.length cn] 34]) 0 O ⟨rfl, rfl, rfl, rfl, rfl, trivial⟩ (Sp.refl _) ?_
 intro k hk K hK
 (refine aE (aE (aB (aA V Z Z (aA V Z Z ?_)))); refine aH V Z Z Z ?_; refine aA V Z Z (aA V Z Z (aF ?_)))
 refine dD Z (fun hc => ?_) (fun hc => ?_)
 ·have hk : k < r.group.length := by omega
  obtain ⟨b0, off, rfl⟩ := hsg O
  have h3 := kL (qA r drift click) k (missL_bd r hr drift click) (show (qA r drift click).length ≤ 21 by rw [dX]; omega) O
  have h4 := hr.weight r.group[k] (List.getElem_mem hk)
  have h5 := iA (qA r drift click) k (by rw [dX]; exact hk)
  rw [lQ r drift click k hk] at h5
  have h6 : drift + click * r.unit + (k : Int) - ((r.group.length : Int) - 1) / 2 = drift + (k : Int) - (r.group.length : Int) / 2 + click * r.unit := by
   generalize click * r.unit = x
   omega
  (refine aR (aE (aP (aE (aB ?_)))); (iterate 3 refine aA V Z Z ?_); refine aH V Z Z Z ?_; refine bB V Z Z Z Z O O (bB V Z Z Z Z O O (aA V Z Z (bB V Z Z Z Z O O (aA V Z Z ?_)))); refine aH V Z Z Z ?_; refine aA V Z Z (bB V Z Z Z Z O O (iR Z Z Z O O O (bB V Z Z Z Z O O (aA V Z Z (aF (aE (aB (aA V Z Z (aA V Z Z ?_))))))))); refine aH V Z Z Z ?_; refine fJ V Z Z O O (aA V Z Z (aA V Z Z ?_)))
  rw [h6]
  generalize hx : drift + (k : Int) - (r.group.length : Int) / 2 + click * r.unit = x at *
  refine bU Z Z (fun hc => ?_) (fun hc => ?_)
  ·have hh : hitB r x = false := by cases hq : hitB r x with | false => rfl | true => have := bH.1 (show inB x (-r.radius) r.radius = true from hq); simp at hc; omega
   rw [hh] at h5
   ((iterate 4 refine bA Z Z Z ?_); refine aA V Z Z (aF (aM Z (aB (aA V Z Z (aA V Z Z ?_))))); refine aH V Z Z Z ?_; refine aA V Z Z ?_)
   (refine bW V Z Z Z Z Z O O ?_; refine cI V Z Z Z (fun w hs => RdI.at (hg.keep hs.chg0) k hk) ?_)
   (refine bB V Z Z Z Z O O (aA V Z Z (aF (bL (aB (aA V Z Z (bB V Z Z Z Z O O (aA V Z Z (aF ?_)))))))))
   exact hK (k + 1) _ _ O O ⟨Z, Z, Z, by rw [h5]; simp; rfl, Z, trivial⟩ U
  ·have hc0 := of_decide_eq_false hc
   clear hc
   (refine aC Z (aA V Z Z (aC Z (aA V Z Z (aC Z ?_)))); refine aH V Z Z Z ?_; refine aC Z (aA V Z Z (aA V Z Z (aF ?_))))
   refine dD Z (fun hc => ?_) (fun hc => ?_)
   ·have hh : hitB r x = false := by cases hq : hitB r x with | false => rfl | true => have := bH.1 (show inB x (-r.radius) r.radius = true from hq); omega
    rw [hh] at h5
    (refine aB (aA V Z Z (aA V Z Z ?_)); refine aH V Z Z Z ?_; refine aA V Z Z ?_)
    (refine bW V Z Z Z Z Z O O ?_; refine cI V Z Z Z (fun w hs => RdI.at (hg.keep hs.chg0) k hk) ?_)
    (refine bB V Z Z Z Z O O (aA V Z Z (aF (bL (aB (aA V Z Z (bB V Z Z Z Z O O (aA V Z Z (aF ?_)))))))))
    exact hK (k + 1) _ _ O O ⟨Z, Z, Z, by rw [h5]; simp; rfl, Z, trivial⟩ U
   ·have hh : hitB r x = true := by unfold hitB; rw [bH]; omega
    rw [hh] at h5
    (refine aR (bL (aB (aA V Z Z (bB V Z Z Z Z O O (aA V Z Z (aF ?_)))))))
    exact hK (k + 1) _ _ O O ⟨Z, Z, Z, by rw [h5]; simp; rfl, Z, trivial⟩ U
 ·obtain rfl : k = r.group.length := by omega
  (refine bJ _ Z (aE (aB (aA V Z Z (aA V Z Z (aF (aW ?_)))))))
  refine aX V Z U fun w hs => ?_
  exact ⟨by rw [cX, List.take_of_length_le (by rw [dX]; omega)]; rfl, hs.chg0⟩

theorem tot8 (r : Rg) (hr : r.Right) (k : Nat) (hk : k ≤ 8) : 1 ≤ r.total ^ k ∧ r.total ^ k ≤ 429981696 := by
 have h1 := tot_bd r hr k
 have h2 : (12 : Int) ^ k ≤ 12 ^ 8 := by
  have : (12 : Nat) ^ k ≤ 12 ^ 8 := Nat.pow_le_pow_right O hk
  exact_mod_cast this
 have h3 : (12 : Int) ^ 8 = 429981696 := by decide
 omega
theorem qH (w : World) (cs : List Value) (r : Rg) (n : Nat) (h : RgC w cs r) (hr : r.Right) (hn8 : n ≤ 8) :
  Ca Tryz.prog 113 [.agg cs.toArray, .int .i64 n] w fun v w' => v = .int .i64 (r.total ^ n) ∧ Chg [] w w' := by
 obtain ⟨lo, hi, ag, cg, ad, cd, af, cf, an, cn, rfl, hg, hdr, hf, hn⟩ := h
 refine dB (Sat.nil w M0) Tryz.func113 Z (by simp [Tryz.ntmps113]) ?_
 (refine aE (aB ?_))
 refine bG Z Z (fun b2 => ?_)
 (refine aA V Z Z (aF (aE (aB (aA V Z Z (aF (aE (aE (aB (aA V Z Z (aF (aP ?_))))))))))))
 refine bN (σ := Nat) (fun k => k ≤ n) (fun k => n - k) (fun k => [(1, .int .i64 n), (2, .pointer (some ⟨b2, 0, none⟩)), (5, .int .i64 (r.total ^ k)), (6, .int .i64 k)])
  (fun _ => [.pt b2 [.int .i64 r.radius, .int .i64 r.unit, .int .i64 r.clicks, .int .i64 r.total, .slice ag r.group.length cg, .slice ad r.drifts.length cd, .slice af r.first.length cf, .slice an r.next.length cn] 34]) 0 O ⟨rfl, rfl, by rw [Int.pow_zero]; rfl, rfl, trivial⟩ (Sp.refl _) ?_
 intro k hk K hK
 (refine aE (aE (aB ?_)); (iterate 3 refine aA V Z Z ?_); refine aF ?_)
 refine dD Z (fun hc => ?_) (fun hc => ?_)
 ·have hk : k < n := by omega
  have h1 := tot8 r hr (k + 1) O
  rw [Int.pow_succ] at h1
  (refine aR (aE (aP (aB (aA V Z Z (aA V Z Z ?_))))); refine aH V Z Z Z ?_; refine bB V Z Z Z Z O O (aA V Z Z (aF (bL (aB (aA V Z Z (bB V Z Z Z Z O O (aA V Z Z (aF ?_)))))))))
  exact hK (k + 1) _ _ O O ⟨Z, Z, by rw [Int.pow_succ]; rfl, Z, trivial⟩ U
 ·obtain rfl : k = n := by omega
  (refine bJ _ Z (aE (aB (aA V Z Z (aA V Z Z (aF (aW ?_)))))))
  refine aX V Z U fun w hs => ?_
  exact ⟨Z, hs.chg0⟩
end Go.Proofs.YtohlillcaadidaaGreat

/- Walks of the reference: a range's error. -/
namespace Go.Proofs.YtohlillcaadidaaGreat
open Go Go.Eng

theorem iC (r : Rg) : cntB r = true ↔ (1 ≤ r.group.length ∧ r.group.length ≤ 21 ∧ r.group.length % 2 = 1 ∧ 1 ≤ r.drifts.length ∧ r.drifts.length ≤ 5 ∧ r.first.length = r.drifts.length ∧ r.next.length = r.drifts.length ∧ ∀ l ∈ r.next, l.length = r.drifts.length) := by
 simp only [cntB, inB, Bool.and_eq_true, Bool.not_eq_true', decide_eq_true_eq, decide_eq_false_iff_not, List.all_eq_true, Bool.and_true]
 constructor
 ·rintro ⟨⟨⟨⟨⟨h1, h2⟩, h3⟩, h4⟩, h5⟩, h6⟩
  exact ⟨by omega, by omega, by omega, by omega, by omega, by omega, by omega, fun l hl => by have := h6 l hl; omega⟩
 ·rintro ⟨h1, h2, h3, h4, h5, h6, h7, h8⟩
  exact ⟨⟨⟨⟨⟨by omega, by omega⟩, by omega⟩, by omega⟩, by omega⟩, fun l hl => by have := h8 l hl; omega⟩
theorem ck2 {r : Rg} (h : cntB r = true → False) : checkV r = 2 := by
 unfold checkV
 cases hc : cntB r with
 | true => exact (h hc).elim
 | false => rfl
theorem ck3 {r : Rg} (h1 : cntB r = true) (h : iT r = true → lI r = true → lM r = true → False) : checkV r = 3 := by
 unfold checkV
 rw [h1]
 cases h2 : iT r <;> cases h3 : lI r <;> cases h4 : lM r <;> first | rfl | exact (h h2 h3 h4).elim
theorem ck7 {r : Rg} (h1 : cntB r = true) (h2 : iT r = true) (h3 : lI r = true) (h4 : lM r = true) (h : cnfB r = true → False) : checkV r = 7 := by
 unfold checkV
 rw [h1, h2, h3, h4]
 cases hc : cnfB r with
 | true => exact (h hc).elim
 | false => rfl
theorem ck0 {r : Rg} (h1 : cntB r = true) (h2 : iT r = true) (h3 : lI r = true) (h4 : lM r = true) (h : cnfB r = true) : checkV r = 0 := by
 unfold checkV
 rw [h1, h2, h3, h4, h]
 rfl
theorem eI {α : Type} {p : α → Bool} {l : List α} {k : Nat} (hk : k < l.length) (h : (l.take k).all p = true) (hp : p l[k] = true) : (l.take (k + 1)).all p = true := by
 rw [List.take_succ_eq_append_getElem hk, List.all_append, h]
 simp [hp]
set_option maxHeartbeats 4000000 in
theorem gI (w : World) (cs : List Value) (r : Rg) (h : RgC w cs r) (hsm : r.Small) : Ca Tryz.prog 60 [.agg cs.toArray] w fun v w' => v = .int .i64 (checkV r) ∧ Chg [] w w' := by
 obtain ⟨lo, hi, ag, cg, ad, cd, af, cf, an, cn, rfl, hg, hdr, hf, hn⟩ := h
 have s1 := hsm.group
 have s2 := hsm.drifts
 have s3 := hsm.first
 have s4 := hsm.next
 obtain ⟨_, _, hsl, hsn⟩ := RdII.outI hn
 cases hsl
 refine dB (Sat.nil w M0) Tryz.func60 Z (by simp [Tryz.ntmps60]) ?_
 (refine aE (aB ?_))
 refine bG Z Z (fun b1 => ?_)
 (refine aA V Z Z (aF (aE (aB (aA V Z Z ?_)))); refine aH V Z Z Z ?_; refine aA V Z Z (aA V Z Z (aF (aE (aE (aB (aA V Z Z ?_)))))); refine aH V Z Z Z ?_; (iterate 3 refine aA V Z Z ?_))
 refine bU Z Z (fun hc => ?_) (fun hc => ?_)
 ·((iterate 4 refine bA Z Z Z ?_); refine aA V Z Z (aA V Z Z ?_); (iterate 5 refine bA Z Z Z ?_); refine aA V Z Z (aA V Z Z (bA Z Z Z (bA Z Z Z (aA V Z Z (aA V Z Z (bA Z Z Z (bA Z Z Z (aA V Z Z (aA V Z Z ?_))))))))); (iterate 5 refine bA Z Z Z ?_); refine aA V Z Z (aA V Z Z ?_); (iterate 5 refine bA Z Z Z ?_); refine aA V Z Z (aF (aM Z (aE (aB (aA V Z Z (aF (aW ?_))))))))
  refine aX V Z U fun w hs => ?_
  exact ⟨by rw [ck2 (fun h => by have := (iC r).1 h; simp at hc; omega)]; rfl, hs.chg0⟩
 have c1 := of_decide_eq_false hc
 clear hc
 (refine aC Z (aA V Z Z (aC Z ?_)); refine aH V Z Z Z ?_; refine aC Z (aA V Z Z (aC Z ?_)); (iterate 3 refine aA V Z Z ?_))
 refine bU Z Z (fun hc => ?_) (fun hc => ?_)
 ·((iterate 5 refine bA Z Z Z ?_); refine aA V Z Z (aA V Z Z (bA Z Z Z (bA Z Z Z (aA V Z Z (aA V Z Z (bA Z Z Z (bA Z Z Z (aA V Z Z (aA V Z Z ?_))))))))); (iterate 5 refine bA Z Z Z ?_); refine aA V Z Z (aA V Z Z ?_); (iterate 5 refine bA Z Z Z ?_); refine aA V Z Z (aF (aM Z (aE (aB (aA V Z Z (aF (aW ?_))))))))
  refine aX V Z U fun w hs => ?_
  exact ⟨by rw [ck2 (fun h => by have := (iC r).1 h; simp at hc; omega)]; rfl, hs.chg0⟩
 have c2 := of_decide_eq_false hc
 clear hc
 (refine aC Z (aA V Z Z (aC Z ?_)); refine aH V Z Z Z ?_; refine aC Z (aA V Z Z (aC Z (dE Z Z Z O O (aC Z ?_)))); (iterate 3 refine aA V Z Z ?_))
 refine bU Z Z (fun hc => ?_) (fun hc => ?_)
 ·(refine bA Z Z Z (bA Z Z Z (aA V Z Z (aA V Z Z (bA Z Z Z (bA Z Z Z (aA V Z Z (aA V Z Z ?_))))))); (iterate 5 refine bA Z Z Z ?_); refine aA V Z Z (aA V Z Z ?_); (iterate 5 refine bA Z Z Z ?_); refine aA V Z Z (aF (aM Z (aE (aB (aA V Z Z (aF (aW ?_))))))))
  refine aX V Z U fun w hs => ?_
  exact ⟨by rw [ck2 (fun h => by have := (iC r).1 h; simp at hc; omega)]; rfl, hs.chg0⟩
 simp at hc
 have c3 := hc
 clear hc
 (refine aC Z (aA V Z Z (aC Z ?_)); (iterate 3 refine aA V Z Z ?_))
 refine bU Z Z (fun hc => ?_) (fun hc => ?_)
 ·(refine bA Z Z Z (bA Z Z Z (aA V Z Z (aA V Z Z ?_))); (iterate 5 refine bA Z Z Z ?_); refine aA V Z Z (aA V Z Z ?_); (iterate 5 refine bA Z Z Z ?_); refine aA V Z Z (aF (aM Z (aE (aB (aA V Z Z (aF (aW ?_))))))))
  refine aX V Z U fun w hs => ?_
  exact ⟨by rw [ck2 (fun h => by have := (iC r).1 h; simp at hc; omega)]; rfl, hs.chg0⟩
 have c4 := of_decide_eq_false hc
 clear hc
 (refine aC Z (aA V Z Z (aC Z ?_)); (iterate 3 refine aA V Z Z ?_))
 refine bU Z Z (fun hc => ?_) (fun hc => ?_)
 ·((iterate 5 refine bA Z Z Z ?_); refine aA V Z Z (aA V Z Z ?_); (iterate 5 refine bA Z Z Z ?_); refine aA V Z Z (aF (aM Z (aE (aB (aA V Z Z (aF (aW ?_))))))))
  refine aX V Z U fun w hs => ?_
  exact ⟨by rw [ck2 (fun h => by have := (iC r).1 h; simp at hc; omega)]; rfl, hs.chg0⟩
 have c5 := of_decide_eq_false hc
 clear hc
 (refine aC Z (aA V Z Z (aC Z ?_)); refine aH V Z Z Z ?_; refine aC Z (aA V Z Z (aC Z (aA V Z Z (aC Z ?_)))); (iterate 3 refine aA V Z Z ?_))
 refine bU Z Z (fun hc => ?_) (fun hc => ?_)
 ·((iterate 5 refine bA Z Z Z ?_); refine aA V Z Z (aF (aM Z (aE (aB (aA V Z Z (aF (aW ?_))))))))
  refine aX V Z U fun w hs => ?_
  exact ⟨by rw [ck2 (fun h => by have := (iC r).1 h; simp at hc; omega)]; rfl, hs.chg0⟩
 simp at hc
 have c6 := hc
 clear hc
 (refine aC Z (aA V Z Z (aC Z ?_)); refine aH V Z Z Z ?_; refine aC Z (aA V Z Z (aC Z (aA V Z Z (aC Z (aA V Z Z (aA V Z Z (aF ?_))))))))
 refine iN Z (fun hc => ?_) (fun hc => ?_)
 ·(refine aE (aB (aA V Z Z (aF (aW ?_)))))
  refine aX V Z U fun w hs => ?_
  exact ⟨by rw [ck2 (fun h => by have := (iC r).1 h; omega)]; rfl, hs.chg0⟩
 have c7 : r.next.length = r.drifts.length := by omega
 clear hc
 (refine aR (aE (aE (aB (aA V Z Z (aF (aP ?_)))))))
 refine bN (σ := Nat) (fun k => k ≤ r.next.length ∧ (r.next.take k).all (fun l => decide (l.length = r.drifts.length)) = true) (fun k => r.next.length - k) (fun k => [(1, .pointer (some ⟨b1, 0, none⟩)), (3, .int .i64 r.drifts.length), (4, .int .i64 k)])
  (fun _ => [.pt b1 [.int .i64 r.radius, .int .i64 r.unit, .int .i64 r.clicks, .int .i64 r.total, .slice ag r.group.length cg, .slice ad r.drifts.length cd, .slice af r.first.length cf, .slice an r.next.length cn] 34]) 0 ⟨by omega, rfl⟩ ⟨rfl, rfl, rfl, trivial⟩ (Sp.refl _) ?_
 rintro k ⟨hk, hall⟩ K hK
 (refine aE (aE (aB ?_)); (iterate 3 refine aA V Z Z ?_); refine aF ?_)
 refine dD Z (fun hc => ?_) (fun hc => ?_)
 ·have hk2 : k < r.next.length := by omega
  clear hc
  obtain ⟨bs, off, rfl⟩ := hsn O
  obtain ⟨ar, cr, hrow, hcell⟩ := hn.row k hk2
  (refine aR (aE (aP (aE (aB (aA V Z Z ?_))))); refine aH V Z Z Z ?_; refine aA V Z Z ?_)
  refine bW V Z Z Z Z Z O O ?_
  refine cI (v := .slice ar r.next[k].length cr) V Z Z Z (fun w' hs => hcell w' hs.chg0) ?_
  ((iterate 3 refine aA V Z Z ?_); refine aF ?_)
  refine iN Z (fun hc => ?_) (fun hc => ?_)
  ·(refine aE (aB (aA V Z Z (aF (aW ?_)))))
   refine aX V Z U fun w hs => ?_
   exact ⟨by rw [ck2 (fun h => by have := ((iC r).1 h).2.2.2.2.2.2.2 _ (List.getElem_mem hk2); omega)]; rfl, hs.chg0⟩
  ·(refine aR (bL (aB (aA V Z Z (bB V Z Z Z Z O O (aA V Z Z (aF ?_)))))))
   exact hK (k + 1) _ _ ⟨by omega, eI hk2 hall (by simp; omega)⟩ O ⟨Z, Z, Z, trivial⟩ U
 obtain rfl : k = r.next.length := by omega
 rw [List.take_length] at hall
 clear hc hK
 have hrows : ∀ l ∈ r.next, l.length = r.drifts.length := fun l hl => by simpa using List.all_eq_true.1 hall l hl
 have cnt : cntB r = true := (iC r).2 ⟨by omega, by omega, by omega, by omega, by omega, by omega, by omega, hrows⟩
 (refine bJ _ Z (aE (aE (aB (aA V Z Z ?_)))); refine aH V Z Z Z ?_)
 refine aJ (val := .bool (!(inB r.radius 0 200))) V Z Z Z Z (fun w hs => ?_) ?_; exact fO r.radius 0 200 w
 (refine aA V Z Z ?_)
 refine bU Z Z (fun hc => ?_) (fun hc => ?_)
 ·((iterate 3 refine bA Z Z Z ?_); refine aA V Z Z (aA V Z Z ?_); (iterate 3 refine bA Z Z Z ?_); refine aA V Z Z (aA V Z Z ?_); (iterate 3 refine bA Z Z Z ?_); refine aA V Z Z (aA V Z Z ?_); (iterate 3 refine bA Z Z Z ?_); refine aA V Z Z (aA V Z Z ?_); (iterate 3 refine bA Z Z Z ?_); refine aA V Z Z (aA V Z Z ?_); (iterate 5 refine bA Z Z Z ?_); refine aA V Z Z (aF (aM Z (aE (aB (aA V Z Z (aF (aW ?_))))))))
  refine aX V Z U fun w hs => ?_
  exact ⟨by rw [ck3 cnt (fun h _ _ => by simp at hc; simp [iT, hc] at h)]; rfl, hs.chg0⟩
 simp at hc
 have d1 := hc
 clear hc
 (refine aC Z (aA V Z Z (aC Z ?_)); refine aH V Z Z Z ?_; refine aC Z ?_)
 refine aJ (val := .bool (!(inB r.unit 1 20))) V Z Z Z Z (fun w hs => ?_) ?_; exact fO r.unit 1 20 w
 (refine aA V Z Z (aA V Z Z ?_))
 refine bU Z Z (fun hc => ?_) (fun hc => ?_)
 ·((iterate 3 refine bA Z Z Z ?_); refine aA V Z Z (aA V Z Z ?_); (iterate 3 refine bA Z Z Z ?_); refine aA V Z Z (aA V Z Z ?_); (iterate 3 refine bA Z Z Z ?_); refine aA V Z Z (aA V Z Z ?_); (iterate 3 refine bA Z Z Z ?_); refine aA V Z Z (aA V Z Z ?_); (iterate 5 refine bA Z Z Z ?_); refine aA V Z Z (aF (aM Z (aE (aB (aA V Z Z (aF (aW ?_))))))))
  refine aX V Z U fun w hs => ?_
  exact ⟨by rw [ck3 cnt (fun h _ _ => by simp at hc; simp [iT, hc] at h)]; rfl, hs.chg0⟩
 simp at hc
 have d2 := hc
 clear hc
 (refine aC Z (aA V Z Z (aC Z ?_)); refine aH V Z Z Z ?_; refine aC Z ?_)
 refine aJ (val := .bool (!(inB r.clicks 0 6))) V Z Z Z Z (fun w hs => ?_) ?_; exact fO r.clicks 0 6 w
 (refine aA V Z Z (aA V Z Z ?_))
 refine bU Z Z (fun hc => ?_) (fun hc => ?_)
 ·((iterate 3 refine bA Z Z Z ?_); refine aA V Z Z (aA V Z Z ?_); (iterate 3 refine bA Z Z Z ?_); refine aA V Z Z (aA V Z Z ?_); (iterate 3 refine bA Z Z Z ?_); refine aA V Z Z (aA V Z Z ?_); (iterate 5 refine bA Z Z Z ?_); refine aA V Z Z (aF (aM Z (aE (aB (aA V Z Z (aF (aW ?_))))))))
  refine aX V Z U fun w hs => ?_
  exact ⟨by rw [ck3 cnt (fun h _ _ => by simp at hc; simp [iT, hc] at h)]; rfl, hs.chg0⟩
 simp at hc
 have d3 := hc
 clear hc
 (refine aC Z (aA V Z Z (aC Z ?_)); refine aH V Z Z Z ?_; refine aC Z ?_)
 refine aJ (val := .bool (!(inB r.total 1 12))) V Z Z Z Z (fun w hs => ?_) ?_; exact fO r.total 1 12 w
 (refine aA V Z Z (aA V Z Z ?_))
 refine bU Z Z (fun hc => ?_) (fun hc => ?_)
 ·((iterate 3 refine bA Z Z Z ?_); refine aA V Z Z (aA V Z Z ?_); (iterate 3 refine bA Z Z Z ?_); refine aA V Z Z (aA V Z Z ?_); (iterate 5 refine bA Z Z Z ?_); refine aA V Z Z (aF (aM Z (aE (aB (aA V Z Z (aF (aW ?_))))))))
  refine aX V Z U fun w hs => ?_
  exact ⟨by rw [ck3 cnt (fun h _ _ => by simp at hc; simp [iT, hc] at h)]; rfl, hs.chg0⟩
 simp at hc
 have rng1 : iT r = true := by simp [iT, d1, d2, d3, hc]
 have htot := bH.1 hc
 clear d1 d2 d3 hc
 (refine aC Z (aA V Z Z (aC Z ?_)); refine aH V Z Z Z ?_; refine aC Z ?_)
 refine aJ (val := .bool (!(r.drifts.all fun n => inB n (-300) 300))) V Z Z Z Z (fun w hs => ?_) ?_; exact iX w lo hi _ r.drifts (-300) 300 (RdE.keep hdr hs.chg0) O
 (refine aA V Z Z (aA V Z Z ?_))
 refine bU Z Z (fun hc => ?_) (fun hc => ?_)
 ·((iterate 3 refine bA Z Z Z ?_); refine aA V Z Z (aA V Z Z ?_); (iterate 5 refine bA Z Z Z ?_); refine aA V Z Z (aF (aM Z (aE (aB (aA V Z Z (aF (aW ?_))))))))
  refine aX V Z U fun w hs => ?_
  exact ⟨by rw [ck3 cnt (fun _ h _ => by unfold lI at h; rw [Bool.and_eq_true] at h; rw [h.1] at hc; cases hc)]; rfl, hs.chg0⟩
 rw [Bool.not_eq_false'] at hc
 have d1 := hc
 clear hc
 (refine aC Z (aA V Z Z (aC Z ?_)); refine aH V Z Z Z ?_; refine aC Z ?_)
 refine aJ (val := .bool (!(r.group.all fun n => inB n 0 100))) V Z Z Z Z (fun w hs => ?_) ?_; exact iX w lo hi _ r.group 0 100 (RdE.keep hg hs.chg0) O
 (refine aA V Z Z (aA V Z Z ?_))
 refine bU Z Z (fun hc => ?_) (fun hc => ?_)
 ·((iterate 5 refine bA Z Z Z ?_); refine aA V Z Z (aF (aM Z (aE (aB (aA V Z Z (aF (aW ?_))))))))
  refine aX V Z U fun w hs => ?_
  exact ⟨by rw [ck3 cnt (fun _ h _ => by unfold lI at h; rw [Bool.and_eq_true] at h; rw [h.2] at hc; cases hc)]; rfl, hs.chg0⟩
 rw [Bool.not_eq_false'] at hc
 have rng2 : lI r = true := by simp only [lI, Bool.and_eq_true]; exact ⟨d1, hc⟩
 have hgr : ∀ x ∈ r.group, -1000000 ≤ x ∧ x ≤ 1000000 := fun x hx => by
  have := bH.1 (List.all_eq_true.1 hc x hx)
  omega
 clear d1 hc
 (refine aC Z (aA V Z Z (aC Z ?_)); refine aH V Z Z Z ?_; refine aC Z (aA V Z Z (aC Z ?_)); refine aH V Z Z Z ?_; refine aC Z ?_)
 refine aJ (val := .bool (!(r.first.all fun n => inB n 0 r.total))) V Z Z Z Z (fun w hs => ?_) ?_; exact iX w lo hi _ r.first 0 r.total (RdE.keep hf hs.chg0) O
 (refine aA V Z Z (aF ?_))
 refine jO Z (fun hc => ?_) (fun hc => ?_)
 ·(refine aE (aB (aA V Z Z (aF (aW ?_)))))
  refine aX V Z U fun w hs => ?_
  exact ⟨by rw [ck3 cnt (fun _ _ h => by unfold lM at h; rw [Bool.and_eq_true] at h; rw [h.1] at hc; cases hc)]; rfl, hs.chg0⟩
 have d1 : (r.first.all fun n => inB n 0 r.total) = true := by simpa using hc
 clear hc
 have hfr : ∀ x ∈ r.first, -1000000 ≤ x ∧ x ≤ 1000000 := fun x hx => by
  have := bH.1 (List.all_eq_true.1 d1 x hx)
  omega
 (refine aR (aE (aE (aB (aA V Z Z (aF (aP ?_)))))))
 refine bN (σ := Nat) (fun k => k ≤ r.next.length ∧ (r.next.take k).all (fun l => l.all (fun n => inB n 0 r.total)) = true) (fun k => r.next.length - k) (fun k => [(1, .pointer (some ⟨b1, 0, none⟩)), (3, .int .i64 r.drifts.length), (5, .int .i64 k)])
  (fun _ => [.pt b1 [.int .i64 r.radius, .int .i64 r.unit, .int .i64 r.clicks, .int .i64 r.total, .slice ag r.group.length cg, .slice ad r.drifts.length cd, .slice af r.first.length cf, .slice an r.next.length cn] 34]) 0 ⟨by omega, rfl⟩ ⟨rfl, rfl, rfl, trivial⟩ (Sp.refl _) ?_
 rintro k ⟨hk, hall⟩ K hK
 (refine aE (aE (aB ?_)); (iterate 3 refine aA V Z Z ?_); refine aF ?_)
 refine dD Z (fun hc => ?_) (fun hc => ?_)
 ·have hk2 : k < r.next.length := by omega
  clear hc
  obtain ⟨bs, off, rfl⟩ := hsn O
  obtain ⟨ar, cr, hrow, hcell⟩ := hn.row k hk2
  have hrl := hrows _ (List.getElem_mem hk2)
  (refine aR (aE (aP (aE ?_))))
  refine bX _ [] (Sp.refl _) qR qR ?_
  (refine aD V Z Z Z ?_; refine aT V Z Z Z ?_; refine aD V Z Z Z ?_)
  refine bF V Z Z Z Z Z O O ?_
  refine bI (v := .slice ar r.next[k].length cr) V Z Z Z (fun w' hs => hcell w' hs.chg0) ?_
  (refine aD V Z Z Z ?_; refine aT V Z Z Z ?_)
  refine aS (val := .bool (!(r.next[k].all fun n => inB n 0 r.total))) V Z Z Z Z (fun w hs => ?_) ?_; exact iX w lo hi _ r.next[k] 0 r.total (RdE.keep hrow hs.chg0) O
  (refine aK ?_)
  refine jO Z (fun hc => ?_) (fun hc => ?_)
  ·(refine aE (aB (aA V Z Z (aF (aW ?_)))))
   refine aX V Z U fun w hs => ?_
   exact ⟨by rw [ck3 cnt (fun _ _ h => by unfold lM at h; rw [Bool.and_eq_true] at h; rw [List.all_eq_true.1 h.2 _ (List.getElem_mem hk2)] at hc; cases hc)]; rfl, hs.chg0⟩
  ·(refine aR (bL (aB (aA V Z Z (bB V Z Z Z Z O O (aA V Z Z (aF ?_)))))))
   exact hK (k + 1) _ _ ⟨by omega, eI hk2 hall (by simpa using hc)⟩ O ⟨Z, Z, Z, trivial⟩ U
 obtain rfl : k = r.next.length := by omega
 rw [List.take_length] at hall
 clear hc hK
 have rng3 : lM r = true := by simp only [lM, Bool.and_eq_true]; exact ⟨d1, hall⟩
 have hnr : ∀ l ∈ r.next, l.length < 1000000 ∧ ∀ x ∈ l, -1000000 ≤ x ∧ x ≤ 1000000 := fun l hl => ⟨by have := hrows l hl; omega, fun x hx => by
  have := bH.1 (List.all_eq_true.1 (List.all_eq_true.1 hall l hl) x hx)
  omega⟩
 clear hall d1
 (refine bJ _ Z (aE (aE ?_)))
 refine bX _ [] (Sp.refl _) qR qR ?_
 (refine aD V Z Z Z ?_; refine aT V Z Z Z ?_)
 refine aS (val := .int .i64 r.group.sum) V Z Z Z Z (fun w hs => ?_) ?_; exact fI w lo hi _ r.group (RdE.keep hg hs.chg0) O hgr
 refine aS (val := .bool (!(inB r.group.sum 1 100))) V Z Z Z Z (fun w hs => ?_) ?_; exact fO r.group.sum 1 100 w
 (refine aD V Z Z Z ?_)
 refine jA Z Z (fun hc => ?_) (fun hc => ?_)
 ·((iterate 6 refine eD Z Z Z ?_); refine aD V Z Z Z (aK (aM Z (aE (aB (aA V Z Z (aF (aW ?_))))))))
  refine aX V Z U fun w hs => ?_
  exact ⟨by rw [ck7 cnt rng1 rng2 rng3 (fun h => by simp only [cnfB, Bool.and_eq_true] at h; rw [h.1.1] at hc; cases hc)]; rfl, hs.chg0⟩
 have e1 : inB r.group.sum 1 100 = true := by simpa using hc
 clear hc
 (refine aG Z (aD V Z Z Z (aG Z ?_)); refine aT V Z Z Z ?_; refine aG Z ?_)
 refine aS (val := .int .i64 r.first.sum) V Z Z Z Z (fun w hs => ?_) ?_; exact fI w lo hi _ r.first (RdE.keep hf hs.chg0) O hfr
 (refine aG Z (aD V Z Z Z (aG Z ?_)); refine aT V Z Z Z ?_; refine aG Z (aD V Z Z Z (aD V Z Z Z (aK ?_))))
 refine iN Z (fun hc => ?_) (fun hc => ?_)
 ·(refine aE (aB (aA V Z Z (aF (aW ?_)))))
  refine aX V Z U fun w hs => ?_
  exact ⟨by rw [ck7 cnt rng1 rng2 rng3 (fun h => by simp only [cnfB, Bool.and_eq_true, decide_eq_true_eq] at h; exact hc h.1.2)]; rfl, hs.chg0⟩
 have e2 : r.first.sum = r.total := by simpa using hc
 clear hc
 (refine aR (aE (aE (aB (aA V Z Z (aF (aP ?_)))))))
 refine bN (σ := Nat) (fun k => k ≤ r.next.length ∧ (r.next.take k).all (fun l => decide (l.sum = r.total) && true) = true) (fun k => r.next.length - k) (fun k => [(1, .pointer (some ⟨b1, 0, none⟩)), (3, .int .i64 r.drifts.length), (6, .int .i64 k)])
  (fun _ => [.pt b1 [.int .i64 r.radius, .int .i64 r.unit, .int .i64 r.clicks, .int .i64 r.total, .slice ag r.group.length cg, .slice ad r.drifts.length cd, .slice af r.first.length cf, .slice an r.next.length cn] 34]) 0 ⟨by omega, rfl⟩ ⟨rfl, rfl, rfl, trivial⟩ (Sp.refl _) ?_
 rintro k ⟨hk, hall⟩ K hK
 (refine aE (aE (aB ?_)); (iterate 3 refine aA V Z Z ?_); refine aF ?_)
 refine dD Z (fun hc => ?_) (fun hc => ?_)
 ·have hk2 : k < r.next.length := by omega
  clear hc
  obtain ⟨bs, off, rfl⟩ := hsn O
  obtain ⟨ar, cr, hrow, hcell⟩ := hn.row k hk2
  have hrl := hnr _ (List.getElem_mem hk2)
  (refine aR (aE (aP (aE ?_))))
  refine bX _ [] (Sp.refl _) qR qR ?_
  (refine aD V Z Z Z ?_; refine aT V Z Z Z ?_; refine aD V Z Z Z ?_)
  refine bF V Z Z Z Z Z O O ?_
  refine bI (v := .slice ar r.next[k].length cr) V Z Z Z (fun w' hs => hcell w' hs.chg0) ?_
  refine aS (val := .int .i64 r.next[k].sum) V Z Z Z Z (fun w hs => ?_) ?_; exact fI w lo hi _ r.next[k] (RdE.keep hrow hs.chg0) hrl.1 hrl.2
  (refine aD V Z Z Z ?_; refine aT V Z Z Z ?_; refine aD V Z Z Z (aK ?_))
  refine iN Z (fun hc => ?_) (fun hc => ?_)
  ·(refine aE (aB (aA V Z Z (aF (aW ?_)))))
   refine aX V Z U fun w hs => ?_
   exact ⟨by rw [ck7 cnt rng1 rng2 rng3 (fun h => by simp only [cnfB, Bool.and_eq_true] at h; have := List.all_eq_true.1 h.2 _ (List.getElem_mem hk2); simp at this; exact hc this)]; rfl, hs.chg0⟩
  ·(refine aR (bL (aB (aA V Z Z (bB V Z Z Z Z O O (aA V Z Z (aF ?_)))))))
   exact hK (k + 1) _ _ ⟨by omega, eI hk2 hall (by simpa using hc)⟩ O ⟨Z, Z, Z, trivial⟩ U
 obtain rfl : k = r.next.length := by omega
 rw [List.take_length] at hall
 clear hc hK
 (refine bJ _ Z (aE (aB (aA V Z Z (aF (aW ?_))))))
 refine aX V Z U fun w hs => ?_
 exact ⟨by rw [ck0 cnt rng1 rng2 rng3 (by simp only [cnfB, Bool.and_eq_true, decide_eq_true_eq]; exact ⟨⟨e1, e2⟩, hall⟩)]; rfl, hs.chg0⟩
end Go.Proofs.YtohlillcaadidaaGreat

/- The engine, part B6: other pieces for the same memory. -/
namespace Go.Eng
open Go Go.RowKit

section
variable {P : Program} {T : Tab}
variable {ro : Cx} {n n' : Nat} {F : Fin} {w0 : World} {M : Nat → Prop} {k : List It} {ops : Array Oper} {rest : List Oper} {e : Env} {H H' Hq L R : List Ck}

theorem fD (hc : ∀ w, Sat w0 M H w → Sat w0 M H' w) (h : Q P ro n F w0 M k e H') : Q P ro n F w0 M k e H := .mk fun w hs => h.h w (hc w hs)
theorem ql_conv (hc : ∀ w, Sat w0 M H w → Sat w0 M H' w) (h : QL P ro n F w0 M k ops rest e H') : QL P ro n F w0 M k ops rest e H := .mk fun w hs => h.h w (hc w hs)

theorem lS {p : Prop} (hp : ∀ w, Sat w0 M H w → p) (h : p → Q P ro n F w0 M k e H) : Q P ro n F w0 M k e H := .mk fun w hs => (h (hp w hs)).h w hs
theorem mB {p : Prop} (hp : ∀ w, Sat w0 M H w → p) (h : p → QL P ro n F w0 M k ops rest e H) : QL P ro n F w0 M k ops rest e H := .mk fun w hs => (h (hp w hs)).h w hs
theorem Blk.rd {w : World} {b m : Nat} {cs : List Value} {t : TypeId} (h : Blk w b cs t) (hl : cs.length = m) (c : Nat) : Rd w b (b + 1) (.slice (some ⟨b, 0, none⟩) m c) 1 m cs :=
 ⟨by omega, .inr ⟨b, 0, c, rfl, fun _ => ⟨Nat.le_refl _, Nat.lt_succ_self _, h.lt⟩, fun j _ => by rw [Blk.cell h]; simp⟩⟩
theorem oV : ∀ (es : List Value), (∀ e ∈ es, dY e = true) → cellsOf es = es
 | [], _ => rfl
 | e :: es, h => by
  have h1 := oV es (fun x hx => h x (List.mem_cons_of_mem _ hx))
  have h2 := h e List.mem_cons_self
  have h3 : e.cells.toList = [e] := by cases e <;> first | rfl | simp [dY] at h2
  simp only [cellsOf, List.flatMap_cons] at h1 ⊢
  rw [h1, h3]
  rfl
/-- Elements of one cell each. -/
theorem RdE.one {w : World} {lo hi : Nat} {v : Value} {es : List Value} (h : Rd w lo hi v 1 es.length es) (h1 : ∀ e ∈ es, dY e = true) : RdE w lo hi v 1 es :=
 ⟨by rw [oV es h1]; exact h, fun e he => by have := h1 e he; cases e <;> first | rfl | simp [dY] at this⟩

theorem Sat.ownil {w : World} (h : Sat w0 M H w) (t sz : Nat) : Sat w0 M (.ow (.slice none 0 0) t sz 0 [] :: H) w :=
 h.add (Chg.refl _ _) (own_nil _ _ _ _) (fun b hb => by simp [Ck.D, Value.ownBlock] at hb)

theorem Sat.pt_ow {w : World} {b : Nat} {cs : List Value} {t sz m : Nat} (hl : cs.length = m * sz) (hm : m ≤ 1000000) (h : Sat w0 M (.pt b cs t :: R) w) : Sat w0 M (.ow (.slice (some ⟨b, 0, none⟩) m m) t sz m cs :: R) w := by
 have hb : Blk w b cs t := h.blk List.mem_cons_self
 refine h.rep .z (Chg.refl [] w) (by simp) ⟨hl, .inr ⟨b, m, cs.toArray, Z, Nat.zero_le _, hb, Nat.le_refl _, by simp only [maxLen]; omega, by simpa using hl, ?_⟩⟩ (fun x hx => ?_)
 ·rw [← hl]; simp
 ·have hx' : x = b := by simpa [Ck.D, Value.ownBlock, eq_comm] using hx
  subst hx'
  exact ⟨.inl rfl, hb.lt⟩

theorem Sat.un_perm {w : World} {L L' : List Ck} (hp : L.Perm L') (h : Sat w0 M (un L :: R) w) : Sat w0 M (un L' :: R) w :=
 Sat.un_iff.2 ((Sat.un_iff.1 h).perm (hp.append_right R))
theorem Sat.un_in {w : World} {c : Ck} (h : Sat w0 M (c :: un L :: R) w) : Sat w0 M (un (c :: L) :: R) w := by
 have h1 : Sat w0 M (un L :: c :: R) w := h.perm (.swap _ _ _)
 refine Sat.un_iff.2 ((Sat.un_iff.1 h1).perm ?_)
 exact List.perm_middle
theorem Sat.un_out {w : World} {c : Ck} (h : Sat w0 M (un (c :: L) :: R) w) : Sat w0 M (c :: un L :: R) w := by
 have h1 : Sat w0 M (L ++ c :: R) w := (Sat.un_iff.1 h).perm List.perm_middle.symm
 exact (Sat.un_iff.2 h1).perm (.swap _ _ _)
theorem Sat.un_nil {w : World} (h : Sat w0 M R w) : Sat w0 M (un [] :: R) w := Sat.un_iff.2 h
theorem Sat.un_mem {w : World} {c : Ck} (h : Sat w0 M H w) (hu : un L ∈ H) (hc : c ∈ L) : c.p w := by
 obtain ⟨h1, _, _⟩ := (h.all (un L) hu : (un L).p w)
 exact h1 c hc
end
end Go.Eng

/- The engine, part B7: structs of numbers and Bools compared; maps. -/
namespace Go.Eng
open Go Go.RowKit

section
variable {P : Program} {T : Tab}

/-! Flat structs: each field is a number or a Bool. -/
def flatF (P : Program) : Nat → List Field → List (Option IntKind) → Bool
 | _, [], [] => true
 | o, f :: fs, k :: ks => !(f.name == "_") && Nat.beq f.offset o && oneB P f.type && (match P.underlying f.type, k with | some (.int q), some q' => kindEq q q' | some .bool, none => true | _, _ => false) && flatF P (o + 1) fs ks
 | _, _, _ => false
def oN (P : Program) (t : Nat) (ks : List (Option IntKind)) : Bool :=
 !(P.stoodInHeld t) && !(P.eqGuardType P.depth t) && (match P.underlying t with | some (.struct fs) => flatF P 0 fs.toList ks | _ => false)
def lJ : List (Option IntKind) → List Value → Bool
 | [], [] => true
 | some k :: ks, .int k' _ :: vs => kindEq k k' && lJ ks vs
 | none :: ks, .bool _ :: vs => lJ ks vs
 | _, _ => false
def eqL : List Value → List Value → Bool
 | .int _ a :: l, .int _ b :: m => decide (a = b) && eqL l m
 | .bool a :: l, .bool b :: m => (a == b) && eqL l m
 | _, _ => true

theorem eO : ∀ l : List Value, eqL l l = true
 | [] => rfl
 | v :: l => by
  cases v <;> simp [eqL, eO l]
theorem eqL_eq : ∀ (ks : List (Option IntKind)) (l m : List Value), lJ ks l = true → lJ ks m = true → eqL l m = true → l = m
 | [], [], [], _, _, _ => rfl
 | [], [], _ :: _, _, h, _ => by simp [lJ] at h
 | [], _ :: _, _, h, _, _ => by simp [lJ] at h
 | k :: ks, [], _, h, _, _ => by cases k <;> simp [lJ] at h
 | k :: ks, _ :: _, [], _, h, _ => by cases k <;> simp [lJ] at h
 | some k :: ks, v :: l, u :: m, h1, h2, h3 => by
  cases v <;> simp [lJ] at h1
  cases u <;> simp [lJ] at h2
  simp [eqL] at h3
  have e1 := pX h1.1
  have e2 := pX h2.1
  rw [h3.1, ← e1, ← e2, eqL_eq ks l m h1.2 h2.2 h3.2]
 | none :: ks, v :: l, u :: m, h1, h2, h3 => by
  cases v <;> simp [lJ] at h1
  cases u <;> simp [lJ] at h2
  simp [eqL] at h3
  rw [h3.1, eqL_eq ks l m h1 h2 h3.2]

theorem oneB_agg {t : Nat} (h : oneB P t = true) (w : World) : (isAgg t).run P w = .ok false w := by
 simp only [oneB, Bool.and_eq_true] at h
 obtain ⟨ha, _⟩ := h
 split at ha <;> first | (cases ha; done) | (rename_i d hd1 hd2 hu; cases d <;> first | exact absurd rfl (hd1 _) | exact absurd rfl (hd2 _ _) | simp [isAgg, run_underlying hu])
theorem run_part1 {t : Nat} (h : oneB P t = true) {xs : Array Value} {o : Nat} {v : Value} (hv : xs[o]? = some v) (w : World) : (part t xs o).run P w = .ok v w := by
 simp [part, oneB_agg h w, hv]

theorem hQ {k : Option IntKind} {ks : List (Option IntKind)} {l : List Value} (h : lJ (k :: ks) l = true) : ∃ v m, l = v :: m ∧ lJ ks m = true ∧ ((∃ q a, k = some q ∧ v = .int q a) ∨ (∃ b, k = none ∧ v = .bool b)) := by
 cases l with
 | nil => cases k <;> simp [lJ] at h
 | cons v m =>
  cases k with
  | none =>
   cases v <;> simp [lJ] at h
   exact ⟨_, _, Z, h, .inr ⟨_, Z, Z⟩⟩
  | some q =>
   cases v <;> simp [lJ] at h
   have := pX h.1
   subst this
   exact ⟨_, _, Z, h.2, .inl ⟨_, _, Z, Z⟩⟩

theorem qM (d : Nat) (w : World) : ∀ (fs : List Field) (ks : List (Option IntKind)) (o : Nat) (xs ys : List Value) (l m : List Value), flatF P o fs ks = true → lJ ks l = true → lJ ks m = true → xs.drop o = l → ys.drop o = m →
  (Op.eqFields (d + 1) xs.toArray ys.toArray fs).run P w = .ok (eqL l m) w
 | [], [], o, xs, ys, l, m, _, hl, hm, _, _ => by
  cases l <;> simp [lJ] at hl
  cases m <;> simp [lJ] at hm
  rfl
 | [], _ :: _, _, _, _, _, _, h, _, _, _, _ => by simp [flatF] at h
 | _ :: _, [], _, _, _, _, _, h, _, _, _, _ => by simp [flatF] at h
 | f :: fs, k :: ks, o, xs, ys, l, m, h, hl, hm, ex, ey => by
  simp only [flatF, Bool.and_eq_true] at h
  obtain ⟨⟨⟨⟨hn, ho⟩, h1⟩, hk⟩, hr⟩ := h
  have ho := Nat.eq_of_beq_eq_true ho
  have hn : f.name ≠ "_" := by simpa using hn
  obtain ⟨v, l', rfl, hl', hv⟩ := hQ hl
  obtain ⟨u, m', rfl, hm', hu⟩ := hQ hm
  have gx : xs.toArray[f.offset]? = some v := by
   rw [ho]
   have := congrArg (fun z => z[0]?) ex
   simpa using this
  have gy : ys.toArray[f.offset]? = some u := by
   rw [ho]
   have := congrArg (fun z => z[0]?) ey
   simpa using this
  have dx : xs.drop (o + 1) = l' := by rw [← List.drop_drop, ex]; rfl
  have dy : ys.drop (o + 1) = m' := by rw [← List.drop_drop, ey]; rfl
  have ih := qM d w fs ks (o + 1) xs ys l' m' hr hl' hm' dx dy
  have key : ∀ c : Bool, (Op.equalIn (d + 1) f.type v u).run P w = .ok c w → (Op.eqFields (d + 1) xs.toArray ys.toArray (f :: fs)).run P w = .ok (c && eqL l' m') w := by
   intro c hc
   simp only [Op.eqFields, if_pos hn, Sem.run_bind, run_part1 h1 gx, run_part1 h1 gy, Result.andThen_ok, hc]
   cases c
   ·simp
   ·simpa using ih
  rcases hv with ⟨q, a, rfl, rfl⟩ | ⟨a, rfl, rfl⟩
  ·rcases hu with ⟨q', b, hq, rfl⟩ | ⟨b, hq, _⟩
   ·cases hq
    split at hk
    ·rename_i q1 q2 hun hq2
     exact (key (a == b) (run_equalIn_int w d f.type q q1 a b hun)).trans (by congr 1)
    ·rename_i hq2; cases hq2
    ·cases hk
   ·cases hq
  ·rcases hu with ⟨q', b, hq, _⟩ | ⟨b, _, rfl⟩
   ·cases hq
   ·split at hk
    ·rename_i hq2; cases hq2
    ·rename_i hun _
     exact key (a == b) (run_equalIn_bool' w d f.type a b hun)
    ·cases hk

theorem mX {t : Nat} {ks : List (Option IntKind)} (h : oN P t ks = true) : P.stoodInHeld t = false ∧ P.eqGuardType P.depth t = false ∧ P.underlying t = some (.struct (P.fieldsOf t)) ∧ flatF P 0 (P.fieldsOf t).toList ks = true := by
 simp only [oN, Bool.and_eq_true, Bool.not_eq_true'] at h
 obtain ⟨⟨h1, h2⟩, h3⟩ := h
 split at h3
 ·rename_i fs hu
  refine ⟨h1, h2, ?_, ?_⟩
  ·simp [Program.fieldsOf, hu]
  ·simpa [Program.fieldsOf, hu] using h3
 ·cases h3

theorem run_eqFlat {t : Nat} {ks : List (Option IntKind)} (h : oN P t ks = true) {xs ys : List Value} (hx : lJ ks xs = true) (hy : lJ ks ys = true) (d : Nat) (w : World) : (Op.equalIn (d + 2) t (.agg xs.toArray) (.agg ys.toArray)).run P w = .ok (eqL xs ys) w := by
 obtain ⟨h1, h2, h3, h4⟩ := mX h
 rw [run_equalIn_agg w (d + 1) t _ _ h3 h1]
 exact qM d w _ ks 0 xs ys xs ys h4 hx hy Z Z

variable {ro : Cx} {n : Nat} {F : Fin} {w0 : World} {M : Nat → Prop} {k : List It} {ops : Array Oper} {rest : List Oper} {e : Env} {H Hq : List Ck}

theorem oS {a : Act} {d t t' : Nat} {x y : Operand} {xs ys : List Value} {ks : List (Option IntKind)} {ty : TypeId} {pos : String} {af : Array Edge} (hf : Fits n e a) (hx : opv e x = some (.agg xs.toArray)) (hy : opv e y = some (.agg ys.toArray)) (hF : oN P t ks = true) (h1 : lJ ks xs = true) (h2 : lJ ks ys = true) (w : World) :
  (execOp a.eval ⟨some d, .binOp .eql t x y t', ty, pos, af, none⟩).run P w = .ok (.value (.bool (eqL xs ys))) w ∧ (execOp a.eval ⟨some d, .binOp .neq t x y t', ty, pos, af, none⟩).run P w = .ok (.value (.bool (!(eqL xs ys)))) w := by
 have e1 := hf.op hx
 have e2 := hf.op hy
 have h3 := run_eqFlat hF h1 h2 9998 w
 have hg := (mX hF).2.1
 constructor <;> simp [execOp, e1, e2, run_eqGuard_agg, hg, run_eql_struct, run_neq_struct, h3]
theorem qD (ks : List (Option IntKind)) {d t t' : Nat} {x y : Operand} {xs ys : List Value} {ty : TypeId} {pos : String} {af : Array Edge} (hF : oN P t ks = true) (hx : opv e x = some (.agg xs.toArray)) (hy : opv e y = some (.agg ys.toArray)) (h1 : lJ ks xs = true) (h2 : lJ ks ys = true) (hd : Nat.blt d n = true)
  (h : QL P ro n F w0 M k ops rest ((d, .bool (eqL xs ys)) :: e) H) : QL P ro n F w0 M k ops (⟨some d, .binOp .eql t x y t', ty, pos, af, none⟩ :: rest) e H := .mk fun w hw =>
 fZ (by simp) hd (fun _ hf => (oS hf hx hy hF h1 h2 w).1) (h.h w hw)
theorem mL (ks : List (Option IntKind)) {d t t' : Nat} {x y : Operand} {xs ys : List Value} {ty : TypeId} {pos : String} {af : Array Edge} (hF : oN P t ks = true) (hx : opv e x = some (.agg xs.toArray)) (hy : opv e y = some (.agg ys.toArray)) (h1 : lJ ks xs = true) (h2 : lJ ks ys = true) (hd : Nat.blt d n = true)
  (h : QL P ro n F w0 M k ops rest ((d, .bool (!(eqL xs ys))) :: e) H) : QL P ro n F w0 M k ops (⟨some d, .binOp .neq t x y t', ty, pos, af, none⟩ :: rest) e H := .mk fun w hw =>
 fZ (by simp) hd (fun _ hf => (oS hf hx hy hF h1 h2 w).2) (h.h w hw)
theorem qf_neF (ks : List (Option IntKind)) {d t t' : Nat} {x y : Operand} {xs ys : List Value} {ty : TypeId} {pos : String} {af : Array Edge} (hF : oN P t ks = true) (hx : opv e x = some (.agg xs.toArray)) (hy : opv e y = some (.agg ys.toArray)) (h1 : lJ ks xs = true) (h2 : lJ ks ys = true) (hd : Nat.blt d n = true)
  (h : QF P ro n F w0 M k ops Hq rest ((d, .bool (!(eqL xs ys))) :: e) H) : QF P ro n F w0 M k ops Hq (⟨some d, .binOp .neq t x y t', ty, pos, af, none⟩ :: rest) e H := .mk fun w hw =>
 eY rfl hd (fun _ hf w' _ => (oS hf hx hy hF h1 h2 w').2) (h.h w hw)

/-! Maps -/
/-- How keys of a type are compared: q says what Go's == does. -/
structure KeyT (P : Program) (kt : TypeId) (K : Value → Prop) (q : Value → Value → Bool) : Prop where
 chk : ∀ empty k w, K k → (Instr.checkKey empty 10000 kt k).run P w = .ok () w
 find : ∀ k es w, K k → (∀ x ∈ es, K x.key) → (Instr.findKey kt k es).run P w = .ok ((es.zipIdx.find? (fun p => q k p.1.key)).map (fun p => (p.2, p.1.val))) w
 eq : ∀ a b, K a → K b → q a b = true → a = b
 refl : ∀ a, K a → q a a = true
 bits : ∀ a, K a → Instr.sameBits 10000 a a = true

/-- A block is a map that is f. -/
def MapAt (w : World) (b : Nat) (K : Value → Prop) (q : Value → Value → Bool) (f : Value → Option Value) : Prop :=
 ∃ es clock, w.heap[b]? = some (.map es clock) ∧ (∀ x ∈ es.toList, K x.key) ∧ ∀ k, K k → (es.toList.find? (fun x => q k x.key)).map (·.val) = f k
def mpP (K : Value → Prop) (q : Value → Value → Bool) (b : Nat) (f : Value → Option Value) : Ck := .gn (· = b) (fun w => MapAt w b K q f)
 (fun _ _ _ ⟨es, clock, h1, h2⟩ hc hn => ⟨es, clock, (hc.block b (Array.getElem?_eq_some_iff.1 h1).1 (hn b rfl)).trans h1, h2⟩)

theorem oC {α : Type} (p : α → Bool) : ∀ (l : List α) (i : Nat), (l.zipIdx i).find? (fun x => p x.1) = ((l.findIdx? p).bind fun j => (l[j]?).map fun a => (a, i + j))
 | [], i => by simp
 | a :: l, i => by
  rw [List.zipIdx_cons, List.find?_cons, List.findIdx?_cons]
  cases h : p a
  ·rw [oC p l (i + 1)]
   simp only [Option.bind_map]
   cases List.findIdx? p l with
   | none => simp
   | some j =>
    simp
    cases l[j]? with
    | none => simp
    | some b => simp; omega
  ·simp

variable {K : Value → Prop} {q : Value → Value → Bool} {kt et mt : TypeId}

theorem kU {w : World} {b : Nat} {f : Value → Option Value} (hK : KeyT P kt K q) (ht : P.underlying mt = some (.map kt et)) {z : Value} (hz : (zeroValue et).run P w = .ok z w) (hm : MapAt w b K q f) {key : Value} (hk : K key) (ok : Bool) :
  (Instr.lookup mt (.map (some b)) key ok).run P w = .ok (if ok then .tuple #[(f key).getD z, .bool (f key).isSome] else (f key).getD z) w := by
 obtain ⟨es, clock, hb, hes, hf⟩ := hm
 have h1 := hK.find key es.toList w hk hes
 have h2 := hf key hk
 have h3 : ((es.toList.zipIdx.find? (fun p => q key p.1.key)).map (fun p => (p.2, p.1.val))).map (·.2) = f key := by
  rw [← h2, oC (fun x : MapEntry => q key x.key), Option.map_map]
  rw [List.find?_eq_bind_findIdx?_getElem?]
  cases List.findIdx? (fun x : MapEntry => q key x.key) es.toList with
  | none => rfl
  | some j => simp only [Option.bind_some]; cases es.toList[j]? <;> rfl
 generalize (es.toList.zipIdx.find? (fun p => q key p.1.key)).map (fun p => (p.2, p.1.val)) = r at h1 h3
 have hg : (getObj b).run P w = .ok (.map es clock) w := by simp [getObj, Sem.run, hb]
 simp only [Instr.lookup, Sem.run_bind, run_underlying ht, Result.andThen_ok, hg, Sem.run_pure, hK.chk _ key w hk, h1]
 cases r with
 | none =>
  simp at h3
  rw [← h3]
  cases ok <;> simp [hz]
 | some p =>
  obtain ⟨i, v⟩ := p
  simp at h3
  rw [← h3]
  cases ok <;> simp

theorem find_mod0 (p : MapEntry → Bool) (g : MapEntry → MapEntry) : ∀ (l : List MapEntry) (i : Nat), (∀ e, l[i]? = some e → p e = false ∧ p (g e) = false) → (l.modify i g).find? p = l.find? p
 | [], i, _ => by simp
 | a :: l, 0, h => by
  have := h a rfl
  simp [List.modify_cons, List.find?_cons, this.1, this.2]
 | a :: l, i + 1, h => by
  have ih := find_mod0 p g l i (fun e he => h e (by simpa using he))
  simp [List.modify_cons, List.find?_cons, ih]
theorem find_mod1 (p : MapEntry → Bool) (g : MapEntry → MapEntry) : ∀ (l : List MapEntry) (i : Nat), l.findIdx? p = some i → (∀ e, l[i]? = some e → p (g e) = true) → (l.modify i g).find? p = (l[i]?).map g
 | [], i, h, _ => by simp at h
 | a :: l, i, h, hg => by
  rw [List.findIdx?_cons] at h
  cases ha : p a with
  | true =>
   rw [ha] at h
   simp at h
   subst h
   have := hg a rfl
   simp [List.modify_cons, List.find?_cons, this]
  | false =>
   rw [ha] at h
   simp at h
   obtain ⟨j, hj, rfl⟩ := h
   have ih := find_mod1 p g l j hj (fun e he => hg e (by simpa using he))
   simp [List.modify_cons, List.find?_cons, ha, ih]

theorem putObj_heap (w : World) (r : Nat) (o : Obj) (h : r < w.heap.size) : (w.putObj r o).heap[r]? = some o := World.putObj_heap_same h

theorem run_mapUpd {w : World} {b : Nat} {f : Value → Option Value} (hK : KeyT P kt K q) (ht : P.underlying mt = some (.map kt et)) (hm : MapAt w b K q f) {key v : Value} (hk : K key) :
  ∃ w', (Instr.mapUpdate mt (.map (some b)) key v).run P w = .ok () w' ∧ MapAt w' b K q (fun x => if q x key then some v else f x) ∧ Chg [b] w w' := by
 obtain ⟨es, clock, hb, hes, hf⟩ := hm
 have hlt : b < w.heap.size := (Array.getElem?_eq_some_iff.1 hb).1
 have h1 := hK.find key es.toList w hk hes
 have hg : (getObj b).run P w = .ok (.map es clock) w := by simp [getObj, Sem.run, hb]
 have hs : ∀ o, (setObj b o).run P w = .ok () (w.putObj b o) := fun o => by simp [setObj, Sem.run, World.putObj, hb]
 rw [oC (fun x : MapEntry => q key x.key)] at h1
 have hfi : ∀ k, (es.toList.find? (fun x => q k x.key)) = (es.toList.findIdx? (fun x => q k x.key)).bind fun i => es.toList[i]? := fun k => List.find?_eq_bind_findIdx?_getElem?
 cases hi : es.toList.findIdx? (fun x => q key x.key) with
 | none =>
  rw [hi] at h1
  simp at h1
  refine ⟨w.putObj b (.map (es.push { key := key, val := v, born := clock }) (clock + 1)), ?_, ⟨es.push { key := key, val := v, born := clock }, clock + 1, putObj_heap w b _ hlt, ?_, fun k hk' => ?_⟩, jL w b _⟩
  ·simp only [Instr.mapUpdate, Sem.run_bind, run_underlying ht, Result.andThen_ok, hg, hK.chk _ key w hk, h1, hs]
  ·intro x hx
   rw [Array.toList_push, List.mem_append] at hx
   rcases hx with hx | hx
   ·exact hes x hx
   ·rw [List.mem_singleton.1 hx]; exact hk
  ·rw [Array.toList_push, List.find?_append]
   by_cases hq : q k key = true
   ·have := hK.eq k key hk' hk hq
    subst this
    rw [hfi, hi]
    simp [hq]
   ·have hq' : q k key = false := by simpa using hq
    simp only [hq', if_false, Bool.false_eq_true]
    rw [← hf k hk']
    cases List.find? (fun x => q k x.key) es.toList <;> simp [hq']
 | some i =>
  have hi0 := hi
  rw [List.findIdx?_eq_some_iff_getElem] at hi
  obtain ⟨hlt2, hqi, _⟩ := hi
  have hki : es.toList[i].key = key := (hK.eq key _ hk (hes _ (List.getElem_mem hlt2)) hqi).symm
  rw [hi0] at h1
  simp only [Option.bind_some, List.getElem?_eq_getElem hlt2, Option.map_some] at h1
  have hki2 : ((es[i]?).map (·.key)).getD key = key := by
   rw [← Array.getElem?_toList, List.getElem?_eq_getElem hlt2]
   simpa using hki
  have hkeep : (Instr.keyThatStays (((es[i]?).map (·.key)).getD key) key).run P w = .ok key w := by
   rw [hki2]
   simp [Instr.keyThatStays, hK.bits key hk]
  refine ⟨w.putObj b (.map (es.modify i fun e => { e with key := key, val := v }) clock), ?_, ⟨es.modify i fun e => { e with key := key, val := v }, clock, putObj_heap w b _ hlt, ?_, fun k hk' => ?_⟩, jL w b _⟩
  ·simp only [Instr.mapUpdate, Sem.run_bind, run_underlying ht, Result.andThen_ok, hg, hK.chk _ key w hk, h1, Nat.zero_add, hkeep, hs]
  ·intro x hx
   rw [Array.toList_modify] at hx
   obtain ⟨j, hj, rfl⟩ := List.getElem_of_mem hx
   rw [List.getElem_modify]
   split
   ·exact hk
   ·exact hes _ (List.getElem_mem _)
  ·rw [Array.toList_modify]
   by_cases hq : q k key = true
   ·have := hK.eq k key hk' hk hq
    subst this
    rw [find_mod1 _ _ _ i hi0 (fun e _ => hq), List.getElem?_eq_getElem hlt2]
    simp [hq]
   ·have hq' : q k key = false := by simpa using hq
    simp only [hq', if_false, Bool.false_eq_true]
    rw [find_mod0 _ _ _ i (fun e he => ?_), hf k hk']
    rw [List.getElem?_eq_getElem hlt2] at he
    cases he
    rw [hki]
    exact ⟨hq', hq'⟩
end
end Go.Eng

/- The engine, part B8: kinds of keys; the operations on maps. -/
namespace Go.Eng
open Go Go.RowKit

section
variable {P : Program} {T : Tab}

theorem fE {e : Env} {t : Nat} {a b : Int} (hl : look e t = some (.int .i64 a)) (h : a = b) : look e t = some (.int .i64 b) := by rw [hl, h]

def eqV : Value → Value → Bool
 | .agg a, .agg b => eqL a.toList b.toList
 | .int _ a, .int _ b => decide (a = b)
 | _, _ => true
def keyF (ks : List (Option IntKind)) (v : Value) : Prop := ∃ xs : List Value, v = .agg xs.toArray ∧ lJ ks xs = true
def keyI (kd : IntKind) (v : Value) : Prop := ∃ a, v = .int kd a

theorem chk_fields (empty : Bool) (d : Nat) (w : World) : ∀ (fs : List Field) (ks : List (Option IntKind)) (o : Nat) (xs : List Value) (l : List Value), flatF P o fs ks = true → lJ ks l = true → xs.drop o = l →
  (forIn (m := Sem) fs PUnit.unit fun f _ => if f.name ≠ "_" then (do
    let v ← part f.type xs.toArray f.offset
    Instr.checkKey empty (d + 1) f.type v
    pure (ForInStep.yield PUnit.unit)) else pure (ForInStep.yield PUnit.unit)).run P w = .ok PUnit.unit w
 | [], [], o, xs, l, _, _, _ => by simp
 | [], _ :: _, _, _, _, h, _, _ => by simp [flatF] at h
 | _ :: _, [], _, _, _, h, _, _ => by simp [flatF] at h
 | f :: fs, k :: ks, o, xs, l, h, hl, ex => by
  simp only [flatF, Bool.and_eq_true] at h
  obtain ⟨⟨⟨⟨hn, ho⟩, h1⟩, hk⟩, hr⟩ := h
  have ho := Nat.eq_of_beq_eq_true ho
  have hn : f.name ≠ "_" := by simpa using hn
  obtain ⟨v, l', rfl, hl', hv⟩ := hQ hl
  have gx : xs.toArray[f.offset]? = some v := by
   rw [ho]
   have := congrArg (fun z => z[0]?) ex
   simpa using this
  have dx : xs.drop (o + 1) = l' := by rw [← List.drop_drop, ex]; rfl
  have ih := chk_fields empty d w fs ks (o + 1) xs l' hr hl' dx
  have hc : (Instr.checkKey empty (d + 1) f.type v).run P w = .ok () w := by
   rcases hv with ⟨q, a, rfl, rfl⟩ | ⟨a, rfl, rfl⟩
   ·split at hk
    ·rename_i q1 q2 hun hq2
     simp [Instr.checkKey, run_underlying hun]
    ·rename_i hq2; cases hq2
    ·cases hk
   ·split at hk
    ·rename_i hq2; cases hq2
    ·rename_i hun _
     simp [Instr.checkKey, run_underlying hun]
    ·cases hk
  simp only [List.forIn_cons, Sem.run_bind, if_pos hn, run_part1 h1 gx, Result.andThen_ok, hc, Sem.run_pure]
  exact ih

theorem chk_agg {kt : TypeId} {ks : List (Option IntKind)} (hF : oN P kt ks = true) {xs : List Value} (h : lJ ks xs = true) (empty : Bool) (d : Nat) (w : World) : (Instr.checkKey empty (d + 2) kt (.agg xs.toArray)).run P w = .ok () w := by
 obtain ⟨h1, h2, h3, h4⟩ := mX hF
 rw [Instr.checkKey]
 simp only [Sem.run_bind, run_underlying h3, Result.andThen_ok]
 rw [← Array.forIn_toList]
 rw [chk_fields empty d w _ ks 0 xs xs h4 h rfl]
 rfl
theorem bits_flat (d : Nat) : ∀ (ks : List (Option IntKind)) (l : List Value), lJ ks l = true → (l.zip l).all (fun p => Instr.sameBits d p.1 p.2) = true
 | [], [], _ => rfl
 | [], _ :: _, h => by simp [lJ] at h
 | k :: ks, l, h => by
  obtain ⟨v, m, rfl, hm, hv⟩ := hQ h
  have ih := bits_flat d ks m hm
  simp only [List.zip_cons_cons, List.all_cons, ih, Bool.and_true]
  rcases hv with ⟨q, a, rfl, rfl⟩ | ⟨a, rfl, rfl⟩ <;> simp [Instr.sameBits]

theorem bits_agg (n : Nat) (a b : Array Value) : Instr.sameBits (n + 1) (.agg a) (.agg b) = (a.size == b.size && (a.toList.zip b.toList).all fun p => Instr.sameBits n p.1 p.2) := by
 rw [Instr.sameBits]
theorem ask_find {kt : TypeId} {K : Value → Prop} {q : Value → Value → Bool} (w : World) (he : ∀ a b, K a → K b → (Op.equal kt a b).run P w = .ok (q a b) w) {k : Value} (hk : K k) : ∀ (es : List MapEntry) (i : Nat), (∀ x ∈ es, K x.key) →
  (Instr.findAsking kt k es i).run P w = .ok (((es.zipIdx i).find? (fun p => q k p.1.key)).map (fun p => (p.2, p.1.val))) w
 | [], i, _ => by simp [Instr.findAsking]
 | x :: es, i, h => by
  have ih := ask_find w he hk es (i + 1) (fun y hy => h y (List.mem_cons_of_mem _ hy))
  have h1 := he k x.key hk (h x List.mem_cons_self)
  rw [List.zipIdx_cons, List.find?_cons]
  simp only [Instr.findAsking, Sem.run_bind, h1, Result.andThen_ok]
  cases q k x.key
  ·simpa using ih
  ·simp

theorem keyT_flat {kt : TypeId} {ks : List (Option IntKind)} (hF : oN P kt ks = true) : KeyT P kt (keyF ks) eqV where
 chk empty k w := by
  rintro ⟨xs, rfl, h⟩
  exact chk_agg hF h empty 9998 w
 find k es w hk hes := by
  have he : ∀ a b, keyF ks a → keyF ks b → (Op.equal kt a b).run P w = .ok (eqV a b) w := by
   rintro _ _ ⟨xs, rfl, hx⟩ ⟨ys, rfl, hy⟩
   exact run_eqFlat hF hx hy 9998 w
  obtain ⟨h1, h2, h3, h4⟩ := mX hF
  have h5 := ask_find w he hk es 0 hes
  simp only [Instr.findKey, Sem.run_bind, run_underlying h3, Result.andThen_ok]
  cases es with
  | nil => simp [Instr.findNow]
  | cons x es =>
   simp only [Instr.findNow, Instr.sameNow]
   exact h5
 eq := by
  rintro _ _ ⟨xs, rfl, hx⟩ ⟨ys, rfl, hy⟩ h
  rw [eqL_eq ks xs ys hx hy h]
 refl := by
  rintro _ ⟨xs, rfl, _⟩
  exact eO xs
 bits := by
  rintro _ ⟨xs, rfl, h⟩
  exact (bits_agg 9999 xs.toArray xs.toArray).trans (by simpa using bits_flat 9999 ks xs h)

variable {ro : Cx} {n : Nat} {F : Fin} {w0 : World} {M : Nat → Prop} {k : List It} {ops : Array Oper} {rest : List Oper} {e : Env} {H Hq : List Ck}
variable {K : Value → Prop} {q : Value → Value → Bool} {kt et mt : TypeId}

theorem zero_run {t : TypeId} {z : Value} (h : ZeroOf P t z) (w : World) : (zeroValue t).run P w = .ok z w := by
 have h1 := h.h
 cases hi : P.info? t with
 | none => rw [hi] at h1; cases h1
 | some i =>
  rw [hi] at h1
  have hz : i.zero = some z := h1
  simp [zeroValue, typeInfo, hi, hz]

theorem qf_look {d b : Nat} {x ix : Operand} {f : Value → Option Value} {key z v : Value} {ty : TypeId} {pos : String} {af : Array Edge} (hK : KeyT P kt K q) (ht : P.underlying mt = some (.map kt et)) (hz : ZeroOf P et z)
  (hx : opv e x = some (.map (some b))) (hi : opv e ix = some key) (hd : Nat.blt d n = true) (hm : mpP K q b f ∈ Hq) (hk : K key) (hv : (f key).getD z = v)
  (h : QF P ro n F w0 M k ops Hq rest ((d, v) :: e) H) : QF P ro n F w0 M k ops Hq (⟨some d, .lookup mt x ix false, ty, pos, af, none⟩ :: rest) e H := .mk fun w hw =>
 eY rfl hd (fun a hf w' hs => by
  simp only [execOp, hf.op hx, hf.op hi]
  simp [kU hK ht (zero_run hz w') (hs.mem hm) hk, hv]) (h.h w hw)

theorem Sat.mapUpd {w w' : World} {b : Nat} {f f' : Value → Option Value} {H' : List Ck} (hs : Sat w0 M H w) (hr : Rp H (mpP K q b f) (mpP K q b f') H') (hc : Chg [b] w w') (hm : MapAt w' b K q f') : Sat w0 M H' w' := by
 refine hs.rep hr hc (fun x hx => (by simpa using hx : x = b)) hm (fun x hx => ?_)
 have hx' : x = b := hx
 subst hx'
 obtain ⟨es, clock, h1, _⟩ := hm
 exact ⟨.inl rfl, (Array.getElem?_eq_some_iff.1 h1).1⟩
theorem qf_mapUpd {b : Nat} {x ix y : Operand} {f : Value → Option Value} {key v : Value} {H' : List Ck} {ty : TypeId} {pos : String} {af : Array Edge} (hK : KeyT P kt K q) (ht : P.underlying mt = some (.map kt et))
  (hx : opv e x = some (.map (some b))) (hi : opv e ix = some key) (hy : opv e y = some v) (hk : K key) (hr : Rp H (mpP K q b f) (mpP K q b (fun x => if q x key then some v else f x)) H')
  (h : QF P ro n F w0 M k ops Hq rest e H') : QF P ro n F w0 M k ops Hq (⟨none, .mapUpdate mt x ix y, ty, pos, af, none⟩ :: rest) e H := .mk fun w hw => by
 obtain ⟨w', hrun, hm, hc⟩ := run_mapUpd hK ht (hw.mem (hr.app Hq).mem) hk (v := v)
 have hs' := hw.mapUpd (hr.app Hq) hc hm
 refine yf_do (w' := w') Z (fun a hf => ?_) hs'.right (h.h w' hs')
 simp only [execOp, hf.op hx, hf.op hi, hf.op hy]
 simp [hrun]

theorem run_mkMap (t : TypeId) (w : World) : (Instr.makeMap t none).run P w = .ok (.map (some w.heap.size)) (w.alloc (.map #[] 0)) := rfl
theorem mk_mapAt (w : World) : MapAt (w.alloc (.map #[] 0)) w.heap.size K q (fun _ => none) := ⟨#[], 0, by show (w.heap.push _)[w.heap.size]? = _; simp, by simp, fun _ _ => rfl⟩
theorem mk_mapD (w : World) : ∀ b, (mpP K q w.heap.size (fun _ => none)).D b → w.heap.size ≤ b ∧ b < (w.alloc (.map #[] 0)).heap.size := fun x hx => by
 have hx' : x = w.heap.size := hx
 subst hx'
 simp
theorem ql_makeMap (K : Value → Prop) (q : Value → Value → Bool) {d : Nat} {t : TypeId} {ty : TypeId} {pos : String} {af : Array Edge} (hd : Nat.blt d n = true)
  (h : ∀ b, QL P ro n F w0 M k ops rest ((d, .map (some b)) :: e) (mpP K q b (fun _ => none) :: H)) : QL P ro n F w0 M k ops (⟨some d, .makeMap t none, ty, pos, af, none⟩ :: rest) e H := .mk fun w hs => by
 refine fZ (w' := w.alloc (.map #[] 0)) (by simp) hd (fun a hf => ?_) ((h w.heap.size).h _ (hs.add (eQ _ _) (mk_mapAt w) (mk_mapD w)))
 simp only [execOp]
 simp [run_mkMap]
/-! An empty list that is not nil. -/
theorem run_mkS0 {t et : Nat} (hu : P.underlying t = some (.slice et)) (hi : (P.info? et).isSome = true) (w : World) : (Instr.buildSlice t 0 #[]).run P w = .ok (.slice (some ⟨w.heap.size, 0, none⟩) 0 0) (w.alloc (.cells #[] et)) := by
 cases h : P.info? et with
 | none => rw [h] at hi; cases hi
 | some i =>
  have e0 : (Array.range 0) = #[] := rfl
  simp [Instr.buildSlice, run_underlying hu, sizeOf, typeInfo, h, Instr.fill, newRow, e0]
theorem ql_mkS0 (et : Nat) {d t : Nat} {ty : TypeId} {pos : String} {af : Array Edge} (hu : P.underlying t = some (.slice et)) (hi : (P.info? et).isSome = true) (hd : Nat.blt d n = true)
  (h : ∀ b, QL P ro n F w0 M k ops rest ((d, .slice (some ⟨b, 0, none⟩) 0 0) :: e) (.ow (.slice (some ⟨b, 0, none⟩) 0 0) et 1 0 [] :: H)) : QL P ro n F w0 M k ops (⟨some d, .buildSlice t 0 #[], ty, pos, af, none⟩ :: rest) e H := .mk fun w hs => by
 refine fZ (w' := w.alloc (.cells #[] et)) (by simp) hd (fun a hf => ?_) ((h w.heap.size).h _ (Sat.pt_ow (m := 0) Z O (hs.addPt (eQ _ _) (by simp) (gH w _ _))))
 simp only [execOp]
 simp [run_mkS0 hu hi]
theorem RdI.row {w : World} {lo hi : Nat} {v : Value} {l : List Int} (h : RdI w lo hi v l) : Rd w lo hi v 1 l.length (aZ l) := by
 have := h.rd
 rw [oV _ (by simp [dY])] at this
 simpa using this
end
end Go.Eng

/- Walks: spans; the misses of a case. -/
namespace Go.Proofs.YtohlillcaadidaaGreat
open Go Go.Eng

/-- A list of spans that can be read. -/
abbrev RdS (w : World) (lo hi : Nat) (v : Value) (l : List (Int × Int)) : Prop := RdE w lo hi v 2 (l.map rtV)
theorem RdS.outI {w : World} {lo hi : Nat} {v : Value} {l : List (Int × Int)} (h : RdS w lo hi v l) : ∃ a cap, v = .slice a l.length cap ∧ (0 < l.length → ∃ b off, a = some ⟨b, off, none⟩) := by
 have := RdE.out h
 simpa using this
theorem RdS.at {w : World} {lo hi b off len cap : Nat} {l : List (Int × Int)} (h : RdS w lo hi (.slice (some ⟨b, off, none⟩) len cap) l) (i : Nat) (hi : i < l.length) (j : Nat) (hj : j < 2) : w.cell? ⟨b, off + i * 2 + j, none⟩ = [Value.int .i64 l[i].1, Value.int .i64 l[i].2][j]? := by
 have := RdE.cell h i j (by simpa using hi) hj
 rw [this]
 simp [rtV, Value.cells]
theorem RdS.at0 {w : World} {lo hi b off len cap : Nat} {l : List (Int × Int)} (h : RdS w lo hi (.slice (some ⟨b, off, none⟩) len cap) l) (i : Nat) (hi : i < l.length) : w.cell? ⟨b, off + i * 2 + 0, none⟩ = some (.int .i64 l[i].1) := RdS.at h i hi 0 O
theorem RdS.at1 {w : World} {lo hi b off len cap : Nat} {l : List (Int × Int)} (h : RdS w lo hi (.slice (some ⟨b, off, none⟩) len cap) l) (i : Nat) (hi : i < l.length) : w.cell? ⟨b, off + i * 2 + 1, none⟩ = some (.int .i64 l[i].2) := RdS.at h i hi 1 O

def facS (r : Rg) (l : List Int) (click : Int) (n : Nat) : Int := cV (fun i => cX r (l.getD i 0) click) n
def fG (r : Rg) (l : List Int) (click : Int) : Int × Int := ratioV (facS r l click l.length) r.group.sum
theorem lE (r : Rg) (hr : r.Right) (l : List Int) (click : Int) : ∀ n, 0 ≤ facS r l click n ∧ facS r l click n ≤ 100 * n
 | 0 => by simp [facS, cV]
 | n + 1 => by
  have ih := lE r hr l click n
  have h1 := eC r hr (l.getD n 0) click
  have h2 := hr.gsum
  have e : facS r l click (n + 1) = facS r l click n + cX r (l.getD n 0) click := rfl
  omega
theorem facS_succ (r : Rg) (l : List Int) (click : Int) (n : Nat) (hn : n < l.length) : facS r l click (n + 1) = facS r l click n + cX r l[n] click := by
 simp [facS, cV, List.getElem?_eq_getElem hn]

set_option maxHeartbeats 1000000 in
theorem faced_ca (w : World) (b lo hi : Nat) (r : Rg) (v : Value) (l : List Int) (click : Int) (hd : DkAt w b r) (hr : r.Right) (hl : RdI w lo hi v l) (hlen : l.length ≤ 1000000) (hb : ∀ x ∈ l, -1000000 ≤ x ∧ x ≤ 1000000) (hck : -1000 ≤ click ∧ click ≤ 1000) :
  Ca Tryz.prog 42 [.pointer (some ⟨b, 0, none⟩), v, .int .i64 click] w fun v w' => v = rtV (fG r l click) ∧ Chg [] w w' := by
 obtain ⟨a, cap, rfl, hs⟩ := hl.outI
 have hg := hr.gsum
 refine dB (Sat.nil w M0) Tryz.func42 Z (by simp [Tryz.ntmps42]) ?_
 (refine aE (aB ?_))
 refine aV cO Z (fun b6 => ?_)
 (refine aF (aE (aB (aA V Z Z (aF (aE (aE (aB ?_))))))); (iterate 3 refine aA V Z Z ?_); refine aF (aP ?_))
 refine bN (σ := Nat) (fun k => k ≤ l.length) (fun k => l.length - k) (fun k => [(0, .pointer (some ⟨b, 0, none⟩)), (2, .int .i64 click), (6, .pointer (some ⟨b6, 0, none⟩)), (7, .int .i64 (facS r l click k)), (10, .slice a l.length cap), (11, .int .i64 l.length), (12, .int .i64 k)])
  (fun _ => [.pt b6 [.int .i64 0, .int .i64 0] 36]) 0 O ⟨rfl, rfl, rfl, rfl, rfl, rfl, rfl, trivial⟩ U ?_
 intro k hk K hK
 have hfb := lE r hr l click k
 (refine aE (aB (aA V Z Z (aF (aE ?_)))))
 refine dD Z (fun hc => ?_) (fun hc => ?_)
 ·have hk : k < l.length := by omega
  obtain ⟨b0, off, rfl⟩ := hs O
  have h1 := hb _ (List.getElem_mem hk)
  have h2 := eC r hr l[k] click
  have h3 := facS_succ r l click k hk
  (refine aR (aE (aP (aE (aB ?_)))))
  (refine bW V Z Z Z Z Z O O ?_; refine cI V Z Z Z (fun w hs => RdI.at (RdE.keep hl hs.chg0) k hk) ?_)
  (refine aA V Z Z (aF (aB ?_)); (iterate 4 refine aA V Z Z ?_))
  refine aJ (val := .int .i64 (cX r l[k] click)) V Z Z Z Z (fun w hs => ?_) ?_; exact jR w b r l[k] click (hd.keep hs.chg0) hr h1 hck
  (refine bB V Z Z Z Z O O (aA V Z Z (aF (bL (aB (bB V Z Z Z Z O O (aA V Z Z (aF ?_))))))))
  rw [← h3]
  exact hK (k + 1) _ _ O O ⟨Z, Z, Z, Z, Z, Z, Z, trivial⟩ U
 ·obtain rfl : k = l.length := by omega
  (refine bJ _ Z (aE (aB (aA V Z Z (aA V Z Z ?_)))))
  refine aJ V Z Z Z Z (fun w hs => nC w b r (hd.keep hs.chg0) hr) ?_
  refine aJ (val := rtV (fG r l click)) V Z Z Z Z (fun w hs => ?_) ?_; exact nD _ _ w O O O O
  (refine aY V Z Z Z Z Z U Z ?_; refine aF (aW ?_))
  refine aX V Z U fun w hs => ?_
  exact ⟨Z, hs.chg0⟩

end Go.Proofs.YtohlillcaadidaaGreat

/- Walks: the worst case. -/
namespace Go.Proofs.YtohlillcaadidaaGreat
open Go Go.Eng

theorem slI : SlT Tryz.prog 22 3 1 8 (.int .i64 0) := ⟨by kernel_rfl, by kernel_rfl, by kernel_rfl, by decide⟩

/-- The worst drift of the first k ones, from lo on. -/
def wP (r : Rg) (click lo : Int) : Nat → Int
 | 0 => lo
 | k + 1 => if cX r (wP r click lo k) click < cX r (lo + k) click then lo + k else wP r click lo k
theorem wP_bd (r : Rg) (click lo : Int) : ∀ k, lo ≤ wP r click lo k ∧ (wP r click lo k = lo ∨ wP r click lo k < lo + k)
 | 0 => by simp [wP]
 | k + 1 => by
  have ih := wP_bd r click lo k
  rw [wP]
  split <;> omega
def lG (r : Rg) (click : Int) (s : Int × Int) : Int := wP r click s.1 (s.2 - s.1 + 1).toNat
def cF (r : Rg) (ws : List (Int × Int)) (click : Int) : List Int := ws.map (lG r click)
def iS (r : Rg) (ws : List (Int × Int)) (click : Int) (k : Nat) : List Int := (ws.take k).map (lG r click) ++ List.replicate (ws.length - k) 0
theorem worstP_length (r : Rg) (ws : List (Int × Int)) (click : Int) (k : Nat) (hk : k ≤ ws.length) : (iS r ws click k).length = ws.length := by
 simp [iS]; omega
theorem worstP_set (r : Rg) (ws : List (Int × Int)) (click : Int) (k : Nat) (hk : k < ws.length) : (iS r ws click k).set k (lG r click ws[k]) = iS r ws click (k + 1) := by
 unfold iS
 have h1 : ((ws.take k).map (lG r click)).length = k := by simp; omega
 rw [List.set_append_right _ _ O, h1, Nat.sub_self, show ws.length - k = (ws.length - (k + 1)) + 1 by omega, List.replicate_succ, List.set_cons_zero]
 rw [List.take_succ_eq_append_getElem hk, List.map_append]
 simp
structure WindOk (ws : List (Int × Int)) : Prop where
 len : ws.length = 5
 sp : ∀ s ∈ ws, s.1 ≤ s.2 ∧ -300 ≤ s.1 ∧ s.2 ≤ 300

set_option maxHeartbeats 2000000 in
theorem worst_ca (w : World) (b lo hi : Nat) (r : Rg) (v : Value) (ws : List (Int × Int)) (click : Int) (hd : DkAt w b r) (hr : r.Right) (hl : RdS w lo hi v ws) (hw : WindOk ws) (hck : -1000 ≤ click ∧ click ≤ 1000) :
  Ca Tryz.prog 40 [.pointer (some ⟨b, 0, none⟩), v, .int .i64 click] w fun v w' => ∃ x : Nat, v = .slice (some ⟨x, 0, none⟩) 5 5 ∧ Sat w M0 [.pt x (aZ (cF r ws click)) 3] w' := by
 obtain ⟨a, cap, rfl, hs⟩ := hl.outI
 have hwl := hw.len
 obtain ⟨bs, off, rfl⟩ := hs O
 refine dB (Sat.nil w M0) Tryz.func40 Z (by simp [Tryz.ntmps40]) ?_
 (refine aE (aB (aA V Z Z (aF (aE (aB ?_))))))
 refine ql_makeI (et := 3) (m := 5) slI Z Z Z O (fun x => ?_)
 (refine aA V Z Z (aF (aE (aE (aB ?_)))); (iterate 3 refine aA V Z Z ?_); refine aF (aP ?_))
 refine fD (H' := [.pt x (aZ (iS r ws click 0)) 3]) (fun w' hs => by
  have e : iS r ws click 0 = List.replicate 5 0 := by simp [iS, hwl]
  rw [e]; exact hs) ?_
 refine bN (σ := Nat) (fun k => k ≤ ws.length) (fun k => ws.length - k) (fun k => [(0, .pointer (some ⟨b, 0, none⟩)), (2, .int .i64 click), (7, .slice (some ⟨x, 0, none⟩) 5 5), (12, .slice (some ⟨bs, off, none⟩) ws.length cap), (13, .int .i64 ws.length), (14, .int .i64 k)])
  (fun k => [.pt x (aZ (iS r ws click k)) 3]) 0 O ⟨rfl, rfl, rfl, rfl, rfl, rfl, trivial⟩ U ?_
 intro k hk K hK
 have hpl := worstP_length r ws click k hk
 (refine aE (aB (aA V Z Z (aF (aE ?_)))))
 refine dD Z (fun hc => ?_) (fun hc => ?_)
 ·have hk : k < ws.length := by omega
  have hsp := hw.sp _ (List.getElem_mem hk)
  have hset := worstP_set r ws click k hk
  (refine aR (aE (aP (aE (aB (aA V Z Z ?_))))))
  (refine bW V Z Z Z Z Z O O ?_; refine ql_loadA V Z Z Z Z (fun w hs => RdS.at (RdE.keep hl hs.chg0) k hk) ?_)
  generalize hsk : ws[k] = s at *
  obtain ⟨s1, s2⟩ := s
  simp only at hsp
  refine aV qI Z (fun b9 => ?_)
  (refine aA V Z Z ?_; refine aY V Z Z Z Z Z U Z ?_; refine aF (aE (aB ?_)); (iterate 3 refine aA V Z Z ?_); refine aH V Z Z Z ?_)
  refine bW V Z Z Z Z Z O O ?_
  have hkp : k < (iS r ws click k).length := by omega
  refine jT V (k) Z Z Z U (by first | rfl | omega | simp) hkp ?_
  (refine aF (aE (aB (aA V Z Z ?_))); refine aH V Z Z Z ?_; refine aA V Z Z (aF (aP ?_)))
  refine bN (σ := Nat) (fun j => (j : Int) ≤ s2 - s1 + 1) (fun j => (s2 - s1 + 1).toNat - j) (fun j => [(0, .pointer (some ⟨b, 0, none⟩)), (2, .int .i64 click), (7, .slice (some ⟨x, 0, none⟩) 5 5), (8, .int .i64 k), (9, .pointer (some ⟨b9, 0, none⟩)), (10, .int .i64 (s1 + j)), (12, .slice (some ⟨bs, off, none⟩) ws.length cap), (13, .int .i64 ws.length), (14, .int .i64 k)])
   (fun j => [.pt x (aZ ((iS r ws click k).set k (wP r click s1 j))) 3, .pt b9 [.int .i64 s1, .int .i64 s2] 32]) 0 O ⟨rfl, rfl, rfl, rfl, rfl, fE rfl O, rfl, rfl, rfl, trivial⟩ U ?_
  intro j hj K2 hK2
  have hwb := wP_bd r click s1 j
  (refine aE (aE (aB (aA V Z Z (aA V Z Z ?_)))); refine aH V Z Z Z ?_; refine aA V Z Z (aF ?_))
  refine dD Z (fun hc => ?_) (fun hc => ?_)
  ·have hpl2 : k < ((iS r ws click k).set k (wP r click s1 j)).length := by rw [List.length_set]; exact hkp
   have hget : ((iS r ws click k).set k (wP r click s1 j))[k] = wP r click s1 j := by simp
   have hsuc : wP r click s1 (j + 1) = if cX r (wP r click s1 j) click < cX r (s1 + j) click then s1 + j else wP r click s1 j := rfl
   (refine aR (aE (aP (aE ?_))))
   refine bX _ [] (Sp.refl _) qR qR ?_
   ((iterate 3 refine aD V Z Z Z ?_))
   refine aS (val := .int .i64 (cX r (s1 + j) click)) V Z Z Z Z (fun w hs => ?_) ?_; exact jR w b r (s1 + j) click (hd.keep hs.chg0) hr O hck
   ((iterate 3 refine aD V Z Z Z ?_))
   refine bF V Z Z Z Z Z O O ?_
   refine fL V (k) Z Z Z U (by first | rfl | omega | simp) hpl2 ?_
   rw [hget]
   (refine aD V Z Z Z ?_)
   refine aS (val := .int .i64 (cX r (wP r click s1 j) click)) V Z Z Z Z (fun w hs => ?_) ?_; exact jR w b r (wP r click s1 j) click (hd.keep hs.chg0) hr O hck
   (refine aD V Z Z Z (aK ?_))
   refine dD Z (fun hc => ?_) (fun hc => ?_)
   ·rw [if_pos hc] at hsuc
    (refine aB ?_; (iterate 3 refine aA V Z Z ?_))
    refine bW V Z Z Z Z Z O O ?_
    refine jT V (k) Z Z Z U (by first | rfl | omega | simp) hpl2 ?_
    (refine aF (bL (aB (aA V Z Z (bB V Z Z Z Z O O (aA V Z Z (aF ?_)))))))
    exact hK2 (j + 1) _ _ O O ⟨Z, Z, Z, Z, Z, fE Z O, Z, Z, Z, trivial⟩ (by rw [hsuc, List.set_set]; repeat constructor)
   ·rw [if_neg hc] at hsuc
    (refine aR (bL (aB (aA V Z Z (bB V Z Z Z Z O O (aA V Z Z (aF ?_)))))))
    exact hK2 (j + 1) _ _ O O ⟨Z, Z, Z, Z, Z, fE Z O, Z, Z, Z, trivial⟩ (by rw [hsuc]; repeat constructor)
  ·have hj2 : j = (s2 - s1 + 1).toNat := by omega
   have hwo : wP r click s1 j = lG r click (s1, s2) := by rw [hj2]; rfl
   rw [hwo, hset]
   (refine bJ _ Z (bL (aB (bB V Z Z Z Z O O (aA V Z Z (aF ?_))))))
   exact hK (k + 1) _ _ O O ⟨Z, Z, Z, Z, Z, Z, trivial⟩ U
 ·obtain rfl : k = ws.length := by omega
  (refine bJ _ Z (aE (aB (aA V Z Z (aA V Z Z (aF (aW ?_)))))))
  refine aX V Z U fun w hs => ?_
  refine ⟨x, Z, ?_⟩
  have e : iS r ws click ws.length = cF r ws click := by simp [iS, cF]
  rw [← e]
  exact hs

end Go.Proofs.YtohlillcaadidaaGreat

/- Walks: winds; the worst case of a click, with errors. -/
namespace Go.Proofs.YtohlillcaadidaaGreat
open Go Go.Eng

def spB (m : Int) (s : Int × Int) : Bool := decide (s.1 ≤ s.2) && (decide (-m ≤ s.1) && decide (s.2 ≤ m))
def pSp (m : Int) : Value → Bool
 | .agg cs => match cs.toList with
  | [.int _ a, .int _ b] => spB m (a, b)
  | _ => false
 | _ => false
theorem pSp_all (m : Int) (l : List (Int × Int)) : (l.map rtV).all (pSp m) = l.all (spB m) := by
 rw [List.all_map]
 rfl
theorem rtV_agg (l : List (Int × Int)) : ∀ i (hi : i < (l.map rtV).length), ∃ c, (l.map rtV)[i] = .agg c := by
 intro i hi
 exact ⟨_, by rw [List.getElem_map]; rfl⟩

theorem blown1_p (w : World) (l : List (Int × Int)) : PredAt Tryz.prog tab w (.func (.func 101) #[] #[]) (l.map rtV) (pSp 300) := by
 refine ⟨_, _, _, Z, Z, fun w' hw' x hx => ?_⟩
 obtain ⟨⟨a, b⟩, hy, rfl⟩ := List.mem_map.1 hx
 refine dB (Sat.nil w' M0) Tryz.func101 Z (by simp [Tryz.ntmps101]) ?_
 (refine aE (aB ?_))
 refine bG Z Z (fun b1 => ?_)
 (refine aA V Z Z (aF (aE (aB (aA V Z Z ?_)))); refine aH V Z Z Z ?_; refine aA V Z Z ?_; refine aH V Z Z Z ?_; refine aA V Z Z (aA V Z Z ?_))
 refine bU Z Z (fun hc => ?_) (fun hc => ?_)
 ·(refine aC Z (aA V Z Z (aC Z ?_)); refine aH V Z Z Z ?_; refine aC Z ?_; (iterate 3 refine aA V Z Z ?_))
  refine bU Z Z (fun hc => ?_) (fun hc => ?_)
  ·(refine aC Z (aA V Z Z (aC Z ?_)); refine aH V Z Z Z ?_; refine aC Z ?_; (iterate 3 refine aA V Z Z ?_); refine aF (aW ?_))
   refine aX V Z U fun w hs => ?_
   exact ⟨by simp at *; simp [fT, pSp, rtV, spB, *], hs.chg0⟩
  ·((iterate 3 refine bA Z Z Z ?_); refine aA V Z Z (aA V Z Z (aF (aW ?_))))
   refine aX V Z U fun w hs => ?_
   refine ⟨?_, hs.chg0⟩
   simp at hc
   simp [fT, pSp, rtV, spB]
   omega
 ·((iterate 3 refine bA Z Z Z ?_); refine aA V Z Z (aA V Z Z ?_); (iterate 3 refine bA Z Z Z ?_); refine aA V Z Z (aA V Z Z (aF (aW ?_))))
  refine aX V Z U fun w hs => ?_
  refine ⟨?_, hs.chg0⟩
  simp at hc
  simp [fT, pSp, rtV, spB]
  omega

def cN (r : Rg) (ws : List (Int × Int)) : Int := if checkV r ≠ 0 then checkV r else if (ws.length : Int) ≠ 5 then 2 else if !(ws.all (spB 300)) then 3 else 0
theorem dN (r : Rg) (ws : List (Int × Int)) : cN r ws = 0 ↔ checkV r = 0 ∧ WindOk ws := by
 unfold cN
 constructor
 ·intro h
  split at h
  ·contradiction
  ·rename_i h1
   split at h
   ·cases h
   ·rename_i h2
    split at h
    ·cases h
    ·rename_i h3
     refine ⟨by simpa using h1, ⟨by omega, fun s hs => ?_⟩⟩
     have := List.all_eq_true.1 (by simpa using h3 : ws.all (spB 300) = true) s hs
     simp [spB] at this
     omega
 ·rintro ⟨h1, h2⟩
  have h3 : ws.all (spB 300) = true := List.all_eq_true.2 (fun s hs => by have := h2.sp s hs; simp [spB]; omega)
  have h4 := h2.len
  rw [if_neg (by simpa using h1), if_neg O, h3]
  rfl

set_option maxHeartbeats 1000000 in
theorem blown_no (w : World) (l0 h0' : Nat) (cs : List Value) (r : Rg) (v : Value) (ws : List (Int × Int)) (h : RgC w cs r) (hsm : r.Small) (hl : RdS w l0 h0' v ws) (hlen : ws.length < 1000000) (hne : cN r ws ≠ 0) : Ca Tryz.prog 38 [.agg cs.toArray, v] w fun v w' => v = .tuple #[.pointer none, .int .i64 (cN r ws)] ∧ Chg [] w w' := by
 have h0 := h
 obtain ⟨lo, hi, ag, cg, ad, cd, af, cf, an, cn, rfl, hg, hdr, hf, hn⟩ := h
 obtain ⟨a, cap, rfl, hs⟩ := hl.outI
 refine dB (Sat.nil w M0) Tryz.func38 Z (by simp [Tryz.ntmps38]) ?_
 (refine aE (aB ?_))
 refine bG Z Z (fun b1 => ?_)
 (refine aA V Z Z (aA V Z Z (aF (aE (aB ?_)))); refine aI V Z Z Z ?_)
 by_cases hr : checkV r = 0
 ·refine bO (β := Nat) V [] _ M0 Z Z Z Z (Sp.refl _) qS (fun w' hs => iH w' _ r (h0.keep hs.chg0) hsm hr) ?_
  rintro bd _ rfl
  (refine aA V Z Z (bC V Z Z Z (bC V Z Z Z (aA V Z Z (aA V Z Z (aF (aE (aP (aE (aB ?_))))))))); (iterate 3 refine aA V Z Z ?_); refine aF (aL Z (aE (aB ?_))); (iterate 4 refine aA V Z Z ?_); refine aF ?_)
  by_cases h5 : (ws.length : Int) = 5
  ·rw [decide_eq_true h5]
   (refine aL Z (aE (aB (aA V Z Z ?_))))
   refine aJ (val := .bool (ws.all (spB 300))) V Z Z Z Z (fun w hs => ?_) ?_; exact by have := all_span w l0 h0' _ _ (ws.map rtV) (pSp 300) (RdE.keep hl hs.chg0) (rtV_agg ws) (by simp; omega) (blown1_p w ws); rw [pSp_all] at this; exact this
   (refine aA V Z Z (aA V Z Z (aF ?_)))
   have h3 : ws.all (spB 300) = false := by
    cases h : ws.all (spB 300)
    ·rfl
    ·exact absurd (by unfold cN; rw [hr, h]; simp [h5]) hne
   rw [h3]
   (refine aM Z (aE (aB (aA V Z Z (aA V Z Z (aF (aW ?_)))))))
   refine aX V Z U fun w hs => ?_
   refine ⟨?_, hs.chg0⟩
   have e : cN r ws = 3 := by unfold cN; rw [hr, h3]; simp [h5]
   rw [e]
   rfl
  ·rw [decide_eq_false h5]
   (refine aM Z (aE (aB (aA V Z Z (aA V Z Z (aF (aW ?_)))))))
   refine aX V Z U fun w hs => ?_
   refine ⟨?_, hs.chg0⟩
   have e : cN r ws = 2 := by unfold cN; rw [hr]; simp [h5]
   rw [e]
   rfl
 ·refine aJ V Z Z Z Z (fun w hs => jN w _ r (h0.keep hs.chg0) hsm hr) ?_
  (refine aA V Z Z (bC V Z Z Z (bC V Z Z Z (aA V Z Z (aA V Z Z (aF (aE (aP (aE (aB ?_))))))))); (iterate 3 refine aA V Z Z ?_); refine aF ?_)
  rw [decide_eq_false hr]
  (refine aM Z (aE (aB ?_)); (iterate 3 refine aA V Z Z ?_); refine aF (aW ?_))
  refine aX V Z U fun w hs => ?_
  refine ⟨?_, hs.chg0⟩
  have e : cN r ws = checkV r := by unfold cN; rw [if_pos hr]
  rw [e]
  rfl

set_option maxHeartbeats 1000000 in
theorem qG (w : World) (l0 h0' : Nat) (cs : List Value) (r : Rg) (v : Value) (ws : List (Int × Int)) (h : RgC w cs r) (hsm : r.Small) (hl : RdS w l0 h0' v ws) (hne : cN r ws = 0) : Ca Tryz.prog 38 [.agg cs.toArray, v] w fun v w' => ∃ x : Nat, v = .tuple #[.pointer (some ⟨x, 0, none⟩), .int .i64 0] ∧ Sat w M0 [.pt x cs 141] w' := by
 obtain ⟨hr, hw⟩ := (dN r ws).1 hne
 have h3 : ws.all (spB 300) = true := List.all_eq_true.2 (fun s hs => by have := hw.sp s hs; simp [spB]; omega)
 have h5 := hw.len
 have h0 := h
 obtain ⟨lo, hi, ag, cg, ad, cd, af, cf, an, cn, rfl, hg, hdr, hf, hn⟩ := h
 obtain ⟨a, cap, rfl, hs⟩ := hl.outI
 refine dB (Sat.nil w M0) Tryz.func38 Z (by simp [Tryz.ntmps38]) ?_
 (refine aE (aB ?_))
 refine bG Z Z (fun b1 => ?_)
 (refine aA V Z Z (aA V Z Z (aF (aE (aB ?_)))); refine aI V Z Z Z ?_)
 refine bO (β := Nat) V [] _ M0 Z Z Z Z (Sp.refl _) qS (fun w' hs => iH w' _ r (h0.keep hs.chg0) hsm hr) ?_
 rintro bd _ rfl
 (refine aA V Z Z (bC V Z Z Z (bC V Z Z Z (aA V Z Z (aA V Z Z (aF (aE (aP (aE (aB ?_))))))))); (iterate 3 refine aA V Z Z ?_); refine aF (aL Z (aE (aB ?_))); (iterate 4 refine aA V Z Z ?_); refine aF ?_)
 rw [decide_eq_true (show (ws.length : Int) = 5 by omega)]
 (refine aL Z (aE (aB (aA V Z Z ?_))))
 refine aJ (val := .bool (ws.all (spB 300))) V Z Z Z Z (fun w hs => ?_) ?_; exact by have := all_span w l0 h0' _ _ (ws.map rtV) (pSp 300) (RdE.keep hl hs.chg0) (rtV_agg ws) (by simp; omega) (blown1_p w ws); rw [pSp_all] at this; exact this
 rw [h3]
 (refine aA V Z Z (aA V Z Z (aF (aL Z (aR (bL (aE (aB ?_))))))); (iterate 3 refine aA V Z Z ?_); refine aF (aW ?_))
 refine aX V Z U fun w hs => ?_
 exact ⟨bd, Z, hs.sp U⟩

end Go.Proofs.YtohlillcaadidaaGreat

/- Walks: Worst, Robust. -/
namespace Go.Proofs.YtohlillcaadidaaGreat
open Go Go.Eng

/-- slices.Clone of a list that is not nil. -/
theorem sclone_ca (w : World) (lo hi b off c : Nat) (l : List Int) (hl : RdI w lo hi (.slice (some ⟨b, off, none⟩) l.length c) l) (hlen : l.length < 1000000) : Ca Tryz.prog 41 [.slice (some ⟨b, off, none⟩) l.length c] w fun v w' => ∃ x : Value, v = x ∧ Sat w M0 [.ow x 3 1 l.length (aZ l)] w' := by
 refine dB (Sat.nil w M0) Tryz.func41 Z (by simp [Tryz.ntmps41]) ?_
 (refine aE (aB (aA V Z Z (aF (aE (aE (aB (aA V Z Z ?_))))))))
 refine ql_eqnil V Z Z Z Z ?_
 (refine aF (aL Z (aR (aE (aB ?_)))))
 refine ql_mkS0 3 qR qR Z (fun x => ?_)
 (refine aA V Z Z ?_)
 refine eH (q := l.length) slI Z Z Z (fun v' => by repeat constructor) (fun w' hs => ⟨lo, hi, RdI.row (RdE.keep hl hs.chg0)⟩) (by simp [dY]) O O (fun v' => ?_)
 (refine aA V Z Z (aF (aW ?_)))
 refine aX V Z U fun w hs => ?_
 exact ⟨v', Z, by simpa using hs⟩

def nM (r : Rg) (ws : List (Int × Int)) (click : Int) : Int := if cN r ws ≠ 0 then cN r ws else if !(inB click (-r.clicks) r.clicks) then 3 else 0
theorem worstL_bd {r : Rg} {ws : List (Int × Int)} (hw : WindOk ws) (click : Int) : ∀ x ∈ cF r ws click, -300 ≤ x ∧ x ≤ 300 := by
 intro x hx
 obtain ⟨s, hs, rfl⟩ := List.mem_map.1 hx
 have h1 := hw.sp s hs
 have h2 := wP_bd r click s.1 (s.2 - s.1 + 1).toNat
 unfold lG
 omega
theorem dF (r : Rg) (ws : List (Int × Int)) (click : Int) : (cF r ws click).length = ws.length := by simp [cF]

set_option maxHeartbeats 1000000 in
theorem worstF_no (w : World) (l0 h1 : Nat) (cs : List Value) (r : Rg) (v : Value) (ws : List (Int × Int)) (click : Int) (h : RgC w cs r) (hsm : r.Small) (hl : RdS w l0 h1 v ws) (hlen : ws.length < 1000000) (hne : nM r ws click ≠ 0) :
  Ca Tryz.prog 10 [.agg cs.toArray, v, .int .i64 click] w fun v w' => v = .tuple #[.slice none 0 0, rtV (0, 0), .int .i64 (nM r ws click)] ∧ Chg [] w w' := by
 have h0 := h
 obtain ⟨lo, hi, ag, cg, ad, cd, af, cf, an, cn, rfl, hg, hdr, hf, hn⟩ := h
 obtain ⟨a, cap, rfl, hs⟩ := hl.outI
 refine dB (Sat.nil w M0) Tryz.func10 Z (by simp [Tryz.ntmps10]) ?_
 (refine aE (aB ?_))
 refine bG Z Z (fun b1 => ?_)
 (refine aA V Z Z ?_)
 refine aV cO Z (fun b2 => ?_)
 (refine aA V Z Z (aF (aE (aB ?_))); refine aI V Z Z Z ?_; refine aA V Z Z ?_)
 by_cases hb : cN r ws = 0
 ·have hR := (bM r).1 ((dN r ws).1 hb).1
  have hcl := hR.clicks
  refine bO (β := Nat) V [] _ M0 Z Z Z Z (Sp.refl _) qS (fun w' hs => qG w' l0 h1 _ r _ ws (h0.keep hs.chg0) hsm (RdE.keep hl hs.chg0) hb) ?_
  rintro bd _ rfl
  (refine aA V Z Z (bC V Z Z Z (bC V Z Z Z (aA V Z Z (aA V Z Z (aF (aE (aP (aE (aB ?_))))))))); (iterate 3 refine aA V Z Z ?_); refine aF (aL Z (aE (aB (aA V Z Z (aA V Z Z ?_))))); refine aH V Z Z Z ?_; refine fJ V Z Z O O (aA V Z Z ?_); refine aH V Z Z Z ?_)
  have hi : inB click (-r.clicks) r.clicks = false := by
   cases h : inB click (-r.clicks) r.clicks
   ·rfl
   ·exact absurd (by unfold nM; rw [hb, h]; rfl) hne
  refine aJ (val := .bool (inB click (-r.clicks) r.clicks)) V Z Z Z Z (fun w hs => ?_) ?_; exact fW click (-r.clicks) r.clicks w
  rw [hi]
  (refine aA V Z Z (aA V Z Z (aF (aM Z (aE (aB ?_))))))
  refine cE #[.int .i64 0, .int .i64 0] Z qR Z ?_
  (refine aA V Z Z ?_; refine aY V Z Z Z Z Z U Z ?_; refine aA V Z Z (aF (aW ?_)))
  refine aX V Z U fun w hs => ?_
  refine ⟨?_, hs.chg0⟩
  have e : nM r ws click = 3 := by unfold nM; rw [hb, hi]; rfl
  rw [e]
  rfl
 ·refine aJ V Z Z Z Z (fun w hs => blown_no w l0 h1 _ r _ ws (h0.keep hs.chg0) hsm (RdE.keep hl hs.chg0) hlen hb) ?_
  (refine aA V Z Z (bC V Z Z Z (bC V Z Z Z (aA V Z Z (aA V Z Z (aF (aE (aP (aE (aB ?_))))))))); (iterate 3 refine aA V Z Z ?_); refine aF ?_)
  rw [decide_eq_false hb]
  (refine aM Z (aE (aB ?_)))
  refine cE #[.int .i64 0, .int .i64 0] Z qR Z ?_
  (refine aA V Z Z (aA V Z Z ?_); refine aY V Z Z Z Z Z U Z ?_; refine aA V Z Z (aF (aW ?_)))
  refine aX V Z U fun w hs => ?_
  refine ⟨?_, hs.chg0⟩
  have e : nM r ws click = cN r ws := by unfold nM; rw [if_pos hb]
  rw [e]
  rfl

set_option maxHeartbeats 1000000 in
theorem worstF_ok (w : World) (l0 h1 : Nat) (cs : List Value) (r : Rg) (v : Value) (ws : List (Int × Int)) (click : Int) (h : RgC w cs r) (hsm : r.Small) (hl : RdS w l0 h1 v ws) (hne : nM r ws click = 0) :
  Ca Tryz.prog 10 [.agg cs.toArray, v, .int .i64 click] w fun v w' => ∃ x : Value, v = .tuple #[x, rtV (fG r (cF r ws click) click), .int .i64 0] ∧ Sat w M0 [.ow x 3 1 5 (aZ (cF r ws click))] w' := by
 have hb : cN r ws = 0 := by
  cases Classical.em (cN r ws = 0) with
  | inl h => exact h
  | inr h => exact absurd hne (by unfold nM; rw [if_pos h]; exact h)
 have hin : inB click (-r.clicks) r.clicks = true := by
  cases h : inB click (-r.clicks) r.clicks
  ·exact absurd hne (by unfold nM; rw [hb, h]; simp)
  ·rfl
 obtain ⟨hc0, hw⟩ := (dN r ws).1 hb
 have hR := (bM r).1 hc0
 have hcl := hR.clicks
 have hi' := bH.1 hin
 have hw5 := hw.len
 have hwl := dF r ws click
 have hwb := worstL_bd (r := r) hw click
 have h0 := h
 obtain ⟨lo, hi, ag, cg, ad, cd, af, cf, an, cn, rfl, hg, hdr, hf, hn⟩ := h
 obtain ⟨a, cap, rfl, hs⟩ := hl.outI
 refine dB (Sat.nil w M0) Tryz.func10 Z (by simp [Tryz.ntmps10]) ?_
 (refine aE (aB ?_))
 refine bG Z Z (fun b1 => ?_)
 (refine aA V Z Z ?_)
 refine aV cO Z (fun b2 => ?_)
 (refine aA V Z Z (aF (aE (aB ?_))); refine aI V Z Z Z ?_; refine aA V Z Z ?_)
 refine bO (β := Nat) V [] _ M0 Z Z Z Z (Sp.refl _) qS (fun w' hs => qG w' l0 h1 _ r _ ws (h0.keep hs.chg0) hsm (RdE.keep hl hs.chg0) hb) ?_
 rintro bd _ rfl
 (refine aA V Z Z (bC V Z Z Z (bC V Z Z Z (aA V Z Z (aA V Z Z (aF (aE (aP (aE (aB ?_))))))))); (iterate 3 refine aA V Z Z ?_); refine aF (aL Z (aE (aB (aA V Z Z (aA V Z Z ?_))))); refine aH V Z Z Z ?_; refine fJ V Z Z O O (aA V Z Z ?_); refine aH V Z Z Z ?_)
 refine aJ (val := .bool (inB click (-r.clicks) r.clicks)) V Z Z Z Z (fun w hs => ?_) ?_; exact fW click (-r.clicks) r.clicks w
 rw [hin]
 (refine aA V Z Z (aA V Z Z (aF (aL Z (aR (bL (aE (aB ?_))))))); (iterate 3 refine aA V Z Z ?_))
 refine bO (β := Nat) V [] _ M0 Z Z Z Z (Sp.refl _) qS (fun w' hs => worst_ca w' bd l0 h1 r _ ws click ⟨_, _, hs.blk U, h0.keep hs.chg0⟩ hR (RdE.keep hl hs.chg0) hw O) ?_
 rintro x _ rfl
 (refine aA V Z Z (aF (aE (aB (aA V Z Z ?_)))))
 refine bO (β := Value) V [] _ M0 Z Z Z Z (Sp.refl _) qS (fun w' hs => by
  have hbk : Blk w' x (aZ (cF r ws click)) 3 := hs.blk U
  have := sclone_ca w' x (x + 1) x 0 5 (cF r ws click) (RdI.of (Blk.rd hbk (by simp) 5)) O
  rw [hwl, hw5] at this
  exact this) ?_
 rintro _ y rfl
 ((iterate 3 refine aA V Z Z ?_))
 refine aJ (val := rtV (fG r (cF r ws click) click)) V Z Z Z Z (fun w hs => ?_) ?_; exact by have hbk : Blk w x (aZ (cF r ws click)) 3 := hs.blk U; have := faced_ca w bd x (x + 1) r (.slice (some ⟨x, 0, none⟩) (cF r ws click).length 5) (cF r ws click) click ⟨_, _, hs.blk U, h0.keep hs.chg0⟩ hR (RdI.of (Blk.rd hbk (by simp) 5)) O (fun y hy => by have := hwb y hy; omega) O; rw [hwl, hw5] at this; exact this
 (refine aA V Z Z ?_; refine aY V Z Z Z Z Z U Z ?_; refine aA V Z Z (aF (aW ?_)))
 refine aX V Z U fun w hs => ?_
 exact ⟨y, Z, hs.sp U⟩

end Go.Proofs.YtohlillcaadidaaGreat

/- Walks: Robust, Against. -/
namespace Go.Proofs.YtohlillcaadidaaGreat
open Go Go.Eng

theorem oK (r : Rg) (hr : r.Right) (l : List Int) (click : Int) (hl : l.length ≤ 5) : Fine (fG r l click) := by
 have h1 := lE r hr l click l.length
 have h2 := hr.gsum
 exact pN O O

/-- How bad a click is in the worst case. -/
def jD (r : Rg) (ws : List (Int × Int)) (c : Int) : Int × Int := fG r (cF r ws c) c
theorem robQ_fine (r : Rg) (hr : r.Right) (ws : List (Int × Int)) (hw : WindOk ws) (c : Int) : Fine (jD r ws c) := oK r hr _ c (by rw [dF, hw.len]; omega)

set_option maxHeartbeats 1000000 in
theorem rob1_ca (w : World) (b7 b3 bd lo hi : Nat) (t7 t3 : TypeId) (r : Rg) (v : Value) (ws : List (Int × Int)) (c : Int) (hb7 : Blk w b7 [.pointer (some ⟨bd, 0, none⟩)] t7) (hb3 : Blk w b3 [v] t3) (hd : DkAt w bd r) (hr : r.Right) (hl : RdS w lo hi v ws) (hw : WindOk ws) (hc : -1000 ≤ c ∧ c ≤ 1000) :
  Ca Tryz.prog 50 [.int .i64 c, .pointer (some ⟨b7, 0, none⟩), .pointer (some ⟨b3, 0, none⟩)] w fun v w' => v = rtV (jD r ws c) ∧ Chg [] w w' := by
 have hwl := dF r ws c
 have hw5 := hw.len
 have hwb := worstL_bd (r := r) hw c
 obtain ⟨a, cap, rfl, hs⟩ := hl.outI
 refine dB (Sat.nil w M0) Tryz.func50 Z (by simp [Tryz.ntmps50]) ?_
 (refine aE (aB ?_))
 refine aV cO Z (fun b4 => ?_)
 (refine aF (aE ?_))
 refine bX _ [.pt b4 _ _] (Sp.cons U (Sp.refl _)) qR qR ?_
 ((iterate 3 refine dO V Z Z Z (by assumption) (by rfl) ?_); refine aD V Z Z Z ?_)
 refine bD (β := Nat) V [] _ M0 Z Z Z Z (Sp.refl _) qS (fun w' hs => worst_ca w' bd lo hi r _ ws c (hd.keep hs.chg0) hr (RdE.keep hl hs.chg0) hw hc) ?_
 rintro x _ rfl
 (refine aD V Z Z Z ?_)
 refine aS (val := rtV (jD r ws c)) V Z Z Z Z (fun w hs => ?_) ?_; exact by have hbk : Blk w x (aZ (cF r ws c)) 3 := hs.blk U; have := faced_ca w bd x (x + 1) r (.slice (some ⟨x, 0, none⟩) (cF r ws c).length 5) (cF r ws c) c (hd.keep hs.chg0) hr (RdI.of (Blk.rd hbk (by simp) 5)) O (fun y hy => by have := hwb y hy; omega) hc; rw [hwl, hw5] at this; exact this
 (refine bK V Z Z Z Z Z U Z ?_; refine aK (aW ?_))
 refine aX V Z U fun w hs => ?_
 exact ⟨Z, hs.chg0⟩

/-- The robust click, or the error. -/
def nF (r : Rg) (ws : List (Int × Int)) : Int × (Int × Int) × Int :=
 if cN r ws ≠ 0 then (0, (0, 0), cN r ws) else ((fH (jD r ws) (cR r.clicks 0)).1, (fH (jD r ws) (cR r.clicks 0)).2, 0)

set_option maxHeartbeats 1000000 in
theorem robF_ca (w : World) (l0 h1 : Nat) (cs : List Value) (r : Rg) (v : Value) (ws : List (Int × Int)) (h : RgC w cs r) (hsm : r.Small) (hl : RdS w l0 h1 v ws) (hlen : ws.length < 1000000) :
  Ca Tryz.prog 13 [.agg cs.toArray, v] w fun v w' => v = .tuple #[.int .i64 (nF r ws).1, rtV (nF r ws).2.1, .int .i64 (nF r ws).2.2] ∧ Chg [] w w' := by
 have h0 := h
 obtain ⟨lo, hi, ag, cg, ad, cd, af, cf, an, cn, rfl, hg, hdr, hf, hn⟩ := h
 obtain ⟨a, cap, rfl, hs⟩ := hl.outI
 refine dB (Sat.nil w M0) Tryz.func13 Z (by simp [Tryz.ntmps13]) ?_
 (refine aE (aB ?_))
 refine bG Z Z (fun b2 => ?_)
 refine bG Z Z (fun b3 => ?_)
 (refine aA V Z Z ?_)
 refine aV cO Z (fun b5 => ?_)
 (refine aA V Z Z (aF (aE (aB ?_))); refine aI V Z Z Z ?_; refine aH V Z Z Z ?_)
 by_cases hb : cN r ws = 0
 ·obtain ⟨hc0, hw⟩ := (dN r ws).1 hb
  have hR := (bM r).1 hc0
  have hcl := hR.clicks
  refine bO (β := Nat) V [] _ M0 Z Z Z Z (Sp.refl _) qS (fun w' hs => qG w' l0 h1 _ r _ ws (h0.keep hs.chg0) hsm (RdE.keep hl hs.chg0) hb) ?_
  rintro bd _ rfl
  (refine aA V Z Z (bC V Z Z Z (bC V Z Z Z ?_)))
  refine aV zero84 Z (fun b7 => ?_)
  (refine eV V Z Z Z Z U ?_; refine aA V Z Z (aF (aE (aE (aB (aA V Z Z (aA V Z Z (aF (aL Z (aR (aE (aB ?_))))))))))); refine aH V Z Z Z ?_; refine aA V Z Z ?_)
  refine cE #[.func (.func 50) #[] #[.pointer (some ⟨b7, 0, none⟩), .pointer (some ⟨b3, 0, none⟩)]] Z qR Z ?_
  refine aJ (val := .tuple #[.int .i64 (fH (jD r ws) (cR r.clicks 0)).1, rtV (fH (jD r ws) (cR r.clicks 0)).2]) V Z Z Z Z (fun w hs => ?_) ?_; exact best_ca w bd r _ (jD r ws) ⟨_, _, hs.blk U, h0.keep hs.chg0⟩ hcl Z (fun c _ => robQ_fine r hR ws hw c) (fun w' hc' c hcin => CaF.of V qR (rob1_ca w' b7 b3 bd l0 h1 _ _ r _ ws c ((hs.blk (b := b7) U).keep hc') ((hs.blk (b := b3) U).keep hc') (DkAt.keep ⟨_, _, hs.blk (b := bd) U, h0.keep hs.chg0⟩ hc') hR (RdE.keep (RdE.keep hl hs.chg0) hc') hw (by have := bH.1 hcin; omega)))
  (refine aA V Z Z (bC V Z Z Z (bC V Z Z Z ?_)))
  refine aV cO Z (fun b10 => ?_)
  (refine aA V Z Z ?_; refine aY V Z Z Z Z Z U Z ?_; refine aF (aE ?_))
  refine bX _ [.pt b5 _ _] (Sp.cons U (Sp.refl _)) qR qR ?_
  (refine aD V Z Z Z ?_; refine aO V Z Z Z ?_; refine aD V Z Z Z ?_; refine bK V Z Z Z Z Z U Z ?_; refine aD V Z Z Z (aK (aW ?_)))
  refine aX V Z U fun w hs => ?_
  refine ⟨?_, hs.chg0⟩
  simp [fT, nF, hb, rtV]
 ·refine aJ V Z Z Z Z (fun w hs => blown_no w l0 h1 _ r _ ws (h0.keep hs.chg0) hsm (RdE.keep hl hs.chg0) hlen hb) ?_
  (refine aA V Z Z (bC V Z Z Z (bC V Z Z Z ?_)))
  refine aV zero84 Z (fun b7 => ?_)
  (refine eV V Z Z Z Z U ?_; refine aA V Z Z (aF (aE (aE (aB (aA V Z Z (aA V Z Z (aF ?_))))))))
  rw [decide_eq_false hb]
  (refine aM Z (aE (aB ?_)))
  refine cE #[.int .i64 0, .int .i64 0] Z qR Z ?_
  (refine aA V Z Z (aA V Z Z ?_); refine aY V Z Z Z Z Z U Z ?_; refine aA V Z Z (aF (aW ?_)))
  refine aX V Z U fun w hs => ?_
  exact ⟨by simp [fT, nF, hb, rtV], hs.chg0⟩

end Go.Proofs.YtohlillcaadidaaGreat
