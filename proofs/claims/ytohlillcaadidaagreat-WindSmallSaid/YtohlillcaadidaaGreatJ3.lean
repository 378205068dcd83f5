/- My texts S5, S6, S7, B9, Q0, Q1, B10, B11, Q2, Q3, Q4, Q5, Q6, B12, Q7, Q8, Q9, Q10, joined: a claim takes at most 60 files. -/
import Derived.Test.YtohlillcaadidaaGreatJ2

/- Walks: Against. -/
namespace Go.Proofs.YtohlillcaadidaaGreat
open Go Go.Eng

theorem slII : SlT Tryz.prog 23 22 1 24 (.slice none 0 0) := ⟨by kernel_rfl, by kernel_rfl, by kernel_rfl, by decide⟩
/-- Lists, each in a block of its own. -/
def cW (xs : List (Nat × List Int)) : List Ck := xs.map fun p => .pt p.1 (aZ p.2) 3
def dZ (xs : List (Nat × List Int)) : List Value := xs.map fun p => .slice (some ⟨p.1, 0, none⟩) p.2.length p.2.length
theorem worstL5 {r : Rg} {ws : List (Int × Int)} (hw : WindOk ws) (c : Int) : (cF r ws c).length = 5 := by rw [dF, hw.len]

set_option maxHeartbeats 1000000 in
theorem against_no (w : World) (l0 h1 : Nat) (cs : List Value) (r : Rg) (v : Value) (ws : List (Int × Int)) (h : RgC w cs r) (hsm : r.Small) (hl : RdS w l0 h1 v ws) (hlen : ws.length < 1000000) (hb : cN r ws ≠ 0) :
  Ca Tryz.prog 15 [.agg cs.toArray, v] w fun v w' => v = .tuple #[.slice none 0 0, .int .i64 (cN r ws)] ∧ Chg [] w w' := by
 have h0 := h
 obtain ⟨lo, hi, ag, cg, ad, cd, af, cf, an, cn, rfl, hg, hdr, hf, hn⟩ := h
 obtain ⟨a, cap, rfl, hs⟩ := hl.outI
 refine dB (Sat.nil w M0) Tryz.func15 Z (by simp [Tryz.ntmps15]) ?_
 (refine aE (aB ?_))
 refine bG Z Z (fun b2 => ?_)
 (refine aA V Z Z (aA V Z Z (aF (aE (aB ?_)))); refine aI V Z Z Z ?_; refine aA V Z Z ?_)
 refine aJ V Z Z Z Z (fun w hs => blown_no w l0 h1 _ r _ ws (h0.keep hs.chg0) hsm (RdE.keep hl hs.chg0) hlen hb) ?_
 (refine aA V Z Z (bC V Z Z Z (bC V Z Z Z (aA V Z Z (aA V Z Z (aF (aE (aE (aB (aA V Z Z (aA V Z Z (aF ?_))))))))))))
 rw [decide_eq_false hb]
 (refine aM Z (aE (aB ?_)); (iterate 3 refine aA V Z Z ?_); refine aF (aW ?_))
 refine aX V Z U fun w hs => ?_
 exact ⟨Z, hs.chg0⟩

set_option maxHeartbeats 1000000 in
theorem against_ok (w : World) (l0 h1 : Nat) (cs : List Value) (r : Rg) (v : Value) (ws : List (Int × Int)) (h : RgC w cs r) (hsm : r.Small) (hl : RdS w l0 h1 v ws) (hb : cN r ws = 0) :
  Ca Tryz.prog 15 [.agg cs.toArray, v] w fun v w' => ∃ x : Value × List (Nat × List Int), (v = .tuple #[x.1, .int .i64 0] ∧ x.2.map (·.2) = (eT r.clicks).map (cF r ws)) ∧ Sat w M0 [un (cW x.2), .ow x.1 22 1 (2 * r.clicks + 1).toNat (dZ x.2)] w' := by
 obtain ⟨hc0, hw⟩ := (dN r ws).1 hb
 have hR := (bM r).1 hc0
 have hcl := hR.clicks
 have h0 := h
 obtain ⟨lo, hi, ag, cg, ad, cd, af, cf, an, cn, rfl, hg, hdr, hf, hn⟩ := h
 obtain ⟨a, cap, rfl, hs⟩ := hl.outI
 refine dB (Sat.nil w M0) Tryz.func15 Z (by simp [Tryz.ntmps15]) ?_
 (refine aE (aB ?_))
 refine bG Z Z (fun b2 => ?_)
 (refine aA V Z Z (aA V Z Z (aF (aE (aB ?_)))); refine aI V Z Z Z ?_; refine aA V Z Z ?_)
 refine bO (β := Nat) V [] _ M0 Z Z Z Z (Sp.refl _) qS (fun w' hs => qG w' l0 h1 _ r _ ws (h0.keep hs.chg0) hsm (RdE.keep hl hs.chg0) hb) ?_
 rintro bd _ rfl
 (refine aA V Z Z (bC V Z Z Z (bC V Z Z Z (aA V Z Z (aA V Z Z (aF (aE (aE (aB (aA V Z Z (aA V Z Z (aF ?_))))))))))); refine aL Z (aR (aE (aB (aA V Z Z (aF (aE (aE (aB (aA V Z Z ?_))))))))); refine aH V Z Z Z ?_; refine fJ V Z Z O O (aA V Z Z (aF (aP ?_))))
 obtain ⟨CS, hcs⟩ : ∃ CS : List Value, CS = [.int .i64 r.radius, .int .i64 r.unit, .int .i64 r.clicks, .int .i64 r.total, .slice ag r.group.length cg, .slice ad r.drifts.length cd, .slice af r.first.length cf, .slice an r.next.length cn] := ⟨_, rfl⟩
 rw [← hcs] at h0
 have hcs2 : CS[2]? = some (.int .i64 r.clicks) := by rw [hcs]; rfl
 refine fD (H' := [un (cW []), .ow (.slice none 0 0) 22 1 0 (dZ []), .pt bd CS 141, .pt b2 CS 25]) (fun w' hs => by rw [hcs]; exact Sat.un_nil (Sat.ownil (hs.sp U) _ _)) ?_
 refine bN (σ := Nat × Value × List (Nat × List Int)) (fun s => s.1 ≤ (2 * r.clicks + 1).toNat ∧ s.2.2.map (·.2) = ((eT r.clicks).take s.1).map (cF r ws)) (fun s => (2 * r.clicks + 1).toNat - s.1)
  (fun s => [(1, .slice a ws.length cap), (2, .pointer (some ⟨b2, 0, none⟩)), (6, .pointer (some ⟨bd, 0, none⟩)), (8, s.2.1), (9, .int .i64 (-r.clicks + s.1))])
  (fun s => [un (cW s.2.2), .ow s.2.1 22 1 s.1 (dZ s.2.2), .pt bd CS 141, .pt b2 CS 25]) (0, .slice none 0 0, []) ⟨by omega, by simp⟩ ⟨rfl, rfl, rfl, rfl, fE rfl (by simp), trivial⟩ (Sp.refl _) ?_
 rintro ⟨k, va, xs⟩ ⟨hk, hxs⟩ K hK
 simp only at hk hxs
 have hxl : xs.length = k := by
  have := congrArg List.length hxs
  simp [eT] at this
  omega
 (refine aE (aE (aB (aA V Z Z (aA V Z Z ?_)))))
 refine ql_loadB V Z Z Z U hcs2 ?_
 (refine aA V Z Z (aF ?_))
 refine dD Z (fun hc => ?_) (fun hc => ?_)
 ·have hk2 : k < (2 * r.clicks + 1).toNat := by simp only at hc; omega
  have hin : -r.clicks ≤ -r.clicks + (k : Int) ∧ -r.clicks + (k : Int) ≤ r.clicks := by omega
  have hw5 := worstL5 (r := r) hw (-r.clicks + (k : Int))
  (refine aR (aE (aP (aB ?_))); (iterate 4 refine aA V Z Z ?_))
  refine bO (β := Nat) V [] _ M0 Z Z Z Z (Sp.refl _) qS (fun w' hs => worst_ca w' bd l0 h1 r _ ws (-r.clicks + (k : Int)) ⟨_, _, hs.blk (b := bd) U, h0.keep hs.chg0⟩ hR (RdE.keep hl hs.chg0) hw O) ?_
  rintro x _ rfl
  refine dP 22 [.slice (some ⟨x, 0, none⟩) 5 5] Z qR Z (fun bn => ?_)
  refine eH (q := 1) slII Z Z Z (fun v' => by repeat constructor) (fun w' hs => ⟨_, _, Blk.rd (hs.blk (b := bn) U) Z 1⟩) (by simp [dY]) O O (fun va' => ?_)
  (refine aA V Z Z (aF (bL (aB (aA V Z Z (bB V Z Z Z Z O O (aA V Z Z (aF ?_))))))))
  have e1 : dZ (xs ++ [(x, cF r ws (-r.clicks + (k : Int)))]) = dZ xs ++ [.slice (some ⟨x, 0, none⟩) 5 5] := by simp [dZ, hw5]
  have e2 : cW (xs ++ [(x, cF r ws (-r.clicks + (k : Int)))]) = cW xs ++ [.pt x (aZ (cF r ws (-r.clicks + (k : Int)))) 3] := by simp [cW]
  refine fD (H' := [un (cW (xs ++ [(x, cF r ws (-r.clicks + (k : Int)))])), .ow va' 22 1 (k + 1) (dZ (xs ++ [(x, cF r ws (-r.clicks + (k : Int)))])), .pt bd CS 141, .pt b2 CS 25]) (fun w' hs => by
   rw [e1, e2]
   have h1 : Sat w M0 (.pt x (aZ (cF r ws (-r.clicks + (k : Int)))) 3 :: un (cW xs) :: [.ow va' 22 1 (k + 1) (dZ xs ++ [.slice (some ⟨x, 0, none⟩) 5 5]), .pt bd CS 141, .pt b2 CS 25]) w' := hs.sp U
   exact h1.un_in.un_perm (List.perm_append_singleton _ _).symm) ?_
  refine hK (k + 1, va', xs ++ [(x, cF r ws (-r.clicks + (k : Int)))]) _ _ ⟨by simp only; omega, ?_⟩ (by simp only; omega) ⟨Z, Z, Z, Z, fE Z (by simp only; omega), trivial⟩ (Sp.refl _)
  simp only [List.map_append, hxs]
  have e3 : (eT r.clicks).take (k + 1) = (eT r.clicks).take k ++ [-r.clicks + (k : Int)] := by
   rw [List.take_succ_eq_append_getElem (by simpa [eT] using hk2)]
   simp [eT]
   omega
  rw [e3]
  simp
 ·have hk2 : k = (2 * r.clicks + 1).toNat := by simp only at hc; omega
  (refine bJ _ Z (aE (aB ?_)); (iterate 3 refine aA V Z Z ?_); refine aF (aW ?_))
  refine aX V Z U fun w hs => ?_
  refine ⟨(va, xs), ⟨Z, ?_⟩, ?_⟩
  ·rw [hxs, hk2, List.take_of_length_le (by simp [eT])]
  ·rw [← hk2]
   exact hs.sp U

end Go.Proofs.YtohlillcaadidaaGreat

/- Walks: Shows. -/
namespace Go.Proofs.YtohlillcaadidaaGreat
open Go Go.Eng

def shB (l : List Int) : Bool := decide ((l.length : Int) = 5) && true
theorem shows1_p (w : World) (lo hi : Nat) (ll : List (List Int)) : RowP w lo hi (.func (.func 53) #[] #[]) ll shB := by
 refine ⟨_, _, _, Z, Z, fun w' hw' l _ v hv => ?_⟩
 obtain ⟨a, c, rfl, _⟩ := RdI.outI hv
 refine dB (Sat.nil w' M0) Tryz.func53 Z (by simp [Tryz.ntmps53]) ?_
 (refine aE (aB (aA V Z Z (aF (aE (aB ?_))))); (iterate 4 refine aA V Z Z ?_); refine aF (aW ?_))
 refine aX V Z U fun w hs => ?_
 exact ⟨by simp [fT, shB], hs.chg0⟩

def witB (ws : List (Int × Int)) (l : List Int) : Bool := (List.range l.length).all (fun i => inB (l.getD i 0) (ws.getD i (0, 0)).1 (ws.getD i (0, 0)).2) && true
def shQ (r : Rg) (wl : List (List Int)) (c : Int) : Int × Int := fG r (wl.getD (c + r.clicks).toNat []) c
def eA (r : Rg) (ws : List (Int × Int)) (wl : List (List Int)) : (Int × Int) × Int :=
 if cN r ws ≠ 0 then ((0, 0), cN r ws) else if (wl.length : Int) ≠ 2 * r.clicks + 1 then ((0, 0), 2) else if !(wl.all shB) then ((0, 0), 2) else if !(wl.all (witB ws)) then ((0, 0), 8) else ((fH (shQ r wl) (cR r.clicks 0)).2, 0)

set_option maxHeartbeats 1000000 in
theorem shows2_ca (w : World) (b8 b5 b3 bd lo hi : Nat) (t8 t5 t3 : TypeId) (cs : List Value) (r : Rg) (v : Value) (wl : List (List Int)) (c : Int) (hb8 : Blk w b8 [.pointer (some ⟨bd, 0, none⟩)] t8) (hb5 : Blk w b5 [v] t5) (hb3 : Blk w b3 cs t3) (hcs : cs[2]? = some (.int .i64 r.clicks)) (hd : DkAt w bd r) (hr : r.Right)
  (hl : RdII w lo hi v wl) (hwl : (wl.length : Int) = 2 * r.clicks + 1) (hw5 : ∀ l ∈ wl, l.length = 5 ∧ ∀ x ∈ l, -300 ≤ x ∧ x ≤ 300) (hc : -r.clicks ≤ c ∧ c ≤ r.clicks) :
  Ca Tryz.prog 54 [.int .i64 c, .pointer (some ⟨b8, 0, none⟩), .pointer (some ⟨b5, 0, none⟩), .pointer (some ⟨b3, 0, none⟩)] w fun v w' => v = rtV (shQ r wl c) ∧ Chg [] w w' := by
 have hcl := hr.clicks
 obtain ⟨a, cap, rfl, hs⟩ := hl.outI
 obtain ⟨b, off, rfl⟩ := hs O
 obtain ⟨i, hix⟩ : ∃ i : Nat, c + r.clicks = i := ⟨(c + r.clicks).toNat, by omega⟩
 have hil : i < wl.length := by omega
 obtain ⟨ar, cr, hrow, hcell⟩ := hl.row i hil
 obtain ⟨h5, hb⟩ := hw5 _ (List.getElem_mem hil)
 have hq : shQ r wl c = fG r wl[i] c := by unfold shQ; rw [hix]; simp [hil]
 refine dB (Sat.nil w M0) Tryz.func54 Z (by simp [Tryz.ntmps54]) ?_
 (refine aE (aB ?_))
 refine aV cO Z (fun b4 => ?_)
 (refine aF (aE ?_))
 refine bX _ [.pt b4 _ _] (Sp.cons U (Sp.refl _)) qR qR ?_
 ((iterate 2 refine dO V Z Z Z (by assumption) (by rfl) ?_); refine aD V Z Z Z (aD V Z Z Z ?_))
 refine dO V Z Z Z hb3 hcs ?_
 (refine bY V Z Z Z Z O O ?_)
 rw [hix]
 refine bF V Z Z Z Z Z O O ?_
 refine bI (v := .slice ar wl[i].length cr) V Z Z Z (fun w' hs => hcell w' hs.chg0) ?_
 (refine aD V Z Z Z ?_)
 refine aS (val := rtV (shQ r wl c)) V Z Z Z Z (fun w hs => ?_) ?_; exact by rw [hq]; exact faced_ca w bd lo hi r _ wl[i] c (hd.keep hs.chg0) hr (RdE.keep hrow hs.chg0) O (fun y hy => by have := hb y hy; omega) O
 (refine bK V Z Z Z Z Z U Z ?_; refine aK (aW ?_))
 refine aX V Z U fun w hs => ?_
 exact ⟨Z, hs.chg0⟩

theorem witB_at {ws : List (Int × Int)} {l : List Int} (h : witB ws l = true) (i : Nat) (hi : i < l.length) : inB (l.getD i 0) (ws.getD i (0, 0)).1 (ws.getD i (0, 0)).2 = true := by
 simp only [witB, Bool.and_true] at h
 exact List.all_eq_true.1 h i (List.mem_range.2 hi)
theorem witB_of {ws : List (Int × Int)} {l : List Int} (h : ∀ i, i < l.length → inB (l.getD i 0) (ws.getD i (0, 0)).1 (ws.getD i (0, 0)).2 = true) : witB ws l = true := by
 simp only [witB, Bool.and_true]
 exact List.all_eq_true.2 (fun i hi => h i (List.mem_range.1 hi))

set_option maxHeartbeats 4000000 in
theorem showsF_ca (w : World) (l0 h1 l2 h2 : Nat) (cs : List Value) (r : Rg) (v u : Value) (ws : List (Int × Int)) (wl : List (List Int)) (h : RgC w cs r) (hsm : r.Small) (hl : RdS w l0 h1 v ws) (hlen : ws.length < 1000000) (hu : RdII w l2 h2 u wl) (hwlen : wl.length < 1000000) :
  Ca Tryz.prog 17 [.agg cs.toArray, v, u] w fun v w' => v = .tuple #[rtV (eA r ws wl).1, .int .i64 (eA r ws wl).2] ∧ Chg [] w w' := by
 have h0 := h
 obtain ⟨lo, hi, ag, cg, ad, cd, af, cf, an, cn, rfl, hg, hdr, hf, hn⟩ := h
 obtain ⟨a, cap, rfl, hs⟩ := hl.outI
 obtain ⟨au, capu, rfl, hsu⟩ := hu.outI
 refine dB (Sat.nil w M0) Tryz.func17 Z (by simp [Tryz.ntmps17]) ?_
 (refine aE (aB ?_))
 refine bG Z Z (fun b3 => ?_)
 refine bG Z Z (fun b5 => ?_)
 refine aV cO Z (fun b6 => ?_)
 (refine aA V Z Z (aF (aE (aB ?_))); refine aI V Z Z Z ?_; refine aA V Z Z ?_)
 by_cases hb : cN r ws = 0
 ·obtain ⟨hc0, hw⟩ := (dN r ws).1 hb
  have hR := (bM r).1 hc0
  have hcl := hR.clicks
  have hw5 := hw.len
  refine bO (β := Nat) V [] _ M0 Z Z Z Z (Sp.refl _) qS (fun w' hs => qG w' l0 h1 _ r _ ws (h0.keep hs.chg0) hsm (RdE.keep hl hs.chg0) hb) ?_
  rintro bd _ rfl
  (refine aA V Z Z (bC V Z Z Z (bC V Z Z Z ?_)))
  refine aV zero84 Z (fun b8 => ?_)
  (refine eV V Z Z Z Z U ?_; refine aA V Z Z (aF (aE (aP (aE (aB ?_))))); (iterate 3 refine aA V Z Z ?_); refine aF (aL Z (aE (aB ?_))); refine aH V Z Z Z ?_; refine aA V Z Z (aA V Z Z ?_); refine aH V Z Z Z ?_; refine bB V Z Z Z Z O O (bB V Z Z Z Z O O (aA V Z Z (aA V Z Z ?_))))
  by_cases hn1 : (wl.length : Int) = 2 * r.clicks + 1
  ·rw [decide_eq_true hn1]
   (refine aC Z ?_; refine aH V Z Z Z ?_; refine aC Z ?_)
   refine aJ (val := .bool (wl.all shB)) V Z Z Z Z (fun w hs => ?_) ?_; exact allR w l2 h2 _ _ wl _ (hu.keep hs.chg0) hwlen (shows1_p w l2 h2 wl)
   (refine aC Z ?_; (iterate 3 refine aA V Z Z ?_); refine aF ?_)
   cases hsh : wl.all shB with
   | false =>
    (refine aM Z (aE (aB ?_)))
    refine cE #[.int .i64 0, .int .i64 0] Z qR Z ?_
    (refine aY V Z Z Z Z Z U Z ?_; refine aA V Z Z (aF (aW ?_)))
    refine aX V Z U fun w hs => ?_
    refine ⟨?_, hs.chg0⟩
    have e : eA r ws wl = ((0, 0), 2) := by unfold eA; rw [hb, hsh]; simp [hn1]
    rw [e]
    rfl
   | true =>
    have hl5 : ∀ l ∈ wl, l.length = 5 := fun l hl => by
     have := List.all_eq_true.1 hsh l hl
     simp [shB] at this
     omega
    (refine aL Z (aR (bL (aE (aE (aB ?_))))); refine aH V Z Z Z ?_; refine aA V Z Z (aA V Z Z (aF (aP ?_))))
    refine bN (σ := Nat) (fun k => k ≤ wl.length ∧ ∀ j (hj : j < wl.length), j < k → witB ws wl[j] = true) (fun k => wl.length - k)
     (fun k => [(1, .slice a ws.length cap), (3, .pointer (some ⟨b3, 0, none⟩)), (5, .pointer (some ⟨b5, 0, none⟩)), (6, .pointer (some ⟨b6, 0, none⟩)), (8, .pointer (some ⟨b8, 0, none⟩)), (41, .slice au wl.length capu), (42, .int .i64 wl.length), (43, .int .i64 k)])
     (fun k => [.pt b8 [.pointer (some ⟨bd, 0, none⟩)] 84, .pt bd [.int .i64 r.radius, .int .i64 r.unit, .int .i64 r.clicks, .int .i64 r.total, .slice ag r.group.length cg, .slice ad r.drifts.length cd, .slice af r.first.length cf, .slice an r.next.length cn] 141, .pt b6 [.int .i64 0, .int .i64 0] 36, .pt b5 [.slice au wl.length capu] 23, .pt b3 [.int .i64 r.radius, .int .i64 r.unit, .int .i64 r.clicks, .int .i64 r.total, .slice ag r.group.length cg, .slice ad r.drifts.length cd, .slice af r.first.length cf, .slice an r.next.length cn] 25])
     0 ⟨by omega, fun j _ h => by omega⟩ ⟨rfl, rfl, rfl, rfl, rfl, rfl, rfl, rfl, trivial⟩ U ?_
    rintro k ⟨hk, hpre⟩ K hK
    (refine aE (aB (aA V Z Z (aF (aE ?_)))))
    refine dD Z (fun hc => ?_) (fun hc => ?_)
    ·have hk : k < wl.length := by omega
     obtain ⟨bu, ou, rfl⟩ := hsu O
     obtain ⟨ar, cr, hrow, hcell⟩ := hu.row k hk
     have hk5 := hl5 _ (List.getElem_mem hk)
     (refine aR (aE (aP (aE (aB ?_)))))
     refine bW V Z Z Z Z Z O O ?_
     refine cI (v := .slice ar wl[k].length cr) V Z Z Z (fun w' hs => hcell w' hs.chg0) ?_
     (refine aA V Z Z (aF (aE (aB ?_))); (iterate 3 refine aA V Z Z ?_); refine aF (aP ?_))
     obtain ⟨bws, ows, hax⟩ := hs (show 0 < ws.length by omega)
     subst hax
     obtain ⟨a2, c2, hsl2, hsd2⟩ := RdI.outI hrow
     cases hsl2
     obtain ⟨br, orr, hax2⟩ := hsd2 O
     subst hax2
     refine bN (σ := Nat) (fun i => i ≤ wl[k].length ∧ ∀ j, j < i → inB (wl[k].getD j 0) (ws.getD j (0, 0)).1 (ws.getD j (0, 0)).2 = true) (fun i => wl[k].length - i)
      (fun i => [(1, .slice (some ⟨bws, ows, none⟩) ws.length cap), (3, .pointer (some ⟨b3, 0, none⟩)), (5, .pointer (some ⟨b5, 0, none⟩)), (6, .pointer (some ⟨b6, 0, none⟩)), (8, .pointer (some ⟨b8, 0, none⟩)), (41, .slice (some ⟨bu, ou, none⟩) wl.length capu), (42, .int .i64 wl.length), (43, .int .i64 k), (47, .slice (some ⟨br, orr, none⟩) wl[k].length cr), (48, .int .i64 wl[k].length), (49, .int .i64 i)])
      (fun i => [.pt b8 [.pointer (some ⟨bd, 0, none⟩)] 84, .pt bd [.int .i64 r.radius, .int .i64 r.unit, .int .i64 r.clicks, .int .i64 r.total, .slice ag r.group.length cg, .slice ad r.drifts.length cd, .slice af r.first.length cf, .slice an r.next.length cn] 141, .pt b6 [.int .i64 0, .int .i64 0] 36, .pt b5 [.slice (some ⟨bu, ou, none⟩) wl.length capu] 23, .pt b3 [.int .i64 r.radius, .int .i64 r.unit, .int .i64 r.clicks, .int .i64 r.total, .slice ag r.group.length cg, .slice ad r.drifts.length cd, .slice af r.first.length cf, .slice an r.next.length cn] 25])
      0 ⟨by omega, fun j h => by omega⟩ ⟨rfl, rfl, rfl, rfl, rfl, rfl, rfl, rfl, rfl, rfl, rfl, trivial⟩ U ?_
     rintro i ⟨hi5, hpi⟩ K2 hK2
     (refine aE (aB (aA V Z Z (aF (aE ?_)))))
     refine dD Z (fun hc => ?_) (fun hc => ?_)
     ·have hi6 : i < wl[k].length := by omega
      have hi7 : i < ws.length := by omega
      (refine aR (aE (aP (aE (aB (aA V Z Z ?_))))))
      (refine bW V Z Z Z Z Z O O ?_; refine cI V Z Z Z (fun w hs => RdI.at (RdE.keep hrow hs.chg0) i hi6) ?_)
      (refine aA V Z Z (aA V Z Z (aF (aE ?_))))
      refine bX _ [] (Sp.refl _) qR qR ?_
      ((iterate 3 refine aD V Z Z Z ?_))
      refine bF V Z Z Z Z Z O O ?_
      (refine aD V Z Z Z ?_)
      refine bI V Z Z Z (fun w hs => RdS.at0 (RdE.keep hl hs.chg0) i hi7) ?_
      (refine aD V Z Z Z (aD V Z Z Z ?_))
      refine bF V Z Z Z Z Z O O ?_
      (refine aD V Z Z Z ?_)
      refine bI V Z Z Z (fun w hs => RdS.at1 (RdE.keep hl hs.chg0) i hi7) ?_
      have e1 : wl[k].getD i 0 = wl[k][i] := by simp [hi6]
      have e2 : ws.getD i (0, 0) = ws[i] := by simp [hi7]
      refine aS (val := .bool (inB wl[k][i] ws[i].1 ws[i].2)) V Z Z Z Z (fun w hs => ?_) ?_; exact fW _ _ _ w
      cases hin : inB wl[k][i] ws[i].1 ws[i].2 with
      | true =>
       (refine aD V Z Z Z (aK (aL Z (aR (bL (aB (bB V Z Z Z Z O O (aA V Z Z (aF ?_)))))))))
       refine hK2 (i + 1) _ _ ⟨by omega, fun j hj => ?_⟩ O ⟨Z, Z, Z, Z, Z, Z, Z, Z, Z, Z, Z, trivial⟩ U
       by_cases hji : j < i
       ·exact hpi j hji
       ·obtain rfl : j = i := by omega
        rw [e1, e2]; exact hin
      | false =>
       (refine aD V Z Z Z (aK (aM Z (aE (aB ?_)))))
       refine cE #[.int .i64 0, .int .i64 0] Z qR Z ?_
       (refine aY V Z Z Z Z Z U Z ?_; refine aA V Z Z (aF (aW ?_)))
       refine aX V Z U fun w hs => ?_
       refine ⟨?_, hs.chg0⟩
       have hall : wl.all (witB ws) = false := by
        cases h : wl.all (witB ws)
        ·rfl
        ·have := witB_at (List.all_eq_true.1 h _ (List.getElem_mem hk)) i hi6
         rw [e1, e2, hin] at this
         cases this
       have e : eA r ws wl = ((0, 0), 8) := by unfold eA; rw [hb, hsh, hall]; simp [hn1]
       rw [e]
       rfl
     ·have hi8 : i = wl[k].length := by omega
      (refine bJ _ Z (bL (aB (bB V Z Z Z Z O O (aA V Z Z (aF ?_))))))
      refine hK (k + 1) _ _ ⟨by omega, fun j hj hjk => ?_⟩ O ⟨Z, Z, Z, Z, Z, Z, Z, Z, trivial⟩ U
      by_cases hj2 : j < k
      ·exact hpre j hj hj2
      ·obtain rfl : j = k := by omega
       exact witB_of (fun i hi => hpi i O)
    ·have hk2 : k = wl.length := by omega
     have hall : wl.all (witB ws) = true := List.all_eq_true.2 (fun l hl => by
      obtain ⟨j, hj, rfl⟩ := List.getElem_of_mem hl
      exact hpre j hj O)
     have hwb : ∀ l ∈ wl, l.length = 5 ∧ ∀ x ∈ l, -300 ≤ x ∧ x ≤ 300 := fun l hl => by
      refine ⟨hl5 l hl, fun x hx => ?_⟩
      obtain ⟨i, hi, rfl⟩ := List.getElem_of_mem hx
      have h1 := bH.1 (witB_at (List.all_eq_true.1 hall l hl) i hi)
      have h5 := hl5 l hl
      have hi7 : i < ws.length := by omega
      have h2 := hw.sp _ (List.getElem_mem hi7)
      simp only [List.getD_eq_getElem?_getD, List.getElem?_eq_getElem hi, List.getElem?_eq_getElem hi7, Option.getD_some] at h1
      omega
     (refine bJ _ Z (aE (aB ?_)); refine aH V Z Z Z ?_; refine aA V Z Z ?_)
     refine cE #[.func (.func 54) #[] #[.pointer (some ⟨b8, 0, none⟩), .pointer (some ⟨b5, 0, none⟩), .pointer (some ⟨b3, 0, none⟩)]] Z qR Z ?_
     refine aJ (val := .tuple #[.int .i64 (fH (shQ r wl) (cR r.clicks 0)).1, rtV (fH (shQ r wl) (cR r.clicks 0)).2]) V Z Z Z Z (fun w hs => ?_) ?_; exact best_ca w bd r _ (shQ r wl) ⟨_, _, hs.blk (b := bd) U, h0.keep hs.chg0⟩ hcl Z (fun c hcin => oK r hR _ c (by have h3 := bH.1 hcin; have h4 : (c + r.clicks).toNat < wl.length := O; have := hl5 _ (List.getElem_mem h4); simp only [List.getD_eq_getElem?_getD, List.getElem?_eq_getElem h4, Option.getD_some]; omega)) (fun w' hc' c hcin => CaF.of V qR (shows2_ca w' b8 b5 b3 bd l2 h2 _ _ _ _ r _ wl c ((hs.blk (b := b8) U).keep hc') ((hs.blk (b := b5) U).keep hc') ((hs.blk (b := b3) U).keep hc') Z (DkAt.keep ⟨_, _, hs.blk (b := bd) U, h0.keep hs.chg0⟩ hc') hR (RdII.keep (RdII.keep hu hs.chg0) hc') hn1 hwb (bH.1 hcin)))
     (refine aA V Z Z (bC V Z Z Z (bC V Z Z Z ?_)))
     refine aV cO Z (fun b15 => ?_)
     (refine aA V Z Z ?_; refine aY V Z Z Z Z Z U Z ?_; refine aF (aE (aB ?_)); refine aI V Z Z Z ?_; refine aY V Z Z Z Z Z U Z ?_; refine aA V Z Z (aF (aW ?_)))
     refine aX V Z U fun w hs => ?_
     refine ⟨?_, hs.chg0⟩
     have e : eA r ws wl = ((fH (shQ r wl) (cR r.clicks 0)).2, 0) := by unfold eA; rw [hb, hsh, hall]; simp [hn1]
     rw [e]
     rfl
  ·rw [decide_eq_false hn1]
   ((iterate 3 refine bA Z Z Z ?_); refine aA V Z Z (aA V Z Z (aF (aM Z (aE (aB ?_))))))
   refine cE #[.int .i64 0, .int .i64 0] Z qR Z ?_
   (refine aY V Z Z Z Z Z U Z ?_; refine aA V Z Z (aF (aW ?_)))
   refine aX V Z U fun w hs => ?_
   refine ⟨?_, hs.chg0⟩
   have e : eA r ws wl = ((0, 0), 2) := by unfold eA; rw [hb]; simp [hn1]
   rw [e]
   rfl
 ·refine aJ V Z Z Z Z (fun w hs => blown_no w l0 h1 _ r _ ws (h0.keep hs.chg0) hsm (RdE.keep hl hs.chg0) hlen hb) ?_
  (refine aA V Z Z (bC V Z Z Z (bC V Z Z Z ?_)))
  refine aV zero84 Z (fun b8 => ?_)
  (refine eV V Z Z Z Z U ?_; refine aA V Z Z (aF (aE (aP (aE (aB ?_))))); (iterate 3 refine aA V Z Z ?_); refine aF ?_)
  rw [decide_eq_false hb]
  (refine aM Z (aE (aB ?_)))
  refine cE #[.int .i64 0, .int .i64 0] Z qR Z ?_
  (refine aA V Z Z ?_; refine aY V Z Z Z Z Z U Z ?_; refine aA V Z Z (aF (aW ?_)))
  refine aX V Z U fun w hs => ?_
  refine ⟨?_, hs.chg0⟩
  have e : eA r ws wl = ((0, 0), cN r ws) := by unfold eA; rw [if_pos hb]
  rw [e]
  rfl

end Go.Proofs.YtohlillcaadidaaGreat

/- Walks: Drift, Zero. -/
namespace Go.Proofs.YtohlillcaadidaaGreat
open Go Go.Eng

theorem drift1_p (w : World) (l : List (Int × Int)) : PredAt Tryz.prog tab w (.func (.func 99) #[] #[]) (l.map rtV) (pSp 1000) := by
 refine ⟨_, _, _, Z, Z, fun w' hw' x hx => ?_⟩
 obtain ⟨⟨a, b⟩, hy, rfl⟩ := List.mem_map.1 hx
 refine dB (Sat.nil w' M0) Tryz.func99 Z (by simp [Tryz.ntmps99]) ?_
 (refine aE (aB ?_))
 refine bG Z Z (fun b1 => ?_)
 (refine aA V Z Z (aF (aE (aB (aA V Z Z ?_)))); refine aH V Z Z Z ?_; refine aA V Z Z ?_; refine aH V Z Z Z ?_; refine aA V Z Z (aA V Z Z ?_))
 refine bU Z Z (fun hc => ?_) (fun hc => ?_)
 ·(refine aC Z (aA V Z Z (aC Z ?_)); refine aH V Z Z Z ?_; refine aC Z ?_; (iterate 3 refine aA V Z Z ?_))
  refine bU Z Z (fun hc => ?_) (fun hc => ?_)
  ·(refine aC Z (aA V Z Z (aC Z ?_)); refine aH V Z Z Z ?_; refine aC Z ?_; (iterate 3 refine aA V Z Z ?_); refine aF (aW ?_))
   refine aX V Z U fun w hs => ?_
   exact ⟨by simp at *; simp [fT, pSp, rtV, spB, *], hs.chg0⟩
  ·((iterate 3 refine bA Z Z Z ?_); refine aA V Z Z (aA V Z Z (aF (aW ?_))))
   refine aX V Z U fun w hs => ?_
   refine ⟨?_, hs.chg0⟩
   simp at hc
   simp [fT, pSp, rtV, spB]
   omega
 ·((iterate 3 refine bA Z Z Z ?_); refine aA V Z Z (aA V Z Z ?_); (iterate 3 refine bA Z Z Z ?_); refine aA V Z Z (aA V Z Z (aF (aW ?_))))
  refine aX V Z U fun w hs => ?_
  refine ⟨?_, hs.chg0⟩
  simp at hc
  simp [fT, pSp, rtV, spB]
  omega
theorem drift2_p (w : World) (es : List Int) : PredAt Tryz.prog tab w (.func (.func 100) #[] #[]) (aZ es) (pI 0 100) := by
 refine ⟨_, _, _, Z, Z, fun w' hw' x hx => ?_⟩
 obtain ⟨y, hy, rfl⟩ := List.mem_map.1 hx
 refine dB (Sat.nil w' M0) Tryz.func100 Z (by simp [Tryz.ntmps100]) ?_
 (refine aE (aB (aA V Z Z (aF (aE (aB (aA V Z Z ?_)))))))
 refine aJ V Z Z Z Z (fun w hs => fW y 0 100 w) ?_
 (refine aA V Z Z (aF (aW ?_)))
 refine aX V Z U fun w hs => ?_
 exact ⟨Z, hs.chg0⟩
theorem zero1_p (w : World) (es : List Int) : PredAt Tryz.prog tab w (.func (.func 88) #[] #[]) (aZ es) (pI (-1000) 1000) := by
 refine ⟨_, _, _, Z, Z, fun w' hw' x hx => ?_⟩
 obtain ⟨y, hy, rfl⟩ := List.mem_map.1 hx
 refine dB (Sat.nil w' M0) Tryz.func88 Z (by simp [Tryz.ntmps88]) ?_
 (refine aE (aB (aA V Z Z (aF (aE (aB (aA V Z Z ?_)))))))
 refine aJ V Z Z Z Z (fun w hs => fW y (-1000) 1000 w) ?_
 (refine aA V Z Z (aF (aW ?_)))
 refine aX V Z U fun w hs => ?_
 exact ⟨Z, hs.chg0⟩

def drLo (fl : List (Int × Int)) (we : List Int) (n : Nat) : Int := cV (fun i => we.getD i 0 * (fl.getD i (0, 0)).1) n
def drHi (fl : List (Int × Int)) (we : List Int) (n : Nat) : Int := cV (fun i => we.getD i 0 * (fl.getD i (0, 0)).2) n
def eR (fl : List (Int × Int)) (we : List Int) : (Int × Int) × Int :=
 if !(inB fl.length 1 6) then ((0, 0), 2) else if (we.length : Int) ≠ fl.length then ((0, 0), 2) else if !(fl.all (spB 1000)) then ((0, 0), 3) else if !(we.all (fun n => inB n 0 100)) then ((0, 0), 3) else ((drLo fl we fl.length, drHi fl we fl.length), 0)

set_option maxHeartbeats 4000000 in
theorem driftF_ca (w : World) (l0 h1 l2 h2 : Nat) (v u : Value) (fl : List (Int × Int)) (we : List Int) (hl : RdS w l0 h1 v fl) (hlen : fl.length < 1000000) (hu : RdI w l2 h2 u we) (hwlen : we.length < 1000000) :
  Ca Tryz.prog 36 [v, u] w fun v w' => v = .tuple #[rtV (eR fl we).1, .int .i64 (eR fl we).2] ∧ Chg [] w w' := by
 obtain ⟨a, cap, rfl, hs⟩ := RdS.outI hl
 obtain ⟨au, capu, rfl, hsu⟩ := RdI.outI hu
 refine dB (Sat.nil w M0) Tryz.func36 Z (by simp [Tryz.ntmps36]) ?_
 (refine aE (aB ?_))
 refine aV qI Z (fun b4 => ?_)
 (refine aA V Z Z (aF (aE (aP (aE (aB (aA V Z Z (aA V Z Z ?_))))))))
 refine aJ (val := .bool (inB fl.length 1 6)) V Z Z Z Z (fun w hs => ?_) ?_; exact fW _ _ _ w
 cases h1' : inB fl.length 1 6 with
 | false =>
  (refine aA V Z Z (aA V Z Z ?_); (iterate 5 refine bA Z Z Z ?_); refine aA V Z Z (aA V Z Z (aF (aM Z (aE (aB ?_))))))
  refine cE #[.int .i64 0, .int .i64 0] Z qR Z ?_
  (refine aY V Z Z Z Z Z U Z ?_; refine aA V Z Z (aF (aW ?_)))
  refine aX V Z U fun w hs => ?_
  refine ⟨?_, hs.chg0⟩
  have e : eR fl we = ((0, 0), 2) := by unfold eR; rw [h1']; simp
  rw [e]; rfl
 | true =>
  have hf6 := bH.1 h1'
  by_cases h2' : (we.length : Int) = fl.length
  ·(refine aA V Z Z (aA V Z Z (aC Z (aA V Z Z (aC Z (aA V Z Z (aC Z (aA V Z Z (aC Z (aA V Z Z (aC Z ?_)))))))))); (iterate 3 refine aA V Z Z ?_); refine aF ?_)
   rw [decide_eq_true h2']
   (refine aL Z (aE (aB (aA V Z Z ?_))))
   refine aJ (val := .bool (fl.all (spB 1000))) V Z Z Z Z (fun w hs => ?_) ?_; exact by have := all_span w l0 h1 _ _ (fl.map rtV) (pSp 1000) (RdE.keep hl hs.chg0) (rtV_agg fl) (by simp; omega) (drift1_p w fl); rw [pSp_all] at this; exact this
   cases h3' : fl.all (spB 1000) with
   | false =>
    (refine aA V Z Z (aA V Z Z ?_); (iterate 3 refine bA Z Z Z ?_); refine aA V Z Z (aA V Z Z (aF (aM Z (aE (aB ?_))))))
    refine cE #[.int .i64 0, .int .i64 0] Z qR Z ?_
    (refine aY V Z Z Z Z Z U Z ?_; refine aA V Z Z (aF (aW ?_)))
    refine aX V Z U fun w hs => ?_
    refine ⟨?_, hs.chg0⟩
    have e : eR fl we = ((0, 0), 3) := by unfold eR; rw [h1', h3']; simp [h2']
    rw [e]; rfl
   | true =>
    (refine aA V Z Z (aA V Z Z (aC Z (aA V Z Z (aC Z ?_)))))
    refine aJ (val := .bool (we.all (fun n => inB n 0 100))) V Z Z Z Z (fun w hs => ?_) ?_; exact by have := lC w l2 h2 _ _ (aZ we) (pI 0 100) (RdE.keep hu hs.chg0) (iB _) (by simp; omega) (drift2_p w we); rw [qF] at this; exact this
    cases h4' : we.all (fun n => inB n 0 100) with
    | false =>
     (refine aC Z ?_; (iterate 3 refine aA V Z Z ?_); refine aF (aM Z (aE (aB ?_))))
     refine cE #[.int .i64 0, .int .i64 0] Z qR Z ?_
     (refine aY V Z Z Z Z Z U Z ?_; refine aA V Z Z (aF (aW ?_)))
     refine aX V Z U fun w hs => ?_
     refine ⟨?_, hs.chg0⟩
     have e : eR fl we = ((0, 0), 3) := by unfold eR; rw [h1', h3', h4']; simp [h2']
     rw [e]; rfl
    | true =>
     have hfb : ∀ i (hi : i < fl.length), -1000 ≤ fl[i].1 ∧ fl[i].1 ≤ 1000 ∧ -1000 ≤ fl[i].2 ∧ fl[i].2 ≤ 1000 := fun i hi => by
      have := List.all_eq_true.1 h3' _ (List.getElem_mem hi)
      simp [spB] at this
      omega
     have hwb : ∀ i (hi : i < we.length), 0 ≤ we[i] ∧ we[i] ≤ 100 := fun i hi => bH.1 (List.all_eq_true.1 h4' _ (List.getElem_mem hi))
     have hbd : ∀ n, n ≤ fl.length → -(100000 * (n : Int)) ≤ drLo fl we n ∧ drLo fl we n ≤ 100000 * n ∧ -(100000 * (n : Int)) ≤ drHi fl we n ∧ drHi fl we n ≤ 100000 * n := by
      intro n
      induction n with
      | zero => intro _; simp [drLo, drHi, cV]
      | succ n ih =>
       intro hn
       have ih := ih O
       have hn1 : n < fl.length := by omega
       have hn2 : n < we.length := by omega
       have b1 := hfb n hn1
       have b2 := hwb n hn2
       have m1 := gK (A := 100) (B := 1000) (show -100 ≤ we[n] ∧ we[n] ≤ 100 by omega) (show -1000 ≤ fl[n].1 ∧ fl[n].1 ≤ 1000 by omega)
       have m2 := gK (A := 100) (B := 1000) (show -100 ≤ we[n] ∧ we[n] ≤ 100 by omega) (show -1000 ≤ fl[n].2 ∧ fl[n].2 ≤ 1000 by omega)
       have e1 : drLo fl we (n + 1) = drLo fl we n + we[n] * fl[n].1 := by simp [drLo, cV, hn1, hn2]
       have e2 : drHi fl we (n + 1) = drHi fl we n + we[n] * fl[n].2 := by simp [drHi, cV, hn1, hn2]
       omega
     obtain ⟨b, off, rfl⟩ := hs O
     obtain ⟨bu, ou, rfl⟩ := hsu O
     (refine aC Z ?_; (iterate 3 refine aA V Z Z ?_); refine aF (aL Z (aR (bL (aE (aB ?_))))))
     refine aV qI Z (fun b6 => ?_)
     (refine aF (aE (aE (aB ?_))); (iterate 3 refine aA V Z Z ?_); refine aF (aP ?_))
     refine bN (σ := Nat) (fun k => k ≤ fl.length) (fun k => fl.length - k) (fun k => [(1, .slice (some ⟨bu, ou, none⟩) we.length capu), (4, .pointer (some ⟨b4, 0, none⟩)), (6, .pointer (some ⟨b6, 0, none⟩)), (32, .slice (some ⟨b, off, none⟩) fl.length cap), (33, .int .i64 fl.length), (34, .int .i64 k)])
      (fun k => [.pt b6 [.int .i64 (drLo fl we k), .int .i64 (drHi fl we k)] 32, .pt b4 [.int .i64 0, .int .i64 0] 32]) 0 O ⟨rfl, rfl, rfl, rfl, rfl, rfl, trivial⟩ U ?_
     intro k hk K hK
     (refine aE (aB (aA V Z Z (aF (aE ?_)))))
     refine dD Z (fun hc => ?_) (fun hc => ?_)
     ·have hk : k < fl.length := by omega
      have hk2 : k < we.length := by omega
      have b1 := hfb k hk
      have b2 := hwb k hk2
      have b3 := hbd k O
      have m1 := gK (A := 100) (B := 1000) (show -100 ≤ we[k] ∧ we[k] ≤ 100 by omega) (show -1000 ≤ fl[k].1 ∧ fl[k].1 ≤ 1000 by omega)
      have m2 := gK (A := 100) (B := 1000) (show -100 ≤ we[k] ∧ we[k] ≤ 100 by omega) (show -1000 ≤ fl[k].2 ∧ fl[k].2 ≤ 1000 by omega)
      have e1 : drLo fl we (k + 1) = drLo fl we k + we[k] * fl[k].1 := by simp [drLo, cV, hk, hk2]
      have e2 : drHi fl we (k + 1) = drHi fl we k + we[k] * fl[k].2 := by simp [drHi, cV, hk, hk2]
      (refine aR (aE (aP (aE (aB (aA V Z Z ?_))))))
      (refine bW V Z Z Z Z Z O O ?_; refine ql_loadA V Z Z Z Z (fun w hs => RdS.at (RdE.keep hl hs.chg0) k hk) ?_)
      refine aV qI Z (fun b8 => ?_)
      (refine aA V Z Z ?_; refine aY V Z Z Z Z Z U Z ?_; refine aF (aE ?_))
      refine gW 10 _ [.pt b6 _ _] (Sp.cons U (Sp.refl _)) qR qR qR fun K1 hK1 => ?_
      (refine aD V Z Z Z ?_; refine aT V Z Z Z ?_; refine aD V Z Z Z (aD V Z Z Z ?_))
      (refine bF V Z Z Z Z Z O O ?_; refine bI V Z Z Z (fun w hs => RdI.at (RdE.keep hu hs.chg0) k hk2) ?_)
      (refine aD V Z Z Z ?_; refine aT V Z Z Z ?_; refine bY V Z Z Z Z O O (bY V Z Z Z Z O O (aK ?_)))
      refine hK1 _ _ [.pt b6 _ _] (Sp.cons U (U)) ?_
      (refine aD V Z Z Z ?_; refine qf_st0 V Z Z Z Z U ?_; refine aK ?_)
      refine gW 10 _ [.pt b6 _ _] (Sp.cons U (Sp.refl _)) qR qR qR fun K1 hK1 => ?_
      (refine aD V Z Z Z ?_; refine aT V Z Z Z ?_; refine aD V Z Z Z (aD V Z Z Z ?_))
      (refine bF V Z Z Z Z Z O O ?_; refine bI V Z Z Z (fun w hs => RdI.at (RdE.keep hu hs.chg0) k hk2) ?_)
      (refine aD V Z Z Z ?_; refine aT V Z Z Z ?_; refine bY V Z Z Z Z O O (bY V Z Z Z Z O O (aK ?_)))
      refine hK1 _ _ [.pt b6 _ _] (Sp.cons U (U)) ?_
      (refine aD V Z Z Z ?_; refine qf_st1 V Z Z Z Z U ?_; refine aK (bL (aB (bB V Z Z Z Z O O (aA V Z Z (aF ?_))))))
      exact hK (k + 1) _ _ O O ⟨Z, Z, Z, Z, Z, Z, trivial⟩ (by rw [e1, e2]; repeat constructor)
     ·obtain rfl : k = fl.length := by omega
      (refine bJ _ Z (aE (aB ?_)); refine aI V Z Z Z ?_; refine aY V Z Z Z Z Z U Z ?_; refine aA V Z Z (aF (aW ?_)))
      refine aX V Z U fun w hs => ?_
      refine ⟨?_, hs.chg0⟩
      have e : eR fl we = ((drLo fl we fl.length, drHi fl we fl.length), 0) := by unfold eR; rw [h1', h3', h4']; simp [h2']
      rw [e]; rfl
  ·(refine aA V Z Z (aA V Z Z (aC Z (aA V Z Z (aC Z (aA V Z Z (aC Z (aA V Z Z (aC Z (aA V Z Z (aC Z ?_)))))))))); (iterate 3 refine aA V Z Z ?_); refine aF ?_)
   rw [decide_eq_false h2']
   (refine aM Z (aE (aB ?_)))
   refine cE #[.int .i64 0, .int .i64 0] Z qR Z ?_
   (refine aY V Z Z Z Z Z U Z ?_; refine aA V Z Z (aF (aW ?_)))
   refine aX V Z U fun w hs => ?_
   refine ⟨?_, hs.chg0⟩
   have e : eR fl we = ((0, 0), 2) := by unfold eR; rw [h1']; simp [h2']
   rw [e]; rfl

/-! Zero -/
def zerN (r : Rg) (l : List Int) (c : Int) (n : Nat) : Int := cV (fun i => if hitB r (l.getD i 0 + c * r.unit) then 0 else 1) n
def zerQ (r : Rg) (l : List Int) (c : Int) : Int × Int := ratioV (zerN r l c l.length) 1
theorem zerN_bd (r : Rg) (l : List Int) (c : Int) (n : Nat) : 0 ≤ zerN r l c n ∧ zerN r l c n ≤ 1 * n := mK _ 1 n (fun i _ => by split <;> omega)
def iV (r : Rg) (l : List Int) : Int × Int :=
 if checkV r ≠ 0 then (0, checkV r) else if 20 < (l.length : Int) then (0, 2) else if !(l.all (fun n => inB n (-1000) 1000)) then (0, 3) else ((fH (zerQ r l) (cR r.clicks 0)).1, 0)

set_option maxHeartbeats 2000000 in
theorem zero2_ca (w : World) (b3 b6 bd lo hi : Nat) (t3 t6 : TypeId) (r : Rg) (v : Value) (l : List Int) (c : Int) (hb3 : Blk w b3 [v] t3) (hb6 : Blk w b6 [.pointer (some ⟨bd, 0, none⟩)] t6) (hd : DkAt w bd r) (hr : r.Right) (hl : RdI w lo hi v l) (hlen : l.length ≤ 20) (hbl : ∀ x ∈ l, -1000 ≤ x ∧ x ≤ 1000) (hcb : -1000 ≤ c ∧ c ≤ 1000) :
  Ca Tryz.prog 89 [.int .i64 c, .pointer (some ⟨b3, 0, none⟩), .pointer (some ⟨b6, 0, none⟩)] w fun v w' => v = rtV (zerQ r l c) ∧ Chg [] w w' := by
 have hd0 := hd
 obtain ⟨cs, bt, hblk, lo, hi, ag, cg, ad, cd, af, cf, an, cn, rfl, hg, hdr, hf, hn⟩ := hd
 have hun := hr.unit
 obtain ⟨a, cap, rfl, hs⟩ := RdI.outI hl
 refine dB (Sat.nil w M0) Tryz.func89 Z (by simp [Tryz.ntmps89]) ?_
 (refine aE (aB ?_))
 refine aV cO Z (fun b4 => ?_)
 (refine aF (aE (aB (aA V Z Z (aF (aE (aE (aB ?_))))))); refine eN V Z Z Z (by assumption) (by rfl) ?_; refine aA V Z Z (aA V Z Z (aF (aP ?_))))
 refine bN (σ := Nat) (fun k => k ≤ l.length) (fun k => l.length - k) (fun k => [(0, .int .i64 c), (2, .pointer (some ⟨b6, 0, none⟩)), (4, .pointer (some ⟨b4, 0, none⟩)), (5, .int .i64 (zerN r l c k)), (8, .slice a l.length cap), (9, .int .i64 l.length), (10, .int .i64 k)])
  (fun _ => [.pt b4 [.int .i64 0, .int .i64 0] 36]) 0 O ⟨rfl, rfl, rfl, rfl, rfl, rfl, rfl, trivial⟩ U ?_
 intro k hk K hK
 have hzb := zerN_bd r l c k
 (refine aE (aB (aA V Z Z (aF (aE ?_)))))
 refine dD Z (fun hc => ?_) (fun hc => ?_)
 ·have hk : k < l.length := by omega
  obtain ⟨b0, off, rfl⟩ := hs O
  have h1 := hbl _ (List.getElem_mem hk)
  have h2 := gK (A := 1000) (B := 20) hcb (show -20 ≤ r.unit ∧ r.unit ≤ 20 by omega)
  have h3 : zerN r l c (k + 1) = zerN r l c k + (if hitB r (l[k] + c * r.unit) then 0 else 1) := by simp [zerN, cV, hk]
  (refine aR (aE (aP (aE (aB ?_)))))
  (refine bW V Z Z Z Z Z O O ?_; refine cI V Z Z Z (fun w hs => RdI.at (RdE.keep hl hs.chg0) k hk) ?_)
  (refine aA V Z Z (aF (aE ?_)))
  refine bX _ [] (Sp.refl _) qR qR ?_
  (refine dO V Z Z Z (by assumption) (by rfl) ?_; refine aD V Z Z Z (aD V Z Z Z ?_); refine dO V Z Z Z (by assumption) (by rfl) ?_; (iterate 3 refine aD V Z Z Z ?_); refine dO V Z Z Z (by assumption) (by rfl) ?_; refine bY V Z Z Z Z O O (bY V Z Z Z Z O O ?_))
  refine aS (val := .bool (hitB r (l[k] + c * r.unit))) V Z Z Z Z (fun w hs => ?_) ?_; exact hits_ca w bd r _ (hd0.keep hs.chg0) hr.radius
  cases hh : hitB r (l[k] + c * r.unit) with
  | true =>
   rw [hh] at h3
   (refine aD V Z Z Z (aK (aL Z (aR (bL (aB (bB V Z Z Z Z O O (aA V Z Z (aF ?_)))))))))
   exact hK (k + 1) _ _ O O ⟨Z, Z, Z, fE Z (by rw [h3]; simp), Z, Z, Z, trivial⟩ U
  | false =>
   rw [hh] at h3
   (refine aD V Z Z Z (aK (aM Z (aB (aA V Z Z (bB V Z Z Z Z O O (aA V Z Z (aF (bL (aB (bB V Z Z Z Z O O (aA V Z Z ?_))))))))))); refine aF ?_)
   exact hK (k + 1) _ _ O O ⟨Z, Z, Z, fE Z (by rw [h3]; simp), Z, Z, Z, trivial⟩ U
 ·obtain rfl : k = l.length := by omega
  (refine bJ _ Z (aE (aB (aA V Z Z ?_))))
  refine aJ (val := rtV (zerQ r l c)) V Z Z Z Z (fun w hs => ?_) ?_; exact nD _ 1 w O O O O
  (refine aY V Z Z Z Z Z U Z ?_; refine aF (aW ?_))
  refine aX V Z U fun w hs => ?_
  exact ⟨Z, hs.chg0⟩

set_option maxHeartbeats 2000000 in
theorem zeroF_ca (w : World) (l0 h1 : Nat) (cs : List Value) (r : Rg) (v : Value) (l : List Int) (h : RgC w cs r) (hsm : r.Small) (hl : RdI w l0 h1 v l) (hlen : l.length < 1000000) :
  Ca Tryz.prog 32 [.agg cs.toArray, v] w fun v w' => v = .tuple #[.int .i64 (iV r l).1, .int .i64 (iV r l).2] ∧ Chg [] w w' := by
 have h0 := h
 obtain ⟨lo, hi, ag, cg, ad, cd, af, cf, an, cn, rfl, hg, hdr, hf, hn⟩ := h
 obtain ⟨a, cap, rfl, hs⟩ := RdI.outI hl
 refine dB (Sat.nil w M0) Tryz.func32 Z (by simp [Tryz.ntmps32]) ?_
 (refine aE (aB ?_))
 refine bG Z Z (fun b2 => ?_)
 refine bG Z Z (fun b3 => ?_)
 (refine aA V Z Z (aA V Z Z (aF (aE (aB ?_)))); refine aI V Z Z Z ?_)
 by_cases hr : checkV r = 0
 ·have hR := (bM r).1 hr
  have hcl := hR.clicks
  refine bO (β := Nat) V [] _ M0 Z Z Z Z (Sp.refl _) qS (fun w' hs => iH w' _ r (h0.keep hs.chg0) hsm hr) ?_
  rintro bd _ rfl
  (refine aA V Z Z (bC V Z Z Z (bC V Z Z Z ?_)))
  refine aV zero84 Z (fun b6 => ?_)
  (refine eV V Z Z Z Z U ?_; refine aA V Z Z (aF (aE (aP (aE (aB ?_))))); (iterate 3 refine aA V Z Z ?_); refine aF (aL Z (aE (aB ?_))); refine aH V Z Z Z ?_; (iterate 3 refine aA V Z Z ?_); refine aF ?_)
  by_cases h20 : 20 < (l.length : Int)
  ·rw [decide_eq_true h20]
   (refine aM Z (aE (aB (aA V Z Z (aA V Z Z (aF (aW ?_)))))))
   refine aX V Z U fun w hs => ?_
   refine ⟨?_, hs.chg0⟩
   have e : iV r l = (0, 2) := by unfold iV; rw [hr]; simp only [ne_eq, not_true_eq_false, if_false]; rw [if_pos h20]
   rw [e]; rfl
  ·rw [decide_eq_false h20]
   (refine aL Z (aE (aB ?_)); refine aH V Z Z Z ?_)
   refine aJ (val := .bool (l.all (fun n => inB n (-1000) 1000))) V Z Z Z Z (fun w hs => ?_) ?_; exact by have := lC w l0 h1 _ _ (aZ l) (pI (-1000) 1000) (RdE.keep hl hs.chg0) (iB _) (by simp; omega) (zero1_p w l); rw [qF] at this; exact this
   cases h4' : l.all (fun n => inB n (-1000) 1000) with
   | false =>
    (refine aA V Z Z (aA V Z Z (aF (aM Z (aE (aB (aA V Z Z (aA V Z Z (aF (aW ?_))))))))))
    refine aX V Z U fun w hs => ?_
    refine ⟨?_, hs.chg0⟩
    have e : iV r l = (0, 3) := by unfold iV; rw [hr, h4']; simp only [ne_eq, not_true_eq_false, if_false]; rw [if_neg h20]; rfl
    rw [e]; rfl
   | true =>
    have hbl : ∀ x ∈ l, -1000 ≤ x ∧ x ≤ 1000 := fun x hx => bH.1 (List.all_eq_true.1 h4' x hx)
    (refine aA V Z Z (aA V Z Z (aF (aL Z (aR (bL (aE (aB ?_))))))); refine aH V Z Z Z ?_; refine aA V Z Z ?_)
    refine cE #[.func (.func 89) #[] #[.pointer (some ⟨b3, 0, none⟩), .pointer (some ⟨b6, 0, none⟩)]] Z qR Z ?_
    refine aJ (val := .tuple #[.int .i64 (fH (zerQ r l) (cR r.clicks 0)).1, rtV (fH (zerQ r l) (cR r.clicks 0)).2]) V Z Z Z Z (fun w hs => ?_) ?_; exact best_ca w bd r _ (zerQ r l) ⟨_, _, hs.blk (b := bd) U, h0.keep hs.chg0⟩ hcl Z (fun c hcin => pN (by have := zerN_bd r l c l.length; omega) O) (fun w' hc' c hcin => CaF.of V qR (zero2_ca w' b3 b6 bd l0 h1 _ _ r _ l c ((hs.blk (b := b3) U).keep hc') ((hs.blk (b := b6) U).keep hc') (DkAt.keep ⟨_, _, hs.blk (b := bd) U, h0.keep hs.chg0⟩ hc') hR (RdE.keep (RdE.keep hl hs.chg0) hc') O hbl (by have := bH.1 hcin; omega)))
    (refine aA V Z Z (bC V Z Z Z (bC V Z Z Z ?_)))
    refine aV cO Z (fun b9 => ?_)
    (refine aA V Z Z ?_; refine aY V Z Z Z Z Z U Z ?_; refine aF (aE (aB ?_)); (iterate 3 refine aA V Z Z ?_); refine aF (aW ?_))
    refine aX V Z U fun w hs => ?_
    refine ⟨?_, hs.chg0⟩
    have e : iV r l = ((fH (zerQ r l) (cR r.clicks 0)).1, 0) := by unfold iV; rw [hr, h4']; simp only [ne_eq, not_true_eq_false, if_false]; rw [if_neg h20]; rfl
    rw [e]; rfl
 ·refine aJ V Z Z Z Z (fun w hs => jN w _ r (h0.keep hs.chg0) hsm hr) ?_
  (refine aA V Z Z (bC V Z Z Z (bC V Z Z Z ?_)))
  refine aV zero84 Z (fun b6 => ?_)
  (refine eV V Z Z Z Z U ?_; refine aA V Z Z (aF (aE (aP (aE (aB ?_))))); (iterate 3 refine aA V Z Z ?_); refine aF ?_)
  rw [decide_eq_false hr]
  (refine aM Z (aE (aB ?_)); (iterate 3 refine aA V Z Z ?_); refine aF (aW ?_))
  refine aX V Z U fun w hs => ?_
  refine ⟨?_, hs.chg0⟩
  have e : iV r l = (0, checkV r) := by unfold iV; rw [if_pos hr]
  rw [e]; rfl

end Go.Proofs.YtohlillcaadidaaGreat

/- The engine, part B9: maps that were there before. -/
namespace Go.Eng
open Go Go.RowKit

section
variable {P : Program} {T : Tab}
variable {ro : Cx} {n : Nat} {F : Fin} {w0 : World} {M : Nat → Prop} {k : List It} {ops : Array Oper} {rest : List Oper} {e : Env} {H Hq : List Ck}
variable {K : Value → Prop} {q : Value → Value → Bool} {kt et mt : TypeId}

theorem MapAt.keep {w w' : World} {b : Nat} {f : Value → Option Value} (h : MapAt w b K q f) (c : Chg [] w w') : MapAt w' b K q f := by
 obtain ⟨es, clock, h1, h2⟩ := h
 exact ⟨es, clock, (c.block b (Array.getElem?_eq_some_iff.1 h1).1 (by simp)).trans h1, h2⟩
theorem MapAt.congr {w : World} {b : Nat} {f g : Value → Option Value} (h : MapAt w b K q f) (he : ∀ k, K k → f k = g k) : MapAt w b K q g := by
 obtain ⟨es, clock, h1, h2, h3⟩ := h
 exact ⟨es, clock, h1, h2, fun k hk => (h3 k hk).trans (he k hk)⟩
theorem qf_lookP {d b : Nat} {x ix : Operand} {f : Value → Option Value} {key z v : Value} {ty : TypeId} {pos : String} {af : Array Edge} (hK : KeyT P kt K q) (ht : P.underlying mt = some (.map kt et)) (hz : ZeroOf P et z)
  (hx : opv e x = some (.map (some b))) (hi : opv e ix = some key) (hd : Nat.blt d n = true) (hm : MapAt w0 b K q f) (hk : K key) (hv : (f key).getD z = v)
  (h : QF P ro n F w0 M0 k ops Hq rest ((d, v) :: e) H) : QF P ro n F w0 M0 k ops Hq (⟨some d, .lookup mt x ix false, ty, pos, af, none⟩ :: rest) e H := .mk fun w hw =>
 eY rfl hd (fun a hf w' hs => by
  simp only [execOp, hf.op hx, hf.op hi]
  simp [kU hK ht (zero_run hz w') (hm.keep hs.chg0) hk, hv]) (h.h w hw)
theorem qf_look2 {d b : Nat} {x ix : Operand} {f : Value → Option Value} {key v z : Value} {o : Bool} {ty : TypeId} {pos : String} {af : Array Edge} (hK : KeyT P kt K q) (ht : P.underlying mt = some (.map kt et)) (hz : ZeroOf P et z)
  (hx : opv e x = some (.map (some b))) (hi : opv e ix = some key) (hd : Nat.blt d n = true) (hm : mpP K q b f ∈ Hq) (hk : K key) (hv : (f key).getD z = v) (ho : (f key).isSome = o)
  (h : QF P ro n F w0 M k ops Hq rest ((d, .tuple #[v, .bool o]) :: e) H) : QF P ro n F w0 M k ops Hq (⟨some d, .lookup mt x ix true, ty, pos, af, none⟩ :: rest) e H := .mk fun w hw =>
 eY rfl hd (fun a hf w' hs => by
  simp only [execOp, hf.op hx, hf.op hi]
  simp [kU hK ht (zero_run hz w') (hs.mem hm) hk, hv, ho]) (h.h w hw)
theorem Sat.turn {w : World} {c c' : Ck} {R : List Ck} (h : Sat w0 M (c :: R) w) (hD : ∀ b, c'.D b → c.D b) (hp : c.p w → c'.p w) : Sat w0 M (c' :: R) w :=
 h.rep .z (Chg.refl [] w) (by simp) (hp (h.all _ List.mem_cons_self)) (fun b hb => ⟨.inl (hD b hb), (h.bd _ List.mem_cons_self b (hD b hb)).1⟩)
theorem Sat.mapC {w : World} {b : Nat} {f g : Value → Option Value} {R : List Ck} (h : Sat w0 M (mpP K q b f :: R) w) (he : ∀ k, K k → f k = g k) : Sat w0 M (mpP K q b g :: R) w :=
 h.turn (fun _ h => h) (fun hm => MapAt.congr hm he)
theorem map_sat {w : World} {b : Nat} {f : Value → Option Value} (h : MapAt w b K q f) : Sat w (fun x => x = b) [mpP K q b f] w := by
 have hb : b < w.heap.size := by
  obtain ⟨es, clock, h1, _⟩ := h
  exact (Array.getElem?_eq_some_iff.1 h1).1
 refine ⟨ChgP.refl _ _, fun c hc => ?_, List.pairwise_singleton _ _, fun c hc x hx => ?_⟩
 ·rw [List.mem_singleton.1 hc]
  exact h
 ·rw [List.mem_singleton.1 hc] at hx
  have hx' : x = b := hx
  subst hx'
  exact ⟨hb, .inl Z⟩
end
end Go.Eng

/- A plan, as data; walks: CheckRules, parts, follows. -/
namespace Go.Proofs.YtohlillcaadidaaGreat
open Go Go.Eng

abbrev k4 : List (Option IntKind) := [some .i64, some .i64, some .i64, some .i64]
theorem plc_flat : oN Tryz.prog 110 k4 = true := by kernel_rfl
theorem mE : KeyT Tryz.prog 110 (keyF k4) eqV := keyT_flat plc_flat
theorem lT : Tryz.prog.underlying 111 = some (.map 110 3) := by kernel_rfl
theorem mM : ZeroOf Tryz.prog 3 (.int .i64 0) := ⟨by kernel_rfl⟩
/-- A situation. -/
abbrev plcV (a b c d : Int) : Value := .agg #[.int .i64 a, .int .i64 b, .int .i64 c, .int .i64 d]
theorem iW (a b c d : Int) : keyF k4 (plcV a b c d) := ⟨[.int .i64 a, .int .i64 b, .int .i64 c, .int .i64 d], rfl, rfl⟩
/-- Values of situations. -/
abbrev Vf := Int → Int → Int → Int → Option Int
def jM (vf : Vf) : Value → Option Value
 | .agg cs => match cs.toList with
  | [.int _ a, .int _ b, .int _ c, .int _ d] => (vf a b c d).map (Value.int .i64)
  | _ => none
 | _ => none
theorem jK (vf : Vf) (a b c d : Int) : (jM vf (plcV a b c d)).getD (.int .i64 0) = .int .i64 ((vf a b c d).getD 0) := by
 show ((vf a b c d).map (Value.int .i64)).getD _ = _
 cases vf a b c d <;> rfl
theorem liftF_some (vf : Vf) (a b c d : Int) : (jM vf (plcV a b c d)).isSome = (vf a b c d).isSome := by
 show ((vf a b c d).map (Value.int .i64)).isSome = _
 cases vf a b c d <;> rfl

/-- A plan in block bp, with its desk in bd and its map in bm. -/
def PlAt (w : World) (bp bd bm : Nat) (r : Rg) (p : Ru) : Prop := ∃ t, Blk w bp [.pointer (some ⟨bd, 0, none⟩), .int .i64 p.miss, .int .i64 p.click, .int .i64 p.wait, .int .i64 p.waits, .map (some bm)] t ∧ DkAt w bd r
theorem PlAt.keep {w w' : World} {bp bd bm : Nat} {r : Rg} {p : Ru} (h : PlAt w bp bd bm r p) (c : Chg [] w w') : PlAt w' bp bd bm r p := by
 obtain ⟨t, h1, h2⟩ := h
 exact ⟨t, h1.keep c, h2.keep c⟩

/-- The error of a range and rules. -/
def cH (r : Rg) (p : Ru) : Int := if checkV r ≠ 0 then checkV r else if !(inB p.miss 0 6000) then 3 else if !(inB p.click 0 600) then 3 else if !(inB p.wait 0 600) then 3 else if !(inB p.waits 0 3) then 3 else 0
theorem fY (r : Rg) (p : Ru) : cH r p = 0 ↔ checkV r = 0 ∧ p.Right := by
 unfold cH
 constructor
 ·intro h
  split at h
  ·contradiction
  rename_i h0
  split at h
  ·cases h
  rename_i h1
  split at h
  ·cases h
  rename_i h2
  split at h
  ·cases h
  rename_i h3
  split at h
  ·cases h
  rename_i h4
  exact ⟨by simpa using h0, bH.1 (by simpa using h1), bH.1 (by simpa using h2), bH.1 (by simpa using h3), bH.1 (by simpa using h4)⟩
 ·rintro ⟨h0, h1⟩
  rw [if_neg (by simpa using h0), bH.2 h1.miss, bH.2 h1.click, bH.2 h1.wait, bH.2 h1.waits]
  rfl

set_option maxHeartbeats 1000000 in
theorem oF (w : World) (cs : List Value) (r : Rg) (p : Ru) (h : RgC w cs r) (hsm : r.Small) : Ca Tryz.prog 67 [.agg cs.toArray, .agg #[.int .i64 p.miss, .int .i64 p.click, .int .i64 p.wait, .int .i64 p.waits]] w fun v w' => v = .int .i64 (cH r p) ∧ Chg [] w w' := by
 have h0 := h
 obtain ⟨lo, hi, ag, cg, ad, cd, af, cf, an, cn, rfl, hg, hdr, hf, hn⟩ := h
 refine dB (Sat.nil w M0) Tryz.func67 Z (by simp [Tryz.ntmps67]) ?_
 (refine aE (aB ?_))
 refine bG Z Z (fun b2 => ?_)
 refine bG Z Z (fun b3 => ?_)
 (refine aA V Z Z (aF (aE (aB ?_))); refine aI V Z Z Z ?_)
 refine aJ (val := .int .i64 (checkV r)) V Z Z Z Z (fun w hs => ?_) ?_; exact dJ w _ r (h0.keep hs.chg0) hsm
 (refine aA V Z Z (aF (aE (aE (aB ?_)))); (iterate 3 refine aA V Z Z ?_))
 by_cases hc0 : checkV r = 0
 ·rw [decide_eq_true hc0]
  (refine aC Z (aA V Z Z (aC Z ?_)); refine aH V Z Z Z ?_; refine aC Z ?_)
  refine aJ (val := .bool (inB p.miss 0 6000)) V Z Z Z Z (fun w hs => ?_) ?_; exact fW _ _ _ w
  cases h1 : inB p.miss 0 6000 with
  | false =>
   (refine aC Z (aA V Z Z (aC Z (aA V Z Z ?_))); (iterate 4 refine bA Z Z Z ?_); refine aC Z (aA V Z Z (aC Z (aA V Z Z ?_))); (iterate 4 refine bA Z Z Z ?_); refine aC Z (aA V Z Z (aC Z (aA V Z Z ?_))); (iterate 4 refine bA Z Z Z ?_); refine aC Z (aA V Z Z (aA V Z Z (aF (aM Z (aB (aA V Z Z (aF (aE (aB (aA V Z Z (aA V Z Z ?_))))))))))); refine aF (aW ?_))
   refine aX V Z U fun w hs => ?_
   refine ⟨?_, hs.chg0⟩
   have e : cH r p = 3 := by unfold cH; rw [hc0, h1]; rfl
   rw [e]; rfl
  | true =>
   (refine aC Z (aA V Z Z (aC Z (aA V Z Z (aC Z (aA V Z Z (aC Z ?_)))))); refine aH V Z Z Z ?_; refine aC Z ?_)
   refine aJ (val := .bool (inB p.click 0 600)) V Z Z Z Z (fun w hs => ?_) ?_; exact fW _ _ _ w
   cases h2 : inB p.click 0 600 with
   | false =>
    (refine aC Z (aA V Z Z (aC Z (aA V Z Z (aC Z (aA V Z Z ?_))))); (iterate 4 refine bA Z Z Z ?_); refine aC Z (aA V Z Z (aC Z (aA V Z Z ?_))); (iterate 4 refine bA Z Z Z ?_); refine aC Z (aA V Z Z (aA V Z Z (aF (aM Z (aB (aA V Z Z (aF (aE (aB (aA V Z Z (aA V Z Z ?_))))))))))); refine aF (aW ?_))
    refine aX V Z U fun w hs => ?_
    refine ⟨?_, hs.chg0⟩
    have e : cH r p = 3 := by unfold cH; rw [hc0, h1, h2]; rfl
    rw [e]; rfl
   | true =>
    (refine aC Z (aA V Z Z (aC Z (aA V Z Z (aC Z (aA V Z Z (aC Z (aA V Z Z (aC Z ?_)))))))); refine aH V Z Z Z ?_; refine aC Z ?_)
    refine aJ (val := .bool (inB p.wait 0 600)) V Z Z Z Z (fun w hs => ?_) ?_; exact fW _ _ _ w
    cases h3 : inB p.wait 0 600 with
    | false =>
     (refine aC Z (aA V Z Z (aC Z (aA V Z Z (aC Z (aA V Z Z ?_))))); (iterate 4 refine bA Z Z Z ?_); refine aC Z (aA V Z Z (aA V Z Z (aF (aM Z (aB (aA V Z Z (aF (aE (aB (aA V Z Z (aA V Z Z ?_))))))))))); refine aF (aW ?_))
     refine aX V Z U fun w hs => ?_
     refine ⟨?_, hs.chg0⟩
     have e : cH r p = 3 := by unfold cH; rw [hc0, h1, h2, h3]; rfl
     rw [e]; rfl
    | true =>
     (refine aC Z (aA V Z Z (aC Z (aA V Z Z (aC Z (aA V Z Z (aC Z (aA V Z Z (aC Z ?_)))))))); refine aH V Z Z Z ?_; refine aC Z ?_)
     refine aJ (val := .bool (inB p.waits 0 3)) V Z Z Z Z (fun w hs => ?_) ?_; exact fW _ _ _ w
     cases h4 : inB p.waits 0 3 with
     | false =>
      (refine aC Z (aA V Z Z (aC Z (aA V Z Z (aA V Z Z (aF (aM Z (aB (aA V Z Z (aF (aE (aB ?_))))))))))); refine aA V Z Z (aA V Z Z (aF (aW ?_))))
      refine aX V Z U fun w hs => ?_
      refine ⟨?_, hs.chg0⟩
      have e : cH r p = 3 := by unfold cH; rw [hc0, h1, h2, h3, h4]; rfl
      rw [e]; rfl
     | true =>
      (refine aC Z (aA V Z Z (aC Z (aA V Z Z (aA V Z Z (aF (aL Z (aR (aE (aB (aA V Z Z (aA V Z Z ?_))))))))))); refine aF (aW ?_))
      refine aX V Z U fun w hs => ?_
      refine ⟨?_, hs.chg0⟩
      have e : cH r p = 0 := by unfold cH; rw [hc0, h1, h2, h3, h4]; rfl
      rw [hc0, e]; rfl
 ·rw [decide_eq_false hc0]
  ((iterate 5 refine bA Z Z Z ?_); (iterate 4 refine qO Z Z ?_); refine bA Z Z Z (bA Z Z Z ?_); (iterate 4 refine qO Z Z ?_); refine bA Z Z Z (bA Z Z Z ?_); (iterate 4 refine qO Z Z ?_); refine bA Z Z Z (aA V Z Z (aF (aL Z (aR (aE (aB (aA V Z Z (aA V Z Z (aF (aW ?_)))))))))))
  refine aX V Z U fun w hs => ?_
  refine ⟨?_, hs.chg0⟩
  have e : cH r p = checkV r := by unfold cH; rw [if_pos hc0]
  rw [e]; rfl

set_option maxHeartbeats 1000000 in
theorem parts_ca (w : World) (bp bd bm : Nat) (r : Rg) (p : Ru) (shot wt : Nat) (st cl : Int) (h : PlAt w bp bd bm r p) (hr : r.Right) (hs4 : shot ≤ 4) (hw3 : wt ≤ 3) :
  Ca Tryz.prog 95 [.pointer (some ⟨bp, 0, none⟩), plcV shot wt st cl] w fun v w' => v = .int .i64 (cJ r shot wt) ∧ Chg [] w w' := by
 obtain ⟨tp, hplb, hdk⟩ := h; have hdk0 := hdk; obtain ⟨cs, bt, hblk, lo, hi, ag, cg, ad, cd, af, cf, an, cn, rfl, hg, hdr, hf, hn⟩ := hdk
 have hgs := hr.gsum
 have htt := hr.total
 refine dB (Sat.nil w M0) Tryz.func95 Z (by simp [Tryz.ntmps95]) ?_
 (refine aE (aB ?_))
 refine bG Z Z (fun b3 => ?_)
 (refine aA V Z Z (aF (aE (aB ?_))); (iterate 3 refine aA V Z Z ?_); refine eN V Z Z Z (by assumption) (by rfl) ?_)
 refine aJ (val := .int .i64 r.group.sum) V Z Z Z Z (fun w hs => ?_) ?_; exact nC w bd r (hdk0.keep hs.chg0) hr
 (refine aA V Z Z (aF (aE (aE (aB (aA V Z Z ?_))))); refine aH V Z Z Z ?_; refine bB V Z Z Z Z O O (aA V Z Z ?_); refine aH V Z Z Z ?_; refine bB V Z Z Z Z O O (aA V Z Z (aF (aP ?_))))
 refine bN (σ := Nat) (fun k => k ≤ 4 - shot + wt) (fun k => 4 - shot + wt - k) (fun k => [(0, .pointer (some ⟨bp, 0, none⟩)), (5, .int .i64 (r.group.sum * r.total ^ k)), (16, .int .i64 (4 - (shot : Int) + wt)), (17, .int .i64 k)]) (fun _ => []) 0 O ⟨Z, fE Z (by simp), Z, Z, trivial⟩ U ?_
 intro k hk K hK
 have ht := tot7 r hr k O
 have hb := bR (show 0 ≤ r.group.sum ∧ r.group.sum ≤ 100 by omega) (show 0 ≤ r.total ^ k ∧ r.total ^ k ≤ 35831808 by omega)
 have hb2 := bR hb (show 0 ≤ r.total ∧ r.total ≤ 12 by omega)
 (refine aE (aB (aA V Z Z (aF (aE ?_)))))
 refine dD Z (fun hc => ?_) (fun hc => ?_)
 ·have hk : k < 4 - shot + wt := by omega
  (refine aR (aE (aP (aB ?_))); (iterate 4 refine aA V Z Z ?_); refine eN V Z Z Z (by assumption) (by rfl) ?_; (iterate 3 refine aA V Z Z ?_); refine eN V Z Z Z (by assumption) (by rfl) ?_; refine bB V Z Z Z Z O O (aA V Z Z (aF (bL (aB (bB V Z Z Z Z O O (aA V Z Z (aF ?_))))))))
  exact hK (k + 1) _ _ O O ⟨Z, fE Z (by rw [Int.pow_succ, Int.mul_assoc]), Z, Z, trivial⟩ U
 ·obtain rfl : k = 4 - shot + wt := by omega
  (refine bJ _ Z (aE (aB (aA V Z Z (aA V Z Z (aF (aW ?_)))))))
  refine aX V Z U fun w hs => ?_
  exact ⟨Z, hs.chg0⟩

end Go.Proofs.YtohlillcaadidaaGreat

/- Walks: follows, shoot, wait. -/
namespace Go.Proofs.YtohlillcaadidaaGreat
open Go Go.Eng

/-- The values of situations, 0 where there is none. -/
abbrev gvF (vf : Vf) (shot wt : Nat) (t : Nat) (cl : Int) : Int := (vf shot wt t cl).getD 0

set_option maxHeartbeats 2000000 in
theorem follows_ca (w : World) (bp bd bm : Nat) (r : Rg) (p : Ru) (vf : Vf) (shot wt st : Nat) (s0 cl : Int) (h : PlAt w bp bd bm r p) (hm : MapAt w bm (keyF k4) eqV (jM vf)) (hr : r.Right) (hst : st < r.drifts.length) (hb : shot < 5 → ∀ t, t < r.drifts.length → 0 ≤ gvF vf shot wt t cl ∧ gvF vf shot wt t cl ≤ 1000000000000000) :
  Ca Tryz.prog 132 [.pointer (some ⟨bp, 0, none⟩), plcV shot wt s0 cl, .int .i64 st] w fun v w' => v = .int .i64 (if shot < 5 then folS r (fun t => gvF vf shot wt t cl) st else 0) ∧ Chg [] w w' := by
 obtain ⟨tp, hplb, hdk⟩ := h; have hdk0 := hdk; obtain ⟨cs, bt, hblk, lo, hi, ag, cg, ad, cd, af, cf, an, cn, rfl, hg, hdr, hf, hn⟩ := hdk
 have hst2 : st < r.next.length := by rw [hr.next]; exact hst
 have hrl := hr.rows _ (List.getElem_mem hst2)
 have hd5 := hr.d2
 obtain ⟨an', cn', hsl, hsd⟩ := RdII.outI hn
 cases hsl
 obtain ⟨bn, on, rfl⟩ := hsd O
 obtain ⟨ar, cr, hrow, hcell⟩ := hn.row st hst2
 obtain ⟨ar', cr', hsl2, hsd2⟩ := RdI.outI hrow
 cases hsl2
 obtain ⟨br, orr, rfl⟩ := hsd2 O
 have hgd : r.next.getD st [] = r.next[st] := by simp [hst2]
 refine dB (Sat.nil w M0) Tryz.func132 Z (by simp [Tryz.ntmps132]) ?_
 (refine aE (aB ?_))
 refine bG Z Z (fun b4 => ?_)
 (refine aA V Z Z (aF (aE (aB (aA V Z Z (aF (aE (aE (aB (aA V Z Z ?_))))))))); refine aH V Z Z Z ?_; refine aA V Z Z (aF ?_))
 by_cases h5 : shot < 5
 ·have hb := hb h5
  rw [if_pos h5, decide_eq_true (show (shot : Int) < 5 by omega)]
  (refine aM Z (aE (aB ?_)); (iterate 3 refine aA V Z Z ?_); refine eN V Z Z Z (by assumption) (by rfl) ?_; (iterate 3 refine aA V Z Z ?_); refine eN V Z Z Z (by assumption) (by rfl) ?_; refine aA V Z Z ?_)
  refine bW V Z Z Z Z Z O O ?_
  refine cI (v := .slice (some ⟨br, orr, none⟩) r.next[st].length cr) V Z Z Z (fun w' hs => hcell w' hs.chg0) ?_
  (refine aA V Z Z (aA V Z Z (aF (aP ?_))))
  refine bN (σ := Nat × Int) (fun s => s.1 ≤ r.drifts.length) (fun s => r.drifts.length - s.1) (fun s => [(0, .pointer (some ⟨bp, 0, none⟩)), (4, .pointer (some ⟨b4, 0, none⟩)), (7, .int .i64 (cV (fun t => (r.next.getD st []).getD t 0 * gvF vf shot wt t cl) s.1)), (23, .slice (some ⟨br, orr, none⟩) r.next[st].length cr), (24, .int .i64 r.next[st].length), (25, .int .i64 s.1)])
   (fun s => [.pt b4 [.int .i64 shot, .int .i64 wt, .int .i64 s.2, .int .i64 cl] 110]) (0, s0) (by simp) ⟨rfl, rfl, rfl, rfl, rfl, rfl, trivial⟩ U ?_
  rintro ⟨k, s⟩ hk K hK
  simp only at hk
  dsimp only
  have hfb := fol_bd r hr (fun t => gvF vf shot wt t cl) 1000000000000000 hb st k hk
  (refine aE (aB (aA V Z Z (aF (aE ?_)))))
  refine dD Z (fun hc => ?_) (fun hc => ?_)
  ·have hk : k < r.drifts.length := by omega
   have hk2 : k < r.next[st].length := by omega
   have hgk := hb k hk
   have hnk := next_bd r hr st k
   have hm2 := bR hnk hgk
   have he : (r.next.getD st []).getD k 0 = r.next[st][k] := by rw [hgd]; simp [hk2]
   have hsu : cV (fun t => (r.next.getD st []).getD t 0 * gvF vf shot wt t cl) (k + 1) = cV (fun t => (r.next.getD st []).getD t 0 * gvF vf shot wt t cl) k + r.next[st][k] * gvF vf shot wt k cl := by rw [cV, he]
   rw [he] at hm2
   (refine aR (aE (aP (aE (aB (aA V Z Z ?_))))))
   (refine bW V Z Z Z Z Z O O ?_; refine cI V Z Z Z (fun w hs => RdI.at (RdE.keep hrow hs.chg0) k hk2) ?_)
   (refine aA V Z Z (aA V Z Z (aF (aE (aB (aA V Z Z (aA V Z Z ?_)))))); refine ql_st2 V Z Z Z Z U ?_; refine aF ?_)
   refine bX _ [] (Sp.refl _) qR qR ?_
   ((iterate 5 refine aD V Z Z Z ?_); refine dO V Z Z Z (by assumption) (by rfl) ?_; refine aO V Z Z Z ?_)
   refine qf_lookP (v := .int .i64 (gvF vf shot wt k cl)) mE lT mM Z Z Z hm (iW _ _ _ _) (jK vf _ _ _ _) ?_
   (refine bY V Z Z Z Z O O (bY V Z Z Z Z O O (aD V Z Z Z (aK (bL (aB (bB V Z Z Z Z O O (aA V Z Z (aF ?_)))))))))
   exact hK (k + 1, (k : Int)) _ _ (by simp only; omega) (by simp only; omega) ⟨Z, Z, fE Z hsu.symm, Z, Z, Z, trivial⟩ U
  ·obtain rfl : k = r.drifts.length := by omega
   (refine bJ _ Z (aE (aB (aA V Z Z (aA V Z Z (aF (aW ?_)))))))
   refine aX V Z U fun w hs => ?_
   exact ⟨Z, hs.chg0⟩
 ·rw [if_neg h5, decide_eq_false (show ¬ (shot : Int) < 5 by omega)]
  (refine aL Z (aR (aE (aB (aA V Z Z (aA V Z Z (aF (aW ?_))))))))
  refine aX V Z U fun w hs => ?_
  exact ⟨Z, hs.chg0⟩


/-- Values behind a situation are not too great. -/
def FineV (r : Rg) (vf : Vf) (shot wt : Nat) : Prop := ∀ t c, t < r.drifts.length → -r.clicks ≤ c ∧ c ≤ r.clicks → 0 ≤ gvF vf shot wt t c ∧ gvF vf shot wt t c ≤ 1000000000000000

set_option maxHeartbeats 2000000 in
theorem nA (w : World) (bp bd bm : Nat) (r : Rg) (p : Ru) (vf : Vf) (shot wt st : Nat) (cl click : Int) (h : PlAt w bp bd bm r p) (hm : MapAt w bm (keyF k4) eqV (jM vf)) (hr : r.Right) (hp : p.Right) (h4 : shot ≤ 4) (hw3 : wt ≤ 3) (hst : st < r.drifts.length)
  (hcl : -r.clicks ≤ cl ∧ cl ≤ r.clicks) (hck : -r.clicks ≤ click ∧ click ≤ r.clicks) (hb : shot < 4 → FineV r vf (shot + 1) wt) :
  Ca Tryz.prog 121 [.pointer (some ⟨bp, 0, none⟩), plcV shot wt st cl, .int .i64 click] w fun v w' => v = .int .i64 (cS r p (gvF vf (shot + 1) wt) shot wt st cl click) ∧ Chg [] w w' := by
 have h0 := h
 obtain ⟨tp, hplb, hdk⟩ := h; have hdk0 := hdk; obtain ⟨cs, bt, hblk, lo, hi, ag, cg, ad, cd, af, cf, an, cn, rfl, hg, hdr, hf, hn⟩ := hdk
 have hC := hr.clicks
 have hd5 := hr.d2
 have hgs := hr.gsum
 have hpt := hZ r hr shot wt hw3
 have htt := tot7 r hr (4 - shot + wt) O
 have hdv := pY r hr shot wt
 have hms := eC r hr r.drifts[st] click
 have hdb := hr.drift _ (List.getElem_mem hst)
 have hgd : r.drifts.getD st 0 = r.drifts[st] := by simp [hst]
 have hfar := far_bd hC.2 hcl hck
 have a1 := bR hp.click hfar
 have a2 := bR a1 (show 0 ≤ cJ r shot wt ∧ cJ r shot wt ≤ 3583180800 by omega)
 have b1 := bR hp.miss (show 0 ≤ cX r r.drifts[st] click ∧ cX r r.drifts[st] click ≤ 100 by omega)
 have b2 := bR b1 (show 0 ≤ cJ r shot wt / r.group.sum ∧ cJ r shot wt / r.group.sum ≤ 35831808 by omega)
 obtain ⟨ad', cd', hsl, hsd⟩ := RdI.outI hdr
 cases hsl
 obtain ⟨bn, on, rfl⟩ := hsd O
 have hfol : 0 ≤ (if shot < 4 then folS r (fun t => gvF vf (shot + 1) wt t click) st else 0) ∧ (if shot < 4 then folS r (fun t => gvF vf (shot + 1) wt t click) st else 0) ≤ 60000000000000000 := by
  split
  ·have : 0 ≤ folS r (fun t => gvF vf (shot + 1) wt t click) st ∧ folS r (fun t => gvF vf (shot + 1) wt t click) st ≤ 12 * 1000000000000000 * (r.drifts.length : Int) := fol_bd r hr (fun t => gvF vf (shot + 1) wt t click) 1000000000000000 (fun t ht => hb (by assumption) t click ht hck) st r.drifts.length (Nat.le_refl _)
   omega
  ·omega
 have hfe : (if shot + 1 < 5 then folS r (fun t => gvF vf (shot + 1) wt t click) st else 0) = (if shot < 4 then folS r (fun t => gvF vf (shot + 1) wt t click) st else 0) := by
  by_cases h : shot < 4
  ·rw [if_pos h, if_pos O]
  ·rw [if_neg h, if_neg O]
 refine dB (Sat.nil w M0) Tryz.func121 Z (by simp [Tryz.ntmps121]) ?_
 (refine aE (aB ?_))
 refine bG Z Z (fun b4 => ?_)
 (refine aA V Z Z (aF (aE (aB (aA V Z Z ?_)))); refine aI V Z Z Z ?_)
 refine aJ (val := .int .i64 (cJ r shot wt)) V Z Z Z Z (fun w hs => ?_) ?_; exact parts_ca w bp bd bm r p shot wt st cl (h0.keep hs.chg0) hr h4 hw3
 (refine aA V Z Z (aF (aE ?_)))
 refine bX _ [] (Sp.refl _) qR qR ?_
 ((iterate 4 refine aD V Z Z Z ?_); refine dO V Z Z Z (by assumption) (by rfl) ?_; refine aD V Z Z Z (aD V Z Z Z ?_); refine aT V Z Z Z ?_; refine bY V Z Z Z Z O O (aD V Z Z Z ?_); refine aT V Z Z Z ?_; refine aD V Z Z Z (bY V Z Z Z Z O O (aD V Z Z Z (bY V Z Z Z Z O O (aD V Z Z Z (bY V Z Z Z Z O O (aD V Z Z Z (aK (aE ?_)))))))))
 refine bX _ [] (Sp.refl _) qR qR ?_
 ((iterate 4 refine aD V Z Z Z ?_); refine dO V Z Z Z (by assumption) (by rfl) ?_; (iterate 3 refine aD V Z Z Z ?_); refine dO V Z Z Z (by assumption) (by rfl) ?_; (iterate 3 refine aD V Z Z Z ?_); refine dO V Z Z Z (by assumption) (by rfl) ?_; (iterate 3 refine aD V Z Z Z ?_); refine dO V Z Z Z (by assumption) (by rfl) ?_; refine aD V Z Z Z ?_; refine aT V Z Z Z ?_)
 (refine bF V Z Z Z Z Z O O ?_; refine bI V Z Z Z (fun w hs => RdI.at (RdE.keep hdr hs.chg0) st hst) ?_)
 (refine aD V Z Z Z ?_)
 refine aS (val := .int .i64 (cX r r.drifts[st] click)) V Z Z Z Z (fun w hs => ?_) ?_; exact jR w bd r r.drifts[st] click (hdk0.keep hs.chg0) hr O O
 (refine bY V Z Z Z Z O O ?_; (iterate 4 refine aD V Z Z Z ?_); refine dO V Z Z Z (by assumption) (by rfl) ?_)
 refine aS (val := .int .i64 r.group.sum) V Z Z Z Z (fun w hs => ?_) ?_; exact nC w bd r (hdk0.keep hs.chg0) hr
 (refine dS Z Z Z O O O (bY V Z Z Z Z O O (aD V Z Z Z (aK (aE (aB (aA V Z Z (aA V Z Z (bB V Z Z Z Z O O (aA V Z Z (aA V Z Z ?_)))))))))); refine aH V Z Z Z ?_; refine bB V Z Z Z Z O O (aA V Z Z ?_); refine aH V Z Z Z ?_; refine aA V Z Z ?_)
 refine cE #[.int .i64 ((shot : Int) + 1), .int .i64 wt, .int .i64 0, .int .i64 click] Z qR Z ?_
 (refine aA V Z Z ?_; refine aH V Z Z Z ?_)
 refine aJ (val := .int .i64 (if shot < 4 then folS r (fun t => gvF vf (shot + 1) wt t click) st else 0)) V Z Z Z Z (fun w hs => ?_) ?_; exact by have := follows_ca w bp bd bm r p vf (shot + 1) wt st 0 click (h0.keep hs.chg0) (hm.keep hs.chg0) hr hst (fun h5 t ht => hb O t click ht hck); rw [hfe] at this; exact this
 (refine bB V Z Z Z Z O O (aA V Z Z (aF (aW ?_))))
 refine aX V Z U fun w hs => ?_
 refine ⟨?_, hs.chg0⟩
 unfold cS
 rw [hgd]
 rfl

set_option maxHeartbeats 2000000 in
theorem waitF_ca (w : World) (bp bd bm : Nat) (r : Rg) (p : Ru) (vf : Vf) (shot wt st : Nat) (cl : Int) (h : PlAt w bp bd bm r p) (hm : MapAt w bm (keyF k4) eqV (jM vf)) (hr : r.Right) (hp : p.Right) (h4 : shot ≤ 4) (hw0 : 0 < wt) (hw3 : wt ≤ 3) (hst : st < r.drifts.length)
  (hcl : -r.clicks ≤ cl ∧ cl ≤ r.clicks) (hb : FineV r vf shot (wt - 1)) :
  Ca Tryz.prog 122 [.pointer (some ⟨bp, 0, none⟩), plcV shot wt st cl] w fun v w' => v = .int .i64 (mI r p (gvF vf shot (wt - 1)) shot wt st cl) ∧ Chg [] w w' := by
 have h0 := h
 obtain ⟨tp, hplb, hdk⟩ := h; have hdk0 := hdk; obtain ⟨cs, bt, hblk, lo, hi, ag, cg, ad, cd, af, cf, an, cn, rfl, hg, hdr, hf, hn⟩ := hdk
 have hd5 := hr.d2
 have hpt := hZ r hr shot wt hw3
 have a1 := bR hp.wait (show 0 ≤ cJ r shot wt ∧ cJ r shot wt ≤ 3583180800 by omega)
 have hfol := fol_bd r hr (fun t => gvF vf shot (wt - 1) t cl) 1000000000000000 (fun t ht => hb t cl ht hcl) st r.drifts.length (Nat.le_refl _)
 have hfs : folS r (fun t => gvF vf shot (wt - 1) t cl) st = cV (fun t => (r.next.getD st []).getD t 0 * gvF vf shot (wt - 1) t cl) r.drifts.length := rfl
 rw [← hfs] at hfol
 have hw1 : ((wt - 1 : Nat) : Int) = (wt : Int) - 1 := by omega
 refine dB (Sat.nil w M0) Tryz.func122 Z (by simp [Tryz.ntmps122]) ?_
 (refine aE (aB ?_))
 refine bG Z Z (fun b3 => ?_)
 (refine aA V Z Z (aF (aE ?_)))
 refine bX _ [] (Sp.refl _) qR qR ?_
 ((iterate 4 refine aD V Z Z Z ?_); refine dO V Z Z Z (by assumption) (by rfl) ?_; refine aD V Z Z Z ?_; refine aO V Z Z Z ?_)
 refine aS (val := .int .i64 (cJ r shot wt)) V Z Z Z Z (fun w hs => ?_) ?_; exact parts_ca w bp bd bm r p shot wt st cl (h0.keep hs.chg0) hr h4 hw3
 (refine bY V Z Z Z Z O O (aD V Z Z Z (aD V Z Z Z ?_)); refine aT V Z Z Z ?_; refine aD V Z Z Z ?_; refine aT V Z Z Z ?_; refine bY V Z Z Z Z O O (aD V Z Z Z ?_); refine aT V Z Z Z ?_)
 refine lP #[.int .i64 shot, .int .i64 ((wt : Int) - 1), .int .i64 0, .int .i64 cl] Z qR Z ?_
 (refine aD V Z Z Z ?_; refine aT V Z Z Z ?_)
 refine aS (val := .int .i64 (folS r (fun t => gvF vf shot (wt - 1) t cl) st)) V Z Z Z Z (fun w hs => ?_) ?_; exact by have := follows_ca w bp bd bm r p vf shot (wt - 1) st 0 cl (h0.keep hs.chg0) (hm.keep hs.chg0) hr hst (fun h5 t ht => hb t cl ht hcl); rw [if_pos O, hw1] at this; exact this
 (refine bY V Z Z Z Z O O (aD V Z Z Z (aK (aW ?_))))
 refine aX V Z U fun w hs => ?_
 exact ⟨Z, hs.chg0⟩

end Go.Proofs.YtohlillcaadidaaGreat

/- The engine, part B10: a region that draws its order, in which some operations that act may stand in any order: one walk for each such order. -/
namespace Go.Eng
open Go Go.RowKit

section
variable {P : Program} {ops : Array Oper} {C : World → Prop} {K : Act → World → Prop}

theorem apart_symm {x y : Oper} (h : x.apart ops y = true) : y.apart ops x = true := by
 obtain ⟨h1, h2, h3⟩ := Oper.apart_spec h
 simp only [Oper.apart, Bool.and_eq_true]
 constructor
 ·cases hy : y.dst with
  | none => rfl
  | some d =>
   simp only [Bool.and_eq_true, Bool.not_eq_true', bne_iff_ne, ne_eq]
   refine ⟨?_, fun hx => h2 d hx hy⟩
   have := h3 d hy
   simpa using this
 ·cases hx : x.dst with
  | none => rfl
  | some d =>
   have := h1 d hx
   simpa using this

/-- Each operation against all others. -/
def pairsB (ops : Array Oper) (ms : List Nat) : Bool := (List.range ops.size).all fun j => match ops[j]? with
 | none => true
 | some oj => (kindOk oj.op && oj.after.all (fun e => Nat.blt e.on ops.size)) && (List.range j).all fun i => match ops[i]? with
  | none => true
  | some oi => (ms.getD j 0).testBit i || oi.apart ops oj
structure FlM (ops : Array Oper) : Prop where
 kind : ∀ (j : Nat) o, ops[j]? = some o → kindOk o.op = true
 edge : ∀ (j : Nat) o, ops[j]? = some o → ∀ e ∈ o.after, Region.binds .any e = true → ¬ e.on < ops.size → False
 pair : ∀ (i j : Nat) oi oj, i ≠ j → ops[i]? = some oi → ops[j]? = some oj → ((eF ops.toList).getD j 0).testBit i = true ∨ ((eF ops.toList).getD i 0).testBit j = true ∨ oi.apart ops oj = true
theorem pairsB_spec (h : pairsB ops (eF ops.toList) = true) : FlM ops := by
 have hj : ∀ (j : Nat) oj, ops[j]? = some oj → (kindOk oj.op = true ∧ (oj.after.all (fun e => Nat.blt e.on ops.size)) = true) ∧ ∀ i oi, i < j → ops[i]? = some oi → ((eF ops.toList).getD j 0).testBit i = true ∨ oi.apart ops oj = true := by
  intro j oj hoj
  have h1 := List.all_eq_true.1 h j (List.mem_range.2 (Array.getElem?_eq_some_iff.1 hoj).1)
  simp only [hoj, Bool.and_eq_true] at h1
  refine ⟨⟨h1.1.1, h1.1.2⟩, fun i oi hi hoi => ?_⟩
  have h2 := List.all_eq_true.1 h1.2 i (List.mem_range.2 hi)
  simpa only [hoi, Bool.or_eq_true] using h2
 refine ⟨fun j o ho => (hj j o ho).1.1, fun j o ho e he _ hn => hn (by have := Array.all_eq_true'.1 (hj j o ho).1.2 e he; simpa [Nat.blt_eq] using this), fun i j oi oj hij hoi hoj => ?_⟩
 rcases Nat.lt_or_gt_of_ne hij with h1 | h1
 ·rcases (hj j oj hoj).2 i oi h1 hoi with h2 | h2
  ·exact .inl h2
  ·exact .inr (.inr h2)
 ·rcases (hj i oi hoi).2 j oj h1 hoj with h2 | h2
  ·exact .inr (.inl h2)
  ·exact .inr (.inr (apart_symm h2))

/-- Orders: alternatives share what stands ahead. -/
inductive OT where
 | nil
 | op (i : Nat) (t : OT)
 | alt (t u : OT)
def wpT (P : Program) (ops : Array Oper) (C : World → Prop) (K : Act → World → Prop) : OT → Act → World → Prop
 | .nil, a, w => K a w
 | .op i t, a, w => match ops[i]? with
  | none => False
  | some o => if Region.wanted o (yielded ops a.tmps) = true then
    (if eff o.op = true then bS P o a w (fun v w' => C w' ∧ wpT P ops C K t (a.put o.dst v) w')
     else ∃ v, (∀ w', C w' → (execOp a.eval o).run P w' = .ok (.value v) w') ∧ wpT P ops C K t (a.put o.dst v) w)
   else wpT P ops C K t (a.put o.dst undef) w
 | .alt t u, a, w => wpT P ops C K t a w ∧ wpT P ops C K u a w
def OT.del (j : Nat) : OT → OT
 | .nil => .nil
 | .op i t => if i = j then t else .op i (t.del j)
 | .alt t u => .alt (t.del j) (u.del j)
def gL (ops : Array Oper) (i : Nat) : Bool := match ops[i]? with | some o => eff o.op | none => false
def OT.take (ops : Array Oper) (j : Nat) : OT → Option OT
 | .nil => none
 | .op i t => if i = j then some t else if gL ops i = true then none else (t.take ops j).map (.op i)
 | .alt t u => match t.take ops j with | some x => some x | none => u.take ops j
def lH (ops : Array Oper) : OT → List Nat
 | .nil => []
 | .op i t => if gL ops i = true then i :: lH ops t else lH ops t
 | .alt t _ => lH ops t
def covT (ops : Array Oper) (ms : List Nat) : Nat → OT → Bool
 | 0, t => (lH ops t).isEmpty
 | n + 1, t => (lH ops t).all fun j => (lH ops t).any (fun i => (ms.getD j 0).testBit i) || (match t.take ops j with | some t' => covT ops ms n t' | none => false)
def OkT (ops : Array Oper) : OT → List Nat → Prop
 | .nil, rem => rem = []
 | .op i t, rem => (∃ o, ops[i]? = some o ∧ ∀ e ∈ o.after, Region.binds .any e = true → e.on ∉ rem) ∧ i ∈ rem ∧ (∀ b ∈ rem, ((eF ops.toList).getD i 0).testBit b = false) ∧ OkT ops t (rem.erase i)
 | .alt t u, rem => OkT ops t rem ∧ OkT ops u rem
def okT (ops : Array Oper) (ms : List Nat) : OT → List Nat → Bool
 | .nil, rem => rem.isEmpty
 | .op i t, rem => (match ops[i]? with | none => false | some o => o.after.all fun e => !(Region.binds .any e) || !(rem.contains e.on)) && rem.contains i && rem.all (fun b => !((ms.getD i 0).testBit b)) && okT ops ms t (rem.erase i)
 | .alt t u, rem => okT ops ms t rem && okT ops ms u rem
theorem pZ : ∀ (t : OT) (rem : List Nat), okT ops (eF ops.toList) t rem = true → OkT ops t rem
 | .nil, rem, h => by simpa [okT, OkT] using h
 | .op i t, rem, h => by
  simp only [okT, Bool.and_eq_true] at h
  obtain ⟨⟨⟨h1, h2⟩, h3⟩, h4⟩ := h
  refine ⟨?_, by simpa using h2, fun b hb => by simpa using List.all_eq_true.1 h3 b hb, pZ t _ h4⟩
  cases ho : ops[i]? with
  | none => rw [ho] at h1; cases h1
  | some o =>
   rw [ho] at h1
   refine ⟨o, Z, fun e he hb => ?_⟩
   have := Array.all_eq_true'.1 h1 e he
   simp only [hb, Bool.not_true, Bool.false_or, Bool.not_eq_true'] at this
   simpa using this
 | .alt t u, rem, h => by
  simp only [okT, Bool.and_eq_true] at h
  exact ⟨pZ t rem h.1, pZ u rem h.2⟩

theorem del_ok {j : Nat} : ∀ (t : OT) (rem : List Nat), rem.Nodup → OkT ops t rem → j ∈ rem → OkT ops (t.del j) (rem.erase j)
 | .nil, rem, _, h, hj => by
  have : rem = [] := h
  subst this
  cases hj
 | .op i t, rem, hn, ⟨⟨o, h1, h1'⟩, h2, h3, h4⟩, hj => by
  unfold OT.del
  split
  ·rename_i hij
   subst hij
   exact h4
  ·rename_i hij
   refine ⟨⟨o, h1, fun e he hb hm => h1' e he hb (List.mem_of_mem_erase hm)⟩, (List.mem_erase_of_ne hij).2 h2, fun b hb => h3 b (List.mem_of_mem_erase hb), ?_⟩
   rw [List.erase_comm]
   exact del_ok t _ (hn.erase i) h4 ((List.mem_erase_of_ne (fun h => hij h.symm)).2 hj)
 | .alt t u, rem, hn, ⟨h1, h2⟩, hj => ⟨del_ok t rem hn h1 hj, del_ok u rem hn h2 hj⟩
theorem oD {j : Nat} : ∀ (t t' : OT) (rem : List Nat), rem.Nodup → OkT ops t rem → j ∈ rem → t.take ops j = some t' → OkT ops t' (rem.erase j)
 | .nil, _, _, _, _, _, h => by simp [OT.take] at h
 | .op i t, t', rem, hn, ⟨⟨o, h1, h1'⟩, h2, h3, h4⟩, hj, h => by
  unfold OT.take at h
  split at h
  ·rename_i hij
   subst hij
   cases h
   exact h4
  ·rename_i hij
   split at h
   ·cases h
   ·cases hx : t.take ops j with
    | none => rw [hx] at h; cases h
    | some x =>
     rw [hx] at h
     cases h
     refine ⟨⟨o, h1, fun e he hb hm => h1' e he hb (List.mem_of_mem_erase hm)⟩, (List.mem_erase_of_ne hij).2 h2, fun b hb => h3 b (List.mem_of_mem_erase hb), ?_⟩
     rw [List.erase_comm]
     exact oD t x _ (hn.erase i) h4 ((List.mem_erase_of_ne (fun h => hij h.symm)).2 hj) hx
 | .alt t u, t', rem, hn, ⟨h1, h2⟩, hj, h => by
  unfold OT.take at h
  split at h
  ·rename_i x hx
   cases h
   exact oD t _ rem hn h1 hj hx
  ·exact oD u t' rem hn h2 hj h
theorem take_del {j q : Nat} (hq : gL ops q = false) (hj : gL ops j = true) : ∀ t : OT, (t.del q).take ops j = (t.take ops j).map (OT.del q)
 | .nil => rfl
 | .op i t => by
  have hjq : j ≠ q := fun h => by rw [h, hq] at hj; cases hj
  by_cases hiq : i = q
  ·subst hiq
   have e1 : (OT.op i t).del i = t := by simp [OT.del]
   rw [e1]
   simp only [OT.take, if_neg (fun h : i = j => hjq h.symm), hq, Bool.false_eq_true, if_false]
   cases t.take ops j with
   | none => rfl
   | some x => simp [OT.del]
  ·have e1 : (OT.op i t).del q = .op i (t.del q) := by simp [OT.del, hiq]
   rw [e1]
   simp only [OT.take]
   split
   ·rfl
   ·split
    ·rfl
    ·rw [take_del hq hj t]
     cases t.take ops j with
     | none => rfl
     | some x => simp [OT.del, hiq]
 | .alt t u => by
  simp only [OT.del, OT.take, take_del hq hj t, take_del hq hj u]
  cases t.take ops j with
  | none => rfl
  | some x => rfl
theorem effs_del {q : Nat} (hq : gL ops q = false) : ∀ t : OT, lH ops (t.del q) = lH ops t
 | .nil => rfl
 | .op i t => by
  unfold OT.del
  split
  ·rename_i h
   subst h
   simp [lH, hq]
  ·simp only [lH, effs_del hq t]
 | .alt t _ => by simp only [OT.del, lH, effs_del hq t]
theorem effs_eff : ∀ (t : OT) (j : Nat), j ∈ lH ops t → gL ops j = true
 | .nil, j, h => by simp [lH] at h
 | .op i t, j, h => by
  unfold lH at h
  split at h
  ·rename_i hi
   rcases List.mem_cons.1 h with rfl | h
   ·exact hi
   ·exact effs_eff t j h
  ·exact effs_eff t j h
 | .alt t _, j, h => effs_eff t j h
theorem gZ : ∀ (t : OT) (rem : List Nat), OkT ops t rem → (∀ j, j ∈ lH ops t → j ∈ rem) ∧ ∀ j, j ∈ rem → gL ops j = true → j ∈ lH ops t
 | .nil, rem, h => by
  have : rem = [] := h
  subst this
  exact ⟨fun j h => by simp [lH] at h, fun j h => by cases h⟩
 | .op i t, rem, ⟨_, h2, _, h4⟩ => by
  obtain ⟨ih1, ih2⟩ := gZ t _ h4
  unfold lH
  constructor
  ·intro j hj
   split at hj
   ·rcases List.mem_cons.1 hj with rfl | hj
    ·exact h2
    ·exact List.mem_of_mem_erase (ih1 j hj)
   ·exact List.mem_of_mem_erase (ih1 j hj)
  ·intro j hj he
   by_cases hij : j = i
   ·subst hij
    rw [if_pos he]
    exact List.mem_cons_self
   ·have := ih2 j ((List.mem_erase_of_ne hij).2 hj) he
    split
    ·exact List.mem_cons_of_mem _ this
    ·exact this
 | .alt t _, rem, ⟨h, _⟩ => gZ t rem h
theorem cov_del {q : Nat} (hq : gL ops q = false) (ms : List Nat) : ∀ (n : Nat) (t : OT), covT ops ms n t = true → covT ops ms n (t.del q) = true
 | 0, t, h => by simpa [covT, effs_del hq] using h
 | n + 1, t, h => by
  simp only [covT, effs_del hq, List.all_eq_true] at h ⊢
  intro j hj
  have h1 := h j hj
  rw [Bool.or_eq_true] at h1 ⊢
  rcases h1 with h1 | h1
  ·exact .inl h1
  ·refine .inr ?_
   rw [take_del hq (effs_eff t j hj)]
   cases hx : t.take ops j with
   | none => rw [hx] at h1; cases h1
   | some x =>
    rw [hx] at h1
    exact cov_del hq ms n x h1

theorem gD (hF : FlM ops) {i j : Nat} {oi oj : Oper} (hij : i ≠ j) (hi : ops[i]? = some oi) (hj : ops[j]? = some oj) (h1 : ((eF ops.toList).getD j 0).testBit i = false) (h2 : ((eF ops.toList).getD i 0).testBit j = false) : oi.apart ops oj = true := by
 rcases hF.pair i j oi oj hij hi hj with h | h | h
 ·rw [h1] at h; cases h
 ·rw [h2] at h; cases h
 ·exact h

theorem kB (hF : FlM ops) {j : Nat} {oj : Oper} (hj : ops[j]? = some oj) (hne : eff oj.op = false) : ∀ (t : OT) (rem : List Nat) (a : Act) (w : World), rem.Nodup → OkT ops t rem → j ∈ rem → (∀ i ∈ rem, ((eF ops.toList).getD j 0).testBit i = false) →
  Region.wanted oj (yielded ops a.tmps) = true → C w → wpT P ops C K t a w → ∃ v, (∀ w', C w' → (execOp a.eval oj).run P w' = .ok (.value v) w') ∧ wpT P ops C K (t.del j) (a.put oj.dst v) w
 | .nil, rem, a, w, hn, hok, hjr, hm, hw, hC, h => by
  have : rem = [] := hok
  subst this
  cases hjr
 | .alt t u, rem, a, w, hn, ⟨o1, o2⟩, hjr, hm, hw, hC, ⟨h1, h2⟩ => by
  obtain ⟨v, hv, h3⟩ := kB hF hj hne t rem a w hn o1 hjr hm hw hC h1
  obtain ⟨v', hv', h4⟩ := kB hF hj hne u rem a w hn o2 hjr hm hw hC h2
  have e1 := hv w hC
  have e2 := hv' w hC
  rw [e1] at e2
  have : v = v' := by simpa using e2
  subst this
  exact ⟨v, hv, h3, h4⟩
 | .op i t, rem, a, w, hn, ⟨⟨oi, hi, _⟩, hir, him, hok⟩, hjr, hm, hw, hC, h => by
  by_cases hij : i = j
  ·subst hij
   rw [hj] at hi
   obtain rfl := Option.some.inj hi
   simp only [wpT, hj, hw, if_true, hne, Bool.false_eq_true, if_false] at h
   simpa [OT.del] using h
  ·have hji : j ∈ rem.erase i := (List.mem_erase_of_ne (fun h => hij h.symm)).2 hjr
   have ih' := fun a w => kB hF hj hne t (rem.erase i) a w (hn.erase i) hok hji (fun b hb => hm b (List.mem_of_mem_erase hb))
   have hap := gD hF hij hi hj (hm i hir) (him j hjr)
   obtain ⟨p1, p2, p3⟩ := Oper.apart_spec hap
   have kj := hF.kind j oj hj
   have ki := hF.kind i oi hi
   have ej : ∀ (a : Act) v, execOp (a.put oi.dst v).eval oj = execOp a.eval oj := fun a v => dI kj a oi.dst v p1
   have ei : ∀ (a : Act) v, execOp (a.put oj.dst v).eval oi = execOp a.eval oi := fun a v => dI ki a oj.dst v p3
   have wj : ∀ (a : Act) v, Region.wanted oj (yielded ops (a.put oi.dst v).tmps) = Region.wanted oj (yielded ops a.tmps) := fun a v => wanted_put oj a oi.dst v p1
   have wi : ∀ (a : Act) v, Region.wanted oi (yielded ops (a.put oj.dst v).tmps) = Region.wanted oi (yielded ops a.tmps) := fun a v => wanted_put oi a oj.dst v p3
   have cm : ∀ (a : Act) u v, (a.put oi.dst u).put oj.dst v = (a.put oj.dst v).put oi.dst u := fun a u v => Act.put_comm a u v p2
   have ed : (OT.op i t).del j = .op i (t.del j) := by simp [OT.del, hij]
   rw [ed]
   simp only [wpT, hi] at h ⊢
   by_cases hwi : Region.wanted oi (yielded ops a.tmps) = true
   ·simp only [hwi, if_true] at h
    by_cases he : eff oi.op = true
    ·simp only [he, if_true] at h
     obtain ⟨v0, w0, hC0, h0⟩ := h.some
     obtain ⟨v, hv, _⟩ := ih' _ w0 (by rw [wj]; exact hw) hC0 h0
     simp only [ej] at hv
     refine ⟨v, hv, ?_⟩
     rw [wi]
     simp only [hwi, if_true, he]
     have h1 : bS P oi (a.put oj.dst v) w (fun u w' => C w' ∧ wpT P ops C K t (a.put oi.dst u) w') := by
      unfold bS at h ⊢
      rw [ei]
      exact h
     refine h1.mono fun u w' ⟨hC', h2⟩ => ⟨hC', ?_⟩
     obtain ⟨v', hv', h3⟩ := ih' _ w' (by rw [wj]; exact hw) hC' h2
     simp only [ej] at hv'
     have e1 := hv w hC
     have e2 := hv' w hC
     rw [e1] at e2
     have : v = v' := by simpa using e2
     subst this
     rw [cm] at h3
     exact h3
    ·simp only [he] at h
     obtain ⟨u, hu, h⟩ := h
     obtain ⟨v, hv, h3⟩ := ih' _ w (by rw [wj]; exact hw) hC h
     simp only [ej] at hv
     refine ⟨v, hv, ?_⟩
     rw [wi]
     simp only [hwi, if_true, he]
     refine ⟨u, fun w' hC' => by rw [ei]; exact hu w' hC', ?_⟩
     rw [cm] at h3
     exact h3
   ·simp only [hwi] at h
    obtain ⟨v, hv, h3⟩ := ih' _ w (by rw [wj]; exact hw) hC h
    simp only [ej] at hv
    refine ⟨v, hv, ?_⟩
    rw [wi]
    simp only [hwi]
    rw [cm] at h3
    exact h3

theorem nB (hF : FlM ops) {j : Nat} {oj : Oper} (hj : ops[j]? = some oj) : ∀ (t : OT) (rem : List Nat) (a : Act) (w : World), rem.Nodup → OkT ops t rem → j ∈ rem → (∀ i ∈ rem, ((eF ops.toList).getD j 0).testBit i = false) →
  Region.wanted oj (yielded ops a.tmps) = false → wpT P ops C K t a w → wpT P ops C K (t.del j) (a.put oj.dst undef) w
 | .nil, rem, a, w, hn, hok, hjr, hm, hw, h => by
  have : rem = [] := hok
  subst this
  cases hjr
 | .alt t u, rem, a, w, hn, ⟨o1, o2⟩, hjr, hm, hw, ⟨h1, h2⟩ => ⟨nB hF hj t rem a w hn o1 hjr hm hw h1, nB hF hj u rem a w hn o2 hjr hm hw h2⟩
 | .op i t, rem, a, w, hn, ⟨⟨oi, hi, _⟩, hir, him, hok⟩, hjr, hm, hw, h => by
  by_cases hij : i = j
  ·subst hij
   rw [hj] at hi
   obtain rfl := Option.some.inj hi
   simp only [wpT, hj, hw, Bool.false_eq_true, if_false] at h
   simpa [OT.del] using h
  ·have hji : j ∈ rem.erase i := (List.mem_erase_of_ne (fun h => hij h.symm)).2 hjr
   have ih' := fun a w => nB hF hj t (rem.erase i) a w (hn.erase i) hok hji (fun b hb => hm b (List.mem_of_mem_erase hb))
   have hap := gD hF hij hi hj (hm i hir) (him j hjr)
   obtain ⟨p1, p2, p3⟩ := Oper.apart_spec hap
   have ki := hF.kind i oi hi
   have ei : ∀ (a : Act) v, execOp (a.put oj.dst v).eval oi = execOp a.eval oi := fun a v => dI ki a oj.dst v p3
   have wj : ∀ (a : Act) v, Region.wanted oj (yielded ops (a.put oi.dst v).tmps) = Region.wanted oj (yielded ops a.tmps) := fun a v => wanted_put oj a oi.dst v p1
   have wi : ∀ (a : Act) v, Region.wanted oi (yielded ops (a.put oj.dst v).tmps) = Region.wanted oi (yielded ops a.tmps) := fun a v => wanted_put oi a oj.dst v p3
   have cm : ∀ (a : Act) u v, (a.put oi.dst u).put oj.dst v = (a.put oj.dst v).put oi.dst u := fun a u v => Act.put_comm a u v p2
   have ed : (OT.op i t).del j = .op i (t.del j) := by simp [OT.del, hij]
   rw [ed]
   simp only [wpT, hi] at h ⊢
   rw [wi]
   by_cases hwi : Region.wanted oi (yielded ops a.tmps) = true
   ·simp only [hwi, if_true] at h ⊢
    by_cases he : eff oi.op = true
    ·simp only [he, if_true] at h ⊢
     have h1 : bS P oi (a.put oj.dst undef) w (fun u w' => C w' ∧ wpT P ops C K t (a.put oi.dst u) w') := by
      unfold bS at h ⊢
      rw [ei]
      exact h
     refine h1.mono fun u w' ⟨hC', h2⟩ => ⟨hC', ?_⟩
     have h3 := ih' _ w' (by rw [wj]; exact hw) h2
     rw [cm] at h3
     exact h3
    ·simp only [he] at h ⊢
     obtain ⟨u, hu, h⟩ := h
     have h3 := ih' _ w (by rw [wj]; exact hw) h
     refine ⟨u, fun w' hC' => by rw [ei]; exact hu w' hC', ?_⟩
     rw [cm] at h3
     exact h3
   ·simp only [hwi] at h ⊢
    have h3 := ih' _ w (by rw [wj]; exact hw) h
    rw [cm] at h3
    exact h3

theorem qC (hF : FlM ops) {j : Nat} {oj : Oper} (hj : ops[j]? = some oj) (he : eff oj.op = true) : ∀ (t t' : OT) (rem : List Nat) (a : Act) (w : World), rem.Nodup → OkT ops t rem → j ∈ rem → (∀ i ∈ rem, ((eF ops.toList).getD j 0).testBit i = false) →
  Region.wanted oj (yielded ops a.tmps) = true → t.take ops j = some t' → wpT P ops C K t a w → bS P oj a w (fun v w' => C w' ∧ wpT P ops C K t' (a.put oj.dst v) w')
 | .nil, _, _, _, _, _, _, _, _, _, ht, _ => by simp [OT.take] at ht
 | .alt t u, t', rem, a, w, hn, ⟨o1, o2⟩, hjr, hm, hw, ht, ⟨h1, h2⟩ => by
  unfold OT.take at ht
  split at ht
  ·rename_i x hx
   cases ht
   exact qC hF hj he t _ rem a w hn o1 hjr hm hw hx h1
  ·exact qC hF hj he u t' rem a w hn o2 hjr hm hw ht h2
 | .op i t, t', rem, a, w, hn, ⟨⟨oi, hi, _⟩, hir, him, hok⟩, hjr, hm, hw, ht, h => by
  unfold OT.take at ht
  split at ht
  ·rename_i hij
   subst hij
   cases ht
   rw [hj] at hi
   obtain rfl := Option.some.inj hi
   simp only [wpT, hj, hw, if_true, he] at h
   exact h
  ·rename_i hij
   split at ht
   ·cases ht
   ·rename_i hei0
    have hei : eff oi.op = false := by simpa [gL, hi] using hei0
    cases hx : t.take ops j with
    | none => rw [hx] at ht; cases ht
    | some x =>
     rw [hx] at ht
     cases ht
     have hji : j ∈ rem.erase i := (List.mem_erase_of_ne (fun h => hij h.symm)).2 hjr
     have ih' := fun a w => qC hF hj he t x (rem.erase i) a w (hn.erase i) hok hji (fun b hb => hm b (List.mem_of_mem_erase hb))
     have hap := gD hF hij hi hj (hm i hir) (him j hjr)
     obtain ⟨p1, p2, p3⟩ := Oper.apart_spec hap
     have kj := hF.kind j oj hj
     have ki := hF.kind i oi hi
     have ej : ∀ (a : Act) v, execOp (a.put oi.dst v).eval oj = execOp a.eval oj := fun a v => dI kj a oi.dst v p1
     have ei : ∀ (a : Act) v, execOp (a.put oj.dst v).eval oi = execOp a.eval oi := fun a v => dI ki a oj.dst v p3
     have wj : ∀ (a : Act) v, Region.wanted oj (yielded ops (a.put oi.dst v).tmps) = Region.wanted oj (yielded ops a.tmps) := fun a v => wanted_put oj a oi.dst v p1
     have wi : ∀ (a : Act) v, Region.wanted oi (yielded ops (a.put oj.dst v).tmps) = Region.wanted oi (yielded ops a.tmps) := fun a v => wanted_put oi a oj.dst v p3
     have cm : ∀ (a : Act) u v, (a.put oi.dst u).put oj.dst v = (a.put oj.dst v).put oi.dst u := fun a u v => Act.put_comm a u v p2
     simp only [wpT, hi] at h
     by_cases hwi : Region.wanted oi (yielded ops a.tmps) = true
     ·simp only [hwi, if_true, hei, Bool.false_eq_true, if_false] at h
      obtain ⟨u, hu, h⟩ := h
      have h3 := ih' _ w (by rw [wj]; exact hw) hx h
      have h4 : bS P oj a w (fun v w' => C w' ∧ wpT P ops C K x ((a.put oi.dst u).put oj.dst v) w') := by
       unfold bS at h3 ⊢
       rw [ej] at h3
       exact h3
      refine h4.mono fun v w' ⟨hC', h5⟩ => ⟨hC', ?_⟩
      simp only [wpT, hi]
      rw [wi]
      simp only [hwi, if_true, hei, Bool.false_eq_true, if_false]
      refine ⟨u, fun w' hC' => by rw [ei]; exact hu w' hC', ?_⟩
      rw [cm] at h5
      exact h5
     ·simp only [hwi, Bool.false_eq_true, if_false] at h
      have h3 := ih' _ w (by rw [wj]; exact hw) hx h
      have h4 : bS P oj a w (fun v w' => C w' ∧ wpT P ops C K x ((a.put oi.dst undef).put oj.dst v) w') := by
       unfold bS at h3 ⊢
       rw [ej] at h3
       exact h3
      refine h4.mono fun v w' ⟨hC', h5⟩ => ⟨hC', ?_⟩
      simp only [wpT, hi]
      rw [wi]
      simp only [hwi, Bool.false_eq_true, if_false]
      rw [cm] at h5
      exact h5

/-- An operation that is left out: the orders in which it stands first, without it. -/
theorem lA (hF : FlM ops) {j : Nat} {oj : Oper} (hj : ops[j]? = some oj) : ∀ (t t' : OT) (rem : List Nat) (a : Act) (w : World), rem.Nodup → OkT ops t rem → j ∈ rem → (∀ i ∈ rem, ((eF ops.toList).getD j 0).testBit i = false) →
  Region.wanted oj (yielded ops a.tmps) = false → t.take ops j = some t' → wpT P ops C K t a w → wpT P ops C K t' (a.put oj.dst undef) w
 | .nil, _, _, _, _, _, _, _, _, _, ht, _ => by simp [OT.take] at ht
 | .alt t u, t', rem, a, w, hn, ⟨o1, o2⟩, hjr, hm, hw, ht, ⟨h1, h2⟩ => by
  unfold OT.take at ht
  split at ht
  ·rename_i x hx
   cases ht
   exact lA hF hj t _ rem a w hn o1 hjr hm hw hx h1
  ·exact lA hF hj u t' rem a w hn o2 hjr hm hw ht h2
 | .op i t, t', rem, a, w, hn, ⟨⟨oi, hi, _⟩, hir, him, hok⟩, hjr, hm, hw, ht, h => by
  unfold OT.take at ht
  split at ht
  ·rename_i hij
   subst hij
   cases ht
   rw [hj] at hi
   obtain rfl := Option.some.inj hi
   simp only [wpT, hj, hw, Bool.false_eq_true, if_false] at h
   exact h
  ·rename_i hij
   split at ht
   ·cases ht
   ·rename_i hei0
    have hei : eff oi.op = false := by simpa [gL, hi] using hei0
    cases hx : t.take ops j with
    | none => rw [hx] at ht; cases ht
    | some x =>
     rw [hx] at ht
     cases ht
     have hji : j ∈ rem.erase i := (List.mem_erase_of_ne (fun h => hij h.symm)).2 hjr
     have ih' := fun a w => lA hF hj t x (rem.erase i) a w (hn.erase i) hok hji (fun b hb => hm b (List.mem_of_mem_erase hb))
     have hap := gD hF hij hi hj (hm i hir) (him j hjr)
     obtain ⟨p1, p2, p3⟩ := Oper.apart_spec hap
     have ki := hF.kind i oi hi
     have ei : ∀ (a : Act) v, execOp (a.put oj.dst v).eval oi = execOp a.eval oi := fun a v => dI ki a oj.dst v p3
     have wj : ∀ (a : Act) v, Region.wanted oj (yielded ops (a.put oi.dst v).tmps) = Region.wanted oj (yielded ops a.tmps) := fun a v => wanted_put oj a oi.dst v p1
     have wi : ∀ (a : Act) v, Region.wanted oi (yielded ops (a.put oj.dst v).tmps) = Region.wanted oi (yielded ops a.tmps) := fun a v => wanted_put oi a oj.dst v p3
     have cm : ∀ (a : Act) u v, (a.put oi.dst u).put oj.dst v = (a.put oj.dst v).put oi.dst u := fun a u v => Act.put_comm a u v p2
     simp only [wpT, hi] at h ⊢
     rw [wi]
     by_cases hwi : Region.wanted oi (yielded ops a.tmps) = true
     ·simp only [hwi, if_true, hei, Bool.false_eq_true, if_false] at h ⊢
      obtain ⟨u, hu, h⟩ := h
      have h3 := ih' _ w (by rw [wj]; exact hw) hx h
      refine ⟨u, fun w' hC' => by rw [ei]; exact hu w' hC', ?_⟩
      rw [cm] at h3
      exact h3
     ·simp only [hwi, Bool.false_eq_true, if_false] at h ⊢
      have h3 := ih' _ w (by rw [wj]; exact hw) hx h
      rw [cm] at h3
      exact h3

theorem okT_end : ∀ (t : OT) (a : Act) (w : World), OkT ops t [] → wpT P ops C K t a w → K a w
 | .nil, _, _, _, h => h
 | .op i t, _, _, ⟨_, h2, _⟩, _ => by cases h2
 | .alt t _, a, w, ⟨h1, _⟩, ⟨h2, _⟩ => okT_end t a w h1 h2
theorem okT_first : ∀ (t : OT) (rem : List Nat), OkT ops t rem → rem ≠ [] → ∃ i ∈ rem, ∃ o, ops[i]? = some o ∧ ∀ e ∈ o.after, Region.binds .any e = true → e.on ∉ rem
 | .nil, rem, h, hne => absurd h hne
 | .op i t, rem, ⟨h1, h2, _⟩, _ => ⟨i, h2, h1⟩
 | .alt t _, rem, ⟨h1, _⟩, hne => okT_first t rem h1 hne

variable {ro : Cx} {Q : Fin}
theorem any_of_T (hF : FlM ops) (hK : ∀ a w, C w → K a w → Q .normal a w) : ∀ (fuel m : Nat) (t : OT) (rem : List Nat) (listed : Array Bool) (a : Act) (w : World),
  rem.length = fuel → rem.Nodup → listed.size = ops.size → (∀ i, i ∈ rem ↔ i < ops.size ∧ listed.getD i true = false) →
  (∀ (m : Nat) o, ops[m]? = some o → listed.getD m false = true → ∀ e ∈ o.after, Region.binds .any e = true → listed.getD e.on false = true) →
  OkT ops t rem → covT ops (eF ops.toList) m t = true → C w → wpT P ops C K t a w → wpAnyIn (FR ro.ro) 0 P .any ops Q fuel listed a w := by
 intro fuel
 induction fuel with
 | zero =>
  intro m t rem listed a w hl hn hsz hmem hcl hok hcov hC h
  have : rem = [] := by simpa using hl
  subst this
  refine ⟨?_, hK _ _ hC (okT_end t a w hok h)⟩
  refine List.eq_nil_iff_forall_not_mem.2 fun i hi => ?_
  obtain ⟨h0, o, ho, _⟩ := mem_ready.1 hi
  exact absurd ((hmem i).2 ⟨(Array.getElem?_eq_some_iff.1 ho).1, h0⟩) (by simp)
 | succ fuel ih =>
  intro m t rem listed a w hl hn hsz hmem hcl hok hcov hC h
  have hlist : ∀ x, x < ops.size → x ∉ rem → listed.getD x false = true := by
   intro x hx hr
   have h3 : ¬ (x < ops.size ∧ listed.getD x true = false) := fun hx => hr ((hmem x).2 hx)
   have h4 : x < listed.size := by omega
   simp only [Array.getD_eq_getD_getElem?, Array.getElem?_eq_getElem h4, Option.getD_some] at h3 ⊢
   cases hc : listed[x] with
   | true => rfl
   | false => exact absurd ⟨hx, hc⟩ h3
  have hunl : ∀ x, listed.getD x false = true → x ∉ rem := by
   intro x hx hr
   have h0 := ((hmem x).1 hr).2
   simp only [Array.getD_eq_getD_getElem?] at hx h0
   cases hc : listed[x]? <;> simp [hc] at hx h0
   simp [hx] at h0
  refine ⟨fun h0 => ?_, fun j hj => ?_⟩
  ·exfalso
   obtain ⟨i, hir, o, ho, hd⟩ := okT_first t rem hok (by rintro rfl; simp at hl)
   have hrd : i ∈ Region.ready .any ops listed := by
    refine mem_ready.2 ⟨((hmem i).1 hir).2, o, ho, fun e he hb => ?_⟩
    by_cases hes : e.on < ops.size
    ·exact hlist _ hes (hd e he hb)
    ·exact (hF.edge i o ho e he hb hes).elim
   rw [h0] at hrd
   cases hrd
  ·obtain ⟨h0, oj, hoj, hre⟩ := mem_ready.1 hj
   have hjr : j ∈ rem := (hmem j).2 ⟨(Array.getElem?_eq_some_iff.1 hoj).1, h0⟩
   have hun : ∀ i ∈ rem, ((eF ops.toList).getD j 0).testBit i = false := fun i hi => by
    cases hb : ((eF ops.toList).getD j 0).testBit i with
    | false => rfl
    | true => exact absurd hi (hunl i (mQ (D := fun m => listed.getD m false = true) (fun m o hm hD e he hb => hcl m o hm hD e he hb) j oj hoj (fun e he hb => hre e he hb) i hb))
   have next : ∀ m (t' : OT) a w, OkT ops t' (rem.erase j) → covT ops (eF ops.toList) m t' = true → C w → wpT P ops C K t' a w → wpAnyIn (FR ro.ro) 0 P .any ops Q fuel (listed.setIfInBounds j true) a w := by
    intro m t' a w hok hcov hC h
    refine ih m t' (rem.erase j) _ a w ?_ (hn.erase j) (by simp [hsz]) ?_ ?_ hok hcov hC h
    ·rw [List.length_erase_of_mem hjr]; omega
    ·intro i
     constructor
     ·intro hi
      have hne : j ≠ i := fun e => by subst e; exact absurd hi (hn.not_mem_erase)
      have h1 := (hmem i).1 (List.mem_of_mem_erase hi)
      exact ⟨h1.1, by rw [getD_set_ne true hne]; exact h1.2⟩
     ·rintro ⟨h1, h2⟩
      have hne : j ≠ i := fun e => by
       subst e
       simp [hsz, h1] at h2
      rw [getD_set_ne true hne] at h2
      exact (List.mem_erase_of_ne (fun h => hne h.symm)).2 ((hmem i).2 ⟨h1, h2⟩)
    ·intro m o hm hD e he hb
     by_cases hmj : j = m
     ·subst hmj
      rw [hoj] at hm
      obtain rfl := Option.some.inj hm
      exact getD_set_true (hre e he hb)
     ·rw [getD_set_ne false hmj] at hD
      exact getD_set_true (hcl m o hm hD e he hb)
   unfold wpOpIn
   simp only [hoj]
   by_cases hw : Region.wanted oj (yielded ops a.tmps) = true
   ·simp only [hw, if_true]
    cases he : eff oj.op with
    | true =>
     have hej : gL ops j = true := by simp [gL, hoj, he]
     have hje := (gZ t rem hok).2 j hjr hej
     cases m with
     | zero =>
      simp only [covT, List.isEmpty_iff] at hcov
      rw [hcov] at hje
      cases hje
     | succ m =>
      simp only [covT, List.all_eq_true] at hcov
      have h1 := hcov j hje
      rw [Bool.or_eq_true] at h1
      rcases h1 with h1 | h1
      ·obtain ⟨i, hi, hb⟩ := List.any_eq_true.1 h1
       rw [hun i ((gZ t rem hok).1 i hi)] at hb
       cases hb
      ·cases hx : t.take ops j with
       | none => rw [hx] at h1; cases h1
       | some x =>
        rw [hx] at h1
        have h2 := qC hF hoj he t x rem a w hn hok hjr hun hw hx h
        exact bS.wpIn (hF.kind j oj hoj) (h2.mono fun v w' ⟨hC', h3⟩ => next m x _ _ (oD t x rem hn hok hjr hx) h1 hC' h3)
    | false =>
     have hej : gL ops j = false := by simp [gL, hoj, he]
     obtain ⟨v, hv, h2⟩ := kB hF hoj he t rem a w hn hok hjr hun hw hC h
     exact upon_FR (fun c hc => by have := hF.kind j oj hoj; rw [hc] at this; cases this) (hv w hC) (next m _ _ _ (del_ok t rem hn hok hjr) (cov_del hej _ m t hcov) hC h2)
   ·have hw' : Region.wanted oj (yielded ops a.tmps) = false := by simpa using hw
    simp only [hw', Bool.false_eq_true, if_false]
    cases he : eff oj.op with
    | false =>
     have hej : gL ops j = false := by simp [gL, hoj, he]
     exact ⟨fun f _ => pL f, next m _ _ _ (del_ok t rem hn hok hjr) (cov_del hej _ m t hcov) hC (nB hF hoj t rem a w hn hok hjr hun hw' h)⟩
    | true =>
     have hej : gL ops j = true := by simp [gL, hoj, he]
     have hje := (gZ t rem hok).2 j hjr hej
     cases m with
     | zero =>
      simp only [covT, List.isEmpty_iff] at hcov
      rw [hcov] at hje
      cases hje
     | succ m =>
      simp only [covT, List.all_eq_true] at hcov
      have h1 := hcov j hje
      rw [Bool.or_eq_true] at h1
      rcases h1 with h1 | h1
      ·obtain ⟨i, hi, hb⟩ := List.any_eq_true.1 h1
       rw [hun i ((gZ t rem hok).1 i hi)] at hb
       cases hb
      ·cases hx : t.take ops j with
       | none => rw [hx] at h1; cases h1
       | some x =>
        rw [hx] at h1
        exact ⟨fun f _ => pL f, next m _ _ _ (oD t x rem hn hok hjr hx) h1 hC (lA hF hoj t x rem a w hn hok hjr hun hw' hx h)⟩

/-- The whole check. -/
def treeB (ops : Array Oper) (t : OT) : Bool := pairsB ops (eF ops.toList) && okT ops (eF ops.toList) t (List.range ops.size) && covT ops (eF ops.toList) ops.size t
theorem wpIn_region_T {id : Nat} {a : Act} {w : World} (t : OT) (hm : P.follows .mixedOrders = true) (hB : treeB ops t = true) (hC : C { w with drawn := w.drawn + 1 })
  (hK : ∀ a w, C w → K a w → Q .normal a w) (h : wpT P ops C K t a { w with drawn := w.drawn + 1 }) : (Code.region id ops true).wpIn (FR ro.ro) 0 P Q a w := by
 simp only [treeB, Bool.and_eq_true] at hB
 obtain ⟨⟨h1, h2⟩, h3⟩ := hB
 refine wpIn_region_any hm (any_of_T (pairsB_spec h1) hK ops.size ops.size t (List.range ops.size) _ a _ (by simp) List.nodup_range (by simp) ?_ ?_ (pZ t _ h2) h3 hC h)
 ·intro i
  simp only [List.mem_range]
  constructor
  ·intro hi
   exact ⟨hi, by simp [hi]⟩
  ·exact fun hi => hi.1
 ·intro m o _ hD
  simp only [Array.getD_eq_getD_getElem?, Array.getElem?_replicate] at hD
  split at hD <;> simp at hD
end
end Go.Eng

/- The engine, part B11: walks of a region by a tree of orders. -/
namespace Go.Eng
open Go Go.RowKit

section
variable {P : Program} {ro : Cx} {n : Nat} {F : Fin} {w0 : World} {M : Nat → Prop} {k : List It} {ops : Array Oper} {e : Env} {H Hq : List Ck}

structure QT (P : Program) (ro : Cx) (n : Nat) (F : Fin) (w0 : World) (M : Nat → Prop) (k : List It) (ops : Array Oper) (Hq : List Ck) (t : OT) (e : Env) (H : List Ck) : Prop where
 h : ∀ w, Sat w0 M (H ++ Hq) w → ∀ a, Fits n e a → a.defers = ro.ds → wpT P ops (Sat w0 M Hq) (fun a w => S P ro.ro F k .normal a w) t a w
def aN : List Nat → OT → OT
 | [], t => t
 | i :: l, t => .op i (aN l t)

theorem gU {id : Nat} {l : List Oper} (t : OT) (Hq Hm : List Ck) (hH : Sp H (Hm ++ Hq)) (hm : P.follows .mixedOrders = true) (hB : treeB l.toArray t = true) (h : QT P ro n F w0 M k l.toArray Hq t e Hm) :
  Q P ro n F w0 M (.code (.region id l.toArray true) :: k) e H := .mk fun w hs a hf hd => by
 have hs1 := (hs.sp hH).keep (Chg.drew (N := []) w)
 exact wpIn_region_T t hm hB (C := Sat w0 M Hq) hs1.right (fun _ _ _ h => h) (h.h _ hs1 a hf hd)
theorem bZ (h : Q P ro n F w0 M k e (H ++ Hq)) : QT P ro n F w0 M k ops Hq .nil e H := ⟨fun w hs a hf hd => h.h w hs a hf hd⟩
theorem bE {t u : OT} (h1 : QT P ro n F w0 M k ops Hq t e H) (h2 : QT P ro n F w0 M k ops Hq u e H) : QT P ro n F w0 M k ops Hq (.alt t u) e H :=
 ⟨fun w hs a hf hd => ⟨h1.h w hs a hf hd, h2.h w hs a hf hd⟩⟩
theorem wpT_chain {C : World → Prop} {K : Act → World → Prop} {t : OT} : ∀ (l : List Nat) (lo : List Oper) (a : Act) (w : World), l.map (fun i => ops[i]?) = lo.map some → gG P ops C (wpT P ops C K t) lo a w → wpT P ops C K (aN l t) a w
 | [], [], a, w, _, h => h
 | [], _ :: _, _, _, hl, _ => by cases hl
 | _ :: _, [], _, _, hl, _ => by cases hl
 | i :: l, o :: lo, a, w, hl, h => by
  simp only [List.map_cons, List.cons.injEq] at hl
  have ih : ∀ a w, gG P ops C (wpT P ops C K t) lo a w → wpT P ops C K (aN l t) a w := fun a w => wpT_chain l lo a w hl.2
  simp only [aN, wpT, hl.1]
  simp only [gG] at h
  split
  ·rename_i hw
   rw [if_pos hw] at h
   split
   ·rename_i he
    rw [if_pos he] at h
    exact h.mono fun v w' ⟨hC, h2⟩ => ⟨hC, ih _ _ h2⟩
   ·rename_i he
    rw [if_neg he] at h
    obtain ⟨v, hv, h2⟩ := h
    exact ⟨v, hv, ih _ _ h2⟩
  ·rename_i hw
   rw [if_neg hw] at h
   exact ih _ _ h
/-- The operations of these numbers. -/
inductive PickL (ops : Array Oper) : List Nat → List Oper → Prop
 | nil : PickL ops [] []
 | cons {i : Nat} {o : Oper} {l : List Nat} {lo : List Oper} : ops[i]? = some o → PickL ops l lo → PickL ops (i :: l) (o :: lo)
theorem PickL.map {l : List Nat} {lo : List Oper} (h : PickL ops l lo) : l.map (fun i => ops[i]?) = lo.map some := by
 induction h with
 | nil => rfl
 | cons h1 _ ih => simp [h1, ih]
theorem J {p : Prop} (h : p := by repeat (first | exact PickL.nil | (apply PickL.cons; rfl))) : p := h
theorem aQ {l : List Nat} {lo : List Oper} {t : OT} (hl : PickL ops l lo)
  (h : ∀ K1 : Act → World → Prop, (∀ e' H', QT P ro n F w0 M k ops Hq t e' H' → Q P ro n F w0 M (.k K1 :: k) e' (H' ++ Hq)) → QF P ro n F w0 M (.k K1 :: k) ops Hq lo e H) : QT P ro n F w0 M k ops Hq (aN l t) e H :=
 ⟨fun w hs a hf hd => by
  have h1 := h (wpT P ops (Sat w0 M Hq) (fun a w => S P ro.ro F k .normal a w) t) (fun e' H' hq => .mk fun w' hs' a' hf' hd' => hq.h w' hs' a' hf' hd')
  exact wpT_chain l lo a w hl.map (h1.h w hs a hf hd)⟩

/-- What follows, once for all the ways that lead there. -/
theorem jG {σ : Type} {c : Code} (env : σ → Env) (hp : σ → List Ck) (main : ∀ s, Q P ro n F w0 M k (env s) (hp s))
  (first : ∀ K2 : Act → World → Prop, (∀ s e' H', Sub (env s) e' → Sp H' (hp s) → Q P ro n F w0 M (.k K2 :: k) e' H') → Q P ro n F w0 M (.code c :: .k K2 :: k) e H) : Q P ro n F w0 M (.code c :: k) e H := by
 have h1 := first (fun a w => S P ro.ro F k .normal a w) (fun s e' H' hs hH => .mk fun w hw a hf hd => (main s).h w (hw.sp hH) a (hf.sub hs) hd)
 have e1 : S P ro.ro F (.k (fun a w => S P ro.ro F k .normal a w) :: k) = S P ro.ro F k := by
  funext x a w
  cases x <;> rfl
 refine .mk fun w hs a hf hd => ?_
 have h2 := h1.h w hs a hf hd
 simp only [S] at h2 ⊢
 simp only [S] at e1
 rw [e1] at h2
 exact h2
end
end Go.Eng

/- Walks: the best choice. -/
namespace Go.Proofs.YtohlillcaadidaaGreat
open Go Go.Eng

set_option maxHeartbeats 4000000 in
theorem choose_ca (w : World) (bp bd bm : Nat) (r : Rg) (p : Ru) (vf : Vf) (shot wt st : Nat) (cl : Int) (h : PlAt w bp bd bm r p) (hm : MapAt w bm (keyF k4) eqV (jM vf)) (hr : r.Right) (hp : p.Right) (h4 : shot ≤ 4) (hw3 : wt ≤ 3) (hst : st < r.drifts.length)
  (hcl : -r.clicks ≤ cl ∧ cl ≤ r.clicks) (hb : shot < 4 → FineV r vf (shot + 1) wt) (hbw : 0 < wt → FineV r vf shot (wt - 1)) :
  Ca Tryz.prog 94 [.pointer (some ⟨bp, 0, none⟩), plcV shot wt st cl] w fun v w' =>
   v = .tuple #[.agg #[.bool (chV r p (gvF vf (shot + 1) wt) (gvF vf shot (wt - 1)) shot wt st cl).1.1, .int .i64 (chV r p (gvF vf (shot + 1) wt) (gvF vf shot (wt - 1)) shot wt st cl).1.2], .int .i64 (chV r p (gvF vf (shot + 1) wt) (gvF vf shot (wt - 1)) shot wt st cl).2] ∧ Chg [] w w' := by
 have h0 := h
 have hm0 := hm
 obtain ⟨tp, hplb, hdk⟩ := h; have hdk0 := hdk; obtain ⟨cs, bt, hblk, lo, hi, ag, cg, ad, cd, af, cf, an, cn, rfl, hg, hdr, hf, hn⟩ := hdk
 have hC := hr.clicks
 have hin0 : inB cl (-r.clicks) r.clicks = true := bH.2 hcl
 refine q_ofM (Sat.nil w M0) Tryz.func94 Z (by simp [Tryz.ntmps94]) ?_
 (refine aE (aB ?_))
 refine bG Z Z (fun b2 => ?_)
 refine bG Z Z (fun b3 => ?_)
 refine aV hU Z (fun b4 => ?_)
 (refine aA V Z Z (aF (aE ?_)))
 refine jG (σ := Nat × Nat) (fun s => [(2, .pointer (some ⟨b2, 0, none⟩)), (3, .pointer (some ⟨b3, 0, none⟩)), (4, .pointer (some ⟨b4, 0, none⟩)), (6, .pointer (some ⟨s.1, 0, none⟩)), (7, .pointer (some ⟨s.2, 0, none⟩))])
  (fun s => [.pt s.2 [.int .i64 (cS r p (gvF vf (shot + 1) wt) shot wt st cl cl)] 3, .pt s.1 [.bool false, .int .i64 cl] 74, .pt b4 [.bool false, .int .i64 0] 74, .pt b3 [.int .i64 shot, .int .i64 wt, .int .i64 st, .int .i64 cl] 110, .pt b2 [.pointer (some ⟨bp, 0, none⟩)] 105]) ?main (fun K2 hK2 => ?_)
 case main =>
  rintro ⟨b6, b7⟩
  dsimp only
  (refine aE (aE ?_))
  refine bX _ [] (Sp.refl _) qR qR ?_
  (refine aT V Z Z Z ?_; refine aD V Z Z Z (aD V Z Z Z ?_); refine dO V Z Z Z (by assumption) (by rfl) ?_; refine aD V Z Z Z ?_; refine aT V Z Z Z ?_)
  refine bD (β := Nat × Nat) V [] _ M0 Z Z Z Z (Sp.refl _) qS (fun w' hs => clicks_ca w' bd cl) ?_
  rintro ⟨bx, bn⟩ _ rfl
  (refine aK (aP ?_))
  refine q_range (fun c => [Value.int .i64 c]) (Int × Int) (cR r.clicks cl) (fun pre s => s = pre.foldl (nO r p (gvF vf (shot + 1) wt) shot wt st cl) (cl, cS r p (gvF vf (shot + 1) wt) shot wt st cl cl)) (fun _ _ => False)
   (fun s => [.pt b7 [.int .i64 s.2] 3, .pt b6 [.bool false, .int .i64 s.1] 74, .pt b3 [.int .i64 shot, .int .i64 wt, .int .i64 st, .int .i64 cl] 110, .pt b2 [.pointer (some ⟨bp, 0, none⟩)] 105]) [.pt bn [.int .i64 cl] 3, .pt bx [.pointer (some ⟨bd, 0, none⟩)] 84, .pt b4 [.bool false, .int .i64 0] 74] (cl, cS r p (gvF vf (shot + 1) wt) shot wt st cl cl)
   rfl qR rfl (fun _ _ => rfl) rfl U ?_ ?_ ?_ (fun _ _ _ h => h.elim)
  ·intro w1 D hs hD
   exact clicks_it w w1 D bd bx bn cl r hdk0 (fun w' hc => hs.chg0.old hc (fun k hk => (hD k hk).2.resolve_left (fun h => h))) hC hin0 (hs.blk U) (hs.blk U) (fun h => (hD _ h).1 ⟨.pt bx [.pointer (some ⟨bd, 0, none⟩)] _, U, Z⟩) (fun h => (hD _ h).1 ⟨.pt bn [.int .i64 cl] _, U, Z⟩)
  ·intro pre x post s w1 l rdy bsy K F' hx hI hsat hR hbegin hend hret hexit
   have hxin : -r.clicks ≤ x ∧ x ≤ r.clicks := bH.1 (iP _ _ hin0 x (by rw [hx]; simp))
   (refine aB (aA V Z Z (aF ?_)))
   refine hbegin _ _ ?_
   (refine aP (aE (aB ?_)); refine aH V Z Z Z ?_; refine aI V Z Z Z ?_; refine aA V Z Z ?_)
   refine aJ (val := .int .i64 (cS r p (gvF vf (shot + 1) wt) shot wt st cl x)) V Z Z Z Z (fun w hs => ?_) ?_; exact nA w bp bd bm r p vf shot wt st cl x (h0.keep (hR w hs.chg).chg0) (hm0.keep (hR w hs.chg).chg0) hr hp h4 hw3 hst hcl hxin hb
   (refine aA V Z Z (aF (aE (aB (aA V Z Z ?_)))); refine aH V Z Z Z ?_; refine aA V Z Z (aF ?_))
   refine dD Z (fun hc => ?_) (fun hc => ?_)
   ·(refine aB (aA V Z Z ?_))
    refine cE #[.bool false, .int .i64 x] Z qR Z ?_
    (refine aA V Z Z ?_; refine aY V Z Z Z Z Z U Z ?_; refine eV V Z Z Z Z U ?_; refine aF (bL ?_))
    refine hend _ _ (x, cS r p (gvF vf (shot + 1) wt) shot wt st cl x) ?_ U
    rw [List.foldl_append, ← hI]
    simp [nO, hc]
   ·(refine aR (bL ?_))
    refine hend _ _ s ?_ U
    rw [List.foldl_append, ← hI]
    simp [nO, hc]
  ·rintro D s rfl
   (refine bL (aE (aE (aB (aA V Z Z ?_)))); refine aH V Z Z Z ?_; refine aA V Z Z (aF ?_))
   have hcs : (cR r.clicks cl).foldl (nO r p (gvF vf (shot + 1) wt) shot wt st cl) (cl, cS r p (gvF vf (shot + 1) wt) shot wt st cl cl) = dH r p (gvF vf (shot + 1) wt) shot wt st cl := rfl
   rw [hcs]
   refine dD Z (fun hc => ?_) (fun hc => ?_)
   ·have hw0 : 0 < wt := by omega
    (refine aE (aB ?_); refine aH V Z Z Z ?_; refine aI V Z Z Z ?_)
    refine aJ (val := .int .i64 (mI r p (gvF vf shot (wt - 1)) shot wt st cl)) V Z Z Z Z (fun w hs => ?_) ?_; exact waitF_ca w bp bd bm r p vf shot wt st cl (h0.keep hs.chg0) (hm0.keep hs.chg0) hr hp h4 hw0 hw3 hst hcl (hbw hw0)
    (refine aA V Z Z (aF (aE (aB (aA V Z Z ?_)))); refine aH V Z Z Z ?_; refine aA V Z Z (aF ?_))
    refine dD Z (fun hc => ?_) (fun hc => ?_)
    ·(refine aB ?_)
     refine cE #[.bool true, .int .i64 0] Z qR Z ?_
     (refine aA V Z Z ?_; refine aY V Z Z Z Z Z U Z ?_; refine eV V Z Z Z Z U ?_; refine aF (aE ?_))
     refine bX _ [.pt b4 _ _] (Sp.cons U (Sp.refl _)) qR qR ?_
     (refine aO V Z Z Z ?_; refine aT V Z Z Z ?_; refine bK V Z Z Z Z Z U Z ?_; refine aD V Z Z Z (aK (aW ?_)))
     refine q_finMD V U Z U fun w hs => ?_
     refine ⟨?_, hs.chg0⟩
     have e : chV r p (gvF vf (shot + 1) wt) (gvF vf shot (wt - 1)) shot wt st cl = ((true, 0), mI r p (gvF vf shot (wt - 1)) shot wt st cl) := by unfold chV; simp only; rw [if_pos hw0, if_pos hc]
     rw [e]; rfl
    ·(refine aR (aE ?_))
     refine bX _ [.pt b4 _ _] (Sp.cons U (Sp.refl _)) qR qR ?_
     (refine aO V Z Z Z ?_; refine aT V Z Z Z ?_; refine bK V Z Z Z Z Z U Z ?_; refine aD V Z Z Z (aK (aW ?_)))
     refine q_finMD V U Z U fun w hs => ?_
     refine ⟨?_, hs.chg0⟩
     have e : chV r p (gvF vf (shot + 1) wt) (gvF vf shot (wt - 1)) shot wt st cl = ((false, (dH r p (gvF vf (shot + 1) wt) shot wt st cl).1), (dH r p (gvF vf (shot + 1) wt) shot wt st cl).2) := by unfold chV; simp only; rw [if_pos hw0, if_neg hc]
     rw [e]; rfl
   ·have hw0 : ¬ 0 < wt := by omega
    (refine aR (aE ?_))
    refine bX _ [.pt b4 _ _] (Sp.cons U (Sp.refl _)) qR qR ?_
    (refine aO V Z Z Z ?_; refine aT V Z Z Z ?_; refine bK V Z Z Z Z Z U Z ?_; refine aD V Z Z Z (aK (aW ?_)))
    refine q_finMD V U Z U fun w hs => ?_
    refine ⟨?_, hs.chg0⟩
    have e : chV r p (gvF vf (shot + 1) wt) (gvF vf shot (wt - 1)) shot wt st cl = ((false, (dH r p (gvF vf (shot + 1) wt) shot wt st cl).1), (dH r p (gvF vf (shot + 1) wt) shot wt st cl).2) := by unfold chV; simp only; rw [if_neg hw0]
    rw [e]; rfl
 refine gU (aN [0, 1, 2, 3, 4, 5, 6] (.alt (aN [7] (.alt (aN [8, 9, 10, 11] .nil) (aN [9, 8, 10, 11] .nil))) (.alt (aN [8] (.alt (aN [7, 9, 10, 11] .nil) (aN [9, 7, 10, 11] .nil))) (aN [9] (.alt (aN [7, 8, 10, 11] .nil) (aN [8, 7, 10, 11] .nil)))))) _ [] (Sp.refl _) qR qR ?_
 refine aQ J fun K1 hK1 => ?_
 (refine aD V Z Z Z ?_; refine aT V Z Z Z ?_)
 refine lP #[.bool false, .int .i64 cl] Z qR Z ?_
 (refine aT V Z Z Z ?_; refine aO V Z Z Z ?_; refine aD V Z Z Z ?_; refine aT V Z Z Z ?_; refine aK ?_)
 refine hK1 _ _ (bE (aQ J fun K3 hK3 => ?_) (bE (aQ J fun K3 hK3 => ?_) (aQ J fun K3 hK3 => ?_)))
 ·refine aS (val := .int .i64 (cS r p (gvF vf (shot + 1) wt) shot wt st cl cl)) V Z Z Z Z (fun w hs => ?_) ?_; exact nA w bp bd bm r p vf shot wt st cl cl (h0.keep hs.chg0) (hm0.keep hs.chg0) hr hp h4 hw3 hst hcl hcl hb
  (refine aK ?_)
  refine hK3 _ _ (bE (aQ J fun K4 hK4 => ?_) (aQ J fun K4 hK4 => ?_))
  ·refine aU hU Z (fun b6 => ?_)
   refine aU nE Z (fun b7 => ?_)
   (refine bK V Z Z Z Z Z U Z ?_; refine lV V Z Z Z Z U ?_; refine aK ?_)
   exact hK4 _ _ (bZ (hK2 (b6, b7) _ _ ⟨Z, Z, Z, Z, Z, trivial⟩ U))
  ·refine aU nE Z (fun b7 => ?_)
   refine aU hU Z (fun b6 => ?_)
   (refine bK V Z Z Z Z Z U Z ?_; refine lV V Z Z Z Z U ?_; refine aK ?_)
   exact hK4 _ _ (bZ (hK2 (b6, b7) _ _ ⟨Z, Z, Z, Z, Z, trivial⟩ U))
 ·refine aU hU Z (fun b6 => ?_)
  (refine aK ?_)
  refine hK3 _ _ (bE (aQ J fun K4 hK4 => ?_) (aQ J fun K4 hK4 => ?_))
  ·refine aS (val := .int .i64 (cS r p (gvF vf (shot + 1) wt) shot wt st cl cl)) V Z Z Z Z (fun w hs => ?_) ?_; exact nA w bp bd bm r p vf shot wt st cl cl (h0.keep hs.chg0) (hm0.keep hs.chg0) hr hp h4 hw3 hst hcl hcl hb
   refine aU nE Z (fun b7 => ?_)
   (refine bK V Z Z Z Z Z U Z ?_; refine lV V Z Z Z Z U ?_; refine aK ?_)
   exact hK4 _ _ (bZ (hK2 (b6, b7) _ _ ⟨Z, Z, Z, Z, Z, trivial⟩ U))
  ·refine aU nE Z (fun b7 => ?_)
   refine aS (val := .int .i64 (cS r p (gvF vf (shot + 1) wt) shot wt st cl cl)) V Z Z Z Z (fun w hs => ?_) ?_; exact nA w bp bd bm r p vf shot wt st cl cl (h0.keep hs.chg0) (hm0.keep hs.chg0) hr hp h4 hw3 hst hcl hcl hb
   (refine bK V Z Z Z Z Z U Z ?_; refine lV V Z Z Z Z U ?_; refine aK ?_)
   exact hK4 _ _ (bZ (hK2 (b6, b7) _ _ ⟨Z, Z, Z, Z, Z, trivial⟩ U))
 ·refine aU nE Z (fun b7 => ?_)
  (refine aK ?_)
  refine hK3 _ _ (bE (aQ J fun K4 hK4 => ?_) (aQ J fun K4 hK4 => ?_))
  ·refine aS (val := .int .i64 (cS r p (gvF vf (shot + 1) wt) shot wt st cl cl)) V Z Z Z Z (fun w hs => ?_) ?_; exact nA w bp bd bm r p vf shot wt st cl cl (h0.keep hs.chg0) (hm0.keep hs.chg0) hr hp h4 hw3 hst hcl hcl hb
   refine aU hU Z (fun b6 => ?_)
   (refine bK V Z Z Z Z Z U Z ?_; refine lV V Z Z Z Z U ?_; refine aK ?_)
   exact hK4 _ _ (bZ (hK2 (b6, b7) _ _ ⟨Z, Z, Z, Z, Z, trivial⟩ U))
  ·refine aU hU Z (fun b6 => ?_)
   refine aS (val := .int .i64 (cS r p (gvF vf (shot + 1) wt) shot wt st cl cl)) V Z Z Z Z (fun w hs => ?_) ?_; exact nA w bp bd bm r p vf shot wt st cl cl (h0.keep hs.chg0) (hm0.keep hs.chg0) hr hp h4 hw3 hst hcl hcl hb
   (refine bK V Z Z Z Z Z U Z ?_; refine lV V Z Z Z Z U ?_; refine aK ?_)
   exact hK4 _ _ (bZ (hK2 (b6, b7) _ _ ⟨Z, Z, Z, Z, Z, trivial⟩ U))

end Go.Proofs.YtohlillcaadidaaGreat

/- Walks: all situations, one after the other. -/
namespace Go.Proofs.YtohlillcaadidaaGreat
open Go Go.Eng

abbrev Plc := Nat × Nat × Nat × Int
def encP (x : Plc) : List Value := [plcV x.1 x.2.1 x.2.2.1 x.2.2.2]
def pl4 (r : Rg) (sh wt st : Nat) (i : Nat) : List Plc := [(sh, wt, st, -r.clicks + (i : Int))]
def pl3 (r : Rg) (sh wt st : Nat) : List Plc := (List.range (2 * r.clicks + 1).toNat).flatMap (pl4 r sh wt st)
def pl2 (r : Rg) (sh wt : Nat) : List Plc := (List.range r.drifts.length).flatMap (pl3 r sh wt)
def pl1 (r : Rg) (p : Ru) (sh : Nat) : List Plc := (List.range (p.waits + 1).toNat).flatMap (pl2 r sh)
/-- All situations, in their order. -/
def plcL (r : Rg) (p : Ru) : List Plc := (List.range 5).flatMap (pl1 r p)
theorem fF {α : Type} (f : Nat → List α) (k : Nat) : (List.range (k + 1)).flatMap f = (List.range k).flatMap f ++ f k := by simp [List.range_succ]
theorem iZ {α : Type} (f : Nat → List α) {k n : Nat} (h : k < n) : ∃ rest, (List.range n).flatMap f = (List.range k).flatMap f ++ (f k ++ rest) := by
 induction n with
 | zero => omega
 | succ n ih =>
  by_cases h2 : k = n
  ·subst h2
   exact ⟨[], by rw [fF, List.append_nil]⟩
  ·obtain ⟨rest, hr⟩ := ih O
   exact ⟨rest ++ f n, by rw [fF, hr]; simp⟩
theorem plcL_split (r : Rg) (p : Ru) {sh wt st i : Nat} (h1 : sh < 5) (h2 : wt < (p.waits + 1).toNat) (h3 : st < r.drifts.length) (h4 : i < (2 * r.clicks + 1).toNat) :
  ∃ post, plcL r p = ((List.range sh).flatMap (pl1 r p) ++ ((List.range wt).flatMap (pl2 r sh) ++ ((List.range st).flatMap (pl3 r sh wt) ++ (List.range i).flatMap (pl4 r sh wt st)))) ++ (sh, wt, st, -r.clicks + (i : Int)) :: post := by
 obtain ⟨a, ha⟩ := iZ (pl1 r p) h1
 obtain ⟨b, hb⟩ := iZ (pl2 r sh) h2
 obtain ⟨c, hc⟩ := iZ (pl3 r sh wt) h3
 obtain ⟨d, hd⟩ := iZ (pl4 r sh wt st) h4
 refine ⟨d ++ (c ++ (b ++ a)), ?_⟩
 unfold plcL
 rw [ha]
 have e1 : pl1 r p sh = (List.range (p.waits + 1).toNat).flatMap (pl2 r sh) := rfl
 have e2 : pl2 r sh wt = (List.range r.drifts.length).flatMap (pl3 r sh wt) := rfl
 have e3 : pl3 r sh wt st = (List.range (2 * r.clicks + 1).toNat).flatMap (pl4 r sh wt st) := rfl
 rw [e1, hb, e2, hc, e3, hd]
 simp [pl4]

/-- What is known of a function that is called for each situation. -/
theorem eachF {α σ : Type} {enc : α → List Value} {xs : List α} {w : World} {fv : Value} {L : σ → List Ck} {I : List α → σ → Prop} {s0 : σ}
  (hcb : ∀ pre x post s w', xs = pre ++ x :: post → I pre s → Sat w (DL (L s0)) (L s) w' → CaF Tryz.prog fv (enc x) w' (fun _ w'' => ∃ s', I (pre ++ [x]) s' ∧ Sat w' (DL (L s)) (L s') w''))
  {pre : List α} {x : α} {post : List α} {s : σ} (hx : xs = pre ++ x :: post) (hI : I pre s) {R : List Ck} : ∀ w', Sat w (DL (L s0)) ([un (L s)] ++ R) w' →
   CaF Tryz.prog fv (enc x) w' (fun v w'' => ∃ s', I (pre ++ [x]) s' ∧ Sat w' (DL (L s)) [un (L s')] w'') := fun w' hs => by
 have h1 : Sat w (DL (L s0)) (L s) w' := (Sat.un_iff.1 hs).sp (by
  have key : ∀ (A B : List Ck), Sp (A ++ B) A := by
   intro A B
   induction A with
   | nil => exact .nil
   | cons a A ih => exact .cons .z ih
  exact key _ _)
 exact (hcb pre x post s w' hx hI h1).mono fun v w'' ⟨s', h2, h3⟩ => ⟨s', h2, Sat.un1.2 h3⟩

set_option maxHeartbeats 4000000 in
theorem hX {σ : Type} (w : World) (bp bd bm : Nat) (r : Rg) (p : Ru) (fv : Value) (L : σ → List Ck) (I : List Plc → σ → Prop) (s0 : σ) (tp td : TypeId) (cs : List Value) (hrg : RgC w cs r) (hr : r.Right) (hp : p.Right)
  (hplb : ∀ w', ChgP (DL (L s0)) w w' → Blk w' bp [.pointer (some ⟨bd, 0, none⟩), .int .i64 p.miss, .int .i64 p.click, .int .i64 p.wait, .int .i64 p.waits, .map (some bm)] tp) (hdkb : ∀ w', ChgP (DL (L s0)) w w' → Blk w' bd cs td)
  (hI0 : I [] s0) (hsat : Sat w (DL (L s0)) (L s0) w)
  (hcb : ∀ pre x post s w', plcL r p = pre ++ x :: post → I pre s → Sat w (DL (L s0)) (L s) w' → CaF Tryz.prog fv (encP x) w' (fun _ w'' => ∃ s', I (pre ++ [x]) s' ∧ Sat w' (DL (L s)) (L s') w'')) :
  Ca Tryz.prog 58 [.pointer (some ⟨bp, 0, none⟩), fv] w fun _ w' => ∃ s', I (plcL r p) s' ∧ Sat w (DL (L s0)) (L s') w' := by
 obtain ⟨lo, hi, ag, cg, ad, cd, af, cf, an, cn, rfl, hg, hdr, hf, hn⟩ := hrg
 have hC := hr.clicks
 have hD := hr.d2
 have hW := hp.waits
 refine dB (H := [un (L s0)]) (Sat.un1.2 hsat) Tryz.func58 Z (by simp [Tryz.ntmps58]) ?_
 (refine aE (aB (aA V Z Z (aF (aP ?_)))))
 refine bN (σ := Nat × σ) (fun q => q.1 ≤ 5 ∧ I ((List.range q.1).flatMap (pl1 r p)) q.2) (fun q => 5 - q.1) (fun q => [(0, .pointer (some ⟨bp, 0, none⟩)), (1, fv), (8, .int .i64 q.1)]) (fun q => [un (L q.2)]) (0, s0) ⟨by omega, hI0⟩ ⟨Z, Z, Z, trivial⟩ (Sp.refl _) ?_
 rintro ⟨sh, s⟩ ⟨hsh, hI⟩ K1 hK1
 simp only at hsh hI
 dsimp only
 (refine aE (aB (aA V Z Z (aF (aE ?_)))))
 refine dD Z (fun hc => ?_) (fun hc => ?_)
 ·have hsh2 : sh < 5 := by omega
  clear hc
  (refine aR (aE (aP (aE (aB (aA V Z Z (aA V Z Z (aF (aE (aB ?_))))))))); (iterate 4 refine aA V Z Z ?_); refine cL V Z Z Z (by assumption) (by rfl) ?_; refine bB V Z Z Z Z O O (aA V Z Z (aF (aP ?_))))
  refine bN (σ := Nat × σ) (fun q => q.1 ≤ (p.waits + 1).toNat ∧ I ((List.range sh).flatMap (pl1 r p) ++ (List.range q.1).flatMap (pl2 r sh)) q.2) (fun q => (p.waits + 1).toNat - q.1) (fun q => [(0, .pointer (some ⟨bp, 0, none⟩)), (1, fv), (4, .int .i64 sh), (8, .int .i64 sh), (16, .int .i64 (p.waits + 1)), (17, .int .i64 q.1)]) (fun q => [un (L q.2)]) (0, s) ⟨by omega, by simpa using hI⟩ ⟨Z, Z, Z, Z, Z, Z, trivial⟩ (Sp.refl _) ?_
  clear hI
  rintro ⟨wt, s⟩ ⟨hwt, hI⟩ K2 hK2
  simp only at hwt hI
  dsimp only
  (refine aE (aB (aA V Z Z (aF (aE ?_)))))
  refine dD Z (fun hc => ?_) (fun hc => ?_)
  ·have hwt2 : wt < (p.waits + 1).toNat := by omega
   clear hc
   (refine aR (aE (aP (aE (aB (aA V Z Z (aA V Z Z (aF (aE (aB ?_))))))))); (iterate 3 refine aA V Z Z ?_); refine cL V Z Z Z (by assumption) (by rfl) ?_; (iterate 3 refine aA V Z Z ?_); refine cL V Z Z Z (by assumption) (by rfl) ?_; refine aA V Z Z (aA V Z Z (aF (aP ?_))))
   refine bN (σ := Nat × σ) (fun q => q.1 ≤ r.drifts.length ∧ I ((List.range sh).flatMap (pl1 r p) ++ ((List.range wt).flatMap (pl2 r sh) ++ (List.range q.1).flatMap (pl3 r sh wt))) q.2) (fun q => r.drifts.length - q.1) (fun q => [(0, .pointer (some ⟨bp, 0, none⟩)), (1, fv), (4, .int .i64 sh), (5, .int .i64 wt), (8, .int .i64 sh), (16, .int .i64 (p.waits + 1)), (17, .int .i64 wt), (28, .int .i64 r.drifts.length), (29, .int .i64 q.1)]) (fun q => [un (L q.2)]) (0, s) ⟨by omega, by simpa using hI⟩ ⟨Z, Z, Z, Z, Z, Z, Z, Z, Z, trivial⟩ (Sp.refl _) ?_
   clear hI
   rintro ⟨st, s⟩ ⟨hst, hI⟩ K3 hK3
   simp only at hst hI
   dsimp only
   (refine aE (aB (aA V Z Z (aF (aE ?_)))))
   refine dD Z (fun hc => ?_) (fun hc => ?_)
   ·have hst2 : st < r.drifts.length := by omega
    clear hc
    (refine aR (aE (aP (aE (aB (aA V Z Z (aA V Z Z (aF (aE (aB ?_))))))))); (iterate 3 refine aA V Z Z ?_); refine cL V Z Z Z (by assumption) (by rfl) ?_; (iterate 3 refine aA V Z Z ?_); refine cL V Z Z Z (by assumption) (by rfl) ?_; refine fJ V Z Z O O (aA V Z Z (aF (aP ?_))))
    refine bN (σ := Nat × σ) (fun q => q.1 ≤ (2 * r.clicks + 1).toNat ∧ I ((List.range sh).flatMap (pl1 r p) ++ ((List.range wt).flatMap (pl2 r sh) ++ ((List.range st).flatMap (pl3 r sh wt) ++ (List.range q.1).flatMap (pl4 r sh wt st)))) q.2) (fun q => (2 * r.clicks + 1).toNat - q.1) (fun q => [(0, .pointer (some ⟨bp, 0, none⟩)), (1, fv), (4, .int .i64 sh), (5, .int .i64 wt), (6, .int .i64 st), (7, .int .i64 (-r.clicks + (q.1 : Int))), (8, .int .i64 sh), (16, .int .i64 (p.waits + 1)), (17, .int .i64 wt), (28, .int .i64 r.drifts.length), (29, .int .i64 st)]) (fun q => [un (L q.2)]) (0, s) ⟨by omega, by simpa using hI⟩ ⟨Z, Z, Z, Z, Z, fE Z (by simp), Z, Z, Z, Z, Z, trivial⟩ (Sp.refl _) ?_
    clear hI
    rintro ⟨i, s⟩ ⟨hi, hI⟩ K4 hK4
    simp only at hi hI
    dsimp only
    (refine aE (aE (aB ?_)); (iterate 4 refine aA V Z Z ?_); refine cL V Z Z Z (by assumption) (by rfl) ?_; (iterate 3 refine aA V Z Z ?_); refine cL V Z Z Z (by assumption) (by rfl) ?_; refine aA V Z Z (aF ?_))
    refine dD Z (fun hc => ?_) (fun hc => ?_)
    ·have hi2 : i < (2 * r.clicks + 1).toNat := by omega
     clear hc
     obtain ⟨post, hpost⟩ := plcL_split r p hsh2 hwt2 hst2 hi2
     (refine aR (aE (aP (aB ?_))); (iterate 5 refine aA V Z Z ?_))
     refine cE #[.int .i64 sh, .int .i64 wt, .int .i64 st, .int .i64 (-r.clicks + (i : Int))] Z qR Z ?_
     refine ql_callF [un (L s)] [] (DL (L s)) Z Z Z (Sp.refl _) (fun b hb => ⟨_, .head _, hb⟩) (eachF hcb hpost hI) ?_
     rintro s2 v2 hI2
     (refine aF (bL (aB (aA V Z Z (bB V Z Z Z Z O O (aA V Z Z (aF ?_)))))))
     exact hK4 (i + 1, s2) _ _ ⟨by simp only; omega, by rw [fF]; simpa [pl4] using hI2⟩ (by simp only; omega) ⟨Z, Z, Z, Z, Z, fE Z (by simp only; omega), Z, Z, Z, Z, Z, trivial⟩ (Sp.refl _)
    ·obtain rfl : i = (2 * r.clicks + 1).toNat := by omega
     (refine bJ _ Z (bL (aB (bB V Z Z Z Z O O (aA V Z Z (aF ?_))))))
     exact hK3 (st + 1, s) _ _ ⟨by simp only; omega, by rw [fF]; simpa [pl3] using hI⟩ (by simp only; omega) ⟨Z, Z, Z, Z, Z, Z, Z, Z, Z, trivial⟩ (Sp.refl _)
   ·obtain rfl : st = r.drifts.length := by omega
    (refine bJ _ Z (bL (aB (bB V Z Z Z Z O O (aA V Z Z (aF ?_))))))
    exact hK2 (wt + 1, s) _ _ ⟨by simp only; omega, by rw [fF]; simpa [pl2] using hI⟩ (by simp only; omega) ⟨Z, Z, Z, Z, Z, Z, trivial⟩ (Sp.refl _)
  ·obtain rfl : wt = (p.waits + 1).toNat := by omega
   (refine bJ _ Z (bL (aB (bB V Z Z Z Z O O (aA V Z Z (aF ?_))))))
   exact hK1 (sh + 1, s) _ _ ⟨by simp only; omega, by rw [fF]; simpa [pl1] using hI⟩ (by simp only; omega) ⟨Z, Z, Z, trivial⟩ (Sp.refl _)
 ·obtain rfl : sh = 5 := by omega
  (refine bJ _ Z ?_)
  refine q_end V Z U fun w hs => ?_
  exact ⟨s, hI, Sat.un1.1 hs⟩

end Go.Proofs.YtohlillcaadidaaGreat

/- The plan, as plain numbers: what a choice hangs on. -/
namespace Go.Proofs.YtohlillcaadidaaGreat
open Go Go.Eng

theorem dL (f g : Nat → Int) : ∀ n, (∀ i, i < n → f i = g i) → cV f n = cV g n
 | 0, _ => rfl
 | n + 1, h => by rw [cV, cV, dL f g n (fun i hi => h i O), h n O]
theorem shootV_congr (r : Rg) (p : Ru) (g g' : Nat → Int → Int) (shot wt st : Nat) (cl click : Int) (h : shot < 4 → ∀ t, t < r.drifts.length → g t click = g' t click) : cS r p g shot wt st cl click = cS r p g' shot wt st cl click := by
 unfold cS
 congr 1
 split
 ·unfold folS
  exact dL _ _ _ (fun t ht => by show _ * g t click = _ * g' t click; rw [h (by assumption) t ht])
 ·rfl
theorem foldl_congr {α β : Type} (f f' : α → β → α) : ∀ (l : List β) (a : α), (∀ a, ∀ b ∈ l, f a b = f' a b) → l.foldl f a = l.foldl f' a
 | [], _, _ => rfl
 | b :: l, a, h => by
  rw [List.foldl_cons, List.foldl_cons, h a b List.mem_cons_self]
  exact foldl_congr f f' l _ (fun a b hb => h a b (List.mem_cons_of_mem _ hb))
theorem chClick_congr (r : Rg) (p : Ru) (g g' : Nat → Int → Int) (shot wt st : Nat) (cl : Int) (hc : -r.clicks ≤ cl ∧ cl ≤ r.clicks) (h : shot < 4 → ∀ t c, t < r.drifts.length → -r.clicks ≤ c ∧ c ≤ r.clicks → g t c = g' t c) : dH r p g shot wt st cl = dH r p g' shot wt st cl := by
 unfold dH
 rw [shootV_congr r p g g' shot wt st cl cl (fun h4 t ht => h h4 t cl ht hc)]
 refine foldl_congr _ _ _ _ (fun a c hcl => ?_)
 have hcr := bH.1 (iP _ _ (bH.2 hc) c hcl)
 unfold nO
 rw [shootV_congr r p g g' shot wt st cl c (fun h4 t ht => h h4 t c ht hcr)]
theorem waitV_congr (r : Rg) (p : Ru) (h h' : Nat → Int → Int) (shot wt st : Nat) (cl : Int) (he : ∀ t, t < r.drifts.length → h t cl = h' t cl) : mI r p h shot wt st cl = mI r p h' shot wt st cl := by
 unfold mI
 congr 1
 exact dL _ _ _ (fun t ht => by show _ * h t cl = _ * h' t cl; rw [he t ht])
theorem qN (r : Rg) (p : Ru) (g g' h h' : Nat → Int → Int) (shot wt st : Nat) (cl : Int) (hc : -r.clicks ≤ cl ∧ cl ≤ r.clicks) (hg : shot < 4 → ∀ t c, t < r.drifts.length → -r.clicks ≤ c ∧ c ≤ r.clicks → g t c = g' t c) (hh : 0 < wt → ∀ t, t < r.drifts.length → h t cl = h' t cl) :
  chV r p g h shot wt st cl = chV r p g' h' shot wt st cl := by
 unfold chV
 simp only [chClick_congr r p g g' shot wt st cl hc hg]
 split
 ·rename_i hw
  rw [waitV_congr r p h h' shot wt st cl (hh hw)]
 ·rfl

/-- Some values, each the right one. -/
def GoodV (r : Rg) (p : Ru) (vf : Vf) : Prop := ∀ a b c d v, vf a b c d = some v → ∃ sh wt st : Nat, a = sh ∧ b = wt ∧ c = st ∧ sh < 5 ∧ (wt : Int) ≤ p.waits ∧ st < r.drifts.length ∧ (-r.clicks ≤ d ∧ d ≤ r.clicks) ∧ v = iU r p sh wt st d
theorem GoodV.at {r : Rg} {p : Ru} {vf : Vf} (h : GoodV r p vf) {sh wt st : Nat} {d : Int} (hs : (vf sh wt st d).isSome = true) : vf sh wt st d = some (iU r p sh wt st d) := by
 cases hv : vf sh wt st d with
 | none => rw [hv] at hs; cases hs
 | some v =>
  obtain ⟨sh', wt', st', h1, h2, h3, _, _, _, _, h4⟩ := h _ _ _ _ _ hv
  obtain rfl : sh = sh' := by omega
  obtain rfl : wt = wt' := by omega
  obtain rfl : st = st' := by omega
  rw [h4]
def LeV (vf vf' : Vf) : Prop := ∀ a b c d v, vf a b c d = some v → vf' a b c d = some v
theorem LeV.refl (vf : Vf) : LeV vf vf := fun _ _ _ _ _ h => h
theorem LeV.trans {a b c : Vf} (h : LeV a b) (g : LeV b c) : LeV a c := fun _ _ _ _ _ hv => g _ _ _ _ _ (h _ _ _ _ _ hv)
theorem LeV.some {vf vf' : Vf} (h : LeV vf vf') {a b c d : Int} (hs : (vf a b c d).isSome = true) : (vf' a b c d).isSome = true := by
 cases hv : vf a b c d with
 | none => rw [hv] at hs; cases hs
 | some v => rw [h _ _ _ _ _ hv]; rfl
def updF (vf : Vf) (a b c d v : Int) : Vf := fun a' b' c' d' => if a' = a ∧ b' = b ∧ c' = c ∧ d' = d then some v else vf a' b' c' d'
theorem updF_self (vf : Vf) (a b c d v : Int) : updF vf a b c d v a b c d = some v := by simp [updF]
theorem updF_lift (vf : Vf) (a b c d v : Int) : ∀ k, keyF k4 k → (if eqV k (plcV a b c d) = true then some (Value.int .i64 v) else jM vf k) = jM (updF vf a b c d v) k := by
 rintro _ ⟨xs, rfl, hx⟩
 obtain ⟨v1, l1, rfl, h1, hv1⟩ := hQ hx
 obtain ⟨v2, l2, rfl, h2, hv2⟩ := hQ h1
 obtain ⟨v3, l3, rfl, h3, hv3⟩ := hQ h2
 obtain ⟨v4, l4, rfl, h4, hv4⟩ := hQ h3
 have hl4 : l4 = [] := by cases l4 <;> simp [lJ] at h4 ⊢
 subst hl4
 have gi : ∀ {v : Value}, ((∃ q a, (some IntKind.i64 : Option IntKind) = some q ∧ v = .int q a) ∨ (∃ b, (some IntKind.i64 : Option IntKind) = none ∧ v = .bool b)) → ∃ a, v = .int .i64 a := by
  rintro v (⟨q, a, hq, rfl⟩ | ⟨b, hq, _⟩)
  ·cases hq; exact ⟨a, rfl⟩
  ·cases hq
 obtain ⟨x1, rfl⟩ := gi hv1
 obtain ⟨x2, rfl⟩ := gi hv2
 obtain ⟨x3, rfl⟩ := gi hv3
 obtain ⟨x4, rfl⟩ := gi hv4
 show (if (decide (x1 = a) && (decide (x2 = b) && (decide (x3 = c) && (decide (x4 = d) && true)))) = true then some (Value.int .i64 v) else (vf x1 x2 x3 x4).map (Value.int .i64)) = ((updF vf a b c d v) x1 x2 x3 x4).map (Value.int .i64)
 unfold updF
 by_cases h : x1 = a ∧ x2 = b ∧ x3 = c ∧ x4 = d
 ·rw [if_pos h]
  obtain ⟨rfl, rfl, rfl, rfl⟩ := h
  simp
 ·rw [if_neg h, if_neg (by simpa using h)]
theorem updF_good {r : Rg} {p : Ru} {vf : Vf} (h : GoodV r p vf) {sh wt st : Nat} {d : Int} (h5 : sh < 5) (hw : (wt : Int) ≤ p.waits) (hs : st < r.drifts.length) (hd : -r.clicks ≤ d ∧ d ≤ r.clicks) : GoodV r p (updF vf sh wt st d (iU r p sh wt st d)) := by
 intro a b c e v hv
 unfold updF at hv
 split at hv
 ·rename_i hq
  obtain ⟨rfl, rfl, rfl, rfl⟩ := hq
  cases hv
  exact ⟨sh, wt, st, Z, Z, Z, h5, hw, hs, hd, Z⟩
 ·exact h _ _ _ _ _ hv
theorem updF_le {r : Rg} {p : Ru} {vf : Vf} (h : GoodV r p vf) {sh wt st : Nat} {d : Int} : LeV vf (updF vf sh wt st d (iU r p sh wt st d)) := by
 intro a b c e v hv
 unfold updF
 split
 ·rename_i hq
  obtain ⟨rfl, rfl, rfl, rfl⟩ := hq
  rw [← hv, h.at (by rw [hv]; rfl)]
 ·exact hv

theorem mY (r : Rg) (hr : r.Right) (p : Ru) (hp : p.Right) (sh wt st : Nat) (cl : Int) (hw : (wt : Int) ≤ p.waits) (hs : st < r.drifts.length) (hc : -r.clicks ≤ cl ∧ cl ≤ r.clicks) : 0 ≤ iU r p sh wt st cl ∧ iU r p sh wt st cl ≤ 1000000000000000 := by
 have h1 := valV_bd r hr p hp (5 - sh) wt sh st cl rfl hw hs hc
 have hw3 : wt ≤ 3 := by have := hp.waits; omega
 have h2 := hZ r hr sh wt hw3
 have h3 := (bR (show 0 ≤ 6000 * ((5 - sh : Nat) : Int) ∧ 6000 * ((5 - sh : Nat) : Int) ≤ 30000 by omega) (show 0 ≤ cJ r sh wt ∧ cJ r sh wt ≤ 3583180800 by omega)).2
 omega
theorem mZ {r : Rg} (hr : r.Right) {p : Ru} (hp : p.Right) {vf : Vf} (h : GoodV r p vf) {sh wt : Nat} (hw : (wt : Int) ≤ p.waits) : FineV r vf sh wt := by
 intro t c ht hc
 cases hv : vf sh wt t c with
 | none =>
  have : gvF vf sh wt t c = 0 := by unfold gvF; rw [hv]; rfl
  rw [this]; omega
 | some v =>
  have : gvF vf sh wt t c = iU r p sh wt t c := by unfold gvF; rw [h.at (by rw [hv]; rfl)]; rfl
  rw [this]
  exact mY r hr p hp sh wt t c hw ht hc

end Go.Proofs.YtohlillcaadidaaGreat

/- Walks: the memo of values. -/
namespace Go.Proofs.YtohlillcaadidaaGreat
open Go Go.Eng

section
variable {w w' : World} {b : Nat} {K : Value → Prop} {q : Value → Value → Bool} {f : Value → Option Value}
theorem Blk.mapC {x : Nat} {cs : List Value} {t : TypeId} (h : Blk w x cs t) (hm : MapAt w b K q f) (c : ChgP (· = b) w w') : Blk w' x cs t := by
 obtain ⟨es, clock, h1, _⟩ := hm
 refine (c.block x h.lt ?_).trans h
 rintro rfl
 unfold Blk at h
 rw [h] at h1
 cases h1
theorem Rd.mapC {lo hi : Nat} {v : Value} {size n : Nat} {cs : List Value} (h : Rd w lo hi v size n cs) (hm : MapAt w b K q f) (c : ChgP (· = b) w w') : Rd w' lo hi v size n cs := by
 obtain ⟨es, clock, hb1, _⟩ := hm
 obtain ⟨h1, h2⟩ := h
 refine ⟨h1, ?_⟩
 rcases h2 with h2 | ⟨x, off, cap, hv, hb, hc⟩
 ·exact .inl h2
 ·refine .inr ⟨x, off, cap, hv, fun hp => ⟨(hb hp).1, (hb hp).2.1, Nat.lt_of_lt_of_le (hb hp).2.2 c.size⟩, fun j hj => ?_⟩
  have hb' := hb O
  have hc' := hc j hj
  have hne : ¬ x = b := by
   rintro rfl
   rw [List.getElem?_eq_getElem hj] at hc'
   simp [World.cell?, hb1] at hc'
  rw [← hc']
  exact World.cell?_of_block (w := w) (c.block x hb'.2.2 hne)
theorem RdE.mapC {lo hi : Nat} {v : Value} {sz : Nat} {es : List Value} (h : RdE w lo hi v sz es) (hm : MapAt w b K q f) (c : ChgP (· = b) w w') : RdE w' lo hi v sz es := ⟨Rd.mapC h.rd hm c, h.sz⟩
theorem RdII.mapC {lo hi : Nat} {v : Value} {ll : List (List Int)} (h : RdII w lo hi v ll) (hm : MapAt w b K q f) (c : ChgP (· = b) w w') : RdII w' lo hi v ll := by
 obtain ⟨vs, h1, h2, h3⟩ := h
 exact ⟨vs, RdE.mapC h1 hm c, h2, fun i hi hi' => RdE.mapC (h3 i hi hi') hm c⟩
theorem DkAt.mapC {x : Nat} {r : Rg} (h : DkAt w x r) (hm : MapAt w b K q f) (c : ChgP (· = b) w w') : DkAt w' x r := by
 obtain ⟨cs, t, h0, lo, hi, ag, cg, ad, cd, af, cf, an, cn, h1, h2, h3, h4, h5⟩ := h
 exact ⟨cs, t, Blk.mapC h0 hm c, lo, hi, ag, cg, ad, cd, af, cf, an, cn, h1, RdE.mapC h2 hm c, RdE.mapC h3 hm c, RdE.mapC h4 hm c, RdII.mapC h5 hm c⟩
theorem PlAt.mapC {bp bd bm : Nat} {r : Rg} {p : Ru} (h : PlAt w bp bd bm r p) (hm : MapAt w b K q f) (c : ChgP (· = b) w w') : PlAt w' bp bd bm r p := by
 obtain ⟨t, h1, h2⟩ := h
 exact ⟨t, Blk.mapC h1 hm c, DkAt.mapC h2 hm c⟩
end

/-- The closure that computes values. -/
abbrev valF (b1 b2 : Nat) : Value := .func (.func 107) #[] #[.pointer (some ⟨b1, 0, none⟩), .pointer (some ⟨b2, 0, none⟩)]
/-- A plan and its closure. -/
def FillAt (w : World) (bp bd bm b1 b2 : Nat) (r : Rg) (p : Ru) : Prop := PlAt w bp bd bm r p ∧ (∃ t, Blk w b1 [.pointer (some ⟨bp, 0, none⟩)] t) ∧ ∃ t, Blk w b2 [valF b1 b2] t
theorem FillAt.mapC {w w' : World} {b bp bd bm b1 b2 : Nat} {r : Rg} {p : Ru} {K : Value → Prop} {q : Value → Value → Bool} {f : Value → Option Value} (h : FillAt w bp bd bm b1 b2 r p) (hm : MapAt w b K q f) (c : ChgP (· = b) w w') : FillAt w' bp bd bm b1 b2 r p :=
 ⟨PlAt.mapC h.1 hm c, let ⟨t, h1⟩ := h.2.1; ⟨t, Blk.mapC h1 hm c⟩, let ⟨t, h1⟩ := h.2.2; ⟨t, Blk.mapC h1 hm c⟩⟩

abbrev mpV (bm : Nat) (vf : Vf) : Ck := mpP (keyF k4) eqV bm (jM vf)

set_option maxHeartbeats 4000000 in
theorem value_ca (bp bd bm b1 b2 : Nat) (r : Rg) (p : Ru) (hr : r.Right) (hp : p.Right) : ∀ (n sh wt st : Nat) (cl : Int) (w : World) (vf : Vf), (5 - sh) * 4 + wt = n → sh < 5 → (wt : Int) ≤ p.waits → st < r.drifts.length → (-r.clicks ≤ cl ∧ cl ≤ r.clicks) →
  FillAt w bp bd bm b1 b2 r p → MapAt w bm (keyF k4) eqV (jM vf) → GoodV r p vf →
  Ca Tryz.prog 107 [plcV sh wt st cl, .pointer (some ⟨b1, 0, none⟩), .pointer (some ⟨b2, 0, none⟩)] w fun v w' => ∃ vf', v = .int .i64 (iU r p sh wt st cl) ∧ GoodV r p vf' ∧ LeV vf vf' ∧ (vf' sh wt st cl).isSome = true ∧ Sat w (· = bm) [mpV bm vf'] w' := by
 intro n
 induction n using Nat.strongRecOn with
 | ind n ih =>
 intro sh wt st cl w vf hn1 h5 hwt hst hcl hF hm hgood
 have hF0 := hF
 have hm0 := hm
 obtain ⟨h, ⟨t1, hb1⟩, t2, hb2⟩ := hF
 obtain ⟨tp, hplb, hdk⟩ := h; have hdk0 := hdk; obtain ⟨cs, bt, hblk, lo, hi, ag, cg, ad, cd, af, cf, an, cn, rfl, hg, hdr, hf, hn⟩ := hdk
 have hC := hr.clicks
 have hD := hr.d2
 have hW := hp.waits
 have hw3 : wt ≤ 3 := by omega
 have hb1 := fun w' (c : ChgP (· = bm) w w') => Blk.mapC hb1 hm0 c
 have hb2 := fun w' (c : ChgP (· = bm) w w') => Blk.mapC hb2 hm0 c
 have hplb := fun w' (c : ChgP (· = bm) w w') => Blk.mapC hplb hm0 c
 have hblk := fun w' (c : ChgP (· = bm) w w') => Blk.mapC hblk hm0 c
 have hfine := mY r hr p hp
 refine dB (H := [mpV bm vf]) (map_sat hm) Tryz.func107 Z (by simp [Tryz.ntmps107]) ?_
 (refine aE (aB ?_))
 refine bG Z Z (fun b3 => ?_)
 (refine aA V Z Z (aF (aE (aE ?_))))
 refine bX _ [] (Sp.refl _) qR qR ?_
 (refine cP V Z Z Z (by assumption) (by rfl) ?_; refine aD V Z Z Z (aD V Z Z Z ?_); refine cP V Z Z Z (by assumption) (by rfl) ?_; refine aO V Z Z Z ?_)
 cases hv : vf sh wt st cl with
 | some v0 =>
  have hv1 := hgood.at (sh := sh) (wt := wt) (st := st) (d := cl) (by rw [hv]; rfl)
  refine qf_look2 (v := .int .i64 (iU r p sh wt st cl)) (o := true) mE lT mM Z Z Z U (iW _ _ _ _) ((jK vf sh wt st cl).trans (by rw [hv1]; rfl)) ((liftF_some vf sh wt st cl).trans (by rw [hv1]; rfl)) ?_
  (refine aD V Z Z Z (bT V Z Z Z (bT V Z Z Z (aD V Z Z Z (aD V Z Z Z (aK (aE (aB (aA V Z Z (aF (aM Z (aE ?_))))))))))); refine aB (aA V Z Z (aA V Z Z (aF (aW ?_)))))
  refine aX V Z U fun w hs => ?_
  exact ⟨vf, Z, hgood, LeV.refl _, by rw [hv1]; rfl, hs.sp U⟩
 | none =>
  refine qf_look2 (v := .int .i64 0) (o := false) mE lT mM Z Z Z U (iW _ _ _ _) ((jK vf sh wt st cl).trans (by rw [hv]; rfl)) ((liftF_some vf sh wt st cl).trans (by rw [hv]; rfl)) ?_
  (refine aD V Z Z Z (bT V Z Z Z (bT V Z Z Z (aD V Z Z Z (aD V Z Z Z (aK (aE (aB (aA V Z Z (aF (aL Z (aR ?_))))))))))); refine aE (aE (aB ?_)); refine cL V Z Z Z (by assumption) (by rfl) ?_; refine aA V Z Z (aA V Z Z ?_); refine cL V Z Z Z (by assumption) (by rfl) ?_; (iterate 3 refine aA V Z Z ?_); refine cL V Z Z Z (by assumption) (by rfl) ?_; refine aA V Z Z (aA V Z Z (aF (aP ?_))))
  refine bN (σ := Nat × Vf) (fun s => s.1 ≤ r.drifts.length ∧ GoodV r p s.2 ∧ LeV vf s.2 ∧ (sh < 4 → ∀ t c, t < s.1 → -r.clicks ≤ c ∧ c ≤ r.clicks → (s.2 ((sh + 1 : Nat) : Int) wt t c).isSome = true) ∧ (0 < wt → ∀ t, t < s.1 → (s.2 sh ((wt - 1 : Nat) : Int) t cl).isSome = true)) (fun s => r.drifts.length - s.1)
   (fun s => [(1, .pointer (some ⟨b1, 0, none⟩)), (2, .pointer (some ⟨b2, 0, none⟩)), (3, .pointer (some ⟨b3, 0, none⟩)), (30, .int .i64 r.drifts.length), (31, .int .i64 s.1)])
   (fun s => [.pt b3 [.int .i64 sh, .int .i64 wt, .int .i64 st, .int .i64 cl] 110, mpV bm s.2]) (0, vf) ⟨by simp, hgood, LeV.refl _, fun _ t c ht => absurd ht (Nat.not_lt_zero _), fun _ t ht => absurd ht (Nat.not_lt_zero _)⟩ ⟨rfl, rfl, rfl, rfl, rfl, trivial⟩ U ?_
  rintro ⟨k, vf1⟩ ⟨hk, hg1, hl1, hs1, hw1⟩ K hK
  simp only at hk hg1 hl1 hs1 hw1
  dsimp only
  (refine aE (aB (aA V Z Z (aF (aE ?_)))))
  refine dD Z (fun hc => ?_) (fun hc => ?_)
  ·have hk2 : k < r.drifts.length := by omega
   clear hc
   (refine aR (aE (aP (aE (aB (aA V Z Z (aA V Z Z (aF (aE (aE (aB ?_)))))))))); refine cL V Z Z Z (by assumption) (by rfl) ?_; refine aA V Z Z (aA V Z Z ?_); refine cL V Z Z Z (by assumption) (by rfl) ?_; (iterate 3 refine aA V Z Z ?_); refine cL V Z Z Z (by assumption) (by rfl) ?_; refine fJ V Z Z O O (aA V Z Z (aF (aP ?_))))
   refine bN (σ := Nat × Vf) (fun s => s.1 ≤ (2 * r.clicks + 1).toNat ∧ (sh < 4 ∨ s.1 = 0) ∧ GoodV r p s.2 ∧ LeV vf1 s.2 ∧ (sh < 4 → ∀ j, j < s.1 → (s.2 ((sh + 1 : Nat) : Int) wt k (-r.clicks + (j : Int))).isSome = true)) (fun s => (2 * r.clicks + 1).toNat - s.1)
    (fun s => [(1, .pointer (some ⟨b1, 0, none⟩)), (2, .pointer (some ⟨b2, 0, none⟩)), (3, .pointer (some ⟨b3, 0, none⟩)), (7, .int .i64 k), (8, .int .i64 (-r.clicks + (s.1 : Int))), (30, .int .i64 r.drifts.length), (31, .int .i64 k)])
    (fun s => [.pt b3 [.int .i64 sh, .int .i64 wt, .int .i64 st, .int .i64 cl] 110, mpV bm s.2]) (0, vf1) ⟨by simp, .inr rfl, hg1, LeV.refl _, fun _ t ht => absurd ht (Nat.not_lt_zero _)⟩ ⟨rfl, rfl, rfl, rfl, fE rfl (by simp), rfl, rfl, trivial⟩ U ?_
   rintro ⟨i, vf2⟩ ⟨hi2, hi0, hg2, hl2, hs2⟩ K2 hK2
   simp only at hi2 hi0 hg2 hl2 hs2
   dsimp only
   have hend : (sh < 4 → i = (2 * r.clicks + 1).toNat) → (sh < 4 → ∀ t c, t < k + 1 → -r.clicks ≤ c ∧ c ≤ r.clicks → (vf2 ((sh + 1 : Nat) : Int) wt t c).isSome = true) := by
    intro he h4 t c ht hc
    by_cases htk : t < k
    ·exact hl2.some (hs1 h4 t c htk hc)
    ·obtain rfl : t = k := by omega
     have := hs2 h4 (c + r.clicks).toNat (by rw [he h4]; omega)
     rw [show -r.clicks + ((c + r.clicks).toNat : Int) = c by omega] at this
     exact this
   by_cases hgo : sh < 4 ∧ i < (2 * r.clicks + 1).toNat
   ·obtain ⟨h4, hi3⟩ := hgo
    (refine aE (aE (aB (aA V Z Z ?_))); refine cL V Z Z Z (by assumption) (by rfl) ?_; refine aA V Z Z (aA V Z Z ?_); refine cL V Z Z Z (by assumption) (by rfl) ?_; (iterate 3 refine aA V Z Z ?_); refine cL V Z Z Z (by assumption) (by rfl) ?_; refine aA V Z Z (aA V Z Z ?_))
    refine bU Z Z (fun hc => ?_) (fun hc => ?_)
    ·clear hc
     (refine aC Z (aA V Z Z (aC Z ?_)); refine aH V Z Z Z ?_; refine aC Z (bB V Z Z Z Z O O (aC Z (aA V Z Z (aA V Z Z (aF ?_))))))
     refine dD Z (fun hc => ?_) (fun hc => ?_)
     ·clear hc
      (refine aR (aE (aP (aB ?_))); refine cL V Z Z Z (by assumption) (by rfl) ?_; refine aA V Z Z ?_; refine aH V Z Z Z ?_; refine bB V Z Z Z Z O O (aA V Z Z ?_); refine aH V Z Z Z ?_; refine aA V Z Z (aA V Z Z ?_))
      refine cE #[.int .i64 ((sh : Int) + 1), .int .i64 wt, .int .i64 k, .int .i64 (-r.clicks + (i : Int))] Z qR Z ?_
      refine bO (β := Vf) (ψ := fun vf' v => v = .int .i64 (iU r p (sh + 1) wt k (-r.clicks + (i : Int))) ∧ GoodV r p vf' ∧ LeV vf2 vf' ∧ (vf' ((sh + 1 : Nat) : Int) wt k (-r.clicks + (i : Int))).isSome = true) (L' := fun vf' => [mpV bm vf']) V
       [mpV bm vf2] _ (· = bm) rfl rfl rfl rfl (Sp.cons U (Sp.refl _)) (fun b hb => ⟨_, .head _, hb⟩) (fun w' hs => (ih ((5 - (sh + 1)) * 4 + wt) O (sh + 1) wt k (-r.clicks + (i : Int)) w' vf2 rfl O hwt hk2 O (hF0.mapC hm0 hs.chg) (hs.mem (show mpV bm vf2 ∈ _ from .head _)) hg2).mono fun v w'' ⟨vf', g1, g2, g3, g4, g5⟩ => ⟨vf', ⟨g1, g2, g3, g4⟩, g5⟩) ?_
      rintro vf3 _ ⟨rfl, g2, g3, g4⟩
      (refine aF (bL (aB (aA V Z Z (bB V Z Z Z Z O O (aA V Z Z (aF ?_)))))))
      refine hK2 (i + 1, vf3) _ _ ⟨by simp only; omega, .inl h4, g2, hl2.trans g3, fun h4 j hj => ?_⟩ (by simp only; omega) ⟨Z, Z, Z, Z, fE Z (by simp only; omega), Z, Z, trivial⟩ U
      by_cases hji : j < i
      ·exact g3.some (hs2 h4 j hji)
      ·obtain rfl : j = i := by simp only at hj; omega
       exact g4
     ·exfalso; simp at hc; omega
    ·exfalso; simp at hc; omega
   ·have hend := hend O
    have hrest : ∀ vf3, GoodV r p vf3 → LeV vf2 vf3 → (0 < wt → (vf3 sh ((wt - 1 : Nat) : Int) k cl).isSome = true) → ((k + 1, vf3) : Nat × Vf).1 ≤ r.drifts.length ∧ GoodV r p vf3 ∧ LeV vf vf3 ∧ (sh < 4 → ∀ t c, t < k + 1 → -r.clicks ≤ c ∧ c ≤ r.clicks → (vf3 ((sh + 1 : Nat) : Int) wt t c).isSome = true) ∧ (0 < wt → ∀ t, t < k + 1 → (vf3 sh ((wt - 1 : Nat) : Int) t cl).isSome = true) := by
     intro vf3 g1 g2 g3
     refine ⟨by simp only; omega, g1, hl1.trans (hl2.trans g2), fun h4 t c ht hc => g2.some (hend h4 t c ht hc), fun h0 t ht => ?_⟩
     by_cases htk : t < k
     ·exact (hl2.trans g2).some (hw1 h0 t htk)
     ·obtain rfl : t = k := by omega
      exact g3 h0
    (refine aE (aE (aB (aA V Z Z ?_))); refine cL V Z Z Z (by assumption) (by rfl) ?_; refine aA V Z Z (aA V Z Z ?_); refine cL V Z Z Z (by assumption) (by rfl) ?_; (iterate 3 refine aA V Z Z ?_); refine cL V Z Z Z (by assumption) (by rfl) ?_; refine aA V Z Z (aA V Z Z ?_))
    refine bU Z Z (fun hc => ?_) (fun hc => ?_)
    ·(refine aC Z (aA V Z Z (aC Z ?_)); refine aH V Z Z Z ?_; refine aC Z (bB V Z Z Z Z O O (aC Z (aA V Z Z (aA V Z Z (aF ?_))))))
     refine dD Z (fun hc => ?_) (fun hc => ?_)
     ·exfalso; rename_i hc0; simp at hc0; omega
     ·clear hc
      rename_i hc
      clear hc
      (refine bJ _ Z (aE (aB (aA V Z Z ?_))); refine aH V Z Z Z ?_; refine aA V Z Z (aF ?_))
      refine dD Z (fun hc => ?_) (fun hc => ?_)
      ·have h0 : 0 < wt := by omega
       have hwe : ((wt - 1 : Nat) : Int) = (wt : Int) - 1 := by omega
       (refine aB ?_; refine cL V Z Z Z (by assumption) (by rfl) ?_; refine aA V Z Z ?_; refine aH V Z Z Z ?_; refine aA V Z Z ?_; refine aH V Z Z Z ?_; refine bB V Z Z Z Z O O (aA V Z Z (aA V Z Z ?_)); refine aH V Z Z Z ?_)
       refine cE #[.int .i64 sh, .int .i64 ((wt : Int) - 1), .int .i64 k, .int .i64 cl] Z qR Z ?_
       refine bO (β := Vf) (ψ := fun vf' v => v = .int .i64 (iU r p sh (wt - 1) k cl) ∧ GoodV r p vf' ∧ LeV vf2 vf' ∧ (vf' sh ((wt - 1 : Nat) : Int) k cl).isSome = true) (L' := fun vf' => [mpV bm vf']) V
        [mpV bm vf2] _ (· = bm) rfl rfl rfl rfl (Sp.cons U (Sp.refl _)) (fun b hb => ⟨_, .head _, hb⟩) (fun w' hs => by have := (ih ((5 - sh) * 4 + (wt - 1)) O sh (wt - 1) k cl w' vf2 rfl h5 O hk2 hcl (hF0.mapC hm0 hs.chg) (hs.mem (show mpV bm vf2 ∈ _ from .head _)) hg2).mono fun v w'' ⟨vf', g1, g2, g3, g4, g5⟩ => (⟨vf', ⟨g1, g2, g3, g4⟩, g5⟩ : ∃ vf', (v = Value.int .i64 (iU r p sh (wt - 1) k cl) ∧ GoodV r p vf' ∧ LeV vf2 vf' ∧ (vf' sh ((wt - 1 : Nat) : Int) k cl).isSome = true) ∧ Sat w' (· = bm) [mpV bm vf'] w''); simp only [hwe] at this ⊢; exact this) ?_
       rintro vf3 _ ⟨rfl, g2, g3, g4⟩
       (refine aF (bL (aB (bB V Z Z Z Z O O (aA V Z Z (aF ?_))))))
       exact hK (k + 1, vf3) _ _ (hrest vf3 g2 g3 (fun _ => g4)) (by simp only; omega) ⟨Z, Z, Z, Z, Z, trivial⟩ U
      ·(refine aR (bL (aB (bB V Z Z Z Z O O (aA V Z Z (aF ?_))))))
       exact hK (k + 1, vf2) _ _ (hrest vf2 hg2 (LeV.refl _) (fun h0 => absurd h0 O)) (by simp only; omega) ⟨Z, Z, Z, Z, Z, trivial⟩ U
    ·clear hc
     ((iterate 4 refine bA Z Z Z ?_); refine aA V Z Z (aF (aL Z (bJ _ rfl (aE (aB (aA V Z Z ?_)))))); refine aH V Z Z Z ?_; refine aA V Z Z (aF ?_))
     refine dD Z (fun hc => ?_) (fun hc => ?_)
     ·have h0 : 0 < wt := by omega
      have hwe : ((wt - 1 : Nat) : Int) = (wt : Int) - 1 := by omega
      (refine aB ?_; refine cL V Z Z Z (by assumption) (by rfl) ?_; refine aA V Z Z ?_; refine aH V Z Z Z ?_; refine aA V Z Z ?_; refine aH V Z Z Z ?_; refine bB V Z Z Z Z O O (aA V Z Z (aA V Z Z ?_)); refine aH V Z Z Z ?_)
      refine cE #[.int .i64 sh, .int .i64 ((wt : Int) - 1), .int .i64 k, .int .i64 cl] Z qR Z ?_
      refine bO (β := Vf) (ψ := fun vf' v => v = .int .i64 (iU r p sh (wt - 1) k cl) ∧ GoodV r p vf' ∧ LeV vf2 vf' ∧ (vf' sh ((wt - 1 : Nat) : Int) k cl).isSome = true) (L' := fun vf' => [mpV bm vf']) V
       [mpV bm vf2] _ (· = bm) rfl rfl rfl rfl (Sp.cons U (Sp.refl _)) (fun b hb => ⟨_, .head _, hb⟩) (fun w' hs => by have := (ih ((5 - sh) * 4 + (wt - 1)) O sh (wt - 1) k cl w' vf2 rfl h5 O hk2 hcl (hF0.mapC hm0 hs.chg) (hs.mem (show mpV bm vf2 ∈ _ from .head _)) hg2).mono fun v w'' ⟨vf', g1, g2, g3, g4, g5⟩ => (⟨vf', ⟨g1, g2, g3, g4⟩, g5⟩ : ∃ vf', (v = Value.int .i64 (iU r p sh (wt - 1) k cl) ∧ GoodV r p vf' ∧ LeV vf2 vf' ∧ (vf' sh ((wt - 1 : Nat) : Int) k cl).isSome = true) ∧ Sat w' (· = bm) [mpV bm vf'] w''); simp only [hwe] at this ⊢; exact this) ?_
      rintro vf3 _ ⟨rfl, g2, g3, g4⟩
      (refine aF (bL (aB (bB V Z Z Z Z O O (aA V Z Z (aF ?_))))))
      exact hK (k + 1, vf3) _ _ (hrest vf3 g2 g3 (fun _ => g4)) (by simp only; omega) ⟨Z, Z, Z, Z, Z, trivial⟩ U
     ·(refine aR (bL (aB (bB V Z Z Z Z O O (aA V Z Z (aF ?_))))))
      exact hK (k + 1, vf2) _ _ (hrest vf2 hg2 (LeV.refl _) (fun h0 => absurd h0 O)) (by simp only; omega) ⟨Z, Z, Z, Z, Z, trivial⟩ U
  ·obtain rfl : k = r.drifts.length := by omega
   clear hc
   have hfb : sh < 4 → FineV r vf1 (sh + 1) wt := fun h4 => mZ hr hp hg1 hwt
   have hfw : 0 < wt → FineV r vf1 sh (wt - 1) := fun h0 => mZ hr hp hg1 O
   have hch : chV r p (gvF vf1 (sh + 1) wt) (gvF vf1 sh (wt - 1)) sh wt st cl = jW r p sh wt st cl := by
    unfold jW
    refine qN r p _ _ _ _ sh wt st cl hcl (fun h4 t c ht hc => ?_) (fun h0 t ht => ?_)
    ·show (vf1 ((sh + 1 : Nat) : Int) wt t c).getD 0 = _
     rw [hg1.at (hs1 h4 t c ht hc)]; rfl
    ·show (vf1 sh ((wt - 1 : Nat) : Int) t cl).getD 0 = _
     rw [hg1.at (hw1 h0 t ht)]; rfl
   (refine bJ _ Z (aE (aB ?_)); refine cL V Z Z Z (by assumption) (by rfl) ?_; refine aI V Z Z Z ?_)
   refine aJ (val := .tuple #[.agg #[.bool (jW r p sh wt st cl).1.1, .int .i64 (jW r p sh wt st cl).1.2], .int .i64 (iU r p sh wt st cl)]) V Z Z Z Z (fun w hs => ?_) ?_; exact by have := choose_ca w bp bd bm r p vf1 sh wt st cl (hF0.mapC hm0 hs.chg).1 (hs.mem (show mpV bm vf1 ∈ _ from by repeat constructor)) hr hp O hw3 hst hcl hfb hfw; rw [hch, ← valV_eq r p sh wt st cl h5 hwt hst hcl] at this; exact this
   (refine aA V Z Z (bC V Z Z Z (bC V Z Z Z ?_)))
   refine aV hU Z (fun b9 => ?_)
   (refine aY V Z Z Z Z Z U Z ?_; refine aA V Z Z (aF (aE ?_)))
   refine bX _ [mpV bm vf1] (Sp.cons U (Sp.refl _)) qR qR ?_
   (refine cP V Z Z Z (by assumption) (by rfl) ?_; refine aD V Z Z Z (aD V Z Z Z ?_); refine cP V Z Z Z (by assumption) (by rfl) ?_; refine aO V Z Z Z ?_; refine aD V Z Z Z ?_)
   refine qf_mapUpd mE lT Z Z Z (iW _ _ _ _) U ?_
   (refine aK (aE (aB (aA V Z Z (aA V Z Z (aF (aW ?_)))))))
   refine aX V Z U fun w hs => ?_
   refine ⟨updF vf1 sh wt st cl (iU r p sh wt st cl), Z, updF_good hg1 h5 hwt hst hcl, hl1.trans (updF_le hg1), by rw [updF_self]; rfl, ?_⟩
   exact (hs.sp (Sp.cons U .nil)).mapC (updF_lift vf1 sh wt st cl _)

end Go.Proofs.YtohlillcaadidaaGreat

/- Walks: begun, fill. -/
namespace Go.Proofs.YtohlillcaadidaaGreat
open Go Go.Eng

theorem RgC.mapC {w w' : World} {b : Nat} {K : Value → Prop} {q : Value → Value → Bool} {f : Value → Option Value} {cs : List Value} {r : Rg} (h : RgC w cs r) (hm : MapAt w b K q f) (c : ChgP (· = b) w w') : RgC w' cs r := by
 obtain ⟨lo, hi, ag, cg, ad, cd, af, cf, an, cn, h1, h2, h3, h4, h5⟩ := h
 exact ⟨lo, hi, ag, cg, ad, cd, af, cf, an, cn, h1, RdE.mapC h2 hm c, RdE.mapC h3 hm c, RdE.mapC h4 hm c, RdII.mapC h5 hm c⟩
theorem dA (r : Rg) (p : Ru) (sh wt st : Nat) (cl : Int) : (sh, wt, st, cl) ∈ plcL r p ↔ sh < 5 ∧ (wt : Int) ≤ p.waits ∧ st < r.drifts.length ∧ (-r.clicks ≤ cl ∧ cl ≤ r.clicks) := by
 simp only [plcL, pl1, pl2, pl3, pl4, List.mem_flatMap, List.mem_range, List.mem_singleton, Prod.mk.injEq]
 constructor
 ·rintro ⟨a, ha, b, hb, c, hc, d, hd, rfl, rfl, rfl, rfl⟩
  exact ⟨ha, by omega, hc, by omega, by omega⟩
 ·rintro ⟨h1, h2, h3, h4, h5⟩
  exact ⟨sh, h1, wt, by omega, st, h3, (cl + r.clicks).toNat, by omega, Z, Z, Z, by omega⟩
theorem DL_mpV (bm : Nat) (vf : Vf) : DL [mpV bm vf] = (· = bm) := by
 funext b
 refine propext ⟨?_, ?_⟩
 ·rintro ⟨c, hc, hb⟩
  rw [List.mem_singleton.1 hc] at hb
  exact hb
 ·rintro rfl
  exact ⟨_, .head _, Z⟩

set_option maxHeartbeats 2000000 in
theorem begun_no (w : World) (cs : List Value) (r : Rg) (p : Ru) (h : RgC w cs r) (hsm : r.Small) (hr : cH r p ≠ 0) : Ca Tryz.prog 56 [.agg cs.toArray, .agg #[.int .i64 p.miss, .int .i64 p.click, .int .i64 p.wait, .int .i64 p.waits]] w fun v w' => v = .tuple #[.pointer none, .int .i64 (cH r p)] ∧ Chg [] w w' := by
 have h0 := h
 obtain ⟨lo, hi, ag, cg, ad, cd, af, cf, an, cn, rfl, hg, hdr, hf, hn⟩ := h
 refine dB (Sat.nil w M0) Tryz.func56 Z (by simp [Tryz.ntmps56]) ?_
 (refine aE (aB ?_))
 refine bG Z Z (fun b2 => ?_)
 refine bG Z Z (fun b3 => ?_)
 (refine aA V Z Z (aA V Z Z (aF (aE (aE (aB ?_))))); (iterate 2 refine aI V Z Z Z ?_))
 refine aJ (val := .int .i64 (cH r p)) V Z Z Z Z (fun w hs => ?_) ?_; exact oF w _ r p (h0.keep hs.chg0) hsm
 (refine aA V Z Z (aF (aE (aB (aA V Z Z (aA V Z Z (aF ?_)))))))
 rw [decide_eq_false hr]
 (refine aM Z (aE (aB ?_)); (iterate 3 refine aA V Z Z ?_); refine aF (aW ?_))
 refine aX V Z U fun w hs => ?_
 exact ⟨Z, hs.chg0⟩

set_option maxHeartbeats 2000000 in
theorem begun_ok (w : World) (cs : List Value) (r : Rg) (p : Ru) (h : RgC w cs r) (hsm : r.Small) (hr : cH r p = 0) : Ca Tryz.prog 56 [.agg cs.toArray, .agg #[.int .i64 p.miss, .int .i64 p.click, .int .i64 p.wait, .int .i64 p.waits]] w fun v w' =>
  ∃ x : Nat × Nat × Nat, v = .tuple #[.pointer (some ⟨x.1, 0, none⟩), .int .i64 0] ∧
   Sat w M0 [.pt x.1 [.pointer (some ⟨x.2.1, 0, none⟩), .int .i64 p.miss, .int .i64 p.click, .int .i64 p.wait, .int .i64 p.waits, .map (some x.2.2)] 113, mpV x.2.2 (fun _ _ _ _ => none), .pt x.2.1 cs 141] w' := by
 have h0 := h
 obtain ⟨lo, hi, ag, cg, ad, cd, af, cf, an, cn, rfl, hg, hdr, hf, hn⟩ := h
 refine dB (Sat.nil w M0) Tryz.func56 Z (by simp [Tryz.ntmps56]) ?_
 (refine aE (aB ?_))
 refine bG Z Z (fun b2 => ?_)
 refine bG Z Z (fun b3 => ?_)
 (refine aA V Z Z (aA V Z Z (aF (aE (aE (aB ?_))))); (iterate 2 refine aI V Z Z Z ?_))
 refine aJ (val := .int .i64 0) V Z Z Z Z (fun w hs => ?_) ?_; exact by have := oF w _ r p (h0.keep hs.chg0) hsm; rw [hr] at this; exact this
 (refine aA V Z Z (aF (aE (aB (aA V Z Z (aA V Z Z (aF (aL Z (aR (aE (aB ?_)))))))))); refine aI V Z Z Z ?_)
 refine cE #[.int .i64 r.radius, .int .i64 r.unit, .int .i64 r.clicks, .int .i64 r.total, .slice ag r.group.length cg, .slice ad r.drifts.length cd, .slice af r.first.length cf, .slice an r.next.length cn] Z qR Z ?_
 refine bG Z Z (fun bd => ?_)
 (refine aI V Z Z Z ?_)
 refine ql_makeMap (keyF k4) eqV Z (fun bm => ?_)
 refine cE #[.pointer (some ⟨bd, 0, none⟩), .int .i64 p.miss, .int .i64 p.click, .int .i64 p.wait, .int .i64 p.waits, .map (some bm)] Z qR Z ?_
 refine bG Z Z (fun bp => ?_)
 (refine aA V Z Z (aA V Z Z (aF (aW ?_))))
 refine aX V Z U fun w hs => ?_
 refine ⟨(bp, bd, bm), Z, ?_⟩
 have h1 : Sat _ M0 [mpP (keyF k4) eqV bm (fun _ => none), .pt bp [.pointer (some ⟨bd, 0, none⟩), .int .i64 p.miss, .int .i64 p.click, .int .i64 p.wait, .int .i64 p.waits, .map (some bm)] 113, .pt bd [.int .i64 r.radius, .int .i64 r.unit, .int .i64 r.clicks, .int .i64 r.total, .slice ag r.group.length cg, .slice ad r.drifts.length cd, .slice af r.first.length cf, .slice an r.next.length cn] 141] _ := hs.sp U
 refine (h1.mapC (g := jM (fun _ _ _ _ => none)) (fun k hk => ?_)).sp U
 unfold jM
 split
 ·split <;> rfl
 ·rfl

set_option maxHeartbeats 2000000 in
theorem fill2_ca (w : World) (bp bd bm b1 b2 : Nat) (r : Rg) (p : Ru) (hr : r.Right) (hp : p.Right) (sh wt st : Nat) (cl : Int) (vf : Vf) (h5 : sh < 5) (hwt : (wt : Int) ≤ p.waits) (hst : st < r.drifts.length) (hcl : -r.clicks ≤ cl ∧ cl ≤ r.clicks)
  (hF : FillAt w bp bd bm b1 b2 r p) (hm : MapAt w bm (keyF k4) eqV (jM vf)) (hgood : GoodV r p vf) :
  Ca Tryz.prog 108 [plcV sh wt st cl, .pointer (some ⟨b2, 0, none⟩)] w fun v w' => ∃ vf', v = .tuple #[] ∧ GoodV r p vf' ∧ LeV vf vf' ∧ (vf' sh wt st cl).isSome = true ∧ Sat w (· = bm) [mpV bm vf'] w' := by
 have hF0 := hF
 have hm0 := hm
 obtain ⟨h, ⟨t1, hb1⟩, t2, hb2⟩ := hF
 have hb2 := fun w' (c : ChgP (· = bm) w w') => Blk.mapC hb2 hm0 c
 refine dB (H := [mpV bm vf]) (map_sat hm) Tryz.func108 Z (by simp [Tryz.ntmps108]) ?_
 (refine aE (aB ?_))
 refine bG Z Z (fun b3 => ?_)
 (refine aF (aB ?_); refine cL V Z Z Z (by assumption) (by rfl) ?_; refine aI V Z Z Z ?_)
 refine bO (β := Vf) (ψ := fun vf' v => v = .int .i64 (iU r p sh wt st cl) ∧ GoodV r p vf' ∧ LeV vf vf' ∧ (vf' sh wt st cl).isSome = true) (L' := fun vf' => [mpV bm vf']) V
  [mpV bm vf] _ (· = bm) rfl rfl rfl rfl (Sp.cons U (Sp.refl _)) (fun b hb => ⟨_, .head _, hb⟩) (fun w' hs => (value_ca bp bd bm b1 b2 r p hr hp _ sh wt st cl w' vf rfl h5 hwt hst hcl (hF0.mapC hm0 hs.chg) (hs.mem (show mpV bm vf ∈ _ from .head _)) hgood).mono fun v w'' ⟨vf', g1, g2, g3, g4, g5⟩ => ⟨vf', ⟨g1, g2, g3, g4⟩, g5⟩) ?_
 rintro vf3 _ ⟨rfl, g2, g3, g4⟩
 (refine aF ?_)
 refine q_end V Z U fun w hs => ?_
 exact ⟨vf3, Z, g2, g3, g4, hs.sp U⟩

set_option maxHeartbeats 2000000 in
theorem fill_ca (w : World) (bp bd bm : Nat) (r : Rg) (p : Ru) (hr : r.Right) (hp : p.Right) (vf : Vf) (h : PlAt w bp bd bm r p) (hm : MapAt w bm (keyF k4) eqV (jM vf)) (hgood : GoodV r p vf) :
  Ca Tryz.prog 57 [.pointer (some ⟨bp, 0, none⟩)] w fun v w' => ∃ vf', v = .tuple #[] ∧ GoodV r p vf' ∧ (∀ sh wt st cl, (sh, wt, st, cl) ∈ plcL r p → (vf' sh wt st cl).isSome = true) ∧ Sat w (· = bm) [mpV bm vf'] w' := by
 have h0 := h
 have hm0 := hm
 obtain ⟨tp, hplb, hdk⟩ := h; have hdk0 := hdk; obtain ⟨cs, bt, hblk, lo, hi, ag, cg, ad, cd, af, cf, an, cn, rfl, hg, hdr, hf, hn⟩ := hdk
 refine dB (H := [mpV bm vf]) (map_sat hm) Tryz.func57 Z (by simp [Tryz.ntmps57]) ?_
 (refine aE (aB ?_))
 refine bG Z Z (fun b1 => ?_)
 (refine aF (aE (aB ?_)))
 refine aV zero144 Z (fun b2 => ?_)
 (refine aF (aE (aB (aA V Z Z ?_))); refine eV V Z Z Z Z U ?_; refine aF (aB ?_); refine aH V Z Z Z ?_; refine aA V Z Z ?_)
 refine bO (β := Vf) (ψ := fun vf' v => GoodV r p vf' ∧ ∀ x ∈ plcL r p, (vf' x.1 x.2.1 x.2.2.1 x.2.2.2).isSome = true) (L' := fun vf' => [mpV bm vf']) V
  [mpV bm vf] _ (· = bm) rfl rfl rfl rfl (Sp.cons U (Sp.refl _)) (fun b hb => ⟨_, .head _, hb⟩) (fun w' hs => ?_) ?_
 ·have hsat : Sat w' (DL [mpV bm vf]) [mpV bm vf] w' := hs.self
  have hm' : MapAt w' bm (keyF k4) eqV (jM vf) := hs.mem (show mpV bm vf ∈ _ from .head _)
  have hF : FillAt w' bp bd bm b1 b2 r p := ⟨PlAt.mapC h0 hm0 hs.chg, ⟨_, hs.blk U⟩, ⟨_, hs.blk U⟩⟩
  have hdk' := RgC.mapC ⟨lo, hi, ag, cg, ad, cd, af, cf, an, cn, rfl, hg, hdr, hf, hn⟩ hm0 hs.chg
  have hp' := Blk.mapC hplb hm0 hs.chg
  have hb' := Blk.mapC hblk hm0 hs.chg
  refine (hX (σ := Vf) w' bp bd bm r p (.func (.func 108) #[] #[.pointer (some ⟨b2, 0, none⟩)]) (fun vf => [mpV bm vf]) (fun pre vf => GoodV r p vf ∧ ∀ x ∈ pre, (vf x.1 x.2.1 x.2.2.1 x.2.2.2).isSome = true) vf tp bt _ hdk' hr hp
   (fun w'' hc => by rw [DL_mpV] at hc; exact Blk.mapC hp' hm' hc) (fun w'' hc => by rw [DL_mpV] at hc; exact Blk.mapC hb' hm' hc) ⟨hgood, fun _ h => by cases h⟩ hsat ?_).mono fun v w'' ⟨vf', h1, h2⟩ => ⟨vf', h1, by rw [DL_mpV] at h2; exact h2⟩
  rintro pre ⟨sh, wt, st, cl⟩ post vf1 w1 hx ⟨hg1, hp1⟩ hs1
  obtain ⟨m1, m2, m3, m4⟩ := (dA r p sh wt st cl).1 (by rw [hx]; simp)
  rw [DL_mpV] at hs1
  have hm1 : MapAt w1 bm (keyF k4) eqV (jM vf1) := hs1.mem (show mpV bm vf1 ∈ _ from .head _)
  refine CaF.of V Z ((fill2_ca w1 bp bd bm b1 b2 r p hr hp sh wt st cl vf1 m1 m2 m3 m4 (hF.mapC hm' hs1.chg) hm1 hg1).mono ?_)
  rintro v w2 ⟨vf2, _, g1, g2, g3, g4⟩
  refine ⟨vf2, ⟨g1, fun x hx => ?_⟩, by rw [DL_mpV]; exact g4⟩
  rcases List.mem_append.1 hx with hx | hx
  ·exact g2.some (hp1 x hx)
  ·rw [List.mem_singleton.1 hx]
   exact g3
 rintro vf' v ⟨g1, g2⟩
 (refine aF ?_)
 refine q_end V Z U fun w hs => ?_
 exact ⟨vf', Z, g1, fun sh wt st cl hx => g2 _ hx, hs.sp U⟩

end Go.Proofs.YtohlillcaadidaaGreat

/- The engine, part B12: more about callbacks: pieces that others leave alone; maps in worlds that change. -/
namespace Go.Eng
open Go Go.RowKit

section
variable {P : Program} {T : Tab}
variable {ro : Cx} {n : Nat} {F : Fin} {w0 : World} {M : Nat → Prop} {k : List It} {ops : Array Oper} {rest : List Oper} {e : Env} {H Hq : List Ck}
variable {K : Value → Prop} {q : Value → Value → Bool} {kt et mt : TypeId}

/-- What stands beside is left alone. -/
theorem Sat.aside {w w' : World} {A R : List Ck} (h : Sat w0 M (A ++ R) w) (c : ChgP (DL A) w w') {x : Ck} (hx : x ∈ R) : x.p w' :=
 Ck.st (h.all x (List.mem_append_right _ hx)) c (fun b hb ⟨a, ha, hab⟩ => (List.pairwise_append.1 h.sep).2.2 a ha x hx b hab hb)
/-- What was there before is left alone. -/
theorem Sat.asideOld {w w' : World} {A R : List Ck} (h : Sat w0 M0 (A ++ R) w) (c : ChgP (DL A) w w') : Chg [] w0 w' :=
 h.chg0.old c (fun b ⟨a, ha, hab⟩ => (h.bd a (List.mem_append_left _ ha) b hab).2.resolve_left (fun h => h))

theorem Sat.self' {w : World} {A : List Ck} (h : Sat w0 M A w) : Sat w (DL A) A w := Sat.self (B := []) (by rw [List.append_nil]; exact h)
/-- Later changes of these pieces are changes of the first ones. -/
theorem Sat.later {w w' : World} {A B : List Ck} (h : Sat w0 (DL A) B w) (c : ChgP (DL B) w w') : ChgP (DL A) w0 w' := h.chg.upP c (fun k ⟨x, hx, hk⟩ => (h.bd x hx k hk).2)

theorem kG {φ : Prop} (hf : ∀ w, Sat w0 M (H ++ Hq) w → φ) (h : φ → QF P ro n F w0 M k ops Hq rest e H) : QF P ro n F w0 M k ops Hq rest e H := .mk fun w hs => (h (hf w hs)).h w hs
theorem own_slice {w : World} {base e sz n : Nat} {v : Value} {xs : List Value} (h : w.ownsRow base e sz v n xs) : ∃ a m c, v = .slice a m c := by
 rcases h.2 with ⟨rfl, _⟩ | ⟨g, cap, cur, rfl, _⟩
 ·exact ⟨_, _, _, Z⟩
 ·exact ⟨_, _, _, Z⟩
theorem Sat.slice {w : World} {e sz n : Nat} {v : Value} {xs : List Value} (h : Sat w0 M H w) (hc : Ck.ow v e sz n xs ∈ H) : ∃ a m c, v = .slice a m c := own_slice (h.mem hc)

theorem Sat.slice2 {w : World} {e sz n : Nat} {v : Value} {xs : List Value} (h : Sat w0 M H w) (hc : Ck.ow v e sz n xs ∈ H) : ∃ a c, v = .slice a n c := by
 have h1 : w.ownsRow 0 e sz v n xs := h.all _ hc
 rcases h1.2 with ⟨rfl, rfl, _⟩ | ⟨g, cap, cur, rfl, _⟩
 ·exact ⟨_, _, Z⟩
 ·exact ⟨_, _, Z⟩

theorem Sat.rdI {w : World} {t n : Nat} {v : Value} {l : List Int} (h : Sat w0 M H w) (hc : Ck.ow v t 1 n (aZ l) ∈ H) (hn : n = l.length) : RdI w 0 w.heap.size v l := by
 subst hn
 exact RdI.of (jB (h.all _ hc))

theorem qf_lookG {d b : Nat} {x ix : Operand} {f : Value → Option Value} {key z v : Value} {ty : TypeId} {pos : String} {af : Array Edge} (hK : KeyT P kt K q) (ht : P.underlying mt = some (.map kt et)) (hz : ZeroOf P et z)
  (hx : opv e x = some (.map (some b))) (hi : opv e ix = some key) (hd : Nat.blt d n = true) (hm : ∀ w', ChgP M w0 w' → MapAt w' b K q f) (hk : K key) (hv : (f key).getD z = v)
  (h : QF P ro n F w0 M k ops Hq rest ((d, v) :: e) H) : QF P ro n F w0 M k ops Hq (⟨some d, .lookup mt x ix false, ty, pos, af, none⟩ :: rest) e H := .mk fun w hw =>
 eY rfl hd (fun a hf w' hs => by
  simp only [execOp, hf.op hx, hf.op hi]
  simp [kU hK ht (zero_run hz w') (hm w' hs.chg) hk, hv]) (h.h w hw)
end
end Go.Eng

/- Walks: Values. -/
namespace Go.Proofs.YtohlillcaadidaaGreat
open Go Go.Eng

theorem gJ {α : Type} (f : Nat → List α) (c : Nat) : ∀ n, (∀ i, i < n → (f i).length = c) → ((List.range n).flatMap f).length = n * c
 | 0, _ => by simp
 | n + 1, h => by rw [fF, List.length_append, gJ f c n (fun i hi => h i O), h n O, Nat.succ_mul]
theorem pR (r : Rg) (p : Ru) : (plcL r p).length = 5 * ((p.waits + 1).toNat * (r.drifts.length * ((2 * r.clicks + 1).toNat * 1))) :=
 gJ _ _ _ fun _ _ => gJ _ _ _ fun _ _ => gJ _ _ _ fun _ _ => gJ _ _ _ fun _ _ => rfl
theorem kK (r : Rg) (p : Ru) (hr : r.Right) (hp : p.Right) : (plcL r p).length ≤ 1000000 := by
 rw [pR]
 have h1 := hr.clicks
 have h2 := hr.d2
 have h3 := hp.waits
 have a : (2 * r.clicks + 1).toNat * 1 ≤ 2001 := by omega
 have b := Nat.mul_le_mul (show r.drifts.length ≤ 5 by omega) a
 have c := Nat.mul_le_mul (show (p.waits + 1).toNat ≤ 4 by omega) b
 have := Nat.mul_le_mul (show 5 ≤ 5 by omega) c
 omega

abbrev nG (r : Rg) (p : Ru) (x : Plc) : Int := iU r p x.1 x.2.1 x.2.2.1 x.2.2.2
/-- Two pieces: a variable with a slice of numbers, and the numbers. -/
abbrev outL (b : Nat) (s : Value × List Int) : List Ck := [.pt b [s.1] 22, .ow s.1 3 1 s.2.length (aZ s.2)]

set_option maxHeartbeats 2000000 in
theorem values1_ca (w : World) (bp bd bm b6 b8 : Nat) (r : Rg) (p : Ru) (tp t6 : TypeId) (vf : Vf) (s : Value × List Int) (sh wt st cl v : Int) (hv : vf sh wt st cl = some v) (hlen : s.2.length ≤ 1000000)
  (hsat : Sat w (DL (outL b8 s)) (outL b8 s) w)
  (hb6 : ∀ w', ChgP (DL (outL b8 s)) w w' → Blk w' b6 [.pointer (some ⟨bp, 0, none⟩)] t6)
  (hplb : ∀ w', ChgP (DL (outL b8 s)) w w' → Blk w' bp [.pointer (some ⟨bd, 0, none⟩), .int .i64 p.miss, .int .i64 p.click, .int .i64 p.wait, .int .i64 p.waits, .map (some bm)] tp)
  (hm : ∀ w', ChgP (DL (outL b8 s)) w w' → MapAt w' bm (keyF k4) eqV (jM vf)) :
  Ca Tryz.prog 59 [plcV sh wt st cl, .pointer (some ⟨b8, 0, none⟩), .pointer (some ⟨b6, 0, none⟩)] w fun _ w' => ∃ s', s'.2 = s.2 ++ [v] ∧ Sat w (DL (outL b8 s)) (outL b8 s') w' := by
 obtain ⟨v0, l⟩ := s
 simp only at hlen
 refine dB (H := outL b8 (v0, l)) hsat Tryz.func59 Z (by simp [Tryz.ntmps59]) ?_
 (refine aE (aB ?_))
 refine bG Z Z (fun b3 => ?_)
 (refine aF ?_)
 refine gW 8 _ [.pt b8 _ _, .ow v0 3 1 l.length (aZ l)] (Sp.cons U (Sp.cons U (Sp.refl _))) qR qR qR fun K1 hK1 => ?_
 (refine aT V Z Z Z ?_; refine cP V Z Z Z (by assumption) (by rfl) ?_; refine aD V Z Z Z (aD V Z Z Z ?_); refine cP V Z Z Z (by assumption) (by rfl) ?_; refine aO V Z Z Z ?_)
 refine qf_lookG (v := .int .i64 v) mE lT mM Z Z Z hm (iW _ _ _ _) ((jK vf sh wt st cl).trans (by rw [hv]; rfl)) ?_
 refine cA 3 [.int .i64 v] Z qR Z (fun bn => ?_)
 (refine aK ?_)
 refine hK1 _ _ [.pt b8 _ _, .ow v0 3 1 l.length (aZ l), .pt bn _ _] (Sp.cons U (Sp.cons U (Sp.cons U U))) ?_
 refine eG (q := 1) slI Z Z Z (fun v' => by repeat constructor) (fun w' hs => ⟨_, _, Blk.rd (hs.blk (b := bn) U) Z 1⟩) (by simp [dY]) O O (fun va' => ?_)
 refine kG (fun w hs => hs.slice (v := va') U) ?_
 rintro ⟨a1, m1, c1, rfl⟩
 (refine lV V Z Z Z Z U ?_; refine aK ?_)
 refine q_end V Z U fun w hs => ?_
 refine ⟨(.slice a1 m1 c1, l ++ [v]), Z, ?_⟩
 have e1 : aZ (l ++ [v]) = aZ l ++ [.int .i64 v] := by simp [aZ]
 have e2 : (l ++ [v]).length = l.length + 1 := by simp
 simp only [outL, e1, e2]
 exact hs.sp U

set_option maxHeartbeats 2000000 in
theorem values_no (w : World) (cs : List Value) (r : Rg) (p : Ru) (h : RgC w cs r) (hsm : r.Small) (hr : cH r p ≠ 0) : Ca Tryz.prog 23 [.agg cs.toArray, .agg #[.int .i64 p.miss, .int .i64 p.click, .int .i64 p.wait, .int .i64 p.waits]] w fun v w' => v = .tuple #[.slice none 0 0, .int .i64 (cH r p)] ∧ Chg [] w w' := by
 have h0 := h
 obtain ⟨lo, hi, ag, cg, ad, cd, af, cf, an, cn, rfl, hg, hdr, hf, hn⟩ := h
 refine dB (Sat.nil w M0) Tryz.func23 Z (by simp [Tryz.ntmps23]) ?_
 (refine aE (aB ?_))
 refine bG Z Z (fun b2 => ?_)
 refine bG Z Z (fun b3 => ?_)
 (refine aA V Z Z (aA V Z Z (aF (aE (aB ?_)))); (iterate 2 refine aI V Z Z Z ?_))
 refine aJ (val := .tuple #[.pointer none, .int .i64 (cH r p)]) V Z Z Z Z (fun w hs => ?_) ?_; exact begun_no w _ r p (h0.keep hs.chg0) hsm hr
 (refine aA V Z Z (bC V Z Z Z (bC V Z Z Z ?_)))
 refine aV zero105 Z (fun b6 => ?_)
 (refine eV V Z Z Z Z U ?_; refine aA V Z Z (aF (aE (aE (aB (aA V Z Z (aA V Z Z (aF ?_))))))))
 rw [decide_eq_false hr]
 (refine aM Z (aE (aB ?_)); (iterate 3 refine aA V Z Z ?_); refine aF (aW ?_))
 refine aX V Z U fun w hs => ?_
 exact ⟨Z, hs.chg0⟩

set_option maxHeartbeats 2000000 in
theorem qK (w : World) (cs : List Value) (r : Rg) (p : Ru) (h : RgC w cs r) (hsm : r.Small) (hru : cH r p = 0) : Ca Tryz.prog 23 [.agg cs.toArray, .agg #[.int .i64 p.miss, .int .i64 p.click, .int .i64 p.wait, .int .i64 p.waits]] w fun v w' =>
  ∃ x : Value, v = .tuple #[x, .int .i64 0] ∧ Sat w M0 [.ow x 3 1 (plcL r p).length (aZ ((plcL r p).map (nG r p)))] w' := by
 have h0 := h
 obtain ⟨hck, hp⟩ := (fY r p).1 hru
 have hr := (bM r).1 hck
 have hlen := kK r p hr hp
 obtain ⟨lo, hi, ag, cg, ad, cd, af, cf, an, cn, rfl, hg, hdr, hf, hn⟩ := h
 refine dB (Sat.nil w M0) Tryz.func23 Z (by simp [Tryz.ntmps23]) ?_
 (refine aE (aB ?_))
 refine bG Z Z (fun b2 => ?_)
 refine bG Z Z (fun b3 => ?_)
 (refine aA V Z Z (aA V Z Z (aF (aE (aB ?_)))); (iterate 2 refine aI V Z Z Z ?_))
 refine bO (β := Nat × Nat × Nat) V [] _ M0 Z Z Z Z (Sp.refl _) qS (fun w' hs => begun_ok w' _ r p (h0.keep hs.chg0) hsm hru) ?_
 rintro ⟨bp, bd, bm⟩ _ rfl
 (refine aA V Z Z (bC V Z Z Z (bC V Z Z Z ?_)))
 refine aV zero105 Z (fun b6 => ?_)
 (refine eV V Z Z Z Z U ?_; refine aA V Z Z (aF (aE (aE (aB (aA V Z Z (aA V Z Z (aF (aL Z (aR (aE (aB ?_))))))))))); refine aH V Z Z Z ?_)
 refine bO (β := Vf) (ψ := fun vf' v => GoodV r p vf' ∧ ∀ sh wt st cl, (sh, wt, st, cl) ∈ plcL r p → (vf' sh wt st cl).isSome = true) (L' := fun vf' => [mpV bm vf']) V
  [mpV bm (fun _ _ _ _ => none)] _ (· = bm) rfl rfl rfl rfl (Sp.cons U (Sp.refl _)) (fun b hb => ⟨_, .head _, hb⟩) (fun w' hs => (fill_ca w' bp bd bm r p hr hp (fun _ _ _ _ => none) ⟨_, hs.blk (b := bp) U, _, _, hs.blk (b := bd) U, h0.keep hs.chg0⟩ (hs.mem (show mpV bm (fun _ _ _ _ => none) ∈ _ from .head _)) (fun _ _ _ _ _ h => by cases h)).mono fun v w'' ⟨vf', _, g1, g2, g3⟩ => ⟨vf', ⟨g1, g2⟩, g3⟩) ?_
 rintro vf v ⟨hgood, hfull⟩
 (refine aF (aE (aB ?_)))
 refine aV zero22 Z (fun b8 => ?_)
 (refine aF (aE (aB ?_)); refine aH V Z Z Z ?_; refine aA V Z Z ?_)
 refine ql_conv (H' := .ow (.slice none 0 0) 3 1 0 (aZ []) :: _) (fun w' hs => Sat.ownil hs _ _) ?_
 refine bO (β := Value × List Int) (ψ := fun s' v => s'.2 = (plcL r p).map (nG r p)) (L' := fun s' => outL b8 s') V
  (outL b8 (.slice none 0 0, [])) _ (DL (outL b8 (.slice none 0 0, []))) rfl rfl rfl rfl (Sp.cons U (Sp.cons U (Sp.refl _))) (fun b hb => hb) (fun w' hs => ?_) ?_
 ·refine (hX (σ := Value × List Int) w' bp bd bm r p _ (fun s => outL b8 s) (fun pre s => s.2 = pre.map (nG r p)) (.slice none 0 0, []) _ _ _ (h0.keep hs.chg0) hr hp
   (fun w'' hc => hs.aside hc (x := .pt bp _ _) U) (fun w'' hc => hs.aside hc (x := .pt bd _ _) U) rfl hs.self ?_)
  rintro pre ⟨sh, wt, st, cl⟩ post s w1 hx hI hs1
  have hmem : (sh, wt, st, cl) ∈ plcL r p := by rw [hx]; simp
  refine CaF.of V Z ((values1_ca w1 bp bd bm b6 b8 r p _ _ vf s sh wt st cl (nG r p (sh, wt, st, cl)) (hgood.at (hfull _ _ _ _ hmem)) ?_ hs1.self' (fun w2 hc => hs.aside (hs1.later hc) (x := .pt b6 _ _) U) (fun w2 hc => hs.aside (hs1.later hc) (x := .pt bp _ _) U) (fun w2 hc => hs.aside (hs1.later hc) (x := mpV bm vf) U)).mono ?_)
  ·have : (plcL r p).length = (pre ++ (sh, wt, st, cl) :: post).length := by rw [hx]
   rw [hI, List.length_map]
   simp at this
   omega
  ·rintro v w2 ⟨s', g1, g2⟩
   exact ⟨s', by rw [g1, hI, List.map_append]; rfl, g2⟩
 ·rintro ⟨x, l⟩ _ hl
  simp only at hl
  (refine aF (aE (aB ?_)); refine aH V Z Z Z ?_; refine aA V Z Z (aA V Z Z (aF (aW ?_))))
  refine aX V Z U fun w hs => ?_
  refine ⟨x, Z, ?_⟩
  have e := congrArg List.length hl
  simp only [List.length_map] at e
  have h1 := hs.sp (H' := [.ow x 3 1 l.length (aZ l)]) U
  rw [e, hl] at h1
  exact h1

end Go.Proofs.YtohlillcaadidaaGreat

/- Walks: Proves. -/
namespace Go.Proofs.YtohlillcaadidaaGreat
open Go Go.Eng

/-- The place of a situation in its list. -/
def idxP (r : Rg) (p : Ru) (x : Plc) : Nat := ((x.1 * (p.waits + 1).toNat + x.2.1) * r.drifts.length + x.2.2.1) * (2 * r.clicks + 1).toNat + (x.2.2.2 + r.clicks).toNat
theorem idx_flat (m c : Nat) : ∀ n, (List.range n).flatMap (fun i => (List.range m).map (fun j => (c + i) * m + j)) = (List.range (n * m)).map (fun j => c * m + j)
 | 0 => by simp
 | n + 1 => by
  rw [fF, idx_flat m c n, Nat.succ_mul, List.range_add, List.map_append, List.map_map]
  congr 1
  refine List.map_congr_left fun j _ => ?_
  simp only [Function.comp, Nat.add_mul]
  omega
theorem pl3_idx (r : Rg) (p : Ru) (sh wt st : Nat) : (pl3 r sh wt st).map (idxP r p) = (List.range (2 * r.clicks + 1).toNat).map (fun j => ((sh * (p.waits + 1).toNat + wt) * r.drifts.length + st) * (2 * r.clicks + 1).toNat + j) := by
 rw [pl3, List.map_flatMap]
 have : ∀ i, (pl4 r sh wt st i).map (idxP r p) = [((sh * (p.waits + 1).toNat + wt) * r.drifts.length + st) * (2 * r.clicks + 1).toNat + i] := fun i => by
  simp only [pl4, idxP, List.map_cons, List.map_nil]
  congr 2
  omega
 simp only [this]
 exact List.map_eq_flatMap.symm
theorem pl2_idx (r : Rg) (p : Ru) (sh wt : Nat) : (pl2 r sh wt).map (idxP r p) = (List.range (r.drifts.length * (2 * r.clicks + 1).toNat)).map (fun j => (sh * (p.waits + 1).toNat + wt) * (r.drifts.length * (2 * r.clicks + 1).toNat) + j) := by
 rw [pl2, List.map_flatMap]
 simp only [pl3_idx]
 rw [idx_flat]
 simp only [Nat.mul_assoc]
theorem pl1_idx (r : Rg) (p : Ru) (sh : Nat) : (pl1 r p sh).map (idxP r p) = (List.range ((p.waits + 1).toNat * (r.drifts.length * (2 * r.clicks + 1).toNat))).map (fun j => sh * ((p.waits + 1).toNat * (r.drifts.length * (2 * r.clicks + 1).toNat)) + j) := by
 rw [pl1, List.map_flatMap]
 simp only [pl2_idx]
 rw [idx_flat]
 simp only [Nat.mul_assoc]
theorem plcL_idx (r : Rg) (p : Ru) : (plcL r p).map (idxP r p) = List.range (plcL r p).length := by
 rw [pR, plcL, List.map_flatMap]
 simp only [pl1_idx]
 have := idx_flat ((p.waits + 1).toNat * (r.drifts.length * (2 * r.clicks + 1).toNat)) 0 5
 simp only [Nat.zero_add, Nat.zero_mul] at this
 rw [this]
 simp
theorem idx_at (r : Rg) (p : Ru) {pre post : List Plc} {x : Plc} (h : plcL r p = pre ++ x :: post) : idxP r p x = pre.length := by
 have h1 := plcL_idx r p
 have h2 : ((plcL r p).map (idxP r p))[pre.length]? = (List.range (plcL r p).length)[pre.length]? := by rw [h1]
 rw [h] at h2
 simpa using h2

/-- Values that are given. -/
def gV (r : Rg) (p : Ru) (l : List Int) (sh wt st : Nat) (cl : Int) : Int := l.getD (idxP r p (sh, wt, st, cl)) 0
/-- Some of the given values, and none beyond the bound. -/
def GoodW (r : Rg) (p : Ru) (l : List Int) (pre : List Plc) (vf : Vf) : Prop := (∀ sh wt st cl, (sh, wt, st, cl) ∈ pre → vf sh wt st cl = some (gV r p l sh wt st cl)) ∧ ∀ a b c d v, vf a b c d = some v → 0 ≤ v ∧ v ≤ 1000000000000000
theorem GoodW.put {r : Rg} {p : Ru} {l : List Int} {pre post : List Plc} {vf : Vf} {sh wt st : Nat} {cl : Int} (h : GoodW r p l pre vf) (hx : plcL r p = pre ++ (sh, wt, st, cl) :: post) (hl : l.length = (plcL r p).length) (hb : ∀ v ∈ l, 0 ≤ v ∧ v ≤ 1000000000000000) :
  ∃ h : pre.length < l.length, GoodW r p l (pre ++ [(sh, wt, st, cl)]) (updF vf sh wt st cl l[pre.length]) := by
 have hk : pre.length < l.length := by rw [hl, hx]; simp
 have hi := idx_at r p hx
 have hg : gV r p l sh wt st cl = l[pre.length] := by unfold gV; rw [hi]; simp [hk]
 refine ⟨hk, fun a b c d hm => ?_, fun a b c d v hv => ?_⟩
 ·unfold updF
  split
  ·rename_i hq
   obtain ⟨h1, h2, h3, rfl⟩ := hq
   obtain rfl : a = sh := by omega
   obtain rfl : b = wt := by omega
   obtain rfl : c = st := by omega
   rw [hg]
  ·rename_i hq
   rcases List.mem_append.1 hm with hm | hm
   ·exact h.1 _ _ _ _ hm
   ·rw [List.mem_singleton] at hm
    cases hm
    exact absurd ⟨Z, Z, Z, Z⟩ hq
 ·unfold updF at hv
  split at hv
  ·cases hv
   exact hb _ (List.getElem_mem hk)
  ·exact h.2 _ _ _ _ _ hv
theorem GoodW.fine {r : Rg} {p : Ru} {l : List Int} {pre : List Plc} {vf : Vf} (h : GoodW r p l pre vf) (sh wt : Nat) : FineV r vf sh wt := by
 intro t c ht hc
 cases hv : vf sh wt t c with
 | none =>
  have : gvF vf sh wt t c = 0 := by unfold gvF; rw [hv]; rfl
  rw [this]; omega
 | some v =>
  have : gvF vf sh wt t c = v := by unfold gvF; rw [hv]; rfl
  rw [this]
  exact h.2 _ _ _ _ _ hv

abbrev prL (bm b10 : Nat) (s : Vf × Nat) : List Ck := [mpV bm s.1, .pt b10 [.int .i64 s.2] 3]

set_option maxHeartbeats 2000000 in
theorem proves2_ca (w : World) (bp bd bm b5 b8 b10 : Nat) (p : Ru) (tp t5 t8 : TypeId) (lo hi : Nat) (vs : Value) (l : List Int) (s : Vf × Nat) (sh wt st cl : Int) (hk : s.2 < l.length) (hlen : l.length ≤ 1000000)
  (hsat : Sat w (DL (prL bm b10 s)) (prL bm b10 s) w)
  (hb5 : ∀ w', ChgP (DL (prL bm b10 s)) w w' → Blk w' b5 [vs] t5)
  (hb8 : ∀ w', ChgP (DL (prL bm b10 s)) w w' → Blk w' b8 [.pointer (some ⟨bp, 0, none⟩)] t8)
  (hplb : ∀ w', ChgP (DL (prL bm b10 s)) w w' → Blk w' bp [.pointer (some ⟨bd, 0, none⟩), .int .i64 p.miss, .int .i64 p.click, .int .i64 p.wait, .int .i64 p.waits, .map (some bm)] tp)
  (hval : ∀ w', ChgP (DL (prL bm b10 s)) w w' → RdI w' lo hi vs l) :
  Ca Tryz.prog 92 [plcV sh wt st cl, .pointer (some ⟨b5, 0, none⟩), .pointer (some ⟨b10, 0, none⟩), .pointer (some ⟨b8, 0, none⟩)] w fun _ w' => Sat w (DL (prL bm b10 s)) (prL bm b10 (updF s.1 sh wt st cl l[s.2], s.2 + 1)) w' := by
 obtain ⟨vf, k⟩ := s
 simp only at hk
 obtain ⟨a, cap, rfl, hsd⟩ := (hval w (ChgP.refl _ _)).outI
 obtain ⟨bv, ov, rfl⟩ := hsd O
 refine dB (H := prL bm b10 (vf, k)) hsat Tryz.func92 Z (by simp [Tryz.ntmps92]) ?_
 (refine aE (aB ?_))
 refine bG Z Z (fun b4 => ?_)
 (refine aF (aE ?_))
 refine bX _ [mpV bm vf] (Sp.cons U (Sp.refl _)) qR qR ?_
 (refine cP V Z Z Z (by assumption) (by rfl) ?_; refine aD V Z Z Z (aD V Z Z Z ?_); refine cP V Z Z Z (by assumption) (by rfl) ?_; refine aO V Z Z Z ?_; refine cP V Z Z Z (by assumption) (by rfl) ?_; refine aT V Z Z Z ?_)
 (refine bF V Z Z Z Z Z O O ?_; refine bI V Z Z Z (fun w hs => RdI.at (hval w hs.chg) k hk) ?_)
 refine qf_mapUpd mE lT Z Z Z (iW _ _ _ _) U ?_
 (refine aK (aB ?_); refine aH V Z Z Z ?_; refine bB V Z Z Z Z O O ?_; refine eV V Z Z Z Z U ?_; refine aF ?_)
 refine q_end V Z U fun w hs => ?_
 have h1 := (hs.sp (H' := _ :: [.pt b10 [.int .i64 (k + 1)] 3]) (Sp.cons U U)).mapC (updF_lift vf sh wt st cl _)
 exact h1

/-- A given value is not above what the best choice costs. -/
def holdV (r : Rg) (p : Ru) (g : Nat → Nat → Nat → Int → Int) (x : Plc) : Bool := decide (g x.1 x.2.1 x.2.2.1 x.2.2.2 ≤ (chV r p (g (x.1 + 1) x.2.1) (g x.1 (x.2.1 - 1)) x.1 x.2.1 x.2.2.1 x.2.2.2).2) && true

set_option maxHeartbeats 2000000 in
theorem proves3_ca (w : World) (bp bd bm b8 b11 : Nat) (r : Rg) (p : Ru) (hr : r.Right) (hp : p.Right) (t8 : TypeId) (l : List Int) (vf : Vf) (b : Bool) (sh wt st : Nat) (cl : Int) (hmem : (sh, wt, st, cl) ∈ plcL r p) (hW : GoodW r p l (plcL r p) vf)
  (hsat : Sat w (· = b11) [.pt b11 [.bool b] 4] w)
  (hb8 : ∀ w', ChgP (· = b11) w w' → Blk w' b8 [.pointer (some ⟨bp, 0, none⟩)] t8)
  (hpl : ∀ w', ChgP (· = b11) w w' → PlAt w' bp bd bm r p)
  (hm : ∀ w', ChgP (· = b11) w w' → MapAt w' bm (keyF k4) eqV (jM vf)) :
  Ca Tryz.prog 93 [plcV sh wt st cl, .pointer (some ⟨b8, 0, none⟩), .pointer (some ⟨b11, 0, none⟩)] w fun _ w' => Sat w (· = b11) [.pt b11 [.bool (b && holdV r p (gV r p l) (sh, wt, st, cl))] 4] w' := by
 have h1 := hpl w (ChgP.refl _ _)
 obtain ⟨tp, hplb, hdk⟩ := h1; have hdk0 := hdk; obtain ⟨cs, bt, hblk, lo, hi, ag, cg, ad, cd, af, cf, an, cn, rfl, hg, hdr, hf, hn⟩ := hdk
 obtain ⟨h5, hwt, hst, hcl⟩ := (dA r p sh wt st cl).1 hmem
 have hw3 : wt ≤ 3 := by have := hp.waits; omega
 have hplb : ∀ w', ChgP (· = b11) w w' → Blk w' bp [.pointer (some ⟨bd, 0, none⟩), .int .i64 p.miss, .int .i64 p.click, .int .i64 p.wait, .int .i64 p.waits, .map (some bm)] tp := fun w' c => by
  obtain ⟨t', h1', _⟩ := hpl w' c
  have e := c.block bp hplb.lt (fun h => by
   subst h
   have := hsat.blk (b := bp) (.head _)
   unfold Blk at this hplb
   rw [this] at hplb
   simp at hplb)
  exact e.trans hplb
 have hch : chV r p (gvF vf (sh + 1) wt) (gvF vf sh (wt - 1)) sh wt st cl = chV r p (gV r p l (sh + 1) wt) (gV r p l sh (wt - 1)) sh wt st cl := by
  refine qN r p _ _ _ _ sh wt st cl hcl (fun h4 t c ht hc => ?_) (fun h0 t ht => ?_)
  ·show (vf ((sh + 1 : Nat) : Int) wt t c).getD 0 = _
   rw [hW.1 (sh + 1) wt t c ((dA r p _ _ _ _).2 ⟨by omega, hwt, ht, hc⟩)]; rfl
  ·show (vf sh ((wt - 1 : Nat) : Int) t cl).getD 0 = _
   rw [hW.1 sh (wt - 1) t cl ((dA r p _ _ _ _).2 ⟨by omega, by omega, ht, hcl⟩)]; rfl
 have hvx := hW.1 sh wt st cl hmem
 obtain ⟨cv, hcv⟩ : ∃ cv, cv = chV r p (gV r p l (sh + 1) wt) (gV r p l sh (wt - 1)) sh wt st cl := ⟨_, rfl⟩
 have hhold : holdV r p (gV r p l) (sh, wt, st, cl) = decide (gV r p l sh wt st cl ≤ cv.2) := by rw [hcv]; unfold holdV; simp
 rw [hhold]
 rw [← hcv] at hch
 refine dB (H := [.pt b11 [.bool b] 4]) hsat Tryz.func93 Z (by simp [Tryz.ntmps93]) ?_
 (refine aE (aB ?_))
 refine bG Z Z (fun b3 => ?_)
 (refine aF (aE (aB ?_)); refine cL V Z Z Z (by assumption) (by rfl) ?_; refine aI V Z Z Z ?_)
 refine aJ (val := .tuple #[.agg #[.bool cv.1.1, .int .i64 cv.1.2], .int .i64 cv.2]) V Z Z Z Z (fun w hs => ?_) ?_; exact by have := choose_ca w bp bd bm r p vf sh wt st cl (hpl w hs.chg) (hm w hs.chg) hr hp O hw3 hst hcl (fun _ => hW.fine _ _) (fun _ => hW.fine _ _); rw [hch] at this; exact this
 (refine aA V Z Z (bC V Z Z Z (bC V Z Z Z ?_)))
 refine aV hU Z (fun b4 => ?_)
 (refine aY V Z Z Z Z Z U Z ?_; refine aA V Z Z (aF ?_))
 cases b with
 | false =>
  refine gW 11 _ [.pt b11 _ _] (Sp.cons U (Sp.refl _)) qR qR qR fun K1 hK1 => ?_
  (refine aT V Z Z Z ?_; refine aD V Z Z Z ?_; (iterate 8 refine eD Z Z Z ?_); refine aD V Z Z Z (aK ?_))
  refine hK1 _ _ [.pt b11 _ _] (Sp.cons U (U)) ?_
  (refine lV V Z Z Z Z U ?_; refine aK ?_)
  refine q_end V Z U fun w hs => ?_
  exact hs.sp U
 | true =>
  refine gW 11 _ [.pt b11 _ _] (Sp.cons U (Sp.refl _)) qR qR qR fun K1 hK1 => ?_
  (refine aT V Z Z Z ?_; refine aD V Z Z Z (aG Z ?_); refine cP V Z Z Z (by assumption) (by rfl) ?_; refine aG Z (aD V Z Z Z (aG Z (aD V Z Z Z (aG Z ?_)))); refine cP V Z Z Z (by assumption) (by rfl) ?_; refine aG Z ?_; refine aO V Z Z Z ?_; refine aG Z ?_)
  refine qf_lookG (v := .int .i64 (gV r p l sh wt st cl)) mE lT mM Z Z Z hm (iW _ _ _ _) ((jK vf sh wt st cl).trans (by rw [hvx]; rfl)) ?_
  (refine aG Z (aD V Z Z Z (aG Z (aD V Z Z Z (aD V Z Z Z (aK ?_))))))
  refine hK1 _ _ [.pt b11 _ _] (Sp.cons U (U)) ?_
  (refine lV V Z Z Z Z U ?_; refine aK ?_)
  refine q_end V Z U fun w hs => ?_
  exact hs.sp U

theorem DL_pt (b : Nat) (cs : List Value) (t : TypeId) : DL [.pt b cs t] = (· = b) := by
 funext x
 refine propext ⟨?_, ?_⟩
 ·rintro ⟨c, hc, hb⟩
  rw [List.mem_singleton.1 hc] at hb
  exact hb
 ·rintro rfl
  exact ⟨_, .head _, Z⟩

/-- How many values there are. -/
def cntP (r : Rg) (p : Ru) : Int := 5 * (p.waits + 1) * r.drifts.length * (2 * r.clicks + 1)
theorem cntP_eq {r : Rg} {p : Ru} (hr : r.Right) (hp : p.Right) : cntP r p = ((plcL r p).length : Int) := by
 rw [pR]
 have h1 := hr.clicks
 have h3 := hp.waits
 have e1 : (((p.waits + 1).toNat : Nat) : Int) = p.waits + 1 := by omega
 have e2 : (((2 * r.clicks + 1).toNat : Nat) : Int) = 2 * r.clicks + 1 := by omega
 simp only [Int.natCast_mul, e1, e2, cntP]
 simp [Int.mul_assoc]
theorem cntP_bd {r : Rg} {p : Ru} (hr : r.Right) (hp : p.Right) : (0 ≤ 5 * (p.waits + 1) * (r.drifts.length : Int) ∧ 5 * (p.waits + 1) * (r.drifts.length : Int) ≤ 100) ∧ 0 ≤ 5 * (p.waits + 1) * (r.drifts.length : Int) * (2 * r.clicks + 1) ∧ 5 * (p.waits + 1) * (r.drifts.length : Int) * (2 * r.clicks + 1) ≤ 1300 := by
 have h1 := hr.clicks
 have h2 := hr.d2
 have h3 := hp.waits
 have a := bR (show 0 ≤ 5 * (p.waits + 1) ∧ 5 * (p.waits + 1) ≤ 20 by omega) (show 0 ≤ (r.drifts.length : Int) ∧ (r.drifts.length : Int) ≤ 5 by omega)
 have a' : 0 ≤ 5 * (p.waits + 1) * (r.drifts.length : Int) ∧ 5 * (p.waits + 1) * (r.drifts.length : Int) ≤ 100 := by omega
 have b := bR a' (show 0 ≤ 2 * r.clicks + 1 ∧ 2 * r.clicks + 1 ≤ 13 by omega)
 exact ⟨a', by omega⟩
/-- What values prove. -/
def costV (r : Rg) (p : Ru) (g : Nat → Nat → Nat → Int → Int) : Int := cV (fun s => r.first.getD s 0 * g 0 p.waits.toNat s 0) r.drifts.length
def eM (r : Rg) (p : Ru) (l : List Int) : (Int × Int) × Int :=
 if cH r p ≠ 0 then ((0, 0), cH r p) else if (l.length : Int) ≠ cntP r p then ((0, 0), 2) else if !(l.all (fun n => inB n 0 1000000000000000)) then ((0, 0), 3)
 else if !((plcL r p).all (holdV r p (gV r p l))) then ((0, 0), 8) else (ratioV (costV r p (gV r p l)) (cJ r 0 p.waits.toNat * r.total), 0)

theorem prov1_p (w : World) (es : List Int) : PredAt Tryz.prog tab w (.func (.func 91) #[] #[]) (aZ es) (pI 0 1000000000000000) := by
 refine ⟨_, _, _, Z, Z, fun w' hw' x hx => ?_⟩
 obtain ⟨y, hy, rfl⟩ := List.mem_map.1 hx
 refine dB (Sat.nil w' M0) Tryz.func91 Z (by simp [Tryz.ntmps91]) ?_
 (refine aE (aB (aA V Z Z (aF (aE (aB (aA V Z Z ?_)))))))
 refine aJ V Z Z Z Z (fun w hs => fW y 0 1000000000000000 w) ?_
 (refine aA V Z Z (aF (aW ?_)))
 refine aX V Z U fun w hs => ?_
 exact ⟨Z, hs.chg0⟩

set_option maxHeartbeats 4000000 in
theorem qL (w : World) (l0 h1 : Nat) (cs : List Value) (r : Rg) (p : Ru) (v : Value) (l : List Int) (h : RgC w cs r) (hsm : r.Small) (hl : RdI w l0 h1 v l) (hlen : l.length ≤ 1000000) : Ca Tryz.prog 33 [.agg cs.toArray, .agg #[.int .i64 p.miss, .int .i64 p.click, .int .i64 p.wait, .int .i64 p.waits], v] w fun v w' =>
  v = .tuple #[rtV (eM r p l).1, .int .i64 (eM r p l).2] ∧ Chg [] w w' := by
 have h0 := h
 have s2 := hsm.drifts
 obtain ⟨lo, hi, ag, cg, ad, cd, af, cf, an, cn, rfl, hg, hdr, hf, hn⟩ := h
 obtain ⟨av, cv, rfl, hsd⟩ := hl.outI
 refine dB (Sat.nil w M0) Tryz.func33 Z (by simp [Tryz.ntmps33]) ?_
 (refine aE (aB ?_))
 refine bG Z Z (fun b3 => ?_)
 refine bG Z Z (fun b4 => ?_)
 refine bG Z Z (fun b5 => ?_)
 refine aV cO Z (fun b6 => ?_)
 (refine aA V Z Z (aF (aE (aB ?_))); (iterate 2 refine aI V Z Z Z ?_))
 by_cases hru : cH r p = 0
 ·obtain ⟨hck, hp⟩ := (fY r p).1 hru
  have hr := (bM r).1 hck
  have hcnt := cntP_bd hr hp
  have hC := hr.clicks
  have hW := hp.waits
  refine bO (β := Nat × Nat × Nat) V [] _ M0 Z Z Z Z (Sp.refl _) qS (fun w' hs => begun_ok w' _ r p (h0.keep hs.chg0) hsm hru) ?_
  rintro ⟨bp, bd, bm⟩ _ rfl
  (refine aA V Z Z (bC V Z Z Z (bC V Z Z Z ?_)))
  refine aV zero105 Z (fun b8 => ?_)
  (refine eV V Z Z Z Z U ?_; refine aA V Z Z (aF (aE (aP (aE (aB ?_))))); (iterate 3 refine aA V Z Z ?_); refine aF (aL Z (aE (aB ?_))); refine aH V Z Z Z ?_; refine aA V Z Z (aA V Z Z ?_); refine aH V Z Z Z ?_; refine bB V Z Z Z Z O O (bB V Z Z Z Z O O (aA V Z Z ?_)); refine aH V Z Z Z ?_; refine aA V Z Z (bB V Z Z Z Z O O (aA V Z Z ?_)); refine aH V Z Z Z ?_; (iterate 3 refine bB V Z Z Z Z O O ?_); refine aA V Z Z (aA V Z Z (aF ?_)))
  by_cases hn : (l.length : Int) = cntP r p
  ·rw [decide_eq_true (show (l.length : Int) = 5 * (p.waits + 1) * r.drifts.length * (2 * r.clicks + 1) from hn)]
   (refine aL Z (aE (aB ?_)); refine aH V Z Z Z ?_)
   refine aJ (val := .bool (l.all (fun n => inB n 0 1000000000000000))) V Z Z Z Z (fun w hs => ?_) ?_; exact by have := lC w l0 h1 _ _ (aZ l) (pI 0 1000000000000000) (RdE.keep hl hs.chg0) (iB _) (by simp; omega) (prov1_p w l); rw [qF] at this; exact this
   (refine aA V Z Z (aA V Z Z (aF ?_)))
   cases hall : l.all (fun n => inB n 0 1000000000000000) with
   | false =>
    (refine aM Z (aE (aB ?_)))
    refine cE #[.int .i64 0, .int .i64 0] Z qR Z ?_
    (refine aY V Z Z Z Z Z U Z ?_; refine aA V Z Z (aF (aW ?_)))
    refine aX V Z U fun w hs => ?_
    refine ⟨?_, hs.chg0⟩
    have e : eM r p l = ((0, 0), 3) := by unfold eM; rw [if_neg (by simpa using hru), if_neg (by simpa using hn), hall]; rfl
    rw [e]; rfl
   | true =>
    (refine aL Z (aR (bL (aE (aB ?_)))))
    refine aV nE Z (fun b10 => ?_)
    (refine eV V Z Z Z Z U ?_; refine aF (aE (aB ?_)); refine aH V Z Z Z ?_; refine aA V Z Z ?_)
    have hll : l.length = (plcL r p).length := by rw [cntP_eq hr hp] at hn; omega
    have hbnd : ∀ v ∈ l, 0 ≤ v ∧ v ≤ 1000000000000000 := fun v hv => bH.1 (List.all_eq_true.1 hall v hv)
    refine bO (β := Vf × Nat) (ψ := fun s v => GoodW r p l (plcL r p) s.1) (L' := fun s => prL bm b10 s) V
     (prL bm b10 ((fun _ _ _ _ => none), 0)) _ (DL (prL bm b10 ((fun _ _ _ _ => none), 0))) rfl rfl rfl rfl (Sp.cons U (Sp.cons U (Sp.refl _))) (fun b hb => hb) (fun w' hs => ?_) ?_
    ·refine (hX (σ := Vf × Nat) w' bp bd bm r p _ (fun s => prL bm b10 s) (fun pre s => s.2 = pre.length ∧ GoodW r p l pre s.1) ((fun _ _ _ _ => none), 0) _ _ _ (h0.keep hs.chg0) hr hp
      (fun w'' hc => hs.aside hc (x := .pt bp _ _) U) (fun w'' hc => hs.aside hc (x := .pt bd _ _) U) ⟨rfl, fun _ _ _ _ h => (by cases h), fun _ _ _ _ _ h => by cases h⟩ hs.self ?_).mono fun v w'' ⟨s', ⟨_, g⟩, g2⟩ => ⟨s', g, g2⟩
     rintro pre ⟨sh, wt, st, cl⟩ post ⟨vf1, k1⟩ w1 hx ⟨hI1, hI2⟩ hs1
     simp only at hI1 hI2
     subst hI1
     obtain ⟨hk, hput⟩ := hI2.put hx hll hbnd
     refine CaF.of V Z ((proves2_ca w1 bp bd bm b5 b8 b10 p _ _ _ l0 h1 _ l (vf1, pre.length) sh wt st cl hk hlen hs1.self' (fun w2 hc => hs.aside (hs1.later hc) (x := .pt b5 _ _) U) (fun w2 hc => hs.aside (hs1.later hc) (x := .pt b8 _ _) U) (fun w2 hc => hs.aside (hs1.later hc) (x := .pt bp _ _) U) (fun w2 hc => RdE.keep hl (hs.asideOld (hs1.later hc)))).mono ?_)
     rintro v w2 g
     exact ⟨(updF vf1 sh wt st cl l[pre.length], pre.length + 1), ⟨by simp, hput⟩, g⟩
    rintro ⟨vf, k1⟩ v hGW
    (refine aF (aE (aB ?_)))
    refine aV zero4 Z (fun b11 => ?_)
    (refine eV V Z Z Z Z U ?_; refine aF (aE (aB ?_)); refine aH V Z Z Z ?_; refine aA V Z Z ?_)
    refine bO (β := Bool) (ψ := fun b v => b = (plcL r p).all (holdV r p (gV r p l))) (L' := fun b => [.pt b11 [.bool b] 4]) V
     [.pt b11 [.bool true] 4] _ (DL [.pt b11 [.bool true] 4]) rfl rfl rfl rfl (Sp.cons U (Sp.refl _)) (fun b hb => hb) (fun w' hs => ?_) ?_
    ·refine (hX (σ := Bool) w' bp bd bm r p _ (fun b => [.pt b11 [.bool b] 4]) (fun pre b => b = pre.all (holdV r p (gV r p l))) true _ _ _ (h0.keep hs.chg0) hr hp
      (fun w'' hc => hs.aside hc (x := .pt bp _ _) U) (fun w'' hc => hs.aside hc (x := .pt bd _ _) U) rfl hs.self ?_).mono fun v w'' ⟨s', g, g2⟩ => ⟨s', g, g2⟩
     rintro pre ⟨sh, wt, st, cl⟩ post b w1 hx hI hs1
     have hlat : ∀ w2, ChgP (· = b11) w1 w2 → ChgP (DL [.pt b11 [.bool true] 4]) w' w2 := fun w2 hc => hs1.later (by rw [DL_pt]; exact hc)
     have hs1' := hs1.self'
     rw [DL_pt] at hs1'
     refine CaF.of V Z ((proves3_ca w1 bp bd bm b8 b11 r p hr hp _ l vf b sh wt st cl (by rw [hx]; simp) hGW hs1' (fun w2 hc => hs.aside (hlat w2 hc) (x := .pt b8 _ _) U) (fun w2 hc => ⟨_, hs.aside (hlat w2 hc) (x := .pt bp _ _) U, _, _, hs.aside (hlat w2 hc) (x := .pt bd _ _) U, h0.keep (hs.asideOld (hlat w2 hc))⟩) (fun w2 hc => hs.aside (hlat w2 hc) (x := mpV bm vf) U)).mono ?_)
     rintro v w2 g
     exact ⟨b && holdV r p (gV r p l) (sh, wt, st, cl), by simp [hI, List.all_append], by rw [DL_pt]; exact g⟩
    rintro b v hb
    (refine aF (aE (aE (aB ?_))); refine aH V Z Z Z ?_; refine aA V Z Z (aF ?_))
    cases hhold : (plcL r p).all (holdV r p (gV r p l)) with
    | false =>
     rw [hhold] at hb
     subst hb
     (refine aM Z (aE (aB ?_)))
     refine cE #[.int .i64 0, .int .i64 0] Z qR Z ?_
     (refine aY V Z Z Z Z Z U Z ?_; refine aA V Z Z (aF (aW ?_)))
     refine aX V Z U fun w hs => ?_
     refine ⟨?_, hs.chg0⟩
     have e : eM r p l = ((0, 0), 8) := by unfold eM; rw [if_neg (by simpa using hru), if_neg (by simpa using hn), hall, hhold]; rfl
     rw [e]; rfl
    | true =>
     rw [hhold] at hb
     subst hb
     (refine aL Z (aR (aE (aB (aA V Z Z ?_)))); refine aH V Z Z Z ?_)
     refine cE #[.int .i64 0, .int .i64 p.waits, .int .i64 0, .int .i64 0] Z qR Z ?_
     refine aV zero110 Z (fun b12 => ?_)
     (refine aY V Z Z Z Z Z U Z ?_; refine aF (aE (aB ?_)); refine aH V Z Z Z ?_; refine aI V Z Z Z ?_)
     have hwt : ((p.waits.toNat : Nat) : Int) = p.waits := by omega
     have hw3 : p.waits.toNat ≤ 3 := by omega
     refine aJ (val := .int .i64 (cJ r 0 p.waits.toNat)) V Z Z Z Z (fun w hs => ?_) ?_; exact by have := parts_ca w bp bd bm r p 0 p.waits.toNat 0 0 ⟨_, hs.blk (b := bp) U, _, _, hs.blk (b := bd) U, h0.keep hs.chg0⟩ hr O hw3; rw [hwt] at this; exact this
     (refine aA V Z Z (aA V Z Z (aF (aE (aE (aB (aA V Z Z ?_)))))); refine aH V Z Z Z ?_; refine aA V Z Z (aA V Z Z (aF (aP ?_))))
     have hpt := hZ r hr 0 p.waits.toNat hw3
     have hfl : r.first.length = r.drifts.length := hr.first
     have hD := hr.d2
     have hg0 : ∀ t, 0 ≤ gV r p l 0 p.waits.toNat t 0 ∧ gV r p l 0 p.waits.toNat t 0 ≤ 1000000000000000 := fun t => by
      unfold gV
      by_cases hq : idxP r p (0, p.waits.toNat, t, 0) < l.length
      ·have := hbnd _ (List.getElem_mem hq)
       simpa [hq] using this
      ·simp [List.getElem?_eq_none (by omega : l.length ≤ idxP r p (0, p.waits.toNat, t, 0))]
     have htt := hr.total
     have hf0 : ∀ t, 0 ≤ r.first.getD t 0 ∧ r.first.getD t 0 ≤ 12 := fun t => by
      by_cases hq : t < r.first.length
      ·have := hr.chance _ (List.getElem_mem hq)
       simp [hq]; omega
      ·simp [List.getElem?_eq_none (by omega : r.first.length ≤ t)]
     have hcost := fun k => mK (fun s => r.first.getD s 0 * gV r p l 0 p.waits.toNat s 0) (12 * 1000000000000000) k (fun i _ => bR (hf0 i) (hg0 i))
     refine bN (σ := Nat × Int) (fun s => s.1 ≤ r.drifts.length) (fun s => r.drifts.length - s.1) (fun s => [(3, .pointer (some ⟨b3, 0, none⟩)), (6, .pointer (some ⟨b6, 0, none⟩)), (8, .pointer (some ⟨b8, 0, none⟩)), (12, .pointer (some ⟨b12, 0, none⟩)), (13, .int .i64 (cJ r 0 p.waits.toNat)), (14, .int .i64 (cV (fun s => r.first.getD s 0 * gV r p l 0 p.waits.toNat s 0) s.1)), (67, .slice af r.first.length cf), (68, .int .i64 r.first.length), (69, .int .i64 s.1)])
      (fun s => [.pt b12 [.int .i64 0, .int .i64 p.waits, .int .i64 s.2, .int .i64 0] 110, mpV bm vf, .pt b8 [.pointer (some ⟨bp, 0, none⟩)] 105, .pt bp [.pointer (some ⟨bd, 0, none⟩), .int .i64 p.miss, .int .i64 p.click, .int .i64 p.wait, .int .i64 p.waits, .map (some bm)] 113, .pt b6 [.int .i64 0, .int .i64 0] 36, .pt b3 [.int .i64 r.radius, .int .i64 r.unit, .int .i64 r.clicks, .int .i64 r.total, .slice ag r.group.length cg, .slice ad r.drifts.length cd, .slice af r.first.length cf, .slice an r.next.length cn] 25]) (0, 0) (by simp) ⟨rfl, rfl, rfl, rfl, rfl, rfl, rfl, rfl, rfl, trivial⟩ U ?_
     rintro ⟨k, s⟩ hk K hK
     simp only at hk
     have hck := hcost k
     have hck1 := hcost (k + 1)
     dsimp only
     (refine aE (aB (aA V Z Z (aF (aE ?_)))))
     refine dD Z (fun hc => ?_) (fun hc => ?_)
     ·have hk2 : k < r.first.length := by omega
      obtain ⟨af', cf', hsl, hfd⟩ := RdI.outI hf
      cases hsl
      obtain ⟨bf, off, rfl⟩ := hfd O
      have he : r.first.getD k 0 = r.first[k] := by simp [hk2]
      have hm2 := bR (hf0 k) (hg0 k)
      have hsu : cV (fun s => r.first.getD s 0 * gV r p l 0 p.waits.toNat s 0) (k + 1) = cV (fun s => r.first.getD s 0 * gV r p l 0 p.waits.toNat s 0) k + r.first[k] * gV r p l 0 p.waits.toNat k 0 := by rw [cV, he]
      rw [he] at hm2
      (refine aR (aE (aP (aE (aB (aA V Z Z ?_))))))
      (refine bW V Z Z Z Z Z O O ?_; refine cI V Z Z Z (fun w hs => RdI.at (RdE.keep hf hs.chg0) k hk2) ?_)
      (refine aA V Z Z (aA V Z Z (aF (aE (aB (aA V Z Z (aA V Z Z ?_)))))); refine ql_st2 V Z Z Z Z U ?_; refine aF ?_)
      refine bX _ [] (Sp.refl _) qR qR ?_
      (refine aD V Z Z Z (aD V Z Z Z ?_); refine aT V Z Z Z ?_; refine aD V Z Z Z (aD V Z Z Z ?_); refine aT V Z Z Z ?_; refine aO V Z Z Z ?_)
      have hvf : vf 0 p.waits k 0 = some (gV r p l 0 p.waits.toNat k 0) := by
       have := hGW.1 0 p.waits.toNat k 0 ((dA r p _ _ _ _).2 ⟨by omega, by omega, by omega, by omega⟩)
       rw [hwt] at this
       exact this
      refine qf_look (v := .int .i64 (gV r p l 0 p.waits.toNat k 0)) mE lT mM Z Z Z (f := jM vf) U (iW _ _ _ _) ((jK vf 0 p.waits k 0).trans (by rw [hvf]; rfl)) ?_
      (refine bY V Z Z Z Z O O (bY V Z Z Z Z O O (aD V Z Z Z (aK (bL (aB (bB V Z Z Z Z O O (aA V Z Z (aF ?_)))))))))
      exact hK (k + 1, (k : Int)) _ _ (by simp only; omega) (by simp only; omega) ⟨Z, Z, Z, Z, Z, fE Z hsu.symm, Z, Z, Z, trivial⟩ U
     ·obtain rfl : k = r.drifts.length := by omega
      have hcv : costV r p (gV r p l) = cV (fun s => r.first.getD s 0 * gV r p l 0 p.waits.toNat s 0) r.drifts.length := rfl
      have hcb : 0 ≤ costV r p (gV r p l) ∧ costV r p (gV r p l) ≤ 12 * 1000000000000000 * (r.drifts.length : Int) := hcost r.drifts.length
      rw [← hcv]
      have hmul : 1 ≤ cJ r 0 p.waits.toNat * r.total ∧ cJ r 0 p.waits.toNat * r.total ≤ 42998169600 := by
       have a := bR (show 0 ≤ cJ r 0 p.waits.toNat ∧ cJ r 0 p.waits.toNat ≤ 3583180800 by omega) (show 0 ≤ r.total ∧ r.total ≤ 12 by omega)
       have b : 1 * 1 ≤ cJ r 0 p.waits.toNat * r.total := Int.mul_le_mul hpt.1 htt.1 O O
       omega
      (refine bJ _ Z (aE (aB ?_)); (iterate 3 refine aA V Z Z ?_); refine aH V Z Z Z ?_; refine bB V Z Z Z Z O O ?_)
      refine aJ (val := rtV (ratioV (costV r p (gV r p l)) (cJ r 0 p.waits.toNat * r.total))) V Z Z Z Z (fun w hs => ?_) ?_; exact nD _ _ w O O O O
      (refine aY V Z Z Z Z Z U Z ?_; refine aA V Z Z (aF (aW ?_)))
      refine aX V Z U fun w hs => ?_
      refine ⟨?_, hs.chg0⟩
      have e : eM r p l = (ratioV (costV r p (gV r p l)) (cJ r 0 p.waits.toNat * r.total), 0) := by unfold eM; rw [if_neg (by simpa using hru), if_neg (by simpa using hn), hall, hhold]; rfl
      rw [e]; rfl
  ·rw [decide_eq_false (show ¬ (l.length : Int) = 5 * (p.waits + 1) * r.drifts.length * (2 * r.clicks + 1) from hn)]
   (refine aM Z (aE (aB ?_)))
   refine cE #[.int .i64 0, .int .i64 0] Z qR Z ?_
   (refine aY V Z Z Z Z Z U Z ?_; refine aA V Z Z (aF (aW ?_)))
   refine aX V Z U fun w hs => ?_
   refine ⟨?_, hs.chg0⟩
   have e : eM r p l = ((0, 0), 2) := by unfold eM; rw [if_neg (by simpa using hru), if_pos hn]
   rw [e]; rfl
 ·refine aJ (val := .tuple #[.pointer none, .int .i64 (cH r p)]) V Z Z Z Z (fun w hs => ?_) ?_; exact begun_no w _ r p (h0.keep hs.chg0) hsm hru
  (refine aA V Z Z (bC V Z Z Z (bC V Z Z Z ?_)))
  refine aV zero105 Z (fun b8 => ?_)
  (refine eV V Z Z Z Z U ?_; refine aA V Z Z (aF (aE (aP (aE (aB ?_))))); (iterate 3 refine aA V Z Z ?_); refine aF ?_)
  rw [decide_eq_false hru]
  (refine aM Z (aE (aB ?_)))
  refine cE #[.int .i64 0, .int .i64 0] Z qR Z ?_
  (refine aA V Z Z ?_; refine aY V Z Z Z Z Z U Z ?_; refine aA V Z Z (aF (aW ?_)))
  refine aX V Z U fun w hs => ?_
  refine ⟨?_, hs.chg0⟩
  have e : eM r p l = ((0, 0), cH r p) := by unfold eM; rw [if_pos hru]
  rw [e]; rfl

end Go.Proofs.YtohlillcaadidaaGreat

/- Walks: Choose. -/
namespace Go.Proofs.YtohlillcaadidaaGreat
open Go Go.Eng

def chzV (c : Bool × Int) : Value := .agg #[.bool c.1, .int .i64 c.2]
/-- The best choice of a situation, or the error. -/
def cZ (r : Rg) (p : Ru) (shot waits state click : Int) : (Bool × Int) × Int :=
 if cH r p ≠ 0 then ((false, 0), cH r p) else if !inB shot 0 4 then ((false, 0), 1) else if !inB state 0 ((r.drifts.length : Int) - 1) then ((false, 0), 1)
 else if !inB waits 0 p.waits then ((false, 0), 3) else if !inB click (-r.clicks) r.clicks then ((false, 0), 3) else ((jW r p shot.toNat waits.toNat state.toNat click).1, 0)

/-- The best choice, where the map holds all values. -/
theorem choose_full (w : World) (bp bd bm : Nat) (r : Rg) (p : Ru) (vf : Vf) (shot wt st : Nat) (cl : Int) (h : PlAt w bp bd bm r p) (hm : MapAt w bm (keyF k4) eqV (jM vf)) (hr : r.Right) (hp : p.Right) (hgood : GoodV r p vf) (hfull : ∀ sh wt st cl, (sh, wt, st, cl) ∈ plcL r p → (vf sh wt st cl).isSome = true)
  (h5 : shot < 5) (hw : (wt : Int) ≤ p.waits) (hst : st < r.drifts.length) (hcl : -r.clicks ≤ cl ∧ cl ≤ r.clicks) :
  Ca Tryz.prog 94 [.pointer (some ⟨bp, 0, none⟩), plcV shot wt st cl] w fun v w' =>
   v = .tuple #[chzV (jW r p shot wt st cl).1, .int .i64 (jW r p shot wt st cl).2] ∧ Chg [] w w' := by
 have hw3 : wt ≤ 3 := by have := hp.waits; omega
 have hch : chV r p (gvF vf (shot + 1) wt) (gvF vf shot (wt - 1)) shot wt st cl = jW r p shot wt st cl := by
  unfold jW
  refine qN r p _ _ _ _ shot wt st cl hcl (fun h4 t c ht hc => ?_) (fun h0 t ht => ?_)
  ·show (vf ((shot + 1 : Nat) : Int) wt t c).getD 0 = _
   rw [hgood.at (hfull _ _ _ _ ((dA r p _ _ _ _).2 ⟨by omega, hw, ht, hc⟩))]; rfl
  ·show (vf shot ((wt - 1 : Nat) : Int) t cl).getD 0 = _
   rw [hgood.at (hfull _ _ _ _ ((dA r p _ _ _ _).2 ⟨by omega, by omega, ht, hcl⟩))]; rfl
 have := choose_ca w bp bd bm r p vf shot wt st cl h hm hr hp O hw3 hst hcl (fun _ => mZ hr hp hgood hw) (fun _ => mZ hr hp hgood O)
 rw [hch] at this
 exact this

set_option maxHeartbeats 4000000 in
theorem jU (w : World) (cs : List Value) (r : Rg) (p : Ru) (shot waits state click : Int) (h : RgC w cs r) (hsm : r.Small) : Ca Tryz.prog 34 [.agg cs.toArray, .agg #[.int .i64 p.miss, .int .i64 p.click, .int .i64 p.wait, .int .i64 p.waits], .int .i64 shot, .int .i64 waits, .int .i64 state, .int .i64 click] w fun v w' =>
  v = .tuple #[chzV (cZ r p shot waits state click).1, .int .i64 (cZ r p shot waits state click).2] ∧ Chg [] w w' := by
 have h0 := h
 have s2 := hsm.drifts
 obtain ⟨lo, hi, ag, cg, ad, cd, af, cf, an, cn, rfl, hg, hdr, hf, hn⟩ := h
 refine dB (Sat.nil w M0) Tryz.func34 Z (by simp [Tryz.ntmps34]) ?_
 (refine aE (aB ?_))
 refine bG Z Z (fun b6 => ?_)
 refine bG Z Z (fun b7 => ?_)
 refine aV hU Z (fun b12 => ?_)
 (refine aA V Z Z (aF (aE (aB ?_))); (iterate 2 refine aI V Z Z Z ?_))
 by_cases hru : cH r p = 0
 ·obtain ⟨hck, hp⟩ := (fY r p).1 hru
  have hr := (bM r).1 hck
  have hC := hr.clicks
  have hW := hp.waits
  refine bO (β := Nat × Nat × Nat) V [] _ M0 Z Z Z Z (Sp.refl _) qS (fun w' hs => begun_ok w' _ r p (h0.keep hs.chg0) hsm hru) ?_
  rintro ⟨bp, bd, bm⟩ _ rfl
  (refine aA V Z Z (bC V Z Z Z (bC V Z Z Z (aA V Z Z (aA V Z Z (aF (aE (aP (aE (aB ?_))))))))); (iterate 3 refine aA V Z Z ?_); refine aF (aL Z (aE (aB (aA V Z Z ?_)))))
  refine aJ (val := .bool (inB shot 0 4)) V Z Z Z Z (fun w hs => ?_) ?_; exact fW _ _ _ w
  (refine aA V Z Z (aA V Z Z ?_))
  cases c1 : inB shot 0 4 with
  | false =>
   ((iterate 7 refine bA Z Z Z ?_); refine aA V Z Z (aA V Z Z (aF (aM Z (aE (aB ?_))))))
   refine cE #[.bool false, .int .i64 0] Z qR Z ?_
   (refine aY V Z Z Z Z Z U Z ?_; refine aA V Z Z (aF (aW ?_)))
   refine aX V Z U fun w hs => ?_
   refine ⟨?_, hs.chg0⟩
   have e : cZ r p shot waits state click = ((false, 0), 1) := by unfold cZ; rw [if_neg (by simpa using hru), c1]; rfl
   rw [e]; rfl
  | true =>
   (refine aC Z (aA V Z Z (aC Z (aA V Z Z (aC Z ?_)))); refine aH V Z Z Z ?_; refine aC Z (aA V Z Z (aC Z (bB V Z Z Z Z O O (aC Z ?_)))))
   refine aJ (val := .bool (inB state 0 ((r.drifts.length : Int) - 1))) V Z Z Z Z (fun w hs => ?_) ?_; exact fW _ _ _ w
   (refine aC Z ?_; (iterate 3 refine aA V Z Z ?_); refine aF ?_)
   cases c2 : inB state 0 ((r.drifts.length : Int) - 1) with
   | false =>
    (refine aM Z (aE (aB ?_)))
    refine cE #[.bool false, .int .i64 0] Z qR Z ?_
    (refine aY V Z Z Z Z Z U Z ?_; refine aA V Z Z (aF (aW ?_)))
    refine aX V Z U fun w hs => ?_
    refine ⟨?_, hs.chg0⟩
    have e : cZ r p shot waits state click = ((false, 0), 1) := by unfold cZ; rw [if_neg (by simpa using hru), c1, c2]; rfl
    rw [e]; rfl
   | true =>
    (refine aL Z (aE (aB (aA V Z Z (aA V Z Z ?_)))); refine aH V Z Z Z ?_)
    refine aJ (val := .bool (inB waits 0 p.waits)) V Z Z Z Z (fun w hs => ?_) ?_; exact fW _ _ _ w
    (refine aA V Z Z (aA V Z Z ?_))
    cases c3 : inB waits 0 p.waits with
    | false =>
     ((iterate 8 refine bA Z Z Z ?_); refine aA V Z Z (aA V Z Z (aF (aM Z (aE (aB ?_))))))
     refine cE #[.bool false, .int .i64 0] Z qR Z ?_
     (refine aY V Z Z Z Z Z U Z ?_; refine aA V Z Z (aF (aW ?_)))
     refine aX V Z U fun w hs => ?_
     refine ⟨?_, hs.chg0⟩
     have e : cZ r p shot waits state click = ((false, 0), 3) := by unfold cZ; rw [if_neg (by simpa using hru), c1, c2, c3]; rfl
     rw [e]; rfl
    | true =>
     (refine aC Z (aA V Z Z (aC Z (aA V Z Z (aC Z ?_)))); refine aH V Z Z Z ?_; refine aC Z (fJ V Z Z O O (aC Z (aA V Z Z (aC Z ?_)))); refine aH V Z Z Z ?_; refine aC Z ?_)
     refine aJ (val := .bool (inB click (-r.clicks) r.clicks)) V Z Z Z Z (fun w hs => ?_) ?_; exact fW _ _ _ w
     (refine aC Z ?_; (iterate 3 refine aA V Z Z ?_); refine aF ?_)
     cases c4 : inB click (-r.clicks) r.clicks with
     | false =>
      (refine aM Z (aE (aB ?_)))
      refine cE #[.bool false, .int .i64 0] Z qR Z ?_
      (refine aY V Z Z Z Z Z U Z ?_; refine aA V Z Z (aF (aW ?_)))
      refine aX V Z U fun w hs => ?_
      refine ⟨?_, hs.chg0⟩
      have e : cZ r p shot waits state click = ((false, 0), 3) := by unfold cZ; rw [if_neg (by simpa using hru), c1, c2, c3, c4]; rfl
      rw [e]; rfl
     | true =>
      have i1 := bH.1 c1
      have i2 := bH.1 c2
      have i3 := bH.1 c3
      have i4 := bH.1 c4
      (refine aL Z (aR (bL (aE (aB (aA V Z Z ?_))))))
      refine bO (β := Vf) (ψ := fun vf' v => GoodV r p vf' ∧ ∀ sh wt st cl, (sh, wt, st, cl) ∈ plcL r p → (vf' sh wt st cl).isSome = true) (L' := fun vf' => [mpV bm vf']) V
       [mpV bm (fun _ _ _ _ => none)] _ (· = bm) rfl rfl rfl rfl (Sp.cons U (Sp.refl _)) (fun b hb => ⟨_, .head _, hb⟩) (fun w' hs => (fill_ca w' bp bd bm r p hr hp (fun _ _ _ _ => none) ⟨_, hs.blk (b := bp) U, _, _, hs.blk (b := bd) U, h0.keep hs.chg0⟩ (hs.mem (show mpV bm (fun _ _ _ _ => none) ∈ _ from .head _)) (fun _ _ _ _ _ h => by cases h)).mono fun v w'' ⟨vf', _, g1, g2, g3⟩ => ⟨vf', ⟨g1, g2⟩, g3⟩) ?_
      rintro vf v ⟨hgood, hfull⟩
      (refine aF (aE (aB ?_)); (iterate 5 refine aA V Z Z ?_))
      refine cE #[.int .i64 shot, .int .i64 waits, .int .i64 state, .int .i64 click] Z qR Z ?_
      refine aJ (val := .tuple #[.agg #[.bool (jW r p shot.toNat waits.toNat state.toNat click).1.1, .int .i64 (jW r p shot.toNat waits.toNat state.toNat click).1.2], .int .i64 (jW r p shot.toNat waits.toNat state.toNat click).2]) V Z Z Z Z (fun w hs => ?_) ?_; exact by have := choose_full w bp bd bm r p vf shot.toNat waits.toNat state.toNat click ⟨_, hs.blk (b := bp) U, _, _, hs.blk (b := bd) U, h0.keep hs.chg0⟩ (hs.mem (show mpV bm vf ∈ _ from by repeat constructor)) hr hp hgood hfull O O O i4; rw [show ((shot.toNat : Nat) : Int) = shot by omega, show ((waits.toNat : Nat) : Int) = waits by omega, show ((state.toNat : Nat) : Int) = state by omega] at this; exact this
      (refine aA V Z Z (bC V Z Z Z (bC V Z Z Z ?_)))
      refine aV hU Z (fun b16 => ?_)
      (refine aY V Z Z Z Z Z U Z ?_; refine aA V Z Z (aF (aE (aB ?_))); refine aI V Z Z Z ?_; refine aY V Z Z Z Z Z U Z ?_; refine aA V Z Z (aF (aW ?_)))
      refine aX V Z U fun w hs => ?_
      refine ⟨?_, hs.chg0⟩
      have e : cZ r p shot waits state click = ((jW r p shot.toNat waits.toNat state.toNat click).1, 0) := by unfold cZ; rw [if_neg (by simpa using hru), c1, c2, c3, c4]; rfl
      rw [e]; rfl
 ·refine aJ (val := .tuple #[.pointer none, .int .i64 (cH r p)]) V Z Z Z Z (fun w hs => ?_) ?_; exact begun_no w _ r p (h0.keep hs.chg0) hsm hru
  (refine aA V Z Z (bC V Z Z Z (bC V Z Z Z (aA V Z Z (aA V Z Z (aF (aE (aP (aE (aB ?_))))))))); (iterate 3 refine aA V Z Z ?_); refine aF ?_)
  rw [decide_eq_false hru]
  (refine aM Z (aE (aB ?_)))
  refine cE #[.bool false, .int .i64 0] Z qR Z ?_
  (refine aA V Z Z ?_; refine aY V Z Z Z Z Z U Z ?_; refine aA V Z Z (aF (aW ?_)))
  refine aX V Z U fun w hs => ?_
  refine ⟨?_, hs.chg0⟩
  have e : cZ r p shot waits state click = ((false, 0), cH r p) := by unfold cZ; rw [if_pos hru]
  rw [e]; rfl

end Go.Proofs.YtohlillcaadidaaGreat

/- Walks: Follow. -/
namespace Go.Proofs.YtohlillcaadidaaGreat
open Go Go.Eng

/-- How far one is. -/
structure FoS where
 shot : Nat
 wt : Int
 cl : Int
 misses : Int
 cost : Int
 steps : Int
def jJ (r : Rg) (p : Ru) (offs : List Int) (x : FoS) (st : Int) : FoS :=
 if x.shot = 5 then x else
 let c := (jW r p x.shot x.wt.toNat st.toNat x.cl).1
 if c.1 then { x with wt := x.wt - 1, cost := x.cost + p.wait, steps := x.steps + 1 }
 else if hitB r (r.drifts.getD st.toNat 0 + offs.getD x.shot 0 + c.2 * r.unit) then { x with shot := x.shot + 1, cl := c.2, cost := x.cost + p.click * max (c.2 - x.cl) (x.cl - c.2), steps := x.steps + 1 }
 else { x with shot := x.shot + 1, cl := c.2, misses := x.misses + 1, cost := x.cost + p.click * max (c.2 - x.cl) (x.cl - c.2) + p.miss, steps := x.steps + 1 }
def endF (r : Rg) (p : Ru) (states offs : List Int) : FoS := states.foldl (jJ r p offs) ⟨0, p.waits, 0, 0, 0, 0⟩
/-- What comes of following the plan: misses, cost, steps; the error. -/
def cG (r : Rg) (p : Ru) (states offs : List Int) : (Int × Int × Int) × Int :=
 if cH r p ≠ 0 then ((0, 0, 0), cH r p) else if (offs.length : Int) ≠ 5 then ((0, 0, 0), 2) else if 5 + p.waits < (states.length : Int) then ((0, 0, 0), 2)
 else if !(states.all (fun n => inB n 0 ((r.drifts.length : Int) - 1))) then ((0, 0, 0), 1) else if !(offs.all (fun n => inB n (-((r.group.length : Int) / 2)) ((r.group.length : Int) / 2))) then ((0, 0, 0), 3)
 else if (endF r p states offs).shot < 5 then ((0, 0, 0), 6) else (((endF r p states offs).misses, (endF r p states offs).cost, (endF r p states offs).steps), 0)

theorem cho_wait {r : Rg} {p : Ru} {shot wt st : Nat} {cl : Int} (h : (jW r p shot wt st cl).1.1 = true) : 0 < wt ∧ (jW r p shot wt st cl).1.2 = 0 := by
 revert h
 unfold jW chV
 simp only
 split
 ·split
  ·intro _; exact ⟨by assumption, rfl⟩
  ·intro h; cases h
 ·intro h; cases h
theorem cho_click {r : Rg} {p : Ru} {shot wt st : Nat} {cl : Int} (hc : -r.clicks ≤ cl ∧ cl ≤ r.clicks) (h : (jW r p shot wt st cl).1.1 = false) : -r.clicks ≤ (jW r p shot wt st cl).1.2 ∧ (jW r p shot wt st cl).1.2 ≤ r.clicks := by
 have h2 := (lR r p (iU r p (shot + 1) wt) shot wt st cl hc).2.1
 revert h
 unfold jW chV
 simp only
 split
 ·split
  ·intro h; cases h
  ·intro _; exact h2
 ·intro _; exact h2

structure FOk (r : Rg) (p : Ru) (k : Nat) (x : FoS) : Prop where
 shot : x.shot ≤ 5
 wt : 0 ≤ x.wt ∧ x.wt ≤ p.waits
 cl : -r.clicks ≤ x.cl ∧ x.cl ≤ r.clicks
 misses : 0 ≤ x.misses ∧ x.misses ≤ k
 cost : 0 ≤ x.cost ∧ x.cost ≤ 20000 * k
 steps : 0 ≤ x.steps ∧ x.steps ≤ k
theorem stepF_ok {r : Rg} {p : Ru} (hr : r.Right) (hp : p.Right) {offs : List Int} {k : Nat} {x : FoS} (h : FOk r p k x) (st : Int) : FOk r p (k + 1) (jJ r p offs x st) := by
 have h1 := h.shot
 have h2 := h.wt
 have h3 := h.cl
 have h4 := h.misses
 have h5 := h.cost
 have h6 := h.steps
 have hC := hr.clicks
 have w1 := hp.wait
 have w2 := hp.miss
 unfold jJ
 split
 ·exact ⟨h1, h2, h3, by omega, by omega, by omega⟩
 ·rename_i hn
  simp only
  split
  ·rename_i hw
   have := (cho_wait hw).1
   refine ⟨h1, ?_, h3, ?_, ?_, ?_⟩ <;> simp only <;> omega
  ·rename_i hw
   have hcl := cho_click (r := r) (p := p) (shot := x.shot) (wt := x.wt.toNat) (st := st.toNat) h3 (by simpa using hw)
   have hfar := far_bd hC.2 h3 hcl
   have a1 := bR hp.click hfar
   split <;> refine ⟨?_, ?_, hcl, ?_, ?_, ?_⟩ <;> simp only <;> omega
theorem takeF_ok {r : Rg} {p : Ru} (hr : r.Right) (hp : p.Right) (states offs : List Int) : ∀ k, k ≤ states.length → FOk r p k ((states.take k).foldl (jJ r p offs) ⟨0, p.waits, 0, 0, 0, 0⟩)
 | 0, _ => by
  have h1 := hr.clicks
  have h2' : 0 ≤ p.waits ∧ p.waits ≤ p.waits := ⟨hp.waits.1, Int.le_refl _⟩
  exact ⟨by simp, h2' , by simp; omega, by simp, by simp, by simp⟩
 | k + 1, h => by
  rw [List.take_succ_eq_append_getElem O, List.foldl_append]
  exact stepF_ok hr hp (takeF_ok hr hp states offs k O) _
theorem stepF_5 {r : Rg} {p : Ru} {offs : List Int} (l : List Int) {x : FoS} (h : x.shot = 5) : l.foldl (jJ r p offs) x = x := by
 induction l with
 | nil => rfl
 | cons a l ih => rw [List.foldl_cons, show jJ r p offs x a = x by unfold jJ; rw [if_pos h], ih]

theorem follow1_p (w : World) (b : Nat) (t : TypeId) (r : Rg) (cs : List Value) (es : List Int) (hb : Blk w b cs t) (a : Option Addr) (c : Nat) (hc : cs[5]? = some (.slice a r.drifts.length c)) (hs : r.drifts.length ≤ 1000000) : PredAt Tryz.prog tab w (.func (.func 96) #[] #[.pointer (some ⟨b, 0, none⟩)]) (aZ es) (pI 0 ((r.drifts.length : Int) - 1)) := by
 refine ⟨_, _, _, Z, Z, fun w' hw' x hx => ?_⟩
 have hb' := hb.keep hw'
 obtain ⟨y, hy, rfl⟩ := List.mem_map.1 hx
 refine dB (Sat.nil w' M0) Tryz.func96 Z (by simp [Tryz.ntmps96]) ?_
 (refine aE (aB (aA V Z Z (aF (aE (aB (aA V Z Z (aA V Z Z ?_))))))))
 refine eN V Z Z Z hb' hc ?_
 (refine aA V Z Z (bB V Z Z Z Z O O ?_))
 refine aJ V Z Z Z Z (fun w hs => fW y 0 ((r.drifts.length : Int) - 1) w) ?_
 (refine aA V Z Z (aF (aW ?_)))
 refine aX V Z U fun w hs => ?_
 exact ⟨Z, hs.chg0⟩
theorem follow2_p (w : World) (b : Nat) (t : TypeId) (far : Int) (es : List Int) (hb : Blk w b [.int .i64 far] t) (hf : 0 ≤ far ∧ far ≤ 1000000) : PredAt Tryz.prog tab w (.func (.func 97) #[] #[.pointer (some ⟨b, 0, none⟩)]) (aZ es) (pI (-far) far) := by
 refine ⟨_, _, _, Z, Z, fun w' hw' x hx => ?_⟩
 have hb' := hb.keep hw'
 obtain ⟨y, hy, rfl⟩ := List.mem_map.1 hx
 refine dB (Sat.nil w' M0) Tryz.func97 Z (by simp [Tryz.ntmps97]) ?_
 (refine aE (aB (aA V Z Z (aF (aE (aB (aA V Z Z ?_)))))); refine eN V Z Z Z (by assumption) (by rfl) ?_; refine fJ V Z Z O O ?_; refine eN V Z Z Z (by assumption) (by rfl) ?_)
 refine aJ V Z Z Z Z (fun w hs => fW y (-far) far w) ?_
 (refine aA V Z Z (aF (aW ?_)))
 refine aX V Z U fun w hs => ?_
 exact ⟨Z, hs.chg0⟩

theorem chc_flat : oN Tryz.prog 74 [none, some .i64] = true := by kernel_rfl

set_option maxHeartbeats 4000000 in
theorem cK (w : World) (l0 h1 l2 h2 : Nat) (cs : List Value) (r : Rg) (p : Ru) (vs vo : Value) (states offs : List Int) (h : RgC w cs r) (hsm : r.Small) (hl : RdI w l0 h1 vs states) (hu : RdI w l2 h2 vo offs) (hlen : states.length ≤ 1000000) (hlen2 : offs.length ≤ 1000000) :
  Ca Tryz.prog 35 [.agg cs.toArray, .agg #[.int .i64 p.miss, .int .i64 p.click, .int .i64 p.wait, .int .i64 p.waits], vs, vo] w fun v w' =>
  v = .tuple #[.agg #[.int .i64 (cG r p states offs).1.1, .int .i64 (cG r p states offs).1.2.1, .int .i64 (cG r p states offs).1.2.2], .int .i64 (cG r p states offs).2] ∧ Chg [] w w' := by
 have h0 := h
 have s2 := hsm.drifts
 have s1 := hsm.group
 obtain ⟨lo, hi, ag, cg, ad, cd, af, cf, an, cn, rfl, hg, hdr, hf, hn⟩ := h
 obtain ⟨av, cv, rfl, hsd⟩ := hl.outI
 obtain ⟨ao, co, rfl, hod⟩ := hu.outI
 refine dB (Sat.nil w M0) Tryz.func35 Z (by simp [Tryz.ntmps35]) ?_
 (refine aE (aB ?_))
 refine bG Z Z (fun b4 => ?_)
 refine bG Z Z (fun b5 => ?_)
 refine aV fB Z (fun b8 => ?_)
 (refine aA V Z Z (aF ?_))
 refine q_scope (fun l a w h => h) ?_
 (refine aE (aB ?_); (iterate 2 refine aI V Z Z Z ?_))
 by_cases hru : cH r p = 0
 ·obtain ⟨hck, hp⟩ := (fY r p).1 hru
  have hr := (bM r).1 hck
  have hC := hr.clicks
  have hW := hp.waits
  have hD := hr.d2
  refine bO (β := Nat × Nat × Nat) V [] _ M0 Z Z Z Z (Sp.refl _) qS (fun w' hs => begun_ok w' _ r p (h0.keep hs.chg0) hsm hru) ?_
  rintro ⟨bp, bd, bm⟩ _ rfl
  (refine aA V Z Z (bC V Z Z Z (bC V Z Z Z (aA V Z Z (aA V Z Z (aF (aE (aB (aA V Z Z ?_)))))))); refine aH V Z Z Z ?_; refine aA V Z Z (iR Z Z Z O O O ?_))
  refine aV nE Z (fun b12 => ?_)
  (refine eV V Z Z Z Z U ?_; refine aF (aE (aP (aE (aB ?_)))); (iterate 3 refine aA V Z Z ?_); refine aF (aL Z (aE (aB ?_))); (iterate 4 refine aA V Z Z ?_))
  by_cases ho : (offs.length : Int) = 5
  ·rw [decide_eq_true ho]
   (refine aC Z (aA V Z Z (aC Z (aA V Z Z (aC Z (aA V Z Z (aC Z ?_)))))); refine aH V Z Z Z ?_; refine aC Z (bB V Z Z Z Z O O (aC Z ?_)); (iterate 3 refine aA V Z Z ?_); refine aF ?_)
   by_cases hn : 5 + p.waits < (states.length : Int)
   ·rw [decide_eq_true hn]
    (refine aM Z (aE (aB ?_)))
    refine cE #[.int .i64 0, .int .i64 0, .int .i64 0] Z qR Z ?_
    (refine aY V Z Z Z Z Z U Z ?_; refine aA V Z Z (aF (aW ?_)))
    refine aX V Z U fun w hs => ?_
    refine ⟨?_, hs.chg0⟩
    have e : cG r p states offs = ((0, 0, 0), 2) := by unfold cG; rw [if_neg (by simpa using hru), if_neg (by simpa using ho), if_pos hn]
    rw [e]; rfl
   rw [decide_eq_false hn]
   (refine aL Z (aE (aB (aA V Z Z (aA V Z Z ?_)))))
   refine aJ (val := .bool (states.all (fun n => inB n 0 ((r.drifts.length : Int) - 1)))) V Z Z Z Z (fun w hs => ?_) ?_; exact by have := lC w l0 h1 _ _ (aZ states) (pI 0 ((r.drifts.length : Int) - 1)) (RdE.keep hl hs.chg0) (iB _) (by simp; omega) (follow1_p w b4 _ r _ states (hs.blk U) ad cd Z O); rw [qF] at this; exact this
   (refine aA V Z Z (aA V Z Z (aF ?_)))
   cases hall : states.all (fun n => inB n 0 ((r.drifts.length : Int) - 1)) with
   | false =>
    (refine aM Z (aE (aB ?_)))
    refine cE #[.int .i64 0, .int .i64 0, .int .i64 0] Z qR Z ?_
    (refine aY V Z Z Z Z Z U Z ?_; refine aA V Z Z (aF (aW ?_)))
    refine aX V Z U fun w hs => ?_
    refine ⟨?_, hs.chg0⟩
    have e : cG r p states offs = ((0, 0, 0), 1) := by unfold cG; rw [if_neg (by simpa using hru), if_neg (by simpa using ho), if_neg hn, hall]; rfl
    rw [e]; rfl
   | true =>
    (refine aL Z (aE (aB (aA V Z Z (aA V Z Z ?_)))))
    refine aJ (val := .bool (offs.all (fun n => inB n (-((r.group.length : Int) / 2)) ((r.group.length : Int) / 2)))) V Z Z Z Z (fun w hs => ?_) ?_; exact by have := lC w l2 h2 _ _ (aZ offs) (pI (-((r.group.length : Int) / 2)) ((r.group.length : Int) / 2)) (RdE.keep hu hs.chg0) (iB _) (by simp; omega) (follow2_p w b12 _ _ offs (hs.blk U) O); rw [qF] at this; exact this
    (refine aA V Z Z (aA V Z Z (aF ?_)))
    cases hall2 : offs.all (fun n => inB n (-((r.group.length : Int) / 2)) ((r.group.length : Int) / 2)) with
    | false =>
     (refine aM Z (aE (aB ?_)))
     refine cE #[.int .i64 0, .int .i64 0, .int .i64 0] Z qR Z ?_
     (refine aY V Z Z Z Z Z U Z ?_; refine aA V Z Z (aF (aW ?_)))
     refine aX V Z U fun w hs => ?_
     refine ⟨?_, hs.chg0⟩
     have e : cG r p states offs = ((0, 0, 0), 3) := by unfold cG; rw [if_neg (by simpa using hru), if_neg (by simpa using ho), if_neg hn, hall, hall2]; rfl
     rw [e]; rfl
    | true =>
     (refine aL Z (aR (bL (aE (aB (aA V Z Z ?_))))))
     refine bO (β := Vf) (ψ := fun vf' v => GoodV r p vf' ∧ ∀ sh wt st cl, (sh, wt, st, cl) ∈ plcL r p → (vf' sh wt st cl).isSome = true) (L' := fun vf' => [mpV bm vf']) V
      [mpV bm (fun _ _ _ _ => none)] _ (· = bm) rfl rfl rfl rfl (Sp.cons U (Sp.refl _)) (fun b hb => ⟨_, .head _, hb⟩) (fun w' hs => (fill_ca w' bp bd bm r p hr hp (fun _ _ _ _ => none) ⟨_, hs.blk (b := bp) U, _, _, hs.blk (b := bd) U, h0.keep hs.chg0⟩ (hs.mem (show mpV bm (fun _ _ _ _ => none) ∈ _ from .head _)) (fun _ _ _ _ _ h => by cases h)).mono fun v w'' ⟨vf', _, g1, g2, g3⟩ => ⟨vf', ⟨g1, g2⟩, g3⟩) ?_
     rintro vf v ⟨hgood, hfull⟩
     (refine aF (aE (aB ?_)))
     refine aV fB Z (fun b13 => ?_)
     (refine aF (aE (aB (aA V Z Z ?_))); refine aH V Z Z Z ?_)
     refine cE #[.int .i64 0, .int .i64 p.waits, .int .i64 0, .int .i64 0] Z qR Z ?_
     refine aV zero110 Z (fun b14 => ?_)
     (refine aY V Z Z Z Z Z U Z ?_; refine aF (aE (q_label (aE (aE (aB ?_))))); (iterate 3 refine aA V Z Z ?_); refine aF (aP ?_))
     have hst5 : (states.length : Int) ≤ 8 := by omega
     refine bN (σ := Nat × Int × FoS) (fun s => s.1 ≤ states.length ∧ s.2.2 = (states.take s.1).foldl (jJ r p offs) ⟨0, p.waits, 0, 0, 0, 0⟩) (fun s => states.length - s.1)
      (fun s => [(3, .slice ao offs.length co), (4, .pointer (some ⟨b4, 0, none⟩)), (5, .pointer (some ⟨b5, 0, none⟩)), (8, .pointer (some ⟨b8, 0, none⟩)), (10, .pointer (some ⟨bp, 0, none⟩)), (13, .pointer (some ⟨b13, 0, none⟩)), (14, .pointer (some ⟨b14, 0, none⟩)), (64, .slice av states.length cv), (65, .int .i64 states.length), (66, .int .i64 s.1)])
      (fun s => [.pt b14 [.int .i64 s.2.2.shot, .int .i64 s.2.2.wt, .int .i64 s.2.1, .int .i64 s.2.2.cl] 110, .pt b13 [.int .i64 s.2.2.misses, .int .i64 s.2.2.cost, .int .i64 s.2.2.steps] 78, mpV bm vf, .pt bp [.pointer (some ⟨bd, 0, none⟩), .int .i64 p.miss, .int .i64 p.click, .int .i64 p.wait, .int .i64 p.waits, .map (some bm)] 113,
       .pt bd [.int .i64 r.radius, .int .i64 r.unit, .int .i64 r.clicks, .int .i64 r.total, .slice ag r.group.length cg, .slice ad r.drifts.length cd, .slice af r.first.length cf, .slice an r.next.length cn] 141, .pt b8 [.int .i64 0, .int .i64 0, .int .i64 0] 78, .pt b5 [.int .i64 p.miss, .int .i64 p.click, .int .i64 p.wait, .int .i64 p.waits] 56,
       .pt b4 [.int .i64 r.radius, .int .i64 r.unit, .int .i64 r.clicks, .int .i64 r.total, .slice ag r.group.length cg, .slice ad r.drifts.length cd, .slice af r.first.length cf, .slice an r.next.length cn] 25]) (0, 0, ⟨0, p.waits, 0, 0, 0, 0⟩) ⟨by simp, rfl⟩ ⟨rfl, rfl, rfl, rfl, rfl, rfl, rfl, rfl, rfl, rfl, trivial⟩ U ?_
     rintro ⟨k, z, sh, wt, cl, mi, co', st'⟩ ⟨hk, hx⟩ K hK
     simp only at hk hx
     have hfo := takeF_ok hr hp states offs k hk
     rw [← hx] at hfo
     have f1 := hfo.shot
     have f2 := hfo.wt
     have f3 := hfo.cl
     have f4 := hfo.misses
     have f5 := hfo.cost
     have f6 := hfo.steps
     simp only at f1 f2 f3 f4 f5 f6
     dsimp only
     (refine aE (aB (aA V Z Z (aF (aE ?_)))))
     refine dD Z (fun hc => ?_) (fun hc => ?_)
     ·have hk2 : k < states.length := by omega
      clear hc
      obtain ⟨av', cv', hsl, hvd⟩ := RdI.outI hl
      cases hsl
      obtain ⟨bv, ov, rfl⟩ := hvd O
      obtain ⟨ad', cd', hsl, hdd⟩ := RdI.outI hdr
      cases hsl
      obtain ⟨bdr, odr, rfl⟩ := hdd (by have := hr.d1; omega)
      obtain ⟨ao', co2, hsl, hod2⟩ := RdI.outI hu
      cases hsl
      obtain ⟨bo, oo, rfl⟩ := hod2 O
      have hsk := bH.1 (List.all_eq_true.1 hall _ (List.getElem_mem hk2))
      obtain ⟨sn, hsn⟩ : ∃ sn : Nat, states[k] = (sn : Int) := ⟨states[k].toNat, by omega⟩
      have hsd2 : sn < r.drifts.length := by omega
      (refine aR (aE (aP (aE (aB ?_)))))
      (refine bW V Z Z Z Z Z O O ?_; refine cI V Z Z Z (fun w hs => RdI.at (RdE.keep hl hs.chg0) k hk2) ?_)
      (refine aA V Z Z (aF (aE (aE (aB (aA V Z Z ?_))))); refine aH V Z Z Z ?_; refine aA V Z Z (aF ?_))
      by_cases h5 : sh = 5
      ·rw [decide_eq_true (show (sh : Int) = 5 by omega)]
       have hend : endF r p states offs = ⟨sh, wt, cl, mi, co', st'⟩ := by
        unfold endF
        rw [← List.take_append_drop k states, List.foldl_append, ← hx]
        exact stepF_5 _ h5
       (refine aM Z (bJ _ Z (aE (aE (aB (aA V Z Z ?_))))); refine aH V Z Z Z ?_; refine aA V Z Z (aF ?_))
       refine dD Z (fun hc => ?_) (fun hc => ?_)
       ·(refine aE (aB ?_))
        refine cE #[.int .i64 0, .int .i64 0, .int .i64 0] Z qR Z ?_
        (refine aY V Z Z Z Z Z U Z ?_; refine aA V Z Z (aF (aW ?_)))
        refine aX V Z U fun w hs => ?_
        refine ⟨?_, hs.chg0⟩
        have e : cG r p states offs = ((0, 0, 0), 6) := by unfold cG; rw [if_neg (by simpa using hru), if_neg (by simpa using ho), if_neg hn, hall, hall2, hend]; exact if_pos (by show sh < 5; omega)
        rw [e]; rfl
       ·(refine aR (aE (aB ?_)); refine aI V Z Z Z ?_; refine aY V Z Z Z Z Z U Z ?_; refine aA V Z Z (aF (aW ?_)))
        refine aX V Z U fun w hs => ?_
        refine ⟨?_, hs.chg0⟩
        have e : cG r p states offs = ((mi, co', st'), 0) := by unfold cG; rw [if_neg (by simpa using hru), if_neg (by simpa using ho), if_neg hn, hall, hall2, hend]; exact if_neg (by show ¬ sh < 5; omega)
        rw [e]; rfl
      rw [decide_eq_false (show ¬ (sh : Int) = 5 by omega)]
      obtain ⟨ch, hch⟩ : ∃ ch, ch = jW r p sh wt.toNat sn cl := ⟨_, rfl⟩
      have hstep : (states.take (k + 1)).foldl (jJ r p offs) ⟨0, p.waits, 0, 0, 0, 0⟩ = jJ r p offs ⟨sh, wt, cl, mi, co', st'⟩ (sn : Int) := by
       rw [List.take_succ_eq_append_getElem hk2, List.foldl_append, ← hx, hsn]
       rfl
      have hsh : sh < offs.length := by omega
      (refine aL Z (aR (aE (aB (aA V Z Z (aA V Z Z ?_))))); refine ql_st2 V Z Z Z Z U ?_; refine aF (aE (aB (aA V Z Z ?_))); refine aI V Z Z Z ?_)
      rw [hsn]
      refine aJ (val := .tuple #[.agg #[.bool ch.1.1, .int .i64 ch.1.2], .int .i64 ch.2]) V Z Z Z Z (fun w hs => ?_) ?_; exact by have := choose_full w bp bd bm r p vf sh wt.toNat sn cl ⟨_, hs.blk (b := bp) U, _, _, hs.blk (b := bd) U, h0.keep hs.chg0⟩ (hs.mem (show mpV bm vf ∈ _ from by repeat constructor)) hr hp hgood hfull O O hsd2 f3; rw [← hch, show ((wt.toNat : Nat) : Int) = wt by omega] at this; exact this
      (refine aA V Z Z (bC V Z Z Z (bC V Z Z Z ?_)))
      refine aV hU Z (fun b17 => ?_)
      (refine aY V Z Z Z Z Z U Z ?_; refine aA V Z Z (aF (aE (aB (aA V Z Z ?_)))); refine aH V Z Z Z ?_; refine bB V Z Z Z Z O O (aA V Z Z ?_); refine ql_st2 V Z Z Z Z U ?_; refine aF (aE (aE (aB ?_))); refine aI V Z Z Z ?_)
      refine cE #[.bool true, .int .i64 0] Z qR Z ?_
      refine qD (xs := [.bool ch.1.1, .int .i64 ch.1.2]) (ys := [.bool true, .int .i64 0]) [none, some .i64] chc_flat Z Z Z Z Z ?_
      (refine aF ?_)
      cases hcw : ch.1.1 with
      | true =>
       have hw0 := cho_wait (by rw [← hch]; exact hcw)
       rw [← hch] at hw0
       rw [hw0.2]
       have e1 : jJ r p offs ⟨sh, wt, cl, mi, co', st'⟩ (sn : Int) = ⟨sh, wt - 1, cl, mi, co' + p.wait, st' + 1⟩ := by
        unfold jJ
        rw [if_neg h5]
        simp only [Int.toNat_natCast]
        rw [← hch, if_pos hcw]
       have w1 := hp.wait
       (refine aM Z (aE (aB (aA V Z Z ?_))); refine aH V Z Z Z ?_; refine bB V Z Z Z Z O O (aA V Z Z ?_); refine ql_st1 V Z Z Z Z U ?_; refine aF (aE (aB (aA V Z Z ?_))); refine aH V Z Z Z ?_; refine aA V Z Z ?_; refine aH V Z Z Z ?_; refine bB V Z Z Z Z O O (aA V Z Z ?_); refine ql_st1 V Z Z Z Z U ?_; refine aF (bJ _ Z (aB (bB V Z Z Z Z O O (aA V Z Z (aF ?_))))))
       exact hK (k + 1, sn, ⟨sh, wt - 1, cl, mi, co' + p.wait, st' + 1⟩) _ _ ⟨by simp only; omega, by simp only; rw [hstep, e1]⟩ (by simp only; omega) ⟨Z, Z, Z, Z, Z, Z, Z, Z, Z, Z, trivial⟩ U
      | false =>
       have hcl := cho_click (r := r) (p := p) (shot := sh) (wt := wt.toNat) (st := sn) f3 (by rw [← hch]; exact hcw)
       rw [← hch] at hcl
       have hfar := far_bd hC.2 f3 hcl
       have a1 := bR hp.click hfar
       have hdb := hr.drift _ (List.getElem_mem hsd2)
       have hob := bH.1 (List.all_eq_true.1 hall2 _ (List.getElem_mem hsh))
       have hg2 := hr.g2
       have hun := hr.unit
       have a2 := gK (show -6 ≤ ch.1.2 ∧ ch.1.2 ≤ 6 by omega) (show -20 ≤ r.unit ∧ r.unit ≤ 20 by omega)
       have hgd : r.drifts.getD sn 0 = r.drifts[sn] := by simp [hsd2]
       have hgo : offs.getD sh 0 = offs[sh] := by simp [hsh]
       have w1 := hp.miss
       (refine aL Z (aR (aE (aB (aA V Z Z ?_)))); refine aH V Z Z Z ?_; refine aA V Z Z ?_; refine aH V Z Z Z ?_; refine aA V Z Z ?_; refine aH V Z Z Z ?_; refine aA V Z Z ?_; refine aH V Z Z Z ?_; refine bB V Z Z Z Z O O (aA V Z Z ?_); refine aH V Z Z Z ?_; refine aA V Z Z ?_; refine aH V Z Z Z ?_; refine bB V Z Z Z Z O O (aA V Z Z (bB V Z Z Z Z O O (bB V Z Z Z Z O O (aA V Z Z ?_)))); refine ql_st1 V Z Z Z Z U ?_; refine aF (aE (aE (aB (aA V Z Z ?_)))); refine aH V Z Z Z ?_; refine aA V Z Z ?_; refine ql_st3 V Z Z Z Z U ?_; refine aF (aE ?_))
       refine bX _ [] (Sp.refl _) qR qR ?_
       ((iterate 3 refine aD V Z Z Z ?_); refine aT V Z Z Z ?_; refine aD V Z Z Z ?_; refine aT V Z Z Z ?_; refine aD V Z Z Z ?_)
       (refine bF V Z Z Z Z Z O O ?_; refine bI V Z Z Z (fun w hs => RdI.at (RdE.keep hdr hs.chg0) sn hsd2) ?_)
       (refine aD V Z Z Z (aD V Z Z Z ?_); refine aT V Z Z Z ?_)
       (refine bF V Z Z Z Z Z O O ?_; refine bI V Z Z Z (fun w hs => RdI.at (RdE.keep hu hs.chg0) sh hsh) ?_)
       (refine bY V Z Z Z Z O O (aD V Z Z Z ?_); refine aT V Z Z Z ?_; refine aD V Z Z Z ?_; refine aT V Z Z Z ?_; refine bY V Z Z Z Z O O (bY V Z Z Z Z O O ?_))
       refine aS (val := .bool (hitB r (r.drifts[sn] + offs[sh] + ch.1.2 * r.unit))) V Z Z Z Z (fun w hs => ?_) ?_; exact hits_ca w bd r _ ⟨_, _, hs.blk (b := bd) U, h0.keep hs.chg0⟩ hr.radius
       (refine aD V Z Z Z (aK ?_))
       cases hhit : hitB r (r.drifts[sn] + offs[sh] + ch.1.2 * r.unit) with
       | true =>
        have e1 : jJ r p offs ⟨sh, wt, cl, mi, co', st'⟩ (sn : Int) = ⟨sh + 1, wt, ch.1.2, mi, co' + p.click * max (ch.1.2 - cl) (cl - ch.1.2), st' + 1⟩ := by
         unfold jJ
         rw [if_neg h5]
         simp only [Int.toNat_natCast]
         rw [← hch, if_neg (by rw [hcw]; decide), hgd, hgo, if_pos hhit]
        (refine aL Z (aR (aB (aA V Z Z ?_))); refine aH V Z Z Z ?_; refine bB V Z Z Z Z O O (aA V Z Z ?_); refine ql_st0 V Z Z Z Z U ?_; refine aF (bL (aB (bB V Z Z Z Z O O (aA V Z Z (aF ?_))))))
        exact hK (k + 1, sn, ⟨sh + 1, wt, ch.1.2, mi, co' + p.click * max (ch.1.2 - cl) (cl - ch.1.2), st' + 1⟩) _ _ ⟨by simp only; omega, by simp only; rw [hstep, e1]⟩ (by simp only; omega) ⟨Z, Z, Z, Z, Z, Z, Z, Z, Z, Z, trivial⟩ U
       | false =>
        have e1 : jJ r p offs ⟨sh, wt, cl, mi, co', st'⟩ (sn : Int) = ⟨sh + 1, wt, ch.1.2, mi + 1, co' + p.click * max (ch.1.2 - cl) (cl - ch.1.2) + p.miss, st' + 1⟩ := by
         unfold jJ
         rw [if_neg h5]
         simp only [Int.toNat_natCast]
         rw [← hch, if_neg (by rw [hcw]; decide), hgd, hgo, if_neg (by rw [hhit]; decide)]
        (refine aM Z (aE (aB (aA V Z Z ?_))); refine aH V Z Z Z ?_; refine bB V Z Z Z Z O O (aA V Z Z ?_); refine ql_st0 V Z Z Z Z U ?_; refine aF (aB (aA V Z Z ?_)); refine aH V Z Z Z ?_; refine aA V Z Z ?_; refine aH V Z Z Z ?_; refine bB V Z Z Z Z O O (aA V Z Z ?_); refine ql_st1 V Z Z Z Z U ?_; refine aF (aB (aA V Z Z ?_)); refine aH V Z Z Z ?_; refine bB V Z Z Z Z O O (aA V Z Z ?_); refine ql_st0 V Z Z Z Z U ?_; refine aF (bL (aB (bB V Z Z Z Z O O (aA V Z Z (aF ?_))))))
        exact hK (k + 1, sn, ⟨sh + 1, wt, ch.1.2, mi + 1, co' + p.click * max (ch.1.2 - cl) (cl - ch.1.2) + p.miss, st' + 1⟩) _ _ ⟨by simp only; omega, by simp only; rw [hstep, e1]⟩ (by simp only; omega) ⟨Z, Z, Z, Z, Z, Z, Z, Z, Z, Z, trivial⟩ U
     ·obtain rfl : k = states.length := by omega
      have hend : endF r p states offs = ⟨sh, wt, cl, mi, co', st'⟩ := by
       rw [List.take_of_length_le (Nat.le_refl _)] at hx
       exact hx.symm
      clear hc
      (refine bJ _ Z (aE (aE (aB (aA V Z Z ?_)))); refine aH V Z Z Z ?_; refine aA V Z Z (aF ?_))
      refine dD Z (fun hc => ?_) (fun hc => ?_)
      ·(refine aE (aB ?_))
       refine cE #[.int .i64 0, .int .i64 0, .int .i64 0] Z qR Z ?_
       (refine aY V Z Z Z Z Z U Z ?_; refine aA V Z Z (aF (aW ?_)))
       refine aX V Z U fun w hs => ?_
       refine ⟨?_, hs.chg0⟩
       have e : cG r p states offs = ((0, 0, 0), 6) := by unfold cG; rw [if_neg (by simpa using hru), if_neg (by simpa using ho), if_neg hn, hall, hall2, hend]; exact if_pos (by show sh < 5; omega)
       rw [e]; rfl
      ·(refine aR (aE (aB ?_)); refine aI V Z Z Z ?_; refine aY V Z Z Z Z Z U Z ?_; refine aA V Z Z (aF (aW ?_)))
       refine aX V Z U fun w hs => ?_
       refine ⟨?_, hs.chg0⟩
       have e : cG r p states offs = ((mi, co', st'), 0) := by unfold cG; rw [if_neg (by simpa using hru), if_neg (by simpa using ho), if_neg hn, hall, hall2, hend]; exact if_neg (by show ¬ sh < 5; omega)
       rw [e]; rfl
  ·rw [decide_eq_false ho]
   ((iterate 6 refine bA Z Z Z ?_); refine aA V Z Z (aA V Z Z (aF (aM Z (aE (aB ?_))))))
   refine cE #[.int .i64 0, .int .i64 0, .int .i64 0] Z qR Z ?_
   (refine aY V Z Z Z Z Z U Z ?_; refine aA V Z Z (aF (aW ?_)))
   refine aX V Z U fun w hs => ?_
   refine ⟨?_, hs.chg0⟩
   have e : cG r p states offs = ((0, 0, 0), 2) := by unfold cG; rw [if_neg (by simpa using hru), if_pos ho]
   rw [e]; rfl
 ·refine aJ (val := .tuple #[.pointer none, .int .i64 (cH r p)]) V Z Z Z Z (fun w hs => ?_) ?_; exact begun_no w _ r p (h0.keep hs.chg0) hsm hru
  (refine aA V Z Z (bC V Z Z Z (bC V Z Z Z (aA V Z Z (aA V Z Z (aF (aE (aB (aA V Z Z ?_)))))))); refine aH V Z Z Z ?_; refine aA V Z Z (iR Z Z Z O O O ?_))
  refine aV nE Z (fun b12 => ?_)
  (refine eV V Z Z Z Z U ?_; refine aF (aE (aP (aE (aB ?_)))); (iterate 3 refine aA V Z Z ?_); refine aF ?_)
  rw [decide_eq_false hru]
  (refine aM Z (aE (aB ?_)))
  refine cE #[.int .i64 0, .int .i64 0, .int .i64 0] Z qR Z ?_
  (refine aA V Z Z ?_; refine aY V Z Z Z Z Z U Z ?_; refine aA V Z Z (aF (aW ?_)))
  refine aX V Z U fun w hs => ?_
  refine ⟨?_, hs.chg0⟩
  have e : cG r p states offs = ((0, 0, 0), cH r p) := by unfold cG; rw [if_pos hru]
  rw [e]; rfl

end Go.Proofs.YtohlillcaadidaaGreat
